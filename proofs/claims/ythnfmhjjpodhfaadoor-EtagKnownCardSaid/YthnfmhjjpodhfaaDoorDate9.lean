/- Dates: the walk of two. -/
import Derived.Test.YthnfmhjjpodhfaaDoorDate2
namespace Go.Proofs.YthnfmhjjpodhfaaDoor
open Go.RowKit
set_option maxRecDepth 100000

def dtwo (n : Int) : List UInt8 := [UInt8.ofNat (48 + n / 10 % 10).toNat, UInt8.ofNat (48 + n % 10).toNat]
set_option maxHeartbeats 4000000 in
theorem dtwo_any (n : Int) (hn : 0 ≤ n ∧ n ≤ 9999) (w : World) :
    Calls Tryd.prog 31 #[.int .i64 n] w fun e w' => e = .returned (.string ⟨(dtwo n).toArray⟩) ∧ Below w.heap.size w w' := by
  have e1 : n.tdiv 10 = n / 10 := Int.tdiv_eq_ediv_of_nonneg hn.1
  have e2 : (n / 10).tmod 10 = n / 10 % 10 := Int.tmod_eq_emod_of_nonneg (by omega)
  have e3 : n.tmod 10 = n % 10 := Int.tmod_eq_emod_of_nonneg hn.1
  obtain ⟨a, ha⟩ : ∃ a : Nat, (a : Int) = n / 10 % 10 := ⟨(n / 10 % 10).toNat, by omega⟩
  obtain ⟨b, hb⟩ : ∃ b : Nat, (b : Int) = n % 10 := ⟨(n % 10).toNat, by omega⟩
  have ha9 : a ≤ 9 := by omega
  have hb9 : b ≤ 9 := by omega
  have hx : dtwo n = [UInt8.ofNat (48 + a), UInt8.ofNat (48 + b)] := by
    unfold dtwo
    rw [← ha, ← hb]
    congr 2
  rw [hx]
  have w0 : IntKind.i64.wrap (n / 10) = n / 10 := by rw [IntKind.wrap_i64]; omega
  have w1 : IntKind.i64.wrap (48 + (a : Int)) = 48 + (a : Int) := by rw [IntKind.wrap_i64]; omega
  have w2 : IntKind.i64.wrap (48 + (b : Int)) = 48 + (b : Int) := by rw [IntKind.wrap_i64]; omega
  have w3 : IntKind.u8.wrap (48 + (a : Int)) = 48 + (a : Int) := by rw [IntKind.wrap_u8]; omega
  have w4 : IntKind.u8.wrap (48 + (b : Int)) = 48 + (b : Int) := by rw [IntKind.wrap_u8]; omega
  have u1 : n / 10 % 10 = (a : Int) := ha.symm
  have u2 : n % 10 = (b : Int) := hb.symm
  rw [u1] at e2
  rw [u2] at e3
  clear hx ha hb
  have t1 : (UInt8.ofNat (48 + a)).toNat = 48 + a := by rw [UInt8.toNat_ofNat']; omega
  have t2 : (UInt8.ofNat (48 + b)).toNat = 48 + b := by rw [UInt8.toNat_ofNat']; omega
  generalize UInt8.ofNat (48 + a) = c1 at *
  generalize UInt8.ofNat (48 + b) = c2 at *
  have hcv : (convert 74 9 (.slice (some ⟨w.heap.size, 0, none⟩) 2 2)).run Tryd.prog (w.alloc (.cells #[.int .u8 (48 + (a : Int)), .int .u8 (48 + (b : Int))] 5 (0, 0))) = .ok (.string ⟨#[c1, c2]⟩) (w.alloc (.cells #[.int .u8 (48 + (a : Int)), .int .u8 (48 + (b : Int))] 5 (0, 0))) := by
    refine run_convert_bytes_back (P := Tryd.prog) _ 74 9 5 ⟨w.heap.size, 0, none⟩ 2 [c1, c2] Tryd.underlying74 Tryd.underlying5 Tryd.underlying9 ?_
    intro j hj
    rw [Addr.add_lit, Nat.zero_add, World.cell?_alloc_mark]
    match j, hj with
    | 0, _ => simp [t1]
    | 1, _ => simp [t2]
  clear t1 t2
  go_enter Tryd.func31, Tryd.ntmps31
  go_wp2
  go_ret
  exact ⟨rfl, (Below.refl _ w).alloc (Nat.le_refl _) _⟩
end Go.Proofs.YthnfmhjjpodhfaaDoor
