/- The walk of the law's told (layer 11). -/
import Derived.Test.YtfoabdpfadgafaaDoorDList
namespace Go.Proofs.YtfoabdpfadgafaaDoor
open Go.RowKit
set_option maxRecDepth 100000

def toldP (b : Bool) (d : Dir) : List UInt8 := (bif b then [32] else []) ++ (d.name ++ (bif d.has then 61 :: d.value else []))
def toldS (b : Bool) : List Dir → List UInt8
  | [] => []
  | d :: r => toldP b d ++ toldS true r
theorem toldS_snoc : ∀ (xs : List Dir) (b : Bool) (d : Dir), toldS b (xs ++ [d]) = toldS b xs ++ toldP (b || !xs.isEmpty) d
  | [], b, d => by simp [toldS]
  | x :: r, b, d => by
    rw [List.cons_append, toldS, toldS, toldS_snoc r true d]
    simp
theorem toldS_take (xs : List Dir) (k : Nat) (h : k < xs.length) : toldS false (xs.take (k + 1)) = toldS false (xs.take k) ++ toldP (decide ((k : Int) > 0)) xs[k] := by
  rw [List.take_succ_eq_append_getElem h, toldS_snoc]
  congr 2
  cases k with
  | zero => rfl
  | succ j =>
    cases xs with
    | nil => simp at h
    | cons x r => simp

set_option maxHeartbeats 8000000 in
theorem told_any (A : Option Addr) (n c : Nat) (vs : List (List UInt8)) (w : World) (hM : MaxL w) (hr : Rd A n 1 (strsV vs) w) (hn : n ≤ 10000) (hs : ∀ v ∈ vs, v.length ≤ 1000000) (hx : (dlistL vs).length ≤ 1000 ∧ ∀ d ∈ dlistL vs, d.name.length ≤ 1000 ∧ d.value.length ≤ 1000) :
    Calls Tryd.prog 24 #[.slice A n c] w fun e w' => e = .returned (.string ⟨(toldS false (dlistL vs)).toArray⟩) ∧ Below w.heap.size w w' := by
  have k1 := dlist_any A n c vs w hM hr hn hs
  generalize dlistL vs = xs at *
  obtain ⟨hxl, hxs⟩ := hx
  have hsn := toldS_take xs
  have h00 : toldS false (xs.take 0) = [] := rfl
  have hfin : toldS false (xs.take xs.length) = toldS false xs := by rw [List.take_length]
  have K1 := Lib.hid k1; have HXS := Lib.hid hxs; have HSN := Lib.hid hsn; have H00 := Lib.hid h00; have HFIN := Lib.hid hfin
  clear k1 hxs hsn h00 hfin hr hM hs
  go_enter Tryd.func24, Tryd.ntmps24
  go_wp2_with fail
  refine K1.out.mono ?_
  rintro e w1 ⟨a1, c1, rfl, ho1, hb1⟩
  have HR := Lib.hid ho1.rd.2
  clear ho1 K1
  go_wp2_with fail
  go_loopw [5, 3] (fun i out wr => ∃ k : Nat, k ≤ xs.length ∧ i = .int .i64 k ∧ (∃ o : ByteArray, out = .string o ∧ Hid (o.data.toList = toldS false (xs.take k)) ∧ o.size ≤ 2002 * k) ∧ wr = w1) (fun i _ _ => xs.length - (intOf i).toNat)
  case atStart => exact ⟨0, Nat.zero_le _, rfl, ⟨⟨#[]⟩, rfl, Lib.hid (by rw [H00.out]), by decide⟩, rfl⟩
  case round =>
    clear H00
    obtain ⟨k, hk, rfl, ⟨acc, rfl, HA, hsz⟩, rfl⟩ := hrel
    by_cases hlt : k < xs.length
    · obtain ⟨b, o, rfl, hl, x0, x1, x2, x3⟩ := HR.out.dir_at (k := k) hlt
      have hd := HXS.out xs[k] (List.getElem_mem _)
      have hsn := HSN.out k hlt
      generalize xs[k] = d at *
      obtain ⟨dn, dv, dh, df⟩ := d
      simp only at x0 x1 x2 x3 hd
      have z1 : (⟨dn.toArray⟩ : ByteArray).size ≤ 1000 := by rw [Lib.size_eq]; exact hd.1
      have z2 : (⟨dv.toArray⟩ : ByteArray).size ≤ 1000 := by rw [Lib.size_eq]; exact hd.2
      rw [← HA.out] at hsn
      have HSN2 := Lib.hid hsn
      clear hsn hd HSN HXS HFIN HA
      obtain ⟨bn, hbn⟩ : ∃ bn : ByteArray, (⟨dn.toArray⟩ : ByteArray) = bn := ⟨_, rfl⟩
      obtain ⟨bv, hbv⟩ : ∃ bv : ByteArray, (⟨dv.toArray⟩ : ByteArray) = bv := ⟨_, rfl⟩
      have hdn : dn = bn.data.toList := by rw [← hbn]
      have hdv : dv = bv.data.toList := by rw [← hbv]
      rw [hbn] at x0 z1
      rw [hbv] at x1 z2
      subst hdn; subst hdv
      clear hbn hbv
      have zs : (⟨#[32]⟩ : ByteArray).size = 1 := rfl
      have ze : (⟨#[61]⟩ : ByteArray).size = 1 := rfl
      have zd : (⟨#[32]⟩ : ByteArray).data.toList = [32] := rfl
      have zf : (⟨#[61]⟩ : ByteArray).data.toList = [61] := rfl
      have hqq : (decide (0 < k) = true ∧ decide ((k : Int) > 0) = true) ∨ (decide (0 < k) = false ∧ decide ((k : Int) > 0) = false) := by
        by_cases hz : 0 < k
        · left; exact ⟨decide_eq_true hz, decide_eq_true (by omega)⟩
        · right; exact ⟨decide_eq_false hz, decide_eq_false (by omega)⟩
      rcases hqq with ⟨q0, q1⟩ | ⟨q0, q1⟩
      all_goals rw [q1] at HSN2
      all_goals cases dh
      all_goals (
        go_wp2
        go_roundw
        case rel =>
          refine ⟨k + 1, by omega, by go_num, ⟨_, rfl, Lib.hid ?_, ?_⟩, trivial⟩
          · rw [HSN2.out]; simp [toldP]
          · simp only [ByteArray.size_append]; omega
        case measure => simp [intOf]; omega)
    · have hke : k = xs.length := by omega
      subst hke
      have hA := HA.out
      rw [HFIN.out] at hA
      have t1 : decide ((xs.length : Int) < (xs.length : Int)) = false := by simp
      have HV := Lib.hid hA
      clear HSN HXS HFIN HA hA
      go_wp2
      go_ret
      exact ⟨(by rw [← HV.out, str_of]; exact rfl), hb1⟩
end Go.Proofs.YtfoabdpfadgafaaDoor
