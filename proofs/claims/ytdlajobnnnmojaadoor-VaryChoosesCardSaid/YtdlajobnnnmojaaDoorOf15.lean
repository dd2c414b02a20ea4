/- The walk of the law's of (layer 15). -/
import Derived.Test.YtdlajobnnnmojaaDoorFieldSpec
import Derived.Test.YtdlajobnnnmojaaDoorOwnF
import Derived.Deep.RegionHeld3
import Derived.IntWalk
namespace Go.Proofs.YtdlajobnnnmojaaDoor
open Go.RowKit

def ofL : List (List UInt8) → List Fld
  | a :: b :: r => (a, b) :: ofL r
  | _ => []
theorem ofL_len : ∀ ls : List (List UInt8), (ofL ls).length = ls.length / 2
  | [] => rfl
  | [_] => by simp [ofL]
  | a :: b :: r => by rw [ofL, List.length_cons, ofL_len r, List.length_cons, List.length_cons]; omega
theorem ofL_at : ∀ (ls : List (List UInt8)) (k : Nat) (h : k < (ofL ls).length), ∃ (h1 : 2 * k < ls.length) (h2 : 2 * k + 1 < ls.length), (ofL ls)[k] = (ls[2 * k], ls[2 * k + 1])
  | [], k, h => by simp [ofL] at h
  | [_], k, h => by simp [ofL] at h
  | a :: b :: r, 0, h => ⟨by simp, by simp, rfl⟩
  | a :: b :: r, k + 1, h => by
    obtain ⟨h1, h2, e⟩ := ofL_at r k (by simpa [ofL] using h)
    refine ⟨by simp; omega, by simp; omega, ?_⟩
    have e1 : (a :: b :: r)[2 * (k + 1)]'(by simp; omega) = r[2 * k] := by
      simp only [show 2 * (k + 1) = 2 * k + 1 + 1 from by omega, List.getElem_cons_succ]
    have e2 : (a :: b :: r)[2 * (k + 1) + 1]'(by simp; omega) = r[2 * k + 1] := by
      simp only [show 2 * (k + 1) + 1 = (2 * k + 1) + 1 + 1 from by omega, List.getElem_cons_succ]
    rw [e1, e2, ← e]; rfl

set_option maxRecDepth 100000 in
set_option maxHeartbeats 4000000 in
theorem of15_any (A : Option Addr) (n c : Nat) (ls : List (List UInt8)) (w : World) (hr : Rd A n 1 (strsV ls) w) (hn : n ≤ 1000000) :
    Calls Tryd.prog 19 #[.slice A n c] w (FieldsPost w (ofL ls)) := by
  obtain rfl := hr.str
  have hB := Below.refl w.heap.size w
  have hlen := ofL_len ls
  have hat := ofL_at ls
  generalize ofL ls = fs at *
  have hle : 2 * fs.length ≤ ls.length := by omega
  have hle2 : ls.length ≤ 2 * fs.length + 1 := by omega
  have HR := Lib.hid hr; have HAT := Lib.hid hat; clear hr hat hlen
  go_enter Tryd.func19, Tryd.ntmps19
  go_wp2
  go_loopw [4, 3] (fun i out wr => ∃ k : Nat, k ≤ fs.length ∧ i = .int .i64 (2 * k : Nat) ∧ Hid (OwnF w.heap.size out (fs.take k) wr) ∧ Below w.heap.size w wr) (fun i _ _ => 2 * fs.length + 1 - (intOf i).toNat)
  case atStart => exact ⟨0, Nat.zero_le _, rfl, Lib.hid (OwnF.nil _ _), hB⟩
  case round =>
    clear hB
    obtain ⟨k, hk, rfl, HO, hbw⟩ := hrel
    by_cases hlt : k < fs.length
    · obtain ⟨h1, h2, hf⟩ := HAT.out k hlt
      obtain ⟨b, o, rfl, hl, c0⟩ := HR.out.str_at (k := 2 * k) h1
      obtain ⟨b', o', e, hl', c1⟩ := HR.out.str_at (k := 2 * k + 1) h2
      cases e
      have hsn := take_snocL fs k hlt
      rw [hf] at hsn
      have hlen : (fs.take k).length ≤ 1000000000 := by rw [List.length_take]; omega
      generalize ls[2 * k] = x at *
      generalize ls[2 * k + 1] = y at *
      obtain ⟨j, hj⟩ : ∃ j, 2 * k = j := ⟨_, rfl⟩
      rw [hj] at h1 h2 c0 c1 ⊢
      have HJ := Lib.hid hj
      have hjn : 2 * (k + 1) = j + 2 := by omega
      have HJN := Lib.hid hjn
      have hmeas : j + 1 ≤ 2 * fs.length := by omega
      clear hj hjn
      have kc : ∀ w', Below w.heap.size w w' → w'.cell? ⟨b, o + j, none⟩ = some (.string ⟨x.toArray⟩) ∧ w'.cell? ⟨b, o + (j + 1), none⟩ = some (.string ⟨y.toArray⟩) ∧ Below w.heap.size w w' := fun w' h => ⟨(h.cell (p := ⟨b, o + j, none⟩) hl).trans c0, (h.cell (p := ⟨b, o + (j + 1), none⟩) hl).trans c1, h⟩
      have KC := Lib.hid kc; have Hsn := Lib.hid hsn; clear kc c0 c1 hsn hf
      go_wp2_with fail
      have j0 : (0 : Int) ≤ (j : Int) := by omega
      have j1 : (j : Int) < (ls.length : Int) := by omega
      have j2 : IntKind.i64.wrap ((j : Int) + 1) = (j : Int) + 1 := IntWalk.i64_in _ (by omega)
      have j3 : (0 : Int) ≤ (j : Int) + 1 := by omega
      have j4 : (j : Int) + 1 < (ls.length : Int) := by omega
      have j5 : ((j : Int) + 1).toNat = j + 1 := by omega
      go_region_held3 (fun w' => w'.cell? ⟨b, o + j, none⟩ = some (.string ⟨x.toArray⟩) ∧ w'.cell? ⟨b, o + (j + 1), none⟩ = some (.string ⟨y.toArray⟩) ∧ Below w.heap.size w w') (first | exact KC.out _ hbw | exact KC.out _ hbw.drew | exact KC.out _ (hbw.drew.alloc hbw.size _) | exact KC.out _ hb5 | assumption) (first | (refine step_fld w.heap.size (x, y) HO.out.drew hbw.size hlen rfl _ _ rfl rfl rfl ?_; intro v' w3 hO3 hb4 _; have hb5 := hbw.drew.trans hb4) | fail)
      have HO3 : Hid (OwnF w.heap.size v' (fs.take (k + 1)) w3) := by rw [Hsn.out]; exact Lib.hid hO3
      clear hO3 j0 j1 j2 j3 j4 j5
      go_wp2
      go_roundw
      case rel => exact ⟨k + 1, by omega, by rw [HJN.out]; go_num, HO3, hb5⟩
      case measure => simp [intOf]; omega
    · have hke : k = fs.length := by omega
      subst hke
      have ho := HO.out
      rw [List.take_length] at ho
      obtain ⟨la, lc, rfl⟩ := ho.shape
      have HO1 := Lib.hid ho; clear ho HO
      go_wp2
      go_ret
      exact ⟨la, lc, rfl, HO1.out, hbw⟩
end Go.Proofs.YtdlajobnnnmojaaDoor
