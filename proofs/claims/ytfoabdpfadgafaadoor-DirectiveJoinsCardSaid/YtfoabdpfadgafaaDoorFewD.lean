/- The walk of the law's few (layer 11). -/
import Derived.Test.YtfoabdpfadgafaaDoorDirSpec
import Derived.IntWalk
namespace Go.Proofs.YtfoabdpfadgafaaDoor
open Go.RowKit
set_option maxRecDepth 100000

def fewD (vs : List (List UInt8)) : Bool := (vs.take 30).all (fun v => decide (v.length ≤ 2000)) && decide (vs.length ≤ 20)
theorem fewD_yes {vs : List (List UInt8)} (h : fewD vs = true) : vs.length ≤ 20 ∧ ∀ v ∈ vs, v.length ≤ 2000 := by
  unfold fewD at h
  rw [Bool.and_eq_true, decide_eq_true_eq, List.all_eq_true] at h
  obtain ⟨h1, h2⟩ := h
  rw [List.take_of_length_le (by omega)] at h1
  exact ⟨h2, fun v hv => by simpa using h1 v hv⟩

set_option maxHeartbeats 4000000 in
theorem fewD_any (A : Option Addr) (n c : Nat) (vs : List (List UInt8)) (w : World) (hr : Rd A n 1 (strsV vs) w) :
    Calls Tryd.prog 13 #[.slice A n c] w fun e w' => e = .returned (.bool (fewD vs)) ∧ w = w' := by
  obtain rfl := hr.str
  have hbad : ∀ k (h : k < vs.length), k < 30 → 2000 < vs[k].length → fewD vs = false := by
    intro k h h30 hl
    unfold fewD
    rw [Bool.and_eq_false_iff]
    left
    rw [List.all_eq_false]
    refine ⟨vs[k], ?_, by simpa using hl⟩
    rw [List.mem_take_iff_getElem]
    exact ⟨k, by omega, rfl⟩
  have hgood : ∀ k, (∀ v ∈ vs.take k, v.length ≤ 2000) → (k = vs.length ∨ 30 ≤ k) → fewD vs = decide ((vs.length : Int) ≤ 20) := by
    intro k h hk
    unfold fewD
    rw [show (vs.take 30).all (fun v => decide (v.length ≤ 2000)) = true from by
      rw [List.all_eq_true]; intro v hv
      have : v ∈ vs.take k := by
        rw [List.mem_take_iff_getElem] at hv ⊢
        obtain ⟨i, hi, e⟩ := hv
        exact ⟨i, by omega, e⟩
      simpa using h v this, Bool.true_and]
    rw [Bool.eq_iff_iff]; simp; omega
  have hsn : ∀ k (h : k < vs.length), (∀ v ∈ vs.take k, v.length ≤ 2000) → vs[k].length ≤ 2000 → ∀ v ∈ vs.take (k + 1), v.length ≤ 2000 := by
    intro k h h1 h2 v hv
    rw [List.take_succ_eq_append_getElem h, List.mem_append, List.mem_singleton] at hv
    rcases hv with hv | rfl
    · exact h1 v hv
    · exact h2
  have HR := Lib.hid hr; have HBAD := Lib.hid hbad; have HG := Lib.hid hgood; have HSN := Lib.hid hsn
  clear hr hbad hgood hsn
  generalize fewD vs = out at *
  go_enter Tryd.func13, Tryd.ntmps13
  go_wp2
  go_loopw [3] (fun i wr => ∃ k : Nat, k ≤ vs.length ∧ i = .int .i64 k ∧ Hid (∀ v ∈ vs.take k, v.length ≤ 2000) ∧ k ≤ 30 ∧ wr = w) (fun i _ => vs.length - (intOf i).toNat)
  case atStart => exact ⟨0, Nat.zero_le _, rfl, Lib.hid (by simp), by omega, rfl⟩
  case round =>
    obtain ⟨k, hk, rfl, HE, h30, rfl⟩ := hrel
    by_cases hlt : k < vs.length ∧ k < 30
    · obtain ⟨hlt, hk30⟩ := hlt
      obtain ⟨b, o, rfl, hl, c1⟩ := HR.out.str_at (k := k) hlt
      have hbd := HBAD.out k hlt hk30
      have hsn := HSN.out k hlt HE.out
      have z1 : (⟨(vs[k]).toArray⟩ : ByteArray).size = vs[k].length := by rw [Lib.size_eq]
      generalize vs[k] = v at *
      by_cases hbig : 2000 < v.length
      · have ho := hbd hbig
        subst ho
        clear HBAD HSN HG HE hsn hbd
        go_wp2
        go_ret
        exact ⟨rfl, rfl⟩
      · have HE2 := Lib.hid (hsn (by omega))
        clear HBAD HSN HG HE hsn hbd
        go_wp2
        go_roundw
        case rel => exact ⟨k + 1, by omega, by go_num, HE2, by omega, trivial⟩
        case measure => simp [intOf]; omega
    · have ho := HG.out k HE.out (by omega)
      subst ho
      clear HBAD HSN HG HE
      by_cases hl : k < vs.length
      · go_wp2
        go_ret
        exact ⟨rfl, rfl⟩
      · go_wp2
        go_ret
        exact ⟨rfl, rfl⟩
end Go.Proofs.YtfoabdpfadgafaaDoor
