/- The walk of the document's Texts. -/
import Derived.Test.YthnfmhjjpodhfaaDoorSplit
import Derived.Deep.QuietTactic
import Derived.BigQuiet
import Derived.WalkSmall
namespace Go.Proofs.YthnfmhjjpodhfaaDoor
open Go.RowKit

theorem str_beq (a b : List UInt8) : ((⟨a.toArray⟩ : ByteArray) == ⟨b.toArray⟩) = (a == b) := by
  show (a.toArray == b.toArray) = _
  simp

theorem splitL_le (sep : UInt8) (l : List UInt8) : (splitL sep l).1.length ≤ 64 := by
  unfold splitL
  cases (sep.toNat == 34 || sep.toNat == 92)
  · cases splP sep false false [] [] l with
    | none => simp [splitE]
    | some ls =>
      simp only [splitE, cond_false]
      cases h : decide (64 < ls.length)
      · simp at h ⊢; exact h
      · simp
  · simp

set_option maxHeartbeats 4000000 in
theorem texts_any (a b : Value) (xs ys : List (List UInt8)) (B C : Nat) (w : World) (ha : OwnS B a xs w) (hb : OwnS C b ys w) (h1 : xs.length ≤ 1000001) (h2 : ys.length ≤ 1000001) :
    Calls Tryd.prog 10 #[a, b] w fun e w' => e = .returned (.bool (xs == ys)) ∧ Below w.heap.size w w' := by
  obtain ⟨pa, ca, rfl⟩ := ha.shape
  obtain ⟨pb, cb, rfl⟩ := hb.shape
  have HA := Lib.hid ha; have HB := Lib.hid hb; clear ha hb
  cases hl : ((xs.length : Int) == (ys.length : Int))
  · have nl : ((xs.length : Int) != (ys.length : Int)) = true := by simp [bne, hl]
    have hr : (xs == ys) = false := by
      rw [beq_eq_false_iff_ne]; intro e; subst e; simp at hl
    have HR := Lib.hid hr; clear hr
    go_enter Tryd.func10, Tryd.ntmps10
    go_wp2
    go_ret
    rw [HR.out]
    exact ⟨rfl, Below.refl _ w⟩
  · have nl : ((xs.length : Int) != (ys.length : Int)) = false := by simp [bne, hl]
    have hle : xs.length = ys.length := by simp at hl; omega
    go_enter Tryd.func10, Tryd.ntmps10
    go_wp2
    go_loopw [5] (fun i wr => ∃ k : Nat, k ≤ xs.length ∧ i = .int .i64 k ∧ Below w.heap.size w wr ∧ Hid (xs.take k = ys.take k)) (fun i _ => xs.length - (intOf i).toNat)
    case atStart => exact ⟨0, Nat.zero_le _, rfl, Below.refl _ w, by show _ = _; rfl⟩
    case round =>
      obtain ⟨k, hk, rfl, hbw, HT⟩ := hrel
      by_cases hlt : k < xs.length
      · obtain ⟨g1, hg1, hc1, hz1⟩ := (HA.out.below hbw).cell k hlt
        obtain ⟨g2, hg2, hc2, hz2⟩ := (HB.out.below hbw).cell k (by omega)
        subst hg1; subst hg2
        have t1 : decide ((k : Int) < (ys.length : Int)) = true := by simp; omega
        have t2 : decide ((k : Int) < (xs.length : Int)) = true := by simp; omega
        have hl2 : k < ys.length := by omega
        cases hx : (xs[k] == ys[k])
        · have hr : (xs == ys) = false := by
            rw [beq_eq_false_iff_ne] at hx ⊢; intro e; subst e; exact hx rfl
          have HR := Lib.hid hr; clear hr
          go_wp2
          go_quiet (fail)
          go_wp2
          go_ret
          rw [HR.out]
          exact ⟨rfl, Go.below_drewN hbw _⟩
        · have hn : xs.take (k + 1) = ys.take (k + 1) := by
            rw [List.take_succ_eq_append_getElem hlt, List.take_succ_eq_append_getElem hl2, HT.out, beq_iff_eq.1 hx]
          have HN := Lib.hid hn; clear hn
          go_wp2
          go_quiet (fail)
          go_wp2
          go_roundw
          case rel => exact ⟨k + 1, by omega, by go_num, Go.below_drewN hbw _, HN⟩
          case measure => simp [intOf]; omega
      · have hke : k = xs.length := by omega
        subst hke
        have hr : (xs == ys) = true := by
          have := HT.out; rw [List.take_length, hle, List.take_length] at this; rw [this]; simp
        have HR := Lib.hid hr; clear hr
        have t1 : decide ((xs.length : Int) < (xs.length : Int)) = false := by simp
        go_wp2
        go_ret
        rw [HR.out]
        exact ⟨rfl, hbw⟩
end Go.Proofs.YthnfmhjjpodhfaaDoor
