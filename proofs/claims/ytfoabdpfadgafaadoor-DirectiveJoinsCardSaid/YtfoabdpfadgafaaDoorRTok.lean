/- The walks of the document's Letter, In, Token. -/
import Derived.Test.YtfoabdpfadgafaaDoorToken
namespace Go.Proofs.YtfoabdpfadgafaaDoor
open Go.RowKit

set_option maxHeartbeats 1000000 in
theorem rletter_any (c : UInt8) (w : World) :
    Calls Tryd.prog 90 #[.int .u8 c.toNat] w fun e w' => e = .returned (.bool (letterb c)) ∧ w = w' := by
  rw [letter_eq]
  have hu := c.toNat_lt
  generalize c.toNat = n at *
  unfold letterI
  cases h3 : decide (65 ≤ (n : Int)) <;> cases h4 : decide ((n : Int) ≤ 90) <;> cases h1 : decide (97 ≤ (n : Int)) <;> cases h2 : decide ((n : Int) ≤ 122) <;> cases h5 : decide (48 ≤ (n : Int)) <;> cases h6 : decide ((n : Int) ≤ 57)
  all_goals first | (exfalso; simp at h1 h2 h3 h4 h5 h6; omega; done) | skip
  all_goals
    go_enter Tryd.func90, Tryd.ntmps90
    go_wp2
    go_ret
    exact ⟨rfl, rfl⟩

set_option maxHeartbeats 1000000 in
theorem rin_any (c : UInt8) (s : ByteArray) (w : World) (hs : s.size ≤ 1000000) :
    Calls Tryd.prog 91 #[.int .u8 c.toNat, .string s] w fun e w' => e = .returned (.bool (s.data.toList.contains c)) ∧ w = w' := by
  have hY : ∀ k (h : k < s.size), s[k] = c → s.data.toList.contains c = true := by
    intro k h e; rw [List.contains_iff_mem, ← e]; show s.data[k] ∈ _; simp
  have hN : ∀ k, s.size ≤ k → (s.data.toList.take k).contains c = false → s.data.toList.contains c = false := by
    intro k h e; rwa [take_all s k h] at e
  have hS : ∀ k (h : k < s.size), (s.data.toList.take k).contains c = false → ¬ s[k] = c → (s.data.toList.take (k + 1)).contains c = false := by
    intro k h e n
    rw [take_snoc s k h, List.contains_eq_mem] at *
    simp at *; exact ⟨e, fun x => n x.symm⟩
  have HY := Lib.hid hY; have HN := Lib.hid hN; have HS := Lib.hid hS; clear hY hN hS
  generalize s.data.toList.contains c = out at *
  go_enter Tryd.func91, Tryd.ntmps91
  go_wp2
  go_loop [5] (fun i => ∃ k : Nat, k ≤ s.size ∧ i = .int .i64 k ∧ Hid ((s.data.toList.take k).contains c = false)) (fun i => s.size - (intOf i).toNat)
  case atStart => exact ⟨0, Nat.zero_le _, rfl, by show _ = _; simp⟩
  case round =>
    obtain ⟨k, hk, rfl, Hall⟩ := hrel
    by_cases hlt : k < s.size
    · by_cases hc : s[k] = c
      · have hf := HY.out k hlt hc
        have t1 : ((s[k].toNat : Int) == (c.toNat : Int)) = true := by rw [hc]; simp
        have Hf := Lib.hid hf; clear hf hc
        go_wp2
        go_ret
        exact ⟨by rw [Hf.out]; rfl, rfl⟩
      · have hf := HS.out k hlt Hall.out hc
        have t1 : ((s[k].toNat : Int) == (c.toNat : Int)) = false := by
          rw [beq_eq_false_iff_ne]; intro e; exact hc (UInt8.toNat_inj.1 (by omega))
        have Hf := Lib.hid hf; clear hf hc
        go_wp2
        go_round
        case rel => exact ⟨k + 1, by omega, by go_num, Hf⟩
        case measure => simp [intOf]; omega
    · have hf := HN.out k (by omega) Hall.out
      have Hf := Lib.hid hf; clear hf
      go_wp2
      go_ret
      exact ⟨by rw [Hf.out]; rfl, rfl⟩

set_option maxHeartbeats 1000000 in
theorem rtoken_any (s : ByteArray) (w : World) (hs : s.size ≤ 1000000) :
    Calls Tryd.prog 65 #[.string s] w fun e w' => e = .returned (.bool (tokenL s.data.toList)) ∧ w = w' := by
  have hB : ∀ k (h : k < s.size), wordb s[k] = false → tokenL s.data.toList = false := by
    intro k h hk; unfold tokenL; rw [all_bad wordb s k h hk]; rfl
  have hQ : ∀ k, (s.data.toList.take k).all wordb = true → s.size ≤ k → tokenL s.data.toList = !s.data.toList.isEmpty := by
    intro k h hk; rw [take_all s k hk] at h; unfold tokenL; rw [h]; rfl
  have hm : ∀ (c : UInt8) (w : World), Calls Tryd.prog 91 #[.int .u8 c.toNat, .string ⟨#[33, 35, 36, 37, 38, 39, 42, 43, 45, 46, 94, 95, 96, 124, 126]⟩] w fun e w' => e = .returned (.bool (markL.contains c)) ∧ w = w' := fun c w => rin_any c ⟨#[33, 35, 36, 37, 38, 39, 42, 43, 45, 46, 94, 95, 96, 124, 126]⟩ w (by decide)
  have HB := Lib.hid hB; have HQ := Lib.hid hQ; have HM := Lib.hid hm
  clear hB hQ hm
  by_cases h0 : 0 < s.size
  all_goals
    have h0' := h0
    generalize tokenL s.data.toList = out at *
    go_enter Tryd.func65, Tryd.ntmps65
    go_wp2
    go_loop [3] (fun i => ∃ k : Nat, k ≤ s.size ∧ i = .int .i64 k ∧ Hid ((s.data.toList.take k).all wordb = true)) (fun i => s.size - (intOf i).toNat)
    case atStart => exact ⟨0, Nat.zero_le _, rfl, by show _ = _; simp⟩
    case round =>
      obtain ⟨k, hk, rfl, Hall⟩ := hrel
      by_cases hlt : k < s.size
      · have hw : wordb s[k] = (letterb s[k] || markL.contains s[k]) := rfl
        cases c1 : letterb s[k] <;> cases c2 : markL.contains s[k]
        all_goals rw [c1, c2] at hw
        · have hf := HB.out k hlt hw
          have Hf := Lib.hid hf; have C1 := Lib.hid c1; have C2 := Lib.hid c2; clear hf hw c1 c2
          go_wp2_with (first | (go_at_call 90; refine (rletter_any _ _).mono ?_; rintro e w2 ⟨rfl, rfl⟩; rw [C1.out]) | (go_at_call 91; refine (HM.out _ _).mono ?_; rintro e w2 ⟨rfl, rfl⟩; rw [C2.out]))
          go_ret
          exact ⟨by rw [Hf.out]; rfl, rfl⟩
        all_goals
          have hn : (s.data.toList.take (k + 1)).all wordb = true := by rw [all_snoc wordb s k hlt, Hall.out, hw]; rfl
          have Hn := Lib.hid hn; have C1 := Lib.hid c1; have C2 := Lib.hid c2; clear hn hw c1 c2
          go_wp2_with (first | (go_at_call 90; refine (rletter_any _ _).mono ?_; rintro e w2 ⟨rfl, rfl⟩; rw [C1.out]) | (go_at_call 91; refine (HM.out _ _).mono ?_; rintro e w2 ⟨rfl, rfl⟩; rw [C2.out]))
          go_round
          case rel => exact ⟨k + 1, by omega, by go_num, Hn⟩
          case measure => simp [intOf]; omega
      · have hf := HQ.out k Hall.out (by omega)
        have he : s.data.toList.isEmpty = !decide (0 < s.size) := by
          by_cases g : 0 < s.size
          · rw [ne_of_pos s g]; simp [g]
          · rw [nil_of_zero s g]; simp [g]
        rw [he] at hf
        have Hf := Lib.hid hf; clear hf he
        go_wp2
        go_ret
        exact ⟨by rw [Hf.out]; simp [h0'], rfl⟩
end Go.Proofs.YtfoabdpfadgafaaDoor
