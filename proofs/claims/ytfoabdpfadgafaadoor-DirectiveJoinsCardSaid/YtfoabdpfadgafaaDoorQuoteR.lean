/- The walks of the document's Quote and Unquote. -/
import Derived.Test.YtfoabdpfadgafaaDoorQuote
namespace Go.Proofs.YtfoabdpfadgafaaDoor
open Go.RowKit

theorem may_any (c : UInt8) (w : World) :
    Calls Tryd.prog 93 #[.int .u8 c.toNat] w fun e w' => e = .returned (.bool (plainb c)) ∧ w = w' := by
  have hlt := c.toNat_lt
  have hp : plainb c = (((c.toNat : Int) == 9) || ((decide (32 ≤ (c.toNat : Int)) && decide ((c.toNat : Int) ≤ 126)) || decide (128 ≤ (c.toNat : Int)))) := by
    unfold plainb; rw [Bool.eq_iff_iff]; simp; omega
  rw [hp]
  clear hp
  generalize c.toNat = n at *
  cases h1 : ((n : Int) == 9) <;> cases h2 : decide (32 ≤ (n : Int)) <;> cases h3 : decide ((n : Int) ≤ 126) <;> cases h4 : decide (128 ≤ (n : Int))
  all_goals
    go_enter Tryd.func93, Tryd.ntmps93
    go_wp2
    go_ret
    exact ⟨rfl, rfl⟩

theorem unqD_34 (c : UInt8) (r : List UInt8) (h : (c.toNat == 34) = true) : unqD (c :: r) = bif r.isEmpty then some [] else none := by
  cases r <;> simp [unqD, h]
theorem unqD_no (c : UInt8) (r : List UInt8) (h : (c.toNat == 34) = false) (h2 : (c.toNat == 92) = false) (hp : plainb c = false) : unqD (c :: r) = none := by
  cases r <;> simp [unqD, h, h2, hp]
theorem unqD_yes (c : UInt8) (r : List UInt8) (h : (c.toNat == 34) = false) (h2 : (c.toNat == 92) = false) (hp : plainb c = true) : unqD (c :: r) = (unqD r).map (c :: ·) := by
  cases r <;> simp [unqD, h, h2, hp]
theorem unqD_92 (c d : UInt8) (r : List UInt8) (h : (c.toNat == 34) = false) (h2 : (c.toNat == 92) = true) : unqD (c :: d :: r) = bif plainb d then (unqD r).map (d :: ·) else none := by
  simp [unqD, h, h2]
theorem unqR_first (s : ByteArray) (h : 0 < s.size) : unqR s.data.toList = bif (s[0].toNat == 34) then unqD (s.data.toList.drop 1) else none := by
  have := drop_cons s 0 h
  rw [List.drop_zero] at this
  rw [this]; simp [unqR]

set_option maxRecDepth 100000 in
set_option maxHeartbeats 2000000 in
theorem runquote_any (s : ByteArray) (w : World) (hs : s.size ≤ 1000000) :
    Calls Tryd.prog 71 #[.string s] w fun e w' => e = .returned (two (unqR s.data.toList)) ∧ w = w' := by
  by_cases hz : 0 < s.size
  · rw [unqR_first s hz]
    have hn : ((s.size : Int) == 0) = false := by rw [beq_eq_false_iff_ne]; omega
    cases h0 : (s[0].toNat == 34)
    · have d0 : ((s[0].toNat : Int) != 34) = true := by simp at h0; simp; omega
      clear h0
      go_enter Tryd.func71, Tryd.ntmps71
      go_wp2
      go_ret2
      exact ⟨rfl, rfl⟩
    · have d0 : ((s[0].toNat : Int) != 34) = false := by simp at h0; simp; omega
      clear h0
      rw [cond_true]
      obtain ⟨out, ho⟩ : ∃ o, unqD (s.data.toList.drop 1) = o := ⟨_, rfl⟩
      rw [ho]
      have HO := Lib.hid ho; clear ho
      go_enter Tryd.func71, Tryd.ntmps71
      go_wp2
      clear d0 hn
      go_loop [5, 4] (fun i o => ∃ (k : Nat) (b : ByteArray), 1 ≤ k ∧ k ≤ s.size ∧ i = .int .i64 k ∧ o = .string b ∧ b.size ≤ k ∧ Hid (out = (unqD (s.data.toList.drop k)).map (b.data.toList ++ ·))) (fun i _ => s.size - (intOf i).toNat)
      case atStart => exact ⟨1, _, Nat.le_refl _, hz, rfl, rfl, by decide, by have := HO.out; show _ = _; rw [this]; simp⟩
      case round =>
        obtain ⟨k, b, hk1, hk, rfl, rfl, hbs, Hout⟩ := hrel
        by_cases hlt : k < s.size
        · have hd := drop_cons s k hlt
          have Hd := Lib.hid hd; clear hd
          cases c1 : ((s[k].toNat : Int) == 34)
          · have d1 := (beq_cast _ 34).trans c1
            have D1 := Lib.hid d1; clear d1
            cases c2 : ((s[k].toNat : Int) == 92)
            · have d2 := (beq_cast _ 92).trans c2
              have D2 := Lib.hid d2; clear d2
              have hke : ((k : Int) == s.size) = false := by simp; omega
              cases hp : plainb s[k]
              · have hf : out = none := by rw [Hout.out, Hd.out, unqD_no _ _ D1.out D2.out hp]; rfl
                have Hf := Lib.hid hf; have Hp := Lib.hid hp; clear hf hp
                go_wp2_with (go_at_call 93; refine (may_any _ _).mono ?_; rintro e w2 ⟨rfl, rfl⟩; rw [Hp.out])
                go_ret2
                exact ⟨by rw [Hf.out]; rfl, rfl⟩
              · have hx := ext_one s k hlt
                have hxs : (s.extract k (k + 1)).size = 1 := by rw [Lib.size_eq, hx]; rfl
                have hf : out = (unqD (s.data.toList.drop (k + 1))).map ((b ++ s.extract k (k + 1)).data.toList ++ ·) := by rw [Hout.out, Hd.out, unqD_yes _ _ D1.out D2.out hp, app_list, hx]; simp [Function.comp_def]
                have Hf := Lib.hid hf; have Hp := Lib.hid hp; clear hf hp hx
                go_wp2_with (go_at_call 93; refine (may_any _ _).mono ?_; rintro e w2 ⟨rfl, rfl⟩; rw [Hp.out])
                go_round
                case rel => exact ⟨k + 1, _, by omega, by omega, by go_num, rfl, by rw [ByteArray.size_append, hxs]; omega, Hf⟩
                case measure => simp [intOf]; omega
            · have d2 := (beq_cast _ 92).trans c2
              have D2 := Lib.hid d2; clear d2
              by_cases hlt2 : k + 1 < s.size
              · have hd2 := drop_cons s (k + 1) hlt2
                have hke : ((k : Int) + 1 == s.size) = false := by simp; omega
                cases hp : plainb s[k + 1]
                · have hf : out = none := by rw [Hout.out, Hd.out, hd2, unqD_92 _ _ _ D1.out D2.out, hp]; rfl
                  have Hf := Lib.hid hf; have Hp := Lib.hid hp; clear hf hp hd2
                  go_wp2_with (go_at_call 93; refine (may_any _ _).mono ?_; rintro e w2 ⟨rfl, rfl⟩; rw [Hp.out])
                  go_ret2
                  exact ⟨by rw [Hf.out]; rfl, rfl⟩
                · have hx := ext_one s (k + 1) hlt2
                  have hxs : (s.extract (k + 1) (k + 1 + 1)).size = 1 := by rw [Lib.size_eq, hx]; rfl
                  have hf : out = (unqD (s.data.toList.drop (k + 1 + 1))).map ((b ++ s.extract (k + 1) (k + 1 + 1)).data.toList ++ ·) := by rw [Hout.out, Hd.out, hd2, unqD_92 _ _ _ D1.out D2.out, hp, app_list, hx]; simp [Function.comp_def]
                  have Hf := Lib.hid hf; have Hp := Lib.hid hp; clear hf hp hx hd2
                  go_wp2_with (go_at_call 93; refine (may_any _ _).mono ?_; rintro e w2 ⟨rfl, rfl⟩; rw [Hp.out])
                  go_round
                  case rel => exact ⟨k + 1 + 1, _, by omega, by omega, by go_num, rfl, by rw [ByteArray.size_append, hxs]; omega, Hf⟩
                  case measure => simp [intOf]; omega
              · have hke : ((k : Int) + 1 == s.size) = true := by simp; omega
                have hf : out = none := by
                  rw [Hout.out, Hd.out, drop_all s (k + 1) (by omega)]; simp [unqD, D1.out]
                have Hf := Lib.hid hf; clear hf
                go_wp2
                go_ret2
                exact ⟨by rw [Hf.out]; rfl, rfl⟩
          · have d1 := (beq_cast _ 34).trans c1
            have D1 := Lib.hid d1; clear d1
            by_cases hlt2 : k + 1 < s.size
            · have hke : ((k : Int) + 1 == s.size) = false := by simp; omega
              have hf : out = none := by
                rw [Hout.out, Hd.out, unqD_34 _ _ D1.out, drop_cons s (k + 1) hlt2]; rfl
              have Hf := Lib.hid hf; clear hf
              go_wp2
              go_ret2
              exact ⟨by rw [Hf.out]; rfl, rfl⟩
            · have hke : ((k : Int) + 1 == s.size) = true := by simp; omega
              have hf : out = some b.data.toList := by
                rw [Hout.out, Hd.out, unqD_34 _ _ D1.out, drop_all s (k + 1) (by omega)]; simp
              have Hf := Lib.hid hf; clear hf
              go_wp2
              go_ret2
              exact ⟨by rw [Hf.out]; unfold two; simp only [str_of]; rfl, rfl⟩
        · have hf : out = none := by rw [Hout.out, drop_all s k (by omega)]; rfl
          have Hf := Lib.hid hf; clear hf
          go_wp2
          go_ret2
          exact ⟨by rw [Hf.out]; rfl, rfl⟩
  · have he : s.data.toList = [] := by apply List.eq_nil_of_length_eq_zero; rw [← Lib.size_eq]; omega
    rw [he]
    have hn : ((s.size : Int) == 0) = true := by rw [beq_iff_eq]; omega
    clear he
    go_enter Tryd.func71, Tryd.ntmps71
    go_wp2
    go_ret2
    exact ⟨rfl, rfl⟩
end Go.Proofs.YtfoabdpfadgafaaDoor
