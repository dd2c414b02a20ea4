/- The walks of the document's Quote and Unquote. -/
import Derived.Test.YtclcigbcianimaaQuote
namespace Go.Proofs.Ytclcigbcianimaa
open Go.RowKit

theorem may_any (c : UInt8) (w : World) :
    Calls Try.prog 17 #[.int .u8 c.toNat] w fun e w' => e = .returned (.bool (plainb c)) ∧ w = w' := by
  have hlt := c.toNat_lt
  have hp : plainb c = (((c.toNat : Int) == 9) || ((decide (32 ≤ (c.toNat : Int)) && decide ((c.toNat : Int) ≤ 126)) || decide (128 ≤ (c.toNat : Int)))) := by
    unfold plainb; rw [Bool.eq_iff_iff]; simp; omega
  rw [hp]
  clear hp
  generalize c.toNat = n at *
  cases h1 : ((n : Int) == 9) <;> cases h2 : decide (32 ≤ (n : Int)) <;> cases h3 : decide ((n : Int) ≤ 126) <;> cases h4 : decide (128 ≤ (n : Int))
  all_goals
    go_enter Try.func17, Try.ntmps17
    go_wp2
    go_ret
    exact ⟨rfl, rfl⟩

set_option maxRecDepth 100000 in
set_option maxHeartbeats 2000000 in
theorem rquote_any (s : ByteArray) (w : World) (hs : s.size ≤ 1000000) :
    Calls Try.prog 8 #[.string s] w fun e w' => e = .returned (two (quoteO s)) ∧ w = w' := by
  have hq : ∀ k, k ≤ s.size → (s.data.toList.take k).all plainb = true → k = s.size → two (quoteO s) = .tuple #[.string ⟨(34 :: ((s.data.toList.take k).flatMap esc ++ [34])).toArray⟩, .int .i64 0] := by
    intro k _ hk e
    rw [take_all s k (by omega)] at hk ⊢
    unfold quoteO quoted two; rw [hk]; rfl
  have hb : ∀ k (h : k < s.size), plainb s[k] = false → two (quoteO s) = .tuple #[.string ⟨#[]⟩, .int .i64 4] := by
    intro k h hk
    unfold quoteO two; rw [all_bad plainb s k h hk]; rfl
  have HQ := Lib.hid hq; have HB := Lib.hid hb
  clear hq hb
  generalize two (quoteO s) = out at *
  go_enter Try.func8, Try.ntmps8
  go_wp2
  go_loop [5, 4] (fun i o => ∃ (k : Nat) (b : ByteArray), k ≤ s.size ∧ i = .int .i64 k ∧ o = .string b ∧ (s.data.toList.take k).all plainb = true ∧ b.data.toList = 34 :: (s.data.toList.take k).flatMap esc ∧ b.size ≤ 2 * k + 1) (fun i _ => s.size - (intOf i).toNat)
  case atStart => exact ⟨0, _, Nat.zero_le _, rfl, rfl, by simp, by simp, by decide⟩
  case round =>
    obtain ⟨k, b, hk, rfl, rfl, hall, hbl, hbs⟩ := hrel
    have Hall := Lib.hid hall; clear hall
    have Hbl := Lib.hid hbl; clear hbl
    by_cases hlt : k < s.size
    · cases hp : plainb s[k]
      · have hf := HB.out k hlt hp
        have Hf := Lib.hid hf; clear hf
        have Hp := Lib.hid hp; clear hp
        go_wp2_with (go_at_call 17; refine (may_any _ _).mono ?_; rintro e w2 ⟨rfl, rfl⟩; rw [Hp.out])
        go_ret2
        exact ⟨by rw [Hf.out]; rfl, rfl⟩
      · have he := esc_eq s[k]
        have hsn := flat_snoc s k hlt
        have has := all_snoc plainb s k hlt
        have hx := ext_one s k hlt
        have hxs : (s.extract k (k + 1)).size = 1 := by rw [Lib.size_eq, hx]; rfl
        rw [hp] at has
        have Hx := Lib.hid hx; clear hx
        have Hp := Lib.hid hp; clear hp
        have Hs := Lib.hid hsn; clear hsn
        have Ha := Lib.hid has; clear has
        have h92 : (⟨#[92]⟩ : ByteArray).size = 1 := rfl
        cases c1 : ((s[k].toNat : Int) == 34) <;> cases c2 : ((s[k].toNat : Int) == 92)
        all_goals
          rw [c1, c2] at he
          have He := Lib.hid he; clear he
          go_wp2_with (go_at_call 17; refine (may_any _ _).mono ?_; rintro e w2 ⟨rfl, rfl⟩; rw [Hp.out])
          go_round
          case rel => exact ⟨k + 1, _, by omega, by go_num, rfl, by rw [Ha.out, Hall.out]; rfl, by rw [Hs.out, He.out]; simp only [app_list, Hbl.out, Hx.out]; simp, by simp [ByteArray.size_append, hxs, h92]; omega⟩
          case measure => simp [intOf]; omega
    · have hf := HQ.out k hk Hall.out (by omega)
      have Hf := Lib.hid hf; clear hf
      have h34 : (⟨#[34]⟩ : ByteArray).size = 1 := rfl
      go_wp2
      go_ret2
      have hfin : b ++ (⟨#[34]⟩ : ByteArray) = ⟨(34 :: ((s.data.toList.take k).flatMap esc ++ [34])).toArray⟩ := str_list (by rw [app_list, Hbl.out]; rfl)
      exact ⟨by rw [Hf.out, ← hfin]; rfl, rfl⟩
theorem unqD_34 (c : UInt8) (r : List UInt8) (h : (c.toNat == 34) = true) : unqD (c :: r) = bif r.isEmpty then some [] else none := by
  cases r <;> simp [unqD, h]
theorem unqD_no (c : UInt8) (r : List UInt8) (h : (c.toNat == 34) = false) (h2 : (c.toNat == 92) = false) (hp : plainb c = false) : unqD (c :: r) = none := by
  cases r <;> simp [unqD, h, h2, hp]
theorem unqD_yes (c : UInt8) (r : List UInt8) (h : (c.toNat == 34) = false) (h2 : (c.toNat == 92) = false) (hp : plainb c = true) : unqD (c :: r) = (unqD r).map (c :: ·) := by
  cases r <;> simp [unqD, h, h2, hp]
theorem unqD_92 (c d : UInt8) (r : List UInt8) (h : (c.toNat == 34) = false) (h2 : (c.toNat == 92) = true) : unqD (c :: d :: r) = bif plainb d then (unqD r).map (d :: ·) else none := by
  simp [unqD, h, h2]
theorem unqR_first (s : ByteArray) (h : 0 < s.size) : unqR s.data.toList = bif (s[0].toNat == 34) then unqD (s.data.toList.drop 1) else none := by
  have := drop_cons s 0 h
  rw [List.drop_zero] at this
  rw [this]; simp [unqR]

set_option maxRecDepth 100000 in
set_option maxHeartbeats 2000000 in
theorem runquote_any (s : ByteArray) (w : World) (hs : s.size ≤ 1000000) :
    Calls Try.prog 10 #[.string s] w fun e w' => e = .returned (two (unqR s.data.toList)) ∧ w = w' := by
  by_cases hz : 0 < s.size
  · rw [unqR_first s hz]
    have hn : ((s.size : Int) == 0) = false := by rw [beq_eq_false_iff_ne]; omega
    cases h0 : (s[0].toNat == 34)
    · have d0 : ((s[0].toNat : Int) != 34) = true := by simp at h0; simp; omega
      clear h0
      go_enter Try.func10, Try.ntmps10
      go_wp2
      go_ret2
      exact ⟨rfl, rfl⟩
    · have d0 : ((s[0].toNat : Int) != 34) = false := by simp at h0; simp; omega
      clear h0
      rw [cond_true]
      obtain ⟨out, ho⟩ : ∃ o, unqD (s.data.toList.drop 1) = o := ⟨_, rfl⟩
      rw [ho]
      have HO := Lib.hid ho; clear ho
      go_enter Try.func10, Try.ntmps10
      go_wp2
      clear d0 hn
      go_loop [5, 4] (fun i o => ∃ (k : Nat) (b : ByteArray), 1 ≤ k ∧ k ≤ s.size ∧ i = .int .i64 k ∧ o = .string b ∧ b.size ≤ k ∧ Hid (out = (unqD (s.data.toList.drop k)).map (b.data.toList ++ ·))) (fun i _ => s.size - (intOf i).toNat)
      case atStart => exact ⟨1, _, Nat.le_refl _, hz, rfl, rfl, by decide, by have := HO.out; show _ = _; rw [this]; simp⟩
      case round =>
        obtain ⟨k, b, hk1, hk, rfl, rfl, hbs, Hout⟩ := hrel
        by_cases hlt : k < s.size
        · have hd := drop_cons s k hlt
          have Hd := Lib.hid hd; clear hd
          cases c1 : ((s[k].toNat : Int) == 34)
          · have d1 := (beq_cast _ 34).trans c1
            have D1 := Lib.hid d1; clear d1
            cases c2 : ((s[k].toNat : Int) == 92)
            · have d2 := (beq_cast _ 92).trans c2
              have D2 := Lib.hid d2; clear d2
              have hke : ((k : Int) == s.size) = false := by simp; omega
              cases hp : plainb s[k]
              · have hf : out = none := by rw [Hout.out, Hd.out, unqD_no _ _ D1.out D2.out hp]; rfl
                have Hf := Lib.hid hf; have Hp := Lib.hid hp; clear hf hp
                go_wp2_with (go_at_call 17; refine (may_any _ _).mono ?_; rintro e w2 ⟨rfl, rfl⟩; rw [Hp.out])
                go_ret2
                exact ⟨by rw [Hf.out]; rfl, rfl⟩
              · have hx := ext_one s k hlt
                have hxs : (s.extract k (k + 1)).size = 1 := by rw [Lib.size_eq, hx]; rfl
                have hf : out = (unqD (s.data.toList.drop (k + 1))).map ((b ++ s.extract k (k + 1)).data.toList ++ ·) := by rw [Hout.out, Hd.out, unqD_yes _ _ D1.out D2.out hp, app_list, hx]; simp [Function.comp_def]
                have Hf := Lib.hid hf; have Hp := Lib.hid hp; clear hf hp hx
                go_wp2_with (go_at_call 17; refine (may_any _ _).mono ?_; rintro e w2 ⟨rfl, rfl⟩; rw [Hp.out])
                go_round
                case rel => exact ⟨k + 1, _, by omega, by omega, by go_num, rfl, by rw [ByteArray.size_append, hxs]; omega, Hf⟩
                case measure => simp [intOf]; omega
            · have d2 := (beq_cast _ 92).trans c2
              have D2 := Lib.hid d2; clear d2
              by_cases hlt2 : k + 1 < s.size
              · have hd2 := drop_cons s (k + 1) hlt2
                have hke : ((k : Int) + 1 == s.size) = false := by simp; omega
                cases hp : plainb s[k + 1]
                · have hf : out = none := by rw [Hout.out, Hd.out, hd2, unqD_92 _ _ _ D1.out D2.out, hp]; rfl
                  have Hf := Lib.hid hf; have Hp := Lib.hid hp; clear hf hp hd2
                  go_wp2_with (go_at_call 17; refine (may_any _ _).mono ?_; rintro e w2 ⟨rfl, rfl⟩; rw [Hp.out])
                  go_ret2
                  exact ⟨by rw [Hf.out]; rfl, rfl⟩
                · have hx := ext_one s (k + 1) hlt2
                  have hxs : (s.extract (k + 1) (k + 1 + 1)).size = 1 := by rw [Lib.size_eq, hx]; rfl
                  have hf : out = (unqD (s.data.toList.drop (k + 1 + 1))).map ((b ++ s.extract (k + 1) (k + 1 + 1)).data.toList ++ ·) := by rw [Hout.out, Hd.out, hd2, unqD_92 _ _ _ D1.out D2.out, hp, app_list, hx]; simp [Function.comp_def]
                  have Hf := Lib.hid hf; have Hp := Lib.hid hp; clear hf hp hx hd2
                  go_wp2_with (go_at_call 17; refine (may_any _ _).mono ?_; rintro e w2 ⟨rfl, rfl⟩; rw [Hp.out])
                  go_round
                  case rel => exact ⟨k + 1 + 1, _, by omega, by omega, by go_num, rfl, by rw [ByteArray.size_append, hxs]; omega, Hf⟩
                  case measure => simp [intOf]; omega
              · have hke : ((k : Int) + 1 == s.size) = true := by simp; omega
                have hf : out = none := by
                  rw [Hout.out, Hd.out, drop_all s (k + 1) (by omega)]; simp [unqD, D1.out]
                have Hf := Lib.hid hf; clear hf
                go_wp2
                go_ret2
                exact ⟨by rw [Hf.out]; rfl, rfl⟩
          · have d1 := (beq_cast _ 34).trans c1
            have D1 := Lib.hid d1; clear d1
            by_cases hlt2 : k + 1 < s.size
            · have hke : ((k : Int) + 1 == s.size) = false := by simp; omega
              have hf : out = none := by
                rw [Hout.out, Hd.out, unqD_34 _ _ D1.out, drop_cons s (k + 1) hlt2]; rfl
              have Hf := Lib.hid hf; clear hf
              go_wp2
              go_ret2
              exact ⟨by rw [Hf.out]; rfl, rfl⟩
            · have hke : ((k : Int) + 1 == s.size) = true := by simp; omega
              have hf : out = some b.data.toList := by
                rw [Hout.out, Hd.out, unqD_34 _ _ D1.out, drop_all s (k + 1) (by omega)]; simp
              have Hf := Lib.hid hf; clear hf
              go_wp2
              go_ret2
              exact ⟨by rw [Hf.out]; unfold two; simp only [str_of]; rfl, rfl⟩
        · have hf : out = none := by rw [Hout.out, drop_all s k (by omega)]; rfl
          have Hf := Lib.hid hf; clear hf
          go_wp2
          go_ret2
          exact ⟨by rw [Hf.out]; rfl, rfl⟩
  · have he : s.data.toList = [] := by apply List.eq_nil_of_length_eq_zero; rw [← Lib.size_eq]; omega
    rw [he]
    have hn : ((s.size : Int) == 0) = true := by rw [beq_iff_eq]; omega
    clear he
    go_enter Try.func10, Try.ntmps10
    go_wp2
    go_ret2
    exact ⟨rfl, rfl⟩
end Go.Proofs.Ytclcigbcianimaa
