/- The walks of the document's Parse, Weak, Strong (layer 14). -/
import Derived.Test.YthnfmhjjpodhfaaDoorEtagB
import Derived.Test.YthnfmhjjpodhfaaDoorEtagTag
namespace Go.Proofs.YthnfmhjjpodhfaaDoor
open Go.RowKit

theorem cut_yes (s : ByteArray) (h : Lib.hasPrefix s.data.toList [87, 47] = true) : cutP s ⟨#[87, 47]⟩ = s.extract 2 s.size := by
  unfold cutP
  rw [if_pos (show Lib.hasPrefix s.data.toList (⟨#[87, 47]⟩ : ByteArray).data.toList = true from h)]
  rfl
theorem cut_no (s : ByteArray) (h : Lib.hasPrefix s.data.toList [87, 47] = false) : cutP s ⟨#[87, 47]⟩ = s := by
  unfold cutP
  rw [if_neg (show ¬ Lib.hasPrefix s.data.toList (⟨#[87, 47]⟩ : ByteArray).data.toList = true from by rw [show (⟨#[87, 47]⟩ : ByteArray).data.toList = [87, 47] from rfl, h]; decide)]
theorem pre_list : ∀ (l : List UInt8), Lib.hasPrefix l [87, 47] = if h : 2 ≤ l.length then (l[0].toNat == 87 && l[1].toNat == 47) else false
  | [] => rfl
  | [a] => by simp [Lib.hasPrefix, List.isPrefixOf]
  | a :: b :: r => by
    have e : ∀ (x y : UInt8), (x == y) = (y.toNat == x.toNat) := fun x y => by rw [Bool.eq_iff_iff, beq_iff_eq, beq_iff_eq, UInt8.toNat_inj]; exact eq_comm
    rw [dif_pos (by simp)]
    show (87 == a && (47 == b && true)) = _
    rw [e, e]
    simp
theorem pre_eq (s : ByteArray) (h : 2 ≤ s.size) : Lib.hasPrefix s.data.toList [87, 47] = (s[0].toNat == 87 && s[1].toNat == 47) := by
  rw [pre_list, dif_pos (by simpa using h), at_list s 0 (by omega), at_list s 1 (by omega)]
theorem pre_short (s : ByteArray) (h : ¬ 2 ≤ s.size) : Lib.hasPrefix s.data.toList [87, 47] = false := by
  rw [pre_list, dif_neg (by simpa using h)]

set_option maxRecDepth 100000 in
set_option maxHeartbeats 2000000 in
theorem rparse14_any (s : ByteArray) (w : World) (hs : s.size ≤ 8000) :
    Calls Tryd.prog 7 #[.string s] w fun e w' => e = .returned (ent s).parse ∧ Below w.heap.size w w' := by
  have hcl := cutP_le s ⟨#[87, 47]⟩
  have hent : ent s = if tagged (cutP s ⟨#[87, 47]⟩) then ⟨Lib.hasPrefix s.data.toList [87, 47], true, inner (cutP s ⟨#[87, 47]⟩)⟩ else ⟨false, false, empt⟩ := rfl
  have Hent := Lib.hid hent; clear hent
  obtain ⟨P, hP⟩ : ∃ p, (ent s).parse = p := ⟨_, rfl⟩
  rw [hP]
  have HP := Lib.hid hP; clear hP
  go_enter Tryd.func7, Tryd.ntmps7
  go_upto_region 1 with (fail)
  go_cut [5] (fun s5 wx => s5 = .bool (Lib.hasPrefix s.data.toList [87, 47]) ∧ w = wx)
  case first =>
    clear HP Hent
    by_cases h2 : 2 ≤ s.size
    · have d2 : decide ((2 : Int) ≤ (s.size : Int)) = true := by simp; omega
      have hpe := pre_eq s h2
      cases h0 : ((s[0].toNat : Int) == 87) <;> cases h1 : ((s[1].toNat : Int) == 47)
      all_goals
        have e0 := (beq_cast s[0].toNat 87).trans h0
        have e1 := (beq_cast s[1].toNat 47).trans h1
        rw [e0, e1] at hpe
        simp only [Bool.and_true, Bool.and_false, Bool.and_self] at hpe
        have Hpe := Lib.hid hpe
        clear hpe e0 e1
        go_wp2
        go_meet
        exact ⟨by rw [Hpe.out], rfl⟩
    · have d2 : decide ((2 : Int) ≤ (s.size : Int)) = false := by simp; omega
      have hpe := pre_short s h2
      have Hpe := Lib.hid hpe
      clear hpe h2
      go_wp2
      go_meet
      exact ⟨by rw [Hpe.out], rfl⟩
  case rest =>
    obtain ⟨rfl, rfl⟩ := hcut
    obtain ⟨b, hb⟩ : ∃ b, Lib.hasPrefix s.data.toList [87, 47] = b := ⟨_, rfl⟩
    rw [hb] at Hent ⊢
    obtain ⟨t, ht⟩ : ∃ t, cutP s ⟨#[87, 47]⟩ = t := ⟨_, rfl⟩
    rw [ht] at Hent hcl
    have hct : t = if b then s.extract 2 s.size else s := by
      rw [← ht, ← hb]
      split
      · next h => exact cut_yes s h
      · next h => exact cut_no s (by simpa using h)
    have hb2 : b = true → 2 ≤ s.size := by
      intro e
      by_cases h2 : 2 ≤ s.size
      · exact h2
      · rw [pre_short s h2] at hb; rw [← hb] at e; cases e
    have Hct := Lib.hid hct; have Hb2 := Lib.hid hb2
    clear hb ht hct hb2
    go_upto_if 22 with (fail)
    go_cut [0] (fun s0 wx => s0 = .string t ∧ w = wx)
    case first =>
      clear HP Hent
      cases b
      · go_wp2
        go_meet
        exact ⟨by rw [Hct.out]; rfl, rfl⟩
      · have h2 := Hb2.out rfl
        go_wp2
        go_meet
        exact ⟨by rw [Hct.out]; rfl, rfl⟩
    case rest =>
      obtain ⟨rfl, rfl⟩ := hcut
      clear Hct Hb2
      have ht4 : t.size ≤ 8000 := by omega
      clear hcl
      by_cases h2 : 2 ≤ t.size
      · have d2 : decide ((t.size : Int) < 2) = false := by simp; omega
        have hY : (∀ j (h : j < t.size), okAt t j h = true) → P = .tuple #[.bool b, .string (inner t), .int .i64 0] := by
          intro h
          have := (tagged_iff t h2).2 h
          rw [← HP.out, Hent.out, this]; rfl
        have hN : ∀ k (h : k < t.size), okAt t k h = false → P = .tuple #[.bool false, .string empt, .int .i64 4] := by
          intro k h hk
          have : tagged t = false := by
            cases ht : tagged t
            · rfl
            · rw [(tagged_iff t h2).1 ht k h] at hk; cases hk
          rw [← HP.out, Hent.out, this]; rfl
        have HY := Lib.hid hY; have HN := Lib.hid hN
        clear HP Hent hY hN
        go_wp2
        go_loop [6] (fun i => ∃ k : Nat, k ≤ t.size ∧ i = .int .i64 k ∧ Hid (∀ j (h : j < t.size), j < k → okAt t j h = true)) (fun i => t.size - (intOf i).toNat)
        case atStart => exact ⟨0, Nat.zero_le _, rfl, Lib.hid (fun j h hj => absurd hj (by omega))⟩
        case round =>
          obtain ⟨k, hk, rfl, Hall⟩ := hrel
          by_cases hlt : k < t.size
          · have hu := u8_lt t[k]
            have hnext : okAt t k hlt = true → Hid (∀ j (h : j < t.size), j < k + 1 → okAt t j h = true) := by
              intro e
              refine Lib.hid fun j h hj => ?_
              by_cases hjk : j = k
              · subst hjk; exact e
              · exact Hall.out j h (by omega)
            have hbad := HN.out k hlt
            unfold okAt at hnext hbad
            have Hnext := Lib.hid hnext; have Hbad := Lib.hid hbad
            clear hnext hbad Hall
            have tri : (((k : Int) == 0) = true ∧ (k = 0 ∨ k = t.size - 1)) ∨ (((k : Int) == 0) = false ∧ ((k : Int) == (t.size : Int) - 1) = true ∧ (k = 0 ∨ k = t.size - 1)) ∨ (((k : Int) == 0) = false ∧ ((k : Int) == (t.size : Int) - 1) = false ∧ ¬ (k = 0 ∨ k = t.size - 1)) := by
              simp only [beq_iff_eq, beq_eq_false_iff_ne]; omega
            rcases tri with ⟨e1, he⟩ | ⟨e1, e2, he⟩ | ⟨e1, e2, he⟩
            · cases h34 : ((t[k].toNat : Int) == 34)
              · have n34 : ((t[k].toNat : Int) != 34) = true := by simp [bne, h34]
                have hf := Hbad.out (by rw [if_pos he]; exact (beq_cast t[k].toNat 34).trans h34)
                have Hf := Lib.hid hf
                clear hf he
                go_wp2
                go_ret3
                exact ⟨by rw [Hf.out]; rfl, Below.refl _ _⟩
              · have n34 : ((t[k].toNat : Int) != 34) = false := by simp [bne, h34]
                have hn := Hnext.out (by rw [if_pos he]; exact (beq_cast t[k].toNat 34).trans h34)
                clear he
                go_wp2
                go_round
                case rel => exact ⟨k + 1, by omega, by go_num, hn⟩
                case measure => simp [intOf]; omega
            · cases h34 : ((t[k].toNat : Int) == 34)
              · have n34 : ((t[k].toNat : Int) != 34) = true := by simp [bne, h34]
                have hf := Hbad.out (by rw [if_pos he]; exact (beq_cast t[k].toNat 34).trans h34)
                have Hf := Lib.hid hf
                clear hf he
                go_wp2
                go_ret3
                exact ⟨by rw [Hf.out]; rfl, Below.refl _ _⟩
              · have n34 : ((t[k].toNat : Int) != 34) = false := by simp [bne, h34]
                have hn := Hnext.out (by rw [if_pos he]; exact (beq_cast t[k].toNat 34).trans h34)
                clear he
                go_wp2
                go_round
                case rel => exact ⟨k + 1, by omega, by go_num, hn⟩
                case measure => simp [intOf]; omega
            · cases hok : okb t[k]
              · have hf := Hbad.out (by rw [if_neg he]; exact hok)
                have Hf := Lib.hid hf
                have hb' : decide ((t[k].toNat : Int) < 33) = true ∨ (decide ((t[k].toNat : Int) < 33) = false ∧ ((t[k].toNat : Int) == 34) = true) ∨ (decide ((t[k].toNat : Int) < 33) = false ∧ ((t[k].toNat : Int) == 34) = false ∧ ((t[k].toNat : Int) == 127) = true) := by simp [okb] at hok; simp; omega
                clear hf he hok
                rcases hb' with c1 | ⟨c1, c2⟩ | ⟨c1, c2, c3⟩
                all_goals
                  go_wp2
                  go_ret3
                  exact ⟨by rw [Hf.out]; rfl, Below.refl _ _⟩
              · have hn := Hnext.out (by rw [if_neg he]; exact hok)
                have c1 : decide ((t[k].toNat : Int) < 33) = false := by simp [okb] at hok; simp; omega
                have c2 : ((t[k].toNat : Int) == 34) = false := by simp [okb] at hok; simp; omega
                have c3 : ((t[k].toNat : Int) == 127) = false := by simp [okb] at hok; simp; omega
                clear he hok
                go_wp2
                go_round
                case rel => exact ⟨k + 1, by omega, by go_num, hn⟩
                case measure => simp [intOf]; omega
          · have hf := HY.out (fun j h => Hall.out j h (by omega))
            have Hf := Lib.hid hf
            clear hf
            go_wp2
            go_quiet (fail)
            go_wp2
            go_ret3
            exact ⟨by rw [Hf.out]; rfl, below_drewN (Below.refl _ _) _⟩
      · have d2 : decide ((t.size : Int) < 2) = true := by simp; omega
        have hf : P = .tuple #[.bool false, .string empt, .int .i64 4] := by
          have : tagged t = false := by unfold tagged; rw [dif_neg h2]
          rw [← HP.out, Hent.out, this]; rfl
        have Hf := Lib.hid hf
        clear hf
        go_wp2
        go_ret3
        exact ⟨by rw [Hf.out]; rfl, Below.refl _ _⟩
end Go.Proofs.YthnfmhjjpodhfaaDoor
