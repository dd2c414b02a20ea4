/- The walk of the document's Trim. -/
import Derived.Test.YthnfmhjjpodhfaaDoorTrim
namespace Go.Proofs.YthnfmhjjpodhfaaDoor
open Go.RowKit

/-- blank? as the document asks it. -/
def blankI (n : Int) : Bool := (n == 32) || (n == 9)
theorem blank_eq (c : UInt8) : blankI c.toNat = blanks.contains c := by
  have h : ∀ x : UInt8, ((c.toNat : Int) == (x.toNat : Int)) = (c == x) := by
    intro x; rw [Bool.eq_iff_iff, beq_iff_eq, beq_iff_eq, ← UInt8.toNat_inj]; omega
  have h1 := h 32; have h2 := h 9
  unfold blankI blanks
  rw [show ((c.toNat : Int) == 32) = (c == 32) from h1, show ((c.toNat : Int) == 9) = (c == 9) from h2]
  rw [Bool.eq_iff_iff]; simp
theorem trim_cut (s : ByteArray) (f t : Nat) (hft : f ≤ t) (ht : t ≤ s.size) (h1 : ∀ j (h : j < s.size), j < f → blanks.contains s[j] = true) (h2 : ∀ h : f < s.size, f < t → blanks.contains s[f] = false)
    (h3 : ∀ j (h : j < s.size), t ≤ j → blanks.contains s[j] = true) (h4 : f < t → ∀ h : t - 1 < s.size, blanks.contains s[t - 1] = false) :
    s.extract f t = ⟨(trimL s.data.toList).toArray⟩ := by
  have at' : ∀ j b, s.data.toList[j]? = some b → ∃ h : j < s.size, s[j] = b := by
    intro j b hb
    obtain ⟨h, e⟩ := List.getElem?_eq_some_iff.1 hb
    exact ⟨by rw [Lib.size_eq]; exact h, by rw [at_list]; exact e⟩
  apply str_eq
  rw [Lib.extract_data]
  show _ = trimL s.data.toList
  unfold trimL Lib.trimS
  by_cases hlt : f < t
  · have e1 : Lib.trimRightS s.data.toList blanks = s.data.toList.take t := by
      refine Lib.trimRightS_take _ _ t (by rw [← Lib.size_eq]; exact ht) (fun j b hj hb => ?_) (fun b _ hb => ?_)
      · obtain ⟨h, rfl⟩ := at' j b hb; exact h3 j h hj
      · obtain ⟨h, rfl⟩ := at' _ b hb; exact h4 hlt h
    rw [e1, Lib.trimLeftS_drop _ _ f (by rw [List.length_take, ← Lib.size_eq]; omega) (fun j b hj hb => ?_) (fun b hb => ?_), List.drop_take]
    · rw [List.getElem?_take_of_lt (by omega)] at hb
      obtain ⟨h, rfl⟩ := at' j b hb; exact h1 j h hj
    · rw [List.getElem?_take_of_lt (by omega)] at hb
      obtain ⟨h, rfl⟩ := at' f b hb; exact h2 h hlt
  · have e1 : Lib.trimRightS s.data.toList blanks = s.data.toList.take 0 := by
      refine Lib.trimRightS_take _ _ 0 (Nat.zero_le _) (fun j b _ hb => ?_) (fun b h0 _ => absurd h0 (by omega))
      obtain ⟨h, rfl⟩ := at' j b hb
      by_cases hj : j < f
      · exact h1 j h hj
      · exact h3 j h (by omega)
    rw [e1, show t - f = 0 from by omega]; simp [Lib.trimLeftS]

set_option maxHeartbeats 4000000 in
theorem rtrim_any (s : ByteArray) (w : World) (hs : s.size ≤ 1000000) :
    Calls Tryd.prog 40 #[.string s] w fun e w' => e = .returned (.string ⟨(trimL s.data.toList).toArray⟩) ∧ w = w' := by
  have hcut := trim_cut s
  generalize (⟨(trimL s.data.toList).toArray⟩ : ByteArray) = out at *
  have HC := Lib.hid hcut; clear hcut
  go_enter Tryd.func40, Tryd.ntmps40
  go_wp2
  go_loop [3] (fun a => ∃ f : Nat, f ≤ s.size ∧ a = .int .i64 f ∧ Hid (∀ j (h : j < s.size), j < f → blanks.contains s[j] = true)) (fun a => s.size - (intOf a).toNat)
  case atStart => exact ⟨0, Nat.zero_le _, rfl, fun j h h0 => absurd h0 (by omega)⟩
  case round =>
    obtain ⟨f, hf, rfl, H1⟩ := hrel
    by_cases hlt : f < s.size
    · have hbe := blank_eq s[f]
      cases hb : blankI s[f].toNat
      · -- the first that is no blank
        have h2 : ∀ t, ∀ h : f < s.size, f < t → blanks.contains s[f] = false := fun t h _ => by rw [← hbe, hb]
        have H2 := Lib.hid h2; clear h2 hbe
        have c1 : ((s[f].toNat : Int) == 32) = false := by unfold blankI at hb; simp at hb ⊢; exact hb.1
        have c2 : ((s[f].toNat : Int) == 9) = false := by unfold blankI at hb; simp at hb ⊢; exact hb.2
        clear hb
        go_wp2
        clear c1 c2
        go_loop [4] (fun a => ∃ t : Nat, f ≤ t ∧ t ≤ s.size ∧ a = .int .i64 t ∧ Hid (∀ j (h : j < s.size), t ≤ j → blanks.contains s[j] = true)) (fun a => (intOf a).toNat)
        case atStart => exact ⟨s.size, hf, Nat.le_refl _, rfl, fun j h h0 => absurd h0 (by omega)⟩
        case round =>
          obtain ⟨t, hft, hts, rfl, H3⟩ := hrel
          by_cases hlt2 : f < t
          · have htl : t - 1 < s.size := by omega
            have hbe := blank_eq s[t - 1]
            have d1 : (1 : Int) ≤ t := by omega
            cases hb : blankI s[t - 1].toNat
            · have hfin := HC.out f t hft hts H1.out (fun h h' => H2.out t h h') H3.out (fun _ _ => by rw [← hbe, hb])
              have HF := Lib.hid hfin; clear hfin hbe
              have c1 : ((s[t - 1].toNat : Int) == 32) = false := by unfold blankI at hb; simp at hb ⊢; exact hb.1
              have c2 : ((s[t - 1].toNat : Int) == 9) = false := by unfold blankI at hb; simp at hb ⊢; exact hb.2
              clear hb
              go_wp2
              go_ret
              exact ⟨by rw [← HF.out]; rfl, rfl⟩
            · have hn : ∀ j (h : j < s.size), t - 1 ≤ j → blanks.contains s[j] = true := by
                intro j h hj
                by_cases e : j = t - 1
                · subst e; rw [← hbe, hb]
                · exact H3.out j h (by omega)
              have HN := Lib.hid hn; clear hn hbe
              cases c1 : ((s[t - 1].toNat : Int) == 32) <;> cases c2 : ((s[t - 1].toNat : Int) == 9)
              · exfalso; unfold blankI at hb; rw [c1, c2] at hb; simp at hb
              all_goals
                clear hb
                go_wp2
                go_round
                case rel => exact ⟨t - 1, by omega, by omega, by go_num, HN⟩
                case measure => simp [intOf]; omega
          · have hfin := HC.out f t hft hts H1.out (fun h h' => H2.out t h h') H3.out (fun h => absurd h hlt2)
            have HF := Lib.hid hfin; clear hfin
            go_wp2
            go_ret
            exact ⟨by rw [← HF.out]; rfl, rfl⟩
      · have hn : ∀ j (h : j < s.size), j < f + 1 → blanks.contains s[j] = true := by
          intro j h hj
          by_cases e : j = f
          · subst e; rw [← hbe, hb]
          · exact H1.out j h (by omega)
        have HN := Lib.hid hn; clear hn hbe
        cases c1 : ((s[f].toNat : Int) == 32) <;> cases c2 : ((s[f].toNat : Int) == 9)
        · exfalso; unfold blankI at hb; rw [c1, c2] at hb; simp at hb
        all_goals
          clear hb
          go_wp2
          go_round
          case rel => exact ⟨f + 1, by omega, by go_num, HN⟩
          case measure => simp [intOf]; omega
    · have h2 : ∀ t, ∀ h : f < s.size, f < t → blanks.contains s[f] = false := fun t h _ => absurd h hlt
      have H2 := Lib.hid h2; clear h2
      · go_wp2
        go_loop [4] (fun a => ∃ t : Nat, f ≤ t ∧ t ≤ s.size ∧ a = .int .i64 t ∧ Hid (∀ j (h : j < s.size), t ≤ j → blanks.contains s[j] = true)) (fun a => (intOf a).toNat)
        case atStart => exact ⟨s.size, hf, Nat.le_refl _, rfl, fun j h h0 => absurd h0 (by omega)⟩
        case round =>
          obtain ⟨t, hft, hts, rfl, H3⟩ := hrel
          by_cases hlt2 : f < t
          · exact absurd hlt2 (by omega)
          · have hfin := HC.out f t hft hts H1.out (fun h h' => H2.out t h h') H3.out (fun h => absurd h hlt2)
            have HF := Lib.hid hfin; clear hfin
            go_wp2
            go_ret
            exact ⟨by rw [← HF.out]; rfl, rfl⟩
end Go.Proofs.YthnfmhjjpodhfaaDoor
