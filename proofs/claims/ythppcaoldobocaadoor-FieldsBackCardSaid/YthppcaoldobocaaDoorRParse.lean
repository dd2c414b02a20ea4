/- The document's Parse of layer 4. -/
import Derived.Test.YthppcaoldobocaaDoorROne
namespace Go.Proofs.YthppcaoldobocaaDoor
open Go.RowKit
set_option maxRecDepth 100000

theorem occ2 (l : List UInt8) (a b : UInt8) (i : Nat) : Lib.occAt l [a, b] i = (l[i]? == some a && l[i + 1]? == some b) := by
  have e0 : l[i]? = (l.drop i)[0]? := by rw [List.getElem?_drop]; rfl
  have e1 : l[i + 1]? = (l.drop i)[1]? := by rw [List.getElem?_drop]
  unfold Lib.occAt
  rw [e0, e1]
  generalize l.drop i = d
  rcases d with _ | ⟨x, _ | ⟨y, r⟩⟩
  · rfl
  · simp [List.isPrefixOf]
  · simp [List.isPrefixOf]
    rw [Bool.eq_iff_iff]
    simp only [Bool.and_eq_true, beq_iff_eq]
    exact ⟨fun ⟨h1, h2⟩ => ⟨h1.symm, h2.symm⟩, fun ⟨h1, h2⟩ => ⟨h1.symm, h2.symm⟩⟩
/-- A line's end stands at a place. -/
def crAt (s : ByteArray) (i : Nat) : Prop := ∃ (h : i + 1 < s.size), s[i] = 13 ∧ s[i + 1] = 10
theorem crAt_occ (s : ByteArray) (p j : Nat) : Lib.occAt (s.data.toList.drop p) crlf j = true ↔ crAt s (p + j) := by
  rw [show crlf = [13, 10] from rfl, occ2, List.getElem?_drop, List.getElem?_drop, Bool.and_eq_true, beq_iff_eq, beq_iff_eq]
  constructor
  · rintro ⟨h1, h2⟩
    obtain ⟨l1, g1⟩ := List.getElem?_eq_some_iff.1 h1
    obtain ⟨l2, g2⟩ := List.getElem?_eq_some_iff.1 h2
    have hs := Lib.size_eq s
    refine ⟨by omega, ?_, ?_⟩
    · rw [at_list s (p + j) (by omega)]; exact g1
    · rw [at_list s (p + j + 1) (by omega)]; exact g2
  · rintro ⟨h, h1, h2⟩
    rw [at_list] at h1 h2
    exact ⟨by rw [List.getElem?_eq_some_iff]; exact ⟨_, h1⟩, by rw [List.getElem?_eq_some_iff]; exact ⟨_, h2⟩⟩
theorem cut_hit2 (s : ByteArray) (p i : Nat) (hp : p ≤ i) (h : crAt s i) (hno : ∀ j, p ≤ j → j < i → ¬ crAt s j) :
    Lib.cut (s.data.toList.drop p) crlf = ((s.extract p i).data.toList, s.data.toList.drop (i + 2), true) := by
  have hsz := Lib.size_eq s
  have hi1 : i + 1 < s.size := h.1
  have hi : Lib.index (s.data.toList.drop p) crlf = (i - p : Nat) := by
    refine Lib.index_first (by rw [List.length_drop]; omega) ((crAt_occ s p (i - p)).2 (by rw [show p + (i - p) = i from by omega]; exact h)) (fun j hj => ?_)
    cases hq : Lib.occAt (s.data.toList.drop p) crlf j
    · rfl
    · exact absurd ((crAt_occ s p j).1 hq) (hno _ (by omega) (by omega))
  unfold Lib.cut
  rw [hi, if_pos (by omega)]
  have e : ((i - p : Nat) : Int).toNat = i - p := by omega
  rw [e, List.drop_drop, Lib.extract_data, show p + (i - p + crlf.length) = i + 2 from by rw [show crlf.length = 2 from rfl]; omega]
theorem cut_miss2 (s : ByteArray) (p : Nat) (hno : ∀ j, p ≤ j → ¬ crAt s j) : (Lib.cut (s.data.toList.drop p) crlf).2.2 = false := by
  have hi : Lib.index (s.data.toList.drop p) crlf = -1 := by
    refine Lib.index_none (fun j hj => ?_)
    cases hq : Lib.occAt (s.data.toList.drop p) crlf j
    · rfl
    · exact absurd ((crAt_occ s p j).1 hq) (hno _ (by omega))
  unfold Lib.cut
  rw [hi, if_neg (by omega)]
theorem drop_ne (s : ByteArray) (p : Nat) (h : p < s.size) : (s.data.toList.drop p).isEmpty = false := by
  rw [drop_cons s p h]; rfl
theorem parR_hit (s : ByteArray) (p i : Nat) (hp : p ≤ i) (h : crAt s i) (hno : ∀ j, p ≤ j → j < i → ¬ crAt s j) (acc : List Fld) :
    parR (s.data.toList.drop p) acc = bif acc.length == 64 then ([], 3) else bif oneE (s.extract p i).data.toList != 0 then ([], oneE (s.extract p i).data.toList) else parR (s.data.toList.drop (i + 2)) (acc ++ [oneF (s.extract p i).data.toList]) := by
  have hi1 : i + 1 < s.size := h.1
  rw [parR_step _ _ (drop_ne s p (by omega)), cut_hit2 s p i hp h hno]
  rfl
theorem parR_miss (s : ByteArray) (p : Nat) (h : p < s.size) (hno : ∀ j, p ≤ j → ¬ crAt s j) (acc : List Fld) : parR (s.data.toList.drop p) acc = ([], 4) := by
  rw [parR_step _ _ (drop_ne s p h), cut_miss2 s p hno]
  rfl
theorem crAt_cases (s : ByteArray) (i : Nat) (h : i + 1 < s.size) : (crAt s i ∧ ((s[i].toNat : Int) != 13) = false ∧ ((s[i + 1].toNat : Int) != 10) = false) ∨ (¬ crAt s i ∧ (((s[i].toNat : Int) != 13) = true ∨ (((s[i].toNat : Int) != 13) = false ∧ ((s[i + 1].toNat : Int) != 10) = true))) := by
  have e : ∀ (c d : UInt8), ((c.toNat : Int) != (d.toNat : Int)) = !(c == d) := by
    intro c d; rw [Bool.eq_iff_iff]; simp [← UInt8.toNat_inj]; omega
  have e1 := e s[i] 13; have e2 := e s[i + 1] 10
  rw [show (((13 : UInt8).toNat : Int)) = 13 from rfl] at e1
  rw [show (((10 : UInt8).toNat : Int)) = 10 from rfl] at e2
  rw [e1, e2]
  by_cases h1 : s[i] = 13
  · by_cases h2 : s[i + 1] = 10
    · left; exact ⟨⟨h, h1, h2⟩, by simp [h1], by simp [h2]⟩
    · right; exact ⟨fun ⟨_, _, x⟩ => h2 x, Or.inr ⟨by simp [h1], by simp [h2]⟩⟩
  · right; exact ⟨fun ⟨_, x, _⟩ => h1 x, Or.inl (by simp [h1])⟩

set_option maxHeartbeats 8000000 in
theorem rparse4_any (s : ByteArray) (w : World) (hs : s.size ≤ 1000000) :
    Calls Tryd.prog 13 #[.string s] w (FErrPost w (parseL s.data.toList)) := by
  have hP : parseL s.data.toList = parR (s.data.toList.drop 0) [] := rfl
  generalize parseL s.data.toList = tot at *
  have HP := Lib.hid hP; clear hP
  have hB0 := Below.refl w.heap.size w
  have k1 := fun p i w => rone_any (s.extract p i) w (by rw [ByteArray.size_extract]; omega)
  have HH := Lib.hid (parR_hit s); have HM := Lib.hid (parR_miss s); have HC := Lib.hid (crAt_cases s); have K1 := Lib.hid k1
  clear k1
  go_enter Tryd.func13, Tryd.ntmps13
  go_wp2_with fail
  go_loopw [4, 5, 6] (fun out x i wr => ∃ (p k : Nat) (acc : List Fld), x = .int .i64 p ∧ i = .int .i64 k ∧ p ≤ s.size ∧ k ≤ s.size ∧ acc.length ≤ 64 ∧ Hid (OwnF w.heap.size out acc wr) ∧ Below w.heap.size w wr ∧ Hid (parR (s.data.toList.drop p) acc = tot) ∧ Hid (∀ j, p ≤ j → j < k → ¬ crAt s j)) (fun _ _ i _ => s.size - (intOf i).toNat)
  case atStart => exact ⟨0, 0, [], rfl, rfl, Nat.zero_le _, Nat.zero_le _, Nat.zero_le _, Lib.hid (OwnF.nil _ _), hB0, Lib.hid HP.out.symm, Lib.hid (fun j _ h => absurd h (by omega))⟩
  case round =>
    clear hB0 HP
    obtain ⟨p, k, acc, rfl, rfl, hps, hks, hacc, HO, hbw, HT, HN⟩ := hrel
    obtain ⟨A, C, rfl⟩ := HO.out.shape
    by_cases hlt : k + 1 < s.size
    · by_cases hkp : k < p
      · have hn : ∀ j, p ≤ j → j < k + 1 → ¬ crAt s j := fun j h1 h2 => absurd h1 (by omega)
        have HN2 := Lib.hid hn; clear hn HN HH HM HC
        go_wp2_with fail
        go_roundw
        case rel => exact ⟨p, k + 1, acc, rfl, by go_num, hps, by omega, hacc, HO, hbw, HT, HN2⟩
        case measure => simp [intOf]; omega
      · rcases HC.out k hlt with ⟨hc, c1, c2⟩ | ⟨hc, hcc⟩
        · have hstep := HH.out p k (by omega) hc HN.out acc
          rw [HT.out] at hstep
          have hn : ∀ j, k + 2 ≤ j → j < k + 1 → ¬ crAt s j := fun j h1 h2 => absurd h1 (by omega)
          have HN2 := Lib.hid hn
          clear hn HN HH HM HC HT hc
          have k1 := K1.out p k
          unfold oneV at k1
          generalize oneE (s.extract p k).data.toList = oe at *
          generalize oneF (s.extract p k).data.toList = f at *
          obtain ⟨nm, tv⟩ := f
          have K := Lib.hid k1; clear k1 K1
          have hk2 : k + 2 ≤ s.size := hlt
          by_cases hfull : acc.length = 64
          · rw [show (acc.length == 64) = true from by simp [hfull], cond_true] at hstep
            subst hstep
            have t1 : ((acc.length : Int) == 64) = true := by simp; omega
            go_wp2_with fail
            go_ret2
            exact FErrPost.none hbw
          · rw [show (acc.length == 64) = false from by simp [hfull], cond_false] at hstep
            have t1 : ((acc.length : Int) == 64) = false := by simp; omega
            by_cases hz : oe = 0
            · subst hz
              have ht2 : parR (s.data.toList.drop (k + 2)) (acc ++ [(nm, tv)]) = tot := hstep.symm
              have HT2 := Lib.hid ht2; clear ht2 hstep
              go_wp2_with fail
              refine (K.out _).mono ?_
              rintro e w1 ⟨rfl, hb1⟩
              have hB1 := bt hbw hb1
              have HO1 := Lib.hid ((HO.out.below hb1).below ((Below.refl w1.heap.size w1).alloc (Nat.le_refl _) (.cells #[.string ⟨nm.toArray⟩, .string ⟨tv.toArray⟩] 37)))
              have hAl := hB1.alloc hB1.size (.cells #[.string ⟨nm.toArray⟩, .string ⟨tv.toArray⟩] 37)
              have hacc2 : acc.length ≤ 1000000000 := by omega
              go_wp2_with (at_builtin; refine app_fld w.heap.size (nm, tv) HO1.out hAl.size hacc2 rfl _ _ rfl rfl (by show Value.slice _ _ _ = _; simp) ?_)
              intro v' w6 hO6 hb6 _
              have HO6 := Lib.hid hO6; clear hO6
              go_wp2
              go_roundw
              case rel => exact ⟨k + 2, k + 1, acc ++ [(nm, tv)], by go_num, by go_num, by omega, by omega, by simp; omega, HO6, hAl.trans hb6, HT2, HN2⟩
              case measure => simp [intOf]; omega
            · have hb : (oe == 0) = false := by simp [hz]
              have hb2 : (oe != 0) = true := by simp [hz]
              rw [hb2, cond_true] at hstep
              subst hstep
              have k1 := K.out
              rw [hb] at k1
              simp only [cond_false] at k1
              have K2 := Lib.hid k1; clear k1 K
              go_wp2_with fail
              refine (K2.out _).mono ?_
              rintro e w1 ⟨rfl, hb1⟩
              have hB1 := bt hbw hb1
              have hAl := hB1.alloc hB1.size (.cells #[.string ⟨#[]⟩, .string ⟨#[]⟩] 37)
              go_wp2_with fail
              go_ret2
              exact FErrPost.none hAl
        · have hn : ∀ j, p ≤ j → j < k + 1 → ¬ crAt s j := by
            intro j h1 h2
            by_cases h : j = k
            · subst h; exact hc
            · exact HN.out j h1 (by omega)
          have HN2 := Lib.hid hn; clear hn HN HH HM HC hc
          rcases hcc with c1 | ⟨c1, c2⟩
          all_goals
            go_wp2_with fail
            go_roundw
            case rel => exact ⟨p, k + 1, acc, rfl, by go_num, hps, by omega, hacc, HO, hbw, HT, HN2⟩
            case measure => simp [intOf]; omega
    · by_cases hps2 : p < s.size
      · have ht := HM.out p hps2 (fun j h1 ⟨h2, h3⟩ => HN.out j h1 (by omega) ⟨h2, h3⟩) acc
        rw [HT.out] at ht
        subst ht
        clear HN HH HM HC HT K1
        go_wp2_with fail
        go_ret2
        exact FErrPost.none hbw
      · have ht := HT.out
        rw [drop_all s p (by omega), parR_nil] at ht
        subst ht
        clear HN HH HM HC HT K1
        go_wp2_with fail
        go_ret2
        exact ⟨A, C, rfl, HO.out, hbw⟩
end Go.Proofs.YthppcaoldobocaaDoor
