/- The document's word on whether a field may be. -/
import Derived.Test.YthppcaoldobocaaDoorMay
namespace Go.Proofs.YthppcaoldobocaaDoor
open Go.RowKit
set_option maxRecDepth 100000

theorem trim_head {c : UInt8} {r : List UInt8} (h : trimL (c :: r) = c :: r) : blanks.contains c = false := by
  unfold trimL Lib.trimS Lib.trimLeftS at h
  cases hb : blanks.contains c
  · rfl
  · exfalso
    have h2 : ∀ l : List UInt8, l.dropWhile (blanks.contains ·) = c :: r → False := by
      intro l
      induction l with
      | nil => intro h; cases h
      | cons x y ih =>
        intro h
        cases hx : blanks.contains x
        · rw [List.dropWhile_cons_of_neg (by rw [hx]; decide)] at h
          cases h; rw [hb] at hx; cases hx
        · rw [List.dropWhile_cons_of_pos hx] at h
          exact ih h
    exact h2 _ h
theorem trim_last {c : UInt8} {r : List UInt8} (h : trimL (r ++ [c]) = r ++ [c]) : blanks.contains c = false := by
  unfold trimL Lib.trimS Lib.trimLeftS Lib.trimRightS at h
  cases hb : blanks.contains c
  · rfl
  · exfalso
    have e : (r ++ [c]).reverse = c :: r.reverse := by simp
    rw [e, List.dropWhile_cons_of_pos (by exact hb)] at h
    have h1 := congrArg List.length h
    have h2 := (List.dropWhile_sublist (blanks.contains ·) (l := (r.reverse.dropWhile (blanks.contains ·)).reverse)).length_le
    have h3 := (List.dropWhile_sublist (blanks.contains ·) (l := r.reverse)).length_le
    simp at h1 h2 h3
    omega
/-- A blank at either end: no value. -/
theorem fval_edge (s : ByteArray) (k : Nat) (h : k < s.size) (he : k = 0 ∨ k = s.size - 1) (hb : blanks.contains s[k] = true) : fvalL s.data.toList = false := by
  unfold fvalL
  have : (trimL s.data.toList == s.data.toList) = false := by
    rw [beq_eq_false_iff_ne]
    intro ht
    have hl : k < s.data.toList.length := by rw [← Lib.size_eq]; exact h
    have hk : s[k] = s.data.toList[k] := at_list s k h
    rw [hk] at hb
    have hsz := Lib.size_eq s
    clear hk
    rcases he with rfl | rfl
    · generalize s.data.toList = l at *
      cases l with
      | nil => simp at hl
      | cons c r =>
        have := trim_head ht
        simp only [List.getElem_cons_zero] at hb
        rw [hb] at this; cases this
    · generalize s.data.toList = l at *
      rcases List.eq_nil_or_concat l with rfl | ⟨r, c, rfl⟩
      · simp at hl
      · rw [List.concat_eq_append] at ht hsz
        have := trim_last ht
        have he : (r.concat c)[s.size - 1] = c := by
          rw [List.length_append, List.length_singleton] at hsz
          simp only [List.concat_eq_append]
          rw [List.getElem_append_right (by omega)]
          simp
        rw [he, this] at hb; cases hb
  rw [this, Bool.and_false]
theorem fval_edges (s : ByteArray) (h : s.data.toList.all fvalb = true) (h1 : ∀ k (h : k < s.size), (k = 0 ∨ k = s.size - 1) → blanks.contains s[k] = false) : fvalL s.data.toList = true := by
  unfold fvalL
  rw [h]
  by_cases h0 : 0 < s.size
  · have hc := trim_cut s 0 s.size (Nat.zero_le _) (Nat.le_refl _) (fun j _ hj => absurd hj (by omega)) (fun hs _ => h1 0 hs (Or.inl rfl)) (fun j hj hj2 => absurd hj2 (by omega)) (fun _ hj => h1 _ hj (Or.inr rfl))
    have he : s.extract 0 s.size = s := by simp
    rw [he] at hc
    have := congrArg (fun b : ByteArray => b.data.toList) hc
    simp only at this
    rw [← this]; simp
  · have : s.data.toList = [] := List.length_eq_zero_iff.1 (by rw [← Lib.size_eq]; omega)
    rw [this]; rfl

theorem blank_yes {c : UInt8} (h : blanks.contains c = true) : ((c.toNat : Int) == 32) = true ∨ (((c.toNat : Int) == 32) = false ∧ ((c.toNat : Int) == 9) = true) := by
  rw [← blank_eq] at h; unfold blankI at h
  cases h1 : ((c.toNat : Int) == 32)
  · right; rw [h1] at h; exact ⟨rfl, by simpa using h⟩
  · left; rfl
theorem blank_no {c : UInt8} (h : blanks.contains c = false) : ((c.toNat : Int) == 32) = false ∧ ((c.toNat : Int) == 9) = false := by
  rw [← blank_eq] at h; unfold blankI at h
  simpa using h

set_option maxHeartbeats 8000000 in
theorem rfmay_any (n s : ByteArray) (w : World) (hn : n.size ≤ 1000000) (hs : s.size ≤ 1000000) :
    Calls Tryd.prog 43 #[.agg #[.string n, .string s]] w fun e w' => e = .returned (.bool (mayL (n.data.toList, s.data.toList))) ∧ Below w.heap.size w w' := by
  have k1 := fun w => rtoken_any n w hn
  have hB : ∀ k (h : k < s.size), fvalb s[k] = false → mayL (n.data.toList, s.data.toList) = false := by
    intro k h hk; unfold mayL fvalL; rw [all_bad fvalb s k h hk]; simp
  have hE : ∀ k (h : k < s.size), (k = 0 ∨ k = s.size - 1) → blanks.contains s[k] = true → mayL (n.data.toList, s.data.toList) = false := by
    intro k h he hk; unfold mayL; simp only; rw [fval_edge s k h he hk, Bool.and_false]
  have hQ : ∀ k, (s.data.toList.take k).all fvalb = true → (∀ j (h : j < s.size), j < k → (j = 0 ∨ j = s.size - 1) → blanks.contains s[j] = false) → s.size ≤ k → mayL (n.data.toList, s.data.toList) = tokenL n.data.toList := by
    intro k h h1 hk; rw [take_all s k hk] at h; unfold mayL; simp only; rw [fval_edges s h (fun j hj he => h1 j hj (by omega) he), Bool.and_true]
  have HB := Lib.hid hB; have HE := Lib.hid hE; have HQ := Lib.hid hQ; have K1 := Lib.hid k1
  clear hB hE hQ k1
  generalize mayL (n.data.toList, s.data.toList) = out at *
  generalize tokenL n.data.toList = t at *
  have hbb : Below w.heap.size w (w.alloc (.cells #[.string n, .string s] 37)) := (Below.refl w.heap.size w).alloc (Nat.le_refl _) _
  go_enter Tryd.func43, Tryd.ntmps43
  go_wp2
  go_loop [4] (fun i => ∃ k : Nat, k ≤ s.size ∧ i = .int .i64 k ∧ Hid ((s.data.toList.take k).all fvalb = true) ∧ Hid (∀ j (h : j < s.size), j < k → (j = 0 ∨ j = s.size - 1) → blanks.contains s[j] = false)) (fun i => s.size - (intOf i).toNat)
  case atStart => exact ⟨0, Nat.zero_le _, rfl, by show _ = _; simp, Lib.hid (fun j _ h => absurd h (by omega))⟩
  case round =>
    obtain ⟨k, hk, rfl, Hall, Hed⟩ := hrel
    by_cases hlt : k < s.size
    · cases hp : fvalb s[k]
      · have hf := HB.out k hlt hp
        have Hf := Lib.hid hf; clear hf
        rcases fval_no hp with ⟨c1, c2, c3⟩ | ⟨c1, c3⟩
        all_goals
          clear hp
          go_wp2
          go_ret
          exact ⟨by rw [Hf.out]; rfl, hbb⟩
      · have hn : (s.data.toList.take (k + 1)).all fvalb = true := by rw [all_snoc fvalb s k hlt, Hall.out, hp]; rfl
        have Hn := Lib.hid hn; clear hn
        have hY := fval_yes hp
        clear hp
        cases hbl : blanks.contains s[k]
        · have hed : ∀ j (h : j < s.size), j < k + 1 → (j = 0 ∨ j = s.size - 1) → blanks.contains s[j] = false := by
            intro j h hj he
            by_cases hjk : j = k
            · subst hjk; exact hbl
            · exact Hed.out j h (by omega) he
          have Hed2 := Lib.hid hed; clear hed
          obtain ⟨e3, e4⟩ := blank_no hbl
          clear hbl
          cases e1 : ((k : Int) == 0) <;> cases e2 : ((k : Int) == (s.size : Int) - 1)
          all_goals
            obtain ⟨c3, ⟨c1, c2⟩ | c1⟩ := hY
            all_goals
              go_wp2
              go_round
              case rel => exact ⟨k + 1, by omega, by go_num, Hn, Hed2⟩
              case measure => simp [intOf]; omega
        · by_cases hed : k = 0 ∨ k = s.size - 1
          · have hf := HE.out k hlt hed hbl
            have Hf := Lib.hid hf; clear hf
            have hF := blank_yes hbl
            clear hbl
            have h12 : ((k : Int) == 0) = true ∨ (((k : Int) == 0) = false ∧ ((k : Int) == (s.size : Int) - 1) = true) := by
              by_cases h0 : k = 0
              · left; simp [h0]
              · right; simp; omega
            clear hed
            rcases h12 with e1 | ⟨e1, e2⟩
            all_goals
              rcases hF with e3 | ⟨e3, e4⟩
              all_goals
                obtain ⟨c3, ⟨c1, c2⟩ | c1⟩ := hY
                all_goals
                  go_wp2
                  go_ret
                  exact ⟨by rw [Hf.out]; rfl, hbb⟩
          · have e1 : ((k : Int) == 0) = false := by simp; omega
            have e2 : ((k : Int) == (s.size : Int) - 1) = false := by simp; omega
            have hed2 : ∀ j (h : j < s.size), j < k + 1 → (j = 0 ∨ j = s.size - 1) → blanks.contains s[j] = false := by
              intro j h hj he
              by_cases hjk : j = k
              · subst hjk; exact absurd he hed
              · exact Hed.out j h (by omega) he
            have Hed2 := Lib.hid hed2; clear hed2 hed hbl
            obtain ⟨c3, ⟨c1, c2⟩ | c1⟩ := hY
            all_goals
              go_wp2
              go_round
              case rel => exact ⟨k + 1, by omega, by go_num, Hn, Hed2⟩
              case measure => simp [intOf]; omega
    · have hf := HQ.out k Hall.out (fun j h _ he => Hed.out j h (by omega) he) (by omega)
      have Hf := Lib.hid hf; clear hf
      go_wp2_with fail
      refine (K1.out _).mono ?_
      rintro e w1 ⟨rfl, rfl⟩
      go_wp2
      go_ret
      exact ⟨by rw [Hf.out]; rfl, hbb⟩
end Go.Proofs.YthppcaoldobocaaDoor
