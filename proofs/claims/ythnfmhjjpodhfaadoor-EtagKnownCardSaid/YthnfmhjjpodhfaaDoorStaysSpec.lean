/- What TextStays and TextKnown want of the plain functions. -/
import Derived.Lib.Join
import Derived.Test.YthnfmhjjpodhfaaDoorSplitSpec
import Derived.Lib.IndexMore
import Derived.Lib.IndexLaws
namespace Go.Proofs.YthnfmhjjpodhfaaDoor

theorem lowb_twice (c : UInt8) : lowb (lowb c) = lowb c := by
  by_cases h : (decide (65 ≤ c.toNat) && decide (c.toNat ≤ 90)) = true
  · have h1 : lowb c = c + 32 := by unfold lowb; rw [h]; rfl
    have h2 : (c + 32).toNat = c.toNat + 32 := by
      simp at h; rw [UInt8.toNat_add]; simp; omega
    have h3 : (decide (65 ≤ (c + 32).toNat) && decide ((c + 32).toNat ≤ 90)) = false := by simp at h ⊢; omega
    rw [h1]; unfold lowb; rw [h3]; rfl
  · have h' : (decide (65 ≤ c.toNat) && decide (c.toNat ≤ 90)) = false := by simpa using h
    have h1 : lowb c = c := by unfold lowb; rw [h']; rfl
    rw [h1, h1]
theorem lower_twice (l : List UInt8) : lowerL (lowerL l) = lowerL l := by
  unfold lowerL; rw [List.map_map]; apply List.map_congr_left; intro c _; exact lowb_twice c
theorem lower_length (l : List UInt8) : (lowerL l).length = l.length := by unfold lowerL; simp

theorem dw_idem (p : UInt8 → Bool) : ∀ l : List UInt8, (l.dropWhile p).dropWhile p = l.dropWhile p
  | [] => rfl
  | c :: r => by
    cases h : p c
    · rw [List.dropWhile_cons_of_neg (by simp [h]), List.dropWhile_cons_of_neg (by simp [h])]
    · rw [List.dropWhile_cons_of_pos h]; exact dw_idem p r
theorem dw_suffix (p : UInt8 → Bool) (l : List UInt8) : ∃ a, l = a ++ l.dropWhile p := ⟨l.takeWhile p, (List.takeWhile_append_dropWhile).symm⟩
theorem dw_none (p : UInt8 → Bool) (l : List UInt8) (h : ∀ c ∈ l, p c = false) : l.dropWhile p = l := by
  cases l with
  | nil => rfl
  | cons c r => rw [List.dropWhile_cons_of_neg (by simp [h c (by simp)])]
theorem trim_twice (l : List UInt8) : trimL (trimL l) = trimL l := by
  unfold trimL Lib.trimS Lib.trimLeftS Lib.trimRightS
  generalize (fun x => blanks.contains x) = p
  obtain ⟨a, ha⟩ := dw_suffix p (l.reverse.dropWhile p).reverse
  have hr : (l.reverse.dropWhile p).dropWhile p = l.reverse.dropWhile p := dw_idem _ _
  generalize l.reverse.dropWhile p = r at *
  have ht := dw_idem p r.reverse
  generalize r.reverse.dropWhile p = t at *
  have h1 : t.reverse.dropWhile p = t.reverse := by
    have h2 : r = t.reverse ++ a.reverse := by rw [← List.reverse_reverse r, ha]; simp
    cases h3 : t.reverse with
    | nil => rfl
    | cons x y =>
      rw [h3] at h2
      rw [h2] at hr
      cases hx : p x
      · rw [List.dropWhile_cons_of_neg (by simp [hx])]
      · exfalso
        rw [List.cons_append, List.dropWhile_cons_of_pos hx] at hr
        have := congrArg List.length hr
        have h4 : ((y ++ a.reverse).dropWhile p).length ≤ (y ++ a.reverse).length := (List.dropWhile_sublist p).length_le
        rw [List.length_cons] at this
        omega
  rw [h1, List.reverse_reverse, ht]
theorem trim_infix (l : List UInt8) : ∃ a b, l = a ++ (trimL l ++ b) := by
  unfold trimL Lib.trimS Lib.trimLeftS Lib.trimRightS
  generalize (fun x => blanks.contains x) = p
  obtain ⟨b, hb⟩ := dw_suffix p l.reverse
  obtain ⟨a, ha⟩ := dw_suffix p (l.reverse.dropWhile p).reverse
  refine ⟨a, b.reverse, ?_⟩
  rw [← List.append_assoc, ← ha, ← List.reverse_append, ← hb, List.reverse_reverse]
theorem contains_of (l t a b : List UInt8) (h : l = a ++ (t ++ b)) : Lib.contains l t = true := by
  unfold Lib.contains
  rcases Lib.index_spec l t with ⟨_, h2⟩ | ⟨i, h1, _⟩
  · exfalso
    have := h2 a.length (by rw [h]; simp)
    unfold Lib.occAt at this
    rw [h, List.drop_left] at this
    have h3 : t.isPrefixOf (t ++ b) = true := by rw [List.isPrefixOf_iff_prefix]; exact List.prefix_append _ _
    rw [h3] at this; cases this
  · rw [h1]; simp
theorem contains_trim (l : List UInt8) : Lib.contains l (trimL l) = true := by
  obtain ⟨a, b, h⟩ := trim_infix l
  exact contains_of _ _ _ _ h

theorem word_not {c : UInt8} (h : wordb c = true) : blanks.contains c = false ∧ (c.toNat == 34) = false ∧ (c.toNat == 92) = false := by
  have h0 : ∀ d : UInt8, wordb d = true → (blanks.contains d = false ∧ (d.toNat == 34) = false ∧ (d.toNat == 92) = false) := by
    intro d hd
    refine ⟨?_, ?_, ?_⟩
    · cases hb : blanks.contains d
      · rfl
      · have : d = 32 ∨ d = 9 := by simpa [blanks] using hb
        rcases this with e | e <;> subst e <;> exact absurd hd (by decide)
    · cases hb : (d.toNat == 34)
      · rfl
      · have : d = 34 := by rw [← UInt8.toNat_inj]; simpa using hb
        subst this; exact absurd hd (by decide)
    · cases hb : (d.toNat == 92)
      · rfl
      · have : d = 92 := by rw [← UInt8.toNat_inj]; simpa using hb
        subst this; exact absurd hd (by decide)
  exact h0 c h
theorem token_all {l : List UInt8} (h : tokenL l = true) : (∀ c ∈ l, wordb c = true) ∧ l.isEmpty = false := by
  unfold tokenL at h
  rw [Bool.and_eq_true] at h
  refine ⟨fun c hc => List.all_eq_true.1 h.1 c hc, ?_⟩
  cases hl : l.isEmpty
  · rfl
  · rw [hl] at h; exact absurd h.2 (by decide)
theorem trim_word (l : List UInt8) (h : ∀ c ∈ l, wordb c = true) : trimL l = l := by
  unfold trimL Lib.trimS Lib.trimLeftS Lib.trimRightS
  have h1 : l.reverse.dropWhile (fun x => blanks.contains x) = l.reverse := dw_none _ _ (fun c hc => (word_not (h c (by simpa using hc))).1)
  rw [h1, List.reverse_reverse]
  exact dw_none _ _ (fun c hc => (word_not (h c hc)).1)
theorem trim_token {l : List UInt8} (h : tokenL l = true) : trimL l = l := trim_word l (token_all h).1
theorem unqP_token {l : List UInt8} (h : tokenL l = true) : unqP l = none := by
  cases l with
  | nil => rfl
  | cons c r =>
    have hc := word_not ((token_all h).1 c (by simp))
    have : ((c :: r).head?.getD 0).toNat = c.toNat := rfl
    unfold unqP
    rw [this, hc.2.1]; simp
theorem spl_word (sep : UInt8) : ∀ (l cur : List UInt8), (∀ c ∈ l, wordb c = true) → (∀ c ∈ l, (c.toNat == sep.toNat) = false) → splP sep false false cur [] l = some (addP [] (trimL (cur ++ l)))
  | [], cur, _, _ => by simp [splP]
  | c :: r, cur, h1, h2 => by
    have hc := word_not (h1 c (by simp))
    have hs := h2 c (by simp)
    rw [splP, hc.2.1, hs]
    simp only [cond_false, Bool.false_and]
    rw [spl_word sep r (cur ++ [c]) (fun x hx => h1 x (by simp [hx])) (fun x hx => h2 x (by simp [hx]))]
    simp
theorem split_token {l : List UInt8} {sep : UInt8} (h : tokenL l = true) (hs : ∀ c ∈ l, (c.toNat == sep.toNat) = false) (h1 : (sep.toNat == 34) = false) (h2 : (sep.toNat == 92) = false) : splitL sep l = ([l], 0) := by
  have ht := token_all h
  unfold splitL
  rw [h1, h2, spl_word sep l [] ht.1 hs, List.nil_append, trim_token h]
  unfold addP; rw [ht.2]; rfl

/-- What 'pieces' hands back. -/
def piecesL (sep : UInt8) (l : List UInt8) : List UInt8 :=
  bif (splitL sep l).2 == 0 then Lib.join (splitL sep l).1 [124] else [101, 114, 114, 111, 114, 32, 48 + UInt8.ofNat (splitL sep l).2.toNat]
theorem pieces_token {l : List UInt8} {sep : UInt8} (h : tokenL l = true) (hs : ∀ c ∈ l, (c.toNat == sep.toNat) = false) (h1 : (sep.toNat == 34) = false) (h2 : (sep.toNat == 92) = false) : piecesL sep l = l := by
  unfold piecesL; rw [split_token h hs h1 h2]; exact Lib.join_one _ _
theorem split_err (sep : UInt8) (l : List UInt8) : 0 ≤ (splitL sep l).2 ∧ (splitL sep l).2 ≤ 4 := by
  unfold splitL
  cases (sep.toNat == 34 || sep.toNat == 92)
  · cases splP sep false false [] [] l with
    | none => simp [splitE]
    | some ls =>
      simp only [splitE, cond_false]
      cases h : decide (64 < ls.length) <;> simp
  · simp
/-- The pieces together are no longer than the text. -/
def total (ls : List (List UInt8)) : Nat := (ls.map List.length).sum
theorem total_addP (ls : List (List UInt8)) (p : List UInt8) : total (addP ls p) = total ls + p.length := by
  unfold addP total
  cases h : p.isEmpty
  · simp
  · simp at h; simp [h]
theorem spl_total (sep : UInt8) : ∀ (l : List UInt8) (o b : Bool) (cur : List UInt8) (ls ps : List (List UInt8)), splP sep o b cur ls l = some ps → total ps ≤ total ls + cur.length + l.length
  | [], o, b, cur, ls, ps, h => by
    cases o
    · simp [splP] at h; subst h; have := trimL_le cur; rw [total_addP]; simp; omega
    · simp [splP] at h
  | c :: r, o, b, cur, ls, ps, h => by
    have ih := spl_total sep r
    have ha := total_addP ls (trimL cur)
    have hb := trimL_le cur
    rw [splP] at h
    rw [List.length_cons]
    cases b
    · simp only [cond_false] at h
      cases hx : (o && c.toNat == 92) <;> rw [hx] at h <;> simp only [cond_true, cond_false] at h
      · cases h34 : (c.toNat == 34) <;> rw [h34] at h <;> simp only [cond_true, cond_false] at h
        · cases hy : (c.toNat == sep.toNat && !o) <;> rw [hy] at h <;> simp only [cond_true, cond_false] at h
          · have := ih _ _ _ _ _ h; simp at this; omega
          · have := ih _ _ _ _ _ h; simp at this; omega
        · have := ih _ _ _ _ _ h; simp at this; omega
      · have := ih _ _ _ _ _ h; simp at this; omega
    · simp only [cond_true] at h
      have := ih _ _ _ _ _ h; simp at this; omega
theorem split_total (sep : UInt8) (l : List UInt8) : total (splitL sep l).1 ≤ l.length := by
  unfold splitL
  cases (sep.toNat == 34 || sep.toNat == 92)
  · cases h : splP sep false false [] [] l with
    | none => simp [splitE, total]
    | some ls =>
      have h1 := spl_total sep l _ _ _ _ _ h
      simp only [splitE, cond_false]
      cases h : decide (64 < ls.length)
      · simpa [total] using h1
      · simp [total]
  · simp [total]
theorem join_le (sep : List UInt8) : ∀ ls : List (List UInt8), (Lib.join ls sep).length ≤ total ls + ls.length * sep.length
  | [] => by simp [Lib.join_nil]
  | [x] => by rw [Lib.join_one]; simp [total]
  | x :: y :: r => by
    have ih := join_le sep (y :: r)
    rw [Lib.join_cons] at ih ⊢
    unfold total at *
    simp [Lib.joinTail, Nat.add_mul] at ih ⊢
    omega
theorem total_mem {ls : List (List UInt8)} {x : List UInt8} (h : x ∈ ls) : x.length ≤ total ls := by
  unfold total
  induction ls with
  | nil => cases h
  | cons y r ih =>
    rw [List.map_cons, List.sum_cons]
    rcases List.mem_cons.1 h with rfl | h
    · omega
    · have := ih h; omega
end Go.Proofs.YthnfmhjjpodhfaaDoor
