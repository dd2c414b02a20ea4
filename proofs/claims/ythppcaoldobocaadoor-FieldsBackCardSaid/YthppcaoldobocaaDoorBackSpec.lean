/- Fields that are put are read back: the plain law. -/
import Derived.Test.YthppcaoldobocaaDoorPut04
import Derived.Test.YthppcaoldobocaaDoorRParse
import Derived.Test.YthppcaoldobocaaDoorStaysSpec
namespace Go.Proofs.YthppcaoldobocaaDoor
open Go.RowKit
set_option maxRecDepth 100000

def goodF (f : Fld) : Prop := mayL f = true ∧ longL f = false
theorem chkR_zero : ∀ xs : List Fld, chkR xs = 0 ↔ ∀ f ∈ xs, goodF f
  | [] => by simp [chkR]
  | f :: r => by
    have ih := chkR_zero r
    rw [chkR, List.forall_mem_cons, ← ih]
    unfold goodF
    cases mayL f <;> cases longL f <;> simp
theorem checkL_zero (xs : List Fld) : checkL xs = 0 ↔ xs.length ≤ 64 ∧ ∀ f ∈ xs, goodF f := by
  unfold checkL
  by_cases h : 64 < xs.length
  · rw [decide_eq_true h, cond_true]
    constructor
    · intro h; cases h
    · intro ⟨h1, _⟩; omega
  · rw [decide_eq_false h, cond_false, chkR_zero]
    exact ⟨fun x => ⟨by omega, x⟩, fun x => x.2⟩

/-- What Parse answers: fields that may be; none beside a reason. -/
def GoodR (r : List Fld × Int) : Prop := (∀ f ∈ r.1, goodF f) ∧ r.1.length ≤ 64 ∧ (r.2 = 0 ∨ r.1 = [])
theorem oneE_good {l : List UInt8} (h : oneE l = 0) : goodF (oneF l) := by
  unfold oneE at h
  unfold goodF
  cases h1 : decide (2048 < l.length)
  · rw [h1, cond_false] at h
    cases h2 : ((!(Lib.cut l [58]).2.2) || !mayL (oneF l))
    · rw [h2, cond_false] at h
      cases h3 : longL (oneF l)
      · simp at h2; exact ⟨h2.2, rfl⟩
      · rw [h3] at h; cases h
    · rw [h2] at h; cases h
  · rw [h1] at h; cases h
theorem parF_good : ∀ (n : Nat) (s : List UInt8) (acc : List Fld), (∀ f ∈ acc, goodF f) → acc.length ≤ 64 → GoodR (parF n s acc)
  | 0, _, acc, h1, h2 => ⟨h1, h2, Or.inl rfl⟩
  | n + 1, s, acc, h1, h2 => by
    have hz : ∀ e, GoodR ([], e) := fun e => ⟨fun f hf => by simp at hf, by simp, Or.inr rfl⟩
    unfold parF
    cases s.isEmpty <;> simp only [cond_true, cond_false]
    · cases (Lib.cut s crlf).2.2 <;> simp only [Bool.not_true, Bool.not_false, cond_true, cond_false]
      · exact hz _
      · cases h6 : (acc.length == 64) <;> simp only [cond_true, cond_false]
        · cases h7 : (oneE (Lib.cut s crlf).1 != 0) <;> simp only [cond_true, cond_false]
          · refine parF_good n _ _ (fun f hf => ?_) (by simp at h6; simp; omega)
            rcases List.mem_append.1 hf with h | h
            · exact h1 f h
            · rw [List.mem_singleton.1 h]; exact oneE_good (by simpa using h7)
          · exact hz _
        · exact hz _
    · exact ⟨h1, h2, Or.inl rfl⟩
theorem parseL_good (s : List UInt8) : GoodR (parseL s) := parF_good _ _ _ (fun f hf => by simp at hf) (by simp)

/-! A line that was put is read as its field. -/
theorem word_marks {c : UInt8} (h : wordb c = true) : c ≠ 13 ∧ c ≠ 58 := by
  constructor <;> rintro rfl <;> exact absurd h (by decide)
theorem fvalb_13 {c : UInt8} (h : fvalb c = true) : c ≠ 13 := by rintro rfl; exact absurd h (by decide)
theorem cut_at58 (a b : List UInt8) (h : ∀ c ∈ a, c ≠ 58) : Lib.cut (a ++ 58 :: b) [58] = (a, b, true) := by
  have hi : Lib.index (a ++ 58 :: b) [58] = a.length := by
    refine Lib.index_first (by simp) (by rw [occ1]; simp) (fun j hj => ?_)
    rw [occ1, List.getElem?_append_left hj, List.getElem?_eq_getElem hj, beq_eq_false_iff_ne]
    intro e; exact h _ (List.getElem_mem hj) (by injection e)
  unfold Lib.cut
  rw [hi, if_pos (by omega)]
  simp
theorem cut_atCr (a b : List UInt8) (h : ∀ c ∈ a, c ≠ 13) : Lib.cut (a ++ 13 :: 10 :: b) crlf = (a, b, true) := by
  have hi : Lib.index (a ++ 13 :: 10 :: b) crlf = a.length := by
    refine Lib.index_first (by simp) (by rw [show crlf = [13, 10] from rfl, occ2]; simp) (fun j hj => ?_)
    rw [show crlf = [13, 10] from rfl, occ2, List.getElem?_append_left hj, List.getElem?_eq_getElem hj]
    have : (some a[j] == some (13 : UInt8)) = false := by
      rw [beq_eq_false_iff_ne]; intro e; exact h _ (List.getElem_mem hj) (by injection e)
    rw [this]; rfl
  unfold Lib.cut
  rw [hi, if_pos (by omega), show crlf.length = 2 from rfl]
  simp
theorem trim_blank (v : List UInt8) (h : trimL v = v) : trimL (32 :: v) = v := by
  rcases List.eq_nil_or_concat v with rfl | ⟨r, c, rfl⟩
  · decide
  · rw [List.concat_eq_append] at *
    have hc := trim_last h
    unfold trimL Lib.trimS Lib.trimLeftS Lib.trimRightS at *
    have e1 : (r ++ [c]).reverse = c :: r.reverse := by simp
    have e2 : (32 :: (r ++ [c])).reverse = c :: (r.reverse ++ [32]) := by simp
    have hc' : ¬ blanks.contains c = true := by rw [hc]; decide
    rw [e1, List.dropWhile_cons_of_neg hc'] at h
    rw [e2, List.dropWhile_cons_of_neg hc']
    have e3 : (c :: r.reverse).reverse = r ++ [c] := by simp
    have e4 : (c :: (r.reverse ++ [32])).reverse = 32 :: (r ++ [c]) := by simp
    rw [e3] at h
    rw [e4, List.dropWhile_cons_of_pos (by decide)]
    exact h
theorem may_parts {f : Fld} (h : mayL f = true) : tokenL f.1 = true ∧ f.2.all fvalb = true ∧ trimL f.2 = f.2 := by
  unfold mayL fvalL at h
  rw [Bool.and_eq_true, Bool.and_eq_true] at h
  exact ⟨h.1, h.2.1, beq_iff_eq.1 h.2.2⟩
theorem line_one (f : Fld) (h : goodF f) : oneE (f.1 ++ ([58, 32] ++ f.2)) = 0 ∧ oneF (f.1 ++ ([58, 32] ++ f.2)) = f := by
  obtain ⟨h1, h2⟩ := h
  obtain ⟨ht, _, htr⟩ := may_parts h1
  have hcut : Lib.cut (f.1 ++ ([58, 32] ++ f.2)) [58] = (f.1, 32 :: f.2, true) := cut_at58 f.1 (32 :: f.2) (fun c hc => (word_marks ((token_all ht).1 c hc)).2)
  have hF : oneF (f.1 ++ ([58, 32] ++ f.2)) = f := by
    unfold oneF; rw [hcut]; simp only [trim_blank _ htr]
  refine ⟨?_, hF⟩
  unfold oneE
  rw [hF, hcut, h1, h2]
  have hl : decide (2048 < (f.1 ++ ([58, 32] ++ f.2)).length) = false := by
    unfold longL at h2; simp at h2 ⊢; omega
  rw [hl]; rfl
theorem line_no13 {f : Fld} (h : mayL f = true) : ∀ c ∈ f.1 ++ ([58, 32] ++ f.2), c ≠ 13 := by
  obtain ⟨ht, hv, _⟩ := may_parts h
  intro c hc
  rcases List.mem_append.1 hc with h | h
  · exact (word_marks ((token_all ht).1 c h)).1
  · rcases List.mem_append.1 h with h | h
    · simp at h; rcases h with rfl | rfl <;> decide
    · exact fvalb_13 (List.all_eq_true.1 hv c h)
theorem par_put : ∀ (xs acc : List Fld), (∀ f ∈ xs, goodF f) → acc.length + xs.length ≤ 64 → parR (putP xs) acc = (acc ++ xs, 0)
  | [], acc, _, _ => by rw [show putP [] = [] from rfl, parR_nil, List.append_nil]
  | f :: r, acc, h, hl => by
    have hf := h f (by simp)
    have e : putP (f :: r) = (f.1 ++ ([58, 32] ++ f.2)) ++ 13 :: 10 :: putP r := by
      unfold putP; rw [List.flatMap_cons]; unfold fldB; simp
    have hne : (putP (f :: r)).isEmpty = false := by
      rw [e, List.isEmpty_eq_false_iff]; simp
    obtain ⟨h1, h2⟩ := line_one f hf
    rw [parR_step _ _ hne, e, cut_atCr _ _ (line_no13 hf.1)]
    simp only [Bool.not_true, cond_false]
    rw [show (acc.length == 64) = false from by rw [beq_eq_false_iff_ne]; simp at hl; omega, cond_false, h1, h2]
    simp only [bne_self_eq_false, cond_false]
    rw [par_put r _ (fun g hg => h g (by simp [hg])) (by simp at hl ⊢; omega)]
    simp
theorem back_put {xs : List Fld} (h : checkL xs = 0) : parseL (putL xs) = (xs, 0) := by
  have h1 := (checkL_zero xs).1 h
  unfold putL
  rw [h]
  exact par_put xs [] h1.2 (by simpa using h1.1)
theorem parseL_check (s : List UInt8) : checkL (parseL s).1 = 0 := by
  have h := parseL_good s
  exact (checkL_zero _).2 ⟨h.2.1, h.1⟩
theorem putL_none {xs : List Fld} (h : checkL xs ≠ 0) : putL xs = [] := by
  unfold putL; rw [show (checkL xs != 0) = true from by simp [h]]; rfl
theorem putL_len (xs : List Fld) : (putL xs).length ≤ sumF xs + 4 * xs.length := by
  unfold putL
  cases (checkL xs != 0)
  · rw [cond_false, putP_len]; exact Nat.le_refl _
  · simp
theorem parseL_sum (s : List UInt8) : sumF (parseL s).1 ≤ 64 * 2048 := by
  have h := parseL_good s
  have key : ∀ xs : List Fld, (∀ f ∈ xs, goodF f) → sumF xs ≤ xs.length * 2048 := by
    intro xs
    induction xs with
    | nil => intro _; simp [sumF]
    | cons x r ih =>
      intro h
      have h1 := ih (fun f hf => h f (by simp [hf]))
      have h2 := (h x (by simp)).2
      unfold longL at h2
      unfold sumF at *
      rw [List.map_cons, List.sum_cons, List.length_cons]
      simp at h2
      omega
  have h1 := key _ h.1
  have h2 := h.2.1
  have h3 : (parseL s).1.length * 2048 ≤ 64 * 2048 := Nat.mul_le_mul_right _ h2
  omega
end Go.Proofs.YthppcaoldobocaaDoor
