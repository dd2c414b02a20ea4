/- What VaryChooses wants of the plain functions. -/
import Derived.Test.YtdlajobnnnmojaaDoorNamesSpec
import Derived.Test.YtdlajobnnnmojaaDoorVarySel
namespace Go.Proofs.YtdlajobnnnmojaaDoor

theorem addN_mem {acc : List (List UInt8)} {nm x : List UInt8} (h : x ∈ addN acc nm) : x ∈ acc ∨ x = nm := by
  unfold addN at h
  cases hc : acc.contains nm <;> rw [hc] at h
  · rcases List.mem_append.1 h with h | h
    · exact Or.inl h
    · exact Or.inr (List.mem_singleton.1 h)
  · exact Or.inl h
def goodN (M : Nat) (x : List UInt8) : Prop := nameOk x = true ∧ lowerL x = x ∧ x.length ≤ M
theorem namesPs_good (M : Nat) : ∀ (ps acc a : List (List UInt8)), (∀ p ∈ ps, p.length ≤ M) → (∀ x ∈ acc, goodN M x) → namesPs acc ps = some a → ∀ x ∈ a, goodN M x
  | [], acc, a, _, h, e => by cases e; exact h
  | p :: r, acc, a, hp, h, e => by
    rw [namesPs] at e
    cases hn : nameOk (lowerL p) <;> rw [hn] at e
    · cases e
    · refine namesPs_good M r _ a (fun q hq => hp q (by simp [hq])) (fun x hx => ?_) e
      rcases addN_mem hx with hx | rfl
      · exact h x hx
      · exact ⟨hn, lower_twice p, by rw [lower_length]; exact hp p (by simp)⟩
theorem namesVs_good (M : Nat) : ∀ (vs acc a : List (List UInt8)), (∀ v ∈ vs, v.length ≤ M) → (∀ x ∈ acc, goodN M x) → namesVs acc vs = some a → ∀ x ∈ a, goodN M x
  | [], acc, a, _, h, e => by cases e; exact h
  | v :: r, acc, a, hv, h, e => by
    rw [namesVs] at e
    cases he : ((splitL 44 v).2 == 0) <;> rw [he] at e
    · cases e
    · rw [cond_true] at e
      cases hp : namesPs acc (splitL 44 v).1 with
      | none => rw [hp] at e; cases e
      | some b =>
        rw [hp] at e
        refine namesVs_good M r b a (fun q hq => hv q (by simp [hq])) (namesPs_good M _ _ _ (fun p hp' => ?_) h hp) e
        exact Nat.le_trans (total_mem hp') (Nat.le_trans (split_total 44 v) (hv v (by simp)))
theorem namesO_good {M : Nat} {xs : List Fld} {l : List (List UInt8)} (h : ∀ f ∈ xs, f.2.length ≤ M) (e : namesO xs = some l) : ∀ x ∈ l, goodN M x := by
  refine namesVs_good M _ _ _ (fun v hv => ?_) (by simp) e
  obtain ⟨f, hf, e⟩ := valuesL_mem hv
  rw [← e]; exact h f hf
theorem goodN_is {M : Nat} {x : List UInt8} (h : goodN M x) : tokenL x = true ∧ (x == [42]) = false := by
  have := h.1
  unfold nameOk at this
  rw [Bool.and_eq_true] at this
  exact ⟨this.1, by simpa using this.2⟩
theorem choose_self (l : List (List UInt8)) (a : List Fld) : matchesL (selectL l a) a = true := by
  unfold matchesL selectL
  rw [List.all_map, List.all_eq_true]
  intro x _
  simp
theorem choose_other (a b : List Fld) : ∀ l : List (List UInt8), matchesL (selectL l a) b = (selectL l a == selectL l b)
  | [] => rfl
  | x :: r => by
    have ih := choose_other a b r
    unfold matchesL selectL at *
    rw [List.map_cons, List.map_cons, List.all_cons, ih]
    show _ = ((x, valueL a x) == (x, valueL b x) && _)
    congr 1
    rw [Bool.eq_iff_iff, beq_iff_eq, beq_iff_eq]
    simp [eq_comm]
end Go.Proofs.YtdlajobnnnmojaaDoor
