/- Which texts are tags, place by place: plain. -/
import Derived.Test.YthnfmhjjpodhfaaDoorEtagA
namespace Go.Proofs.YthnfmhjjpodhfaaDoor

/-- A byte of a tag at a place, as the document asks it. -/
def okAt (t : ByteArray) (j : Nat) (h : j < t.size) : Bool := if j = 0 ∨ j = t.size - 1 then t[j].toNat == 34 else okb t[j]
theorem tagged_iff (t : ByteArray) (h2 : 2 ≤ t.size) : tagged t = true ↔ ∀ j (h : j < t.size), okAt t j h = true := by
  have hx : (inner t).size = t.size - 2 := by unfold inner; simp [ByteArray.size_extract]; omega
  have hi : ∀ j (h : j < (inner t).size), (inner t)[j] = t[j + 1]'(by omega) := by
    intro j h
    have hg : (t.extract 1 (t.size - 1))[j]'h = t[1 + j]'(by omega) := ByteArray.getElem_extract h
    show (t.extract 1 (t.size - 1))[j]'h = _
    rw [hg]
    congr 1
    omega
  unfold tagged
  rw [dif_pos h2]
  constructor
  · intro h j hj
    rw [Bool.and_eq_true, Bool.and_eq_true] at h
    unfold okAt
    by_cases h0 : j = 0
    · subst h0; rw [if_pos (Or.inl rfl)]; exact h.1.1
    · by_cases h1 : j = t.size - 1
      · subst h1; rw [if_pos (Or.inr rfl)]; exact h.1.2
      · rw [if_neg (by omega)]
        have h3 := List.all_eq_true.1 h.2 ((inner t)[j - 1]'(by omega)) (by rw [at_list (inner t) (j - 1) (by omega)]; exact List.getElem_mem _)
        rw [hi (j - 1) (by omega)] at h3
        simpa [show j - 1 + 1 = j from by omega] using h3
  · intro h
    rw [Bool.and_eq_true, Bool.and_eq_true]
    refine ⟨⟨?_, ?_⟩, ?_⟩
    · have := h 0 (by omega); unfold okAt at this; rwa [if_pos (Or.inl rfl)] at this
    · have := h (t.size - 1) (by omega); unfold okAt at this; rwa [if_pos (Or.inr rfl)] at this
    · rw [List.all_eq_true]
      intro c hc
      obtain ⟨j, hj, e⟩ := List.mem_iff_getElem.1 hc
      have hj' : j < (inner t).size := by simpa using hj
      have h3 : (inner t)[j] = c := by rw [← e]; show (inner t).data[j] = _; simp
      rw [← h3, hi j hj']
      have := h (j + 1) (by omega)
      unfold okAt at this
      rwa [if_neg (by omega)] at this
end Go.Proofs.YthnfmhjjpodhfaaDoor
