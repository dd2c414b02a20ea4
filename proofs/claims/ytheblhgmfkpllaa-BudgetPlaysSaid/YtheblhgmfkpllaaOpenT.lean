/- What came in, opened: texts and fields in slices; replies and entries by value. -/
import Derived.Test.YtheblhgmfkpllaaRd
import Derived.OpenShut
import Derived.SizedLaws
import Derived.Deep.Slices
import Derived.SliceStrings
import Derived.ChangeSame
namespace Go.Proofs.Ytheblhgmfkpllaa
open Go.ChangeShapes Go.WideShapes Go.RowKit
set_option maxRecDepth 100000

/-- The form's own reach: each string, slice and map within d. -/
def Reach {H : Type} (T : TypeId) (d : DataW H) : Prop := ∀ n ∈ d.weights Try.prog T, n ≤ reachBytes
theorem reach_each {H : Type} {ts : List TypeId} {ds : List (DataW H)} (h : (DataW.weightsEach Try.prog ts ds).all (· ≤ reachBytes) = true) {j : Nat} {t : TypeId} {d : DataW H} (ht : ts[j]? = some t) (hd : ds[j]? = some d) : Reach t d :=
  fun n hn => of_decide_eq_true (List.all_eq_true.1 h n (DataW.weights_mem_each ht hd n hn))
theorem reach_str {H : Type} {T : TypeId} {l : List UInt8} (h : Reach (H := H) T (.lit (.string l))) : l.length ≤ reachBytes := h _ (by simp [DataW.weights])
theorem weightsAll_mem' {H : Type} {e : TypeId} : ∀ {ds : List (DataW H)} {d : DataW H}, d ∈ ds → ∀ n ∈ d.weights Try.prog e, n ∈ DataW.weightsAll Try.prog e ds
  | x :: r, d, hd, n, hn => by
    simp only [DataW.weightsAll, List.mem_append]
    rcases List.mem_cons.1 hd with rfl | h
    · exact Or.inl hn
    · exact Or.inr (weightsAll_mem' h n hn)
theorem reach_elem {H : Type} {t e : TypeId} (hu : Try.prog.underlying t = some (.slice e)) {elems spare : List (DataW H)} (h : Reach t (.slice elems spare)) {d : DataW H} (hd : d ∈ elems) : Reach e d := by
  intro n hn
  refine h n ?_
  simp only [DataW.weights, hu, List.mem_cons, List.mem_append]
  exact Or.inr (Or.inl (weightsAll_mem' hd n hn))
theorem reach_len {H : Type} {t e : TypeId} (hu : Try.prog.underlying t = some (.slice e)) {elems spare : List (DataW H)} (h : Reach t (.slice elems spare)) : elems.length * Try.prog.bytesOf e ≤ reachBytes := by
  have := h ((elems.length + spare.length) * Try.prog.bytesOf e) (by simp [DataW.weights, hu])
  exact Nat.le_trans (Nat.mul_le_mul_right _ (by omega)) this
theorem reach_part {H : Type} {t : TypeId} {fs : Array Field} (hu : Try.prog.underlying t = some (.struct fs)) {parts : List (DataW H)} (h : Reach t (.agg parts)) {j : Nat} {f : Field} {d : DataW H} (hf : fs[j]? = some f) (hd : parts[j]? = some d) : Reach f.type d := by
  intro n hn
  refine h n ?_
  simp only [DataW.weights, hu]
  exact DataW.weights_mem_each (j := j) (by simp [hf]) hd n hn

theorem two_of {α : Type} : ∀ (l : List α), l.length = 2 → ∃ u v, l = [u, v]
  | [u, v], _ => ⟨u, v, rfl⟩
theorem exists_listL {α : Type} (n : Nat) (Pr : Nat → α → Prop) (h : ∀ i, i < n → ∃ x, Pr i x) : ∃ xs : List α, xs.length = n ∧ ∀ i (hi : i < xs.length), Pr i xs[i] := by
  induction n with
  | zero => exact ⟨[], rfl, fun i hi => by simp at hi⟩
  | succ n ih =>
    obtain ⟨xs, hl, hx⟩ := ih (fun i hi => h i (by omega))
    obtain ⟨x, hx1⟩ := h n (by omega)
    refine ⟨xs ++ [x], by simp [hl], fun i hi => ?_⟩
    rw [List.length_append, List.length_singleton] at hi
    by_cases hin : i < xs.length
    · rw [List.getElem_append_left hin]; exact hx i hin
    · have : i = n := by omega
      subst this
      rw [List.getElem_append_right (by omega)]
      simpa [hl] using hx1

section
variable {H : Type} {enc : TypeId × Value → H} {W : World}
/-- A slice of texts that came in. -/
theorem open_texts {fuel : Nat} {cs : List Value} {x : DataW H × List MemPlace} (h : DataW.trod enc Try.prog W 0 (fun _ => true) true fuel 28 cs = some x) (hr : Reach 28 x.1) :
    ∃ A n c ls, cs = [.slice A n c] ∧ Rd A n 1 (strsV ls) W ∧ n * 16 ≤ reachBytes ∧ ∀ l ∈ ls, l.length ≤ reachBytes := by
  rcases Go.Deep.open_slice Try.underlying28 h with ⟨rfl, rfl⟩ | ⟨a, len, cap, m, n, D, Pl, rfl, hb, hl, hm, hmm, rfl, hi⟩
  · exact ⟨none, 0, 0, [], rfl, Rd.nil, by decide, by simp⟩
  · simp only [if_true] at hmm
    subst hmm
    have hc1 : Try.prog.cellsOf 9 = 1 := by kernel_rfl
    have key : ∀ i, i < len → ∃ s : List UInt8, W.cell? (a.add i) = some (.string ⟨s.toArray⟩) ∧ D i = .lit (.string s) := by
      intro i hi'
      obtain ⟨cs', hcs, ht⟩ := hi i (by omega)
      rw [hc1, Nat.mul_one] at hcs
      obtain ⟨s, rfl, hx, _⟩ := DataW.trod_string Try.underlying9 ht
      obtain ⟨_, _, hat⟩ := World.cells?_some hcs
      refine ⟨s.data.toList, ?_, congrArg Prod.fst hx⟩
      have := hat 0 (by omega)
      rw [str_of]
      simpa [Addr.add] using this
    obtain ⟨ls, hll, hls⟩ := exists_listL len _ key
    refine ⟨some a, len, _, ls, rfl, ⟨by simp [strsV, hll], fun hn => ?_⟩, ?_, ?_⟩
    · have hspot : a.spot = none := by
        have := World.cell?_spot (hls 0 (by omega)).1
        simpa [Addr.add] using this
      obtain ⟨b, o, spot⟩ := a
      simp only at hspot
      subst hspot
      refine ⟨b, o, rfl, ?_, fun j u hu => ?_⟩
      · rcases Nat.lt_or_ge b W.heap.size with h' | h'
        · exact h'
        · have := (hls 0 (by omega)).1
          simp [World.cell?, Addr.add, Array.getElem?_eq_none h'] at this
      · have hj : j < ls.length := by have := (List.getElem?_eq_some_iff.1 hu).1; simpa [strsV] using this
        have h1 := (hls j hj).1
        have e : (⟨b, o, none⟩ : Addr).add j = ⟨b, o + j, none⟩ := by unfold Addr.add; split <;> simp_all
        rw [e] at h1
        rw [h1, ← hu]; simp [strsV, hj]
    · have := reach_len Try.underlying28 hr
      rw [List.length_map, List.length_range, show Try.prog.bytesOf 9 = 16 from by kernel_rfl] at this
      exact this
    · intro l hl'
      obtain ⟨i, hi', e⟩ := List.mem_iff_getElem.1 hl'
      have h2 := (hls i hi').2
      rw [e] at h2
      exact reach_str (reach_elem Try.underlying28 hr (List.mem_map.2 ⟨i, List.mem_range.2 (by omega), h2⟩))
theorem open_texts_v {base : Nat} {v : Value} {d : DataW H} {p : List MemPlace} (hv : Value.okWide Try.prog W .any base 28 v) (h : DataW.Trod enc Try.prog W 0 (fun _ => true) true 28 v d p) (hr : Reach 28 d) :
    ∃ A n c ls, v = .slice A n c ∧ Rd A n 1 (strsV ls) W ∧ n * 16 ≤ reachBytes ∧ ∀ l ∈ ls, l.length ≤ reachBytes := by
  obtain ⟨a0, len, cap, rfl⟩ := okWide_slice Try.underlying28 hv
  obtain ⟨fuel, hf⟩ := h
  have hf' : DataW.trod enc Try.prog W 0 (fun _ => true) true fuel 28 [.slice a0 len cap] = some (d, p) := hf
  obtain ⟨A, n, c, xs, e, r⟩ := open_texts hf' hr
  exact ⟨A, n, c, xs, (List.cons.inj e).1, r⟩
end
end Go.Proofs.Ytheblhgmfkpllaa
