/- What a name has in a request, by which names a reply varies: plain. -/
import Derived.Test.YtdlajobnnnmojaaDoorFieldSpec
import Derived.Test.YtdlajobnnnmojaaDoorStaysSpec
namespace Go.Proofs.YtdlajobnnnmojaaDoor

def piecesOf (v : List UInt8) : List (List UInt8) := bif (splitL 44 v).2 == 0 then (splitL 44 v).1 else [trimL v]
def keepP (ps : List (List UInt8)) : List (List UInt8) := ps.filter fun p => !p.isEmpty
def allP (vs : List (List UInt8)) : List (List UInt8) := vs.flatMap fun v => keepP (piecesOf v)
def cs : List UInt8 := [44, 32]
/-- request.value. -/
def valueL (xs : List Fld) (name : List UInt8) : List UInt8 := Lib.join (allP (valuesL xs name)) cs

theorem splitL_le' (sep : UInt8) (l : List UInt8) : (splitL sep l).1.length ≤ 64 := by
  unfold splitL
  cases (sep.toNat == 34 || sep.toNat == 92)
  · cases splP sep false false [] [] l with
    | none => simp [splitE]
    | some ls =>
      simp only [splitE, cond_false]
      cases h : decide (64 < ls.length)
      · simp at h ⊢; exact h
      · simp
  · simp
theorem piecesOf_le (v : List UInt8) : (piecesOf v).length ≤ 64 := by
  unfold piecesOf
  cases ((splitL 44 v).2 == 0)
  · simp
  · exact splitL_le' 44 v
theorem keepP_le (ps : List (List UInt8)) : (keepP ps).length ≤ ps.length := List.length_filter_le _ _
theorem keepP_snoc (ps : List (List UInt8)) (p : List UInt8) : keepP (ps ++ [p]) = if p.isEmpty then keepP ps else keepP ps ++ [p] := by
  unfold keepP
  rw [List.filter_append]
  cases h : p.isEmpty <;> simp [h]
theorem allP_snoc (vs : List (List UInt8)) (v : List UInt8) : allP (vs ++ [v]) = allP vs ++ keepP (piecesOf v) := by
  unfold allP; simp [List.flatMap_append]
theorem allP_le (vs : List (List UInt8)) : (allP vs).length ≤ 64 * vs.length := by
  unfold allP
  induction vs with
  | nil => simp
  | cons v r ih =>
    have h1 := keepP_le (piecesOf v)
    have h2 := piecesOf_le v
    rw [List.flatMap_cons, List.length_append, List.length_cons]
    omega
theorem total_keepP (ps : List (List UInt8)) : total (keepP ps) ≤ total ps := by
  unfold keepP total
  induction ps with
  | nil => simp
  | cons p r ih =>
    rw [List.filter_cons]
    cases h : p.isEmpty
    · simp at ih ⊢; exact ih
    · simp at ih ⊢; omega
theorem total_app (a b : List (List UInt8)) : total (a ++ b) = total a + total b := by unfold total; simp
theorem total_pieces (v : List UInt8) : total (piecesOf v) ≤ v.length := by
  unfold piecesOf
  cases ((splitL 44 v).2 == 0)
  · have := trimL_le v; unfold total; simpa using this
  · exact split_total 44 v
theorem total_allP (vs : List (List UInt8)) : total (allP vs) ≤ total vs := by
  induction vs with
  | nil => simp [allP, total]
  | cons v r ih =>
    have h1 := total_keepP (piecesOf v)
    have h2 := total_pieces v
    have e1 : allP (v :: r) = keepP (piecesOf v) ++ allP r := rfl
    have e2 : total (v :: r) = v.length + total r := by unfold total; simp
    rw [e1, e2, total_app]; omega
theorem total_bound (M : Nat) : ∀ ls : List (List UInt8), (∀ x ∈ ls, x.length ≤ M) → total ls ≤ ls.length * M
  | [], _ => by simp [total]
  | x :: r, h => by
    have ih := total_bound M r (fun y hy => h y (by simp [hy]))
    have h1 := h x (by simp)
    have e2 : total (x :: r) = x.length + total r := by unfold total; simp
    rw [e2, List.length_cons, Nat.add_mul]; omega
theorem valuesL_mem {xs : List Fld} {name v : List UInt8} (h : v ∈ valuesL xs name) : ∃ f ∈ xs, f.2 = v := by
  unfold valuesL at h
  obtain ⟨f, hf, e⟩ := List.mem_map.1 h
  exact ⟨f, (List.mem_filter.1 hf).1, e⟩

/-- Joined, one more behind. -/
theorem join_snoc (sep p : List UInt8) : ∀ ls : List (List UInt8), Lib.join (ls ++ [p]) sep = if ls.isEmpty then p else Lib.join ls sep ++ (sep ++ p)
  | [] => Lib.join_one _ _
  | x :: r => by
    rw [List.cons_append, Lib.join_cons, Lib.join_cons]
    simp [Lib.joinTail, List.append_assoc]
theorem keepP_ne (ps : List (List UInt8)) : ∀ p ∈ keepP ps, p ≠ [] := by
  intro p hp
  have := (List.mem_filter.1 hp).2
  simpa using this
theorem allP_ne (vs : List (List UInt8)) : ∀ p ∈ allP vs, p ≠ [] := by
  intro p hp
  obtain ⟨v, _, h⟩ := List.mem_flatMap.1 hp
  exact keepP_ne _ p h
theorem join_empty (sep : List UInt8) (ls : List (List UInt8)) (h : ∀ p ∈ ls, p ≠ []) : (Lib.join ls sep).isEmpty = ls.isEmpty := by
  cases ls with
  | nil => rfl
  | cons x r =>
    have hx := h x (by simp)
    rw [Lib.join_cons]
    cases x with
    | nil => exact absurd rfl hx
    | cons c t => rfl
end Go.Proofs.YtdlajobnnnmojaaDoor
