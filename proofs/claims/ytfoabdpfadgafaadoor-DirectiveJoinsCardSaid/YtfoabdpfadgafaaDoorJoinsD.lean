/- Facts of directives; a list behind another one in new memory. -/
import Derived.Test.YtfoabdpfadgafaaDoorFindsA
import Derived.Test.YtfoabdpfadgafaaDoorFewD
import Derived.Test.YtfoabdpfadgafaaDoorRDList
import Derived.Test.YtfoabdpfadgafaaDoorTokLow
import Derived.Test.YtfoabdpfadgafaaDoorStaysSpec
import Derived.ArgAppend
namespace Go.Proofs.YtfoabdpfadgafaaDoor
open Go.RowKit Go.ChangeShapes Go.WideShapes
set_option maxRecDepth 100000

/-- What each directive of a list is. -/
def GoodD (B : Nat) (d : Dir) : Prop := tokenL d.name = true ∧ lowerL d.name = d.name ∧ (d.has = false → d.value = []) ∧ d.for_ = [] ∧ d.name.length ≤ B
theorem said_good {p : List UInt8} {d : Dir} {B : Nat} (h : saidO p = some d) (hp : p.length ≤ B) : GoodD B d := by
  have hl := (cut_lens p [61]).1
  unfold saidO at h
  have h3 : (Lib.cut p [61]).2.2 = false → (Lib.cut p [61]).2.1 = [] := by
    unfold Lib.cut
    by_cases h0 : 0 ≤ Lib.index p [61]
    · rw [if_pos h0]; simp
    · rw [if_neg h0]; simp
  generalize Lib.cut p [61] = c at *
  obtain ⟨a, b, has⟩ := c
  simp only at h h3 hl
  cases ht : tokenL a
  · rw [ht] at h; simp at h
  · rw [ht] at h
    have key : ∀ v hs, (hs = false → v = []) → GoodD B ⟨lowerL a, v, hs, []⟩ := fun v hs hv => ⟨by show tokenL (lowerL a) = true; rw [token_low, ht], lower_twice a, hv, rfl, by show (lowerL a).length ≤ B; rw [lower_length]; omega⟩
    simp only [Bool.not_true, cond_false] at h
    cases hb : (has && !tokenL b)
    · rw [hb, cond_false] at h
      injection h with h
      subst h
      exact key _ _ h3
    · rw [hb, cond_true] at h
      cases hu : unqP b with
      | none => rw [hu] at h; simp at h
      | some s =>
        rw [hu] at h
        simp only [Option.map_some, Option.some.injEq] at h
        subst h
        exact key _ _ (by simp)
theorem pcs_len {v p : List UInt8} (h : p ∈ pcsL v) : p.length ≤ v.length + 8 := by
  unfold pcsL at h
  cases hz : ((splitL 44 v).2 == 0)
  · rw [hz, cond_false, List.mem_singleton] at h
    subst h
    show 8 ≤ _
    omega
  · rw [hz, cond_true] at h
    have h1 := total_mem h
    have h2 := split_total 44 v
    omega
theorem dlist_good {vs : List (List UInt8)} {B : Nat} (hv : ∀ v ∈ vs, v.length ≤ B) : ∀ d ∈ dlistL vs, GoodD (B + 8) d := by
  intro d hd
  unfold dlistL at hd
  obtain ⟨v, hv1, hd⟩ := List.mem_flatMap.1 hd
  unfold dirsOf at hd
  obtain ⟨p, hp, hd⟩ := List.mem_filterMap.1 hd
  exact said_good hd (by have := pcs_len hp; have := hv v hv1; omega)
theorem dlist_app (xs ys : List (List UInt8)) : dlistL (xs ++ ys) = dlistL xs ++ dlistL ys := by unfold dlistL; simp

/-- A list behind another one, in new memory. -/
theorem run_app_zero {P : Program} (w : World) (t ty e : TypeId) (i : TypeInfo) (ht : P.underlying t = some (.slice e)) (hi : P.info? e = some i) (A : Option Addr) (n : Nat) (x : Option Addr) (c : Nat) :
    (Builtin.append_ #[t, t] ty #[.slice A n n, .slice x 0 c]).run P w = .ok (.slice A n n) w := by
  cases A <;> cases x <;> simp [Builtin.append_, run_underlying ht, sizeOf, typeInfo, hi, Builtin.lenOf, Builtin.firstCells, storeCells, loadCells, loadCellsFrom]
theorem strsV_app (xs ys : List (List UInt8)) : strsV (xs ++ ys) = strsV xs ++ strsV ys := by unfold strsV; simp
theorem strsV_one (ys : List (List UInt8)) : ∀ u ∈ strsV ys, u.oneCell' = true := by
  intro u hu
  unfold strsV at hu
  obtain ⟨f, _, rfl⟩ := List.mem_map.1 hu
  rfl
theorem app_cat {ops : Array Oper} {rest : List Oper} {o : Oper} {a : Act} {Q : Exit → Act → World → Prop} {w : World} {A X : Option Addr} {n m c : Nat} {xs ys : List (List UInt8)} (hA : Rd A n 1 (strsV xs) w) (hX : Rd X m 1 (strsV ys) w) (hn : n + m ≤ 1000000000) (hnone : A = none → n = 0)
    (hgd : o.guard = none) (s x : Operand) (ho : o.op = .call { callee := .builtin .append, args := #[s, x], argTypes := #[22, 22] })
    (hs : a.eval s = .slice A n n) (hx : a.eval x = .slice X m c)
    (hK : ∀ A' nn c' w1, Rd A' nn 1 (strsV (xs ++ ys)) w1 → Below w.heap.size w w1 → wpList Tryd.prog ops Q rest (a.put o.dst (.slice A' nn c')) w1) :
    wpList Tryd.prog ops Q (o :: rest) a w := by
  obtain rfl := hA.str
  obtain rfl := hX.str
  obtain ⟨i0, hi, hz0, hz1, hz2⟩ := info_parts uStr
  have key : ∃ A' c' w1, (Builtin.append_ #[22, 22] o.type #[.slice A xs.length xs.length, .slice X ys.length c]).run Tryd.prog w = .ok (.slice A' (xs ++ ys).length c') w1 ∧ Rd A' (xs ++ ys).length 1 (strsV (xs ++ ys)) w1 ∧ Below w.heap.size w w1 := by
    rcases Nat.eq_zero_or_pos ys.length with h0 | h0
    · have hy : ys = [] := List.eq_nil_of_length_eq_zero h0
      subst hy
      exact ⟨A, xs.length, w, by rw [List.append_nil]; exact run_app_zero w _ _ 9 i0 Tryd.underlying22 hi A _ X c, by rw [List.append_nil]; exact hA, Below.refl _ _⟩
    · obtain ⟨b2, o2, rfl, hl2, hc2⟩ := hX.2 h0
      have hnews : ∀ j u, (strsV ys)[j]? = some u → w.cell? ((⟨b2, o2, none⟩ : Addr).add j) = some u := fun j u hu => by rw [Addr.add_lit]; exact hc2 j u hu
      have fin : ∀ v' w1, w1.ownsRow w.heap.size 9 1 v' (xs.length + ys.length) (strsV xs ++ strsV ys) → w.grownBy w1 none → ∃ A' c', v' = .slice A' (xs ++ ys).length c' ∧ Rd A' (xs ++ ys).length 1 (strsV (xs ++ ys)) w1 ∧ Below w.heap.size w w1 := by
        intro v' w1 h1 h2
        have h1' : OwnS w.heap.size v' (xs ++ ys) w1 := by
          unfold OwnS
          rw [List.length_append, List.map_append]
          exact h1
        obtain ⟨A', c', rfl⟩ := h1'.shape
        exact ⟨A', c', rfl, h1'.rd.2, (Below.refl w.heap.size w).grown h2 (Nat.le_refl _) (fun k hk => by cases hk)⟩
      cases A with
      | some b1 =>
        have holds : ∀ j u, (strsV xs)[j]? = some u → w.cell? (b1.add j) = some u := by
          intro j u hj
          have hjl : j < xs.length := by have := (List.getElem?_eq_some_iff.1 hj).1; simpa [strsV] using this
          obtain ⟨b, o', e, _, hc⟩ := hA.2 (by omega)
          cases e
          rw [Addr.add_lit]; exact hc j u hj
        obtain ⟨v', w', hrun, r1, r2⟩ := run_append_arg_grows (P := Tryd.prog) w 22 o.type 9 i0 (.string ByteArray.empty) 1 16 Tryd.underlying22 hi hz0 hz1 hz2 rfl (by decide) b1 xs.length xs.length (strsV xs) (by simp [strsV]) holds ⟨b2, o2, none⟩ ys.length c (strsV ys) (by simp [strsV]) hnews (by omega) (by unfold maxLen; omega) (by omega)
        obtain ⟨A', c', rfl, q1, q2⟩ := fin v' w' r1 r2
        exact ⟨A', c', w', hrun, q1, q2⟩
      | none =>
        have hx0 : xs = [] := List.eq_nil_of_length_eq_zero (hnone rfl)
        subst hx0
        obtain ⟨v', w', hrun, r1, r2, _⟩ := run_append_own (P := Tryd.prog) w w.heap.size 22 o.type 9 i0 (.string ByteArray.empty) 1 16 Tryd.underlying22 hi hz0 hz1 hz2 rfl (by decide) (.slice none 0 0) 0 [] (World.ownsRow_nil w _ _ _) ⟨b2, o2, none⟩ ys.length c (strsV ys) (by simp [strsV]) hnews (strsV_one ys) (by unfold maxLen; simp at hn; omega) (by simp at hn; omega) (Nat.le_refl _)
        obtain ⟨A', c', rfl, q1, q2⟩ := fin v' w' (by rw [show strsV ([] : List (List UInt8)) = [] from rfl]; simpa using r1) r2
        exact ⟨A', c', w', hrun, q1, q2⟩
  obtain ⟨A', c', w1, hrun, h1, h2⟩ := key
  refine wpList_plain hgd fun _ hK' => ?_
  unfold Oper.wp execOp
  simp only [ho, resolve, invoke, builtin, Sem.run_bind, Sem.run_pure, Result.andThen_ok, List.map_toArray, List.map_cons, List.map_nil, hs, hx, hrun]
  exact hK' _ _ (hK A' _ c' w1 h1 h2)
end Go.Proofs.YtfoabdpfadgafaaDoor
