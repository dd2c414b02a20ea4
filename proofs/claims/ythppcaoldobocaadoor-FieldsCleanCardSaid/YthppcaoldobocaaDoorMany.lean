/- Many fields at once at the end of a row that the call made. -/
import Derived.Test.YthppcaoldobocaaDoorOwnF
import Derived.Laws.OwnMore
namespace Go.Proofs.YthppcaoldobocaaDoor
open Go.RowKit
set_option maxRecDepth 100000

theorem run_app_none {P : Program} (w : World) (base : Nat) (t ty e : TypeId) (i : TypeInfo) (size c : Nat) (ht : P.underlying t = some (.slice e)) (hi : P.info? e = some i)
    (v : Value) (n : Nat) (xs : List Value) (hown : w.ownsRow base e size v n xs) :
    (Builtin.append_ #[t, t] ty #[v, .slice none 0 c]).run P w = .ok v w := by
  rcases hown.2 with ⟨rfl, rfl⟩ | ⟨g, cap, cur, rfl, _, _, hnc, _⟩
  · simp [Builtin.append_, run_underlying ht, sizeOf, typeInfo, hi, Builtin.lenOf, Builtin.firstCells]
  · simp [Builtin.append_, run_underlying ht, sizeOf, typeInfo, hi, Builtin.lenOf, Builtin.firstCells, hnc, storeCells]
theorem fldsV_one (ys : List Fld) : ∀ u ∈ fldsV ys, u.oneCell' = true := by
  intro u hu
  unfold fldsV at hu
  obtain ⟨f, _, h⟩ := List.mem_flatMap.1 hu
  simp [fldV] at h
  rcases h with rfl | rfl <;> rfl
theorem fldsV_app (xs ys : List Fld) : fldsV (xs ++ ys) = fldsV xs ++ fldsV ys := by unfold fldsV; simp
theorem app_flds {ops : Array Oper} {rest : List Oper} {o : Oper} {a : Act} {Q : Exit → Act → World → Prop} (B : Nat) {w : World} {v : Value} {fs : List Fld} (hown : OwnF B v fs w) (hB : B ≤ w.heap.size)
    {A : Option Addr} {n c : Nat} {ys : List Fld} (hr : Rd A n 2 (fldsV ys) w) (hn : fs.length + n ≤ 1000000000)
    (hgd : o.guard = none) (s x : Operand) (ho : o.op = .call { callee := .builtin .append, args := #[s, x], argTypes := #[23, 23] })
    (hs : a.eval s = v) (hx : a.eval x = .slice A n c)
    (hK : ∀ v' w1, OwnF B v' (fs ++ ys) w1 → Below B w w1 → Far w w1 v v' → wpList Tryd.prog ops Q rest (a.put o.dst v') w1) :
    wpList Tryd.prog ops Q (o :: rest) a w := by
  obtain rfl := hr.fld
  obtain ⟨i0, hi, hz0, hz1, hz2⟩ := info_parts uFld
  have key : ∃ v' w1, (Builtin.append_ #[23, 23] o.type #[v, .slice A ys.length c]).run Tryd.prog w = .ok v' w1 ∧ OwnF B v' (fs ++ ys) w1 ∧ Below B w w1 ∧ Far w w1 v v' := by
    by_cases h0 : A = none
    · subst h0
      have hy : ys.length = 0 := by
        rcases Nat.eq_zero_or_pos ys.length with h | h
        · exact h
        · obtain ⟨b, o', e, _⟩ := hr.2 h; cases e
      have hy2 : ys = [] := List.eq_nil_of_length_eq_zero hy
      subst hy2
      refine ⟨v, w, run_app_none w B _ _ 37 i0 2 c Tryd.underlying23 hi v _ _ hown, by rw [List.append_nil]; exact hown, Below.refl _ _, ⟨⟨rfl, rfl, rfl, Nat.le_refl _, fun _ _ _ => rfl⟩, Or.inl rfl⟩⟩
    · obtain ⟨ad, rfl⟩ := Option.ne_none_iff_exists'.1 h0
      obtain ⟨v', w', hrun, h2, h3, _, h5⟩ := run_append_own_at (P := Tryd.prog) w B 23 o.type 37 i0 (.agg #[.string ByteArray.empty, .string ByteArray.empty]) 2 32 Tryd.underlying23 hi hz0 hz1 hz2 rfl (by decide) v fs.length (fldsV fs) hown ad ys.length c (fldsV ys) (by rw [fldsV_len]) (by
        intro j u hj
        have hjl : j < ys.length * 2 := by have := (List.getElem?_eq_some_iff.1 hj).1; rwa [fldsV_len] at this
        obtain ⟨b, o', e, _, hc⟩ := hr.2 (by omega)
        cases e
        have e2 : (⟨b, o', none⟩ : Addr).add j = ⟨b, o' + j, none⟩ := by unfold Addr.add; split <;> simp_all
        rw [e2]
        exact hc j u hj) (fldsV_one ys) (by unfold maxLen; omega) (by omega) hB
      refine ⟨v', w', hrun, ?_, (Below.refl B w).grown h3 hB (fun k hk => (World.ownsRow.lt hown k hk).1), ⟨h3, ?_⟩⟩
      · unfold OwnF
        rw [List.length_append, fldsV_app]
        exact h2
      · rcases h5 with h | h
        · exact Or.inl h
        · refine Or.inr fun g hg => ?_
          rw [h] at hg
          have := Option.some.inj hg
          omega
  obtain ⟨v', w1, hrun, h1, h2, h3⟩ := key
  refine wpList_plain hgd fun _ hK' => ?_
  unfold Oper.wp execOp
  simp only [ho, resolve, invoke, builtin, Sem.run_bind, Sem.run_pure, Result.andThen_ok, List.map_toArray, List.map_cons, List.map_nil, hs, hx, hrun]
  exact hK' _ _ (hK v' w1 h1 h2 h3)
theorem copied04_any (A : Option Addr) (n c : Nat) (xs : List Fld) (w : World) (hr : Rd A n 2 (fldsV xs) w) (hn : n ≤ 1000000) :
    Calls Tryd.prog 20 #[.slice A n c] w (FieldsPost w xs) := by
  have hz : ([] : List Fld).length + n ≤ 1000000000 := by simp; omega
  have HR := Lib.hid hr; clear hr
  go_enter Tryd.func20, Tryd.ntmps20
  go_wp2_with (at_builtin; refine app_flds w.heap.size (OwnF.nil _ _) (Nat.le_refl _) HR.out hz rfl _ _ rfl rfl rfl ?_)
  intro v' w1 hO hb _
  obtain ⟨a1, c1, rfl⟩ := hO.shape
  have HO : Hid (OwnF w.heap.size (.slice a1 xs.length c1) xs w1) := Lib.hid hO
  clear hO
  go_wp2
  go_ret
  exact ⟨a1, c1, rfl, HO.out, hb⟩
end Go.Proofs.YthppcaoldobocaaDoor
