/- Joined out of the texts JoinsD, SurSaid, ManyD, SurList, SurMine, SurWord, Delta, Beside, SurDo, SurOf, Works12, SameD, Few12, OwnF, Many, ManyS, JoinsSpec (wip/tools/merge.py). -/
import Derived.Test.YtlhfbikhlfgjbaaDoorPa1
import Derived.ArgAppend
import Derived.Laws.OwnMore
import Derived.Laws.EntriesVeiled
import Derived.Lib.FieldsP
import Derived.Lib.SlicesS
import Derived.Deep.RegionHeld3
import Derived.IntWalk
import Derived.Lib.Join
/- Facts of directives; a list behind another one in new memory. -/
namespace Go.Proofs.YtlhfbikhlfgjbaaDoor
open Go.RowKit Go.ChangeShapes Go.WideShapes
set_option maxRecDepth 100000

/-- What each directive of a list is. -/
def GoodD (B : Nat) (d : Dir) : Prop := tokenL d.name = true ∧ lowerL d.name = d.name ∧ (d.has = false → d.value = []) ∧ d.for_ = [] ∧ d.name.length ≤ B
theorem said_good {p : List UInt8} {d : Dir} {B : Nat} (h : saidO p = some d) (hp : p.length ≤ B) : GoodD B d := by
  have hl := (cut_lens p [61]).1
  unfold saidO at h
  have h3 : (Lib.cut p [61]).2.2 = false → (Lib.cut p [61]).2.1 = [] := by
    unfold Lib.cut
    by_cases h0 : 0 ≤ Lib.index p [61]
    · rw [if_pos h0]; simp
    · rw [if_neg h0]; simp
  generalize Lib.cut p [61] = c at *
  obtain ⟨a, b, has⟩ := c
  simp only at h h3 hl
  cases ht : tokenL a
  · rw [ht] at h; simp at h
  · rw [ht] at h
    have key : ∀ v hs, (hs = false → v = []) → GoodD B ⟨lowerL a, v, hs, []⟩ := fun v hs hv => ⟨by show tokenL (lowerL a) = true; rw [token_low, ht], lower_twice a, hv, rfl, by show (lowerL a).length ≤ B; rw [lower_length]; omega⟩
    simp only [Bool.not_true, cond_false] at h
    cases hb : (has && !tokenL b)
    · rw [hb, cond_false] at h
      injection h with h
      subst h
      exact key _ _ h3
    · rw [hb, cond_true] at h
      cases hu : unqP b with
      | none => rw [hu] at h; simp at h
      | some s =>
        rw [hu] at h
        simp only [Option.map_some, Option.some.injEq] at h
        subst h
        exact key _ _ (by simp)
theorem pcs_len {v p : List UInt8} (h : p ∈ pcsL v) : p.length ≤ v.length + 8 := by
  unfold pcsL at h
  cases hz : ((splitL 44 v).2 == 0)
  · rw [hz, cond_false, List.mem_singleton] at h
    subst h
    show 8 ≤ _
    omega
  · rw [hz, cond_true] at h
    have h1 := total_mem h
    have h2 := split_total 44 v
    omega
theorem dlist_good {vs : List (List UInt8)} {B : Nat} (hv : ∀ v ∈ vs, v.length ≤ B) : ∀ d ∈ dlistL vs, GoodD (B + 8) d := by
  intro d hd
  unfold dlistL at hd
  obtain ⟨v, hv1, hd⟩ := List.mem_flatMap.1 hd
  unfold dirsOf at hd
  obtain ⟨p, hp, hd⟩ := List.mem_filterMap.1 hd
  exact said_good hd (by have := pcs_len hp; have := hv v hv1; omega)
theorem dlist_app (xs ys : List (List UInt8)) : dlistL (xs ++ ys) = dlistL xs ++ dlistL ys := by unfold dlistL; simp

/-- A list behind another one, in new memory. -/
theorem run_app_zero {P : Program} (w : World) (t ty e : TypeId) (i : TypeInfo) (ht : P.underlying t = some (.slice e)) (hi : P.info? e = some i) (A : Option Addr) (n : Nat) (x : Option Addr) (c : Nat) :
    (Builtin.append_ #[t, t] ty #[.slice A n n, .slice x 0 c]).run P w = .ok (.slice A n n) w := by
  cases A <;> cases x <;> simp [Builtin.append_, run_underlying ht, sizeOf, typeInfo, hi, Builtin.lenOf, Builtin.firstCells, storeCells, loadCells, loadCellsFrom]
theorem strsV_app (xs ys : List (List UInt8)) : strsV (xs ++ ys) = strsV xs ++ strsV ys := by unfold strsV; simp
theorem strsV_one (ys : List (List UInt8)) : ∀ u ∈ strsV ys, u.oneCell' = true := by
  intro u hu
  unfold strsV at hu
  obtain ⟨f, _, rfl⟩ := List.mem_map.1 hu
  rfl
theorem app_cat {ops : Array Oper} {rest : List Oper} {o : Oper} {a : Act} {Q : Exit → Act → World → Prop} {w : World} {A X : Option Addr} {n m c : Nat} {xs ys : List (List UInt8)} (hA : Rd A n 1 (strsV xs) w) (hX : Rd X m 1 (strsV ys) w) (hn : n + m ≤ 1000000000) (hnone : A = none → n = 0)
    (hgd : o.guard = none) (s x : Operand) (ho : o.op = .call { callee := .builtin .append, args := #[s, x], argTypes := #[34, 34] })
    (hs : a.eval s = .slice A n n) (hx : a.eval x = .slice X m c)
    (hK : ∀ A' nn c' w1, Rd A' nn 1 (strsV (xs ++ ys)) w1 → Below w.heap.size w w1 → wpList Tryd.prog ops Q rest (a.put o.dst (.slice A' nn c')) w1) :
    wpList Tryd.prog ops Q (o :: rest) a w := by
  obtain rfl := hA.str
  obtain rfl := hX.str
  obtain ⟨i0, hi, hz0, hz1, hz2⟩ := info_parts uStr
  have key : ∃ A' c' w1, (Builtin.append_ #[34, 34] o.type #[.slice A xs.length xs.length, .slice X ys.length c]).run Tryd.prog w = .ok (.slice A' (xs ++ ys).length c') w1 ∧ Rd A' (xs ++ ys).length 1 (strsV (xs ++ ys)) w1 ∧ Below w.heap.size w w1 := by
    rcases Nat.eq_zero_or_pos ys.length with h0 | h0
    · have hy : ys = [] := List.eq_nil_of_length_eq_zero h0
      subst hy
      exact ⟨A, xs.length, w, by rw [List.append_nil]; exact run_app_zero w _ _ 9 i0 Tryd.underlying34 hi A _ X c, by rw [List.append_nil]; exact hA, Below.refl _ _⟩
    · obtain ⟨b2, o2, rfl, hl2, hc2⟩ := hX.2 h0
      have hnews : ∀ j u, (strsV ys)[j]? = some u → w.cell? ((⟨b2, o2, none⟩ : Addr).add j) = some u := fun j u hu => by rw [Addr.add_lit]; exact hc2 j u hu
      have fin : ∀ v' w1, w1.ownsRow w.heap.size 9 1 v' (xs.length + ys.length) (strsV xs ++ strsV ys) → w.grownBy w1 none → ∃ A' c', v' = .slice A' (xs ++ ys).length c' ∧ Rd A' (xs ++ ys).length 1 (strsV (xs ++ ys)) w1 ∧ Below w.heap.size w w1 := by
        intro v' w1 h1 h2
        have h1' : OwnS w.heap.size v' (xs ++ ys) w1 := by
          unfold OwnS
          rw [List.length_append, List.map_append]
          exact h1
        obtain ⟨A', c', rfl⟩ := h1'.shape
        exact ⟨A', c', rfl, h1'.rd.2, (Below.refl w.heap.size w).grown h2 (Nat.le_refl _) (fun k hk => by cases hk)⟩
      cases A with
      | some b1 =>
        have holds : ∀ j u, (strsV xs)[j]? = some u → w.cell? (b1.add j) = some u := by
          intro j u hj
          have hjl : j < xs.length := by have := (List.getElem?_eq_some_iff.1 hj).1; simpa [strsV] using this
          obtain ⟨b, o', e, _, hc⟩ := hA.2 (by omega)
          cases e
          rw [Addr.add_lit]; exact hc j u hj
        obtain ⟨v', w', hrun, r1, r2⟩ := run_append_arg_grows (P := Tryd.prog) w 34 o.type 9 i0 (.string ByteArray.empty) 1 16 Tryd.underlying34 hi hz0 hz1 hz2 rfl (by decide) b1 xs.length xs.length (strsV xs) (by simp [strsV]) holds ⟨b2, o2, none⟩ ys.length c (strsV ys) (by simp [strsV]) hnews (by omega) (by unfold maxLen; omega) (by omega)
        obtain ⟨A', c', rfl, q1, q2⟩ := fin v' w' r1 r2
        exact ⟨A', c', w', hrun, q1, q2⟩
      | none =>
        have hx0 : xs = [] := List.eq_nil_of_length_eq_zero (hnone rfl)
        subst hx0
        obtain ⟨v', w', hrun, r1, r2, _⟩ := run_append_own (P := Tryd.prog) w w.heap.size 34 o.type 9 i0 (.string ByteArray.empty) 1 16 Tryd.underlying34 hi hz0 hz1 hz2 rfl (by decide) (.slice none 0 0) 0 [] (World.ownsRow_nil w _ _ _) ⟨b2, o2, none⟩ ys.length c (strsV ys) (by simp [strsV]) hnews (strsV_one ys) (by unfold maxLen; simp at hn; omega) (by simp at hn; omega) (Nat.le_refl _)
        obtain ⟨A', c', rfl, q1, q2⟩ := fin v' w' (by rw [show strsV ([] : List (List UInt8)) = [] from rfl]; simpa using r1) r2
        exact ⟨A', c', w', hrun, q1, q2⟩
  obtain ⟨A', c', w1, hrun, h1, h2⟩ := key
  refine wpList_plain hgd fun _ hK' => ?_
  unfold Oper.wp execOp
  simp only [ho, resolve, invoke, builtin, Sem.run_bind, Sem.run_pure, Result.andThen_ok, List.map_toArray, List.map_cons, List.map_nil, hs, hx, hrun]
  exact hK' _ _ (hK A' _ c' w1 h1 h2)
end Go.Proofs.YtlhfbikhlfgjbaaDoor
/- The walks of surctl.never, surctl.said, surctl.List. -/
namespace Go.Proofs.YtlhfbikhlfgjbaaDoor
open Go.RowKit
set_option maxRecDepth 100000

theorem OwnD.one {B g : Nat} {d : Dir} {w : World} (h : w.heap[g]? = some (.cells (dirV d).toArray 28 (0, 0))) (hB : B ≤ g) : OwnD B (.slice (some ⟨g, 0, none⟩) 1 1) [d] w :=
  ⟨by simp [dirsV, dirV], Or.inr ⟨g, 1, _, rfl, hB, h, by simp, by decide, by simp [dirV], by simp [dirsV, dirV]⟩⟩
theorem never_any (w : World) :
    Calls Tryd.prog 40 #[] w (DirsPost w [neverD]) := by
  go_enter Tryd.func40, Tryd.ntmps40
  go_wp2
  go_ret
  exact ⟨_, _, rfl, OwnD.one (World.alloc_heap_new w _) (Nat.le_refl _), (Below.refl _ w).alloc (Nat.le_refl _) _⟩
theorem oneOf_le (l : List Dir) (f : List UInt8) : (oneOf l f).length ≤ 1 := by
  unfold oneOf; split <;> simp
theorem saidS_le (p : List UInt8) : (saidS p).length ≤ 1 := by
  unfold saidS
  cases ((splitL 59 p).2 != 0)
  · simp only [cond_false]
    split
    · exact oneOf_le _ _
    · cases tokenL _ <;> simp [oneOf_le]
    · simp
  · simp
/-- A directive in a row of the call's own, with another device. -/
theorem OwnD.setFor {B : Nat} {a : Option Addr} {c : Nat} {d : Dir} {w : World} (h : OwnD B (.slice a 1 c) [d] w) (f : List UInt8) :
    ∃ g, a = some ⟨g, 0, none⟩ ∧ B ≤ g ∧ (∃ u, w.cell? ⟨g, 3, none⟩ = some u) ∧ w.frozen? ⟨g, 3, none⟩ = false ∧ OwnD B (.slice a 1 c) [⟨d.name, d.value, d.has, f⟩] (w.setCell ⟨g, 3, none⟩ (.string ⟨f.toArray⟩)) := by
  obtain ⟨h1, h2⟩ := h
  rcases h2 with ⟨hv, h0⟩ | ⟨g, cap, cur, hv, hg, hh, hn, hc, hs, hx⟩
  · simp at h0
  · cases hv
    simp only [List.length_singleton, Nat.one_mul] at hx hs hn
    have hsz : 4 ≤ cur.size := by omega
    have hlt : g < w.heap.size := by
      rcases Nat.lt_or_ge g w.heap.size with h' | h'
      · exact h'
      · simp [Array.getElem?_eq_none h'] at hh
    refine ⟨g, rfl, hg, ⟨cur[3], by simp [World.cell?, hh, show 3 < cur.size from by omega]⟩, by simp [World.frozen?, hh], ?_⟩
    refine ⟨by simp [dirsV, dirV], Or.inr ⟨g, c, cur.setIfInBounds 3 (.string ⟨f.toArray⟩), rfl, hg, ?_, by simpa using hn, hc, by simpa using hs, ?_⟩⟩
    · simp [World.setCell, Array.getElem?_modify, hh]
    · have e : cur.toList = dirsV [d] ++ cur.toList.drop 4 := by rw [← hx, List.take_append_drop]
      simp only [List.length_singleton, Nat.one_mul, Array.toList_setIfInBounds]
      rw [e]
      simp [dirsV, dirV]
theorem DirsPost.nil {w w' : World} (h : Below w.heap.size w w') : DirsPost w [] (.returned (.slice none 0 0)) w' := ⟨none, 0, rfl, OwnD.nil _ _, h⟩
set_option maxHeartbeats 8000000 in
theorem surSaid_any (s : ByteArray) (w : World) (hM : MaxL w) (hs : s.size ≤ 1000000) :
    Calls Tryd.prog 41 #[.string s] w (DirsPost w (saidS s.data.toList)) := by
  have k1 := split_any s 59 w hs
  have htot := split_total 59 s.data.toList
  rw [← Lib.size_eq] at htot
  have hs0 : saidS s.data.toList = bif (splitL 59 s.data.toList).2 != 0 then [neverD] else match (splitL 59 s.data.toList).1 with
    | [a] => oneOf (dlistL [a]) []
    | [a, b] => bif tokenL b then oneOf (dlistL [a]) b else []
    | _ => [] := rfl
  rw [hs0]
  clear hs0
  generalize splitL 59 s.data.toList = r at *
  obtain ⟨ps, er⟩ := r
  simp only at htot ⊢
  cases hz : (er != 0)
  · have hz0 : er = 0 := by simpa [bne] using hz
    subst hz0
    rw [cond_false]
    have hmem := fun p (hp : p ∈ ps) => total_mem hp
    rcases ps with _ | ⟨p0, _ | ⟨p1, _ | ⟨p2, r⟩⟩⟩
    · have K1 := Lib.hid k1; clear k1
      go_enter Tryd.func41, Tryd.ntmps41
      go_wp2_with fail
      refine K1.out.mono ?_
      rintro e w1 ⟨a1, c1, rfl, ho1, hb1⟩
      go_wp2
      go_ret
      exact DirsPost.nil hb1
    · show Calls Tryd.prog _ _ w (DirsPost w (oneOf (dlistL [p0]) []))
      have hp0 : p0.length ≤ 1000000 := by have := hmem p0 (by simp); omega
      clear hmem htot
      have k2 := fun a1 c1 W (hb : Below w.heap.size w W) (hr : Rd a1 1 1 (strsV [p0]) W) => dlist_any a1 1 c1 [p0] W (hM.below hb) hr (by omega) (by intro v hv; rw [List.mem_singleton.1 hv]; exact hp0)
      generalize dlistL [p0] = ds at *
      rcases ds with _ | ⟨d0, _ | ⟨d1, dr⟩⟩
      all_goals (
        have K1 := Lib.hid k1; have K2 := Lib.hid k2; clear k1 k2
        go_enter Tryd.func41, Tryd.ntmps41
        go_wp2_with fail
        refine K1.out.mono ?_
        rintro e w1 ⟨a1, c1, rfl, ho1, hb1⟩
        have hro := ho1.room
        have hc1 : 1 ≤ c1 := by have := hro.2.1; simpa using this
        have R1 := Lib.hid ho1.rd.2
        clear ho1 hro
        go_wp2_with fail
        refine (K2.out _ _ _ hb1 R1.out).mono ?_
        rintro e w2 ⟨a2, c2, rfl, ho2, hb2⟩
        have hB2 := bt hb1 hb2
        have HO2 := Lib.hid (ho2.base hb1.size)
        clear ho2 hb2)
      · go_wp2
        go_ret
        exact DirsPost.nil hB2
      · go_wp2
        go_ret
        obtain ⟨dn, dv, dh, df⟩ := d0
        exact ⟨_, _, rfl, HO2.out, hB2⟩
      · have t0 : (((dr.length : Int) + 1 + 1) != 1) = true := by simp [bne]; omega
        have t1 : (((dr.length : Int) + 1 + 1) == 1) = false := by simp; omega
        go_wp2
        go_ret
        exact DirsPost.nil hB2
    · show Calls Tryd.prog _ _ w (DirsPost w (bif tokenL p1 then oneOf (dlistL [p0]) p1 else []))
      have hp0 : p0.length ≤ 1000000 := by have := hmem p0 (by simp); omega
      have hp1 : p1.length ≤ 1000000 := by have := hmem p1 (by simp); omega
      clear hmem htot
      have k2 := fun a1 c1 W (hb : Below w.heap.size w W) (hr : Rd a1 1 1 (strsV [p0]) W) => dlist_any a1 1 c1 [p0] W (hM.below hb) hr (by omega) (by intro v hv; rw [List.mem_singleton.1 hv]; exact hp0)
      have k3 := fun W => token_any ⟨p1.toArray⟩ W (by rw [Lib.size_eq]; exact hp1)
      simp only at k3
      cases ht : tokenL p1
      · rw [cond_false]
        rw [ht] at k3
        have K1 := Lib.hid k1; have K3 := Lib.hid k3; clear k1 k2 k3
        go_enter Tryd.func41, Tryd.ntmps41
        go_wp2_with fail
        refine K1.out.mono ?_
        rintro e w1 ⟨a1, c1, rfl, ho1, hb1⟩
        obtain ⟨b, o, rfl, hl, x1⟩ := ho1.rd.2.str_at (k := 1) (by simp)
        have x1' : w1.cell? ⟨b, o + 1, none⟩ = some (.string ⟨p1.toArray⟩) := x1
        clear x1 ho1
        go_wp2_with fail
        refine (K3.out _).mono ?_
        rintro e w2 ⟨rfl, rfl⟩
        go_wp2
        go_ret
        exact DirsPost.nil hb1
      · rw [cond_true]
        rw [ht] at k3
        have hne : p1.isEmpty = false := (token_all ht).2
        generalize dlistL [p0] = ds at *
        rcases ds with _ | ⟨d0, _ | ⟨d1, dr⟩⟩
        all_goals (
          have K1 := Lib.hid k1; have K2 := Lib.hid k2; have K3 := Lib.hid k3; have HNE := Lib.hid hne; clear k1 k2 k3 hne
          go_enter Tryd.func41, Tryd.ntmps41
          go_wp2_with fail
          refine K1.out.mono ?_
          rintro e w1 ⟨a1, c1, rfl, ho1, hb1⟩
          have hro := ho1.room
          have hc1 : 1 ≤ c1 := by have := hro.2.1; simp at this; omega
          obtain ⟨b, o, rfl, hl, x1⟩ := ho1.rd.2.str_at (k := 1) (by simp)
          have x1' : w1.cell? ⟨b, o + 1, none⟩ = some (.string ⟨p1.toArray⟩) := x1
          have hr1 : Rd (some ⟨b, o, none⟩) 1 1 (strsV [p0]) w1 := by
            obtain ⟨_, h⟩ := ho1.rd.2
            refine ⟨rfl, fun _ => ?_⟩
            obtain ⟨b', o', e, hl', hc⟩ := h (by simp)
            cases e
            refine ⟨b, o, rfl, hl', fun j u hu => hc j u ?_⟩
            match j, hu with
            | 0, hu => exact hu
            | j + 1, hu => simp [strsV] at hu
          have R1 := Lib.hid hr1
          clear ho1 hro hr1 x1
          go_wp2_with fail
          refine (K3.out _).mono ?_
          rintro e w2 ⟨rfl, rfl⟩
          go_wp2_with fail
          refine (K2.out _ _ _ hb1 R1.out).mono ?_
          rintro e w2 ⟨a2, c2, rfl, ho2, hb2⟩
          have hB2 := bt hb1 hb2
          have x2 := (hb2.cell (p := ⟨b, o + 1, none⟩) hl).trans x1'
          have hOB := ho2.base hb1.size
          clear ho2 hb2 x1')
        · have HO2 := Lib.hid hOB; clear hOB
          go_wp2
          go_ret
          exact DirsPost.nil hB2
        · obtain ⟨g, rfl, hg, ⟨u, hu⟩, hfz, hO3⟩ := hOB.setFor p1
          have HO2 := Lib.hid hOB; have HO3 := Lib.hid hO3; clear hOB hO3
          go_wp2
          go_ret
          obtain ⟨dn, dv, dh, df⟩ := d0
          have := HO3.out
          unfold oneOf
          rw [HNE.out]
          exact ⟨_, _, rfl, this, hB2.setCell (by show w.heap.size ≤ g; omega) _⟩
        · have HO2 := Lib.hid hOB; clear hOB
          have t0 : (((dr.length : Int) + 1 + 1) != 1) = true := by simp [bne]; omega
          have t1 : (((dr.length : Int) + 1 + 1) == 1) = false := by simp; omega
          go_wp2
          go_ret
          exact DirsPost.nil hB2
    · have K1 := Lib.hid k1; clear k1
      have t0 : (((r.length : Int) + 1 + 1 + 1) == 0) = false := by simp; omega
      have t1 : decide (2 < (r.length : Int) + 1 + 1 + 1) = true := by simp; omega
      go_enter Tryd.func41, Tryd.ntmps41
      go_wp2_with fail
      refine K1.out.mono ?_
      rintro e w1 ⟨a1, c1, rfl, ho1, hb1⟩
      go_wp2
      go_ret
      exact DirsPost.nil hb1
  · rw [cond_true]
    have hz1 : (er == 0) = false := by simpa [bne] using hz
    have K1 := Lib.hid k1; clear k1
    go_enter Tryd.func41, Tryd.ntmps41
    go_wp2_with fail
    refine K1.out.mono ?_
    rintro e w1 ⟨a1, c1, rfl, ho1, hb1⟩
    go_wp2_with fail
    refine (never_any _).mono ?_
    rintro e w2 ⟨a2, c2, rfl, ho2, hb2⟩
    have HO2 := Lib.hid (ho2.base hb1.size)
    have hB2 := bt hb1 hb2
    clear ho2 hb2 ho1
    go_wp2
    go_ret
    exact ⟨_, _, rfl, HO2.out, hB2⟩
end Go.Proofs.YtlhfbikhlfgjbaaDoor
/- Many directives at once at the end of a row that the call made. -/
namespace Go.Proofs.YtlhfbikhlfgjbaaDoor
open Go.RowKit
set_option maxRecDepth 100000

theorem run_appD_none {P : Program} (w : World) (base : Nat) (t ty e : TypeId) (i : TypeInfo) (size c : Nat) (ht : P.underlying t = some (.slice e)) (hi : P.info? e = some i)
    (v : Value) (n : Nat) (xs : List Value) (hown : w.ownsRow base e size v n xs) :
    (Builtin.append_ #[t, t] ty #[v, .slice none 0 c]).run P w = .ok v w := by
  rcases hown.2 with ⟨rfl, rfl⟩ | ⟨g, cap, cur, rfl, _, _, hnc, _⟩
  · simp [Builtin.append_, run_underlying ht, sizeOf, typeInfo, hi, Builtin.lenOf, Builtin.firstCells]
  · simp [Builtin.append_, run_underlying ht, sizeOf, typeInfo, hi, Builtin.lenOf, Builtin.firstCells, hnc, storeCells]
theorem dirsV_one (ys : List Dir) : ∀ u ∈ dirsV ys, u.oneCell' = true := by
  intro u hu
  unfold dirsV at hu
  obtain ⟨f, _, h⟩ := List.mem_flatMap.1 hu
  simp [dirV] at h
  rcases h with rfl | rfl | rfl | rfl <;> rfl
theorem dirsV_app (xs ys : List Dir) : dirsV (xs ++ ys) = dirsV xs ++ dirsV ys := by unfold dirsV; simp
theorem app_dirs {ops : Array Oper} {rest : List Oper} {o : Oper} {a : Act} {Q : Exit → Act → World → Prop} (B : Nat) {w : World} {v : Value} {fs : List Dir} (hown : OwnD B v fs w) (hB : B ≤ w.heap.size)
    {A : Option Addr} {n c : Nat} {ys : List Dir} (hr : Rd A n 4 (dirsV ys) w) (hn : fs.length + n ≤ 1000000000)
    (hgd : o.guard = none) (s x : Operand) (ho : o.op = .call { callee := .builtin .append, args := #[s, x], argTypes := #[22, 22] })
    (hs : a.eval s = v) (hx : a.eval x = .slice A n c)
    (hK : ∀ v' w1, OwnD B v' (fs ++ ys) w1 → Below B w w1 → Far w w1 v v' → wpList Tryd.prog ops Q rest (a.put o.dst v') w1) :
    wpList Tryd.prog ops Q (o :: rest) a w := by
  obtain rfl := hr.dir
  obtain ⟨i0, hi, hz0, hz1, hz2⟩ := info_parts uDir
  have key : ∃ v' w1, (Builtin.append_ #[22, 22] o.type #[v, .slice A ys.length c]).run Tryd.prog w = .ok v' w1 ∧ OwnD B v' (fs ++ ys) w1 ∧ Below B w w1 ∧ Far w w1 v v' := by
    by_cases h0 : A = none
    · subst h0
      have hy : ys.length = 0 := by
        rcases Nat.eq_zero_or_pos ys.length with h | h
        · exact h
        · obtain ⟨b, o', e, _⟩ := hr.2 h; cases e
      have hy2 : ys = [] := List.eq_nil_of_length_eq_zero hy
      subst hy2
      refine ⟨v, w, run_appD_none w B _ _ 28 i0 4 c Tryd.underlying22 hi v _ _ hown, by rw [List.append_nil]; exact hown, Below.refl _ _, ⟨⟨rfl, rfl, rfl, Nat.le_refl _, fun _ _ _ => rfl⟩, Or.inl rfl⟩⟩
    · obtain ⟨ad, rfl⟩ := Option.ne_none_iff_exists'.1 h0
      obtain ⟨v', w', hrun, h2, h3, _, h5⟩ := run_append_own_at (P := Tryd.prog) w B 22 o.type 28 i0 (.agg #[.string ByteArray.empty, .string ByteArray.empty, .bool false, .string ByteArray.empty]) 4 56 Tryd.underlying22 hi hz0 hz1 hz2 rfl (by decide) v fs.length (dirsV fs) hown ad ys.length c (dirsV ys) (by rw [dirsV_len]) (by
        intro j u hj
        have hjl : j < ys.length * 4 := by have := (List.getElem?_eq_some_iff.1 hj).1; rwa [dirsV_len] at this
        obtain ⟨b, o', e, _, hc⟩ := hr.2 (by omega)
        cases e
        have e2 : (⟨b, o', none⟩ : Addr).add j = ⟨b, o' + j, none⟩ := by unfold Addr.add; split <;> simp_all
        rw [e2]
        exact hc j u hj) (dirsV_one ys) (by unfold maxLen; omega) (by omega) hB
      refine ⟨v', w', hrun, ?_, (Below.refl B w).grown h3 hB (fun k hk => (World.ownsRow.lt hown k hk).1), ⟨h3, ?_⟩⟩
      · unfold OwnD
        rw [List.length_append, dirsV_app]
        exact h2
      · rcases h5 with h | h
        · exact Or.inl h
        · refine Or.inr fun g hg => ?_
          rw [h] at hg
          have := Option.some.inj hg
          omega
  obtain ⟨v', w1, hrun, h1, h2, h3⟩ := key
  refine wpList_plain hgd fun _ hK' => ?_
  unfold Oper.wp execOp
  simp only [ho, resolve, invoke, builtin, Sem.run_bind, Sem.run_pure, Result.andThen_ok, List.map_toArray, List.map_cons, List.map_nil, hs, hx, hrun]
  exact hK' _ _ (hK v' w1 h1 h2 h3)
end Go.Proofs.YtlhfbikhlfgjbaaDoor
/- The walk of surctl.List. -/
namespace Go.Proofs.YtlhfbikhlfgjbaaDoor
open Go.RowKit
set_option maxRecDepth 100000

def DSt (B : Nat) (out : Value) (acc : List Dir) (A : Option Addr) (vs : List (List UInt8)) (w : World) : Prop := OwnD B out acc w ∧ Rd A vs.length 1 (strsV vs) w ∧ Sep out A vs.length
theorem DSt.below {B : Nat} {out : Value} {acc : List Dir} {A : Option Addr} {vs : List (List UInt8)} {w w1 : World} (h : DSt B out acc A vs w) (hb : Below w.heap.size w w1) : DSt B out acc A vs w1 := ⟨h.1.below hb, h.2.1.below hb, h.2.2⟩
theorem DSt.far {B : Nat} {out v' : Value} {acc acc' : List Dir} {A : Option Addr} {vs : List (List UInt8)} {w w1 : World} (h : DSt B out acc A vs w) (ho : OwnD B v' acc' w1) (hf : Far w w1 out v') : DSt B v' acc' A vs w1 := ⟨ho, h.2.1.far hf h.2.2⟩
theorem DSt.beside {B : Nat} {out : Value} {acc : List Dir} {A A2 : Option Addr} {vs ps : List (List UInt8)} {w w1 : World} {c : Nat} (h : DSt B out acc A vs w) (hb : Below w.heap.size w w1) (hp : OwnS w.heap.size (.slice A2 ps.length c) ps w1) : DSt B out acc A2 ps w1 := ⟨h.1.below hb, hp.rd.2, Sep.new h.1 (own_new hp)⟩
theorem sayS_le (p : List UInt8) : (sayS p).length ≤ 1 := by
  unfold sayS
  cases ((splitL 59 p).2 != 0)
  · simp only [cond_false]
    split
    · exact oneOf_le _ _
    · cases tokenL _ <;> simp [oneOf_le]
    · simp
  · simp
theorem says_le : ∀ ps : List (List UInt8), (ps.flatMap sayS).length ≤ ps.length
  | [] => by simp
  | p :: r => by
    have h1 := sayS_le p
    have h2 := says_le r
    rw [List.flatMap_cons, List.length_append, List.length_cons]; omega
def tellsV (v : List UInt8) : List Dir := bif (splitL 44 v).2 == 0 then (splitL 44 v).1.flatMap sayS else [neverD]
theorem tellsV_le (v : List UInt8) : (tellsV v).length ≤ 64 := by
  unfold tellsV
  have h := split_few 44 v
  have h2 := says_le (splitL 44 v).1
  cases ((splitL 44 v).2 == 0)
  · simp
  · rw [cond_true]; omega
theorem slist_eq (vs : List (List UInt8)) : slistL vs = vs.flatMap tellsV := rfl
theorem slist_le : ∀ vs : List (List UInt8), (slistL vs).length ≤ 64 * vs.length
  | [] => by simp [slistL]
  | v :: r => by
    have h1 := tellsV_le v
    have h2 := slist_le r
    rw [slist_eq] at *
    rw [List.flatMap_cons, List.length_append, List.length_cons]; omega
theorem fmap_take {α β : Type} (f : α → List β) (l : List α) (k : Nat) (h : k < l.length) : (l.take (k + 1)).flatMap f = (l.take k).flatMap f ++ f l[k] := by
  rw [List.take_succ_eq_append_getElem h, List.flatMap_append]; simp

set_option maxHeartbeats 16000000 in
theorem surList_any (A : Option Addr) (n c : Nat) (vs : List (List UInt8)) (w : World) (hM : MaxL w) (hr : Rd A n 1 (strsV vs) w) (hn : n ≤ 10000) (hl : ∀ v ∈ vs, v.length ≤ 1000000) :
    Calls Tryd.prog 16 #[.slice A n c] w (DirsPost w (slistL vs)) := by
  obtain rfl := hr.str
  have hS : DSt w.heap.size (.slice none 0 0) [] A vs w := ⟨OwnD.nil _ _, hr, fun _ g o e x => by cases x⟩
  have hB := Below.refl w.heap.size w
  have h00 : slistL (vs.take 0) = [] := rfl
  have hstep := fun k (h : k < vs.length) => fmap_take tellsV vs k h
  have hlen : ∀ k, (slistL (vs.take k)).length ≤ 1000000 := fun k => by
    have := slist_le (vs.take k); have h2 : (vs.take k).length ≤ vs.length := by rw [List.length_take]; omega
    omega
  simp only [← slist_eq] at hstep
  have hfin : slistL (vs.take vs.length) = slistL vs := by rw [List.take_length]
  have HS := Lib.hid hS; have H00 := Lib.hid h00; have HSTEP := Lib.hid hstep; have HLEN := Lib.hid hlen; have HH := Lib.hid hfin; have HML := Lib.hid hl
  clear hS h00 hstep hlen hfin hl hr
  go_enter Tryd.func16, Tryd.ntmps16
  go_wp2_with fail
  go_loopw [11, 2] (fun i out wr => ∃ k : Nat, k ≤ vs.length ∧ i = .int .i64 k ∧ Hid (DSt w.heap.size out (slistL (vs.take k)) A vs wr) ∧ Below w.heap.size w wr) (fun i _ _ => vs.length - (intOf i).toNat)
  case atStart => exact ⟨0, Nat.zero_le _, rfl, by rw [H00.out]; exact HS, hB⟩
  case round =>
    clear HS hB H00
    obtain ⟨k, hk, rfl, HO, hbw⟩ := hrel
    obtain ⟨oa, oc, rfl⟩ := HO.out.1.shape
    have hal := HLEN.out k
    by_cases hlt : k < vs.length
    · obtain ⟨b, o, rfl, hl, c1⟩ := HO.out.2.1.str_at (k := k) hlt
      have hst := HSTEP.out k hlt
      have hv := HML.out vs[k] (List.getElem_mem _)
      generalize vs[k] = v at *
      have k2 := fun w => split_any ⟨v.toArray⟩ 44 w (by rw [Lib.size_eq]; exact hv)
      simp only at k2
      have hfew := split_few 44 v
      have hpt := split_total 44 v
      have hsay := @said_say v
      have htv : tellsV v = bif (splitL 44 v).2 == 0 then (splitL 44 v).1.flatMap sayS else [neverD] := rfl
      generalize splitL 44 v = r at *
      obtain ⟨ps, er⟩ := r
      simp only at hfew hpt hsay htv
      rw [htv] at hst
      generalize slistL (vs.take k) = acc at *
      cases hz : (er == 0)
      · rw [hz, cond_false] at hst
        have n0 : (er != 0) = true := by simp [bne, hz]
        have K2 := Lib.hid k2; have HST := Lib.hid hst
        clear k2 hst hpt hfew hsay htv HSTEP HML HLEN hv
        go_wp2_with fail
        refine (K2.out _).mono ?_
        rintro e w3 ⟨a3, c3, rfl, ho3, hb3⟩
        simp only at ho3 ⊢
        have hB3 := hbw.trans (hb3.mono hbw.size)
        have HO3 := Lib.hid (HO.out.below hb3)
        clear ho3 hb3 hbw HO c1 K2
        go_wp2_with fail
        refine (never_any _).mono ?_
        rintro e w4 ⟨a4, c4, rfl, ho4, hb4⟩
        have hB4 := hB3.trans (hb4.mono hB3.size)
        have HO4 := Lib.hid (HO3.out.below hb4)
        have HR4 := Lib.hid ho4.rd.2
        clear HO3 ho4 hb4 hB3
        have hal2 : acc.length + 1 ≤ 1000000000 := by omega
        go_wp2_with (at_builtin; refine app_dirs w.heap.size HO4.out.1 hB4.size HR4.out hal2 rfl _ _ rfl rfl rfl ?_)
        intro v' w7 hO7 hb7 hfar7
        have hB7 := hB4.trans hb7
        have HO7 : Hid (DSt w.heap.size v' (slistL (vs.take (k + 1))) (some ⟨b, o, none⟩) vs w7) := by rw [HST.out]; exact Lib.hid (HO4.out.far hO7 hfar7)
        clear hO7 hb7 hfar7 HO4 HST
        go_wp2
        go_roundw
        case rel => exact ⟨k + 1, by omega, by go_num, HO7, hB7⟩
        case measure => simp [intOf]; omega
      · rw [hz, cond_true] at hst
        have n0 : (er != 0) = false := by simp [bne, hz]
        have her : er = 0 := by simpa using hz
        have hps : ∀ p ∈ ps, p.length ≤ 1000000 := fun p hp => by have := total_mem hp; omega
        have hsy : ∀ p ∈ ps, saidS p = sayS p := fun p hp => hsay her hp
        have hft : ∀ m (h : m < ps.length), acc ++ (ps.take (m + 1)).flatMap sayS = (acc ++ (ps.take m).flatMap sayS) ++ sayS ps[m] := fun m h => by rw [fmap_take sayS ps m h, List.append_assoc]
        have hfl : ∀ m, (acc ++ (ps.take m).flatMap sayS).length ≤ 2000000 := by
          intro m
          have h1 := says_le (ps.take m)
          have h2 : (ps.take m).length ≤ ps.length := by rw [List.length_take]; omega
          rw [List.length_append]; omega
        have hfin : slistL (vs.take (k + 1)) = acc ++ (ps.take ps.length).flatMap sayS := by rw [List.take_length]; exact hst
        have h0 : acc ++ (ps.take 0).flatMap sayS = acc := by simp
        have K2 := Lib.hid k2; have HPS := Lib.hid hps; have HSY := Lib.hid hsy; have HFT := Lib.hid hft; have HFL := Lib.hid hfl; have HFIN := Lib.hid hfin; have H0 := Lib.hid h0
        clear k2 hst hv hpt hps hsy hft hfl hfin h0 hsay htv HSTEP HML HLEN her
        go_wp2_with fail
        refine (K2.out _).mono ?_
        rintro e w3 ⟨a3, c3, rfl, ho3, hb3⟩
        simp only at ho3 ⊢
        have hB3 := hbw.trans (hb3.mono hbw.size)
        have HO3 := Lib.hid (HO.out.below hb3)
        have HP3 := Lib.hid (HO.out.beside hb3 ho3)
        have hM3 := hM.below hB3
        clear ho3 hb3 hbw HO c1 K2
        go_wp2_with fail
        obtain ⟨wo, rfl⟩ : ∃ wo : World, wo = wr := ⟨_, rfl⟩
        go_loopw [27, 2] (fun j out wi => ∃ m : Nat, m ≤ ps.length ∧ j = .int .i64 m ∧ Hid (DSt w.heap.size out (acc ++ (ps.take m).flatMap sayS) (some ⟨b, o, none⟩) vs wi) ∧ Hid (DSt w.heap.size out (acc ++ (ps.take m).flatMap sayS) a3 ps wi) ∧ Below w.heap.size w wi) (fun j _ _ => ps.length - (intOf j).toNat)
        case atStart => exact ⟨0, Nat.zero_le _, rfl, by rw [H0.out]; exact HO3, by rw [H0.out]; exact HP3, hB3⟩
        case round =>
          clear HO3 HP3 hB3 H0 hM3
          obtain ⟨m, hm, rfl, HO, HP, hbi⟩ := hrel
          obtain ⟨pa, pc, rfl⟩ := HO.out.1.shape
          have hal2 := HFL.out m
          by_cases hlm : m < ps.length
          · obtain ⟨b2, o2, rfl, hl2, c2⟩ := HP.out.2.1.str_at (k := m) hlm
            have hpp := HPS.out ps[m] (List.getElem_mem _)
            have hsy := HSY.out ps[m] (List.getElem_mem _)
            have hft := HFT.out m hlm
            have hsl := sayS_le ps[m]
            generalize ps[m] = p at *
            have k4 := surSaid_any ⟨p.toArray⟩ wr (hM.below hbi) (by rw [Lib.size_eq]; exact hpp)
            simp only at k4
            rw [hsy] at k4
            generalize sayS p = q at *
            generalize acc ++ (ps.take m).flatMap sayS = ac at *
            have hal3 : ac.length + q.length ≤ 1000000000 := by omega
            have HFT2 := Lib.hid hft; have K4 := Lib.hid k4
            clear hft k4 hsy hpp
            go_wp2_with fail
            refine K4.out.mono ?_
            rintro e w4 ⟨a4, c4, rfl, ho4, hb4⟩
            have hB4 := hbi.trans (hb4.mono hbi.size)
            have HO4 := Lib.hid (HO.out.below hb4)
            have HP4 := Lib.hid (HP.out.below hb4)
            have HR4 := Lib.hid ho4.rd.2
            clear HO HP ho4 hb4 c2 K4
            go_wp2_with (at_builtin; refine app_dirs w.heap.size HO4.out.1 hB4.size HR4.out hal3 rfl _ _ rfl rfl rfl ?_)
            intro v' w7 hO7 hb7 hfar7
            have hB7 := hB4.trans hb7
            have HO7 : Hid (DSt w.heap.size v' (acc ++ (ps.take (m + 1)).flatMap sayS) (some ⟨b, o, none⟩) vs w7) := by rw [HFT2.out]; exact Lib.hid (HO4.out.far hO7 hfar7)
            have HP7 : Hid (DSt w.heap.size v' (acc ++ (ps.take (m + 1)).flatMap sayS) (some ⟨b2, o2, none⟩) ps w7) := by rw [HFT2.out]; exact Lib.hid (HP4.out.far hO7 hfar7)
            clear hO7 hb7 hfar7 HO4 HP4 HFT2
            go_wp2
            go_roundw
            case rel => exact ⟨m + 1, by omega, by go_num, HO7, HP7, hB7⟩
            case measure => simp [intOf]; omega
          · have hme : m = ps.length := by omega
            subst hme
            have HN : Hid (DSt w.heap.size (.slice pa (acc ++ (ps.take ps.length).flatMap sayS).length pc) (slistL (vs.take (k + 1))) (some ⟨b, o, none⟩) vs wr) := by rw [HFIN.out]; exact HO
            clear HO HP HFT HFL HFIN HPS HSY
            go_wp2
            go_roundw
            case rel => exact ⟨k + 1, by omega, by go_num, HN, hbi⟩
            case measure => simp [intOf]; omega
    · have hke : k = vs.length := by omega
      subst hke
      have hfin := HH.out
      clear HSTEP HML HLEN HH
      generalize slistL (vs.take vs.length) = q at *
      subst hfin
      go_wp2
      go_ret
      exact ⟨oa, oc, rfl, HO.out.1, hbw⟩
end Go.Proofs.YtlhfbikhlfgjbaaDoor
/- The walks of surctl.Mine and its closures (printed by wip/tools/surmine.py). -/
namespace Go.Proofs.YtlhfbikhlfgjbaaDoor
open Go.RowKit
set_option maxRecDepth 100000

set_option maxHeartbeats 4000000 in
theorem own1_any (T : Nat) (dev : ByteArray) (d : Dir) (w : World) (hT : w.cell? ⟨T, 0, none⟩ = some (.string dev)) (hTw : T < w.heap.size) :
    Calls Tryd.prog 36 #[.agg #[.string ⟨d.name.toArray⟩, .string ⟨d.value.toArray⟩, .bool d.has, .string ⟨d.for_.toArray⟩], .pointer (some ⟨T, 0, none⟩)] w fun e w' => e = .returned (.bool (ownB dev.data.toList d)) ∧ Below w.heap.size w w' := by
  obtain ⟨dn, dv, dh, df⟩ := d
  simp only
  have hal := (Below.refl w.heap.size w).alloc (Nat.le_refl _) (.cells #[.string ⟨dn.toArray⟩, .string ⟨dv.toArray⟩, .bool dh, .string ⟨df.toArray⟩] 28)
  have hT2 := (hal.cell (p := ⟨T, 0, none⟩) hTw).trans hT
  have hne : T ≠ w.heap.size := by omega
  cases he : dev.data.toList.isEmpty
  · have e1 : dev.toList.isEmpty = false := by rw [Lib.toList_data]; exact he
    have hq : ownB dev.data.toList ⟨dn, dv, dh, df⟩ = (df == dev.data.toList) := by unfold ownB; rw [he]; rfl
    rw [hq]
    have e2 : (df == dev.toList) = (df == dev.data.toList) := by rw [Lib.toList_data]
    have E2 := Lib.hid e2; clear e2 hq he
    go_enter Tryd.func36, Tryd.ntmps36
    go_wp2
    go_ret
    exact ⟨by rw [← E2.out]; rfl, hal⟩
  · have e1 : dev.toList.isEmpty = true := by rw [Lib.toList_data]; exact he
    have hq : ownB dev.data.toList ⟨dn, dv, dh, df⟩ = false := by unfold ownB; rw [he]; rfl
    rw [hq]
    clear hq he
    go_enter Tryd.func36, Tryd.ntmps36
    go_wp2
    go_ret
    exact ⟨rfl, hal⟩
set_option maxHeartbeats 4000000 in
theorem own2_any (T U V : Nat) (dev : ByteArray) (d x : Dir) (w : World) (hT : w.cell? ⟨T, 0, none⟩ = some (.string dev)) (hTw : T < w.heap.size) (hU : w.cell? ⟨U, 0, none⟩ = some (.func (.func 36) #[] #[.pointer (some ⟨T, 0, none⟩)])) (hUw : U < w.heap.size) (hV : w.cell? ⟨V, 0, none⟩ = some (.string ⟨d.name.toArray⟩)) (hVw : V < w.heap.size) :
    Calls Tryd.prog 38 #[.agg #[.string ⟨x.name.toArray⟩, .string ⟨x.value.toArray⟩, .bool x.has, .string ⟨x.for_.toArray⟩], .pointer (some ⟨U, 0, none⟩), .pointer (some ⟨V, 0, none⟩)] w fun e w' => e = .returned (.bool (ownB dev.data.toList x && x.name == d.name)) ∧ Below w.heap.size w w' := by
  have k1 := fun W h1 h2 => own1_any T dev x W h1 h2
  obtain ⟨dn, _, _, _⟩ := d
  obtain ⟨xn, xv, xh, xf⟩ := x
  simp only at hV k1 ⊢
  obtain ⟨W1, hW1⟩ : ∃ W1, w.alloc (.cells #[.string ⟨xn.toArray⟩, .string ⟨xv.toArray⟩, .bool xh, .string ⟨xf.toArray⟩] 28) = W1 := ⟨_, rfl⟩
  have hal : Below w.heap.size w W1 := by rw [← hW1]; exact (Below.refl w.heap.size w).alloc (Nat.le_refl _) _
  obtain ⟨z0, z1, z2, z3, _, _, _, _, zlt⟩ := at4_alloc w (.string ⟨xn.toArray⟩) (.string ⟨xv.toArray⟩) (.bool xh) (.string ⟨xf.toArray⟩) 28
  rw [hW1] at z0 z1 z2 z3 zlt
  have hT1 := (hal.cell (p := ⟨T, 0, none⟩) hTw).trans hT
  have hal0 := (Below.refl w.heap.size w).alloc (Nat.le_refl _) (.cells #[.string ⟨xn.toArray⟩, .string ⟨xv.toArray⟩, .bool xh, .string ⟨xf.toArray⟩] 28)
  have hU1 := (hal0.cell (p := ⟨U, 0, none⟩) hUw).trans hU
  have hV1 := (hal.cell (p := ⟨V, 0, none⟩) hVw).trans hV
  have k2 := k1 W1 hT1 (Nat.lt_of_lt_of_le hTw hal.size)
  have hVl := Nat.lt_of_lt_of_le hVw hal.size
  have HW1 := Lib.hid hW1
  clear k1 hT hU hV hT1 hW1
  cases ho : ownB dev.data.toList ⟨xn, xv, xh, xf⟩
  all_goals (
    rw [ho] at k2
    have K2 := Lib.hid k2; clear k2 ho
    go_enter Tryd.func38, Tryd.ntmps38
    go_wp2_with fail
    rw [HW1.out]
    refine K2.out.mono ?_
    rintro e w2 ⟨rfl, hb2⟩
    have y0 := (hb2.cell (p := ⟨w.heap.size, 0, none⟩) zlt).trans z0
    have yV := (hb2.cell (p := ⟨V, 0, none⟩) hVl).trans hV1
    have hB2 := hal.trans (hb2.mono hal.size)
    clear z0 z1 z2 z3 hV1 hU1
    go_wp2
    go_ret)
  · exact ⟨rfl, hB2⟩
  · exact ⟨rfl, hB2⟩

set_option maxHeartbeats 4000000 in
theorem indexMine_any (p1 p2 : Value) (q : Dir → Bool) (A : Option Addr) (n c : Nat) (xs : List Dir) (w : World) (hr : Rd A n 4 (dirsV xs) w) (hn : n ≤ 1000000)
    (hc : ∀ d ∈ xs, ∀ W, Below w.heap.size w W → Calls Tryd.prog 38 #[.agg #[.string ⟨d.name.toArray⟩, .string ⟨d.value.toArray⟩, .bool d.has, .string ⟨d.for_.toArray⟩], p1, p2] W fun e W' => e = .returned (.bool (q d)) ∧ Below W.heap.size W W') :
    Calls Tryd.prog 34 #[.slice A n c, .func (.func 38) #[] #[p1, p2]] w fun e w' => e = .returned (.int .i64 (firstI q xs)) ∧ Below w.heap.size w w' := by
  obtain rfl := hr.dir
  have hstep := fun k (h : k < xs.length) => @find_take_none xs q k h
  have hhit : ∀ k (h : k < xs.length), (xs.take k).find? q = none → q xs[k] = true → firstI q xs = k := by
    intro k h hno hp
    unfold firstI
    rw [show xs.findIdx? q = some k from by
      rw [List.findIdx?_eq_some_iff_getElem]
      refine ⟨h, hp, fun j hj => ?_⟩
      rw [List.find?_eq_none] at hno
      refine hno xs[j] ?_
      rw [List.mem_take_iff_getElem]
      exact ⟨j, by omega, rfl⟩]
  have hend : ∀ k, k = xs.length → (xs.take k).find? q = none → firstI q xs = -1 := by
    intro k hk h
    subst hk
    rw [List.take_length] at h
    unfold firstI
    rw [show xs.findIdx? q = none from by
      rw [List.findIdx?_eq_none_iff]
      rw [List.find?_eq_none] at h
      intro x hx'; simpa using h x hx']
  generalize firstI q xs = out at *
  have HR := Lib.hid hr; have HS := Lib.hid hstep; have HH := Lib.hid hhit; have HE := Lib.hid hend; have HC := Lib.hid hc
  clear hr hstep hhit hend hc
  go_enter Tryd.func34, Tryd.ntmps34
  go_wp2_with fail
  go_loopw [8] (fun i wr => ∃ k : Nat, k ≤ xs.length ∧ i = .int .i64 k ∧ Hid ((xs.take k).find? q = none) ∧ Below w.heap.size w wr) (fun i _ => xs.length - (intOf i).toNat)
  case atStart => exact ⟨0, Nat.zero_le _, rfl, Lib.hid (by simp), Below.refl _ _⟩
  case round =>
    obtain ⟨k, hk, rfl, HN, hbr⟩ := hrel
    by_cases hlt : k < xs.length
    · obtain ⟨b, o, rfl, hl, x0, x1, x2, x3⟩ := (HR.out.below hbr).dir_at (k := k) hlt
      have hst := HS.out k hlt HN.out
      have hht := HH.out k hlt HN.out
      have k1 := HC.out xs[k] (List.getElem_mem _) wr hbr
      generalize xs[k] = d at *
      obtain ⟨dn, dv, dh, df⟩ := d
      simp only at x0 x1 x2 x3 k1
      cases hq : q ⟨dn, dv, dh, df⟩
      · rw [hq] at k1
        have HN2 := Lib.hid (hst hq)
        have K1 := Lib.hid k1
        clear hst hht k1 hq HS HH HE HN HC
        go_wp2_with fail
        refine K1.out.mono ?_
        rintro e w1 ⟨rfl, hb1⟩
        have hB1 := hbr.trans (hb1.mono hbr.size)
        go_wp2
        go_roundw
        case rel => exact ⟨k + 1, by omega, by go_num, HN2, hB1⟩
        case measure => simp [intOf]; omega
      · rw [hq] at k1
        have ho := hht hq
        subst ho
        have K1 := Lib.hid k1
        clear hst hht k1 hq HS HH HE HN HC
        go_wp2_with fail
        refine K1.out.mono ?_
        rintro e w1 ⟨rfl, hb1⟩
        have hB1 := hbr.trans (hb1.mono hbr.size)
        go_wp2
        go_ret
        exact ⟨rfl, hB1⟩
    · have ho := HE.out k (by omega) HN.out
      subst ho
      clear HS HH HE HN HC
      go_wp2
      go_ret
      exact ⟨rfl, hbr⟩
set_option maxHeartbeats 1000000 in
theorem containsMine_any (p1 p2 : Value) (q : Dir → Bool) (A : Option Addr) (n c : Nat) (xs : List Dir) (w : World) (hr : Rd A n 4 (dirsV xs) w) (hn : n ≤ 1000000)
    (hc : ∀ d ∈ xs, ∀ W, Below w.heap.size w W → Calls Tryd.prog 38 #[.agg #[.string ⟨d.name.toArray⟩, .string ⟨d.value.toArray⟩, .bool d.has, .string ⟨d.for_.toArray⟩], p1, p2] W fun e W' => e = .returned (.bool (q d)) ∧ Below W.heap.size W W') :
    Calls Tryd.prog 37 #[.slice A n c, .func (.func 38) #[] #[p1, p2]] w fun e w' => e = .returned (.bool (xs.any q)) ∧ Below w.heap.size w w' := by
  have k1 := indexMine_any p1 p2 q A n c xs w hr hn hc
  have hcase := firstI_find q xs
  have hany : (firstI q xs = -1 ∧ xs.any q = false) ∨ (∃ k : Nat, firstI q xs = (k : Int) ∧ xs.any q = true) := by
    rcases hcase with ⟨h1, h2⟩ | ⟨k, hk, h1, h2⟩
    · refine Or.inl ⟨h2, ?_⟩
      rw [List.find?_eq_none] at h1
      rw [List.any_eq_false]
      intro x hx; simpa using h1 x hx
    · refine Or.inr ⟨k, h2, ?_⟩
      rw [List.any_eq_true]
      exact ⟨xs[k], List.getElem_mem _, List.find?_some h1⟩
  clear hcase hc
  generalize firstI q xs = ix at *
  generalize xs.any q = out at *
  have K1 := Lib.hid k1; clear k1 hr
  rcases hany with ⟨rfl, rfl⟩ | ⟨k, rfl, rfl⟩
  · go_enter Tryd.func37, Tryd.ntmps37
    go_wp2_with fail
    refine K1.out.mono ?_
    rintro e w1 ⟨rfl, hb1⟩
    go_wp2
    go_ret
    exact ⟨rfl, hb1⟩
  · go_enter Tryd.func37, Tryd.ntmps37
    go_wp2_with fail
    refine K1.out.mono ?_
    rintro e w1 ⟨rfl, hb1⟩
    go_wp2
    go_ret
    exact ⟨rfl, hb1⟩

def DSt4 (B : Nat) (out : Value) (acc : List Dir) (A : Option Addr) (xs : List Dir) (w : World) : Prop := OwnD B out acc w ∧ Rd A xs.length 4 (dirsV xs) w ∧ Sep out A xs.length
theorem DSt4.below {B : Nat} {out : Value} {acc : List Dir} {A : Option Addr} {xs : List Dir} {w w1 : World} (h : DSt4 B out acc A xs w) (hb : Below w.heap.size w w1) : DSt4 B out acc A xs w1 := ⟨h.1.below hb, h.2.1.below hb, h.2.2⟩
theorem DSt4.far {B : Nat} {out v' : Value} {acc acc' : List Dir} {A : Option Addr} {xs : List Dir} {w w1 : World} (h : DSt4 B out acc A xs w) (ho : OwnD B v' acc' w1) (hf : Far w w1 out v') : DSt4 B v' acc' A xs w1 := ⟨ho, h.2.1.far hf h.2.2⟩
theorem filter_take {α : Type} (p : α → Bool) (l : List α) (k : Nat) (h : k < l.length) : (l.take (k + 1)).filter p = bif p l[k] then (l.take k).filter p ++ [l[k]] else (l.take k).filter p := by
  rw [List.take_succ_eq_append_getElem h, List.filter_append]
  cases hp : p l[k] <;> simp [hp]
set_option maxHeartbeats 16000000 in
theorem mine_any (A : Option Addr) (n c : Nat) (xs : List Dir) (dev : ByteArray) (w : World) (hr : Rd A n 4 (dirsV xs) w) (hn : n ≤ 1000000) :
    Calls Tryd.prog 15 #[.slice A n c, .string dev] w (DirsPost w (mineL xs dev.data.toList)) := by
  obtain rfl := hr.dir
  obtain ⟨W0, hW0⟩ : ∃ W0, w.alloc (.cells #[.string dev] 9) = W0 := ⟨_, rfl⟩
  have hB0 : Below w.heap.size w W0 := by rw [← hW0]; exact (Below.refl _ w).alloc (Nat.le_refl _) _
  have hT0 : W0.cell? ⟨w.heap.size, 0, none⟩ = some (.string dev) := by rw [← hW0]; exact World.cell?_alloc_mark w _ _ _ 0
  have z0 : W0.heap.size = w.heap.size + 1 := by rw [← hW0]; simp
  obtain ⟨W1, hW1⟩ : ∃ W1, W0.alloc (.cells #[.func (.func 36) #[] #[.pointer (some ⟨w.heap.size, 0, none⟩)]] 76) = W1 := ⟨_, rfl⟩
  have hb01 : Below W0.heap.size W0 W1 := by rw [← hW1]; exact (Below.refl _ W0).alloc (Nat.le_refl _) _
  have hB1 : Below w.heap.size w W1 := hB0.trans (hb01.mono hB0.size)
  have hU : W1.cell? ⟨w.heap.size + 1, 0, none⟩ = some (.func (.func 36) #[] #[.pointer (some ⟨w.heap.size, 0, none⟩)]) := by rw [← hW1, ← z0]; exact World.cell?_alloc_mark W0 _ _ _ 0
  have z1 : W1.heap.size = w.heap.size + 2 := by rw [← hW1]; simp; omega
  have hT : W1.cell? ⟨w.heap.size, 0, none⟩ = some (.string dev) := (hb01.cell (p := ⟨w.heap.size, 0, none⟩) (by show w.heap.size < _; omega)).trans hT0
  have hTw : w.heap.size < W1.heap.size := by omega
  have hUw : w.heap.size + 1 < W1.heap.size := by omega
  have hS : DSt4 W1.heap.size (.slice none 0 0) [] A xs W1 := ⟨OwnD.nil _ _, hr.below hB1, fun _ g o e x => by cases x⟩
  have hstep := fun k (h : k < xs.length) => filter_take (mineB xs dev.data.toList) xs k h
  have hlen : ∀ k, ((xs.take k).filter (mineB xs dev.data.toList)).length ≤ xs.length := fun k => by
    have h1 := List.length_filter_le (mineB xs dev.data.toList) (xs.take k)
    have h2 : (xs.take k).length ≤ xs.length := by rw [List.length_take]; omega
    omega
  have hfin : mineL xs dev.data.toList = (xs.take xs.length).filter (mineB xs dev.data.toList) := by rw [List.take_length]; rfl
  have h00 : (xs.take 0).filter (mineB xs dev.data.toList) = [] := rfl
  have hmb : ∀ d, mineB xs dev.data.toList d = (ownB dev.data.toList d || (d.for_.isEmpty && !xs.any fun x => ownB dev.data.toList x && x.name == d.name)) := fun d => rfl
  generalize mineB xs dev.data.toList = mb at *
  rw [hfin]
  clear hfin
  have HS := Lib.hid hS; have HSTEP := Lib.hid hstep; have HLEN := Lib.hid hlen; have H00 := Lib.hid h00; have HMB := Lib.hid hmb; have HW0 := Lib.hid hW0; have HW1 := Lib.hid hW1; have HT := Lib.hid hT; have HU := Lib.hid hU
  have hb1 := Below.refl W1.heap.size W1
  clear hS hstep hlen h00 hmb hW0 hW1 hT hU hr hT0 z0 z1
  go_enter Tryd.func15, Tryd.ntmps15
  go_wp2_with fail
  rw [HW0.out, HW1.out]
  go_loopw [11, 4] (fun i out wr => ∃ k : Nat, k ≤ xs.length ∧ i = .int .i64 k ∧ Hid (DSt4 W1.heap.size out ((xs.take k).filter mb) A xs wr) ∧ Below W1.heap.size W1 wr) (fun i _ _ => xs.length - (intOf i).toNat)
  case atStart => exact ⟨0, Nat.zero_le _, rfl, by rw [H00.out]; exact HS, hb1⟩
  case round =>
    clear HS hb1 H00
    obtain ⟨k, hk, rfl, HO, hbw⟩ := hrel
    obtain ⟨oa, oc, rfl⟩ := HO.out.1.shape
    have hal := HLEN.out k
    by_cases hlt : k < xs.length
    · obtain ⟨b, o, rfl, hl, c0, c1, c2, c3⟩ := HO.out.2.1.dir_at (k := k) hlt
      have hst := HSTEP.out k hlt
      have hmb := HMB.out xs[k]
      have hrd := HO.out.2.1
      generalize xs[k] = d at *
      generalize (xs.take k).filter mb = acc at *
      obtain ⟨dn, dv, dh, df⟩ := d
      simp only at c0 c1 c2 c3 hmb
      obtain ⟨W2, hW2⟩ : ∃ W2, wr.alloc (.cells #[.string ⟨dn.toArray⟩, .string ⟨dv.toArray⟩, .bool dh, .string ⟨df.toArray⟩] 28) = W2 := ⟨_, rfl⟩
      have ha2 : Below wr.heap.size wr W2 := by rw [← hW2]; exact (Below.refl _ wr).alloc (Nat.le_refl _) _
      have j4 := at4_alloc wr (.string ⟨dn.toArray⟩) (.string ⟨dv.toArray⟩) (.bool dh) (.string ⟨df.toArray⟩) 28
      rw [hW2] at j4
      have hB2 := hbw.trans (ha2.mono hbw.size)
      have HO2 := Lib.hid (HO.out.below ha2)
      have hT2 := (hB2.cell (p := ⟨w.heap.size, 0, none⟩) hTw).trans HT.out
      have hU2 := (hB2.cell (p := ⟨w.heap.size + 1, 0, none⟩) hUw).trans HU.out
      have k1 := own1_any w.heap.size dev ⟨dn, dv, dh, df⟩ W2 hT2 (Nat.lt_of_lt_of_le hTw hB2.size)
      have k2 := fun W (hb : Below W2.heap.size W2 W) => containsMine_any (.pointer (some ⟨w.heap.size + 1, 0, none⟩)) (.pointer (some ⟨wr.heap.size, 0, none⟩)) (fun x => ownB dev.data.toList x && x.name == dn) (some ⟨b, o, none⟩) xs.length c xs W ((HO2.out.2.1).below hb) hn
        (fun x _ W' hb' => own2_any w.heap.size (w.heap.size + 1) wr.heap.size dev ⟨dn, dv, dh, df⟩ x W' (((bt hb hb').cell (p := ⟨w.heap.size, 0, none⟩) (Nat.lt_of_lt_of_le hTw hB2.size)).trans hT2) (Nat.lt_of_lt_of_le hTw (Nat.le_trans hB2.size (bt hb hb').size)) (((bt hb hb').cell (p := ⟨w.heap.size + 1, 0, none⟩) (Nat.lt_of_lt_of_le hUw hB2.size)).trans hU2) (Nat.lt_of_lt_of_le hUw (Nat.le_trans hB2.size (bt hb hb').size)) (((bt hb hb').cell (p := ⟨wr.heap.size, 0, none⟩) j4.lt).trans j4.c0) (Nat.lt_of_lt_of_le j4.lt (bt hb hb').size))
      simp only at k1
      have J4 := Lib.hid j4; have HU2 := Lib.hid hU2
      rw [← hW2] at hU2
      have HW2 := Lib.hid hW2
      obtain ⟨x0, x1, x2, x3, _, _, _, _, xlt⟩ := j4
      clear hT2 ha2 hrd HO HSTEP HLEN HMB
      clear hW2
      have hlen2 : acc.length ≤ 1000000000 := by omega
      cases how : ownB dev.data.toList ⟨dn, dv, dh, df⟩
      · rw [how] at k1
        rw [how, Bool.false_or] at hmb
        cases hfq : df.isEmpty
        · rw [hfq, Bool.false_and] at hmb
          rw [hmb, cond_false] at hst
          have HST := Lib.hid hst; have K1 := Lib.hid k1
          clear hst k1 k2 how hmb
          go_wp2_with fail
          rw [HW2.out]
          refine K1.out.mono ?_
          rintro e w3 ⟨rfl, h3⟩
          have hB3 := hB2.trans (h3.mono hB2.size)
          obtain ⟨y0, y1, y2, y3, _, _, _, _, ylt⟩ := J4.out.below h3
          have HO3 : Hid (DSt4 W1.heap.size (.slice oa acc.length oc) ((xs.take (k + 1)).filter mb) (some ⟨b, o, none⟩) xs w3) := by rw [HST.out]; exact Lib.hid (HO2.out.below h3)
          clear x0 x1 x2 x3 h3 HO2 hU2
          go_wp2
          go_roundw
          case rel => exact ⟨k + 1, by omega, by go_num, HO3, hB3⟩
          case measure => simp [intOf]; omega
        · rw [hfq, Bool.true_and] at hmb
          have hdf : df = [] := List.isEmpty_iff.1 hfq
          subst hdf
          generalize (xs.any fun x => ownB dev.data.toList x && x.name == dn) = an at *
          cases an
          · rw [hmb, Bool.not_false, cond_true] at hst
            have HST := Lib.hid hst; have K1 := Lib.hid k1; have K2 := Lib.hid k2
            clear hst k1 k2 how hmb hfq
            go_wp2_with fail
            rw [HW2.out]
            refine K1.out.mono ?_
            rintro e w3 ⟨rfl, h3⟩
            obtain ⟨y0, y1, y2, y3, _, _, _, _, ylt⟩ := J4.out.below h3
            clear x0 x1 x2 x3 hU2
            go_wp2_with fail
            refine (K2.out _ h3).mono ?_
            rintro e w4 ⟨rfl, h4⟩
            have h34 := bt h3 h4
            obtain ⟨v0, v1, v2, v3, _, _, _, _, vlt⟩ := J4.out.below h34
            have hB4 := hB2.trans (h34.mono hB2.size)
            have HO4 := Lib.hid (HO2.out.below h34)
            clear y0 y1 y2 y3 h3 h4 h34 HO2 K1 K2
            go_wp2_with (at_builtin; refine app_dir W1.heap.size ⟨dn, dv, dh, []⟩ HO4.out.1 hB4.size hlen2 rfl _ _ rfl rfl rfl ?_)
            intro v' w7 hO7 hb7 hfar7
            have hB7 := hB4.trans hb7
            have HO7 : Hid (DSt4 W1.heap.size v' ((xs.take (k + 1)).filter mb) (some ⟨b, o, none⟩) xs w7) := by rw [HST.out]; exact Lib.hid (HO4.out.far hO7 hfar7)
            clear hO7 hb7 hfar7 HO4
            go_wp2
            go_roundw
            case rel => exact ⟨k + 1, by omega, by go_num, HO7, hB7⟩
            case measure => simp [intOf]; omega
          · rw [hmb, Bool.not_true, cond_false] at hst
            have HST := Lib.hid hst; have K1 := Lib.hid k1; have K2 := Lib.hid k2
            clear hst k1 k2 how hmb hfq
            go_wp2_with fail
            rw [HW2.out]
            refine K1.out.mono ?_
            rintro e w3 ⟨rfl, h3⟩
            obtain ⟨y0, y1, y2, y3, _, _, _, _, ylt⟩ := J4.out.below h3
            clear x0 x1 x2 x3 hU2
            go_wp2_with fail
            refine (K2.out _ h3).mono ?_
            rintro e w4 ⟨rfl, h4⟩
            have h34 := bt h3 h4
            have hB4 := hB2.trans (h34.mono hB2.size)
            have HO3 : Hid (DSt4 W1.heap.size (.slice oa acc.length oc) ((xs.take (k + 1)).filter mb) (some ⟨b, o, none⟩) xs w4) := by rw [HST.out]; exact Lib.hid (HO2.out.below h34)
            clear y0 y1 y2 y3 h3 h4 h34 HO2 K1 K2
            go_wp2
            go_roundw
            case rel => exact ⟨k + 1, by omega, by go_num, HO3, hB4⟩
            case measure => simp [intOf]; omega
      · rw [how] at k1
        rw [how, Bool.true_or] at hmb
        rw [hmb, cond_true] at hst
        have HST := Lib.hid hst; have K1 := Lib.hid k1
        clear hst k1 k2 how hmb
        go_wp2_with fail
        rw [HW2.out]
        refine K1.out.mono ?_
        rintro e w4 ⟨rfl, h34⟩
        obtain ⟨v0, v1, v2, v3, _, _, _, _, vlt⟩ := J4.out.below h34
        have hB4 := hB2.trans (h34.mono hB2.size)
        have HO4 := Lib.hid (HO2.out.below h34)
        clear x0 x1 x2 x3 h34 HO2 K1 hU2
        go_wp2_with (at_builtin; refine app_dir W1.heap.size ⟨dn, dv, dh, df⟩ HO4.out.1 hB4.size hlen2 rfl _ _ rfl rfl rfl ?_)
        intro v' w7 hO7 hb7 hfar7
        have hB7 := hB4.trans hb7
        have HO7 : Hid (DSt4 W1.heap.size v' ((xs.take (k + 1)).filter mb) (some ⟨b, o, none⟩) xs w7) := by rw [HST.out]; exact Lib.hid (HO4.out.far hO7 hfar7)
        clear hO7 hb7 hfar7 HO4
        go_wp2
        go_roundw
        case rel => exact ⟨k + 1, by omega, by go_num, HO7, hB7⟩
        case measure => simp [intOf]; omega
    · have hke : k = xs.length := by omega
      subst hke
      have HO2 := Lib.hid (HO.out.1.base hB1.size)
      have hB2 := hB1.trans (hbw.mono hB1.size)
      clear HSTEP HLEN HMB HO
      generalize (xs.take xs.length).filter mb = q at *
      go_wp2
      go_ret
      exact ⟨oa, oc, rfl, HO2.out, hB2⟩
end Go.Proofs.YtlhfbikhlfgjbaaDoor
/- Words between blanks: the library's fields, and the document's way; how long what a directive says may be. -/
namespace Go.Proofs.YtlhfbikhlfgjbaaDoor

def blankP (x : Nat) : Bool := ((x : Int) == 32) || ((x : Int) == 9)
theorem get_at (s : ByteArray) (i : Nat) (h : i < s.size) : s.get! i = s[i] := by
  show s.data[i]! = s.data[i]
  exact getElem!_pos s.data i h
theorem dec_step (s : ByteArray) (pos : Nat) (h : pos < s.size) : 1 ≤ (Utf8.decode s pos).2 ∧ pos + (Utf8.decode s pos).2 ≤ s.size ∧
    (blankP (Utf8.decode s pos).1 = true → (Utf8.decode s pos).2 = 1 ∧ blanks.contains s[pos] = true) ∧
    (blankP (Utf8.decode s pos).1 = false → ∀ j (hj : j < s.size), pos ≤ j → j < pos + (Utf8.decode s pos).2 → blanks.contains s[j] = false) := by
  have g0 := get_at s pos h
  have hb : ∀ c : UInt8, 128 ≤ c.toNat → blanks.contains c = false := by
    intro c hc
    cases hq : blanks.contains c
    · rfl
    · have : c = 32 ∨ c = 9 := by simpa [blanks] using hq
      rcases this with e | e <;> subst e <;> simp at hc
  have hk : ∀ k, pos + k < s.size → (s.get! (pos + k)).toNat / 64 = 2 → ∀ (hj : pos + k < s.size), blanks.contains s[pos + k] = false := by
    intro k hk h2 hj
    rw [get_at s (pos + k) hk] at h2
    exact hb _ (by omega)
  have first : ¬ (s[pos]).toNat < 128 → ∀ n, (∀ k, 1 ≤ k → k < n → pos + k < s.size ∧ (s.get! (pos + k)).toNat / 64 = 2) → ∀ j (hj : j < s.size), pos ≤ j → j < pos + n → blanks.contains s[j] = false := by
    intro h0 n hn j hj h1 h2
    obtain ⟨k, rfl⟩ : ∃ k, j = pos + k := ⟨j - pos, by omega⟩
    rcases Nat.eq_zero_or_pos k with hz | hz
    · subst hz; exact hb _ (by simpa using h0)
    · obtain ⟨a, b⟩ := hn k hz (by omega)
      exact hk k a b hj
  unfold Utf8.decode
  simp only [Nat.add_zero, g0]
  by_cases h128 : (s[pos]).toNat < 0x80
  · simp only [h128, if_true]
    refine ⟨by omega, by omega, fun hp => ⟨trivial, ?_⟩, fun hp j hj h1 h2 => ?_⟩
    · have : (s[pos]).toNat = 32 ∨ (s[pos]).toNat = 9 := by simp [blankP] at hp; omega
      have : s[pos] = 32 ∨ s[pos] = 9 := by
        rcases this with e | e
        · left; rw [← UInt8.toNat_inj]; exact e
        · right; rw [← UInt8.toNat_inj]; exact e
      simpa [blanks] using this
    · obtain rfl : j = pos := by omega
      cases hq : blanks.contains s[j]
      · rfl
      · have : s[j] = 32 ∨ s[j] = 9 := by simpa [blanks] using hq
        rcases this with e | e <;> rw [e] at hp <;> simp [blankP] at hp
  · have f1 := first h128 1 (fun k h1 h2 => by omega)
    have bad : 1 ≤ 1 ∧ pos + 1 ≤ s.size ∧ (blankP Utf8.runeError = true → 1 = 1 ∧ blanks.contains s[pos] = true) ∧ (blankP Utf8.runeError = false → ∀ j (hj : j < s.size), pos ≤ j → j < pos + 1 → blanks.contains s[j] = false) :=
      ⟨by omega, by omega, fun hp => by simp [blankP, Utf8.runeError] at hp, fun _ => f1⟩
    have ok : ∀ (c n : Nat), 0x80 ≤ c → 1 ≤ n → (∀ k, 1 ≤ k → k < n → pos + k < s.size ∧ (s.get! (pos + k)).toNat / 64 = 2) → 1 ≤ n ∧ pos + n ≤ s.size ∧ (blankP c = true → n = 1 ∧ blanks.contains s[pos] = true) ∧ (blankP c = false → ∀ j (hj : j < s.size), pos ≤ j → j < pos + n → blanks.contains s[j] = false) := by
      intro c n hc hn hall
      refine ⟨hn, ?_, fun hp => ?_, fun _ => first h128 n hall⟩
      · rcases Nat.lt_or_ge 1 n with h1 | h1
        · have := (hall (n - 1) (by omega) (by omega)).1; omega
        · omega
      · simp [blankP] at hp; omega
    simp only [h128, if_false]
    split
    · rename_i hc
      simp only [Bool.and_eq_true, beq_iff_eq, decide_eq_true_eq] at hc
      split
      · rename_i h80
        exact ok _ 2 h80 (by omega) (fun k h1 h2 => by (obtain rfl : k = 1 := (by omega)); exact hc.2)
      · exact bad
    · split
      · rename_i hc
        simp only [Bool.and_eq_true, beq_iff_eq, decide_eq_true_eq] at hc
        split
        · rename_i h80
          simp only [Bool.and_eq_true, decide_eq_true_eq] at h80
          exact ok _ 3 (by omega) (by omega) (fun k h1 h2 => by rcases (by omega : k = 1 ∨ k = 2) with rfl | rfl; exact hc.1.2; exact hc.2)
        · exact bad
      · split
        · rename_i hc
          simp only [Bool.and_eq_true, beq_iff_eq, decide_eq_true_eq] at hc
          split
          · rename_i h80
            simp only [Bool.and_eq_true, decide_eq_true_eq] at h80
            exact ok _ 4 (by omega) (by omega) (fun k h1 h2 => by rcases (by omega : k = 1 ∨ k = 2 ∨ k = 3) with rfl | rfl | rfl; exact hc.1.1.2; exact hc.1.2; exact hc.2)
          · exact bad
        · exact bad
theorem wordP_run (w : List UInt8) : ∀ (x cur r : List UInt8), (∀ c ∈ x, blanks.contains c = false) → wordP w cur (x ++ r) = wordP w (cur ++ x) r
  | [], cur, r, _ => by simp
  | c :: x, cur, r, h => by
    rw [List.cons_append, wordP, h c (by simp), cond_false, wordP_run w x _ r (fun y hy => h y (by simp [hy]))]
    simp
def curOf (s : ByteArray) (pos : Nat) : Option Nat → List UInt8
  | none => []
  | some a => (s.data.toList.drop a).take (pos - a)
theorem fields_word (s : ByteArray) (w : List UInt8) (hw : w ≠ []) : ∀ (f pos : Nat) (st : Option Nat) (acc : List (Nat × Nat)), s.size ≤ pos + f → pos ≤ s.size → (∀ a, st = some a → a ≤ pos) →
    ((Lib.closeSpans s (Lib.spansFromP blankP s f pos st acc)).any fun x => (s.extract x.1 x.2).data.toList == w) = ((acc.any fun x => (s.extract x.1 x.2).data.toList == w) || wordP w (curOf s pos st) (s.data.toList.drop pos)) := by
  have hw0 : (([] : List UInt8) == w) = false := by rw [beq_eq_false_iff_ne]; exact fun e => hw e.symm
  have base : ∀ (pos : Nat) (st : Option Nat) (acc : List (Nat × Nat)), pos = s.size → (∀ a, st = some a → a ≤ pos) → ((Lib.closeSpans s (acc, st)).any fun x => (s.extract x.1 x.2).data.toList == w) = ((acc.any fun x => (s.extract x.1 x.2).data.toList == w) || wordP w (curOf s pos st) (s.data.toList.drop pos)) := by
    intro pos st acc hp hst
    rw [drop_all s pos (by omega)]
    cases st with
    | none => simp only [Lib.closeSpans, curOf, wordP, hw0, Bool.or_false]
    | some a =>
      simp only [Lib.closeSpans, curOf, wordP, List.any_append, List.any_cons, List.any_nil, Bool.or_false, Lib.extract_data]
      rw [hp]
  intro f
  induction f with
  | zero =>
    intro pos st acc h1 h2 hst
    exact base pos st acc (by omega) hst
  | succ f ih =>
    intro pos st acc h1 h2 hst
    unfold Lib.spansFromP
    by_cases hlt : pos < s.size
    · rw [if_pos hlt]
      obtain ⟨d1, d2, d3, d4⟩ := dec_step s pos hlt
      generalize Utf8.decode s pos = d at *
      obtain ⟨r, n⟩ := d
      simp only at d1 d2 d3 d4 ⊢
      have hdc := drop_cons s pos hlt
      cases hp : blankP r
      · have hall := d4 hp
        have hx : ∀ c ∈ (s.data.toList.drop pos).take n, blanks.contains c = false := by
          intro c hc
          rw [List.mem_take_iff_getElem] at hc
          obtain ⟨i, hi, rfl⟩ := hc
          rw [List.getElem_drop]
          have hil : pos + i < s.size := by
            have := Nat.lt_of_lt_of_le hi (Nat.min_le_left _ _); omega
          rw [← at_list s (pos + i) hil]
          exact hall (pos + i) hil (by omega) (by have := Nat.lt_of_lt_of_le hi (Nat.min_le_left _ _); omega)
        have hsplit : s.data.toList.drop pos = (s.data.toList.drop pos).take n ++ s.data.toList.drop (pos + n) := by
          conv => lhs; rw [← List.take_append_drop n (s.data.toList.drop pos)]
          rw [List.drop_drop]
        simp only [Bool.false_eq_true, if_false]
        cases st with
        | none =>
          simp only
          rw [ih (pos + n) (some pos) acc (by omega) d2 (fun a e => by cases e; omega)]
          congr 1
          rw [hsplit, wordP_run w _ _ _ hx]
          simp only [curOf, List.nil_append]
          rw [show pos + n - pos = n from by omega]
        | some a =>
          have ha := hst a rfl
          simp only
          rw [ih (pos + n) (some a) acc (by omega) d2 (fun b e => by cases e; omega)]
          congr 1
          conv => rhs; rw [hsplit]
          rw [wordP_run w _ _ _ hx]
          congr 1
          simp only [curOf]
          rw [show pos + n - a = (pos - a) + n from by omega, List.take_add, List.drop_drop, show a + (pos - a) = pos from by omega]
      · obtain ⟨rfl, hbl⟩ := d3 hp
        simp only [if_true]
        cases st with
        | none =>
          simp only
          rw [ih (pos + 1) none acc (by omega) d2 (fun a e => by cases e), hdc, wordP, hbl, cond_true]
          simp only [curOf, hw0, Bool.false_or]
        | some a =>
          simp only
          rw [ih (pos + 1) none _ (by omega) d2 (fun a e => by cases e), hdc, wordP, hbl, cond_true]
          simp only [curOf, List.any_append, List.any_cons, List.any_nil, Bool.or_false, Lib.extract_data, Bool.or_assoc]
    · rw [if_neg hlt]
      exact base pos st acc (by omega) hst
theorem contains_word (s : ByteArray) (w : List UInt8) (hw : w ≠ []) : Lib.containsS (Lib.goFieldsP blankP s) ⟨w.toArray⟩ = wordP w [] s.data.toList := by
  have h := fields_word s w hw s.size 0 none [] (by omega) (by omega) (fun a e => by cases e)
  have e : wordP w [] s.data.toList = ((Lib.spansOfP blankP s).any fun x => (s.extract x.1 x.2).data.toList == w) := by
    unfold Lib.spansOfP
    rw [h]
    simp [curOf]
  rw [e, Bool.eq_iff_iff, Lib.containsS_iff]
  unfold Lib.goFieldsP
  rw [List.mem_map, List.any_eq_true]
  constructor
  · rintro ⟨x, hx, hq⟩
    exact ⟨x, hx, by rw [hq]; simp⟩
  · rintro ⟨x, hx, hq⟩
    exact ⟨x, hx, str_list (by simpa using hq)⟩

theorem unq_len : ∀ (l : List UInt8) (b : Bool) (s : List UInt8), unq b l = some s → s.length ≤ l.length
  | [], b, s, h => by
    unfold unq at h
    cases b
    · simp at h; subst h; simp
    · simp at h
  | c :: r, b, s, h => by
    unfold unq at h
    cases h1 : (!plainb c || (c.toNat == 34 && !b)) <;> rw [h1] at h
    · rw [cond_false] at h
      cases h2 : (c.toNat == 92 && !b) <;> rw [h2] at h
      · rw [cond_false] at h
        cases hu : unq false r with
        | none => rw [hu] at h; cases h
        | some t =>
          rw [hu] at h
          simp only [Option.map_some, Option.some.injEq] at h
          subst h
          have := unq_len r false t hu
          simp; omega
      · rw [cond_true] at h
        have := unq_len r true s h
        simp; omega
    · cases h
theorem unqP_len {l s : List UInt8} (h : unqP l = some s) : s.length ≤ l.length := by
  unfold unqP at h
  cases hc : (decide (2 ≤ l.length) && (l.head?.getD 0).toNat == 34 && (l.getLast?.getD 0).toNat == 34) <;> rw [hc] at h
  · cases h
  · rw [cond_true] at h
    have := unq_len _ _ _ h
    simp at this
    omega
theorem said_lens {p : List UInt8} {d : Dir} (h : saidO p = some d) : d.name.length ≤ p.length ∧ d.value.length ≤ p.length ∧ d.for_ = [] := by
  have hl : (Lib.cut p [61]).1.length ≤ p.length ∧ (Lib.cut p [61]).2.1.length ≤ p.length := by
    unfold Lib.cut
    by_cases h0 : 0 ≤ Lib.index p [61]
    · rw [if_pos h0]; simp; omega
    · rw [if_neg h0]; simp
  unfold saidO at h
  generalize Lib.cut p [61] = c at *
  obtain ⟨a, b, has⟩ := c
  simp only at h hl
  cases ht : tokenL a <;> rw [ht] at h
  · cases h
  · simp only [Bool.not_true, cond_false] at h
    cases hb : (has && !tokenL b) <;> rw [hb] at h
    · rw [cond_false] at h
      injection h with h
      subst h
      exact ⟨by show (lowerL a).length ≤ _; rw [lower_length]; exact hl.1, hl.2, rfl⟩
    · rw [cond_true] at h
      cases hu : unqP b with
      | none => rw [hu] at h; cases h
      | some s =>
        rw [hu] at h
        simp only [Option.map_some, Option.some.injEq] at h
        subst h
        exact ⟨by show (lowerL a).length ≤ _; rw [lower_length]; exact hl.1, Nat.le_trans (unqP_len hu) hl.2, rfl⟩
def DirLe (B : Nat) (d : Dir) : Prop := d.name.length ≤ B ∧ d.value.length ≤ B ∧ d.for_.length ≤ B
theorem one_le {l : List Dir} {f : List UInt8} {B : Nat} (hl : ∀ d ∈ l, DirLe B d) (hf : f.length ≤ B) : ∀ d ∈ oneOf l f, DirLe B d := by
  intro d hd
  unfold oneOf at hd
  split at hd
  · rename_i x
    rw [List.mem_singleton] at hd
    subst hd
    have := hl x (by simp)
    refine ⟨this.1, this.2.1, ?_⟩
    cases f with
    | nil => exact this.2.2
    | cons _ _ => exact hf
  · cases hd
theorem says_dirle {p : List UInt8} : ∀ d ∈ sayS p, DirLe (p.length + 8) d := by
  intro d hd
  have ht := split_total 59 p
  have hm := fun x (hx : x ∈ (splitL 59 p).1) => total_mem hx
  unfold sayS at hd
  have hs : ∀ a ∈ (splitL 59 p).1, ∀ d ∈ (saidO a).toList, DirLe (p.length + 8) d := by
    intro a ha d hd
    have h1 := hm a ha
    cases hq : saidO a with
    | none => rw [hq] at hd; cases hd
    | some x =>
      rw [hq] at hd
      simp at hd
      subst hd
      obtain ⟨q1, q2, q3⟩ := said_lens hq
      exact ⟨by omega, by omega, by rw [q3]; simp⟩
  cases hz : ((splitL 59 p).2 != 0) <;> rw [hz] at hd
  · rw [cond_false] at hd
    split at hd
    · rename_i a e
      rw [e] at hs
      exact one_le (hs a (by simp)) (by simp) d hd
    · rename_i a b e
      rw [e] at hs hm ht
      cases hb : tokenL b <;> rw [hb] at hd
      · cases hd
      · exact one_le (hs a (by simp)) (by have := hm b (by simp); omega) d hd
    · cases hd
  · rw [cond_true, List.mem_singleton] at hd
    subst hd
    refine ⟨?_, ?_, ?_⟩ <;> simp [neverD, noStore]
theorem slist_dirle {vs : List (List UInt8)} {B : Nat} (hv : ∀ v ∈ vs, v.length ≤ B) : ∀ d ∈ slistL vs, DirLe (B + 8) d := by
  intro d hd
  unfold slistL at hd
  obtain ⟨v, hv1, hd⟩ := List.mem_flatMap.1 hd
  have hb := hv v hv1
  cases hz : ((splitL 44 v).2 == 0) <;> rw [hz] at hd
  · rw [cond_false, List.mem_singleton] at hd
    subst hd
    refine ⟨?_, ?_, ?_⟩ <;> simp [neverD, noStore]
  · rw [cond_true] at hd
    obtain ⟨p, hp, hd⟩ := List.mem_flatMap.1 hd
    have h1 := total_mem hp
    have h2 := split_total 44 v
    obtain ⟨q1, q2, q3⟩ := says_dirle d hd
    exact ⟨by omega, by omega, by omega⟩
end Go.Proofs.YtlhfbikhlfgjbaaDoor
/- The walk of tick.Delta. -/
namespace Go.Proofs.YtlhfbikhlfgjbaaDoor
open Go.RowKit

set_option maxHeartbeats 1000000 in
theorem boundI_any (n : Int) (w : World) :
    Calls Tryd.prog 74 #[.int .i64 n] w fun e w' => e = .returned (.int .i64 (bnd n)) ∧ w = w' := by
  rcases (by omega : n < 0 ∨ n = 0 ∨ (0 < n ∧ n ≤ 2147483648) ∨ 2147483648 < n) with h | h | ⟨h, h2⟩ | h
  · have Hb := Lib.hid (bnd_neg h)
    go_enter Tryd.func74, Tryd.ntmps74
    go_wp2
    all_goals (go_ret; exact ⟨ret_int (by first | exact Hb.out.symm | (rw [Hb.out]; omega)), rfl⟩)
  · subst h
    go_enter Tryd.func74, Tryd.ntmps74
    go_wp2
    all_goals (go_ret; exact ⟨ret_int (by first | rfl | omega), rfl⟩)
  · have Hb := Lib.hid (bnd_in (Int.le_of_lt h) h2)
    go_enter Tryd.func74, Tryd.ntmps74
    go_wp2
    all_goals (go_ret; exact ⟨ret_int (by first | exact Hb.out.symm | (rw [Hb.out]; omega)), rfl⟩)
  · have Hb := Lib.hid (bnd_big h)
    go_enter Tryd.func74, Tryd.ntmps74
    go_wp2
    all_goals (go_ret; exact ⟨ret_int (by first | exact Hb.out.symm | (rw [Hb.out]; omega)), rfl⟩)

theorem dgtI (c : UInt8) : dgt c = (decide (48 ≤ (c.toNat : Int)) && decide ((c.toNat : Int) ≤ 57)) := by
  unfold dgt; rw [Bool.eq_iff_iff]; simp; omega
set_option maxHeartbeats 2000000 in
theorem delta_any (s : ByteArray) (w : World) (hs : s.size ≤ 1000000) :
    Calls Tryd.prog 61 #[.string s] w fun e w' => e = .returned (deltaV s.data.toList) ∧ w = w' := by
  have hB : ∀ k (h : k < s.size), dgt s[k] = false → deltaV s.data.toList = .tuple #[.int .i64 0, .bool false] := fun k h hb => delta_bad s k h hb
  have hQ : ∀ k, (s.data.toList.take k).all dgt = true → s.size ≤ k → deltaV s.data.toList = .tuple #[.int .i64 (bnd (val (s.data.toList.take k))), .bool (!s.data.toList.isEmpty)] := by
    intro k h hk; rw [take_all s k hk] at h ⊢; unfold deltaV deltaOk; rw [h, Bool.and_true]
    cases hz : s.data.toList <;> rfl
  have HB := Lib.hid hB; have HQ := Lib.hid hQ
  clear hB hQ
  generalize deltaV s.data.toList = out at *
  go_enter Tryd.func61, Tryd.ntmps61
  go_wp2
  go_loop [8, 4] (fun i n => ∃ (k : Nat) (v : Int), k ≤ s.size ∧ i = .int .i64 k ∧ n = .int .i64 v ∧ 0 ≤ v ∧ v ≤ 2147483648 ∧ Hid (v = bnd (val (s.data.toList.take k))) ∧ Hid ((s.data.toList.take k).all dgt = true)) (fun i _ => s.size - (intOf i).toNat)
  case atStart => exact ⟨0, 0, Nat.zero_le _, rfl, rfl, by omega, by omega, by show _ = _; rfl, by show _ = _; simp⟩
  case round =>
    obtain ⟨k, v, hk, rfl, rfl, hv0, hv1, Hv, Hall⟩ := hrel
    by_cases hlt : k < s.size
    · have hu := u8_lt s[k]
      have hd := dgtI s[k]
      cases c1 : decide (48 ≤ (s[k].toNat : Int)) <;> cases c2 : decide ((s[k].toNat : Int) ≤ 57)
      · exfalso; simp at c1 c2; omega
      · have hf := HB.out k hlt (by rw [hd, c1, c2]; rfl)
        have Hf := Lib.hid hf; clear hf hd
        have c3 : decide ((s[k].toNat : Int) < 48) = true := by simp at c1 ⊢; omega
        go_wp2
        go_ret2
        exact ⟨by rw [Hf.out]; rfl, rfl⟩
      · have hf := HB.out k hlt (by rw [hd, c1, c2]; rfl)
        have Hf := Lib.hid hf; clear hf hd
        have c3 : decide ((s[k].toNat : Int) < 48) = false := by simp at c1 ⊢; omega
        have c4 : decide (57 < (s[k].toNat : Int)) = true := by simp at c2 ⊢; omega
        go_wp2
        go_ret2
        exact ⟨by rw [Hf.out]; rfl, rfl⟩
      · have hn : (s.data.toList.take (k + 1)).all dgt = true := by rw [all_snoc dgt s k hlt, Hall.out, hd, c1, c2]; rfl
        have c3 : decide ((s[k].toNat : Int) < 48) = false := by simp at c1 ⊢; omega
        have c4 : decide (57 < (s[k].toNat : Int)) = false := by simp at c2 ⊢; omega
        have c5 : (48 : Int) ≤ (s[k].toNat : Int) := by simp at c1; omega
        have hs2 : bnd (10 * v + ((s[k].toNat : Int) - 48)) = bnd (val (s.data.toList.take (k + 1))) := by
          rw [take_snoc s k hlt, val_snoc, Hv.out, ← bnd_step]; congr 2; omega
        have Hn := Lib.hid hn; have Hs := Lib.hid hs2; clear hn hs2 hd c1 c2
        go_wp2_with (go_at_call 74; refine (boundI_any _ _).mono ?_; rintro e w' ⟨rfl, rfl⟩)
        go_round
        case rel => exact ⟨k + 1, _, by omega, by go_num, rfl, bnd_lo _, bnd_hi _, Hs, Hn⟩
        case measure => simp [intOf]; omega
    · have hf := HQ.out k Hall.out (by omega)
      rw [← Hv.out] at hf
      have Hf := Lib.hid hf; clear hf
      go_wp2
      go_ret2
      exact ⟨by rw [Hf.out]; simp [Lib.toList_data], rfl⟩
end Go.Proofs.YtlhfbikhlfgjbaaDoor
/- Nothing turned but for one block. -/
namespace Go.Proofs.YtlhfbikhlfgjbaaDoor
open Go.RowKit

/-- Nothing that was there turned, but for one block. -/
def Beside (T : Nat) (w w' : World) : Prop := Below T w w' ∧ ∀ b, b < w.heap.size → b ≠ T → w'.heap[b]? = w.heap[b]?
theorem Beside.of {T : Nat} {w w' : World} (h : Below w.heap.size w w') (hT : T ≤ w.heap.size) : Beside T w w' := ⟨h.mono hT, fun _ hb _ => h.block _ hb⟩
theorem Beside.trans {T : Nat} {a b c : World} (h : Beside T a b) (k : Beside T b c) : Beside T a c :=
  ⟨h.1.trans k.1, fun i hi hne => (k.2 i (Nat.lt_of_lt_of_le hi h.1.size) hne).trans (h.2 i hi hne)⟩
theorem Beside.cell {T : Nat} {w w' : World} (h : Beside T w w') {b : Nat} (j : Nat) (hb : b < w.heap.size) (hne : b ≠ T) : w'.cell? ⟨b, j, none⟩ = w.cell? ⟨b, j, none⟩ := by
  simp only [World.cell?, h.2 b hb hne]
theorem Beside.setCell (T j : Nat) (w : World) (v : Value) : Beside T w (w.setCell ⟨T, j, none⟩ v) :=
  ⟨(Below.refl T w).setCell (Nat.le_refl _) _, fun _ _ hne => Below.heap_setCell _ _ _ _ hne⟩
theorem own_beside {B T : Nat} {e : TypeId} {size : Nat} {v : Value} {n : Nat} {xs : List Value} {w w1 : World} (h : w.ownsRow B e size v n xs) (hb : Beside T w w1) (hT : T < B) : w1.ownsRow B e size v n xs := by
  obtain ⟨h1, h2⟩ := h
  refine ⟨h1, ?_⟩
  rcases h2 with h2 | ⟨g, cap, cur, hv, hg, hh, r⟩
  · exact Or.inl h2
  · refine Or.inr ⟨g, cap, cur, hv, hg, ?_, r⟩
    have hlt : g < w.heap.size := by
      rcases Nat.lt_or_ge g w.heap.size with h' | h'
      · exact h'
      · simp [Array.getElem?_eq_none h'] at hh
    rw [hb.2 g hlt (by omega)]; exact hh
theorem Beside.size {T : Nat} {w w' : World} (h : Beside T w w') : w.heap.size ≤ w'.heap.size := by
  exact h.1.size
end Go.Proofs.YtlhfbikhlfgjbaaDoor
/- The walks of what surctl's rules do. -/
namespace Go.Proofs.YtlhfbikhlfgjbaaDoor
open Go.RowKit
set_option maxRecDepth 100000

/-- A control in memory. -/
def CtlAt (C : Nat) (k : Ctl) (w : World) : Prop := w.heap[C]? = some (.cells #[.bool k.noStore, .bool k.noRemote, .bool k.esi, .bool k.hasAge, .int .i64 k.age, .int .i64 k.extra] 38 (0, 0))
theorem CtlAt.lt {C : Nat} {k : Ctl} {w : World} (h : CtlAt C k w) : C < w.heap.size := by
  rcases Nat.lt_or_ge C w.heap.size with h' | h'
  · exact h'
  · unfold CtlAt at h; simp [Array.getElem?_eq_none h'] at h
theorem CtlAt.below {C : Nat} {k : Ctl} {w w' : World} (h : CtlAt C k w) (hb : Below w.heap.size w w') : CtlAt C k w' := (hb.block C h.lt).trans h
theorem CtlAt.cells {C : Nat} {k : Ctl} {w : World} (h : CtlAt C k w) : w.cell? ⟨C, 0, none⟩ = some (.bool k.noStore) ∧ w.cell? ⟨C, 1, none⟩ = some (.bool k.noRemote) ∧ w.cell? ⟨C, 2, none⟩ = some (.bool k.esi) ∧ w.cell? ⟨C, 3, none⟩ = some (.bool k.hasAge) ∧ w.cell? ⟨C, 4, none⟩ = some (.int .i64 k.age) ∧ w.cell? ⟨C, 5, none⟩ = some (.int .i64 k.extra) ∧ ∀ j, w.frozen? ⟨C, j, none⟩ = false :=
  ⟨(of_heap h 0).1, (of_heap h 1).1, (of_heap h 2).1, (of_heap h 3).1, (of_heap h 4).1, (of_heap h 5).1, fun j => (of_heap h j).2.1⟩
theorem CtlAt.set0 {C : Nat} {k : Ctl} {w : World} (h : CtlAt C k w) : CtlAt C { k with noStore := true } (w.setCell ⟨C, 0, none⟩ (.bool true)) := by
  unfold CtlAt at *; simp [World.setCell, Array.getElem?_modify, h]
theorem CtlAt.set1 {C : Nat} {k : Ctl} {w : World} (h : CtlAt C k w) : CtlAt C { k with noRemote := true } (w.setCell ⟨C, 1, none⟩ (.bool true)) := by
  unfold CtlAt at *; simp [World.setCell, Array.getElem?_modify, h]
theorem CtlAt.set2 {C : Nat} {k : Ctl} {w : World} (h : CtlAt C k w) (b : Bool) : CtlAt C { k with esi := b } (w.setCell ⟨C, 2, none⟩ (.bool b)) := by
  unfold CtlAt at *; simp [World.setCell, Array.getElem?_modify, h]
theorem CtlAt.set3 {C : Nat} {k : Ctl} {w : World} (h : CtlAt C k w) : CtlAt C { k with hasAge := true } (w.setCell ⟨C, 3, none⟩ (.bool true)) := by
  unfold CtlAt at *; simp [World.setCell, Array.getElem?_modify, h]
theorem CtlAt.set45 {C : Nat} {k : Ctl} {w : World} (h : CtlAt C k w) (a x : Int) : CtlAt C { k with age := a, extra := x } ((w.setCell ⟨C, 4, none⟩ (.int .i64 a)).setCell ⟨C, 5, none⟩ (.int .i64 x)) := by
  unfold CtlAt at *; simp [World.setCell, Array.getElem?_modify, h]
def CtlPost (C : Nat) (k : Ctl) (w : World) (e : Ending) (w' : World) : Prop := (∃ v, e = .returned v) ∧ CtlAt C k w' ∧ Beside C w w'

set_option maxHeartbeats 2000000 in
theorem do1_any (C : Nat) (k : Ctl) (v : ByteArray) (w : World) (h : CtlAt C k w) :
    Calls Tryd.prog 53 #[.pointer (some ⟨C, 0, none⟩), .string v] w (CtlPost C { k with noStore := true } w) := by
  obtain ⟨c0, _, _, _, _, _, hf⟩ := h.cells
  have hf0 := hf 0
  have hfin : CtlAt C { k with noStore := true } (w.setCell ⟨C, 0, none⟩ (.bool true)) ∧ Beside C w (w.setCell ⟨C, 0, none⟩ (.bool true)) := ⟨h.set0, Beside.setCell C 0 w _⟩
  have HF := Lib.hid hfin; clear hf hfin h
  go_enter Tryd.func53, Tryd.ntmps53
  go_wp2
  go_end0
  exact ⟨⟨_, rfl⟩, HF.out.1, HF.out.2⟩
set_option maxHeartbeats 2000000 in
theorem do2_any (C : Nat) (k : Ctl) (v : ByteArray) (w : World) (h : CtlAt C k w) :
    Calls Tryd.prog 54 #[.pointer (some ⟨C, 0, none⟩), .string v] w (CtlPost C { k with noRemote := true } w) := by
  obtain ⟨_, c0, _, _, _, _, hf⟩ := h.cells
  have hf0 := hf 1
  have hfin : CtlAt C { k with noRemote := true } (w.setCell ⟨C, 1, none⟩ (.bool true)) ∧ Beside C w (w.setCell ⟨C, 1, none⟩ (.bool true)) := ⟨h.set1, Beside.setCell C 1 w _⟩
  have HF := Lib.hid hfin; clear hf hfin h
  go_enter Tryd.func54, Tryd.ntmps54
  go_wp2
  go_end0
  exact ⟨⟨_, rfl⟩, HF.out.1, HF.out.2⟩
set_option maxHeartbeats 2000000 in
theorem blank_gives (w : World) : PredAtRunes Tryd.prog 57 #[] blankP w := by
  intro W x _ _
  show Calls Tryd.prog 57 #[.int .i32 (x : Int)] W _
  unfold blankP
  go_enter Tryd.func57, Tryd.ntmps57
  cases h1 : ((x : Int) == 32)
  · go_wp2
    go_ret
    exact ⟨rfl, 0, rfl⟩
  · go_wp2
    go_ret
    exact ⟨rfl, 0, rfl⟩
set_option maxHeartbeats 4000000 in
theorem do3_any (C : Nat) (k : Ctl) (v : ByteArray) (w : World) (h : CtlAt C k w) (hv : v.size ≤ 1000000) :
    Calls Tryd.prog 55 #[.pointer (some ⟨C, 0, none⟩), .string v] w (CtlPost C { k with esi := wordP sESI [] v.data.toList } w) := by
  have k1 := Tryd.strings_FieldsFunc_runes 57 #[] (enters_of Tryd.func57 (by kernel_rfl) rfl) blankP v w (by omega) (blank_gives w)
  have hcw := contains_word v sESI (by simp [sESI])
  have hlen : (Lib.goFieldsP blankP v).length ≤ 9223372036854775807 ∨ True := Or.inr trivial
  generalize wordP sESI [] v.data.toList = out at *
  generalize Lib.goFieldsP blankP v = zs at *
  have K1 := Lib.hid k1; have HCW := Lib.hid hcw; have H := Lib.hid h; clear k1 hcw h hlen
  go_enter Tryd.func55, Tryd.ntmps55
  go_wp2_with fail
  refine K1.out.mono ?_
  rintro e w1 ⟨a1, rfl, hA, hown, hb1⟩
  have hz : zs.length ≤ 9223372036854775807 := by
    rcases hown.2 with ⟨hv, h0⟩ | ⟨g, cp, cur, hv, hg, hh, hn, hc, hs, hx⟩
    · cases hv
    · unfold maxLen at hc; omega
  have k2 := Tryd.slices_Contains_string a1 0 zs.length zs.length zs ⟨sESI.toArray⟩ w1 (Nat.le_refl _) hz (fun j hj => by
    have := hown.cells (g := a1) rfl j (.string (zs.getD j ByteArray.empty)) (by simp [List.getD, hj])
    rw [Nat.zero_add]
    rw [show (⟨a1, 0, none⟩ : Addr).add j = ⟨a1, j, none⟩ from by unfold Addr.add; split <;> simp_all] at this
    exact this)
  rw [List.take_length, HCW.out] at k2
  have h1 := H.out.below hb1
  have hB1 := Beside.of hb1 (T := C) (Nat.le_of_lt H.out.lt)
  have K2 := Lib.hid k2
  obtain ⟨_, _, c2, _, _, _, hf⟩ := h1.cells
  have hf2 := hf 2
  have HF := Lib.hid (And.intro (h1.set2 out) (hB1.trans (Beside.setCell C 2 w1 (.bool out))))
  clear k2 hown hf h1 hB1
  go_wp2_with fail
  refine K2.out.mono ?_
  rintro e w2 ⟨rfl, rfl⟩
  go_wp2
  go_end0
  exact ⟨⟨_, rfl⟩, HF.out.1, HF.out.2⟩
theorem MaxL.beside {w w' : World} {C : Nat} (h : MaxL w) (hb : Beside C w w') (hC : 0 < C) : MaxL w' := by
  obtain ⟨h0, m, h⟩ := h
  exact ⟨Nat.lt_of_lt_of_le h0 hb.size, m, (hb.cell 0 h0 (by omega)).trans h⟩
set_option maxHeartbeats 8000000 in
theorem do4_any (C : Nat) (a b c d : Bool) (v : ByteArray) (w : World) (hM : MaxL w) (hC : 0 < C) (h : CtlAt C ⟨a, b, c, d, 0, 0⟩ w) (hv : v.size ≤ 1000000) :
    Calls Tryd.prog 59 #[.pointer (some ⟨C, 0, none⟩), .string v] w (CtlPost C ⟨a, b, c, true, (agesL v.data.toList).1, (agesL v.data.toList).2⟩ w) := by
  have k1 := fun W hW => cut_any v ⟨#[43]⟩ W hW hv
  rw [show (⟨#[43]⟩ : ByteArray).data.toList = [43] from rfl] at k1
  have hl := cut_lens v.data.toList [43]
  rw [← Lib.size_eq] at hl
  have hag : agesL v.data.toList = bif deltaOk (Lib.cut v.data.toList [43]).1 && (deltaOk (Lib.cut v.data.toList [43]).2.1 == (Lib.cut v.data.toList [43]).2.2) then (bnd (val (Lib.cut v.data.toList [43]).1), bif deltaOk (Lib.cut v.data.toList [43]).2.1 then bnd (val (Lib.cut v.data.toList [43]).2.1) else 0) else (0, 0) := rfl
  rw [hag]
  clear hag
  generalize Lib.cut v.data.toList [43] = ct at *
  obtain ⟨x, y, two⟩ := ct
  obtain ⟨x, rfl⟩ : ∃ o : ByteArray, x = o.data.toList := ⟨⟨x.toArray⟩, rfl⟩
  obtain ⟨y, rfl⟩ : ∃ o : ByteArray, y = o.data.toList := ⟨⟨y.toArray⟩, rfl⟩
  simp only [str_of, ← Lib.size_eq] at k1 hl ⊢
  have k2 := fun W => delta_any x W (by omega)
  have k3 := fun W => delta_any y W (by omega)
  unfold deltaV at k2 k3
  obtain ⟨_, _, _, c3, c4, c5, hf⟩ := h.cells
  simp only at c3 c4 c5
  have hf3 := hf 3
  have h1 := h.set3
  have hBs := Beside.setCell C 3 w (.bool true)
  have hM1 := hM.beside hBs hC
  obtain ⟨W1, hW1⟩ : ∃ W1, w.setCell ⟨C, 3, none⟩ (.bool true) = W1 := ⟨_, rfl⟩
  rw [hW1] at h1 hBs hM1
  have kf : ∀ W, Below W1.heap.size W1 W → CtlAt C ⟨a, b, c, true, 0, 0⟩ W ∧ Beside C w W := fun W hb => ⟨h1.below hb, hBs.trans (Beside.of hb (Nat.le_of_lt h1.lt))⟩
  generalize deltaOk x.data.toList = dx at *
  generalize deltaOk y.data.toList = dy at *
  generalize bnd (val x.data.toList) = vx at *
  generalize bnd (val y.data.toList) = vy at *
  have HW1 := Lib.hid hW1; have KF := Lib.hid kf
  clear hM hBs hf kf hW1 h h1 c4 c5
  cases dx <;> cases dy <;> cases two
  all_goals (
    simp only [cond_true, cond_false, Bool.and_true, Bool.and_false, beq_self_eq_true, show (false == true) = false from rfl, show (true == false) = false from rfl] at k2 k3 ⊢
    have K1 := Lib.hid (k1 W1 hM1); have K2 := Lib.hid k2; have K3 := Lib.hid k3
    clear k1 k2 k3 hM1 hl
    go_enter Tryd.func59, Tryd.ntmps59
    go_wp2_with fail
    rw [HW1.out]
    refine K1.out.mono ?_
    rintro e w2 ⟨rfl, hb2⟩
    obtain ⟨q1, q2⟩ := KF.out w2 hb2
    obtain ⟨_, _, _, _, e4, e5, hf⟩ := q1.cells
    simp only at e4 e5
    have f4 := hf 4
    have f5 := hf 5
    have Q1 := Lib.hid q1
    clear hb2 hf q1 K1 KF HW1 c3 hf3
    go_wp2_with fail
    refine (K2.out _).mono ?_
    rintro e w3 ⟨rfl, rfl⟩
    go_wp2_with fail
    refine (K3.out _).mono ?_
    rintro e w3 ⟨rfl, rfl⟩
    go_wp2
    go_end0
    first
      | exact ⟨⟨_, rfl⟩, Q1.out, q2⟩
      | exact ⟨⟨_, rfl⟩, Q1.out.set45 _ _, (q2.trans (Beside.setCell C 4 _ _)).trans (Beside.setCell C 5 _ _)⟩)
end Go.Proofs.YtlhfbikhlfgjbaaDoor
/- The walk of surctl.Of (printed by wip/tools/surof.py). -/
namespace Go.Proofs.YtlhfbikhlfgjbaaDoor
open Go.RowKit
set_option maxRecDepth 100000

theorem rules_any (w : World) :
    Calls Tryd.prog 33 #[] w fun e w' => e = .returned (.slice (some ⟨w.heap.size, 0, none⟩) 4 4) ∧ w' = w.alloc (.cells #[.string ⟨#[110, 111, 45, 115, 116, 111, 114, 101]⟩, .func (.func 53) #[] #[], .string ⟨#[110, 111, 45, 115, 116, 111, 114, 101, 45, 114, 101, 109, 111, 116, 101]⟩, .func (.func 54) #[] #[], .string ⟨#[99, 111, 110, 116, 101, 110, 116]⟩, .func (.func 55) #[] #[], .string ⟨#[109, 97, 120, 45, 97, 103, 101]⟩, .func (.func 59) #[] #[]] 74) := by
  go_enter Tryd.func33, Tryd.ntmps33
  go_wp2
  go_ret
  exact ⟨rfl, rfl⟩
set_option maxHeartbeats 4000000 in
theorem of1_any (V : Nat) (nm : List UInt8) (d : Dir) (w : World) (hV : w.cell? ⟨V, 0, none⟩ = some (.string ⟨nm.toArray⟩)) (hVw : V < w.heap.size) :
    Calls Tryd.prog 35 #[.agg #[.string ⟨d.name.toArray⟩, .string ⟨d.value.toArray⟩, .bool d.has, .string ⟨d.for_.toArray⟩], .pointer (some ⟨V, 0, none⟩)] w fun e w' => e = .returned (.bool (d.name == nm)) ∧ Below w.heap.size w w' := by
  obtain ⟨dn, dv, dh, df⟩ := d
  simp only
  have hal := (Below.refl w.heap.size w).alloc (Nat.le_refl _) (.cells #[.string ⟨dn.toArray⟩, .string ⟨dv.toArray⟩, .bool dh, .string ⟨df.toArray⟩] 28)
  have hV2 := (hal.cell (p := ⟨V, 0, none⟩) hVw).trans hV
  go_enter Tryd.func35, Tryd.ntmps35
  go_wp2
  go_ret
  exact ⟨rfl, hal⟩

set_option maxHeartbeats 4000000 in
theorem indexOf_any (p1 : Value) (q : Dir → Bool) (A : Option Addr) (n c : Nat) (xs : List Dir) (w : World) (hr : Rd A n 4 (dirsV xs) w) (hn : n ≤ 1000000)
    (hc : ∀ d ∈ xs, ∀ W, Below w.heap.size w W → Calls Tryd.prog 35 #[.agg #[.string ⟨d.name.toArray⟩, .string ⟨d.value.toArray⟩, .bool d.has, .string ⟨d.for_.toArray⟩], p1] W fun e W' => e = .returned (.bool (q d)) ∧ Below W.heap.size W W') :
    Calls Tryd.prog 34 #[.slice A n c, .func (.func 35) #[] #[p1]] w fun e w' => e = .returned (.int .i64 (firstI q xs)) ∧ Below w.heap.size w w' := by
  obtain rfl := hr.dir
  have hstep := fun k (h : k < xs.length) => @find_take_none xs q k h
  have hhit : ∀ k (h : k < xs.length), (xs.take k).find? q = none → q xs[k] = true → firstI q xs = k := by
    intro k h hno hp
    unfold firstI
    rw [show xs.findIdx? q = some k from by
      rw [List.findIdx?_eq_some_iff_getElem]
      refine ⟨h, hp, fun j hj => ?_⟩
      rw [List.find?_eq_none] at hno
      refine hno xs[j] ?_
      rw [List.mem_take_iff_getElem]
      exact ⟨j, by omega, rfl⟩]
  have hend : ∀ k, k = xs.length → (xs.take k).find? q = none → firstI q xs = -1 := by
    intro k hk h
    subst hk
    rw [List.take_length] at h
    unfold firstI
    rw [show xs.findIdx? q = none from by
      rw [List.findIdx?_eq_none_iff]
      rw [List.find?_eq_none] at h
      intro x hx'; simpa using h x hx']
  generalize firstI q xs = out at *
  have HR := Lib.hid hr; have HS := Lib.hid hstep; have HH := Lib.hid hhit; have HE := Lib.hid hend; have HC := Lib.hid hc
  clear hr hstep hhit hend hc
  go_enter Tryd.func34, Tryd.ntmps34
  go_wp2_with fail
  go_loopw [8] (fun i wr => ∃ k : Nat, k ≤ xs.length ∧ i = .int .i64 k ∧ Hid ((xs.take k).find? q = none) ∧ Below w.heap.size w wr) (fun i _ => xs.length - (intOf i).toNat)
  case atStart => exact ⟨0, Nat.zero_le _, rfl, Lib.hid (by simp), Below.refl _ _⟩
  case round =>
    obtain ⟨k, hk, rfl, HN, hbr⟩ := hrel
    by_cases hlt : k < xs.length
    · obtain ⟨b, o, rfl, hl, x0, x1, x2, x3⟩ := (HR.out.below hbr).dir_at (k := k) hlt
      have hst := HS.out k hlt HN.out
      have hht := HH.out k hlt HN.out
      have k1 := HC.out xs[k] (List.getElem_mem _) wr hbr
      generalize xs[k] = d at *
      obtain ⟨dn, dv, dh, df⟩ := d
      simp only at x0 x1 x2 x3 k1
      cases hq : q ⟨dn, dv, dh, df⟩
      · rw [hq] at k1
        have HN2 := Lib.hid (hst hq)
        have K1 := Lib.hid k1
        clear hst hht k1 hq HS HH HE HN HC
        go_wp2_with fail
        refine K1.out.mono ?_
        rintro e w1 ⟨rfl, hb1⟩
        have hB1 := hbr.trans (hb1.mono hbr.size)
        go_wp2
        go_roundw
        case rel => exact ⟨k + 1, by omega, by go_num, HN2, hB1⟩
        case measure => simp [intOf]; omega
      · rw [hq] at k1
        have ho := hht hq
        subst ho
        have K1 := Lib.hid k1
        clear hst hht k1 hq HS HH HE HN HC
        go_wp2_with fail
        refine K1.out.mono ?_
        rintro e w1 ⟨rfl, hb1⟩
        have hB1 := hbr.trans (hb1.mono hbr.size)
        go_wp2
        go_ret
        exact ⟨rfl, hB1⟩
    · have ho := HE.out k (by omega) HN.out
      subst ho
      clear HS HH HE HN HC
      go_wp2
      go_ret
      exact ⟨rfl, hbr⟩

def ctlV (k : Ctl) : Value := .agg #[.bool k.noStore, .bool k.noRemote, .bool k.esi, .bool k.hasAge, .int .i64 k.age, .int .i64 k.extra]
def ctlTo (l : List Dir) : Nat → Ctl
  | 0 => ⟨false, false, false, false, 0, 0⟩
  | 1 => ⟨(firstV l noStore).isSome, false, false, false, 0, 0⟩
  | 2 => ⟨(firstV l noStore).isSome, (firstV l sRemote).isSome, false, false, 0, 0⟩
  | 3 => ⟨(firstV l noStore).isSome, (firstV l sRemote).isSome, match firstV l sContent with | some v => wordP sESI [] v | none => false, false, 0, 0⟩
  | _ => ctlL l
theorem first_none {l : List Dir} {nm : List UInt8} (h : l.find? (fun d => d.name == nm) = none) : firstV l nm = none := by unfold firstV; rw [h]; rfl
theorem first_some {l : List Dir} {nm : List UInt8} {d : Dir} (h : l.find? (fun d => d.name == nm) = some d) : firstV l nm = some d.value := by unfold firstV; rw [h]; rfl
theorem Rd.below2 {A : Option Addr} {n size C : Nat} {xs : List Value} {w w' : World} (h : Rd A n size xs w) (hb : Beside C w w') (hC : ∀ b o, A = some ⟨b, o, none⟩ → b ≠ C) : Rd A n size xs w' := by
  refine ⟨h.1, fun hn => ?_⟩
  obtain ⟨b, o, e, hl, hc⟩ := h.2 hn
  exact ⟨b, o, e, Nat.lt_of_lt_of_le hl hb.size, fun j u hu => (hb.cell (o + j) hl (hC b o e)).trans (hc j u hu)⟩
set_option maxHeartbeats 16000000 in
theorem surOf_any (A : Option Addr) (n c : Nat) (vs : List (List UInt8)) (dev : ByteArray) (w : World) (hM : MaxL w) (hr : Rd A n 1 (strsV vs) w) (hn : n ≤ 10000) (hl : ∀ v ∈ vs, v.length ≤ 900000) :
    Calls Tryd.prog 14 #[.slice A n c, .string dev] w fun e w' => e = .returned (ctlV (ofL vs dev.data.toList)) ∧ Below w.heap.size w w' := by
  obtain rfl := hr.str
  obtain ⟨W0, hW0⟩ : ∃ W0, w.alloc (.cells #[.bool false, .bool false, .bool false, .bool false, .int .i64 0, .int .i64 0] 38) = W0 := ⟨_, rfl⟩
  have hB0 : Below w.heap.size w W0 := by rw [← hW0]; exact (Below.refl _ w).alloc (Nat.le_refl _) _
  have hC0 : CtlAt w.heap.size ⟨false, false, false, false, 0, 0⟩ W0 := by rw [← hW0]; exact World.alloc_heap_new w _
  have z0 : W0.heap.size = w.heap.size + 1 := by rw [← hW0]; simp
  have hCg : 0 < w.heap.size := hM.1
  have k1 := surList_any A vs.length c vs W0 (hM.below hB0) (hr.below hB0) hn (fun v hv => by have := hl v hv; omega)
  have hsl := slist_le vs
  have hdl0 := slist_dirle (B := 900000) hl
  have hofl : ofL vs dev.data.toList = ctlL (mineL (slistL vs) dev.data.toList) := rfl
  rw [hofl]
  have hml : (mineL (slistL vs) dev.data.toList).length ≤ (slistL vs).length := List.length_filter_le _ _
  have hdl : ∀ d ∈ mineL (slistL vs) dev.data.toList, d.value.length ≤ 1000000 := fun d hd => by
    have := (hdl0 d (List.mem_filter.1 hd).1).2.1; omega
  have k2 := fun a c W (h : Rd a (slistL vs).length 4 (dirsV (slistL vs)) W) => mine_any a (slistL vs).length c (slistL vs) dev W h (by omega)
  generalize mineL (slistL vs) dev.data.toList = ls at *
  generalize slistL vs = l0 at *
  have hls : ls.length ≤ 1000000 := by omega
  have hct4 : ctlTo ls 4 = ctlL ls := rfl
  rw [← hct4]
  have K1 := Lib.hid k1; have K2 := Lib.hid k2; have HW0 := Lib.hid hW0; have HC0 := Lib.hid hC0; have HDL := Lib.hid hdl; have HM0 := Lib.hid (hM.below hB0)
  have HZ0 := Lib.hid z0
  have hCl0 : w.heap.size < W0.heap.size := by omega
  clear z0
  clear k1 k2 hW0 hC0 hdl hdl0 hM hr hofl hml hsl hct4 hl
  go_enter Tryd.func14, Tryd.ntmps14
  go_wp2_with fail
  rw [HW0.out]
  (with_reducible refine K1.out.mono ?_)
  rintro e w1 ⟨a1, c1, rfl, ho1, hb1⟩
  have R1 := Lib.hid ho1.rd.2
  clear ho1
  go_wp2_with fail
  (with_reducible refine (K2.out _ _ _ R1.out).mono ?_)
  rintro e w2 ⟨la, lc, rfl, ho2, hb2⟩
  have hB2 := bt hb1 hb2
  have hnc : ∀ b o, la = some ⟨b, o, none⟩ → b ≠ w.heap.size := fun b o e => by
    have := own_new ho2 b o e
    have := hb1.size
    have := HZ0.out
    omega
  have HNC := Lib.hid hnc
  have R2 := Lib.hid ho2.rd.2
  clear ho2 hnc R1 K1 K2
  go_wp2_with fail
  (with_reducible refine (rules_any _).mono ?_)
  rintro e w3 ⟨rfl, hw3⟩
  have hb3 : Below w2.heap.size w2 w3 := by rw [hw3]; exact (Below.refl _ w2).alloc (Nat.le_refl _) _
  have hz3 : w3.heap.size = w2.heap.size + 1 := by rw [hw3]; simp
  have hR0a : w3.cell? ⟨w2.heap.size, 0, none⟩ = some (.string ⟨#[110, 111, 45, 115, 116, 111, 114, 101]⟩) := by rw [hw3]; exact World.cell?_alloc_mark w2 _ _ _ 0
  have hR0b : w3.cell? ⟨w2.heap.size, 1, none⟩ = some (.func (.func 53) #[] #[]) := by rw [hw3]; exact World.cell?_alloc_mark w2 _ _ _ 1
  have HR0a := Lib.hid hR0a; have HR0b := Lib.hid hR0b
  have hR1a : w3.cell? ⟨w2.heap.size, 2, none⟩ = some (.string ⟨#[110, 111, 45, 115, 116, 111, 114, 101, 45, 114, 101, 109, 111, 116, 101]⟩) := by rw [hw3]; exact World.cell?_alloc_mark w2 _ _ _ 2
  have hR1b : w3.cell? ⟨w2.heap.size, 3, none⟩ = some (.func (.func 54) #[] #[]) := by rw [hw3]; exact World.cell?_alloc_mark w2 _ _ _ 3
  have HR1a := Lib.hid hR1a; have HR1b := Lib.hid hR1b
  have hR2a : w3.cell? ⟨w2.heap.size, 4, none⟩ = some (.string ⟨#[99, 111, 110, 116, 101, 110, 116]⟩) := by rw [hw3]; exact World.cell?_alloc_mark w2 _ _ _ 4
  have hR2b : w3.cell? ⟨w2.heap.size, 5, none⟩ = some (.func (.func 55) #[] #[]) := by rw [hw3]; exact World.cell?_alloc_mark w2 _ _ _ 5
  have HR2a := Lib.hid hR2a; have HR2b := Lib.hid hR2b
  have hR3a : w3.cell? ⟨w2.heap.size, 6, none⟩ = some (.string ⟨#[109, 97, 120, 45, 97, 103, 101]⟩) := by rw [hw3]; exact World.cell?_alloc_mark w2 _ _ _ 6
  have hR3b : w3.cell? ⟨w2.heap.size, 7, none⟩ = some (.func (.func 59) #[] #[]) := by rw [hw3]; exact World.cell?_alloc_mark w2 _ _ _ 7
  have HR3a := Lib.hid hR3a; have HR3b := Lib.hid hR3b
  have hB3 := bt hB2 hb3
  have HC3 := Lib.hid (HC0.out.below hB3)
  have HRL := Lib.hid (R2.out.below hb3)
  have HM := Lib.hid (HM0.out.below hB3)
  have hs2 := hB2.size
  have hRl : w2.heap.size < w3.heap.size := by omega
  have hRne : w2.heap.size ≠ w.heap.size := by omega
  have hz0 := HC3.out
  clear hR0a hR0b hR1a hR1b hR2a hR2b hR3a hR3b hw3 hb3 R2 HC0 HM0 hb1 hb2 hz0
  obtain ⟨R, hRe⟩ : ∃ R, w2.heap.size = R := ⟨_, rfl⟩
  rw [hRe] at HR0a HR0b HR1a HR1b HR2a HR2b HR3a HR3b hRl hRne ⊢
  clear hRe hz3
  go_wp2_with fail
  go_loopw [15] (fun i wr => ∃ j : Nat, j ≤ 4 ∧ i = .int .i64 j ∧ Hid (CtlAt w.heap.size (ctlTo ls j) wr) ∧ Beside w.heap.size w3 wr) (fun i _ => 4 - (intOf i).toNat)
  case atStart => exact ⟨0, by omega, rfl, HC3, Beside.of (Below.refl _ _) (by have := hB3.size; omega)⟩
  case round =>
    clear HC3
    obtain ⟨j, hj, rfl, HC, hbw⟩ := hrel
    rcases (by omega : j = 0 ∨ j = 1 ∨ j = 2 ∨ j = 3 ∨ j = 4) with rfl | rfl | rfl | rfl | rfl
    · -- rule 1
      have r0 := (hbw.cell 0 hRl hRne).trans HR0a.out
      have r1 := (hbw.cell 1 hRl hRne).trans HR0b.out
      obtain ⟨W4, hW4⟩ : ∃ W4, wr.alloc (.cells #[.string ⟨#[110, 111, 45, 115, 116, 111, 114, 101]⟩, .func (.func 53) #[] #[]] 74) = W4 := ⟨_, rfl⟩
      have ha4 : Below wr.heap.size wr W4 := by rw [← hW4]; exact (Below.refl _ wr).alloc (Nat.le_refl _) _
      have v0 : W4.cell? ⟨wr.heap.size, 0, none⟩ = some (.string ⟨#[110, 111, 45, 115, 116, 111, 114, 101]⟩) := by rw [← hW4]; exact World.cell?_alloc_mark wr _ _ _ 0
      have v1 : W4.cell? ⟨wr.heap.size, 1, none⟩ = some (.func (.func 53) #[] #[]) := by rw [← hW4]; exact World.cell?_alloc_mark wr _ _ _ 1
      have hVl : wr.heap.size < W4.heap.size := by rw [← hW4]; simp
      have hrl := (HRL.out.below2 hbw HNC.out).below ha4
      have k5 := indexOf_any (.pointer (some ⟨wr.heap.size, 0, none⟩)) (fun d => d.name == noStore) la ls.length lc ls W4 hrl hls (fun d _ W' hb' => of1_any wr.heap.size noStore d W' ((hb'.cell (p := ⟨wr.heap.size, 0, none⟩) hVl).trans v0) (Nat.lt_of_lt_of_le hVl hb'.size))
      have hcase := firstI_find (fun d => d.name == noStore) ls
      have hcw := HC.out.lt
      have HC4 := Lib.hid (HC.out.below ha4)
      have hB4 := hbw.trans (Beside.of ha4 (Nat.le_of_lt HC.out.lt))
      have HRL4 := Lib.hid hrl
      generalize firstI (fun d => d.name == noStore) ls = ix at *
      have K5 := Lib.hid k5; have HW4 := Lib.hid hW4; have HV1 := Lib.hid v1
      clear k5 hW4 ha4 v0 v1 hrl HC hbw
      rcases hcase with ⟨hf, rfl⟩ | ⟨k, hk, hf, rfl⟩
      · have hnx : ctlTo ls 1 = ctlTo ls 0 := by unfold ctlTo; rw [first_none hf]; rfl
        have HNX := Lib.hid hnx
        clear hnx hf
        go_wp2_with fail
        rw [HW4.out]
        (with_reducible refine K5.out.mono ?_)
        rintro e w5 ⟨rfl, h5⟩
        have HC5 : Hid (CtlAt w.heap.size (ctlTo ls 1) w5) := by rw [HNX.out]; exact Lib.hid (HC4.out.below h5)
        have hB5 := hB4.trans (Beside.of h5 (Nat.le_of_lt HC4.out.lt))
        clear h5 r0 r1
        go_wp2
        go_roundw
        case rel => exact ⟨1, by omega, by rfl, HC5, hB5⟩
        case measure => simp [intOf]
      · have hdl := HDL.out ls[k] (List.getElem_mem _)
        obtain ⟨d, hd⟩ : ∃ d, ls[k] = d := ⟨_, rfl⟩
        rw [hd] at hf hdl
        have hfv := first_some hf
        obtain ⟨dn, dv, dh, df⟩ := d
        have hnx : ctlTo ls 1 = { ctlTo ls 0 with noStore := true } := by unfold ctlTo; rw [hfv]; rfl
        have HNX := Lib.hid hnx; have HD := Lib.hid hd
        have hvs : (⟨dv.toArray⟩ : ByteArray).size ≤ 1000000 := by rw [Lib.size_eq]; exact hdl
        clear hnx hf hd hdl hfv
        go_wp2_with fail
        rw [HW4.out]
        (with_reducible refine K5.out.mono ?_)
        rintro e w5 ⟨rfl, h5⟩
        obtain ⟨b, o, rfl, hbl, _, x1, _, _⟩ := (HRL4.out.below h5).dir_at (k := k) hk
        rw [HD.out] at x1
        simp only at x1
        have hbne : b ≠ w.heap.size := HNC.out b o rfl
        have hVl5 : wr.heap.size < w5.heap.size := Nat.lt_of_lt_of_le hVl h5.size
        have s0 := (h5.cell (p := ⟨wr.heap.size, 1, none⟩) hVl).trans HV1.out
        have s1 := x1
        have HC5 := Lib.hid (HC4.out.below h5)
        have hB5 := hB4.trans (Beside.of h5 (Nat.le_of_lt HC4.out.lt))
        have hM5 := HM.out.beside hB5 hCg
        have hbl5 := hbl
        have hVne : wr.heap.size ≠ w.heap.size := by omega
        have hBd : Beside w.heap.size w5 w5.drew := ⟨(Below.refl _ _).drew, fun _ _ _ => rfl⟩
        have s0d : w5.drew.cell? ⟨wr.heap.size, 1, none⟩ = some (.func (.func 53) #[] #[]) := s0
        have s1d : w5.drew.cell? ⟨b, o + k * 4 + 1, none⟩ = some (.string ⟨dv.toArray⟩) := s1
        have hM5d := hM5.beside hBd hCg
        have hC5d : CtlAt w.heap.size (ctlTo ls 0) w5.drew := HC5.out
        have k6 := do1_any w.heap.size _ ⟨dv.toArray⟩ _ hC5d
        have K6 := Lib.hid k6; have HBD := Lib.hid (hB5.trans hBd)
        clear h5 r0 r1 k6 hC5d hM5d hM5 hBd x1
        go_wp2_with fail
        refine wp_region_held_drew (S := (fun w' => w'.cell? ⟨wr.heap.size, 1, none⟩ = some (.func (.func 53) #[] #[]) ∧ w'.cell? ⟨b, o + k * 4 + 1, none⟩ = some (.string ⟨dv.toArray⟩))) (by kernel_rfl) (And.intro s0d s1d) (fun hHeld => ?_)
        refine wpAnyH_take (i := 0) (v := ?_) (by simp only [List.getElem?_toArray, List.getElem?_cons_zero]; exact rfl) (by kernel_rfl) (by kernel_rfl) (by kernel_rfl) (by intro _ _ _ h; exact h) (Or.inl ⟨by rfl, fun W hSw => ?_⟩) hHeld ?_
        rotate_left
        focus ((try dsimp only at hSw); first | (go_simp; done) | (go_simp; with_reducible rfl))
        try simp only [Act.put, List.setIfInBounds_toArray, List.set_cons_zero, List.set_cons_succ]
        refine wpAnyH_take (i := 1) (v := ?_) (by simp only [List.getElem?_toArray, List.getElem?_cons_succ, List.getElem?_cons_zero]; exact rfl) (by kernel_rfl) (by kernel_rfl) (by kernel_rfl) (by intro _ _ _ h; exact h) (Or.inl ⟨by rfl, fun W hSw => ?_⟩) hHeld ?_
        rotate_left
        focus ((try dsimp only at hSw); first | (go_simp; done) | (go_simp; with_reducible rfl))
        try simp only [Act.put, List.setIfInBounds_toArray, List.set_cons_zero, List.set_cons_succ]
        refine wpAnyH_take (i := 2) (v := ?_) (by simp only [List.getElem?_toArray, List.getElem?_cons_succ, List.getElem?_cons_zero]; exact rfl) (by kernel_rfl) (by kernel_rfl) (by kernel_rfl) (by intro _ _ _ h; exact h) (Or.inl ⟨by rfl, fun W hSw => ?_⟩) hHeld ?_
        rotate_left
        focus ((try dsimp only at hSw); first | (go_simp; done) | (go_simp; with_reducible rfl))
        try simp only [Act.put, List.setIfInBounds_toArray, List.set_cons_zero, List.set_cons_succ]
        refine wpAnyH_take (i := 3) (v := ?_) (by simp only [List.getElem?_toArray, List.getElem?_cons_succ, List.getElem?_cons_zero]; exact rfl) (by kernel_rfl) (by kernel_rfl) (by kernel_rfl) (by intro _ _ _ h; exact h) (Or.inl ⟨by rfl, fun W hSw => ?_⟩) hHeld ?_
        rotate_left
        focus ((try dsimp only at hSw); first | (go_simp; done) | (go_simp; with_reducible rfl))
        try simp only [Act.put, List.setIfInBounds_toArray, List.set_cons_zero, List.set_cons_succ]
        refine wpAnyH_take (i := 4) (v := ?_) (by simp only [List.getElem?_toArray, List.getElem?_cons_succ, List.getElem?_cons_zero]; exact rfl) (by kernel_rfl) (by kernel_rfl) (by kernel_rfl) (by intro _ _ _ h; exact h) (Or.inl ⟨by rfl, fun W hSw => ?_⟩) hHeld ?_
        rotate_left
        focus ((try dsimp only at hSw); first | (go_simp; done) | (go_simp; with_reducible rfl))
        try simp only [Act.put, List.setIfInBounds_toArray, List.set_cons_zero, List.set_cons_succ]
        refine wpAnyH_take (i := 5) (v := ?_) (by simp only [List.getElem?_toArray, List.getElem?_cons_succ, List.getElem?_cons_zero]; exact rfl) (by kernel_rfl) (by kernel_rfl) (by kernel_rfl) (by intro _ _ _ h; exact h) (Or.inl ⟨by rfl, fun W hSw => ?_⟩) hHeld ?_
        rotate_left
        focus ((try dsimp only at hSw); first | (go_simp; done) | (go_simp; with_reducible rfl))
        try simp only [Act.put, List.setIfInBounds_toArray, List.set_cons_zero, List.set_cons_succ]
        refine wpAnyH_take (i := 6) (v := ?_) (by simp only [List.getElem?_toArray, List.getElem?_cons_succ, List.getElem?_cons_zero]; exact rfl) (by kernel_rfl) (by kernel_rfl) (by kernel_rfl) (by intro _ _ _ h; exact h) (Or.inl ⟨by rfl, fun W hSw => ?_⟩) hHeld ?_
        rotate_left
        focus ((try dsimp only at hSw); first | (go_simp; done) | (go_simp; with_reducible rfl))
        try simp only [Act.put, List.setIfInBounds_toArray, List.set_cons_zero, List.set_cons_succ]
        refine wpAnyH_ready (rs := [7]) (by kernel_rfl) (by simp) (AllReadyH.cons (by simp only [List.getElem?_toArray, List.getElem?_cons_succ, List.getElem?_cons_zero]; exact rfl) (fun K hK => ?_) AllReadyH.nil)
        rw [if_pos (by rfl)]
        go_simp
        refine (K6.out).mono ?_; rintro e w6 ⟨⟨_, rfl⟩, hc6, hb6⟩; have hS6 := And.intro ((hb6.cell 1 hVl5 hVne).trans s0d) ((hb6.cell (o + k * 4 + 1) hbl5 hbne).trans s1d); go_wp2_with fail
        refine hK.out _ _ (hS6) (fun hHeld => ?_)
        clear hK K
        try simp only [Act.put, List.setIfInBounds_toArray, List.set_cons_zero, List.set_cons_succ]
        refine wpAnyH_done (by kernel_rfl) ?_ _
        have HC6 : Hid (CtlAt w.heap.size (ctlTo ls 1) w6) := by rw [HNX.out]; exact Lib.hid hc6
        have hB6 := HBD.out.trans hb6
        clear hc6 hb6 hHeld hS6
        go_wp2
        go_roundw
        case rel => exact ⟨1, by omega, by rfl, HC6, hB6⟩
        case measure => simp [intOf]
    · -- rule 2
      have r0 := (hbw.cell 2 hRl hRne).trans HR1a.out
      have r1 := (hbw.cell 3 hRl hRne).trans HR1b.out
      obtain ⟨W4, hW4⟩ : ∃ W4, wr.alloc (.cells #[.string ⟨#[110, 111, 45, 115, 116, 111, 114, 101, 45, 114, 101, 109, 111, 116, 101]⟩, .func (.func 54) #[] #[]] 74) = W4 := ⟨_, rfl⟩
      have ha4 : Below wr.heap.size wr W4 := by rw [← hW4]; exact (Below.refl _ wr).alloc (Nat.le_refl _) _
      have v0 : W4.cell? ⟨wr.heap.size, 0, none⟩ = some (.string ⟨#[110, 111, 45, 115, 116, 111, 114, 101, 45, 114, 101, 109, 111, 116, 101]⟩) := by rw [← hW4]; exact World.cell?_alloc_mark wr _ _ _ 0
      have v1 : W4.cell? ⟨wr.heap.size, 1, none⟩ = some (.func (.func 54) #[] #[]) := by rw [← hW4]; exact World.cell?_alloc_mark wr _ _ _ 1
      have hVl : wr.heap.size < W4.heap.size := by rw [← hW4]; simp
      have hrl := (HRL.out.below2 hbw HNC.out).below ha4
      have k5 := indexOf_any (.pointer (some ⟨wr.heap.size, 0, none⟩)) (fun d => d.name == sRemote) la ls.length lc ls W4 hrl hls (fun d _ W' hb' => of1_any wr.heap.size sRemote d W' ((hb'.cell (p := ⟨wr.heap.size, 0, none⟩) hVl).trans v0) (Nat.lt_of_lt_of_le hVl hb'.size))
      have hcase := firstI_find (fun d => d.name == sRemote) ls
      have hcw := HC.out.lt
      have HC4 := Lib.hid (HC.out.below ha4)
      have hB4 := hbw.trans (Beside.of ha4 (Nat.le_of_lt HC.out.lt))
      have HRL4 := Lib.hid hrl
      generalize firstI (fun d => d.name == sRemote) ls = ix at *
      have K5 := Lib.hid k5; have HW4 := Lib.hid hW4; have HV1 := Lib.hid v1
      clear k5 hW4 ha4 v0 v1 hrl HC hbw
      rcases hcase with ⟨hf, rfl⟩ | ⟨k, hk, hf, rfl⟩
      · have hnx : ctlTo ls 2 = ctlTo ls 1 := by unfold ctlTo; rw [first_none hf]; rfl
        have HNX := Lib.hid hnx
        clear hnx hf
        go_wp2_with fail
        rw [HW4.out]
        (with_reducible refine K5.out.mono ?_)
        rintro e w5 ⟨rfl, h5⟩
        have HC5 : Hid (CtlAt w.heap.size (ctlTo ls 2) w5) := by rw [HNX.out]; exact Lib.hid (HC4.out.below h5)
        have hB5 := hB4.trans (Beside.of h5 (Nat.le_of_lt HC4.out.lt))
        clear h5 r0 r1
        go_wp2
        go_roundw
        case rel => exact ⟨2, by omega, by rfl, HC5, hB5⟩
        case measure => simp [intOf]
      · have hdl := HDL.out ls[k] (List.getElem_mem _)
        obtain ⟨d, hd⟩ : ∃ d, ls[k] = d := ⟨_, rfl⟩
        rw [hd] at hf hdl
        have hfv := first_some hf
        obtain ⟨dn, dv, dh, df⟩ := d
        have hnx : ctlTo ls 2 = { ctlTo ls 1 with noRemote := true } := by unfold ctlTo; rw [hfv]; rfl
        have HNX := Lib.hid hnx; have HD := Lib.hid hd
        have hvs : (⟨dv.toArray⟩ : ByteArray).size ≤ 1000000 := by rw [Lib.size_eq]; exact hdl
        clear hnx hf hd hdl hfv
        go_wp2_with fail
        rw [HW4.out]
        (with_reducible refine K5.out.mono ?_)
        rintro e w5 ⟨rfl, h5⟩
        obtain ⟨b, o, rfl, hbl, _, x1, _, _⟩ := (HRL4.out.below h5).dir_at (k := k) hk
        rw [HD.out] at x1
        simp only at x1
        have hbne : b ≠ w.heap.size := HNC.out b o rfl
        have hVl5 : wr.heap.size < w5.heap.size := Nat.lt_of_lt_of_le hVl h5.size
        have s0 := (h5.cell (p := ⟨wr.heap.size, 1, none⟩) hVl).trans HV1.out
        have s1 := x1
        have HC5 := Lib.hid (HC4.out.below h5)
        have hB5 := hB4.trans (Beside.of h5 (Nat.le_of_lt HC4.out.lt))
        have hM5 := HM.out.beside hB5 hCg
        have hbl5 := hbl
        have hVne : wr.heap.size ≠ w.heap.size := by omega
        have hBd : Beside w.heap.size w5 w5.drew := ⟨(Below.refl _ _).drew, fun _ _ _ => rfl⟩
        have s0d : w5.drew.cell? ⟨wr.heap.size, 1, none⟩ = some (.func (.func 54) #[] #[]) := s0
        have s1d : w5.drew.cell? ⟨b, o + k * 4 + 1, none⟩ = some (.string ⟨dv.toArray⟩) := s1
        have hM5d := hM5.beside hBd hCg
        have hC5d : CtlAt w.heap.size (ctlTo ls 1) w5.drew := HC5.out
        have k6 := do2_any w.heap.size _ ⟨dv.toArray⟩ _ hC5d
        have K6 := Lib.hid k6; have HBD := Lib.hid (hB5.trans hBd)
        clear h5 r0 r1 k6 hC5d hM5d hM5 hBd x1
        go_wp2_with fail
        refine wp_region_held_drew (S := (fun w' => w'.cell? ⟨wr.heap.size, 1, none⟩ = some (.func (.func 54) #[] #[]) ∧ w'.cell? ⟨b, o + k * 4 + 1, none⟩ = some (.string ⟨dv.toArray⟩))) (by kernel_rfl) (And.intro s0d s1d) (fun hHeld => ?_)
        refine wpAnyH_take (i := 0) (v := ?_) (by simp only [List.getElem?_toArray, List.getElem?_cons_zero]; exact rfl) (by kernel_rfl) (by kernel_rfl) (by kernel_rfl) (by intro _ _ _ h; exact h) (Or.inl ⟨by rfl, fun W hSw => ?_⟩) hHeld ?_
        rotate_left
        focus ((try dsimp only at hSw); first | (go_simp; done) | (go_simp; with_reducible rfl))
        try simp only [Act.put, List.setIfInBounds_toArray, List.set_cons_zero, List.set_cons_succ]
        refine wpAnyH_take (i := 1) (v := ?_) (by simp only [List.getElem?_toArray, List.getElem?_cons_succ, List.getElem?_cons_zero]; exact rfl) (by kernel_rfl) (by kernel_rfl) (by kernel_rfl) (by intro _ _ _ h; exact h) (Or.inl ⟨by rfl, fun W hSw => ?_⟩) hHeld ?_
        rotate_left
        focus ((try dsimp only at hSw); first | (go_simp; done) | (go_simp; with_reducible rfl))
        try simp only [Act.put, List.setIfInBounds_toArray, List.set_cons_zero, List.set_cons_succ]
        refine wpAnyH_take (i := 2) (v := ?_) (by simp only [List.getElem?_toArray, List.getElem?_cons_succ, List.getElem?_cons_zero]; exact rfl) (by kernel_rfl) (by kernel_rfl) (by kernel_rfl) (by intro _ _ _ h; exact h) (Or.inl ⟨by rfl, fun W hSw => ?_⟩) hHeld ?_
        rotate_left
        focus ((try dsimp only at hSw); first | (go_simp; done) | (go_simp; with_reducible rfl))
        try simp only [Act.put, List.setIfInBounds_toArray, List.set_cons_zero, List.set_cons_succ]
        refine wpAnyH_take (i := 3) (v := ?_) (by simp only [List.getElem?_toArray, List.getElem?_cons_succ, List.getElem?_cons_zero]; exact rfl) (by kernel_rfl) (by kernel_rfl) (by kernel_rfl) (by intro _ _ _ h; exact h) (Or.inl ⟨by rfl, fun W hSw => ?_⟩) hHeld ?_
        rotate_left
        focus ((try dsimp only at hSw); first | (go_simp; done) | (go_simp; with_reducible rfl))
        try simp only [Act.put, List.setIfInBounds_toArray, List.set_cons_zero, List.set_cons_succ]
        refine wpAnyH_take (i := 4) (v := ?_) (by simp only [List.getElem?_toArray, List.getElem?_cons_succ, List.getElem?_cons_zero]; exact rfl) (by kernel_rfl) (by kernel_rfl) (by kernel_rfl) (by intro _ _ _ h; exact h) (Or.inl ⟨by rfl, fun W hSw => ?_⟩) hHeld ?_
        rotate_left
        focus ((try dsimp only at hSw); first | (go_simp; done) | (go_simp; with_reducible rfl))
        try simp only [Act.put, List.setIfInBounds_toArray, List.set_cons_zero, List.set_cons_succ]
        refine wpAnyH_take (i := 5) (v := ?_) (by simp only [List.getElem?_toArray, List.getElem?_cons_succ, List.getElem?_cons_zero]; exact rfl) (by kernel_rfl) (by kernel_rfl) (by kernel_rfl) (by intro _ _ _ h; exact h) (Or.inl ⟨by rfl, fun W hSw => ?_⟩) hHeld ?_
        rotate_left
        focus ((try dsimp only at hSw); first | (go_simp; done) | (go_simp; with_reducible rfl))
        try simp only [Act.put, List.setIfInBounds_toArray, List.set_cons_zero, List.set_cons_succ]
        refine wpAnyH_take (i := 6) (v := ?_) (by simp only [List.getElem?_toArray, List.getElem?_cons_succ, List.getElem?_cons_zero]; exact rfl) (by kernel_rfl) (by kernel_rfl) (by kernel_rfl) (by intro _ _ _ h; exact h) (Or.inl ⟨by rfl, fun W hSw => ?_⟩) hHeld ?_
        rotate_left
        focus ((try dsimp only at hSw); first | (go_simp; done) | (go_simp; with_reducible rfl))
        try simp only [Act.put, List.setIfInBounds_toArray, List.set_cons_zero, List.set_cons_succ]
        refine wpAnyH_ready (rs := [7]) (by kernel_rfl) (by simp) (AllReadyH.cons (by simp only [List.getElem?_toArray, List.getElem?_cons_succ, List.getElem?_cons_zero]; exact rfl) (fun K hK => ?_) AllReadyH.nil)
        rw [if_pos (by rfl)]
        go_simp
        refine (K6.out).mono ?_; rintro e w6 ⟨⟨_, rfl⟩, hc6, hb6⟩; have hS6 := And.intro ((hb6.cell 1 hVl5 hVne).trans s0d) ((hb6.cell (o + k * 4 + 1) hbl5 hbne).trans s1d); go_wp2_with fail
        refine hK.out _ _ (hS6) (fun hHeld => ?_)
        clear hK K
        try simp only [Act.put, List.setIfInBounds_toArray, List.set_cons_zero, List.set_cons_succ]
        refine wpAnyH_done (by kernel_rfl) ?_ _
        have HC6 : Hid (CtlAt w.heap.size (ctlTo ls 2) w6) := by rw [HNX.out]; exact Lib.hid hc6
        have hB6 := HBD.out.trans hb6
        clear hc6 hb6 hHeld hS6
        go_wp2
        go_roundw
        case rel => exact ⟨2, by omega, by rfl, HC6, hB6⟩
        case measure => simp [intOf]
    · -- rule 3
      have r0 := (hbw.cell 4 hRl hRne).trans HR2a.out
      have r1 := (hbw.cell 5 hRl hRne).trans HR2b.out
      obtain ⟨W4, hW4⟩ : ∃ W4, wr.alloc (.cells #[.string ⟨#[99, 111, 110, 116, 101, 110, 116]⟩, .func (.func 55) #[] #[]] 74) = W4 := ⟨_, rfl⟩
      have ha4 : Below wr.heap.size wr W4 := by rw [← hW4]; exact (Below.refl _ wr).alloc (Nat.le_refl _) _
      have v0 : W4.cell? ⟨wr.heap.size, 0, none⟩ = some (.string ⟨#[99, 111, 110, 116, 101, 110, 116]⟩) := by rw [← hW4]; exact World.cell?_alloc_mark wr _ _ _ 0
      have v1 : W4.cell? ⟨wr.heap.size, 1, none⟩ = some (.func (.func 55) #[] #[]) := by rw [← hW4]; exact World.cell?_alloc_mark wr _ _ _ 1
      have hVl : wr.heap.size < W4.heap.size := by rw [← hW4]; simp
      have hrl := (HRL.out.below2 hbw HNC.out).below ha4
      have k5 := indexOf_any (.pointer (some ⟨wr.heap.size, 0, none⟩)) (fun d => d.name == sContent) la ls.length lc ls W4 hrl hls (fun d _ W' hb' => of1_any wr.heap.size sContent d W' ((hb'.cell (p := ⟨wr.heap.size, 0, none⟩) hVl).trans v0) (Nat.lt_of_lt_of_le hVl hb'.size))
      have hcase := firstI_find (fun d => d.name == sContent) ls
      have hcw := HC.out.lt
      have HC4 := Lib.hid (HC.out.below ha4)
      have hB4 := hbw.trans (Beside.of ha4 (Nat.le_of_lt HC.out.lt))
      have HRL4 := Lib.hid hrl
      generalize firstI (fun d => d.name == sContent) ls = ix at *
      have K5 := Lib.hid k5; have HW4 := Lib.hid hW4; have HV1 := Lib.hid v1
      clear k5 hW4 ha4 v0 v1 hrl HC hbw
      rcases hcase with ⟨hf, rfl⟩ | ⟨k, hk, hf, rfl⟩
      · have hnx : ctlTo ls 3 = ctlTo ls 2 := by unfold ctlTo; rw [first_none hf]; rfl
        have HNX := Lib.hid hnx
        clear hnx hf
        go_wp2_with fail
        rw [HW4.out]
        (with_reducible refine K5.out.mono ?_)
        rintro e w5 ⟨rfl, h5⟩
        have HC5 : Hid (CtlAt w.heap.size (ctlTo ls 3) w5) := by rw [HNX.out]; exact Lib.hid (HC4.out.below h5)
        have hB5 := hB4.trans (Beside.of h5 (Nat.le_of_lt HC4.out.lt))
        clear h5 r0 r1
        go_wp2
        go_roundw
        case rel => exact ⟨3, by omega, by rfl, HC5, hB5⟩
        case measure => simp [intOf]
      · have hdl := HDL.out ls[k] (List.getElem_mem _)
        obtain ⟨d, hd⟩ : ∃ d, ls[k] = d := ⟨_, rfl⟩
        rw [hd] at hf hdl
        have hfv := first_some hf
        obtain ⟨dn, dv, dh, df⟩ := d
        have hnx : ctlTo ls 3 = { ctlTo ls 2 with esi := wordP sESI [] dv } := by unfold ctlTo; rw [hfv]; rfl
        have HNX := Lib.hid hnx; have HD := Lib.hid hd
        have hvs : (⟨dv.toArray⟩ : ByteArray).size ≤ 1000000 := by rw [Lib.size_eq]; exact hdl
        clear hnx hf hd hdl hfv
        go_wp2_with fail
        rw [HW4.out]
        (with_reducible refine K5.out.mono ?_)
        rintro e w5 ⟨rfl, h5⟩
        obtain ⟨b, o, rfl, hbl, _, x1, _, _⟩ := (HRL4.out.below h5).dir_at (k := k) hk
        rw [HD.out] at x1
        simp only at x1
        have hbne : b ≠ w.heap.size := HNC.out b o rfl
        have hVl5 : wr.heap.size < w5.heap.size := Nat.lt_of_lt_of_le hVl h5.size
        have s0 := (h5.cell (p := ⟨wr.heap.size, 1, none⟩) hVl).trans HV1.out
        have s1 := x1
        have HC5 := Lib.hid (HC4.out.below h5)
        have hB5 := hB4.trans (Beside.of h5 (Nat.le_of_lt HC4.out.lt))
        have hM5 := HM.out.beside hB5 hCg
        have hbl5 := hbl
        have hVne : wr.heap.size ≠ w.heap.size := by omega
        have hBd : Beside w.heap.size w5 w5.drew := ⟨(Below.refl _ _).drew, fun _ _ _ => rfl⟩
        have s0d : w5.drew.cell? ⟨wr.heap.size, 1, none⟩ = some (.func (.func 55) #[] #[]) := s0
        have s1d : w5.drew.cell? ⟨b, o + k * 4 + 1, none⟩ = some (.string ⟨dv.toArray⟩) := s1
        have hM5d := hM5.beside hBd hCg
        have hC5d : CtlAt w.heap.size (ctlTo ls 2) w5.drew := HC5.out
        have k6 := do3_any w.heap.size _ ⟨dv.toArray⟩ _ hC5d hvs
        have K6 := Lib.hid k6; have HBD := Lib.hid (hB5.trans hBd)
        clear h5 r0 r1 k6 hC5d hM5d hM5 hBd x1
        go_wp2_with fail
        refine wp_region_held_drew (S := (fun w' => w'.cell? ⟨wr.heap.size, 1, none⟩ = some (.func (.func 55) #[] #[]) ∧ w'.cell? ⟨b, o + k * 4 + 1, none⟩ = some (.string ⟨dv.toArray⟩))) (by kernel_rfl) (And.intro s0d s1d) (fun hHeld => ?_)
        refine wpAnyH_take (i := 0) (v := ?_) (by simp only [List.getElem?_toArray, List.getElem?_cons_zero]; exact rfl) (by kernel_rfl) (by kernel_rfl) (by kernel_rfl) (by intro _ _ _ h; exact h) (Or.inl ⟨by rfl, fun W hSw => ?_⟩) hHeld ?_
        rotate_left
        focus ((try dsimp only at hSw); first | (go_simp; done) | (go_simp; with_reducible rfl))
        try simp only [Act.put, List.setIfInBounds_toArray, List.set_cons_zero, List.set_cons_succ]
        refine wpAnyH_take (i := 1) (v := ?_) (by simp only [List.getElem?_toArray, List.getElem?_cons_succ, List.getElem?_cons_zero]; exact rfl) (by kernel_rfl) (by kernel_rfl) (by kernel_rfl) (by intro _ _ _ h; exact h) (Or.inl ⟨by rfl, fun W hSw => ?_⟩) hHeld ?_
        rotate_left
        focus ((try dsimp only at hSw); first | (go_simp; done) | (go_simp; with_reducible rfl))
        try simp only [Act.put, List.setIfInBounds_toArray, List.set_cons_zero, List.set_cons_succ]
        refine wpAnyH_take (i := 2) (v := ?_) (by simp only [List.getElem?_toArray, List.getElem?_cons_succ, List.getElem?_cons_zero]; exact rfl) (by kernel_rfl) (by kernel_rfl) (by kernel_rfl) (by intro _ _ _ h; exact h) (Or.inl ⟨by rfl, fun W hSw => ?_⟩) hHeld ?_
        rotate_left
        focus ((try dsimp only at hSw); first | (go_simp; done) | (go_simp; with_reducible rfl))
        try simp only [Act.put, List.setIfInBounds_toArray, List.set_cons_zero, List.set_cons_succ]
        refine wpAnyH_take (i := 3) (v := ?_) (by simp only [List.getElem?_toArray, List.getElem?_cons_succ, List.getElem?_cons_zero]; exact rfl) (by kernel_rfl) (by kernel_rfl) (by kernel_rfl) (by intro _ _ _ h; exact h) (Or.inl ⟨by rfl, fun W hSw => ?_⟩) hHeld ?_
        rotate_left
        focus ((try dsimp only at hSw); first | (go_simp; done) | (go_simp; with_reducible rfl))
        try simp only [Act.put, List.setIfInBounds_toArray, List.set_cons_zero, List.set_cons_succ]
        refine wpAnyH_take (i := 4) (v := ?_) (by simp only [List.getElem?_toArray, List.getElem?_cons_succ, List.getElem?_cons_zero]; exact rfl) (by kernel_rfl) (by kernel_rfl) (by kernel_rfl) (by intro _ _ _ h; exact h) (Or.inl ⟨by rfl, fun W hSw => ?_⟩) hHeld ?_
        rotate_left
        focus ((try dsimp only at hSw); first | (go_simp; done) | (go_simp; with_reducible rfl))
        try simp only [Act.put, List.setIfInBounds_toArray, List.set_cons_zero, List.set_cons_succ]
        refine wpAnyH_take (i := 5) (v := ?_) (by simp only [List.getElem?_toArray, List.getElem?_cons_succ, List.getElem?_cons_zero]; exact rfl) (by kernel_rfl) (by kernel_rfl) (by kernel_rfl) (by intro _ _ _ h; exact h) (Or.inl ⟨by rfl, fun W hSw => ?_⟩) hHeld ?_
        rotate_left
        focus ((try dsimp only at hSw); first | (go_simp; done) | (go_simp; with_reducible rfl))
        try simp only [Act.put, List.setIfInBounds_toArray, List.set_cons_zero, List.set_cons_succ]
        refine wpAnyH_take (i := 6) (v := ?_) (by simp only [List.getElem?_toArray, List.getElem?_cons_succ, List.getElem?_cons_zero]; exact rfl) (by kernel_rfl) (by kernel_rfl) (by kernel_rfl) (by intro _ _ _ h; exact h) (Or.inl ⟨by rfl, fun W hSw => ?_⟩) hHeld ?_
        rotate_left
        focus ((try dsimp only at hSw); first | (go_simp; done) | (go_simp; with_reducible rfl))
        try simp only [Act.put, List.setIfInBounds_toArray, List.set_cons_zero, List.set_cons_succ]
        refine wpAnyH_ready (rs := [7]) (by kernel_rfl) (by simp) (AllReadyH.cons (by simp only [List.getElem?_toArray, List.getElem?_cons_succ, List.getElem?_cons_zero]; exact rfl) (fun K hK => ?_) AllReadyH.nil)
        rw [if_pos (by rfl)]
        go_simp
        refine (K6.out).mono ?_; rintro e w6 ⟨⟨_, rfl⟩, hc6, hb6⟩; have hS6 := And.intro ((hb6.cell 1 hVl5 hVne).trans s0d) ((hb6.cell (o + k * 4 + 1) hbl5 hbne).trans s1d); go_wp2_with fail
        refine hK.out _ _ (hS6) (fun hHeld => ?_)
        clear hK K
        try simp only [Act.put, List.setIfInBounds_toArray, List.set_cons_zero, List.set_cons_succ]
        refine wpAnyH_done (by kernel_rfl) ?_ _
        have HC6 : Hid (CtlAt w.heap.size (ctlTo ls 3) w6) := by rw [HNX.out]; exact Lib.hid hc6
        have hB6 := HBD.out.trans hb6
        clear hc6 hb6 hHeld hS6
        go_wp2
        go_roundw
        case rel => exact ⟨3, by omega, by rfl, HC6, hB6⟩
        case measure => simp [intOf]
    · -- rule 4
      have r0 := (hbw.cell 6 hRl hRne).trans HR3a.out
      have r1 := (hbw.cell 7 hRl hRne).trans HR3b.out
      obtain ⟨W4, hW4⟩ : ∃ W4, wr.alloc (.cells #[.string ⟨#[109, 97, 120, 45, 97, 103, 101]⟩, .func (.func 59) #[] #[]] 74) = W4 := ⟨_, rfl⟩
      have ha4 : Below wr.heap.size wr W4 := by rw [← hW4]; exact (Below.refl _ wr).alloc (Nat.le_refl _) _
      have v0 : W4.cell? ⟨wr.heap.size, 0, none⟩ = some (.string ⟨#[109, 97, 120, 45, 97, 103, 101]⟩) := by rw [← hW4]; exact World.cell?_alloc_mark wr _ _ _ 0
      have v1 : W4.cell? ⟨wr.heap.size, 1, none⟩ = some (.func (.func 59) #[] #[]) := by rw [← hW4]; exact World.cell?_alloc_mark wr _ _ _ 1
      have hVl : wr.heap.size < W4.heap.size := by rw [← hW4]; simp
      have hrl := (HRL.out.below2 hbw HNC.out).below ha4
      have k5 := indexOf_any (.pointer (some ⟨wr.heap.size, 0, none⟩)) (fun d => d.name == sMaxAge) la ls.length lc ls W4 hrl hls (fun d _ W' hb' => of1_any wr.heap.size sMaxAge d W' ((hb'.cell (p := ⟨wr.heap.size, 0, none⟩) hVl).trans v0) (Nat.lt_of_lt_of_le hVl hb'.size))
      have hcase := firstI_find (fun d => d.name == sMaxAge) ls
      have hcw := HC.out.lt
      have HC4 := Lib.hid (HC.out.below ha4)
      have hB4 := hbw.trans (Beside.of ha4 (Nat.le_of_lt HC.out.lt))
      have HRL4 := Lib.hid hrl
      generalize firstI (fun d => d.name == sMaxAge) ls = ix at *
      have K5 := Lib.hid k5; have HW4 := Lib.hid hW4; have HV1 := Lib.hid v1
      clear k5 hW4 ha4 v0 v1 hrl HC hbw
      rcases hcase with ⟨hf, rfl⟩ | ⟨k, hk, hf, rfl⟩
      · have hnx : ctlTo ls 4 = ctlTo ls 3 := by unfold ctlTo; unfold ctlL; rw [first_none hf]; rfl
        have HNX := Lib.hid hnx
        clear hnx hf
        go_wp2_with fail
        rw [HW4.out]
        (with_reducible refine K5.out.mono ?_)
        rintro e w5 ⟨rfl, h5⟩
        have HC5 : Hid (CtlAt w.heap.size (ctlTo ls 4) w5) := by rw [HNX.out]; exact Lib.hid (HC4.out.below h5)
        have hB5 := hB4.trans (Beside.of h5 (Nat.le_of_lt HC4.out.lt))
        clear h5 r0 r1
        go_wp2
        go_roundw
        case rel => exact ⟨4, by omega, by rfl, HC5, hB5⟩
        case measure => simp [intOf]
      · have hdl := HDL.out ls[k] (List.getElem_mem _)
        obtain ⟨d, hd⟩ : ∃ d, ls[k] = d := ⟨_, rfl⟩
        rw [hd] at hf hdl
        have hfv := first_some hf
        obtain ⟨dn, dv, dh, df⟩ := d
        have hnx : ctlTo ls 4 = ⟨(ctlTo ls 3).noStore, (ctlTo ls 3).noRemote, (ctlTo ls 3).esi, true, (agesL dv).1, (agesL dv).2⟩ := by unfold ctlTo; unfold ctlL; rw [hfv]; rfl
        have HNX := Lib.hid hnx; have HD := Lib.hid hd
        have hvs : (⟨dv.toArray⟩ : ByteArray).size ≤ 1000000 := by rw [Lib.size_eq]; exact hdl
        clear hnx hf hd hdl hfv
        go_wp2_with fail
        rw [HW4.out]
        (with_reducible refine K5.out.mono ?_)
        rintro e w5 ⟨rfl, h5⟩
        obtain ⟨b, o, rfl, hbl, _, x1, _, _⟩ := (HRL4.out.below h5).dir_at (k := k) hk
        rw [HD.out] at x1
        simp only at x1
        have hbne : b ≠ w.heap.size := HNC.out b o rfl
        have hVl5 : wr.heap.size < w5.heap.size := Nat.lt_of_lt_of_le hVl h5.size
        have s0 := (h5.cell (p := ⟨wr.heap.size, 1, none⟩) hVl).trans HV1.out
        have s1 := x1
        have HC5 := Lib.hid (HC4.out.below h5)
        have hB5 := hB4.trans (Beside.of h5 (Nat.le_of_lt HC4.out.lt))
        have hM5 := HM.out.beside hB5 hCg
        have hbl5 := hbl
        have hVne : wr.heap.size ≠ w.heap.size := by omega
        have hBd : Beside w.heap.size w5 w5.drew := ⟨(Below.refl _ _).drew, fun _ _ _ => rfl⟩
        have s0d : w5.drew.cell? ⟨wr.heap.size, 1, none⟩ = some (.func (.func 59) #[] #[]) := s0
        have s1d : w5.drew.cell? ⟨b, o + k * 4 + 1, none⟩ = some (.string ⟨dv.toArray⟩) := s1
        have hM5d := hM5.beside hBd hCg
        have hC5d : CtlAt w.heap.size (ctlTo ls 3) w5.drew := HC5.out
        have k6 := do4_any w.heap.size _ _ _ _ ⟨dv.toArray⟩ _ hM5d hCg hC5d hvs
        have K6 := Lib.hid k6; have HBD := Lib.hid (hB5.trans hBd)
        clear h5 r0 r1 k6 hC5d hM5d hM5 hBd x1
        go_wp2_with fail
        refine wp_region_held_drew (S := (fun w' => w'.cell? ⟨wr.heap.size, 1, none⟩ = some (.func (.func 59) #[] #[]) ∧ w'.cell? ⟨b, o + k * 4 + 1, none⟩ = some (.string ⟨dv.toArray⟩))) (by kernel_rfl) (And.intro s0d s1d) (fun hHeld => ?_)
        refine wpAnyH_take (i := 0) (v := ?_) (by simp only [List.getElem?_toArray, List.getElem?_cons_zero]; exact rfl) (by kernel_rfl) (by kernel_rfl) (by kernel_rfl) (by intro _ _ _ h; exact h) (Or.inl ⟨by rfl, fun W hSw => ?_⟩) hHeld ?_
        rotate_left
        focus ((try dsimp only at hSw); first | (go_simp; done) | (go_simp; with_reducible rfl))
        try simp only [Act.put, List.setIfInBounds_toArray, List.set_cons_zero, List.set_cons_succ]
        refine wpAnyH_take (i := 1) (v := ?_) (by simp only [List.getElem?_toArray, List.getElem?_cons_succ, List.getElem?_cons_zero]; exact rfl) (by kernel_rfl) (by kernel_rfl) (by kernel_rfl) (by intro _ _ _ h; exact h) (Or.inl ⟨by rfl, fun W hSw => ?_⟩) hHeld ?_
        rotate_left
        focus ((try dsimp only at hSw); first | (go_simp; done) | (go_simp; with_reducible rfl))
        try simp only [Act.put, List.setIfInBounds_toArray, List.set_cons_zero, List.set_cons_succ]
        refine wpAnyH_take (i := 2) (v := ?_) (by simp only [List.getElem?_toArray, List.getElem?_cons_succ, List.getElem?_cons_zero]; exact rfl) (by kernel_rfl) (by kernel_rfl) (by kernel_rfl) (by intro _ _ _ h; exact h) (Or.inl ⟨by rfl, fun W hSw => ?_⟩) hHeld ?_
        rotate_left
        focus ((try dsimp only at hSw); first | (go_simp; done) | (go_simp; with_reducible rfl))
        try simp only [Act.put, List.setIfInBounds_toArray, List.set_cons_zero, List.set_cons_succ]
        refine wpAnyH_take (i := 3) (v := ?_) (by simp only [List.getElem?_toArray, List.getElem?_cons_succ, List.getElem?_cons_zero]; exact rfl) (by kernel_rfl) (by kernel_rfl) (by kernel_rfl) (by intro _ _ _ h; exact h) (Or.inl ⟨by rfl, fun W hSw => ?_⟩) hHeld ?_
        rotate_left
        focus ((try dsimp only at hSw); first | (go_simp; done) | (go_simp; with_reducible rfl))
        try simp only [Act.put, List.setIfInBounds_toArray, List.set_cons_zero, List.set_cons_succ]
        refine wpAnyH_take (i := 4) (v := ?_) (by simp only [List.getElem?_toArray, List.getElem?_cons_succ, List.getElem?_cons_zero]; exact rfl) (by kernel_rfl) (by kernel_rfl) (by kernel_rfl) (by intro _ _ _ h; exact h) (Or.inl ⟨by rfl, fun W hSw => ?_⟩) hHeld ?_
        rotate_left
        focus ((try dsimp only at hSw); first | (go_simp; done) | (go_simp; with_reducible rfl))
        try simp only [Act.put, List.setIfInBounds_toArray, List.set_cons_zero, List.set_cons_succ]
        refine wpAnyH_take (i := 5) (v := ?_) (by simp only [List.getElem?_toArray, List.getElem?_cons_succ, List.getElem?_cons_zero]; exact rfl) (by kernel_rfl) (by kernel_rfl) (by kernel_rfl) (by intro _ _ _ h; exact h) (Or.inl ⟨by rfl, fun W hSw => ?_⟩) hHeld ?_
        rotate_left
        focus ((try dsimp only at hSw); first | (go_simp; done) | (go_simp; with_reducible rfl))
        try simp only [Act.put, List.setIfInBounds_toArray, List.set_cons_zero, List.set_cons_succ]
        refine wpAnyH_take (i := 6) (v := ?_) (by simp only [List.getElem?_toArray, List.getElem?_cons_succ, List.getElem?_cons_zero]; exact rfl) (by kernel_rfl) (by kernel_rfl) (by kernel_rfl) (by intro _ _ _ h; exact h) (Or.inl ⟨by rfl, fun W hSw => ?_⟩) hHeld ?_
        rotate_left
        focus ((try dsimp only at hSw); first | (go_simp; done) | (go_simp; with_reducible rfl))
        try simp only [Act.put, List.setIfInBounds_toArray, List.set_cons_zero, List.set_cons_succ]
        refine wpAnyH_ready (rs := [7]) (by kernel_rfl) (by simp) (AllReadyH.cons (by simp only [List.getElem?_toArray, List.getElem?_cons_succ, List.getElem?_cons_zero]; exact rfl) (fun K hK => ?_) AllReadyH.nil)
        rw [if_pos (by rfl)]
        go_simp
        refine (K6.out).mono ?_; rintro e w6 ⟨⟨_, rfl⟩, hc6, hb6⟩; have hS6 := And.intro ((hb6.cell 1 hVl5 hVne).trans s0d) ((hb6.cell (o + k * 4 + 1) hbl5 hbne).trans s1d); go_wp2_with fail
        refine hK.out _ _ (hS6) (fun hHeld => ?_)
        clear hK K
        try simp only [Act.put, List.setIfInBounds_toArray, List.set_cons_zero, List.set_cons_succ]
        refine wpAnyH_done (by kernel_rfl) ?_ _
        have HC6 : Hid (CtlAt w.heap.size (ctlTo ls 4) w6) := by rw [HNX.out]; exact Lib.hid hc6
        have hB6 := HBD.out.trans hb6
        clear hc6 hb6 hHeld hS6
        go_wp2
        go_roundw
        case rel => exact ⟨4, by omega, by rfl, HC6, hB6⟩
        case measure => simp [intOf]
    · obtain ⟨c0, c1, c2, c3, c4, c5, hf⟩ := HC.out.cells
      have hfin := hB0.trans ((hB3.mono hB0.size).trans (hbw.1.mono (Nat.le_refl _)))
      obtain ⟨kk, hkk⟩ : ∃ kk, ctlTo ls 4 = kk := ⟨_, rfl⟩
      rw [hkk] at c0 c1 c2 c3 c4 c5
      have HK := Lib.hid hkk
      clear hkk
      obtain ⟨k0, k1, k2, k3, k4, k5⟩ := kk
      simp only at c0 c1 c2 c3 c4 c5
      have f0 := hf 0; have f1 := hf 1; have f2 := hf 2; have f3 := hf 3; have f4 := hf 4; have f5 := hf 5
      clear hf HC HRL HM HDL HNC HR0a HR0b HR1a HR1b HR2a HR2b HR3a HR3b hbw
      go_wp2_with fail
      refine bodyPost_ret_by (v := ctlV ⟨k0, k1, k2, k3, k4, k5⟩) ?_ rfl ?_
      · rw [results_cell_one rfl]
        go_simp
        rfl
      · exact ⟨by rw [HK.out], (((((hfin.setCell (p := ⟨w.heap.size, 0, none⟩) (Nat.le_refl _) _).setCell (p := ⟨w.heap.size, 1, none⟩) (Nat.le_refl _) _).setCell (p := ⟨w.heap.size, 2, none⟩) (Nat.le_refl _) _).setCell (p := ⟨w.heap.size, 3, none⟩) (Nat.le_refl _) _).setCell (p := ⟨w.heap.size, 4, none⟩) (Nat.le_refl _) _).setCell (p := ⟨w.heap.size, 5, none⟩) (Nat.le_refl _) _⟩
end Go.Proofs.YtlhfbikhlfgjbaaDoor
/- The walks of the law's says, works (layer 12) (printed by wip/tools/works12.py). -/
namespace Go.Proofs.YtlhfbikhlfgjbaaDoor
open Go.RowKit
set_option maxRecDepth 100000

set_option maxHeartbeats 8000000 in
theorem says_any (v : List UInt8) (k0 k1 k2 k3 : Bool) (k4 k5 : Int) (w : World) (hM : MaxL w) (hv : v.length ≤ 900000) (ho : ofL [v] [100] = ⟨k0, k1, k2, k3, k4, k5⟩) :
    Calls Tryd.prog 32 #[.string ⟨v.toArray⟩, .agg #[.bool k0, .bool k1, .bool k2, .bool k3, .int .i64 k4, .int .i64 k5]] w fun e w' => e = .returned (.bool true) ∧ Below w.heap.size w w' := by
  obtain ⟨W0, hW0⟩ : ∃ W0, w.alloc (.cells #[.bool k0, .bool k1, .bool k2, .bool k3, .int .i64 k4, .int .i64 k5] 38) = W0 := ⟨_, rfl⟩
  have hB0 : Below w.heap.size w W0 := by rw [← hW0]; exact (Below.refl _ w).alloc (Nat.le_refl _) _
  have hz : w.heap.size < W0.heap.size := by rw [← hW0]; simp
  have hc : ∀ j, W0.cell? ⟨w.heap.size, j, none⟩ = (#[.bool k0, .bool k1, .bool k2, .bool k3, .int .i64 k4, .int .i64 k5] : Array Value)[j]? := fun j => by rw [← hW0]; exact World.cell?_alloc_mark w _ _ _ j
  have kc : ∀ w', Below W0.heap.size W0 w' → w'.cell? ⟨w.heap.size, 0, none⟩ = some (.bool k0) ∧ w'.cell? ⟨w.heap.size, 1, none⟩ = some (.bool k1) ∧ w'.cell? ⟨w.heap.size, 2, none⟩ = some (.bool k2) ∧ w'.cell? ⟨w.heap.size, 3, none⟩ = some (.bool k3) ∧ w'.cell? ⟨w.heap.size, 4, none⟩ = some (.int .i64 k4) ∧ w'.cell? ⟨w.heap.size, 5, none⟩ = some (.int .i64 k5) ∧ Below W0.heap.size W0 w' := fun w' h => ⟨(h.cell (p := ⟨w.heap.size, 0, none⟩) hz).trans (hc 0), (h.cell (p := ⟨w.heap.size, 1, none⟩) hz).trans (hc 1), (h.cell (p := ⟨w.heap.size, 2, none⟩) hz).trans (hc 2), (h.cell (p := ⟨w.heap.size, 3, none⟩) hz).trans (hc 3), (h.cell (p := ⟨w.heap.size, 4, none⟩) hz).trans (hc 4), (h.cell (p := ⟨w.heap.size, 5, none⟩) hz).trans (hc 5), h⟩
  have k1' : ∀ W, W = W0.drew → Calls Tryd.prog 14 #[.slice (some ⟨W.heap.size, 0, none⟩) 1 1, .string ⟨#[100]⟩] (W.alloc (.cells #[.string ⟨v.toArray⟩] 9)) fun e w' => e = .returned (.agg #[.bool k0, .bool k1, .bool k2, .bool k3, .int .i64 k4, .int .i64 k5]) ∧ Below W.heap.size W w' := by
    intro W hW
    subst hW
    have hal := (Below.refl W0.drew.heap.size W0.drew).alloc (Nat.le_refl _) (.cells #[.string ⟨v.toArray⟩] 9)
    have h := surOf_any _ 1 1 [v] ⟨#[100]⟩ _ ((hM.below hB0.drew).below hal) (Rd.newS1 W0.drew v 9) (by omega) (by intro x hx; rw [List.mem_singleton.1 hx]; exact hv)
    rw [show (⟨#[100]⟩ : ByteArray).data.toList = [100] from rfl, ho] at h
    exact h.mono fun _ _ ⟨h1, h2⟩ => ⟨h1, hal.trans (h2.mono (by simp))⟩
  have hb0 := Below.refl W0.heap.size W0
  have hb1 : Below W0.heap.size W0 (W0.drew.alloc (.cells #[.string ⟨v.toArray⟩] 9)) := hb0.drew.alloc (Nat.le_refl _) _
  have KC := Lib.hid kc; have HW0 := Lib.hid hW0; have K1 := Lib.hid k1'
  clear kc hW0 k1' hc ho
  go_enter Tryd.func32, Tryd.ntmps32
  go_wp2_with fail
  rw [HW0.out]
  refine wp_region_held_drew (S := (fun w' => w'.cell? ⟨w.heap.size, 0, none⟩ = some (.bool k0) ∧ w'.cell? ⟨w.heap.size, 1, none⟩ = some (.bool k1) ∧ w'.cell? ⟨w.heap.size, 2, none⟩ = some (.bool k2) ∧ w'.cell? ⟨w.heap.size, 3, none⟩ = some (.bool k3) ∧ w'.cell? ⟨w.heap.size, 4, none⟩ = some (.int .i64 k4) ∧ w'.cell? ⟨w.heap.size, 5, none⟩ = some (.int .i64 k5) ∧ Below W0.heap.size W0 w')) (by kernel_rfl) (KC.out _ hb0.drew) (fun hHeld => ?_)
  refine wpAnyH_take (i := 0) (v := ?_) (by simp only [List.getElem?_toArray, List.getElem?_cons_zero]; exact rfl) (by kernel_rfl) (by kernel_rfl) (by kernel_rfl) (by intro _ _ _ h; exact h) (Or.inl ⟨by rfl, fun W hSw => ?_⟩) hHeld ?_
  rotate_left
  focus ((try dsimp only at hSw); first | (go_simp; done) | (go_simp; with_reducible rfl))
  try simp only [Act.put, List.setIfInBounds_toArray, List.set_cons_zero, List.set_cons_succ]
  refine wpAnyH_take (i := 3) (v := ?_) (by simp only [List.getElem?_toArray, List.getElem?_cons_succ, List.getElem?_cons_zero]; exact rfl) (by kernel_rfl) (by kernel_rfl) (by kernel_rfl) (by intro _ _ _ h; exact h) (Or.inl ⟨by rfl, fun W hSw => ?_⟩) hHeld ?_
  rotate_left
  focus ((try dsimp only at hSw); first | (go_simp; done) | (go_simp; with_reducible rfl))
  try simp only [Act.put, List.setIfInBounds_toArray, List.set_cons_zero, List.set_cons_succ]
  refine wpAnyH_ready (rs := [1]) (by kernel_rfl) (by simp) (AllReadyH.cons (by simp only [List.getElem?_toArray, List.getElem?_cons_succ, List.getElem?_cons_zero]; exact rfl) (fun K hK => ?_) AllReadyH.nil)
  rw [if_pos (by rfl)]
  go_simp
  skip
  refine hK.out _ _ (KC.out _ hb1) (fun hHeld => ?_)
  clear hK K
  try simp only [Act.put, List.setIfInBounds_toArray, List.set_cons_zero, List.set_cons_succ]
  refine wpAnyH_ready (rs := [2]) (by kernel_rfl) (by simp) (AllReadyH.cons (by simp only [List.getElem?_toArray, List.getElem?_cons_succ, List.getElem?_cons_zero]; exact rfl) (fun K hK => ?_) AllReadyH.nil)
  rw [if_pos (by rfl)]
  go_simp
  refine (K1.out _ rfl).mono ?_; rintro e w6 ⟨rfl, h6⟩; have hb6 := hb0.drew.trans (h6.mono (Nat.le_refl _)); go_wp2_with fail
  refine hK.out _ _ (KC.out _ hb6) (fun hHeld => ?_)
  clear hK K
  try simp only [Act.put, List.setIfInBounds_toArray, List.set_cons_zero, List.set_cons_succ]
  refine wpAnyH_take (i := 4) (v := ?_) (by simp only [List.getElem?_toArray, List.getElem?_cons_succ, List.getElem?_cons_zero]; exact rfl) (by kernel_rfl) (by kernel_rfl) (by kernel_rfl) (by intro _ _ _ h; exact h) (Or.inl ⟨by rfl, fun W hSw => ?_⟩) hHeld ?_
  rotate_left
  focus ((try dsimp only at hSw); first | (go_simp; done) | (go_simp; with_reducible rfl))
  try simp only [Act.put, List.setIfInBounds_toArray, List.set_cons_zero, List.set_cons_succ]
  refine wpAnyH_take (i := 5) (v := ?_) (by simp only [List.getElem?_toArray, List.getElem?_cons_succ, List.getElem?_cons_zero]; exact rfl) (by kernel_rfl) (by kernel_rfl) (by kernel_rfl) (by intro _ _ _ h; exact h) (Or.inl ⟨by rfl, fun W hSw => ?_⟩) hHeld ?_
  rotate_left
  focus ((try dsimp only at hSw); first | (go_simp; done) | (go_simp; with_reducible rfl))
  try simp only [Act.put, List.setIfInBounds_toArray, List.set_cons_zero, List.set_cons_succ]
  refine wpAnyH_done (by kernel_rfl) ?_ _
  clear hHeld
  go_wp2
  go_ret
  exact ⟨rfl, hB0.trans (hb6.mono hB0.size)⟩
theorem sw1_of : ofL [[99, 111, 110, 116, 101, 110, 116, 61, 34, 69, 83, 73, 47, 49, 46, 48, 34, 44, 32, 109, 97, 120, 45, 97, 103, 101, 61, 54, 48, 43, 51, 48]] [100] = ⟨false, false, true, true, 60, 30⟩ := by kernel_rfl
theorem sw1 (w : World) (hM : MaxL w) : Calls Tryd.prog 32 #[.string ⟨#[99, 111, 110, 116, 101, 110, 116, 61, 34, 69, 83, 73, 47, 49, 46, 48, 34, 44, 32, 109, 97, 120, 45, 97, 103, 101, 61, 54, 48, 43, 51, 48]⟩, .agg #[.bool false, .bool false, .bool true, .bool true, .int .i64 60, .int .i64 30]] w fun e w' => e = .returned (.bool true) ∧ Below w.heap.size w w' :=
  says_any [99, 111, 110, 116, 101, 110, 116, 61, 34, 69, 83, 73, 47, 49, 46, 48, 34, 44, 32, 109, 97, 120, 45, 97, 103, 101, 61, 54, 48, 43, 51, 48] false false true true 60 30 w hM (by decide) sw1_of
theorem sw2_of : ofL [[109, 97, 120, 45, 97, 103, 101, 61, 54, 48, 44, 32, 109, 97, 120, 45, 97, 103, 101, 61, 53, 59, 100, 44, 32, 110, 111, 45, 115, 116, 111, 114, 101, 59, 101]] [100] = ⟨false, false, false, true, 5, 0⟩ := by kernel_rfl
theorem sw2 (w : World) (hM : MaxL w) : Calls Tryd.prog 32 #[.string ⟨#[109, 97, 120, 45, 97, 103, 101, 61, 54, 48, 44, 32, 109, 97, 120, 45, 97, 103, 101, 61, 53, 59, 100, 44, 32, 110, 111, 45, 115, 116, 111, 114, 101, 59, 101]⟩, .agg #[.bool false, .bool false, .bool false, .bool true, .int .i64 5, .int .i64 0]] w fun e w' => e = .returned (.bool true) ∧ Below w.heap.size w w' :=
  says_any [109, 97, 120, 45, 97, 103, 101, 61, 54, 48, 44, 32, 109, 97, 120, 45, 97, 103, 101, 61, 53, 59, 100, 44, 32, 110, 111, 45, 115, 116, 111, 114, 101, 59, 101] false false false true 5 0 w hM (by decide) sw2_of
set_option maxHeartbeats 4000000 in
theorem works12_any (w : World) (hM : MaxL w) :
    Calls Tryd.prog 13 #[] w fun e w' => e = .returned (.bool true) ∧ Below w.heap.size w w' := by
  go_enter Tryd.func13, Tryd.ntmps13
  go_wp2_with fail
  (with_reducible refine (sw1 _ hM).mono ?_)
  rintro e w1 ⟨rfl, hb1⟩
  go_wp2_with fail
  (with_reducible refine (sw2 _ (hM.below hb1)).mono ?_)
  rintro e w2 ⟨rfl, hb2⟩
  go_wp2
  go_ret
  exact ⟨rfl, bt hb1 hb2⟩
end Go.Proofs.YtlhfbikhlfgjbaaDoor
/- The walk of the document's Same (two lists of directives). -/
namespace Go.Proofs.YtlhfbikhlfgjbaaDoor
open Go.RowKit

set_option maxHeartbeats 4000000 in
theorem samed_any (A : Option Addr) (n c : Nat) (xs : List Dir) (B : Option Addr) (m d : Nat) (ys : List Dir) (w : World) (hA : Rd A n 4 (dirsV xs) w) (hB : Rd B m 4 (dirsV ys) w) (h1 : xs.length ≤ 1000001) (h2 : ys.length ≤ 1000001) :
    Calls Tryd.prog 17 #[.slice A n c, .slice B m d] w fun e w' => e = .returned (.bool (xs == ys)) ∧ Below w.heap.size w w' := by
  obtain rfl := hA.dir
  obtain rfl := hB.dir
  have HA := Lib.hid hA; have HB := Lib.hid hB; clear hA hB
  cases hl : ((xs.length : Int) == (ys.length : Int))
  · have nl : ((xs.length : Int) != (ys.length : Int)) = true := by simp [bne, hl]
    have hr : (xs == ys) = false := by
      rw [beq_eq_false_iff_ne]; intro e; subst e; simp at hl
    have HR := Lib.hid hr; clear hr
    go_enter Tryd.func17, Tryd.ntmps17
    go_wp2
    go_ret
    rw [HR.out]
    exact ⟨rfl, Below.refl _ w⟩
  · have nl : ((xs.length : Int) != (ys.length : Int)) = false := by simp [bne, hl]
    have hle : xs.length = ys.length := by simp at hl; omega
    go_enter Tryd.func17, Tryd.ntmps17
    go_wp2
    go_loopw [5] (fun i wr => ∃ k : Nat, k ≤ xs.length ∧ i = .int .i64 k ∧ Below w.heap.size w wr ∧ Hid (xs.take k = ys.take k)) (fun i _ => xs.length - (intOf i).toNat)
    case atStart => exact ⟨0, Nat.zero_le _, rfl, Below.refl _ w, by show _ = _; rfl⟩
    case round =>
      obtain ⟨k, hk, rfl, hbw, HT⟩ := hrel
      by_cases hlt : k < xs.length
      · have hl2 : k < ys.length := by omega
        obtain ⟨b1, o1, rfl, _, c1, c2, c3, c4⟩ := (HA.out.below hbw).dir_at (k := k) hlt
        obtain ⟨b2, o2, rfl, _, d1, d2, d3, d4⟩ := (HB.out.below hbw).dir_at (k := k) hl2
        have t1 : decide ((k : Int) < (ys.length : Int)) = true := by simp; omega
        have t2 : decide ((k : Int) < (xs.length : Int)) = true := by simp; omega
        have hno : xs[k] ≠ ys[k] → Hid ((xs == ys) = false) := by
          intro h; refine Lib.hid ?_
          rw [beq_eq_false_iff_ne]; intro e; subst e; exact h rfl
        have hyes : xs[k] = ys[k] → Hid (xs.take (k + 1) = ys.take (k + 1)) := by
          intro h; refine Lib.hid ?_
          rw [List.take_succ_eq_append_getElem hlt, List.take_succ_eq_append_getElem hl2, HT.out, h]
        generalize xs[k] = f at *
        generalize ys[k] = g at *
        obtain ⟨f1, f2, f3, f4⟩ := f
        obtain ⟨g1, g2, g3, g4⟩ := g
        simp only at c1 c2 c3 c4 d1 d2 d3 d4
        have HNO := Lib.hid hno; have HYES := Lib.hid hyes; clear hno hyes HT hle
        cases e1 : (f1 == g1) <;> cases e2 : (f2 == g2) <;> cases e3 : (f3 == g3) <;> cases e4 : (f4 == g4)
        all_goals first
          | (have HR := HNO.out (by intro h; cases h; simp at e1 e2 e3 e4)
             go_wp2
             go_quiet (fail)
             go_wp2
             go_ret
             rw [HR.out]
             exact ⟨rfl, Go.below_drewN hbw _⟩)
          | (have HN := HYES.out (by rw [beq_iff_eq.1 e1, beq_iff_eq.1 e2, beq_iff_eq.1 e3, beq_iff_eq.1 e4])
             go_wp2
             go_quiet (fail)
             go_wp2
             go_roundw
             case rel => exact ⟨k + 1, by omega, by go_num, Go.below_drewN hbw _, HN⟩
             case measure => simp [intOf]; omega)
      · have hke : k = xs.length := by omega
        subst hke
        have hr : (xs == ys) = true := by
          have := HT.out; rw [List.take_length, hle, List.take_length] at this; rw [this]; simp
        have HR := Lib.hid hr; clear hr
        have t1 : decide ((xs.length : Int) < (xs.length : Int)) = false := by simp
        go_wp2
        go_ret
        rw [HR.out]
        exact ⟨rfl, hbw⟩
end Go.Proofs.YtlhfbikhlfgjbaaDoor
/- The walk of the law's few (layer 12). -/
namespace Go.Proofs.YtlhfbikhlfgjbaaDoor
open Go.RowKit
set_option maxRecDepth 100000

def few12 (vs : List (List UInt8)) : Bool := (vs.take 20).all (fun v => decide (v.length ≤ 3000)) && decide (vs.length ≤ 12)
theorem few12_yes {vs : List (List UInt8)} (h : few12 vs = true) : vs.length ≤ 12 ∧ ∀ v ∈ vs, v.length ≤ 3000 := by
  unfold few12 at h
  rw [Bool.and_eq_true, decide_eq_true_eq, List.all_eq_true] at h
  obtain ⟨h1, h2⟩ := h
  rw [List.take_of_length_le (by omega)] at h1
  exact ⟨h2, fun v hv => by simpa using h1 v hv⟩

set_option maxHeartbeats 4000000 in
theorem few12_any (A : Option Addr) (n c : Nat) (vs : List (List UInt8)) (w : World) (hr : Rd A n 1 (strsV vs) w) :
    Calls Tryd.prog 12 #[.slice A n c] w fun e w' => e = .returned (.bool (few12 vs)) ∧ w = w' := by
  obtain rfl := hr.str
  have hbad : ∀ k (h : k < vs.length), k < 20 → 3000 < vs[k].length → few12 vs = false := by
    intro k h h30 hl
    unfold few12
    rw [Bool.and_eq_false_iff]
    left
    rw [List.all_eq_false]
    refine ⟨vs[k], ?_, by simpa using hl⟩
    rw [List.mem_take_iff_getElem]
    exact ⟨k, by omega, rfl⟩
  have hgood : ∀ k, (∀ v ∈ vs.take k, v.length ≤ 3000) → (k = vs.length ∨ 20 ≤ k) → few12 vs = decide ((vs.length : Int) ≤ 12) := by
    intro k h hk
    unfold few12
    rw [show (vs.take 20).all (fun v => decide (v.length ≤ 3000)) = true from by
      rw [List.all_eq_true]; intro v hv
      have : v ∈ vs.take k := by
        rw [List.mem_take_iff_getElem] at hv ⊢
        obtain ⟨i, hi, e⟩ := hv
        exact ⟨i, by omega, e⟩
      simpa using h v this, Bool.true_and]
    rw [Bool.eq_iff_iff]; simp; omega
  have hsn : ∀ k (h : k < vs.length), (∀ v ∈ vs.take k, v.length ≤ 3000) → vs[k].length ≤ 3000 → ∀ v ∈ vs.take (k + 1), v.length ≤ 3000 := by
    intro k h h1 h2 v hv
    rw [List.take_succ_eq_append_getElem h, List.mem_append, List.mem_singleton] at hv
    rcases hv with hv | rfl
    · exact h1 v hv
    · exact h2
  have HR := Lib.hid hr; have HBAD := Lib.hid hbad; have HG := Lib.hid hgood; have HSN := Lib.hid hsn
  clear hr hbad hgood hsn
  generalize few12 vs = out at *
  go_enter Tryd.func12, Tryd.ntmps12
  go_wp2
  go_loopw [3] (fun i wr => ∃ k : Nat, k ≤ vs.length ∧ i = .int .i64 k ∧ Hid (∀ v ∈ vs.take k, v.length ≤ 3000) ∧ k ≤ 20 ∧ wr = w) (fun i _ => vs.length - (intOf i).toNat)
  case atStart => exact ⟨0, Nat.zero_le _, rfl, Lib.hid (by simp), by omega, rfl⟩
  case round =>
    obtain ⟨k, hk, rfl, HE, h30, rfl⟩ := hrel
    by_cases hlt : k < vs.length ∧ k < 20
    · obtain ⟨hlt, hk30⟩ := hlt
      obtain ⟨b, o, rfl, hl, c1⟩ := HR.out.str_at (k := k) hlt
      have hbd := HBAD.out k hlt hk30
      have hsn := HSN.out k hlt HE.out
      have z1 : (⟨(vs[k]).toArray⟩ : ByteArray).size = vs[k].length := by rw [Lib.size_eq]
      generalize vs[k] = v at *
      by_cases hbig : 3000 < v.length
      · have ho := hbd hbig
        subst ho
        clear HBAD HSN HG HE hsn hbd
        go_wp2
        go_ret
        exact ⟨rfl, rfl⟩
      · have HE2 := Lib.hid (hsn (by omega))
        clear HBAD HSN HG HE hsn hbd
        go_wp2
        go_roundw
        case rel => exact ⟨k + 1, by omega, by go_num, HE2, by omega, trivial⟩
        case measure => simp [intOf]; omega
    · have ho := HG.out k HE.out (by omega)
      subst ho
      clear HBAD HSN HG HE
      by_cases hl : k < vs.length
      · go_wp2
        go_ret
        exact ⟨rfl, rfl⟩
      · go_wp2
        go_ret
        exact ⟨rfl, rfl⟩
end Go.Proofs.YtlhfbikhlfgjbaaDoor
/- Fields in a slice that the call made. -/
namespace Go.Proofs.YtlhfbikhlfgjbaaDoor
open Go.RowKit

theorem uFld : (Tryd.prog.info? 45).map (fun i => (i.zero, i.size, i.bytes)) = some (some (.agg #[.string ByteArray.empty, .string ByteArray.empty]), 2, 32) := by kernel_rfl
def OwnF (B : Nat) (v : Value) (fs : List Fld) (w : World) : Prop := w.ownsRow B 45 2 v fs.length (fldsV fs)
theorem OwnF.shape {B : Nat} {v : Value} {fs : List Fld} {w : World} (h : OwnF B v fs w) : ∃ a cap, v = .slice a fs.length cap := by
  rcases h.2 with ⟨rfl, h0⟩ | ⟨g, cap, cur, rfl, _⟩
  · exact ⟨none, 0, by rw [h0]⟩
  · exact ⟨_, _, rfl⟩
theorem OwnF.below {B : Nat} {v : Value} {fs : List Fld} {w w1 : World} (h : OwnF B v fs w) (hb : Below w.heap.size w w1) : OwnF B v fs w1 := own_below h hb
theorem OwnF.drew {B : Nat} {v : Value} {fs : List Fld} {w : World} (h : OwnF B v fs w) : OwnF B v fs w.drew := h
theorem OwnF.nil (B : Nat) (w : World) : OwnF B (.slice none 0 0) [] w := World.ownsRow_nil _ _ _ _
theorem OwnF.rd {B m cap : Nat} {a : Option Addr} {fs : List Fld} {w : World} (h : OwnF B (.slice a m cap) fs w) : m = fs.length ∧ Rd a fs.length 2 (fldsV fs) w := Rd.of_own h
theorem OwnF.base {B B' : Nat} {v : Value} {fs : List Fld} {w : World} (h : OwnF B v fs w) (hB : B' ≤ B) : OwnF B' v fs w := by
  refine ⟨h.1, ?_⟩
  rcases h.2 with h | ⟨g, cp, cur, hv, hg, r⟩
  · exact Or.inl h
  · exact Or.inr ⟨g, cp, cur, hv, by omega, r⟩
theorem app_fld {ops : Array Oper} {rest : List Oper} {o : Oper} {a : Act} {Q : Exit → Act → World → Prop} (B : Nat) (y : Fld) {w : World} {v : Value} {fs : List Fld} (hown : OwnF B v fs w) (hB : B ≤ w.heap.size) (hn : fs.length ≤ 1000000000)
    (hgd : o.guard = none) (s x : Operand) (ho : o.op = .call { callee := .builtin .append, args := #[s, x], argTypes := #[43, 43] })
    (hs : a.eval s = v) (hx : a.eval x = .slice (some ⟨w.heap.size, 0, none⟩) 1 1)
    (hK : ∀ v' w1, OwnF B v' (fs ++ [y]) w1 → Below B w w1 → Far w w1 v v' → wpList Tryd.prog ops Q rest (a.put o.dst v') w1) :
    wpList Tryd.prog ops Q (o :: rest) a (w.alloc (.cells #[.string ⟨y.1.toArray⟩, .string ⟨y.2.toArray⟩] 45)) := by
  refine app_one (z := .agg #[.string ByteArray.empty, .string ByteArray.empty]) (bytes := 32) (n := fs.length) hgd s x 43 45 ho Tryd.underlying43 uFld rfl (by decide) (by decide) B (fldV y) rfl (by intro u hu; simp [fldV] at hu; rcases hu with rfl | rfl <;> rfl) hs hx hown hB hn ?_
  intro v' w1 h1 h2 h3
  refine hK v' w1 ?_ h2 h3
  show World.ownsRow _ _ _ _ _ _ _
  rw [List.length_append, List.length_singleton]
  have : fldsV (fs ++ [y]) = fldsV fs ++ fldV y := by unfold fldsV; simp
  rw [this]
  exact h1
theorem step_fld {ops : Array Oper} {o : Oper} {a : Act} {K : Act → World → Prop} {Q : Exit → Act → World → Prop} {G : Prop} (B : Nat) (y : Fld) {w : World} {v : Value} {fs : List Fld} (hown : OwnF B v fs w) (hB : B ≤ w.heap.size) (hn : fs.length ≤ 1000000000)
    (hgd : o.guard = none) (s x : Operand) (ho : o.op = .call { callee := .builtin .append, args := #[s, x], argTypes := #[43, 43] })
    (hs : a.eval s = v) (hx : a.eval x = .slice (some ⟨w.heap.size, 0, none⟩) 1 1)
    (hK : ∀ v' w1, OwnF B v' (fs ++ [y]) w1 → Below B w w1 → Far w w1 v v' → K (a.put o.dst v') w1) :
    if Region.wanted o (yielded ops a.tmps) = true then Oper.wp Tryd.prog o a (w.alloc (.cells #[.string ⟨y.1.toArray⟩, .string ⟨y.2.toArray⟩] 45)) K Q else G := by
  refine step_app_one (z := .agg #[.string ByteArray.empty, .string ByteArray.empty]) (bytes := 32) (n := fs.length) hgd s x 43 45 ho Tryd.underlying43 uFld rfl (by decide) (by decide) B (fldV y) rfl (by intro u hu; simp [fldV] at hu; rcases hu with rfl | rfl <;> rfl) hs hx hown hB hn ?_
  intro v' w1 h1 h2 h3
  refine hK v' w1 ?_ h2 h3
  show World.ownsRow _ _ _ _ _ _ _
  rw [List.length_append, List.length_singleton]
  have : fldsV (fs ++ [y]) = fldsV fs ++ fldV y := by unfold fldsV; simp
  rw [this]
  exact h1
/-- Fields that are handed back in a slice of the call's own. -/
def FieldsPost (w : World) (fs : List Fld) (e : Ending) (w' : World) : Prop :=
  ∃ a cap, e = .returned (.slice a fs.length cap) ∧ OwnF w.heap.size (.slice a fs.length cap) fs w' ∧ Below w.heap.size w w'
end Go.Proofs.YtlhfbikhlfgjbaaDoor
/- Many fields at once at the end of a row that the call made. -/
namespace Go.Proofs.YtlhfbikhlfgjbaaDoor
open Go.RowKit
set_option maxRecDepth 100000

theorem run_app_none {P : Program} (w : World) (base : Nat) (t ty e : TypeId) (i : TypeInfo) (size c : Nat) (ht : P.underlying t = some (.slice e)) (hi : P.info? e = some i)
    (v : Value) (n : Nat) (xs : List Value) (hown : w.ownsRow base e size v n xs) :
    (Builtin.append_ #[t, t] ty #[v, .slice none 0 c]).run P w = .ok v w := by
  rcases hown.2 with ⟨rfl, rfl⟩ | ⟨g, cap, cur, rfl, _, _, hnc, _⟩
  · simp [Builtin.append_, run_underlying ht, sizeOf, typeInfo, hi, Builtin.lenOf, Builtin.firstCells]
  · simp [Builtin.append_, run_underlying ht, sizeOf, typeInfo, hi, Builtin.lenOf, Builtin.firstCells, hnc, storeCells]
theorem fldsV_one (ys : List Fld) : ∀ u ∈ fldsV ys, u.oneCell' = true := by
  intro u hu
  unfold fldsV at hu
  obtain ⟨f, _, h⟩ := List.mem_flatMap.1 hu
  simp [fldV] at h
  rcases h with rfl | rfl <;> rfl
theorem fldsV_app (xs ys : List Fld) : fldsV (xs ++ ys) = fldsV xs ++ fldsV ys := by unfold fldsV; simp
theorem app_flds {ops : Array Oper} {rest : List Oper} {o : Oper} {a : Act} {Q : Exit → Act → World → Prop} (B : Nat) {w : World} {v : Value} {fs : List Fld} (hown : OwnF B v fs w) (hB : B ≤ w.heap.size)
    {A : Option Addr} {n c : Nat} {ys : List Fld} (hr : Rd A n 2 (fldsV ys) w) (hn : fs.length + n ≤ 1000000000)
    (hgd : o.guard = none) (s x : Operand) (ho : o.op = .call { callee := .builtin .append, args := #[s, x], argTypes := #[43, 43] })
    (hs : a.eval s = v) (hx : a.eval x = .slice A n c)
    (hK : ∀ v' w1, OwnF B v' (fs ++ ys) w1 → Below B w w1 → Far w w1 v v' → wpList Tryd.prog ops Q rest (a.put o.dst v') w1) :
    wpList Tryd.prog ops Q (o :: rest) a w := by
  obtain rfl := hr.fld
  obtain ⟨i0, hi, hz0, hz1, hz2⟩ := info_parts uFld
  have key : ∃ v' w1, (Builtin.append_ #[43, 43] o.type #[v, .slice A ys.length c]).run Tryd.prog w = .ok v' w1 ∧ OwnF B v' (fs ++ ys) w1 ∧ Below B w w1 ∧ Far w w1 v v' := by
    by_cases h0 : A = none
    · subst h0
      have hy : ys.length = 0 := by
        rcases Nat.eq_zero_or_pos ys.length with h | h
        · exact h
        · obtain ⟨b, o', e, _⟩ := hr.2 h; cases e
      have hy2 : ys = [] := List.eq_nil_of_length_eq_zero hy
      subst hy2
      refine ⟨v, w, run_app_none w B _ _ 45 i0 2 c Tryd.underlying43 hi v _ _ hown, by rw [List.append_nil]; exact hown, Below.refl _ _, ⟨⟨rfl, rfl, rfl, Nat.le_refl _, fun _ _ _ => rfl⟩, Or.inl rfl⟩⟩
    · obtain ⟨ad, rfl⟩ := Option.ne_none_iff_exists'.1 h0
      obtain ⟨v', w', hrun, h2, h3, _, h5⟩ := run_append_own_at (P := Tryd.prog) w B 43 o.type 45 i0 (.agg #[.string ByteArray.empty, .string ByteArray.empty]) 2 32 Tryd.underlying43 hi hz0 hz1 hz2 rfl (by decide) v fs.length (fldsV fs) hown ad ys.length c (fldsV ys) (by rw [fldsV_len]) (by
        intro j u hj
        have hjl : j < ys.length * 2 := by have := (List.getElem?_eq_some_iff.1 hj).1; rwa [fldsV_len] at this
        obtain ⟨b, o', e, _, hc⟩ := hr.2 (by omega)
        cases e
        have e2 : (⟨b, o', none⟩ : Addr).add j = ⟨b, o' + j, none⟩ := by unfold Addr.add; split <;> simp_all
        rw [e2]
        exact hc j u hj) (fldsV_one ys) (by unfold maxLen; omega) (by omega) hB
      refine ⟨v', w', hrun, ?_, (Below.refl B w).grown h3 hB (fun k hk => (World.ownsRow.lt hown k hk).1), ⟨h3, ?_⟩⟩
      · unfold OwnF
        rw [List.length_append, fldsV_app]
        exact h2
      · rcases h5 with h | h
        · exact Or.inl h
        · refine Or.inr fun g hg => ?_
          rw [h] at hg
          have := Option.some.inj hg
          omega
  obtain ⟨v', w1, hrun, h1, h2, h3⟩ := key
  refine wpList_plain hgd fun _ hK' => ?_
  unfold Oper.wp execOp
  simp only [ho, resolve, invoke, builtin, Sem.run_bind, Sem.run_pure, Result.andThen_ok, List.map_toArray, List.map_cons, List.map_nil, hs, hx, hrun]
  exact hK' _ _ (hK v' w1 h1 h2 h3)
end Go.Proofs.YtlhfbikhlfgjbaaDoor
/- Many texts at once at the end of a row that the call made. -/
namespace Go.Proofs.YtlhfbikhlfgjbaaDoor
open Go.RowKit
set_option maxRecDepth 100000
theorem strsV_lenM (xs : List (List UInt8)) : (strsV xs).length = xs.length := by unfold strsV; simp
theorem strsV_oneM (ys : List (List UInt8)) : ∀ u ∈ strsV ys, u.oneCell' = true := by
  intro u hu
  unfold strsV at hu
  obtain ⟨f, _, rfl⟩ := List.mem_map.1 hu
  rfl
theorem app_strs {ops : Array Oper} {rest : List Oper} {o : Oper} {a : Act} {Q : Exit → Act → World → Prop} (B : Nat) {w : World} {v : Value} {fs : List (List UInt8)} (hown : OwnS B v fs w) (hB : B ≤ w.heap.size)
    {A : Option Addr} {n c : Nat} {ys : List (List UInt8)} (hr : Rd A n 1 (strsV ys) w) (hn : fs.length + n ≤ 1000000000)
    (hgd : o.guard = none) (s x : Operand) (ho : o.op = .call { callee := .builtin .append, args := #[s, x], argTypes := #[34, 34] })
    (hs : a.eval s = v) (hx : a.eval x = .slice A n c)
    (hK : ∀ v' w1, OwnS B v' (fs ++ ys) w1 → Below B w w1 → Far w w1 v v' → wpList Tryd.prog ops Q rest (a.put o.dst v') w1) :
    wpList Tryd.prog ops Q (o :: rest) a w := by
  obtain rfl := hr.str
  obtain ⟨i0, hi, hz0, hz1, hz2⟩ := info_parts uStr
  have key : ∃ v' w1, (Builtin.append_ #[34, 34] o.type #[v, .slice A ys.length c]).run Tryd.prog w = .ok v' w1 ∧ OwnS B v' (fs ++ ys) w1 ∧ Below B w w1 ∧ Far w w1 v v' := by
    by_cases h0 : A = none
    · subst h0
      have hy : ys.length = 0 := by
        rcases Nat.eq_zero_or_pos ys.length with h | h
        · exact h
        · obtain ⟨b, o', e, _⟩ := hr.2 h; cases e
      have hy2 : ys = [] := List.eq_nil_of_length_eq_zero hy
      subst hy2
      refine ⟨v, w, run_app_none w B _ _ 9 i0 1 c Tryd.underlying34 hi v _ _ hown, by rw [List.append_nil]; exact hown, Below.refl _ _, ⟨⟨rfl, rfl, rfl, Nat.le_refl _, fun _ _ _ => rfl⟩, Or.inl rfl⟩⟩
    · obtain ⟨ad, rfl⟩ := Option.ne_none_iff_exists'.1 h0
      obtain ⟨v', w', hrun, h2, h3, _, h5⟩ := run_append_own_at (P := Tryd.prog) w B 34 o.type 9 i0 (.string ByteArray.empty) 1 16 Tryd.underlying34 hi hz0 hz1 hz2 rfl (by decide) v fs.length (strsV fs) hown ad ys.length c (strsV ys) (by rw [strsV_lenM, Nat.mul_one]) (by
        intro j u hj
        have hjl : j < ys.length := by have := (List.getElem?_eq_some_iff.1 hj).1; rwa [strsV_lenM] at this
        obtain ⟨b, o', e, _, hc⟩ := hr.2 (by omega)
        cases e
        have e2 : (⟨b, o', none⟩ : Addr).add j = ⟨b, o' + j, none⟩ := by unfold Addr.add; split <;> simp_all
        rw [e2]
        exact hc j u hj) (strsV_oneM ys) (by unfold maxLen; omega) (by omega) hB
      refine ⟨v', w', hrun, ?_, (Below.refl B w).grown h3 hB (fun k hk => (World.ownsRow.lt hown k hk).1), ⟨h3, ?_⟩⟩
      · unfold OwnS
        rw [List.length_append, List.map_append]
        exact h2
      · rcases h5 with h | h
        · exact Or.inl h
        · refine Or.inr fun g hg => ?_
          rw [h] at hg
          have := Option.some.inj hg
          omega
  obtain ⟨v', w1, hrun, h1, h2, h3⟩ := key
  refine wpList_plain hgd fun _ hK' => ?_
  unfold Oper.wp execOp
  simp only [ho, resolve, invoke, builtin, Sem.run_bind, Sem.run_pure, Result.andThen_ok, List.map_toArray, List.map_cons, List.map_nil, hs, hx, hrun]
  exact hK' _ _ (hK v' w1 h1 h2 h3)
end Go.Proofs.YtlhfbikhlfgjbaaDoor
/- TextJoins: the plain law: a list put together of tokens and quoted texts is parted into them. -/
namespace Go.Proofs.YtlhfbikhlfgjbaaDoor

def goodQ (q : List UInt8) : Prop := tokenL q = true ∨ ∃ l : List UInt8, l.all plainb = true ∧ q = 34 :: (l.flatMap esc ++ [34])
theorem spl_run : ∀ (l cur : List UInt8) (ls : List (List UInt8)) (rest : List UInt8), (∀ c ∈ l, (c.toNat == 34) = false ∧ (c.toNat == 44) = false) →
    splP 44 false false cur ls (l ++ rest) = splP 44 false false (cur ++ l) ls rest
  | [], cur, ls, rest, _ => by simp
  | c :: r, cur, ls, rest, h => by
    have hc := h c (by simp)
    rw [List.cons_append, splP, hc.1, show (44 : UInt8).toNat = 44 from rfl, hc.2]
    simp only [cond_false, Bool.false_and]
    rw [spl_run r (cur ++ [c]) ls rest (fun x hx => h x (by simp [hx]))]
    simp
theorem spl_in : ∀ (l cur : List UInt8) (ls : List (List UInt8)) (rest : List UInt8), splP 44 true false cur ls (l.flatMap esc ++ rest) = splP 44 true false (cur ++ l.flatMap esc) ls rest
  | [], cur, ls, rest => by simp
  | c :: r, cur, ls, rest => by
    have ih := spl_in r
    rw [List.flatMap_cons]
    cases h34 : (c.toNat == 34) <;> cases h92 : (c.toNat == 92)
    · have he : esc c = [c] := by simp [esc, h34, h92]
      rw [he, List.append_assoc, List.singleton_append, splP, h34, h92]
      simp only [cond_false, Bool.and_false, Bool.not_true]
      rw [ih]; simp
    all_goals
      have he : esc c = [92, c] := by simp [esc, h34, h92]
      rw [he, List.append_assoc, List.cons_append, List.singleton_append, splP]
      simp only [cond_false, cond_true, Bool.true_and, show ((92 : UInt8).toNat == 92) = true from rfl]
      rw [splP, cond_true, ih]; simp
theorem spl_item {q : List UInt8} (h : goodQ q) (cur : List UInt8) (ls : List (List UInt8)) (rest : List UInt8) : splP 44 false false cur ls (q ++ rest) = splP 44 false false (cur ++ q) ls rest := by
  rcases h with h | ⟨l, _, rfl⟩
  · refine spl_run q cur ls rest fun c hc => ?_
    have hw := (token_all h).1 c hc
    refine ⟨(word_not hw).2.1, ?_⟩
    cases hb : (c.toNat == 44)
    · rfl
    · have : c = 44 := by rw [← UInt8.toNat_inj]; simpa using hb
      subst this; exact absurd hw (by decide)
  · rw [List.cons_append, List.append_assoc, splP]
    simp only [cond_false, Bool.false_and, show ((34 : UInt8).toNat == 34) = true from rfl, cond_true, Bool.not_false]
    rw [spl_in, List.singleton_append, splP]
    simp
theorem spl_comma (cur : List UInt8) (ls : List (List UInt8)) (rest : List UInt8) : splP 44 false false cur ls (44 :: rest) = splP 44 false false [] (addP ls (trimL cur)) rest := by
  rw [splP]; simp
theorem dw_app (p : UInt8 → Bool) : ∀ (g x : List UInt8), (∀ c ∈ g, p c = true) → (g ++ x).dropWhile p = x.dropWhile p
  | [], _, _ => rfl
  | c :: r, x, h => by rw [List.cons_append, List.dropWhile_cons_of_pos (h c (by simp)), dw_app p r x (fun y hy => h y (by simp [hy]))]
theorem good_ends {q : List UInt8} (h : goodQ q) : (∃ x y, q = x :: y ∧ blanks.contains x = false) ∧ ∃ x y, q.reverse = x :: y ∧ blanks.contains x = false := by
  rcases h with h | ⟨l, _, rfl⟩
  · have ht := token_all h
    constructor
    · cases q with
      | nil => exact absurd ht.2 (by decide)
      | cons x y => exact ⟨x, y, rfl, (word_not (ht.1 x (by simp))).1⟩
    · cases hr : q.reverse with
      | nil => rw [List.reverse_eq_nil_iff] at hr; subst hr; exact absurd ht.2 (by decide)
      | cons x y => exact ⟨x, y, rfl, (word_not (ht.1 x (by rw [← List.mem_reverse, hr]; simp))).1⟩
  · exact ⟨⟨34, _, rfl, by decide⟩, ⟨34, (l.flatMap esc).reverse ++ [34], by simp, by decide⟩⟩
theorem trim_good {q g g2 : List UInt8} (h : goodQ q) (hg : ∀ c ∈ g, blanks.contains c = true) (hg2 : ∀ c ∈ g2, blanks.contains c = true) : trimL ((g ++ q) ++ g2) = q := by
  obtain ⟨⟨x, y, e1, b1⟩, ⟨x2, y2, e2, b2⟩⟩ := good_ends h
  unfold trimL Lib.trimS Lib.trimLeftS Lib.trimRightS
  rw [List.reverse_append, dw_app _ _ _ (fun c hc => hg2 c (by simpa using hc)), List.reverse_append, e2, List.cons_append, List.dropWhile_cons_of_neg (by simp only [b2]; decide), ← List.cons_append, ← e2, ← List.reverse_append, List.reverse_reverse,
    dw_app _ _ _ hg, e1, List.dropWhile_cons_of_neg (by simp only [b1]; decide)]
theorem trim_blank (g : List UInt8) (hg : ∀ c ∈ g, blanks.contains c = true) : trimL g = [] := by
  unfold trimL Lib.trimS Lib.trimLeftS Lib.trimRightS
  have : g.reverse.dropWhile (fun x => blanks.contains x) = [] := by
    have := dw_app (fun x => blanks.contains x) g.reverse [] (fun c hc => hg c (by simpa using hc))
    rw [List.append_nil] at this; exact this
  rw [this]; rfl
theorem blank_not {c : UInt8} (h : blanks.contains c = true) : (c.toNat == 34) = false ∧ (c.toNat == 44) = false := by
  have : c = 32 ∨ c = 9 := by simpa [blanks] using h
  rcases this with e | e <;> subst e <;> exact ⟨rfl, rfl⟩
theorem addP_good {q : List UInt8} (h : goodQ q) (ls : List (List UInt8)) : addP ls q = ls ++ [q] := by
  obtain ⟨⟨x, y, rfl, _⟩, _⟩ := good_ends h
  rfl
theorem spl_tail (g : List UInt8) (hg : ∀ c ∈ g, blanks.contains c = true) : ∀ (r : List (List UInt8)) (q : List UInt8) (ls : List (List UInt8)), goodQ q → (∀ x ∈ r, goodQ x) →
    splP 44 false false (g ++ q) ls (Lib.joinTail (g ++ [44] ++ g) r ++ (g ++ [44])) = some (ls ++ q :: r)
  | [], q, ls, hq, _ => by
    have hr : Lib.joinTail (g ++ [44] ++ g) [] = [] := rfl
    rw [hr, List.nil_append, spl_run g _ _ _ (fun c hc => blank_not (hg c hc)), spl_comma, trim_good hq hg hg, addP_good hq]
    rfl
  | x :: r, q, ls, hq, hr => by
    have ih := spl_tail g hg r x (ls ++ [q]) (hr x (by simp)) (fun y hy => hr y (by simp [hy]))
    have hj : Lib.joinTail (g ++ [44] ++ g) (x :: r) = g ++ (44 :: (g ++ (x ++ Lib.joinTail (g ++ [44] ++ g) r))) := by
      simp [Lib.joinTail]
    rw [hj, List.append_assoc, spl_run g _ _ _ (fun c hc => blank_not (hg c hc)), List.cons_append, spl_comma, trim_good hq hg hg, addP_good hq, List.append_assoc, spl_run g _ _ _ (fun c hc => blank_not (hg c hc)), List.append_assoc, spl_item (hr x (by simp)), List.nil_append, ih]
    simp
theorem split_joined (g : List UInt8) (hg : ∀ c ∈ g, blanks.contains c = true) (ws : List (List UInt8)) (h : ∀ x ∈ ws, goodQ x) (hn : ws.length ≤ 64) :
    splitL 44 (((g ++ Lib.join ws (g ++ [44] ++ g)) ++ g) ++ [44]) = (ws, 0) := by
  have key : splP 44 false false [] [] (((g ++ Lib.join ws (g ++ [44] ++ g)) ++ g) ++ [44]) = some ws := by
    cases ws with
    | nil =>
      rw [Lib.join_nil, List.append_nil]
      have : (g ++ g) ++ [44] = (g ++ g) ++ (44 :: []) := rfl
      rw [this, spl_run (g ++ g) _ _ _ (fun c hc => blank_not (hg c (by simpa using hc))), spl_comma, List.nil_append, trim_blank _ (fun c hc => hg c (by simpa using hc))]
      rfl
    | cons q r =>
      have e : ((g ++ Lib.join (q :: r) (g ++ [44] ++ g)) ++ g) ++ [44] = g ++ (q ++ (Lib.joinTail (g ++ [44] ++ g) r ++ (g ++ [44]))) := by
        rw [Lib.join_cons]; simp
      rw [e, spl_run g _ _ _ (fun c hc => blank_not (hg c hc)), spl_item (h q (by simp)), List.nil_append, spl_tail g hg r q [] (h q (by simp)) (fun x hx => h x (by simp [hx]))]
      rfl
  unfold splitL
  rw [key, show ((44 : UInt8).toNat == 34 || (44 : UInt8).toNat == 92) = false from rfl]
  have : decide (64 < ws.length) = false := by simp; omega
  simp only [splitE, cond_false, this]
theorem repeat_blank (c : UInt8) (hc : blanks.contains c = true) : ∀ n, ∀ x ∈ Lib.repeatL [c] n, blanks.contains x = true
  | 0, x, h => by simp [Lib.repeatL] at h
  | n + 1, x, h => by
    rw [Lib.repeatL, List.singleton_append, List.mem_cons] at h
    rcases h with rfl | h
    · exact hc
    · exact repeat_blank c hc n x h
theorem good_quote {s : ByteArray} {q : List UInt8} (h : quoteO s = some q) : goodQ q := by
  unfold quoteO at h
  cases hp : s.data.toList.all plainb <;> rw [hp] at h <;> simp at h
  exact Or.inr ⟨_, hp, h.symm⟩
end Go.Proofs.YtlhfbikhlfgjbaaDoor
