/- The walk of directive.List. -/
import Derived.Test.YtfoabdpfadgafaaDoorEach
import Derived.Maps.AppendAt
namespace Go.Proofs.YtfoabdpfadgafaaDoor
open Go.RowKit Go.Shelf
set_option maxRecDepth 100000
attribute [local go_sem] Oper.semAt_some

theorem app_dirIn {F : Fence} {m : Nat} {ops : Array Oper} {rest : List Oper} {o : Oper} {a : Act} {Q : Exit → Act → World → Prop} (B : Nat) (d : Dir) {w : World} {v : Value} {ds : List Dir} (hown : OwnD B v ds w) (hB : B ≤ w.heap.size) (hn : ds.length ≤ 1000000000)
    (hgd : o.guard = none) (s x : Operand) (ho : o.op = .call { callee := .builtin .append, args := #[s, x], argTypes := #[26, 26] })
    (hs : a.eval s = v) (hx : a.eval x = .slice (some ⟨w.heap.size, 0, none⟩) 1 1)
    (hK : ∀ v' w1, OwnD B v' (ds ++ [d]) w1 → Below B w w1 → Far w w1 v v' → wpListIn F m Tryd.prog ops Q rest (a.put o.dst v') w1) :
    wpListIn F m Tryd.prog ops Q (o :: rest) a (w.alloc (.cells #[.string ⟨d.name.toArray⟩, .string ⟨d.value.toArray⟩, .bool d.has, .string ⟨d.for_.toArray⟩] 29)) := by
  obtain ⟨i0, hi, hz0, hz1, hz2⟩ := info_parts uDir
  refine wpListIn_plain hgd fun K hK' => ?_
  obtain ⟨v', w', hrun, h2, h3, _, h5⟩ := run_append_own_at (P := Tryd.prog) (w.alloc (.cells #[.string ⟨d.name.toArray⟩, .string ⟨d.value.toArray⟩, .bool d.has, .string ⟨d.for_.toArray⟩] 29)) B 26 o.type 29 i0 (.agg #[.string ByteArray.empty, .string ByteArray.empty, .bool false, .string ByteArray.empty]) 4 56 Tryd.underlying26 hi hz0 hz1 hz2 rfl (by decide) v ds.length (dirsV ds) (World.ownsRow.alloc hown _) ⟨w.heap.size, 0, none⟩ 1 1 (dirV d) rfl (by
    intro j u hj
    have e : (⟨w.heap.size, 0, none⟩ : Addr).add j = ⟨w.heap.size, j, none⟩ := by unfold Addr.add; split <;> simp_all
    rw [e, World.cell?_alloc_mark, ← hj]; simp [dirV]) (dirV_one d) (by unfold maxLen; omega) (by omega) (by simp; omega)
  have hfar : Far w w' v v' := far_alloc (o := .cells #[.string ⟨d.name.toArray⟩, .string ⟨d.value.toArray⟩, .bool d.has, .string ⟨d.for_.toArray⟩] 29) ⟨h3, by
    rcases h5 with h | h
    · exact Or.inl h
    · refine Or.inr fun g hg => ?_
      rw [h] at hg
      have := Option.some.inj hg
      omega⟩
  unfold Oper.wpIn
  refine ⟨?_, ?_⟩
  · simp [Oper.about, ho, resolve, Target.leads, Sem.run_pure]
  · rw [Oper.semAt_plain F _ _ (by rw [ho]; intro c hc'; cases hc')]
    simp [execOp, ho, resolve, invoke, builtin, hs, hx, hrun, Result.andThen]
    refine hK' _ _ (hK v' w' ?_ ((Below.refl B w).grown hfar.1 hB (fun k hk => (World.ownsRow.lt hown k hk).1)) hfar)
    unfold OwnD
    rw [List.length_append, dirsV_snoc]
    exact h2

theorem each_any (A : Option Addr) (n c : Nat) (w : World) :
    Calls Tryd.prog 37 #[.slice A n c] w fun e w' => e = .returned (.func (.func 66) #[] #[.pointer (some ⟨w.heap.size, 0, none⟩)]) ∧ w' = w.alloc (.cells #[.slice A n c] 22) := by
  go_enter Tryd.func37, Tryd.ntmps37
  go_wp2
  go_ret
  exact ⟨rfl, rfl⟩

/-- What lies between two rounds: the box, the row that it leads to. -/
def DI (w : World) (pre : List Dir) (W : World) : Prop := ∃ v, W.heap[w.heap.size]? = some (.cells #[v] 26 (0, 0)) ∧ OwnD (w.heap.size + 2) v pre W ∧ Below w.heap.size w W ∧ w.heap.size + 2 ≤ W.heap.size
theorem DI.own {w : World} {B : Nat} (hB : w.heap.size ≤ B) : OwnFrom B (DI w) := by
  rintro pre W W' row ⟨v, h1, h2, h3, h4⟩ hg hr
  have hne : ∀ (b : Nat) (cur : Array Value) (e : TypeId) (fz : Nat × Nat), W.heap[b]? = some (.cells cur e fz) → W'.heap[b]? = some (.cells cur e fz) := by
    intro b cur e fz hb
    rw [hg.block b (heap_lt hb) (fun x => by
      obtain ⟨_, o, ho, hc⟩ := hr b x.symm
      rw [hb] at ho; cases ho; cases hc)]
    exact hb
  refine ⟨v, hne _ _ _ _ h1, ?_, h3.trans ((Below.refl w.heap.size W).grown hg h3.size (fun k hk => ?_)), Nat.le_trans h4 hg.size⟩
  · obtain ⟨g1, g2⟩ := h2
    refine ⟨g1, ?_⟩
    rcases g2 with g2 | ⟨g, cap, cur, hv, hgg, hh, r⟩
    · exact Or.inl g2
    · exact Or.inr ⟨g, cap, cur, hv, hgg, hne _ _ _ _ hh, r⟩
  · exact Nat.le_trans hB (hr k hk).1

set_option maxHeartbeats 8000000 in
theorem dlist_any (A : Option Addr) (n c : Nat) (vs : List (List UInt8)) (w : World) (hM : MaxL w) (hr : Rd A n 1 (strsV vs) w) (hn : n ≤ 10000) (hl : ∀ v ∈ vs, v.length ≤ 1000000) :
    Calls Tryd.prog 16 #[.slice A n c] w (DirsPost w (dlistL vs)) := by
  refine (callsIn_wide (n := 6)).1 ?_
  refine callsIn_of_wp_marks Tryd.func16 rfl trivial ?_ rfl
  simp only [Tryd.ntmps16, List.size_toArray, List.length_cons, List.length_nil, Nat.reduceAdd, Nat.reduceSub, Array.replicate_succ, Array.replicate_zero, List.push_toArray, List.append_toArray, List.nil_append, List.cons_append]
  obtain rfl := hr.str
  obtain ⟨W2, hW2⟩ : ∃ W2, (w.alloc (.cells #[.slice none 0 0] 26)).alloc (.cells #[.slice A vs.length c] 22) = W2 := ⟨_, rfl⟩
  have hB2 : Below w.heap.size w W2 := by rw [← hW2]; exact ((Below.refl _ w).alloc (Nat.le_refl _) _).alloc (by simp) _
  have z2 : W2.heap.size = w.heap.size + 2 := by rw [← hW2]; simp
  have hbox : W2.cell? ⟨w.heap.size + 1, 0, none⟩ = some (.slice A vs.length c) := by
    rw [← hW2]
    have := World.cell?_alloc_mark (w.alloc (.cells #[.slice none 0 0] 26)) #[.slice A vs.length c] 22 (0, 0) 0
    rw [World.size_alloc] at this
    exact this
  have hL2 : W2.heap[w.heap.size]? = some (.cells #[.slice none 0 0] 26 (0, 0)) := by
    rw [← hW2]
    exact (Below.heap_alloc _ _ _ (by simp)).trans (World.alloc_heap_new w _)
  have hLc : W2.cell? ⟨w.heap.size, 0, none⟩ = some (.slice none 0 0) := (of_heap hL2 0).1
  have hrow : RowIn W2.heap.size w.heap.size W2 := by
    rintro g ⟨v, hv, hg⟩
    rw [hLc] at hv
    cases hv
    cases hg
  have hAA : 0 < vs.length → ∀ b o, A = some ⟨b, o, none⟩ → b < W2.heap.size ∧ b ≠ w.heap.size := by
    intro h b o e
    obtain ⟨b', o', e', hl', _⟩ := hr.2 h
    rw [e] at e'
    cases e'
    exact ⟨by omega, by omega⟩
  have hseq : SeqStopsK Fence.wide (6 - 1) Tryd.prog 66 #[.pointer (some ⟨w.heap.size + 1, 0, none⟩)] (fun d : Dir => #[dirA d]) (KpRow w.heap.size) (fun ys => ys = dlistL vs) (fun _ => True) (64 * vs.length) W2 :=
    fun l J Jx W hW hJ _ hY h0 => each1_in w.heap.size (w.heap.size + 1) A vs.length c vs W2 (hM.below hB2) (by omega) (Nat.ne_of_lt hM.1) (by omega) hbox (hr.below hB2) hAA hrow (by omega) hl 5 (by decide) l J Jx W hW hJ hY h0
  have HSEQ := Lib.hid hseq; have HW2 := Lib.hid hW2; have HL2 := Lib.hid hL2
  clear hseq hbox hrow hAA hr hl hM hLc hW2 hL2
  gi_wp2_with (refine ⟨trivial, ?_⟩; gi_at_call 37; refine (callsIn_wide.2 (each_any _ _ _ _)).mono ?_; rintro e w' ⟨rfl, rfl⟩)
  rw [HW2.out]
  refine wpIn_rangeFunc_ownH rfl (by decide) (gf := 66) (lb := #[.pointer (some ⟨w.heap.size + 1, 0, none⟩)]) rfl trivial (enters_of Tryd.func66 (by kernel_rfl) rfl)
    HSEQ.out KpRow.trans (fun W l o o' h1 h2 h3 _ => KpRow.putObj o' h2 h3 (by omega)) (Below.refl _ _) (fun _ => rfl)
    (DI w) (fun _ _ _ => False) (DI.own (by omega)) (fun _ _ _ _ _ hs _ _ => hs) ⟨_, HL2.out, OwnD.nil _ _, hB2, by omega⟩
    (fun x a' W => ∃ Bx, w.heap.size + 1 < Bx ∧ W.heap[Bx]? = some (.cells #[.string ⟨x.name.toArray⟩, .string ⟨x.value.toArray⟩, .bool x.has, .string ⟨x.for_.toArray⟩] 29 (0, 0)) ∧ a' = { tmps := #[.slice A vs.length c, undef, .slice none 0 0, .pointer (some ⟨w.heap.size, 0, none⟩), .pointer (some ⟨Bx, 0, none⟩), .slice A vs.length c, .func (.func 66) #[] #[.pointer (some ⟨w.heap.size + 1, 0, none⟩)], dirA x, undef, undef, undef, undef, undef], defers := [] })
    (fun x a' _ X Y row hs hg hr => by
      obtain ⟨Bx, h1, h2, h3⟩ := hs
      refine ⟨Bx, h1, ?_, h3⟩
      rw [hg.block Bx (heap_lt h2) (fun e => by
        obtain ⟨_, o, ho, hc⟩ := hr Bx e.symm
        rw [h2] at ho; cases ho; cases hc)]
      exact h2)
    ?assign ?body ?done ?stop
  case assign =>
    rintro l pre x W K ⟨v, h1, h2, h3, h4⟩ hK
    obtain ⟨dn, dv, dh, df⟩ := x
    unfold dirA at *
    gi_wp2
    have hal := (Below.refl W.heap.size W).alloc (Nat.le_refl _) (.cells #[.string ⟨dn.toArray⟩, .string ⟨dv.toArray⟩, .bool dh, .string ⟨df.toArray⟩] 29)
    refine hK _ _ ((KeepsOthers.alloc _ _).from _) (KpRow.alloc _ W _ (heap_lt h1)) ⟨v, (hal.block _ (heap_lt h1)).trans h1, h2.below hal, h3.trans (hal.mono h3.size), by simp; omega⟩ ⟨W.heap.size, by omega, World.alloc_heap_new W _, rfl⟩
  case body =>
    rintro l pre x a' W hl _ ⟨v, h1, h2, h3, h4⟩ ⟨Bx, hBx, bX, rfl⟩ hlt
    obtain ⟨dn, dv, dh, df⟩ := x
    unfold dirA
    obtain ⟨e0, e1, _⟩ := of_heap h1 0
    have e0' : W.cell? ⟨w.heap.size, 0, none⟩ = some v := e0
    have x0 := (of_heap bX 0).1
    have x1 := (of_heap bX 1).1
    have x2 := (of_heap bX 2).1
    have x3 := (of_heap bX 3).1
    have y0 : W.cell? ⟨Bx, 0, none⟩ = some (.string ⟨dn.toArray⟩) := x0
    have y1 : W.cell? ⟨Bx, 1, none⟩ = some (.string ⟨dv.toArray⟩) := x1
    have y2 : W.cell? ⟨Bx, 2, none⟩ = some (.bool dh) := x2
    have y3 : W.cell? ⟨Bx, 3, none⟩ = some (.string ⟨df.toArray⟩) := x3
    have hpl : pre.length ≤ 1000000000 := by omega
    obtain ⟨va, vc, rfl⟩ := h2.shape
    have HO := Lib.hid h2; have H1 := Lib.hid h1; have H3 := Lib.hid h3
    clear x0 x1 x2 x3 e0 h1 h2 h3 bX
    gi_wp2_with (gi_at_builtin; refine app_dirIn (w.heap.size + 2) ⟨dn, dv, dh, df⟩ HO.out h4 hpl rfl _ _ rfl rfl rfl ?_; intro v' w1 hO' hb' hfar'; obtain ⟨va', vc', rfl⟩ := hO'.shape; have t0 := (hb'.cell (p := ⟨w.heap.size, 0, none⟩) (by show w.heap.size < _; omega)).trans e0'; have t1 := (hb'.frozen (p := ⟨w.heap.size, 0, none⟩) (by show w.heap.size < _; omega)).trans e1)
    have hll : (pre ++ [(⟨dn, dv, dh, df⟩ : Dir)]).length = pre.length + 1 := by simp
    rw [hll] at hO' hfar'
    clear hll
    have hne : (Value.slice va pre.length vc).ownBlock ≠ some w.heap.size := fun h => by
      have := (World.ownsRow.lt HO.out _ h).1; omega
    have hkp := KpRow.stored hfar' e0' (fun g hg => (World.ownsRow.lt hO' g hg).2) (by omega) hne
    have hko : KeepsFrom W2.heap.size W (w1.setCell ⟨w.heap.size, 0, none⟩ (.slice va' (pre.length + 1) vc')) := by
      refine (KeepsOthers.trans (KeepsOthers.of_grownBy hfar'.1 (fun j o hj ho => ?_)) (KeepsOthers.setCell w1 ⟨w.heap.size, 0, none⟩ _)).from _
      rcases HO.out.2 with ⟨hv, _⟩ | ⟨g, cp, cur, hv, _, hh, _⟩
      · rw [hv] at hj; cases hj
      · rw [hv] at hj; cases hj
        rw [hh] at ho; cases ho; rfl
    have h1' : (w1.setCell ⟨w.heap.size, 0, none⟩ (.slice va' (pre.length + 1) vc')).heap[w.heap.size]? = some (.cells #[.slice va' (pre.length + 1) vc'] 26 (0, 0)) := heap_set ((hb'.block _ (by omega)).trans H1.out)
    have h2' : OwnD (w.heap.size + 2) (.slice va' (pre.length + 1) vc') (pre ++ [(⟨dn, dv, dh, df⟩ : Dir)]) (w1.setCell ⟨w.heap.size, 0, none⟩ (.slice va' (pre.length + 1) vc')) := ownsRow_setCell_below (a := ⟨w.heap.size, 0, none⟩) hO' (by show w.heap.size < w.heap.size + 2; omega) _
    have h3' := (H3.out.trans (hb'.mono (by omega))).setCell (p := ⟨w.heap.size, 0, none⟩) (Nat.le_refl _) (.slice va' (pre.length + 1) vc')
    have h4' : w.heap.size + 2 ≤ (w1.setCell ⟨w.heap.size, 0, none⟩ (.slice va' (pre.length + 1) vc')).heap.size := by have := hb'.size; simp; omega
    exact ⟨hko, hkp, _, h1', h2', h3', h4'⟩
  case done =>
    rintro D ys W hD rfl ⟨v, h1, h2, h3, h4⟩ hK
    obtain ⟨va, vc, rfl⟩ := h2.shape
    have e0 : W.cell? ⟨w.heap.size, 0, none⟩ = some (.slice va (dlistL vs).length vc) := (of_heap h1 0).1
    gi_wp2
    refine ⟨by simp, .inl ⟨_, _, rfl, run_takeDeferred hK, ?_⟩⟩
    exact ⟨_, results_tmp rfl _ _ _, va, vc, rfl, OwnD.base (ownsRow_putObj h2 _ hK rfl) (by omega), h3.trans (belowK_b (w := w) (Nat.le_refl _) W D _ _ (by omega) hK rfl rfl)⟩
  case stop =>
    rintro D c pre W _ _ h _
    exact h.elim
end Go.Proofs.YtfoabdpfadgafaaDoor
