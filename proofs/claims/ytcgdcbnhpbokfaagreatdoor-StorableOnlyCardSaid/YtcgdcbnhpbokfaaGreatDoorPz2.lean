/- Joined out of the texts DList, RTok, QuoteR, Say, RSame, RFind, Find, Told, Awake11, OpenT, OpenD, FindsA, FewD, RTrim, SplitR, RDList, TokLow, JoinsD, SurSaid, ManyD, SurList, SurMine, SurWord, Delta, SurDo, SurOf (wip/tools/dce.py). -/
import Derived.Test.YtcgdcbnhpbokfaaGreatDoorPz1
import Derived.Maps.AppendAt
import Derived.Laws.ResultCell
import Derived.Deep.RegionHeld3
import Derived.OpenShut
import Derived.SizedLaws
import Derived.Deep.Slices
import Derived.SliceStrings
import Derived.ChangeSame
import Derived.IntWalk
import Derived.Deep.OwnRows
import Derived.ArgAppend
import Derived.Laws.OwnMore
import Derived.Laws.EntriesVeiled
import Derived.Lib.FieldsP
import Derived.Lib.SlicesS
/- The walk of directive.List. -/
namespace Go.Proofs.YtcgdcbnhpbokfaaGreatDoor
open Go.RowKit Go.Shelf
set_option maxRecDepth 100000
attribute [local go_sem] Oper.semAt_some

theorem app_dirIn {F : Fence} {m : Nat} {ops : Array Oper} {rest : List Oper} {o : Oper} {a : Act} {Q : Exit → Act → World → Prop} (B : Nat) (d : Dir) {w : World} {v : Value} {ds : List Dir} (hown : OwnD B v ds w) (hB : B ≤ w.heap.size) (hn : ds.length ≤ 1000000000)
    (hgd : o.guard = none) (s x : Operand) (ho : o.op = .call { callee := .builtin .append, args := #[s, x], argTypes := #[81, 81] })
    (hs : a.eval s = v) (hx : a.eval x = .slice (some ⟨w.heap.size, 0, none⟩) 1 1)
    (hK : ∀ v' w1, OwnD B v' (ds ++ [d]) w1 → Below B w w1 → Far w w1 v v' → wpListIn F m Tryz.prog ops Q rest (a.put o.dst v') w1) :
    wpListIn F m Tryz.prog ops Q (o :: rest) a (w.alloc (.cells #[.string ⟨d.name.toArray⟩, .string ⟨d.value.toArray⟩, .bool d.has, .string ⟨d.for_.toArray⟩] 84)) := by
  obtain ⟨i0, hi, hz0, hz1, hz2⟩ := info_parts uDir
  refine wpListIn_plain hgd fun K hK' => ?_
  obtain ⟨v', w', hrun, h2, h3, _, h5⟩ := run_append_own_at (P := Tryz.prog) (w.alloc (.cells #[.string ⟨d.name.toArray⟩, .string ⟨d.value.toArray⟩, .bool d.has, .string ⟨d.for_.toArray⟩] 84)) B 81 o.type 84 i0 (.agg #[.string ByteArray.empty, .string ByteArray.empty, .bool false, .string ByteArray.empty]) 4 56 Tryz.underlying81 hi hz0 hz1 hz2 rfl (by decide) v ds.length (dirsV ds) (World.ownsRow.alloc hown _) ⟨w.heap.size, 0, none⟩ 1 1 (dirV d) rfl (by
    intro j u hj
    have e : (⟨w.heap.size, 0, none⟩ : Addr).add j = ⟨w.heap.size, j, none⟩ := by unfold Addr.add; split <;> simp_all
    rw [e, World.cell?_alloc_mark, ← hj]; simp [dirV]) (dirV_one d) (by unfold maxLen; omega) (by omega) (by simp; omega)
  have hfar : Far w w' v v' := far_alloc (o := .cells #[.string ⟨d.name.toArray⟩, .string ⟨d.value.toArray⟩, .bool d.has, .string ⟨d.for_.toArray⟩] 84) ⟨h3, by
    rcases h5 with h | h
    · exact Or.inl h
    · refine Or.inr fun g hg => ?_
      rw [h] at hg
      have := Option.some.inj hg
      omega⟩
  unfold Oper.wpIn
  refine ⟨?_, ?_⟩
  · simp [Oper.about, ho, resolve, Target.leads, Sem.run_pure]
  · rw [Oper.semAt_plain F _ _ (by rw [ho]; intro c hc'; cases hc')]
    simp [execOp, ho, resolve, invoke, builtin, hs, hx, hrun, Result.andThen]
    refine hK' _ _ (hK v' w' ?_ ((Below.refl B w).grown hfar.1 hB (fun k hk => (World.ownsRow.lt hown k hk).1)) hfar)
    unfold OwnD
    rw [List.length_append, dirsV_snoc]
    exact h2

theorem each_any (A : Option Addr) (n c : Nat) (w : World) :
    Calls Tryz.prog 123 #[.slice A n c] w fun e w' => e = .returned (.func (.func 162) #[] #[.pointer (some ⟨w.heap.size, 0, none⟩)]) ∧ w' = w.alloc (.cells #[.slice A n c] 46) := by
  go_enter Tryz.func123, Tryz.ntmps123
  go_wp2
  go_ret
  exact ⟨rfl, rfl⟩

/-- What lies between two rounds: the box, the row that it leads to. -/
def DI (w : World) (pre : List Dir) (W : World) : Prop := ∃ v, W.heap[w.heap.size]? = some (.cells #[v] 81 (0, 0)) ∧ OwnD (w.heap.size + 2) v pre W ∧ Below w.heap.size w W ∧ w.heap.size + 2 ≤ W.heap.size
theorem DI.own {w : World} {B : Nat} (hB : w.heap.size ≤ B) : OwnFrom B (DI w) := by
  rintro pre W W' row ⟨v, h1, h2, h3, h4⟩ hg hr
  have hne : ∀ (b : Nat) (cur : Array Value) (e : TypeId) (fz : Nat × Nat), W.heap[b]? = some (.cells cur e fz) → W'.heap[b]? = some (.cells cur e fz) := by
    intro b cur e fz hb
    rw [hg.block b (heap_lt hb) (fun x => by
      obtain ⟨_, o, ho, hc⟩ := hr b x.symm
      rw [hb] at ho; cases ho; cases hc)]
    exact hb
  refine ⟨v, hne _ _ _ _ h1, ?_, h3.trans ((Below.refl w.heap.size W).grown hg h3.size (fun k hk => ?_)), Nat.le_trans h4 hg.size⟩
  · obtain ⟨g1, g2⟩ := h2
    refine ⟨g1, ?_⟩
    rcases g2 with g2 | ⟨g, cap, cur, hv, hgg, hh, r⟩
    · exact Or.inl g2
    · exact Or.inr ⟨g, cap, cur, hv, hgg, hne _ _ _ _ hh, r⟩
  · exact Nat.le_trans hB (hr k hk).1

set_option maxHeartbeats 8000000 in
theorem dlist_any (A : Option Addr) (n c : Nat) (vs : List (List UInt8)) (w : World) (hM : MaxL w) (hr : Rd A n 1 (strsV vs) w) (hn : n ≤ 10000) (hl : ∀ v ∈ vs, v.length ≤ 1000000) :
    Calls Tryz.prog 64 #[.slice A n c] w (DirsPost w (dlistL vs)) := by
  refine (callsIn_wide (n := 6)).1 ?_
  refine callsIn_of_wp_marks Tryz.func64 rfl trivial ?_ rfl
  simp only [Tryz.ntmps64, List.size_toArray, List.length_cons, List.length_nil, Nat.reduceAdd, Nat.reduceSub, Array.replicate_succ, Array.replicate_zero, List.push_toArray, List.append_toArray, List.nil_append, List.cons_append]
  obtain rfl := hr.str
  obtain ⟨W2, hW2⟩ : ∃ W2, (w.alloc (.cells #[.slice none 0 0] 81)).alloc (.cells #[.slice A vs.length c] 46) = W2 := ⟨_, rfl⟩
  have hB2 : Below w.heap.size w W2 := by rw [← hW2]; exact ((Below.refl _ w).alloc (Nat.le_refl _) _).alloc (by simp) _
  have z2 : W2.heap.size = w.heap.size + 2 := by rw [← hW2]; simp
  have hbox : W2.cell? ⟨w.heap.size + 1, 0, none⟩ = some (.slice A vs.length c) := by
    rw [← hW2]
    have := World.cell?_alloc_mark (w.alloc (.cells #[.slice none 0 0] 81)) #[.slice A vs.length c] 46 (0, 0) 0
    rw [World.size_alloc] at this
    exact this
  have hL2 : W2.heap[w.heap.size]? = some (.cells #[.slice none 0 0] 81 (0, 0)) := by
    rw [← hW2]
    exact (Below.heap_alloc _ _ _ (by simp)).trans (World.alloc_heap_new w _)
  have hLc : W2.cell? ⟨w.heap.size, 0, none⟩ = some (.slice none 0 0) := (of_heap hL2 0).1
  have hrow : RowIn W2.heap.size w.heap.size W2 := by
    rintro g ⟨v, hv, hg⟩
    rw [hLc] at hv
    cases hv
    cases hg
  have hAA : 0 < vs.length → ∀ b o, A = some ⟨b, o, none⟩ → b < W2.heap.size ∧ b ≠ w.heap.size := by
    intro h b o e
    obtain ⟨b', o', e', hl', _⟩ := hr.2 h
    rw [e] at e'
    cases e'
    exact ⟨by omega, by omega⟩
  have hseq : SeqStopsK Fence.wide (6 - 1) Tryz.prog 162 #[.pointer (some ⟨w.heap.size + 1, 0, none⟩)] (fun d : Dir => #[dirA d]) (KpRow w.heap.size) (fun ys => ys = dlistL vs) (fun _ => True) (64 * vs.length) W2 :=
    fun l J Jx W hW hJ _ hY h0 => each1_in w.heap.size (w.heap.size + 1) A vs.length c vs W2 (hM.below hB2) (by omega) (Nat.ne_of_lt hM.1) (by omega) hbox (hr.below hB2) hAA hrow (by omega) hl 5 (by decide) l J Jx W hW hJ hY h0
  have HSEQ := Lib.hid hseq; have HW2 := Lib.hid hW2; have HL2 := Lib.hid hL2
  clear hseq hbox hrow hAA hr hl hM hLc hW2 hL2
  gi_wp2_with (refine ⟨trivial, ?_⟩; gi_at_call 123; refine (callsIn_wide.2 (each_any _ _ _ _)).mono ?_; rintro e w' ⟨rfl, rfl⟩)
  rw [HW2.out]
  refine wpIn_rangeFunc_ownH rfl (by decide) (gf := 162) (lb := #[.pointer (some ⟨w.heap.size + 1, 0, none⟩)]) rfl trivial (enters_of Tryz.func162 (by kernel_rfl) rfl)
    HSEQ.out KpRow.trans (fun W l o o' h1 h2 h3 _ => KpRow.putObj o' h2 h3 (by omega)) (Below.refl _ _) (fun _ => rfl)
    (DI w) (fun _ _ _ => False) (DI.own (by omega)) (fun _ _ _ _ _ hs _ _ => hs) ⟨_, HL2.out, OwnD.nil _ _, hB2, by omega⟩
    (fun x a' W => ∃ Bx, w.heap.size + 1 < Bx ∧ W.heap[Bx]? = some (.cells #[.string ⟨x.name.toArray⟩, .string ⟨x.value.toArray⟩, .bool x.has, .string ⟨x.for_.toArray⟩] 84 (0, 0)) ∧ a' = { tmps := #[.slice A vs.length c, undef, .slice none 0 0, .pointer (some ⟨w.heap.size, 0, none⟩), .pointer (some ⟨Bx, 0, none⟩), .slice A vs.length c, .func (.func 162) #[] #[.pointer (some ⟨w.heap.size + 1, 0, none⟩)], dirA x, undef, undef, undef, undef, undef], defers := [] })
    (fun x a' _ X Y row hs hg hr => by
      obtain ⟨Bx, h1, h2, h3⟩ := hs
      refine ⟨Bx, h1, ?_, h3⟩
      rw [hg.block Bx (heap_lt h2) (fun e => by
        obtain ⟨_, o, ho, hc⟩ := hr Bx e.symm
        rw [h2] at ho; cases ho; cases hc)]
      exact h2)
    ?assign ?body ?done ?stop
  case assign =>
    rintro l pre x W K ⟨v, h1, h2, h3, h4⟩ hK
    obtain ⟨dn, dv, dh, df⟩ := x
    unfold dirA at *
    gi_wp2
    have hal := (Below.refl W.heap.size W).alloc (Nat.le_refl _) (.cells #[.string ⟨dn.toArray⟩, .string ⟨dv.toArray⟩, .bool dh, .string ⟨df.toArray⟩] 84)
    refine hK _ _ ((KeepsOthers.alloc _ _).from _) (KpRow.alloc _ W _ (heap_lt h1)) ⟨v, (hal.block _ (heap_lt h1)).trans h1, h2.below hal, h3.trans (hal.mono h3.size), by simp; omega⟩ ⟨W.heap.size, by omega, World.alloc_heap_new W _, rfl⟩
  case body =>
    rintro l pre x a' W hl _ ⟨v, h1, h2, h3, h4⟩ ⟨Bx, hBx, bX, rfl⟩ hlt
    obtain ⟨dn, dv, dh, df⟩ := x
    unfold dirA
    obtain ⟨e0, e1, _⟩ := of_heap h1 0
    have e0' : W.cell? ⟨w.heap.size, 0, none⟩ = some v := e0
    have x0 := (of_heap bX 0).1
    have x1 := (of_heap bX 1).1
    have x2 := (of_heap bX 2).1
    have x3 := (of_heap bX 3).1
    have y0 : W.cell? ⟨Bx, 0, none⟩ = some (.string ⟨dn.toArray⟩) := x0
    have y1 : W.cell? ⟨Bx, 1, none⟩ = some (.string ⟨dv.toArray⟩) := x1
    have y2 : W.cell? ⟨Bx, 2, none⟩ = some (.bool dh) := x2
    have y3 : W.cell? ⟨Bx, 3, none⟩ = some (.string ⟨df.toArray⟩) := x3
    have hpl : pre.length ≤ 1000000000 := by omega
    obtain ⟨va, vc, rfl⟩ := h2.shape
    have HO := Lib.hid h2; have H1 := Lib.hid h1; have H3 := Lib.hid h3
    clear x0 x1 x2 x3 e0 h1 h2 h3 bX
    gi_wp2_with (gi_at_builtin; refine app_dirIn (w.heap.size + 2) ⟨dn, dv, dh, df⟩ HO.out h4 hpl rfl _ _ rfl rfl rfl ?_; intro v' w1 hO' hb' hfar'; obtain ⟨va', vc', rfl⟩ := hO'.shape; have t0 := (hb'.cell (p := ⟨w.heap.size, 0, none⟩) (by show w.heap.size < _; omega)).trans e0'; have t1 := (hb'.frozen (p := ⟨w.heap.size, 0, none⟩) (by show w.heap.size < _; omega)).trans e1)
    have hll : (pre ++ [(⟨dn, dv, dh, df⟩ : Dir)]).length = pre.length + 1 := by simp
    rw [hll] at hO' hfar'
    clear hll
    have hne : (Value.slice va pre.length vc).ownBlock ≠ some w.heap.size := fun h => by
      have := (World.ownsRow.lt HO.out _ h).1; omega
    have hkp := KpRow.stored hfar' e0' (fun g hg => (World.ownsRow.lt hO' g hg).2) (by omega) hne
    have hko : KeepsFrom W2.heap.size W (w1.setCell ⟨w.heap.size, 0, none⟩ (.slice va' (pre.length + 1) vc')) := by
      refine (KeepsOthers.trans (KeepsOthers.of_grownBy hfar'.1 (fun j o hj ho => ?_)) (KeepsOthers.setCell w1 ⟨w.heap.size, 0, none⟩ _)).from _
      rcases HO.out.2 with ⟨hv, _⟩ | ⟨g, cp, cur, hv, _, hh, _⟩
      · rw [hv] at hj; cases hj
      · rw [hv] at hj; cases hj
        rw [hh] at ho; cases ho; rfl
    have h1' : (w1.setCell ⟨w.heap.size, 0, none⟩ (.slice va' (pre.length + 1) vc')).heap[w.heap.size]? = some (.cells #[.slice va' (pre.length + 1) vc'] 81 (0, 0)) := heap_set ((hb'.block _ (by omega)).trans H1.out)
    have h2' : OwnD (w.heap.size + 2) (.slice va' (pre.length + 1) vc') (pre ++ [(⟨dn, dv, dh, df⟩ : Dir)]) (w1.setCell ⟨w.heap.size, 0, none⟩ (.slice va' (pre.length + 1) vc')) := ownsRow_setCell_below (a := ⟨w.heap.size, 0, none⟩) hO' (by show w.heap.size < w.heap.size + 2; omega) _
    have h3' := (H3.out.trans (hb'.mono (by omega))).setCell (p := ⟨w.heap.size, 0, none⟩) (Nat.le_refl _) (.slice va' (pre.length + 1) vc')
    have h4' : w.heap.size + 2 ≤ (w1.setCell ⟨w.heap.size, 0, none⟩ (.slice va' (pre.length + 1) vc')).heap.size := by have := hb'.size; simp; omega
    exact ⟨hko, hkp, _, h1', h2', h3', h4'⟩
  case done =>
    rintro D ys W hD rfl ⟨v, h1, h2, h3, h4⟩ hK
    obtain ⟨va, vc, rfl⟩ := h2.shape
    have e0 : W.cell? ⟨w.heap.size, 0, none⟩ = some (.slice va (dlistL vs).length vc) := (of_heap h1 0).1
    gi_wp2
    refine ⟨by simp, .inl ⟨_, _, rfl, run_takeDeferred hK, ?_⟩⟩
    exact ⟨_, results_tmp rfl _ _ _, va, vc, rfl, OwnD.base (ownsRow_putObj h2 _ hK rfl) (by omega), h3.trans (belowK_b (w := w) (Nat.le_refl _) W D _ _ (by omega) hK rfl rfl)⟩
  case stop =>
    rintro D c pre W _ _ h _
    exact h.elim
end Go.Proofs.YtcgdcbnhpbokfaaGreatDoor
/- The walks of the document's Letter, In, Token. -/
namespace Go.Proofs.YtcgdcbnhpbokfaaGreatDoor
open Go.RowKit

set_option maxHeartbeats 1000000 in
theorem rletter_any (c : UInt8) (w : World) :
    Calls Tryz.prog 177 #[.int .u8 c.toNat] w fun e w' => e = .returned (.bool (letterb c)) ∧ w = w' := by
  rw [letter_eq]
  have hu := c.toNat_lt
  generalize c.toNat = n at *
  unfold letterI
  cases h3 : decide (65 ≤ (n : Int)) <;> cases h4 : decide ((n : Int) ≤ 90) <;> cases h1 : decide (97 ≤ (n : Int)) <;> cases h2 : decide ((n : Int) ≤ 122) <;> cases h5 : decide (48 ≤ (n : Int)) <;> cases h6 : decide ((n : Int) ≤ 57)
  all_goals first | (exfalso; simp at h1 h2 h3 h4 h5 h6; omega; done) | skip
  all_goals
    go_enter Tryz.func177, Tryz.ntmps177
    go_wp2
    go_ret
    exact ⟨rfl, rfl⟩

set_option maxHeartbeats 1000000 in
theorem rin_any (c : UInt8) (s : ByteArray) (w : World) (hs : s.size ≤ 1000000) :
    Calls Tryz.prog 178 #[.int .u8 c.toNat, .string s] w fun e w' => e = .returned (.bool (s.data.toList.contains c)) ∧ w = w' := by
  have hY : ∀ k (h : k < s.size), s[k] = c → s.data.toList.contains c = true := by
    intro k h e; rw [List.contains_iff_mem, ← e]; show s.data[k] ∈ _; simp
  have hN : ∀ k, s.size ≤ k → (s.data.toList.take k).contains c = false → s.data.toList.contains c = false := by
    intro k h e; rwa [take_all s k h] at e
  have hS : ∀ k (h : k < s.size), (s.data.toList.take k).contains c = false → ¬ s[k] = c → (s.data.toList.take (k + 1)).contains c = false := by
    intro k h e n
    rw [take_snoc s k h, List.contains_eq_mem] at *
    simp at *; exact ⟨e, fun x => n x.symm⟩
  have HY := Lib.hid hY; have HN := Lib.hid hN; have HS := Lib.hid hS; clear hY hN hS
  generalize s.data.toList.contains c = out at *
  go_enter Tryz.func178, Tryz.ntmps178
  go_wp2
  go_loop [5] (fun i => ∃ k : Nat, k ≤ s.size ∧ i = .int .i64 k ∧ Hid ((s.data.toList.take k).contains c = false)) (fun i => s.size - (intOf i).toNat)
  case atStart => exact ⟨0, Nat.zero_le _, rfl, by show _ = _; simp⟩
  case round =>
    obtain ⟨k, hk, rfl, Hall⟩ := hrel
    by_cases hlt : k < s.size
    · by_cases hc : s[k] = c
      · have hf := HY.out k hlt hc
        have t1 : ((s[k].toNat : Int) == (c.toNat : Int)) = true := by rw [hc]; simp
        have Hf := Lib.hid hf; clear hf hc
        go_wp2
        go_ret
        exact ⟨by rw [Hf.out]; rfl, rfl⟩
      · have hf := HS.out k hlt Hall.out hc
        have t1 : ((s[k].toNat : Int) == (c.toNat : Int)) = false := by
          rw [beq_eq_false_iff_ne]; intro e; exact hc (UInt8.toNat_inj.1 (by omega))
        have Hf := Lib.hid hf; clear hf hc
        go_wp2
        go_round
        case rel => exact ⟨k + 1, by omega, by go_num, Hf⟩
        case measure => simp [intOf]; omega
    · have hf := HN.out k (by omega) Hall.out
      have Hf := Lib.hid hf; clear hf
      go_wp2
      go_ret
      exact ⟨by rw [Hf.out]; rfl, rfl⟩

set_option maxHeartbeats 1000000 in
theorem rtoken_any (s : ByteArray) (w : World) (hs : s.size ≤ 1000000) :
    Calls Tryz.prog 133 #[.string s] w fun e w' => e = .returned (.bool (tokenL s.data.toList)) ∧ w = w' := by
  have hB : ∀ k (h : k < s.size), wordb s[k] = false → tokenL s.data.toList = false := by
    intro k h hk; unfold tokenL; rw [all_bad wordb s k h hk]; rfl
  have hQ : ∀ k, (s.data.toList.take k).all wordb = true → s.size ≤ k → tokenL s.data.toList = !s.data.toList.isEmpty := by
    intro k h hk; rw [take_all s k hk] at h; unfold tokenL; rw [h]; rfl
  have hm : ∀ (c : UInt8) (w : World), Calls Tryz.prog 178 #[.int .u8 c.toNat, .string ⟨#[33, 35, 36, 37, 38, 39, 42, 43, 45, 46, 94, 95, 96, 124, 126]⟩] w fun e w' => e = .returned (.bool (markL.contains c)) ∧ w = w' := fun c w => rin_any c ⟨#[33, 35, 36, 37, 38, 39, 42, 43, 45, 46, 94, 95, 96, 124, 126]⟩ w (by decide)
  have HB := Lib.hid hB; have HQ := Lib.hid hQ; have HM := Lib.hid hm
  clear hB hQ hm
  by_cases h0 : 0 < s.size
  all_goals
    have h0' := h0
    generalize tokenL s.data.toList = out at *
    go_enter Tryz.func133, Tryz.ntmps133
    go_wp2
    go_loop [3] (fun i => ∃ k : Nat, k ≤ s.size ∧ i = .int .i64 k ∧ Hid ((s.data.toList.take k).all wordb = true)) (fun i => s.size - (intOf i).toNat)
    case atStart => exact ⟨0, Nat.zero_le _, rfl, by show _ = _; simp⟩
    case round =>
      obtain ⟨k, hk, rfl, Hall⟩ := hrel
      by_cases hlt : k < s.size
      · have hw : wordb s[k] = (letterb s[k] || markL.contains s[k]) := rfl
        cases c1 : letterb s[k] <;> cases c2 : markL.contains s[k]
        all_goals rw [c1, c2] at hw
        · have hf := HB.out k hlt hw
          have Hf := Lib.hid hf; have C1 := Lib.hid c1; have C2 := Lib.hid c2; clear hf hw c1 c2
          go_wp2_with (first | (go_at_call 177; refine (rletter_any _ _).mono ?_; rintro e w2 ⟨rfl, rfl⟩; rw [C1.out]) | (go_at_call 178; refine (HM.out _ _).mono ?_; rintro e w2 ⟨rfl, rfl⟩; rw [C2.out]))
          go_ret
          exact ⟨by rw [Hf.out]; rfl, rfl⟩
        all_goals
          have hn : (s.data.toList.take (k + 1)).all wordb = true := by rw [all_snoc wordb s k hlt, Hall.out, hw]; rfl
          have Hn := Lib.hid hn; have C1 := Lib.hid c1; have C2 := Lib.hid c2; clear hn hw c1 c2
          go_wp2_with (first | (go_at_call 177; refine (rletter_any _ _).mono ?_; rintro e w2 ⟨rfl, rfl⟩; rw [C1.out]) | (go_at_call 178; refine (HM.out _ _).mono ?_; rintro e w2 ⟨rfl, rfl⟩; rw [C2.out]))
          go_round
          case rel => exact ⟨k + 1, by omega, by go_num, Hn⟩
          case measure => simp [intOf]; omega
      · have hf := HQ.out k Hall.out (by omega)
        have he : s.data.toList.isEmpty = !decide (0 < s.size) := by
          by_cases g : 0 < s.size
          · rw [ne_of_pos s g]; simp [g]
          · rw [nil_of_zero s g]; simp [g]
        rw [he] at hf
        have Hf := Lib.hid hf; clear hf he
        go_wp2
        go_ret
        exact ⟨by rw [Hf.out]; simp [h0'], rfl⟩
end Go.Proofs.YtcgdcbnhpbokfaaGreatDoor
/- The walks of the document's Quote and Unquote. -/
namespace Go.Proofs.YtcgdcbnhpbokfaaGreatDoor
open Go.RowKit

theorem may_any (c : UInt8) (w : World) :
    Calls Tryz.prog 188 #[.int .u8 c.toNat] w fun e w' => e = .returned (.bool (plainb c)) ∧ w = w' := by
  have hlt := c.toNat_lt
  have hp : plainb c = (((c.toNat : Int) == 9) || ((decide (32 ≤ (c.toNat : Int)) && decide ((c.toNat : Int) ≤ 126)) || decide (128 ≤ (c.toNat : Int)))) := by
    unfold plainb; rw [Bool.eq_iff_iff]; simp; omega
  rw [hp]
  clear hp
  generalize c.toNat = n at *
  cases h1 : ((n : Int) == 9) <;> cases h2 : decide (32 ≤ (n : Int)) <;> cases h3 : decide ((n : Int) ≤ 126) <;> cases h4 : decide (128 ≤ (n : Int))
  all_goals
    go_enter Tryz.func188, Tryz.ntmps188
    go_wp2
    go_ret
    exact ⟨rfl, rfl⟩

theorem unqD_34 (c : UInt8) (r : List UInt8) (h : (c.toNat == 34) = true) : unqD (c :: r) = bif r.isEmpty then some [] else none := by
  cases r <;> simp [unqD, h]
theorem unqD_no (c : UInt8) (r : List UInt8) (h : (c.toNat == 34) = false) (h2 : (c.toNat == 92) = false) (hp : plainb c = false) : unqD (c :: r) = none := by
  cases r <;> simp [unqD, h, h2, hp]
theorem unqD_yes (c : UInt8) (r : List UInt8) (h : (c.toNat == 34) = false) (h2 : (c.toNat == 92) = false) (hp : plainb c = true) : unqD (c :: r) = (unqD r).map (c :: ·) := by
  cases r <;> simp [unqD, h, h2, hp]
theorem unqD_92 (c d : UInt8) (r : List UInt8) (h : (c.toNat == 34) = false) (h2 : (c.toNat == 92) = true) : unqD (c :: d :: r) = bif plainb d then (unqD r).map (d :: ·) else none := by
  simp [unqD, h, h2]
theorem unqR_first (s : ByteArray) (h : 0 < s.size) : unqR s.data.toList = bif (s[0].toNat == 34) then unqD (s.data.toList.drop 1) else none := by
  have := drop_cons s 0 h
  rw [List.drop_zero] at this
  rw [this]; simp [unqR]

set_option maxRecDepth 100000 in
set_option maxHeartbeats 2000000 in
theorem runquote_any (s : ByteArray) (w : World) (hs : s.size ≤ 1000000) :
    Calls Tryz.prog 160 #[.string s] w fun e w' => e = .returned (two (unqR s.data.toList)) ∧ w = w' := by
  by_cases hz : 0 < s.size
  · rw [unqR_first s hz]
    have hn : ((s.size : Int) == 0) = false := by rw [beq_eq_false_iff_ne]; omega
    cases h0 : (s[0].toNat == 34)
    · have d0 : ((s[0].toNat : Int) != 34) = true := by simp at h0; simp; omega
      clear h0
      go_enter Tryz.func160, Tryz.ntmps160
      go_wp2
      go_ret2
      exact ⟨rfl, rfl⟩
    · have d0 : ((s[0].toNat : Int) != 34) = false := by simp at h0; simp; omega
      clear h0
      rw [cond_true]
      obtain ⟨out, ho⟩ : ∃ o, unqD (s.data.toList.drop 1) = o := ⟨_, rfl⟩
      rw [ho]
      have HO := Lib.hid ho; clear ho
      go_enter Tryz.func160, Tryz.ntmps160
      go_wp2
      clear d0 hn
      go_loop [5, 4] (fun i o => ∃ (k : Nat) (b : ByteArray), 1 ≤ k ∧ k ≤ s.size ∧ i = .int .i64 k ∧ o = .string b ∧ b.size ≤ k ∧ Hid (out = (unqD (s.data.toList.drop k)).map (b.data.toList ++ ·))) (fun i _ => s.size - (intOf i).toNat)
      case atStart => exact ⟨1, _, Nat.le_refl _, hz, rfl, rfl, by decide, by have := HO.out; show _ = _; rw [this]; simp⟩
      case round =>
        obtain ⟨k, b, hk1, hk, rfl, rfl, hbs, Hout⟩ := hrel
        by_cases hlt : k < s.size
        · have hd := drop_cons s k hlt
          have Hd := Lib.hid hd; clear hd
          cases c1 : ((s[k].toNat : Int) == 34)
          · have d1 := (beq_cast _ 34).trans c1
            have D1 := Lib.hid d1; clear d1
            cases c2 : ((s[k].toNat : Int) == 92)
            · have d2 := (beq_cast _ 92).trans c2
              have D2 := Lib.hid d2; clear d2
              have hke : ((k : Int) == s.size) = false := by simp; omega
              cases hp : plainb s[k]
              · have hf : out = none := by rw [Hout.out, Hd.out, unqD_no _ _ D1.out D2.out hp]; rfl
                have Hf := Lib.hid hf; have Hp := Lib.hid hp; clear hf hp
                go_wp2_with (go_at_call 188; refine (may_any _ _).mono ?_; rintro e w2 ⟨rfl, rfl⟩; rw [Hp.out])
                go_ret2
                exact ⟨by rw [Hf.out]; rfl, rfl⟩
              · have hx := ext_one s k hlt
                have hxs : (s.extract k (k + 1)).size = 1 := by rw [Lib.size_eq, hx]; rfl
                have hf : out = (unqD (s.data.toList.drop (k + 1))).map ((b ++ s.extract k (k + 1)).data.toList ++ ·) := by rw [Hout.out, Hd.out, unqD_yes _ _ D1.out D2.out hp, app_list, hx]; simp [Function.comp_def]
                have Hf := Lib.hid hf; have Hp := Lib.hid hp; clear hf hp hx
                go_wp2_with (go_at_call 188; refine (may_any _ _).mono ?_; rintro e w2 ⟨rfl, rfl⟩; rw [Hp.out])
                go_round
                case rel => exact ⟨k + 1, _, by omega, by omega, by go_num, rfl, by rw [ByteArray.size_append, hxs]; omega, Hf⟩
                case measure => simp [intOf]; omega
            · have d2 := (beq_cast _ 92).trans c2
              have D2 := Lib.hid d2; clear d2
              by_cases hlt2 : k + 1 < s.size
              · have hd2 := drop_cons s (k + 1) hlt2
                have hke : ((k : Int) + 1 == s.size) = false := by simp; omega
                cases hp : plainb s[k + 1]
                · have hf : out = none := by rw [Hout.out, Hd.out, hd2, unqD_92 _ _ _ D1.out D2.out, hp]; rfl
                  have Hf := Lib.hid hf; have Hp := Lib.hid hp; clear hf hp hd2
                  go_wp2_with (go_at_call 188; refine (may_any _ _).mono ?_; rintro e w2 ⟨rfl, rfl⟩; rw [Hp.out])
                  go_ret2
                  exact ⟨by rw [Hf.out]; rfl, rfl⟩
                · have hx := ext_one s (k + 1) hlt2
                  have hxs : (s.extract (k + 1) (k + 1 + 1)).size = 1 := by rw [Lib.size_eq, hx]; rfl
                  have hf : out = (unqD (s.data.toList.drop (k + 1 + 1))).map ((b ++ s.extract (k + 1) (k + 1 + 1)).data.toList ++ ·) := by rw [Hout.out, Hd.out, hd2, unqD_92 _ _ _ D1.out D2.out, hp, app_list, hx]; simp [Function.comp_def]
                  have Hf := Lib.hid hf; have Hp := Lib.hid hp; clear hf hp hx hd2
                  go_wp2_with (go_at_call 188; refine (may_any _ _).mono ?_; rintro e w2 ⟨rfl, rfl⟩; rw [Hp.out])
                  go_round
                  case rel => exact ⟨k + 1 + 1, _, by omega, by omega, by go_num, rfl, by rw [ByteArray.size_append, hxs]; omega, Hf⟩
                  case measure => simp [intOf]; omega
              · have hke : ((k : Int) + 1 == s.size) = true := by simp; omega
                have hf : out = none := by
                  rw [Hout.out, Hd.out, drop_all s (k + 1) (by omega)]; simp [unqD, D1.out]
                have Hf := Lib.hid hf; clear hf
                go_wp2
                go_ret2
                exact ⟨by rw [Hf.out]; rfl, rfl⟩
          · have d1 := (beq_cast _ 34).trans c1
            have D1 := Lib.hid d1; clear d1
            by_cases hlt2 : k + 1 < s.size
            · have hke : ((k : Int) + 1 == s.size) = false := by simp; omega
              have hf : out = none := by
                rw [Hout.out, Hd.out, unqD_34 _ _ D1.out, drop_cons s (k + 1) hlt2]; rfl
              have Hf := Lib.hid hf; clear hf
              go_wp2
              go_ret2
              exact ⟨by rw [Hf.out]; rfl, rfl⟩
            · have hke : ((k : Int) + 1 == s.size) = true := by simp; omega
              have hf : out = some b.data.toList := by
                rw [Hout.out, Hd.out, unqD_34 _ _ D1.out, drop_all s (k + 1) (by omega)]; simp
              have Hf := Lib.hid hf; clear hf
              go_wp2
              go_ret2
              exact ⟨by rw [Hf.out]; unfold two; simp only [str_of]; rfl, rfl⟩
        · have hf : out = none := by rw [Hout.out, drop_all s k (by omega)]; rfl
          have Hf := Lib.hid hf; clear hf
          go_wp2
          go_ret2
          exact ⟨by rw [Hf.out]; rfl, rfl⟩
  · have he : s.data.toList = [] := by apply List.eq_nil_of_length_eq_zero; rw [← Lib.size_eq]; omega
    rw [he]
    have hn : ((s.size : Int) == 0) = true := by rw [beq_iff_eq]; omega
    clear he
    go_enter Tryz.func160, Tryz.ntmps160
    go_wp2
    go_ret2
    exact ⟨rfl, rfl⟩
end Go.Proofs.YtcgdcbnhpbokfaaGreatDoor
/- The walk of the document's Say (layer 11). -/
namespace Go.Proofs.YtcgdcbnhpbokfaaGreatDoor
open Go.RowKit
set_option maxRecDepth 100000

theorem occ1c (l : List UInt8) (c : UInt8) (i : Nat) : Lib.occAt l [c] i = (l[i]? == some c) := by
  have e0 : l[i]? = (l.drop i)[0]? := by rw [List.getElem?_drop]; rfl
  unfold Lib.occAt
  rw [e0]
  generalize l.drop i = d
  cases d with
  | nil => rfl
  | cons x r =>
    simp [List.isPrefixOf]
    rw [Bool.eq_iff_iff]; simp; exact eq_comm
theorem cutc_hit (s : ByteArray) (c : UInt8) (k : Nat) (hk : k < s.size) (h : s[k] = c) (hno : ∀ j (hj : j < s.size), j < k → s[j] ≠ c) : Lib.cut s.data.toList [c] = (s.data.toList.take k, s.data.toList.drop (k + 1), true) := by
  have at_o : ∀ j (h : j < s.size), s.data.toList[j]? = some s[j] := fun j h => by rw [at_list s j h]; simp
  have hi : Lib.index s.data.toList [c] = k := by
    refine Lib.index_first (by rw [← Lib.size_eq]; omega) (by rw [occ1c, at_o k hk, h]; simp) (fun j hj => ?_)
    rw [occ1c, at_o j (by omega), beq_eq_false_iff_ne]
    intro e; exact hno j (by omega) hj (by injection e)
  unfold Lib.cut
  rw [hi, if_pos (by omega)]
  simp
theorem cutc_miss (s : ByteArray) (c : UInt8) (hno : ∀ j (hj : j < s.size), s[j] ≠ c) : Lib.cut s.data.toList [c] = (s.data.toList, [], false) := by
  have at_o : ∀ j (h : j < s.size), s.data.toList[j]? = some s[j] := fun j h => by rw [at_list s j h]; simp
  have hi : Lib.index s.data.toList [c] = -1 := by
    refine Lib.index_none (fun j hj => ?_)
    rw [occ1c]
    by_cases hl : j < s.size
    · rw [at_o j hl, beq_eq_false_iff_ne]
      intro e; exact hno j hl (by injection e)
    · rw [List.getElem?_eq_none (by rw [← Lib.size_eq]; omega)]; rfl
  unfold Lib.cut
  rw [hi, if_neg (by omega)]
theorem word_61 {c : UInt8} (h : wordb c = true) : c ≠ 61 := by rintro rfl; exact absurd h (by decide)
/-- A token says itself. -/
theorem said_token {s : ByteArray} (h : tokenL s.data.toList = true) : saidO s.data.toList = some ⟨lowerL s.data.toList, [], false, []⟩ := by
  have hc := cutc_miss s 61 (fun j hj => word_61 ((token_all h).1 _ (by rw [at_list s j hj]; exact List.getElem_mem _)))
  unfold saidO
  rw [hc, h]; rfl
theorem said_none {s : ByteArray} (h : tokenL s.data.toList = false) (hno : ∀ j (hj : j < s.size), s[j] ≠ 61) : saidO s.data.toList = none := by
  unfold saidO
  rw [cutc_miss s 61 hno, h]; rfl
theorem said_hit (s : ByteArray) (k : Nat) (hk : k < s.size) (h : s[k] = 61) (hno : ∀ j (hj : j < s.size), j < k → s[j] ≠ 61) : saidO s.data.toList = bif !tokenL (s.data.toList.take k) then none else bif !tokenL (s.data.toList.drop (k + 1)) then (unqP (s.data.toList.drop (k + 1))).map fun x => ⟨lowerL (s.data.toList.take k), x, true, []⟩ else some ⟨lowerL (s.data.toList.take k), s.data.toList.drop (k + 1), true, []⟩ := by
  unfold saidO
  rw [cutc_hit s 61 k hk h hno]
  rfl
/-- Behind the first sign there is no token ahead of a sign. -/
theorem token_behind (s : ByteArray) (k j : Nat) (hj : j < s.size) (hjk : j < k) (h : s[j] = 61) : tokenL (s.data.toList.take k) = false := by
  cases ht : tokenL (s.data.toList.take k)
  · rfl
  · exfalso
    have hl := Lib.size_eq s
    refine word_61 ((token_all ht).1 61 ?_) rfl
    rw [List.mem_take_iff_getElem]
    exact ⟨j, by omega, by rw [← at_list s j hj]; exact h⟩

structure At4 (W : World) (a : Nat) (v0 v1 v2 v3 : Value) : Prop where
  c0 : W.cell? ⟨a, 0, none⟩ = some v0
  c1 : W.cell? ⟨a, 1, none⟩ = some v1
  c2 : W.cell? ⟨a, 2, none⟩ = some v2
  c3 : W.cell? ⟨a, 3, none⟩ = some v3
  f0 : W.frozen? ⟨a, 0, none⟩ = false
  f1 : W.frozen? ⟨a, 1, none⟩ = false
  f2 : W.frozen? ⟨a, 2, none⟩ = false
  f3 : W.frozen? ⟨a, 3, none⟩ = false
  lt : a < W.heap.size
theorem at4_alloc (w : World) (v0 v1 v2 v3 : Value) (T : TypeId) : At4 (w.alloc (.cells #[v0, v1, v2, v3] T)) w.heap.size v0 v1 v2 v3 :=
  ⟨World.cell?_alloc_mark w _ _ _ 0, World.cell?_alloc_mark w _ _ _ 1, World.cell?_alloc_mark w _ _ _ 2, World.cell?_alloc_mark w _ _ _ 3, World.frozen?_alloc_at _ _ _ _ rfl, World.frozen?_alloc_at _ _ _ _ rfl, World.frozen?_alloc_at _ _ _ _ rfl, World.frozen?_alloc_at _ _ _ _ rfl, by simp⟩
theorem at4_set {w : World} {a : Nat} {u0 u1 u2 u3 : Value} (v0 v1 v2 v3 : Value) (c0 : w.cell? ⟨a, 0, none⟩ = some u0) (c1 : w.cell? ⟨a, 1, none⟩ = some u1) (c2 : w.cell? ⟨a, 2, none⟩ = some u2) (c3 : w.cell? ⟨a, 3, none⟩ = some u3) (f0 : w.frozen? ⟨a, 0, none⟩ = false) (f1 : w.frozen? ⟨a, 1, none⟩ = false) (f2 : w.frozen? ⟨a, 2, none⟩ = false) (f3 : w.frozen? ⟨a, 3, none⟩ = false) (lt : a < w.heap.size) :
    At4 ((((w.setCell ⟨a, 0, none⟩ v0).setCell ⟨a, 1, none⟩ v1).setCell ⟨a, 2, none⟩ v2).setCell ⟨a, 3, none⟩ v3) a v0 v1 v2 v3 := by
  constructor <;> go_simp

theorem new4_kept {w w2 : World} {cs : Array Value} {T : TypeId} (h : Below (w.alloc (.cells cs T)).drew.heap.size (w.alloc (.cells cs T)).drew w2) : w2.cell? ⟨w.heap.size, 0, none⟩ = cs[0]? ∧ w2.cell? ⟨w.heap.size, 1, none⟩ = cs[1]? ∧ w2.cell? ⟨w.heap.size, 2, none⟩ = cs[2]? ∧ w2.cell? ⟨w.heap.size, 3, none⟩ = cs[3]? ∧ w2.frozen? ⟨w.heap.size, 0, none⟩ = false ∧ w2.frozen? ⟨w.heap.size, 1, none⟩ = false ∧ w2.frozen? ⟨w.heap.size, 2, none⟩ = false ∧ w2.frozen? ⟨w.heap.size, 3, none⟩ = false ∧ w.heap.size < w2.heap.size := by
  have hz : w.heap.size < (w.alloc (.cells cs T)).drew.heap.size := by simp
  have c : ∀ j, w2.cell? ⟨w.heap.size, j, none⟩ = cs[j]? := fun j => (h.cell (p := ⟨w.heap.size, j, none⟩) hz).trans ((World.cell?_drew _ _).trans (World.cell?_alloc_mark w _ _ _ j))
  have f : ∀ j, w2.frozen? ⟨w.heap.size, j, none⟩ = false := fun j => (h.frozen (p := ⟨w.heap.size, j, none⟩) hz).trans ((World.frozen?_drew _ _).trans (World.frozen?_alloc_at _ _ _ _ rfl))
  exact ⟨c 0, c 1, c 2, c 3, f 0, f 1, f 2, f 3, Nat.lt_of_lt_of_le hz h.size⟩

set_option maxHeartbeats 16000000 in
theorem rsay_any (s : ByteArray) (w : World) (hs : s.size ≤ 1000000) :
    Calls Tryz.prog 115 #[.string s] w fun e w' => e = .returned (saidV (saidO s.data.toList)) ∧ Below w.heap.size w w' := by
  obtain ⟨W0, hW0⟩ : ∃ W0, w.alloc (.cells #[.string ⟨#[]⟩, .string ⟨#[]⟩, .bool false, .string ⟨#[]⟩] 84) = W0 := ⟨_, rfl⟩
  have hB0 : Below w.heap.size w W0 := by rw [← hW0]; exact (Below.refl w.heap.size w).alloc (Nat.le_refl _) _
  have z0 : w.heap.size < W0.heap.size := by rw [← hW0]; simp
  have hc : ∀ j, W0.cell? ⟨w.heap.size, j, none⟩ = #[Value.string ⟨#[]⟩, .string ⟨#[]⟩, .bool false, .string ⟨#[]⟩][j]? := fun j => by rw [← hW0]; exact World.cell?_alloc_mark w _ _ _ j
  have hf : ∀ j, W0.frozen? ⟨w.heap.size, j, none⟩ = false := fun j => by rw [← hW0]; exact World.frozen?_alloc_at _ _ _ _ rfl
  have kc : ∀ w', Below W0.heap.size W0 w' → Below w.heap.size w w' ∧ w'.cell? ⟨w.heap.size, 0, none⟩ = some (.string ⟨#[]⟩) ∧ w'.cell? ⟨w.heap.size, 1, none⟩ = some (.string ⟨#[]⟩) ∧ w'.cell? ⟨w.heap.size, 2, none⟩ = some (.bool false) ∧ w'.cell? ⟨w.heap.size, 3, none⟩ = some (.string ⟨#[]⟩) ∧ w'.frozen? ⟨w.heap.size, 0, none⟩ = false ∧ w'.frozen? ⟨w.heap.size, 1, none⟩ = false ∧ w'.frozen? ⟨w.heap.size, 2, none⟩ = false ∧ w'.frozen? ⟨w.heap.size, 3, none⟩ = false ∧ w.heap.size < w'.heap.size :=
    fun w' h => ⟨hB0.trans (h.mono hB0.size), (h.cell (p := ⟨w.heap.size, 0, none⟩) z0).trans (hc 0), (h.cell (p := ⟨w.heap.size, 1, none⟩) z0).trans (hc 1), (h.cell (p := ⟨w.heap.size, 2, none⟩) z0).trans (hc 2), (h.cell (p := ⟨w.heap.size, 3, none⟩) z0).trans (hc 3), (h.frozen (p := ⟨w.heap.size, 0, none⟩) z0).trans (hf 0), (h.frozen (p := ⟨w.heap.size, 1, none⟩) z0).trans (hf 1), (h.frozen (p := ⟨w.heap.size, 2, none⟩) z0).trans (hf 2), (h.frozen (p := ⟨w.heap.size, 3, none⟩) z0).trans (hf 3), Nat.lt_of_lt_of_le z0 h.size⟩
  have k1 := fun w => rtoken_any s w hs
  have k2 := fun w => rlower_any s w hs
  have hST := @said_token s; have hSN := @said_none s; have hSH := said_hit s; have hTB := token_behind s
  have KC := Lib.hid kc; have HW0 := Lib.hid hW0
  clear kc hc hf hW0
  cases htk : tokenL s.data.toList
  · rw [htk] at k1
    have hN := fun h => hSN htk h
    generalize saidO s.data.toList = out at *
    have HV : Hid (∃ u, saidV out = u) := Lib.hid ⟨_, rfl⟩
    have K1 := Lib.hid k1; have HN := Lib.hid hN; have HSH := Lib.hid hSH; have HTB := Lib.hid hTB
    clear k1 k2 hN hSN hST hSH hTB htk
    have hb00 := Below.refl W0.heap.size W0
    go_enter Tryz.func115, Tryz.ntmps115
    go_wp2_with fail
    rw [HW0.out]
    refine (K1.out _).mono ?_
    rintro e w1 ⟨rfl, rfl⟩
    go_wp2_with fail
    go_loopw [4] (fun i wr => ∃ k : Nat, k ≤ s.size ∧ i = .int .i64 k ∧ Hid ((∀ j (hj : j < s.size), j < k → s[j] ≠ 61) ∨ (out = none ∧ ∃ j, ∃ hj : j < s.size, j < k ∧ s[j] = 61)) ∧ Below W0.heap.size W0 wr) (fun i _ => s.size - (intOf i).toNat)
    case atStart => exact ⟨0, Nat.zero_le _, rfl, Lib.hid (Or.inl (fun j _ h => absurd h (by omega))), hb00⟩
    case round =>
      obtain ⟨k, hk, rfl, HP, hbr⟩ := hrel
      by_cases hlt : k < s.size
      · cases hq : ((s[k].toNat : Int) != 61)
        · have h61 : s[k] = 61 := by
            simp at hq; rw [← UInt8.toNat_inj]; simp; omega
          have kt := fun w => rtoken_any (s.extract 0 k) w (by rw [ByteArray.size_extract]; omega)
          have hnx : (s.extract 0 k).data.toList = s.data.toList.take k := by rw [Lib.extract_data]; simp
          rw [hnx] at kt
          cases htk2 : tokenL (s.data.toList.take k)
          · rw [htk2] at kt
            have ho : out = none := by
              rcases HP.out with h | ⟨h, _⟩
              · rw [HSH.out k hlt h61 h, htk2]; rfl
              · exact h
            have hn : (∀ j (hj : j < s.size), j < k + 1 → s[j] ≠ 61) ∨ (out = none ∧ ∃ j, ∃ hj : j < s.size, j < k + 1 ∧ s[j] = 61) := Or.inr ⟨ho, k, hlt, by omega, h61⟩
            have HP2 := Lib.hid hn; have KT := Lib.hid kt
            clear hn kt ho htk2 hnx HP h61 HSH HTB HN K1 HW0
            go_wp2_with fail
            refine (KT.out _).mono ?_
            rintro e w3 ⟨rfl, rfl⟩
            go_wp2_with fail
            go_roundw
            case rel => exact ⟨k + 1, by omega, by go_num, HP2, hbr⟩
            case measure => simp [intOf]; omega
          · rw [htk2] at kt
            have hfirst : ∀ j (hj : j < s.size), j < k → s[j] ≠ 61 := by
              intro j hj hjk e
              have := HTB.out k j hj hjk e
              rw [htk2] at this; cases this
            have ho := HSH.out k hlt h61 hfirst
            rw [htk2] at ho
            have kt2 := fun w => rtoken_any (s.extract (k + 1) s.size) w (by rw [ByteArray.size_extract]; omega)
            have ku := fun w => runquote_any (s.extract (k + 1) s.size) w (by rw [ByteArray.size_extract]; omega)
            have kl := fun w => rlower_any (s.extract 0 k) w (by rw [ByteArray.size_extract]; omega)
            have hex : (s.extract (k + 1) s.size).data.toList = s.data.toList.drop (k + 1) := by
              rw [Lib.extract_data, List.take_of_length_le (by rw [List.length_drop, ← Lib.size_eq]; exact Nat.le_refl _)]
            rw [hnx] at kl
            rw [hex, ← unqP_eq] at ku
            rw [hex] at kt2
            have hvb : (⟨(s.data.toList.drop (k + 1)).toArray⟩ : ByteArray) = s.extract (k + 1) s.size := by apply str_eq; rw [hex]
            simp only [Bool.not_true, cond_false] at ho
            have hV : saidV out = bif !tokenL (s.data.toList.drop (k + 1)) then (match unqP (s.data.toList.drop (k + 1)) with | none => .tuple #[.agg #[.string ⟨#[]⟩, .string ⟨#[]⟩, .bool false, .string ⟨#[]⟩], .bool false] | some x => .tuple #[.agg #[.string ⟨(lowerL (s.data.toList.take k)).toArray⟩, .string ⟨x.toArray⟩, .bool true, .string ⟨#[]⟩], .bool true]) else .tuple #[.agg #[.string ⟨(lowerL (s.data.toList.take k)).toArray⟩, .string (s.extract (k + 1) s.size), .bool true, .string ⟨#[]⟩], .bool true] := by
              rw [ho, ← hvb]
              cases tokenL (s.data.toList.drop (k + 1)) <;> simp only [Bool.not_true, Bool.not_false, cond_true, cond_false, saidV]
              cases unqP (s.data.toList.drop (k + 1)) <;> rfl
            have hN0 : tokenL (s.data.toList.drop (k + 1)) = false → unqP (s.data.toList.drop (k + 1)) = none → out = none := by
              intro h1 h2; rw [ho, h1, h2]; rfl
            clear ho hvb hnx htk2 hfirst HP HSH HTB HN K1 HW0 hex
            obtain ⟨ln, hln⟩ : ∃ ln : ByteArray, ⟨(lowerL (s.data.toList.take k)).toArray⟩ = ln := ⟨_, rfl⟩
            rw [hln] at kl hV
            clear hln
            have e1 : ((k : Int) == (s.size : Int)) = false := by simp; omega
            generalize tokenL (s.data.toList.drop (k + 1)) = tv at *
            generalize unqP (s.data.toList.drop (k + 1)) = uq at *
            have KT := Lib.hid kt; have KL := Lib.hid kl; have KT2 := Lib.hid kt2; have KU := Lib.hid ku; have HV2 := Lib.hid hV; have HN0 := Lib.hid hN0
            clear kt kl kt2 ku hV hN0 HV
            go_wp2_with fail
            refine (KT.out _).mono ?_
            rintro e w3 ⟨rfl, rfl⟩
            go_wp2_with fail
            have j1 : IntKind.i64.wrap ((k : Int) + 1) = (k : Int) + 1 := IntWalk.i64_in _ (by omega)
            have j2 : (0 : Int) ≤ (k : Int) := by omega
            have j3 : (k : Int) ≤ (s.size : Int) := by omega
            have j4 : (0 : Int) ≤ (k : Int) + 1 := by omega
            have j5 : (k : Int) + 1 ≤ (s.size : Int) := by omega
            have j6 : ((k : Int) + 1).toNat = k + 1 := by omega
            have hbr0 := Below.refl wr.heap.size wr
            go_region_held3 (fun w' => Below wr.heap.size wr w') (first | exact hbr0 | exact hbr0.drew | assumption | (repeat' (first | exact hbr0 | assumption | (with_reducible refine Below.drew ?_) | (with_reducible refine Below.alloc ?_ (by first | exact Below.size ‹_› | (simp <;> omega)) _) | (with_reducible refine Below.setCell ?_ (by simp <;> omega) _)))) (first | (go_at_call 116; have gb := ‹Below wr.heap.size wr _›; refine (KL.out _).mono ?_; rintro e w2 ⟨rfl, h2⟩; have hb2 := bt gb h2; first | (have q4 := new4_kept h2; obtain ⟨c0, c1, c2, c3, f0, f1, f2, f3, cz⟩ := q4) | skip) | fail)
            all_goals
              first
              | (have hx := at4_set (.string ln) (.string (s.extract (k + 1) s.size)) (.bool true) (.string ⟨#[]⟩) c0 c1 c2 c3 f0 f1 f2 f3 cz
                 have hBx := (((hb2.setCell (p := ⟨wr.heap.size, 0, none⟩) (Nat.le_refl _) (.string ln)).setCell (p := ⟨wr.heap.size, 1, none⟩) (Nat.le_refl _) (.string (s.extract (k + 1) s.size))).setCell (p := ⟨wr.heap.size, 2, none⟩) (Nat.le_refl _) (.bool true)).setCell (p := ⟨wr.heap.size, 3, none⟩) (Nat.le_refl _) (.string ⟨#[]⟩)
                 have ha : W0.heap.size ≤ wr.heap.size := hbr.size
                 clear c0 c1 c2 c3 f0 f1 f2 f3 cz h2 hb2 gb
                 generalize ((((w2.setCell ⟨wr.heap.size, 0, none⟩ (.string ln)).setCell ⟨wr.heap.size, 1, none⟩ (.string (s.extract (k + 1) s.size))).setCell ⟨wr.heap.size, 2, none⟩ (.bool true)).setCell ⟨wr.heap.size, 3, none⟩ (.string ⟨#[]⟩)) = WX at *
                 have hBW := bt hbr hBx
                 clear hBx hbr0
                 generalize wr.heap.size = a at *)
              | (have hx := at4_alloc w2 (.string ln) (.string (s.extract (k + 1) s.size)) (.bool true) (.string ⟨#[]⟩) 84
                 have hBx := hb2.alloc hb2.size (.cells #[.string ln, .string (s.extract (k + 1) s.size), .bool true, .string ⟨#[]⟩] 84)
                 have ha : W0.heap.size ≤ w2.heap.size := Nat.le_trans hbr.size hb2.size
                 clear h2 hb2 gb
                 generalize (w2.alloc (.cells #[.string ln, .string (s.extract (k + 1) s.size), .bool true, .string ⟨#[]⟩] 84)) = WX at *
                 have hBW := bt hbr hBx
                 clear hBx hbr0
                 generalize w2.heap.size = a at *)
              | fail
              obtain ⟨x0, x1, x2, x3, y0, y1, y2, y3, xz⟩ := hx
              obtain ⟨hBw, g0, g1, g2, g3, q0, q1, q2, q3, glt⟩ := KC.out _ hBW
              have hv := HV2.out
              have hne : w.heap.size ≠ a := by omega
              cases tv
              · simp only [Bool.not_false, cond_true] at hv
                cases uq with
                | none =>
                  have HO := HN0.out rfl rfl
                  have K6 : Hid (∀ w, Calls Tryz.prog 160 #[.string (s.extract (k + 1) s.size)] w fun e w' => e = .returned (.tuple #[.string ⟨#[]⟩, .int .i64 4]) ∧ w = w') := KU
                  have hn : (∀ j (hj : j < s.size), j < k + 1 → s[j] ≠ 61) ∨ (out = none ∧ ∃ j, ∃ hj : j < s.size, j < k + 1 ∧ s[j] = 61) := Or.inr ⟨HO, k, hlt, by omega, h61⟩
                  have HP2 := Lib.hid hn
                  clear hn HO hv HV2 HN0 h61 KU KL KT g0 g1 g2 g3 q0 q1 q2 q3 glt hBw KC
                  go_wp2_with fail
                  refine (KT2.out _).mono ?_
                  rintro e w5 ⟨rfl, rfl⟩
                  go_wp2_with fail
                  refine (K6.out _).mono ?_
                  rintro e w6 ⟨rfl, rfl⟩
                  go_wp2_with fail
                  go_roundw
                  case rel => exact ⟨k + 1, by omega, by go_num, HP2, hBW⟩
                  case measure => simp [intOf]; omega
                | some x =>
                  simp only at hv
                  have K6 : Hid (∀ w, Calls Tryz.prog 160 #[.string (s.extract (k + 1) s.size)] w fun e w' => e = .returned (.tuple #[.string ⟨x.toArray⟩, .int .i64 0]) ∧ w = w') := KU
                  have HV3 := Lib.hid hv
                  clear hv HV2 HN0 h61 KU KL KT KC
                  go_wp2_with fail
                  refine (KT2.out _).mono ?_
                  rintro e w5 ⟨rfl, rfl⟩
                  go_wp2_with fail
                  refine (K6.out _).mono ?_
                  rintro e w6 ⟨rfl, rfl⟩
                  go_wp2_with fail
                  refine bodyPost_ret_by (v := .tuple #[.agg #[.string ln, .string ⟨x.toArray⟩, .bool true, .string ⟨#[]⟩], .bool true]) ?_ rfl ?_
                  · rw [results_cell_tmp rfl]
                    go_simp
                  · exact ⟨by rw [HV3.out], ((((hBw.setCell (p := ⟨a, 1, none⟩) (by show w.heap.size ≤ a; omega) _).setCell (p := ⟨w.heap.size, 0, none⟩) (Nat.le_refl _) _).setCell (p := ⟨w.heap.size, 1, none⟩) (Nat.le_refl _) _).setCell (p := ⟨w.heap.size, 2, none⟩) (Nat.le_refl _) _).setCell (p := ⟨w.heap.size, 3, none⟩) (Nat.le_refl _) _⟩
              · simp only [Bool.not_true, cond_false] at hv
                have HV3 := Lib.hid hv
                clear hv HV2 HN0 h61 KU KL KT KC
                go_wp2_with fail
                refine (KT2.out _).mono ?_
                rintro e w5 ⟨rfl, rfl⟩
                go_wp2_with fail
                refine bodyPost_ret_by (v := .tuple #[.agg #[.string ln, .string (s.extract (k + 1) s.size), .bool true, .string ⟨#[]⟩], .bool true]) ?_ rfl ?_
                · rw [results_cell_tmp rfl]
                  go_simp
                · exact ⟨by rw [HV3.out], (((hBw.setCell (p := ⟨w.heap.size, 0, none⟩) (Nat.le_refl _) _).setCell (p := ⟨w.heap.size, 1, none⟩) (Nat.le_refl _) _).setCell (p := ⟨w.heap.size, 2, none⟩) (Nat.le_refl _) _).setCell (p := ⟨w.heap.size, 3, none⟩) (Nat.le_refl _) _⟩
        · have hne : s[k] ≠ 61 := by intro e; rw [e] at hq; simp at hq
          have hn : (∀ j (hj : j < s.size), j < k + 1 → s[j] ≠ 61) ∨ (out = none ∧ ∃ j, ∃ hj : j < s.size, j < k + 1 ∧ s[j] = 61) := by
            rcases HP.out with h | ⟨h, j, hj, hjk, e⟩
            · left
              intro j hj hjk
              by_cases hjk2 : j = k
              · subst hjk2; exact hne
              · exact h j hj (by omega)
            · exact Or.inr ⟨h, j, hj, by omega, e⟩
          have HP2 := Lib.hid hn
          clear hn hne HP HSH HTB HN K1 HW0
          go_wp2_with fail
          go_roundw
          case rel => exact ⟨k + 1, by omega, by go_num, HP2, hbr⟩
          case measure => simp [intOf]; omega
      · have ho : out = none := by
          rcases HP.out with h | ⟨h, _⟩
          · exact HN.out (fun j hj => h j hj (by omega))
          · exact h
        subst ho
        clear HP HSH HTB HN K1 HW0 HV
        obtain ⟨hBw, g0, g1, g2, g3, q0, q1, q2, q3, glt⟩ := KC.out _ hbr
        clear KC
        go_wp2_with fail
        refine bodyPost_ret_by (v := .tuple #[.agg #[.string ⟨#[]⟩, .string ⟨#[]⟩, .bool false, .string ⟨#[]⟩], .bool false]) ?_ rfl ?_
        · rw [results_cell_tmp rfl]
          go_simp
        · exact ⟨rfl, (((hBw.setCell (p := ⟨w.heap.size, 0, none⟩) (Nat.le_refl _) _).setCell (p := ⟨w.heap.size, 1, none⟩) (Nat.le_refl _) _).setCell (p := ⟨w.heap.size, 2, none⟩) (Nat.le_refl _) _).setCell (p := ⟨w.heap.size, 3, none⟩) (Nat.le_refl _) _⟩
  · rw [htk] at k1
    rw [hST htk]
    unfold saidV
    simp only
    obtain ⟨ln, hln⟩ : ∃ ln : ByteArray, ⟨(lowerL s.data.toList).toArray⟩ = ln := ⟨_, rfl⟩
    rw [hln] at k2 ⊢
    have K1 := Lib.hid k1; have K2 := Lib.hid k2
    clear k1 k2 hSN hST hSH hTB htk hln
    go_enter Tryz.func115, Tryz.ntmps115
    go_wp2_with fail
    rw [HW0.out]
    refine (K1.out _).mono ?_
    rintro e w1 ⟨rfl, rfl⟩
    go_wp2_with fail
    refine (K2.out _).mono ?_
    rintro e w2 ⟨rfl, hb2⟩
    obtain ⟨hBw, g0, g1, g2, g3, q0, q1, q2, q3, glt⟩ := KC.out _ hb2
    clear KC
    go_wp2_with fail
    refine bodyPost_ret_by (v := .tuple #[.agg #[.string ln, .string ⟨#[]⟩, .bool false, .string ⟨#[]⟩], .bool true]) ?_ rfl ?_
    · rw [results_cell_tmp rfl]
      go_simp
    · exact ⟨rfl, (((hBw.setCell (p := ⟨w.heap.size, 0, none⟩) (Nat.le_refl _) _).setCell (p := ⟨w.heap.size, 1, none⟩) (Nat.le_refl _) _).setCell (p := ⟨w.heap.size, 2, none⟩) (Nat.le_refl _) _).setCell (p := ⟨w.heap.size, 3, none⟩) (Nat.le_refl _) _⟩
end Go.Proofs.YtcgdcbnhpbokfaaGreatDoor
/- The walk of the document's Same. -/
namespace Go.Proofs.YtcgdcbnhpbokfaaGreatDoor
open Go.RowKit

set_option maxHeartbeats 1000000 in
theorem rsame_wide (a b : ByteArray) (w : World) (ha : a.size ≤ 140737488351232) (hb : b.size ≤ 140737488351232) :
    Calls Tryz.prog 117 #[.string a, .string b] w fun e w' => e = .returned (.bool (lowerL a.data.toList == lowerL b.data.toList)) ∧ Below w.heap.size w w' := by
  have k1 := fun w => rlower_wide a w ha
  have k2 := fun w => rlower_wide b w hb
  have t1 : ((⟨(lowerL a.data.toList).toArray⟩ : ByteArray).toList == (⟨(lowerL b.data.toList).toArray⟩ : ByteArray).toList) = (lowerL a.data.toList == lowerL b.data.toList) := by rw [Lib.toList_data, Lib.toList_data]
  generalize lowerL a.data.toList = x at *
  generalize lowerL b.data.toList = y at *
  have K1 := Lib.hid k1; have K2 := Lib.hid k2; have T1 := Lib.hid t1; clear k1 k2 t1
  go_enter Tryz.func117, Tryz.ntmps117
  go_wp2_with fail
  refine (K1.out _).mono ?_
  rintro e w1 ⟨rfl, hb1⟩
  go_wp2_with fail
  refine (K2.out _).mono ?_
  rintro e w2 ⟨rfl, hb2⟩
  go_wp2
  go_ret
  exact ⟨by rw [← T1.out]; rfl, bt hb1 hb2⟩
end Go.Proofs.YtcgdcbnhpbokfaaGreatDoor
/- The walk of the document's Find (layer 11). -/
namespace Go.Proofs.YtcgdcbnhpbokfaaGreatDoor
open Go.RowKit
set_option maxRecDepth 100000

theorem At4.below {W W1 : World} {a : Nat} {v0 v1 v2 v3 : Value} (h : At4 W a v0 v1 v2 v3) (hb : Below W.heap.size W W1) : At4 W1 a v0 v1 v2 v3 :=
  ⟨(hb.cell (p := ⟨a, 0, none⟩) h.lt).trans h.c0, (hb.cell (p := ⟨a, 1, none⟩) h.lt).trans h.c1, (hb.cell (p := ⟨a, 2, none⟩) h.lt).trans h.c2, (hb.cell (p := ⟨a, 3, none⟩) h.lt).trans h.c3, (hb.frozen (p := ⟨a, 0, none⟩) h.lt).trans h.f0, (hb.frozen (p := ⟨a, 1, none⟩) h.lt).trans h.f1, (hb.frozen (p := ⟨a, 2, none⟩) h.lt).trans h.f2, (hb.frozen (p := ⟨a, 3, none⟩) h.lt).trans h.f3, Nat.lt_of_lt_of_le h.lt hb.size⟩
theorem find_take_none {xs : List Dir} {p : Dir → Bool} {k : Nat} (h : k < xs.length) (hn : (xs.take k).find? p = none) (hp : p xs[k] = false) : (xs.take (k + 1)).find? p = none := by
  rw [List.take_succ_eq_append_getElem h, List.find?_append, hn]; simp [hp]
theorem find_take_some {xs : List Dir} {p : Dir → Bool} {k : Nat} (h : k < xs.length) (hn : (xs.take k).find? p = none) (hp : p xs[k] = true) : xs.find? p = some xs[k] := by
  have e : xs = xs.take (k + 1) ++ xs.drop (k + 1) := (List.take_append_drop _ _).symm
  have e2 : (xs.take (k + 1)).find? p = some xs[k] := by rw [List.take_succ_eq_append_getElem h, List.find?_append, hn]; simp [hp]
  have e3 : (xs.take (k + 1) ++ xs.drop (k + 1)).find? p = some xs[k] := by rw [List.find?_append, e2]; rfl
  rw [← e] at e3; exact e3

set_option maxHeartbeats 8000000 in
theorem rfind_any (A : Option Addr) (n c : Nat) (xs : List Dir) (nm : ByteArray) (w : World) (hr : Rd A n 4 (dirsV xs) w) (hn : n ≤ 1000000) (hx : ∀ d ∈ xs, d.name.length ≤ 140737488351232) (hnm : nm.size ≤ 140737488351232) :
    Calls Tryz.prog 60 #[.slice A n c, .string nm] w fun e w' => e = .returned (saidV (findO xs nm.data.toList)) ∧ Below w.heap.size w w' := by
  obtain rfl := hr.dir
  obtain ⟨W0, hW0⟩ : ∃ W0, w.alloc (.cells #[.string ⟨#[]⟩, .string ⟨#[]⟩, .bool false, .string ⟨#[]⟩] 84) = W0 := ⟨_, rfl⟩
  have hB0 : Below w.heap.size w W0 := by rw [← hW0]; exact (Below.refl w.heap.size w).alloc (Nat.le_refl _) _
  have h4 := at4_alloc w (.string ⟨#[]⟩) (.string ⟨#[]⟩) (.bool false) (.string ⟨#[]⟩) 84
  rw [hW0] at h4
  have HW0 := Lib.hid hW0; clear hW0
  have hstep := fun k (h : k < xs.length) => @find_take_none xs (fun d => lowerL d.name == lowerL nm.data.toList) k h
  have hhit := fun k (h : k < xs.length) => @find_take_some xs (fun d => lowerL d.name == lowerL nm.data.toList) k h
  have hend : ∀ k, k = xs.length → (xs.take k).find? (fun d => lowerL d.name == lowerL nm.data.toList) = none → findO xs nm.data.toList = none := fun k hk h => by
    subst hk; rw [List.take_length] at h; exact h
  have hfo : findO xs nm.data.toList = xs.find? (fun d => lowerL d.name == lowerL nm.data.toList) := rfl
  rw [← hfo] at hhit
  clear hfo
  generalize findO xs nm.data.toList = out at *
  have HR := Lib.hid hr; have HX := Lib.hid hx; have HS := Lib.hid hstep; have HH := Lib.hid hhit; have HE := Lib.hid hend
  have hb0 := Below.refl W0.heap.size W0
  clear hr hx hstep hhit hend
  go_enter Tryz.func60, Tryz.ntmps60
  go_wp2_with fail
  rw [HW0.out]
  go_loopw [6] (fun i wr => ∃ k : Nat, k ≤ xs.length ∧ i = .int .i64 k ∧ Hid ((xs.take k).find? (fun d => lowerL d.name == lowerL nm.data.toList) = none) ∧ Below W0.heap.size W0 wr) (fun i _ => xs.length - (intOf i).toNat)
  case atStart => exact ⟨0, Nat.zero_le _, rfl, Lib.hid (by simp), hb0⟩
  case round =>
    clear hb0
    obtain ⟨k, hk, rfl, HN, hbr⟩ := hrel
    by_cases hlt : k < xs.length
    · obtain ⟨b, o, rfl, hl, x0, x1, x2, x3⟩ := (HR.out.below (hB0.trans (hbr.mono hB0.size))).dir_at (k := k) hlt
      have hd := HX.out xs[k] (List.getElem_mem _)
      have hst := HS.out k hlt HN.out
      have hht := HH.out k hlt HN.out
      generalize xs[k] = d at *
      obtain ⟨dn, dv, dh, df⟩ := d
      simp only at x0 x1 x2 x3 hd hst hht
      have k1 := rsame_wide ⟨dn.toArray⟩ nm wr (by rw [Lib.size_eq]; exact hd) hnm
      simp only at k1
      cases hq : (lowerL dn == lowerL nm.data.toList)
      · rw [hq] at k1
        have HN2 := Lib.hid (hst hq)
        have K1 := Lib.hid k1
        clear hst hht k1 hq hd HS HH HE HX HN
        go_wp2_with fail
        refine K1.out.mono ?_
        rintro e w1 ⟨rfl, hb1⟩
        go_wp2
        go_roundw
        case rel => exact ⟨k + 1, by omega, by go_num, HN2, bt hbr hb1⟩
        case measure => simp [intOf]; omega
      · rw [hq] at k1
        have ho := hht hq
        subst ho
        have K1 := Lib.hid k1
        clear hst hht k1 hq hd HS HH HE HX HN
        go_wp2_with fail
        refine K1.out.mono ?_
        rintro e w1 ⟨rfl, hb1⟩
        have hB1 := bt hbr hb1
        have x0' := (hb1.cell (p := ⟨b, o + k * 4, none⟩) hl).trans x0
        have x1' := (hb1.cell (p := ⟨b, o + k * 4 + 1, none⟩) hl).trans x1
        have x2' := (hb1.cell (p := ⟨b, o + k * 4 + 2, none⟩) hl).trans x2
        have x3' := (hb1.cell (p := ⟨b, o + k * 4 + 3, none⟩) hl).trans x3
        obtain ⟨g0, g1, g2, g3, q0, q1, q2, q3, glt⟩ := h4.below hB1
        have hBw := hB0.trans (hB1.mono hB0.size)
        clear x0 x1 x2 x3 hb1 hB1
        go_wp2_with fail
        refine bodyPost_ret_by (v := .tuple #[.agg #[.string ⟨dn.toArray⟩, .string ⟨dv.toArray⟩, .bool dh, .string ⟨df.toArray⟩], .bool true]) ?_ rfl ?_
        · rw [results_cell_tmp rfl]
          go_simp
        · exact ⟨rfl, (((hBw.setCell (p := ⟨w.heap.size, 0, none⟩) (Nat.le_refl _) _).setCell (p := ⟨w.heap.size, 1, none⟩) (Nat.le_refl _) _).setCell (p := ⟨w.heap.size, 2, none⟩) (Nat.le_refl _) _).setCell (p := ⟨w.heap.size, 3, none⟩) (Nat.le_refl _) _⟩
    · have ho := HE.out k (by omega) HN.out
      subst ho
      clear HS HH HE HX HN
      obtain ⟨g0, g1, g2, g3, q0, q1, q2, q3, glt⟩ := h4.below hbr
      have hBw := hB0.trans (hbr.mono hB0.size)
      go_wp2_with fail
      refine bodyPost_ret_by (v := .tuple #[.agg #[.string ⟨#[]⟩, .string ⟨#[]⟩, .bool false, .string ⟨#[]⟩], .bool false]) ?_ rfl ?_
      · rw [results_cell_tmp rfl]
        go_simp
      · exact ⟨rfl, (((hBw.setCell (p := ⟨w.heap.size, 0, none⟩) (Nat.le_refl _) _).setCell (p := ⟨w.heap.size, 1, none⟩) (Nat.le_refl _) _).setCell (p := ⟨w.heap.size, 2, none⟩) (Nat.le_refl _) _).setCell (p := ⟨w.heap.size, 3, none⟩) (Nat.le_refl _) _⟩
end Go.Proofs.YtcgdcbnhpbokfaaGreatDoor
/- The walk of directive.Find (layer 11). -/
namespace Go.Proofs.YtcgdcbnhpbokfaaGreatDoor
open Go.RowKit
set_option maxRecDepth 100000

/-- The first that it holds for. -/
def firstI (p : Dir → Bool) (xs : List Dir) : Int := match xs.findIdx? p with | some k => k | none => -1

set_option maxHeartbeats 4000000 in
theorem findF_any (T : Nat) (nm : ByteArray) (d : Dir) (w : World) (hT : w.cell? ⟨T, 0, none⟩ = some (.string nm)) (hTw : T < w.heap.size) (hd : d.name.length ≤ 140737488351232) (hnm : nm.size ≤ 140737488351232) :
    Calls Tryz.prog 159 #[.agg #[.string ⟨d.name.toArray⟩, .string ⟨d.value.toArray⟩, .bool d.has, .string ⟨d.for_.toArray⟩], .pointer (some ⟨T, 0, none⟩)] w fun e w' => e = .returned (.bool (lowerL d.name == lowerL nm.data.toList)) ∧ Below w.heap.size w w' := by
  obtain ⟨dn, dv, dh, df⟩ := d
  simp only at hd
  have hal := (Below.refl w.heap.size w).alloc (Nat.le_refl _) (.cells #[.string ⟨dn.toArray⟩, .string ⟨dv.toArray⟩, .bool dh, .string ⟨df.toArray⟩] 84)
  have k1 := fun W => tsame_wide ⟨dn.toArray⟩ nm W (by rw [Lib.size_eq]; exact hd) hnm
  simp only at k1
  have hT2 := (hal.cell (p := ⟨T, 0, none⟩) hTw).trans hT
  have K1 := Lib.hid k1; clear k1
  go_enter Tryz.func159, Tryz.ntmps159
  go_wp2_with fail
  refine (K1.out _).mono ?_
  rintro e w1 ⟨rfl, hb1⟩
  go_wp2
  go_ret
  exact ⟨rfl, hal.trans (hb1.mono (by simp))⟩

set_option maxHeartbeats 4000000 in
theorem indexF_any (T : Nat) (nm : ByteArray) (A : Option Addr) (n c : Nat) (xs : List Dir) (w : World) (hr : Rd A n 4 (dirsV xs) w) (hn : n ≤ 1000000) (hT : w.cell? ⟨T, 0, none⟩ = some (.string nm)) (hTw : T < w.heap.size) (hx : ∀ d ∈ xs, d.name.length ≤ 140737488351232) (hnm : nm.size ≤ 140737488351232) :
    Calls Tryz.prog 127 #[.slice A n c, .func (.func 159) #[] #[.pointer (some ⟨T, 0, none⟩)]] w fun e w' => e = .returned (.int .i64 (firstI (fun d => lowerL d.name == lowerL nm.data.toList) xs)) ∧ Below w.heap.size w w' := by
  obtain rfl := hr.dir
  have hstep := fun k (h : k < xs.length) => @find_take_none xs (fun d => lowerL d.name == lowerL nm.data.toList) k h
  have hhit : ∀ k (h : k < xs.length), (xs.take k).find? (fun d => lowerL d.name == lowerL nm.data.toList) = none → (lowerL (xs[k]).name == lowerL nm.data.toList) = true → firstI (fun d => lowerL d.name == lowerL nm.data.toList) xs = k := by
    intro k h hno hp
    unfold firstI
    rw [show xs.findIdx? (fun d => lowerL d.name == lowerL nm.data.toList) = some k from by
      rw [List.findIdx?_eq_some_iff_getElem]
      refine ⟨h, hp, fun j hj => ?_⟩
      rw [List.find?_eq_none] at hno
      refine hno xs[j] ?_
      rw [List.mem_take_iff_getElem]
      exact ⟨j, by omega, rfl⟩]
  have hend : ∀ k, k = xs.length → (xs.take k).find? (fun d => lowerL d.name == lowerL nm.data.toList) = none → firstI (fun d => lowerL d.name == lowerL nm.data.toList) xs = -1 := by
    intro k hk h
    subst hk
    rw [List.take_length] at h
    unfold firstI
    rw [show xs.findIdx? (fun d => lowerL d.name == lowerL nm.data.toList) = none from by
      rw [List.findIdx?_eq_none_iff]
      rw [List.find?_eq_none] at h
      intro x hx'; simpa using h x hx']
  have hc := fun d W h1 h2 h3 => findF_any T nm d W h1 h2 h3 hnm
  generalize firstI (fun d => lowerL d.name == lowerL nm.data.toList) xs = out at *
  have HR := Lib.hid hr; have HX := Lib.hid hx; have HS := Lib.hid hstep; have HH := Lib.hid hhit; have HE := Lib.hid hend; have HC := Lib.hid hc; have HT := Lib.hid hT
  clear hr hx hstep hhit hend hc hT
  go_enter Tryz.func127, Tryz.ntmps127
  go_wp2_with fail
  go_loopw [8] (fun i wr => ∃ k : Nat, k ≤ xs.length ∧ i = .int .i64 k ∧ Hid ((xs.take k).find? (fun d => lowerL d.name == lowerL nm.data.toList) = none) ∧ Below w.heap.size w wr) (fun i _ => xs.length - (intOf i).toNat)
  case atStart => exact ⟨0, Nat.zero_le _, rfl, Lib.hid (by simp), Below.refl _ _⟩
  case round =>
    obtain ⟨k, hk, rfl, HN, hbr⟩ := hrel
    by_cases hlt : k < xs.length
    · obtain ⟨b, o, rfl, hl, x0, x1, x2, x3⟩ := (HR.out.below hbr).dir_at (k := k) hlt
      have hd := HX.out xs[k] (List.getElem_mem _)
      have hst := HS.out k hlt HN.out
      have hht := HH.out k hlt HN.out
      have k1 := HC.out xs[k] wr ((hbr.cell (p := ⟨T, 0, none⟩) hTw).trans HT.out) (Nat.lt_of_lt_of_le hTw hbr.size) hd
      generalize xs[k] = d at *
      obtain ⟨dn, dv, dh, df⟩ := d
      simp only at x0 x1 x2 x3 hd hst hht k1
      cases hq : (lowerL dn == lowerL nm.data.toList)
      · rw [hq] at k1
        have HN2 := Lib.hid (hst hq)
        have K1 := Lib.hid k1
        clear hst hht k1 hq hd HS HH HE HX HN HC
        go_wp2_with fail
        refine K1.out.mono ?_
        rintro e w1 ⟨rfl, hb1⟩
        have hB1 := hbr.trans (hb1.mono hbr.size)
        go_wp2
        go_roundw
        case rel => exact ⟨k + 1, by omega, by go_num, HN2, hB1⟩
        case measure => simp [intOf]; omega
      · rw [hq] at k1
        have ho := hht hq
        subst ho
        have K1 := Lib.hid k1
        clear hst hht k1 hq hd HS HH HE HX HN HC
        go_wp2_with fail
        refine K1.out.mono ?_
        rintro e w1 ⟨rfl, hb1⟩
        have hB1 := hbr.trans (hb1.mono hbr.size)
        go_wp2
        go_ret
        exact ⟨rfl, hB1⟩
    · have ho := HE.out k (by omega) HN.out
      subst ho
      clear HS HH HE HX HN HC
      go_wp2
      go_ret
      exact ⟨rfl, hbr⟩
theorem firstI_find (p : Dir → Bool) (xs : List Dir) : (xs.find? p = none ∧ firstI p xs = -1) ∨ ∃ k, ∃ h : k < xs.length, xs.find? p = some xs[k] ∧ firstI p xs = (k : Int) := by
  unfold firstI
  cases hi : xs.findIdx? p with
  | none =>
    refine Or.inl ⟨?_, rfl⟩
    rw [List.findIdx?_eq_none_iff] at hi
    rw [List.find?_eq_none]
    intro x hx; simpa using hi x hx
  | some k =>
    rw [List.findIdx?_eq_some_iff_getElem] at hi
    obtain ⟨h, hp, hno⟩ := hi
    refine Or.inr ⟨k, h, ?_, rfl⟩
    refine find_take_some h ?_ hp
    rw [List.find?_eq_none]
    intro x hx
    rw [List.mem_take_iff_getElem] at hx
    obtain ⟨j, hj, rfl⟩ := hx
    have := hno j (by omega)
    simpa using this

set_option maxHeartbeats 4000000 in
theorem find_any (A : Option Addr) (n c : Nat) (xs : List Dir) (nm : ByteArray) (w : World) (hr : Rd A n 4 (dirsV xs) w) (hn : n ≤ 1000000) (hx : ∀ d ∈ xs, d.name.length ≤ 140737488351232) (hnm : nm.size ≤ 140737488351232) :
    Calls Tryz.prog 114 #[.slice A n c, .string nm] w fun e w' => e = .returned (saidV (findO xs nm.data.toList)) ∧ Below w.heap.size w w' := by
  obtain rfl := hr.dir
  obtain ⟨W0, hW0⟩ : ∃ W0, w.alloc (.cells #[.string nm] 9) = W0 := ⟨_, rfl⟩
  have hB0 : Below w.heap.size w W0 := by rw [← hW0]; exact (Below.refl _ w).alloc (Nat.le_refl _) _
  have hT0 : W0.cell? ⟨w.heap.size, 0, none⟩ = some (.string nm) := by rw [← hW0]; exact World.cell?_alloc_mark w _ _ _ 0
  have z0 : W0.heap.size = w.heap.size + 1 := by rw [← hW0]; simp
  obtain ⟨W1, hW1⟩ : ∃ W1, W0.alloc (.cells #[.string ⟨#[]⟩, .string ⟨#[]⟩, .bool false, .string ⟨#[]⟩] 84) = W1 := ⟨_, rfl⟩
  have hb01 : Below W0.heap.size W0 W1 := by rw [← hW1]; exact (Below.refl _ W0).alloc (Nat.le_refl _) _
  have hB1 : Below w.heap.size w W1 := hB0.trans (hb01.mono hB0.size)
  have h4 := at4_alloc W0 (.string ⟨#[]⟩) (.string ⟨#[]⟩) (.bool false) (.string ⟨#[]⟩) 84
  rw [hW1, z0] at h4
  have hTw0 : w.heap.size < W0.heap.size := by omega
  have hT : W1.cell? ⟨w.heap.size, 0, none⟩ = some (.string nm) := (hb01.cell (p := ⟨w.heap.size, 0, none⟩) hTw0).trans hT0
  have hTw : w.heap.size < W1.heap.size := Nat.lt_of_lt_of_le hTw0 hb01.size
  have k1 := indexF_any w.heap.size nm A xs.length c xs W1 (hr.below hB1) hn hT hTw hx hnm
  have hcase := firstI_find (fun d => lowerL d.name == lowerL nm.data.toList) xs
  have hfo : findO xs nm.data.toList = xs.find? (fun d => lowerL d.name == lowerL nm.data.toList) := rfl
  rw [hfo]
  clear hfo
  generalize xs.find? (fun d => lowerL d.name == lowerL nm.data.toList) = out at *
  generalize firstI (fun d => lowerL d.name == lowerL nm.data.toList) xs = ix at *
  have HR := Lib.hid (hr.below hB1); have HW0 := Lib.hid hW0; have HW1 := Lib.hid hW1; have K1 := Lib.hid k1
  clear hr hW0 hW1 k1 hx hT hT0 z0 hTw0
  rcases hcase with ⟨rfl, rfl⟩ | ⟨k, hk, rfl, rfl⟩
  · go_enter Tryz.func114, Tryz.ntmps114
    go_wp2_with fail
    rw [HW0.out, HW1.out]
    refine K1.out.mono ?_
    rintro e w2 ⟨rfl, hb2⟩
    have hB2 := hB1.trans (hb2.mono hB1.size)
    obtain ⟨g0, g1, g2, g3, q0, q1, q2, q3, glt⟩ := h4.below hb2
    clear hb2
    go_wp2_with fail
    refine bodyPost_ret_by (v := .tuple #[.agg #[.string ⟨#[]⟩, .string ⟨#[]⟩, .bool false, .string ⟨#[]⟩], .bool false]) ?_ rfl ?_
    · rw [results_cell_tmp rfl]
      go_simp
    · exact ⟨rfl, (((hB2.setCell (p := ⟨w.heap.size + 1, 0, none⟩) (Nat.le_succ _) _).setCell (p := ⟨w.heap.size + 1, 1, none⟩) (Nat.le_succ _) _).setCell (p := ⟨w.heap.size + 1, 2, none⟩) (Nat.le_succ _) _).setCell (p := ⟨w.heap.size + 1, 3, none⟩) (Nat.le_succ _) _⟩
  · obtain ⟨d, hd⟩ : ∃ d, xs[k] = d := ⟨_, rfl⟩
    rw [hd]
    have HD := Lib.hid hd
    clear hd
    obtain ⟨dn, dv, dh, df⟩ := d
    go_enter Tryz.func114, Tryz.ntmps114
    go_wp2_with fail
    rw [HW0.out, HW1.out]
    refine K1.out.mono ?_
    rintro e w2 ⟨rfl, hb2⟩
    have hB2 := hB1.trans (hb2.mono hB1.size)
    obtain ⟨b, o, rfl, hl, x0, x1, x2, x3⟩ := (HR.out.below hb2).dir_at (k := k) hk
    rw [HD.out] at x0 x1 x2 x3
    simp only at x0 x1 x2 x3
    obtain ⟨g0, g1, g2, g3, q0, q1, q2, q3, glt⟩ := h4.below hb2
    clear hb2
    go_wp2_with fail
    refine bodyPost_ret_by (v := .tuple #[.agg #[.string ⟨dn.toArray⟩, .string ⟨dv.toArray⟩, .bool dh, .string ⟨df.toArray⟩], .bool true]) ?_ rfl ?_
    · rw [results_cell_tmp rfl]
      go_simp
    · exact ⟨rfl, (((hB2.setCell (p := ⟨w.heap.size + 1, 0, none⟩) (Nat.le_succ _) _).setCell (p := ⟨w.heap.size + 1, 1, none⟩) (Nat.le_succ _) _).setCell (p := ⟨w.heap.size + 1, 2, none⟩) (Nat.le_succ _) _).setCell (p := ⟨w.heap.size + 1, 3, none⟩) (Nat.le_succ _) _⟩
end Go.Proofs.YtcgdcbnhpbokfaaGreatDoor
/- The walk of the law's told (layer 11). -/
namespace Go.Proofs.YtcgdcbnhpbokfaaGreatDoor
open Go.RowKit
set_option maxRecDepth 100000

def toldP (b : Bool) (d : Dir) : List UInt8 := (bif b then [32] else []) ++ (d.name ++ (bif d.has then 61 :: d.value else []))
def toldS (b : Bool) : List Dir → List UInt8
  | [] => []
  | d :: r => toldP b d ++ toldS true r
end Go.Proofs.YtcgdcbnhpbokfaaGreatDoor
/- The walk of the law's awake (layer 11). -/
namespace Go.Proofs.YtcgdcbnhpbokfaaGreatDoor
open Go.RowKit
set_option maxRecDepth 100000

def aw1 : List UInt8 := [78, 111, 45, 67, 97, 99, 104, 101, 44, 32, 109, 97, 120, 45, 97, 103, 101, 61, 53]
def aw2 : List UInt8 := [109, 97, 120, 45, 97, 103, 101, 61, 57, 44, 32, 34, 120]
def aw3 : List UInt8 := [97, 61, 34, 120, 44, 121, 34, 44, 32, 98]
def dw1 : List Dir := [⟨[110, 111, 45, 99, 97, 99, 104, 101], [], false, []⟩, ⟨[109, 97, 120, 45, 97, 103, 101], [53], true, []⟩]
def dw2 : List Dir := [⟨noStore, [], false, []⟩]
def dw3 : List Dir := [⟨[97], [120, 44, 121], true, []⟩, ⟨[98], [], false, []⟩]
end Go.Proofs.YtcgdcbnhpbokfaaGreatDoor
/- What came in, opened: texts and fields in slices; replies and entries by value. -/
namespace Go.Proofs.YtcgdcbnhpbokfaaGreatDoor
open Go.ChangeShapes Go.WideShapes Go.RowKit
set_option maxRecDepth 100000

/-- The form's own reach: each string, slice and map within d. -/
def Reach {H : Type} (T : TypeId) (d : DataW H) : Prop := ∀ n ∈ d.weights Tryz.prog T, n ≤ reachBytes
theorem reach_each {H : Type} {ts : List TypeId} {ds : List (DataW H)} (h : (DataW.weightsEach Tryz.prog ts ds).all (· ≤ reachBytes) = true) {j : Nat} {t : TypeId} {d : DataW H} (ht : ts[j]? = some t) (hd : ds[j]? = some d) : Reach t d :=
  fun n hn => of_decide_eq_true (List.all_eq_true.1 h n (DataW.weights_mem_each ht hd n hn))
theorem reach_str {H : Type} {T : TypeId} {l : List UInt8} (h : Reach (H := H) T (.lit (.string l))) : l.length ≤ reachBytes := h _ (by simp [DataW.weights])
theorem weightsAll_mem' {H : Type} {e : TypeId} : ∀ {ds : List (DataW H)} {d : DataW H}, d ∈ ds → ∀ n ∈ d.weights Tryz.prog e, n ∈ DataW.weightsAll Tryz.prog e ds
  | x :: r, d, hd, n, hn => by
    simp only [DataW.weightsAll, List.mem_append]
    rcases List.mem_cons.1 hd with rfl | h
    · exact Or.inl hn
    · exact Or.inr (weightsAll_mem' h n hn)
theorem reach_elem {H : Type} {t e : TypeId} (hu : Tryz.prog.underlying t = some (.slice e)) {elems spare : List (DataW H)} (h : Reach t (.slice elems spare)) {d : DataW H} (hd : d ∈ elems) : Reach e d := by
  intro n hn
  refine h n ?_
  simp only [DataW.weights, hu, List.mem_cons, List.mem_append]
  exact Or.inr (Or.inl (weightsAll_mem' hd n hn))
theorem reach_len {H : Type} {t e : TypeId} (hu : Tryz.prog.underlying t = some (.slice e)) {elems spare : List (DataW H)} (h : Reach t (.slice elems spare)) : elems.length * Tryz.prog.bytesOf e ≤ reachBytes := by
  have := h ((elems.length + spare.length) * Tryz.prog.bytesOf e) (by simp [DataW.weights, hu])
  exact Nat.le_trans (Nat.mul_le_mul_right _ (by omega)) this
theorem reach_part {H : Type} {t : TypeId} {fs : Array Field} (hu : Tryz.prog.underlying t = some (.struct fs)) {parts : List (DataW H)} (h : Reach t (.agg parts)) {j : Nat} {f : Field} {d : DataW H} (hf : fs[j]? = some f) (hd : parts[j]? = some d) : Reach f.type d := by
  intro n hn
  refine h n ?_
  simp only [DataW.weights, hu]
  exact DataW.weights_mem_each (j := j) (by simp [hf]) hd n hn

theorem two_of {α : Type} : ∀ (l : List α), l.length = 2 → ∃ u v, l = [u, v]
  | [u, v], _ => ⟨u, v, rfl⟩
theorem exists_listL {α : Type} (n : Nat) (Pr : Nat → α → Prop) (h : ∀ i, i < n → ∃ x, Pr i x) : ∃ xs : List α, xs.length = n ∧ ∀ i (hi : i < xs.length), Pr i xs[i] := by
  induction n with
  | zero => exact ⟨[], rfl, fun i hi => by simp at hi⟩
  | succ n ih =>
    obtain ⟨xs, hl, hx⟩ := ih (fun i hi => h i (by omega))
    obtain ⟨x, hx1⟩ := h n (by omega)
    refine ⟨xs ++ [x], by simp [hl], fun i hi => ?_⟩
    rw [List.length_append, List.length_singleton] at hi
    by_cases hin : i < xs.length
    · rw [List.getElem_append_left hin]; exact hx i hin
    · have : i = n := by omega
      subst this
      rw [List.getElem_append_right (by omega)]
      simpa [hl] using hx1

section
variable {H : Type} {enc : TypeId × Value → H} {W : World}
/-- A slice of texts that came in. -/
theorem open_texts {fuel : Nat} {cs : List Value} {x : DataW H × List MemPlace} (h : DataW.trod enc Tryz.prog W 0 (fun _ => true) true fuel 46 cs = some x) (hr : Reach 46 x.1) :
    ∃ A n c ls, cs = [.slice A n c] ∧ Rd A n 1 (strsV ls) W ∧ n * 16 ≤ reachBytes ∧ ∀ l ∈ ls, l.length ≤ reachBytes := by
  rcases Go.Deep.open_slice Tryz.underlying46 h with ⟨rfl, rfl⟩ | ⟨a, len, cap, m, n, D, Pl, rfl, hb, hl, hm, hmm, rfl, hi⟩
  · exact ⟨none, 0, 0, [], rfl, Rd.nil, by decide, by simp⟩
  · simp only [if_true] at hmm
    subst hmm
    have hc1 : Tryz.prog.cellsOf 9 = 1 := by kernel_rfl
    have key : ∀ i, i < len → ∃ s : List UInt8, W.cell? (a.add i) = some (.string ⟨s.toArray⟩) ∧ D i = .lit (.string s) := by
      intro i hi'
      obtain ⟨cs', hcs, ht⟩ := hi i (by omega)
      rw [hc1, Nat.mul_one] at hcs
      obtain ⟨s, rfl, hx, _⟩ := DataW.trod_string Tryz.underlying9 ht
      obtain ⟨_, _, hat⟩ := World.cells?_some hcs
      refine ⟨s.data.toList, ?_, congrArg Prod.fst hx⟩
      have := hat 0 (by omega)
      rw [str_of]
      simpa [Addr.add] using this
    obtain ⟨ls, hll, hls⟩ := exists_listL len _ key
    refine ⟨some a, len, _, ls, rfl, ⟨by simp [strsV, hll], fun hn => ?_⟩, ?_, ?_⟩
    · have hspot : a.spot = none := by
        have := World.cell?_spot (hls 0 (by omega)).1
        simpa [Addr.add] using this
      obtain ⟨b, o, spot⟩ := a
      simp only at hspot
      subst hspot
      refine ⟨b, o, rfl, ?_, fun j u hu => ?_⟩
      · rcases Nat.lt_or_ge b W.heap.size with h' | h'
        · exact h'
        · have := (hls 0 (by omega)).1
          simp [World.cell?, Addr.add, Array.getElem?_eq_none h'] at this
      · have hj : j < ls.length := by have := (List.getElem?_eq_some_iff.1 hu).1; simpa [strsV] using this
        have h1 := (hls j hj).1
        have e : (⟨b, o, none⟩ : Addr).add j = ⟨b, o + j, none⟩ := by unfold Addr.add; split <;> simp_all
        rw [e] at h1
        rw [h1, ← hu]; simp [strsV, hj]
    · have := reach_len Tryz.underlying46 hr
      rw [List.length_map, List.length_range, show Tryz.prog.bytesOf 9 = 16 from by kernel_rfl] at this
      exact this
    · intro l hl'
      obtain ⟨i, hi', e⟩ := List.mem_iff_getElem.1 hl'
      have h2 := (hls i hi').2
      rw [e] at h2
      exact reach_str (reach_elem Tryz.underlying46 hr (List.mem_map.2 ⟨i, List.mem_range.2 (by omega), h2⟩))
theorem open_texts_v {base : Nat} {v : Value} {d : DataW H} {p : List MemPlace} (hv : Value.okWide Tryz.prog W .any base 46 v) (h : DataW.Trod enc Tryz.prog W 0 (fun _ => true) true 46 v d p) (hr : Reach 46 d) :
    ∃ A n c ls, v = .slice A n c ∧ Rd A n 1 (strsV ls) W ∧ n * 16 ≤ reachBytes ∧ ∀ l ∈ ls, l.length ≤ reachBytes := by
  obtain ⟨a0, len, cap, rfl⟩ := okWide_slice Tryz.underlying46 hv
  obtain ⟨fuel, hf⟩ := h
  have hf' : DataW.trod enc Tryz.prog W 0 (fun _ => true) true fuel 46 [.slice a0 len cap] = some (d, p) := hf
  obtain ⟨A, n, c, xs, e, r⟩ := open_texts hf' hr
  exact ⟨A, n, c, xs, (List.cons.inj e).1, r⟩
end
end Go.Proofs.YtcgdcbnhpbokfaaGreatDoor
/- Slices of directives that came in, opened. -/
namespace Go.Proofs.YtcgdcbnhpbokfaaGreatDoor
open Go.ChangeShapes Go.WideShapes Go.RowKit
set_option maxRecDepth 100000

/-- A directive within the form's reach. -/
def DirR (d : Dir) : Prop := d.name.length ≤ reachBytes ∧ d.value.length ≤ reachBytes ∧ d.for_.length ≤ reachBytes
section
variable {H : Type} {enc : TypeId × Value → H} {W : World}
def dirD (d : Dir) : DataW H := .agg [.lit (.string d.name), .lit (.string d.value), .lit (.bool d.has), .lit (.string d.for_)]
end
end Go.Proofs.YtcgdcbnhpbokfaaGreatDoor
/- DirectiveFinds: the walk of the law, and the law as it is handed in. -/
namespace Go.Proofs.YtcgdcbnhpbokfaaGreatDoor
open Go.RowKit Go.ChangeShapes Go.WideShapes
set_option maxRecDepth 100000

end Go.Proofs.YtcgdcbnhpbokfaaGreatDoor
/- The walk of the law's few (layer 11). -/
namespace Go.Proofs.YtcgdcbnhpbokfaaGreatDoor
open Go.RowKit
set_option maxRecDepth 100000

def fewD (vs : List (List UInt8)) : Bool := (vs.take 30).all (fun v => decide (v.length ≤ 2000)) && decide (vs.length ≤ 20)
end Go.Proofs.YtcgdcbnhpbokfaaGreatDoor
/- The walk of the document's Trim. -/
namespace Go.Proofs.YtcgdcbnhpbokfaaGreatDoor
open Go.RowKit

/-- blank? as the document asks it. -/
def blankI (n : Int) : Bool := (n == 32) || (n == 9)
theorem blank_eq (c : UInt8) : blankI c.toNat = blanks.contains c := by
  have h : ∀ x : UInt8, ((c.toNat : Int) == (x.toNat : Int)) = (c == x) := by
    intro x; rw [Bool.eq_iff_iff, beq_iff_eq, beq_iff_eq, ← UInt8.toNat_inj]; omega
  have h1 := h 32; have h2 := h 9
  unfold blankI blanks
  rw [show ((c.toNat : Int) == 32) = (c == 32) from h1, show ((c.toNat : Int) == 9) = (c == 9) from h2]
  rw [Bool.eq_iff_iff]; simp
theorem trim_cut (s : ByteArray) (f t : Nat) (hft : f ≤ t) (ht : t ≤ s.size) (h1 : ∀ j (h : j < s.size), j < f → blanks.contains s[j] = true) (h2 : ∀ h : f < s.size, f < t → blanks.contains s[f] = false)
    (h3 : ∀ j (h : j < s.size), t ≤ j → blanks.contains s[j] = true) (h4 : f < t → ∀ h : t - 1 < s.size, blanks.contains s[t - 1] = false) :
    s.extract f t = ⟨(trimL s.data.toList).toArray⟩ := by
  have at' : ∀ j b, s.data.toList[j]? = some b → ∃ h : j < s.size, s[j] = b := by
    intro j b hb
    obtain ⟨h, e⟩ := List.getElem?_eq_some_iff.1 hb
    exact ⟨by rw [Lib.size_eq]; exact h, by rw [at_list]; exact e⟩
  apply str_eq
  rw [Lib.extract_data]
  show _ = trimL s.data.toList
  unfold trimL Lib.trimS
  by_cases hlt : f < t
  · have e1 : Lib.trimRightS s.data.toList blanks = s.data.toList.take t := by
      refine Lib.trimRightS_take _ _ t (by rw [← Lib.size_eq]; exact ht) (fun j b hj hb => ?_) (fun b _ hb => ?_)
      · obtain ⟨h, rfl⟩ := at' j b hb; exact h3 j h hj
      · obtain ⟨h, rfl⟩ := at' _ b hb; exact h4 hlt h
    rw [e1, Lib.trimLeftS_drop _ _ f (by rw [List.length_take, ← Lib.size_eq]; omega) (fun j b hj hb => ?_) (fun b hb => ?_), List.drop_take]
    · rw [List.getElem?_take_of_lt (by omega)] at hb
      obtain ⟨h, rfl⟩ := at' j b hb; exact h1 j h hj
    · rw [List.getElem?_take_of_lt (by omega)] at hb
      obtain ⟨h, rfl⟩ := at' f b hb; exact h2 h hlt
  · have e1 : Lib.trimRightS s.data.toList blanks = s.data.toList.take 0 := by
      refine Lib.trimRightS_take _ _ 0 (Nat.zero_le _) (fun j b _ hb => ?_) (fun b h0 _ => absurd h0 (by omega))
      obtain ⟨h, rfl⟩ := at' j b hb
      by_cases hj : j < f
      · exact h1 j h hj
      · exact h3 j h (by omega)
    rw [e1, show t - f = 0 from by omega]; simp [Lib.trimLeftS]

set_option maxHeartbeats 4000000 in
theorem rtrim_any (s : ByteArray) (w : World) (hs : s.size ≤ 1000000) :
    Calls Tryz.prog 149 #[.string s] w fun e w' => e = .returned (.string ⟨(trimL s.data.toList).toArray⟩) ∧ w = w' := by
  have hcut := trim_cut s
  generalize (⟨(trimL s.data.toList).toArray⟩ : ByteArray) = out at *
  have HC := Lib.hid hcut; clear hcut
  go_enter Tryz.func149, Tryz.ntmps149
  go_wp2
  go_loop [3] (fun a => ∃ f : Nat, f ≤ s.size ∧ a = .int .i64 f ∧ Hid (∀ j (h : j < s.size), j < f → blanks.contains s[j] = true)) (fun a => s.size - (intOf a).toNat)
  case atStart => exact ⟨0, Nat.zero_le _, rfl, fun j h h0 => absurd h0 (by omega)⟩
  case round =>
    obtain ⟨f, hf, rfl, H1⟩ := hrel
    by_cases hlt : f < s.size
    · have hbe := blank_eq s[f]
      cases hb : blankI s[f].toNat
      · -- the first that is no blank
        have h2 : ∀ t, ∀ h : f < s.size, f < t → blanks.contains s[f] = false := fun t h _ => by rw [← hbe, hb]
        have H2 := Lib.hid h2; clear h2 hbe
        have c1 : ((s[f].toNat : Int) == 32) = false := by unfold blankI at hb; simp at hb ⊢; exact hb.1
        have c2 : ((s[f].toNat : Int) == 9) = false := by unfold blankI at hb; simp at hb ⊢; exact hb.2
        clear hb
        go_wp2
        clear c1 c2
        go_loop [4] (fun a => ∃ t : Nat, f ≤ t ∧ t ≤ s.size ∧ a = .int .i64 t ∧ Hid (∀ j (h : j < s.size), t ≤ j → blanks.contains s[j] = true)) (fun a => (intOf a).toNat)
        case atStart => exact ⟨s.size, hf, Nat.le_refl _, rfl, fun j h h0 => absurd h0 (by omega)⟩
        case round =>
          obtain ⟨t, hft, hts, rfl, H3⟩ := hrel
          by_cases hlt2 : f < t
          · have htl : t - 1 < s.size := by omega
            have hbe := blank_eq s[t - 1]
            have d1 : (1 : Int) ≤ t := by omega
            cases hb : blankI s[t - 1].toNat
            · have hfin := HC.out f t hft hts H1.out (fun h h' => H2.out t h h') H3.out (fun _ _ => by rw [← hbe, hb])
              have HF := Lib.hid hfin; clear hfin hbe
              have c1 : ((s[t - 1].toNat : Int) == 32) = false := by unfold blankI at hb; simp at hb ⊢; exact hb.1
              have c2 : ((s[t - 1].toNat : Int) == 9) = false := by unfold blankI at hb; simp at hb ⊢; exact hb.2
              clear hb
              go_wp2
              go_ret
              exact ⟨by rw [← HF.out]; rfl, rfl⟩
            · have hn : ∀ j (h : j < s.size), t - 1 ≤ j → blanks.contains s[j] = true := by
                intro j h hj
                by_cases e : j = t - 1
                · subst e; rw [← hbe, hb]
                · exact H3.out j h (by omega)
              have HN := Lib.hid hn; clear hn hbe
              cases c1 : ((s[t - 1].toNat : Int) == 32) <;> cases c2 : ((s[t - 1].toNat : Int) == 9)
              · exfalso; unfold blankI at hb; rw [c1, c2] at hb; simp at hb
              all_goals
                clear hb
                go_wp2
                go_round
                case rel => exact ⟨t - 1, by omega, by omega, by go_num, HN⟩
                case measure => simp [intOf]; omega
          · have hfin := HC.out f t hft hts H1.out (fun h h' => H2.out t h h') H3.out (fun h => absurd h hlt2)
            have HF := Lib.hid hfin; clear hfin
            go_wp2
            go_ret
            exact ⟨by rw [← HF.out]; rfl, rfl⟩
      · have hn : ∀ j (h : j < s.size), j < f + 1 → blanks.contains s[j] = true := by
          intro j h hj
          by_cases e : j = f
          · subst e; rw [← hbe, hb]
          · exact H1.out j h (by omega)
        have HN := Lib.hid hn; clear hn hbe
        cases c1 : ((s[f].toNat : Int) == 32) <;> cases c2 : ((s[f].toNat : Int) == 9)
        · exfalso; unfold blankI at hb; rw [c1, c2] at hb; simp at hb
        all_goals
          clear hb
          go_wp2
          go_round
          case rel => exact ⟨f + 1, by omega, by go_num, HN⟩
          case measure => simp [intOf]; omega
    · have h2 : ∀ t, ∀ h : f < s.size, f < t → blanks.contains s[f] = false := fun t h _ => absurd h hlt
      have H2 := Lib.hid h2; clear h2
      · go_wp2
        go_loop [4] (fun a => ∃ t : Nat, f ≤ t ∧ t ≤ s.size ∧ a = .int .i64 t ∧ Hid (∀ j (h : j < s.size), t ≤ j → blanks.contains s[j] = true)) (fun a => (intOf a).toNat)
        case atStart => exact ⟨s.size, hf, Nat.le_refl _, rfl, fun j h h0 => absurd h0 (by omega)⟩
        case round =>
          obtain ⟨t, hft, hts, rfl, H3⟩ := hrel
          by_cases hlt2 : f < t
          · exact absurd hlt2 (by omega)
          · have hfin := HC.out f t hft hts H1.out (fun h h' => H2.out t h h') H3.out (fun h => absurd h hlt2)
            have HF := Lib.hid hfin; clear hfin
            go_wp2
            go_ret
            exact ⟨by rw [← HF.out]; rfl, rfl⟩
end Go.Proofs.YtcgdcbnhpbokfaaGreatDoor
/- The walks of the document's Quoted, Split and Texts. -/
namespace Go.Proofs.YtcgdcbnhpbokfaaGreatDoor
open Go.RowKit

theorem uBool : (Tryz.prog.info? 4).map (fun i => (i.zero, i.size, i.bytes)) = some (some (.bool false), 1, 1) := by kernel_rfl
def mask (F : List Bool) (i j : Nat) : Bool := decide (j < i) && F.getD j false
structure MaskAt (b : Nat) (F : List Bool) (i n : Nat) (w : World) : Prop where
  cells : ∀ j, j < n → w.cell? ⟨b, j, none⟩ = some (.bool (mask F i j))
  free : ∀ j, j < n → w.frozen? ⟨b, j, none⟩ = false
  lt : b < w.heap.size
theorem MaskAt.fresh (F : List Bool) (n : Nat) (w : World) : MaskAt w.heap.size F 0 n (w.alloc (.cells (madeCells #[.bool false] n) 4)) := by
  refine ⟨fun j hj => ?_, fun j hj => ?_, by simp⟩
  · rw [World.cell?_alloc_mark]
    have : mask F 0 j = false := by unfold mask; simp
    rw [this]; unfold madeCells; simp [hj, Nat.mod_one]
  · rw [World.frozen?_alloc_mark]; simp
theorem MaskAt.skip {b k n : Nat} {F : List Bool} {w : World} (h : MaskAt b F k n w) (e : F.getD k false = false) : MaskAt b F (k + 1) n w := by
  refine ⟨fun j hj => ?_, h.free, h.lt⟩
  rw [h.cells j hj]; congr 2
  unfold mask
  by_cases h2 : j = k
  · subst h2; rw [e]; simp
  · have : decide (j < k + 1) = decide (j < k) := by rw [decide_eq_decide]; omega
    rw [this]
theorem MaskAt.put {b k n : Nat} {F : List Bool} {w : World} (h : MaskAt b F k n w) (hk : k < n) (e : F.getD k false = true) : MaskAt b F (k + 1) n (w.setCell ⟨b, k, none⟩ (.bool true)) := by
  refine ⟨fun j hj => ?_, fun j hj => by rw [World.frozen?_setCell]; exact h.free j hj, by have := h.lt; simpa using this⟩
  have hc := h.cells j hj
  by_cases h2 : j = k
  · subst h2
    rw [World.cell?_setCell_same _ _ _ hc]
    unfold mask; rw [e]; simp
  · rw [World.cell?_setCell_other _ _ _ _ (by intro e; cases e; exact h2 rfl), hc]
    congr 2
    unfold mask
    have : decide (j < k + 1) = decide (j < k) := by rw [decide_eq_decide]; omega
    rw [this]
theorem MaskAt.any {b k n : Nat} {F : List Bool} {w : World} (h : MaskAt b F k n w) (hk : k < n) : ∃ v, w.cell? ⟨b, k, none⟩ = some v := ⟨_, h.cells k hk⟩
theorem getD_of_drop {F G : List Bool} {k : Nat} {x : Bool} (h : F.drop k = x :: G) : F.getD k false = x ∧ F.drop (k + 1) = G := by
  have h1 : F[k]? = some x := by
    have := List.getElem?_drop (xs := F) (i := k) (j := 0)
    rw [h] at this; simpa using this.symm
  refine ⟨by rw [List.getD_eq_getElem?_getD, h1]; rfl, ?_⟩
  have : F.drop (k + 1) = (F.drop k).drop 1 := by rw [List.drop_drop]
  rw [this, h]; rfl

theorem fl_out (c : UInt8) (r : List UInt8) (h : ((c.toNat : Int) == 34) = false) : fl false false (c :: r) = false :: fl false false r ∧ en false false (c :: r) = en false false r := by
  have := (beq_cast c.toNat 34).trans h; simp [fl, en, this]
theorem fl_open (c : UInt8) (r : List UInt8) (h : ((c.toNat : Int) == 34) = true) : fl false false (c :: r) = true :: fl true false r ∧ en false false (c :: r) = en true false r := by
  have := (beq_cast c.toNat 34).trans h; simp [fl, en, this]
theorem fl_close (c : UInt8) (r : List UInt8) (h : ((c.toNat : Int) == 34) = true) : fl true false (c :: r) = true :: fl false false r ∧ en true false (c :: r) = en false false r := by
  have h1 := (beq_cast c.toNat 34).trans h
  have h2 : (c.toNat == 92) = false := by simp at h1; simp [h1]
  simp [fl, en, h1, h2]
theorem fl_in (c : UInt8) (r : List UInt8) (h : ((c.toNat : Int) == 34) = false) (h9 : ((c.toNat : Int) == 92) = false) : fl true false (c :: r) = true :: fl true false r ∧ en true false (c :: r) = en true false r := by
  have h1 := (beq_cast c.toNat 34).trans h
  have h2 := (beq_cast c.toNat 92).trans h9
  simp [fl, en, h1, h2]
theorem fl_esc (c d : UInt8) (r : List UInt8) (h9 : ((c.toNat : Int) == 92) = true) : fl true false (c :: d :: r) = true :: true :: fl true false r ∧ en true false (c :: d :: r) = en true false r := by
  have h2 := (beq_cast c.toNat 92).trans h9
  simp [fl, en, h2]
theorem fl_last (c : UInt8) (h9 : ((c.toNat : Int) == 92) = true) : fl true false [c] = true :: fl true false [] ∧ en true false [c] = en true false [] := by
  have h2 := (beq_cast c.toNat 92).trans h9
  simp [fl, en, h2]

def QuotedPost (w : World) (s : ByteArray) (e : Ending) (w' : World) : Prop :=
  e = .returned (.tuple #[.slice (some ⟨w.heap.size, 0, none⟩) s.size s.size, .bool (!en false false s.data.toList)]) ∧ MaskAt w.heap.size (fl false false s.data.toList) s.size s.size w' ∧ Below w.heap.size w w'

set_option maxRecDepth 100000 in
set_option maxHeartbeats 4000000 in
theorem quoted_any (s : ByteArray) (w : World) (hs : s.size ≤ 1000000) :
    Calls Tryz.prog 148 #[.string s] w (QuotedPost w s) := by
  have hmk := run_make_row' (P := Tryz.prog) 173 4 (.bool false) 1 Tryz.underlying173 uBool rfl .i64 .i64 s.size (by omega) (by omega) w
  obtain ⟨F, hF⟩ : ∃ F, fl false false s.data.toList = F := ⟨_, rfl⟩
  obtain ⟨E, hE⟩ : ∃ E, en false false s.data.toList = E := ⟨_, rfl⟩
  have hm := MaskAt.fresh F s.size w
  have hb : Below w.heap.size w (w.alloc (.cells (madeCells #[.bool false] s.size) 4)) := (Below.refl _ w).alloc (Nat.le_refl _) _
  have HF := Lib.hid hF; have HE := Lib.hid hE
  clear hF hE
  generalize Obj.cells (madeCells #[Value.bool false] s.size) 4 = row at *
  have HM := Lib.hid hm; have HBL := Lib.hid hb; clear hm hb
  go_enter Tryz.func148, Tryz.ntmps148
  go_wp2
  clear hmk
  go_loopw [5] (fun i wr => ∃ k : Nat, k ≤ s.size ∧ i = .int .i64 k ∧ MaskAt w.heap.size F k s.size wr ∧ Below w.heap.size w wr ∧ Hid (F.drop k = fl false false (s.data.toList.drop k) ∧ E = en false false (s.data.toList.drop k))) (fun i _ => s.size - (intOf i).toNat)
  case atStart => exact ⟨0, Nat.zero_le _, rfl, HM.out, HBL.out, by show _ ∧ _; rw [List.drop_zero, List.drop_zero]; exact ⟨HF.out.symm, HE.out.symm⟩⟩
  case round =>
    clear HM HBL
    obtain ⟨k, hk, rfl, hM, hbw, HS⟩ := hrel
    have HM := Lib.hid hM; clear hM
    by_cases hlt : k < s.size
    · have hd := drop_cons s k hlt
      cases c34 : ((s[k].toNat : Int) == 34)
      · have h1 := HS.out
        rw [hd, (fl_out s[k] _ c34).1, (fl_out s[k] _ c34).2] at h1
        obtain ⟨g1, g2⟩ := getD_of_drop h1.1
        have HS2 := Lib.hid (And.intro g2 h1.2)
        have HM2 := Lib.hid (HM.out.skip g1)
        have n34 : ((s[k].toNat : Int) != 34) = true := by simp [bne, c34]
        clear hd h1 g1 g2
        go_wp2
        go_roundw
        case rel => exact ⟨k + 1, by omega, by go_num, HM2.out, hbw, HS2⟩
        case measure => simp [intOf]; omega
      · have h1 := HS.out
        rw [hd, (fl_open s[k] _ c34).1, (fl_open s[k] _ c34).2] at h1
        obtain ⟨g1, g2⟩ := getD_of_drop h1.1
        have HS2 := Lib.hid (And.intro g2 h1.2)
        have HM2 := Lib.hid (HM.out.put hlt g1)
        have n34 : ((s[k].toNat : Int) != 34) = false := by simp [bne, c34]
        have hc := HM.out.cells k hlt
        have hz := HM.out.free k hlt
        clear hd h1 g1 g2
        go_wp2
        obtain ⟨wo, hwo⟩ : ∃ wo : World, wo = wr.setCell ⟨w.heap.size, k, none⟩ (.bool true) := ⟨_, rfl⟩
        rw [← hwo] at HM2 ⊢
        have hbo : Below w.heap.size w wo := by rw [hwo]; exact hbw.setCell (Nat.le_refl _) _
        clear hwo hc hz HM HS hbw n34
        go_loopw [5] (fun i wr => ∃ k2 : Nat, k + 1 ≤ k2 ∧ k2 ≤ s.size ∧ i = .int .i64 k2 ∧ MaskAt w.heap.size F k2 s.size wr ∧ Below w.heap.size w wr ∧ Hid (F.drop k2 = fl true false (s.data.toList.drop k2) ∧ E = en true false (s.data.toList.drop k2))) (fun i _ => s.size - (intOf i).toNat)
        case atStart => exact ⟨k + 1, by omega, by omega, by go_num, HM2.out, hbo, HS2⟩
        case round =>
          clear HM2 HS2 hbo
          obtain ⟨m, hkm, hm, rfl, hM, hbw, HS⟩ := hrel
          have HM := Lib.hid hM; clear hM
          by_cases hlm : m < s.size
          · have hd := drop_cons s m hlm
            have hc := HM.out.cells m hlm
            have hz := HM.out.free m hlm
            cases d34 : ((s[m].toNat : Int) == 34)
            · have n34 : ((s[m].toNat : Int) != 34) = true := by simp [bne, d34]
              cases d92 : ((s[m].toNat : Int) == 92)
              · have h1 := HS.out
                rw [hd, (fl_in s[m] _ d34 d92).1, (fl_in s[m] _ d34 d92).2] at h1
                obtain ⟨g1, g2⟩ := getD_of_drop h1.1
                have HS2 := Lib.hid (And.intro g2 h1.2)
                have HM2 := Lib.hid (HM.out.put hlm g1)
                clear hd h1 g1 g2
                go_wp2
                go_roundw
                case rel => exact ⟨m + 1, by omega, by omega, by go_num, HM2.out, hbw.setCell (Nat.le_refl _) _, HS2⟩
                case measure => simp [intOf]; omega
              · by_cases hl2 : m + 1 < s.size
                · have hd2 := drop_cons s (m + 1) hl2
                  have h1 := HS.out
                  rw [hd, hd2, (fl_esc s[m] s[m + 1] _ d92).1, (fl_esc s[m] s[m + 1] _ d92).2] at h1
                  obtain ⟨g1, g2⟩ := getD_of_drop h1.1
                  obtain ⟨g3, g4⟩ := getD_of_drop g2
                  have HS2 := Lib.hid (And.intro g4 h1.2)
                  have hM2 := HM.out.put hlm g1
                  have hc2 := hM2.cells (m + 1) hl2
                  have hz2 := hM2.free (m + 1) hl2
                  have HM3 := Lib.hid (hM2.put hl2 g3)
                  have t1 : decide ((m : Int) + 1 < (s.size : Int)) = true := by simp; omega
                  clear hd hd2 h1 g1 g2 g3 g4 hM2
                  go_wp2
                  go_roundw
                  case rel => exact ⟨m + 1 + 1, by omega, by omega, by go_num, HM3.out, (hbw.setCell (Nat.le_refl _) _).setCell (Nat.le_refl _) _, HS2⟩
                  case measure => simp [intOf]; omega
                · have h1 := HS.out
                  rw [hd, drop_all s (m + 1) (by omega), (fl_last s[m] d92).1, (fl_last s[m] d92).2] at h1
                  obtain ⟨g1, g2⟩ := getD_of_drop h1.1
                  have h2 := And.intro g2 h1.2
                  rw [← drop_all s (m + 1) (by omega)] at h2
                  have HS2 := Lib.hid h2
                  have HM2 := Lib.hid (HM.out.put hlm g1)
                  have t1 : decide ((m : Int) + 1 < (s.size : Int)) = false := by simp; omega
                  clear hd h1 g1 g2 h2
                  go_wp2
                  go_roundw
                  case rel => exact ⟨m + 1, by omega, by omega, by go_num, HM2.out, hbw.setCell (Nat.le_refl _) _, HS2⟩
                  case measure => simp [intOf]; omega
            · have n34 : ((s[m].toNat : Int) != 34) = false := by simp [bne, d34]
              have h1 := HS.out
              rw [hd, (fl_close s[m] _ d34).1, (fl_close s[m] _ d34).2] at h1
              obtain ⟨g1, g2⟩ := getD_of_drop h1.1
              have HS2 := Lib.hid (And.intro g2 h1.2)
              have HM2 := Lib.hid (HM.out.put hlm g1)
              have t1 : ((m : Int) == (s.size : Int)) = false := by rw [beq_eq_false_iff_ne]; omega
              clear hd h1 g1 g2
              go_wp2
              go_roundw
              case rel => exact ⟨m + 1, by omega, by go_num, HM2.out, hbw.setCell (Nat.le_refl _) _, HS2⟩
              case measure => simp [intOf]; omega
          · have hme : m = s.size := by omega
            subst hme
            have h1 := HS.out
            rw [drop_all s s.size (Nat.le_refl _)] at h1
            have hE : E = true := h1.2
            have HE2 := Lib.hid hE; clear hE h1
            have t1 : ((s.size : Int) == (s.size : Int)) = true := by simp
            go_wp2
            go_ret2
            unfold QuotedPost
            rw [HF.out, HE.out, HE2.out]
            exact ⟨rfl, HM.out, hbw⟩
    · have hme : k = s.size := by omega
      subst hme
      have h1 := HS.out
      rw [drop_all s s.size (Nat.le_refl _)] at h1
      have hE : E = false := h1.2
      have HE2 := Lib.hid hE; clear hE h1
      go_wp2
      go_ret2
      unfold QuotedPost
      rw [HF.out, HE.out, HE2.out]
      exact ⟨rfl, HM.out, hbw⟩

theorem MaskAt.keep {b i n : Nat} {F : List Bool} {w w' : World} (h : MaskAt b F i n w) (hk : w'.heap[b]? = w.heap[b]?) : MaskAt b F i n w' := by
  have hb : ∀ j, j < n → w'.heap[b]? = w.heap[b]? := fun _ _ => hk
  refine ⟨fun j hj => ?_, fun j hj => ?_, ?_⟩
  · rw [← h.cells j hj]; exact World.cell?_of_block (w := w) (a := ⟨b, j, none⟩) (hb j hj)
  · rw [← h.free j hj]; exact World.frozen?_of_block (w := w) (a := ⟨b, j, none⟩) (hb j hj)
  · rcases Nat.lt_or_ge b w'.heap.size with h' | h'
    · exact h'
    · rw [Array.getElem?_eq_none h', Array.getElem?_eq_getElem h.lt] at hk; cases hk
theorem spR_count (sep : UInt8) : ∀ (l : List UInt8) (F : List Bool) (cur : List UInt8) (ls : List (List UInt8)), (spR sep cur ls l F).length ≤ ls.length + l.length + 1
  | [], F, cur, ls => by have := addP_le ls (trimL cur); simp [spR]; omega
  | c :: r, [], cur, ls => by have := addP_le ls (trimL cur); simp [spR]; omega
  | c :: r, f :: fs, cur, ls => by
    have ih := spR_count sep r fs
    have ha := addP_le ls (trimL cur)
    have h1 := ih (cur ++ [c]) ls
    have h2 := ih [] (addP ls (trimL cur))
    rw [spR, List.length_cons]
    cases (c.toNat != sep.toNat) || f
    · simp only [cond_false]; omega
    · simp only [cond_true]; omega

/-- Where the document's cut stands. -/
def SpSt (s : ByteArray) (F : List Bool) (sep : UInt8) (tot : List (List UInt8)) (k f : Nat) (ls : List (List UInt8)) : Prop :=
  (k ≤ s.size → spR sep (seg s f k) ls (s.data.toList.drop k) (F.drop k) = tot) ∧ (s.size < k → ls = tot)
theorem SpSt.skip {s : ByteArray} {F : List Bool} {sep : UInt8} {tot : List (List UInt8)} {k f : Nat} {ls : List (List UInt8)} (h : SpSt s F sep tot k f ls) (hk : k < s.size) (hf : f ≤ k) (hF : F.length = s.size)
    (e : ((s[k].toNat : Int) == (sep.toNat : Int)) = false ∨ F.getD k false = true) : SpSt s F sep tot (k + 1) f ls := by
  refine ⟨fun _ => ?_, fun h => by omega⟩
  have h1 := h.1 (by omega)
  have hkF : k < F.length := by omega
  rw [drop_cons s k hk, List.drop_eq_getElem_cons hkF, spR, ← seg_snoc s f k hf hk] at h1
  have hc : ((s[k].toNat != sep.toNat) || F[k]) = true := by
    rcases e with e | e
    · have := (beq_cast s[k].toNat sep.toNat).trans e; simp [bne, this]
    · rw [List.getD_eq_getElem?_getD, List.getElem?_eq_getElem hkF] at e; simp at e; simp [e]
  rw [hc] at h1
  exact h1
theorem SpSt.cut {s : ByteArray} {F : List Bool} {sep : UInt8} {tot : List (List UInt8)} {k f : Nat} {ls : List (List UInt8)} (h : SpSt s F sep tot k f ls) (hk : k < s.size) (hF : F.length = s.size)
    (e : ((s[k].toNat : Int) == (sep.toNat : Int)) = true) (e2 : F.getD k false = false) : SpSt s F sep tot (k + 1) (k + 1) (addP ls (pieceOf s f k)) := by
  refine ⟨fun _ => ?_, fun h => by omega⟩
  have h1 := h.1 (by omega)
  have hkF : k < F.length := by omega
  rw [drop_cons s k hk, List.drop_eq_getElem_cons hkF, spR] at h1
  have hc : ((s[k].toNat != sep.toNat) || F[k]) = false := by
    have := (beq_cast s[k].toNat sep.toNat).trans e
    rw [List.getD_eq_getElem?_getD, List.getElem?_eq_getElem hkF] at e2; simp at e2; simp [e2, bne, this]
  rw [hc] at h1
  rw [seg_self]; exact h1
theorem SpSt.last {s : ByteArray} {F : List Bool} {sep : UInt8} {tot : List (List UInt8)} {f : Nat} {ls : List (List UInt8)} (h : SpSt s F sep tot s.size f ls) : SpSt s F sep tot (s.size + 1) (s.size + 1) (addP ls (pieceOf s f s.size)) := by
  refine ⟨fun h => by omega, fun _ => ?_⟩
  have h1 := h.1 (Nat.le_refl _)
  rw [drop_all s s.size (Nat.le_refl _)] at h1
  rw [← h1, spR]
  · rfl
  · intro _ _ _ _ e _; cases e

set_option maxRecDepth 100000 in
set_option maxHeartbeats 8000000 in
theorem rsplit_any (s : ByteArray) (sep : UInt8) (w : World) (hs : s.size ≤ 1000000) :
    Calls Tryz.prog 97 #[.string s, .int .u8 sep.toNat] w (SplitPost w (splitL sep s.data.toList)) := by
  cases q1 : ((sep.toNat : Int) == 34)
  · cases q2 : ((sep.toNat : Int) == 92)
    · have hsp : splitL sep s.data.toList = splitE (bif en false false s.data.toList then none else some (spR sep [] [] s.data.toList (fl false false s.data.toList))) := by
        unfold splitL; rw [(beq_cast sep.toNat 34).trans q1, (beq_cast sep.toNat 92).trans q2, spl_eq sep ((beq_cast sep.toNat 34).trans q1) _ _ _ _ _ (fun h => by cases h)]; rfl
      rw [hsp]; clear hsp
      have hq := quoted_any s w hs
      have HQ := Lib.hid hq; clear hq
      have hfl := fl_length s.data.toList false false
      rw [← Lib.size_eq] at hfl
      have hcn := spR_count sep s.data.toList (fl false false s.data.toList) [] []
      rw [← Lib.size_eq] at hcn
      cases hE : en false false s.data.toList
      · rw [cond_false]
        generalize hFF : fl false false s.data.toList = F at *
        obtain ⟨tot, htot⟩ : ∃ t, spR sep [] [] s.data.toList F = t := ⟨_, rfl⟩
        rw [htot] at hcn ⊢
        have HT := Lib.hid htot; have HFF := Lib.hid hFF; have HE := Lib.hid hE; have HL := Lib.hid hfl
        clear htot hFF hE hfl
        have hcn2 : tot.length ≤ 1000001 := by simp at hcn; omega
        clear hcn
        obtain ⟨i0, hi, hz0, hz1, hz2⟩ := info_parts uStr
        go_enter Tryz.func97, Tryz.ntmps97
        go_wp2_with fail
        refine HQ.out.mono ?_
        clear HQ
        rintro e w1 ⟨he, hM, hb1⟩
        rw [HE.out] at he
        rw [HFF.out] at hM
        subst he
        have HM := Lib.hid hM; clear hM
        go_wp2
        have HB1 := Lib.hid hb1; clear hb1
        go_loopw [10, 9, 8] (fun i from_ out wr => ∃ (k f : Nat) (ls : List (List UInt8)), k ≤ s.size + 1 ∧ i = .int .i64 k ∧ from_ = .int .i64 f ∧ f ≤ k ∧ ls.length ≤ k ∧ Hid (OwnS (w.heap.size + 1) out ls wr) ∧ MaskAt w.heap.size F s.size s.size wr ∧ Below w.heap.size w wr ∧ Hid (SpSt s F sep tot k f ls)) (fun i _ _ _ => s.size + 1 - (intOf i).toNat)
        case atStart =>
          refine ⟨0, 0, [], Nat.zero_le _, rfl, rfl, Nat.le_refl _, by simp, World.ownsRow_nil _ _ _ _, HM.out, HB1.out, ?_⟩
          · refine ⟨fun _ => ?_, fun h => by omega⟩
            rw [seg_self, List.drop_zero, List.drop_zero]; exact HT.out
        case round =>
          clear HM HB1
          obtain ⟨k, f, ls, hk, rfl, rfl, hfk, hls, HO, hM, hbw, HS⟩ := hrel
          have HM := Lib.hid hM; clear hM
          by_cases hk1 : k < s.size + 1
          · by_cases hlt : k < s.size
            · have hc := HM.out.cells k hlt
              have hz := HM.out.free k hlt
              have hmk : mask F s.size k = F.getD k false := by unfold mask; rw [decide_eq_true hlt]; rfl
              rw [hmk] at hc; clear hmk
              cases xs : ((s[k].toNat : Int) == (sep.toNat : Int))
              · have HN := Lib.hid (HS.out.skip hlt hfk HL.out (Or.inl xs))
                have ns : ((s[k].toNat : Int) != (sep.toNat : Int)) = true := by simp [bne, xs]
                clear HS
                go_wp2
                go_roundw
                case rel => exact ⟨k + 1, f, ls, by omega, by go_num, rfl, by omega, by omega, HO, HM.out, hbw, HN⟩
                case measure => simp [intOf]; omega
              · have ns : ((s[k].toNat : Int) != (sep.toNat : Int)) = false := by simp [bne, xs]
                cases hF : F.getD k false
                · have HN := Lib.hid (HS.out.cut hlt HL.out xs hF)
                  rw [hF] at hc
                  clear HS hF
                  have hexl : (s.extract f k).data.toList = (s.data.toList.drop f).take (k - f) := Lib.extract_data s f k
                  have hexs : (s.extract f k).size ≤ 1000000 := by rw [ByteArray.size_extract]; omega
                  have k1 := fun w => rtrim_any (s.extract f k) w hexs
                  rw [hexl] at k1
                  have hp : trimL ((s.data.toList.drop f).take (k - f)) = pieceOf s f k := rfl
                  rw [hp] at k1
                  have hpl : (pieceOf s f k).length ≤ 1000000 := by
                    have h1 := trimL_le ((s.data.toList.drop f).take (k - f))
                    rw [hp] at h1
                    have h2 : ((s.data.toList.drop f).take (k - f)).length ≤ s.data.toList.length := by rw [List.length_take, List.length_drop]; omega
                    rw [← Lib.size_eq] at h2; omega
                  generalize pieceOf s f k = p at *
                  have hal := addP_le ls p
                  have K1 := Lib.hid k1; clear k1 hexl hp
                  cases he : p.isEmpty
                  · have hadd : addP ls p = ls ++ [p] := by unfold addP; rw [he]; rfl
                    rw [hadd] at HN hal
                    clear hadd
                    go_wp2_with (first | (go_at_call 149; refine (K1.out _).mono ?_; rintro e w2 ⟨rfl, hb2⟩; subst hb2) | (at_builtin; refine wpList_append_own _ rfl _ _ 46 rfl (w.heap.size + 1) 9 i0 (.string ByteArray.empty) 1 16 Tryz.underlying46 hi hz0 hz1 hz2 rfl (by decide) _ _ _ rfl (HO.out.alloc _) ⟨wr.heap.size, 0, none⟩ 1 1 [.string ⟨p.toArray⟩] rfl rfl ?c1 ?c2 ?c3 ?c4 ?c5 ?_))
                    case c1 =>
                      intro j u hj
                      match j, hj with
                      | 0, hj => simp at hj; subst hj; simp [Addr.add]
                    case c2 => intro u hu; simp at hu; subst hu; rfl
                    case c3 => unfold maxLen; omega
                    case c4 => omega
                    case c5 => have := HM.out.lt; simp; omega
                    intro v' w2 hown' hgrow _
                    have hlt := HM.out.lt
                    have HM2 := Lib.hid (HM.out.keep (w' := w2) (by rw [hgrow.block _ (by simp; omega) (fun e => by have := (HO.out.lt _ e.symm).1; omega), Below.heap_alloc _ _ _ (by omega)]))
                    have hb2 : Below w.heap.size w w2 := (hbw.alloc (by omega) _).grown hgrow (by simp; omega) (fun k hk => by have := (HO.out.lt k hk).1; omega)
                    have HO2 : Hid (OwnS (w.heap.size + 1) v' (ls ++ [p]) w2) := by
                      refine Lib.hid ?_
                      show World.ownsRow _ _ _ _ _ _ _
                      rw [List.length_append, List.length_singleton, List.map_append]; exact hown'
                    clear hown' hgrow HO HM hbw
                    go_wp2
                    go_roundw
                    case rel => exact ⟨k + 1, k + 1, ls ++ [p], by omega, by go_num, by go_num, by omega, by omega, HO2, HM2.out, hb2, HN⟩
                    case measure => simp [intOf]; omega
                  · have hadd : addP ls p = ls := by unfold addP; rw [he]; rfl
                    rw [hadd] at HN hal
                    clear hadd
                    go_wp2_with (go_at_call 149; refine (K1.out _).mono ?_; rintro e w2 ⟨rfl, hb2⟩; subst hb2)
                    go_roundw
                    case rel => exact ⟨k + 1, k + 1, ls, by omega, by go_num, by go_num, by omega, by omega, HO, HM.out, hbw, HN⟩
                    case measure => simp [intOf]; omega
                · have HN := Lib.hid (HS.out.skip hlt hfk HL.out (Or.inr hF))
                  rw [hF] at hc
                  clear HS hF
                  go_wp2
                  go_roundw
                  case rel => exact ⟨k + 1, f, ls, by omega, by go_num, rfl, by omega, by omega, HO, HM.out, hbw, HN⟩
                  case measure => simp [intOf]; omega
            · have hke : k = s.size := by omega
              subst hke
              have HN := Lib.hid HS.out.last
              clear HS
              have hexl : (s.extract f s.size).data.toList = (s.data.toList.drop f).take (s.size - f) := Lib.extract_data s f s.size
              have hexs : (s.extract f s.size).size ≤ 1000000 := by rw [ByteArray.size_extract]; omega
              have k1 := fun w => rtrim_any (s.extract f s.size) w hexs
              rw [hexl] at k1
              have hp : trimL ((s.data.toList.drop f).take (s.size - f)) = pieceOf s f s.size := rfl
              rw [hp] at k1
              have hpl : (pieceOf s f s.size).length ≤ 1000000 := by
                have h1 := trimL_le ((s.data.toList.drop f).take (s.size - f))
                rw [hp] at h1
                have h2 : ((s.data.toList.drop f).take (s.size - f)).length ≤ s.data.toList.length := by rw [List.length_take, List.length_drop]; omega
                rw [← Lib.size_eq] at h2; omega
              generalize pieceOf s f s.size = p at *
              have hal := addP_le ls p
              have K1 := Lib.hid k1; clear k1 hexl hp
              cases he : p.isEmpty
              · have hadd : addP ls p = ls ++ [p] := by unfold addP; rw [he]; rfl
                rw [hadd] at HN hal
                clear hadd
                go_wp2_with (first | (go_at_call 149; refine (K1.out _).mono ?_; rintro e w2 ⟨rfl, hb2⟩; subst hb2) | (at_builtin; refine wpList_append_own _ rfl _ _ 46 rfl (w.heap.size + 1) 9 i0 (.string ByteArray.empty) 1 16 Tryz.underlying46 hi hz0 hz1 hz2 rfl (by decide) _ _ _ rfl (HO.out.alloc _) ⟨wr.heap.size, 0, none⟩ 1 1 [.string ⟨p.toArray⟩] rfl rfl ?c1 ?c2 ?c3 ?c4 ?c5 ?_))
                case c1 =>
                  intro j u hj
                  match j, hj with
                  | 0, hj => simp at hj; subst hj; simp [Addr.add]
                case c2 => intro u hu; simp at hu; subst hu; rfl
                case c3 => unfold maxLen; omega
                case c4 => omega
                case c5 => have := HM.out.lt; simp; omega
                intro v' w2 hown' hgrow _
                have hlt := HM.out.lt
                have HM2 := Lib.hid (HM.out.keep (w' := w2) (by rw [hgrow.block _ (by simp; omega) (fun e => by have := (HO.out.lt _ e.symm).1; omega), Below.heap_alloc _ _ _ (by omega)]))
                have hb2 : Below w.heap.size w w2 := (hbw.alloc (by omega) _).grown hgrow (by simp; omega) (fun k hk => by have := (HO.out.lt k hk).1; omega)
                have HO2 : Hid (OwnS (w.heap.size + 1) v' (ls ++ [p]) w2) := by
                  refine Lib.hid ?_
                  show World.ownsRow _ _ _ _ _ _ _
                  rw [List.length_append, List.length_singleton, List.map_append]; exact hown'
                clear hown' hgrow HO HM hbw
                go_wp2
                go_roundw
                case rel => exact ⟨s.size + 1, s.size + 1, ls ++ [p], by omega, (by first | go_num | rfl), (by first | go_num | rfl), by omega, by omega, HO2, HM2.out, hb2, HN⟩
                case measure => simp [intOf] <;> omega
              · have hadd : addP ls p = ls := by unfold addP; rw [he]; rfl
                rw [hadd] at HN hal
                clear hadd
                go_wp2_with (go_at_call 149; refine (K1.out _).mono ?_; rintro e w2 ⟨rfl, hb2⟩; subst hb2)
                go_roundw
                case rel => exact ⟨s.size + 1, s.size + 1, ls, by omega, (by first | go_num | rfl), (by first | go_num | rfl), by omega, by omega, HO, HM.out, hbw, HN⟩
                case measure => simp [intOf] <;> omega
          · have hke : k = s.size + 1 := by omega
            subst hke
            have hte := HS.out.2 (by omega)
            have HTE := Lib.hid hte; clear hte
            obtain ⟨a, cap, rfl⟩ := HO.out.shape
            cases hlen : decide (64 < ls.length)
            · have hse : splitE (some tot) = (ls, 0) := by rw [← HTE.out]; unfold splitE; simp only [hlen, cond_false]
              have HSE := Lib.hid hse
              have t1 : decide ((64 : Int) < (ls.length : Int)) = false := by simp at hlen ⊢; omega
              clear hlen hse
              go_wp2
              go_ret2
              rw [HSE.out]
              exact ⟨a, cap, rfl, OwnS.base HO.out (by omega), hbw⟩
            · have hse : splitE (some tot) = ([], 3) := by rw [← HTE.out]; unfold splitE; simp only [hlen, cond_true]
              have HSE := Lib.hid hse
              have t1 : decide ((64 : Int) < (ls.length : Int)) = true := by simp at hlen ⊢; omega
              clear hlen hse
              go_wp2
              go_ret2
              rw [HSE.out]
              exact SplitPost.none hbw
      · rw [cond_true]
        have HE := Lib.hid hE; clear hE hcn hfl
        go_enter Tryz.func97, Tryz.ntmps97
        go_wp2_with fail
        refine HQ.out.mono ?_
        rintro e w1 ⟨he, hM, hb1⟩
        rw [HE.out] at he
        subst he
        clear hM
        go_wp2
        go_ret2
        exact SplitPost.none hb1
    · have hsp : splitL sep s.data.toList = ([], 2) := by unfold splitL; rw [(beq_cast sep.toNat 34).trans q1, (beq_cast sep.toNat 92).trans q2]; rfl
      rw [hsp]; clear hsp
      go_enter Tryz.func97, Tryz.ntmps97
      go_wp2
      go_ret2
      exact SplitPost.none (Below.refl _ w)
  · have hsp : splitL sep s.data.toList = ([], 2) := by unfold splitL; rw [(beq_cast sep.toNat 34).trans q1]; rfl
    rw [hsp]; clear hsp
    go_enter Tryz.func97, Tryz.ntmps97
    go_wp2
    go_ret2
    exact SplitPost.none (Below.refl _ w)
end Go.Proofs.YtcgdcbnhpbokfaaGreatDoor
/- The walk of the document's List (layer 11). -/
namespace Go.Proofs.YtcgdcbnhpbokfaaGreatDoor
open Go.RowKit
set_option maxRecDepth 100000

theorem said_noStore : saidO noStore = some ⟨noStore, [], false, []⟩ := by decide
theorem filterMap_le {α β : Type} (f : α → Option β) (l : List α) : (l.filterMap f).length ≤ l.length := List.length_filterMap_le f l
theorem dirsOf_few (v : List UInt8) : (dirsOf v).length ≤ 64 := by
  unfold dirsOf pcsL
  refine Nat.le_trans (filterMap_le _ _) ?_
  cases ((splitL 44 v).2 == 0)
  · simp
  · exact split_few 44 v
theorem dlistL_few : ∀ (vs : List (List UInt8)), (dlistL vs).length ≤ 64 * vs.length
  | [] => by simp [dlistL]
  | v :: r => by
    have := dlistL_few r
    have h := dirsOf_few v
    unfold dlistL at *
    rw [List.flatMap_cons, List.length_append, List.length_cons]; omega
theorem dlistL_take (vs : List (List UInt8)) (k : Nat) (h : k < vs.length) : dlistL (vs.take (k + 1)) = dlistL (vs.take k) ++ dirsOf vs[k] := by
  unfold dlistL
  rw [List.take_succ_eq_append_getElem h]
  simp only [List.flatMap_append, List.flatMap_cons, List.flatMap_nil, List.append_nil]
theorem fm_take (ps : List (List UInt8)) (m : Nat) (h : m < ps.length) : (ps.take (m + 1)).filterMap saidO = (ps.take m).filterMap saidO ++ (saidO ps[m]).toList := by
  rw [List.take_succ_eq_append_getElem h, List.filterMap_append]
  congr 1
/-- A row of directives that the call made, beside texts that it reads. -/
def DirSt (B : Nat) (out : Value) (acc : List Dir) (A : Option Addr) (vs : List (List UInt8)) (w : World) : Prop := OwnD B out acc w ∧ Rd A vs.length 1 (strsV vs) w ∧ Sep out A vs.length
theorem DirSt.below {B : Nat} {out : Value} {acc : List Dir} {A : Option Addr} {vs : List (List UInt8)} {w w1 : World} (h : DirSt B out acc A vs w) (hb : Below w.heap.size w w1) : DirSt B out acc A vs w1 := ⟨h.1.below hb, h.2.1.below hb, h.2.2⟩
theorem DirSt.far {B : Nat} {out v' : Value} {acc acc' : List Dir} {A : Option Addr} {vs : List (List UInt8)} {w w1 : World} (h : DirSt B out acc A vs w) (ho : OwnD B v' acc' w1) (hf : Far w w1 out v') : DirSt B v' acc' A vs w1 := ⟨ho, h.2.1.far hf h.2.2⟩
theorem DirSt.beside {B : Nat} {out : Value} {acc : List Dir} {A2 : Option Addr} {ps : List (List UInt8)} {w w1 : World} {c : Nat} (h : OwnD B out acc w) (hb : Below w.heap.size w w1) (hp : OwnS w.heap.size (.slice A2 ps.length c) ps w1) : DirSt B out acc A2 ps w1 := ⟨h.below hb, hp.rd.2, Sep.new h (own_new hp)⟩

set_option maxHeartbeats 16000000 in
theorem rdlist_any (A : Option Addr) (n c : Nat) (vs : List (List UInt8)) (w : World) (hr : Rd A n 1 (strsV vs) w) (hn : n ≤ 10000) (hs : ∀ v ∈ vs, v.length ≤ 1000000) :
    Calls Tryz.prog 58 #[.slice A n c] w (DirsPost w (dlistL vs)) := by
  have hxn := hr.str
  subst hxn
  have hH : dlistL (vs.take vs.length) = dlistL vs := by rw [List.take_length]
  generalize dlistL vs = tot at *
  have hlen : ∀ k, k ≤ vs.length → (dlistL (vs.take k)).length ≤ 64 * 10000 := by
    intro k hk
    have h2 := dlistL_few (vs.take k)
    rw [List.length_take] at h2
    omega
  have h0 : dlistL (vs.take 0) = [] := rfl
  have hstep : ∀ k (h : k < vs.length), dlistL (vs.take (k + 1)) = dlistL (vs.take k) ++ dirsOf vs[k] := dlistL_take vs
  have HLEN := Lib.hid hlen; have HML := Lib.hid hs; have HSTEP := Lib.hid hstep; have HH := Lib.hid hH; have H00 := Lib.hid h0; have HR := Lib.hid hr
  have hB2 := Below.refl w.heap.size w
  clear hlen hstep hH h0 hr hs
  go_enter Tryz.func58, Tryz.ntmps58
  go_wp2_with fail
  go_loopw [4, 3] (fun i out wr => ∃ k : Nat, k ≤ vs.length ∧ i = .int .i64 k ∧ Hid (OwnD w.heap.size out (dlistL (vs.take k)) wr) ∧ Below w.heap.size w wr) (fun i _ _ => vs.length - (intOf i).toNat)
  case atStart => exact ⟨0, Nat.zero_le _, rfl, by rw [H00.out]; exact Lib.hid (OwnD.nil _ _), hB2⟩
  case round =>
    clear hB2 H00
    obtain ⟨k, hk, rfl, HO, hbw⟩ := hrel
    obtain ⟨oa, oc, rfl⟩ := HO.out.shape
    have hal := HLEN.out k hk
    by_cases hlt : k < vs.length
    · obtain ⟨b, o, rfl, hl, c1⟩ := (HR.out.below hbw).str_at (k := k) hlt
      have hst := HSTEP.out k hlt
      have hv := HML.out vs[k] (List.getElem_mem _)
      generalize vs[k] = v at *
      have k2 := fun w => rsplit_any ⟨v.toArray⟩ 44 w (by rw [Lib.size_eq]; exact hv)
      simp only at k2
      have hfew := split_few 44 v
      have hbad := split_bad 44 v
      have hpt := split_total 44 v
      have hdo : dirsOf v = bif (splitL 44 v).2 == 0 then (splitL 44 v).1.filterMap saidO else [⟨noStore, [], false, []⟩] := by
        unfold dirsOf pcsL
        cases ((splitL 44 v).2 == 0)
        · simp only [cond_false, List.filterMap_cons, said_noStore, List.filterMap_nil]
        · rfl
      generalize splitL 44 v = r at *
      obtain ⟨ps, er⟩ := r
      simp only at hst hfew hpt hbad hdo
      have hps : ∀ p ∈ ps, p.length ≤ 1000000 := fun p hp => by have := total_mem hp; omega
      generalize dirsOf v = dv at *
      cases her : (er == 0)
      · have hz : ps = [] := by
          rcases hbad with h | h
          · rw [h] at her; simp at her
          · exact h
        subst hz
        rw [her, cond_false] at hdo
        subst hdo
        have K2 := Lib.hid k2; have HST := Lib.hid hst
        clear k2 hst hv hpt hps hbad hfew HML HLEN
        generalize dlistL (vs.take k) = acc at *
        have hal2 : acc.length ≤ 1000000000 := by omega
        have hne : (er != 0) = true := by simp [bne, her]
        go_wp2_with fail
        refine (K2.out _).mono ?_
        rintro e w3 ⟨a3, c3, rfl, ho3, hb3⟩
        simp only at ho3 ⊢
        have hB3 := hbw.trans (hb3.mono hbw.size)
        have HO3 := Lib.hid (HO.out.below hb3)
        clear ho3 hb3 hbw HO c1 K2
        go_wp2_with (at_builtin; refine app_dir w.heap.size ⟨noStore, [], false, []⟩ HO3.out hB3.size hal2 rfl _ _ rfl rfl rfl ?_)
        intro v' w7 hO7 hb7 hfar7
        have hB7 := hB3.trans hb7
        have HO7 := Lib.hid hO7
        clear hO7 hb7 hfar7 HO3 hB3
        go_wp2_with fail
        obtain ⟨wo, rfl⟩ : ∃ wo : World, wo = wr := ⟨_, rfl⟩
        go_loopw [7, 3] (fun j out wi => j = .int .i64 0 ∧ out = v' ∧ wi = w7) (fun _ _ _ => 0)
        case atStart => exact ⟨rfl, rfl, rfl⟩
        case round =>
          obtain ⟨rfl, rfl, rfl⟩ := hrel
          go_wp2
          go_roundw
          case rel => exact ⟨k + 1, by omega, by go_num, by rw [HST.out]; exact HO7, hB7⟩
          case measure => simp [intOf]; omega
      · rw [her, cond_true] at hdo
        subst hdo
        have hft : ∀ m (h : m < ps.length), (ps.take (m + 1)).filterMap saidO = (ps.take m).filterMap saidO ++ (saidO ps[m]).toList := fm_take ps
        have hfl : ∀ m, m ≤ ps.length → ((ps.take m).filterMap saidO).length ≤ 64 := by
          intro m hm
          have h1 := filterMap_le saidO (ps.take m)
          rw [List.length_take] at h1
          omega
        have hfin : dlistL (vs.take (k + 1)) = dlistL (vs.take k) ++ (ps.take ps.length).filterMap saidO := by rw [List.take_length]; exact hst
        have h0 : dlistL (vs.take k) = dlistL (vs.take k) ++ (ps.take 0).filterMap saidO := by simp
        generalize dlistL (vs.take k) = acc at *
        have hne : (er != 0) = false := by simp [bne, her]
        have K2 := Lib.hid k2; have HPS := Lib.hid hps; have HFT := Lib.hid hft; have HFL := Lib.hid hfl; have HFIN := Lib.hid hfin; have H0 := Lib.hid h0
        clear k2 hst hv hpt hps hft hfl hfin h0 hbad HSTEP HML HLEN
        go_wp2_with fail
        refine (K2.out _).mono ?_
        rintro e w3 ⟨a3, c3, rfl, ho3, hb3⟩
        simp only at ho3 ⊢
        have hB3 := hbw.trans (hb3.mono hbw.size)
        have HP3 := Lib.hid (DirSt.beside HO.out hb3 ho3)
        clear ho3 hb3 hbw HO c1 K2
        go_wp2_with fail
        obtain ⟨wo, rfl⟩ : ∃ wo : World, wo = wr := ⟨_, rfl⟩
        go_loopw [7, 3] (fun j out wi => ∃ m : Nat, m ≤ ps.length ∧ j = .int .i64 m ∧ Hid (DirSt w.heap.size out (acc ++ (ps.take m).filterMap saidO) a3 ps wi) ∧ Below w.heap.size w wi) (fun j _ _ => ps.length - (intOf j).toNat)
        case atStart => exact ⟨0, Nat.zero_le _, rfl, by rw [← H0.out]; exact HP3, hB3⟩
        case round =>
          clear HP3 hB3 H0
          obtain ⟨m, hm, rfl, HP, hbi⟩ := hrel
          obtain ⟨pa, pc, rfl⟩ := HP.out.1.shape
          have hal2 := HFL.out m hm
          by_cases hlm : m < ps.length
          · obtain ⟨b2, o2, rfl, hl2, c2⟩ := HP.out.2.1.str_at (k := m) hlm
            have hpp := HPS.out ps[m] (List.getElem_mem _)
            have hft := HFT.out m hlm
            generalize ps[m] = p at *
            have k4 := fun w => rsay_any ⟨p.toArray⟩ w (by rw [Lib.size_eq]; exact hpp)
            simp only at k4
            generalize saidO p = sd at *
            generalize (ps.take m).filterMap saidO = got at *
            generalize hac : acc ++ got = ac at *
            have hft2 : acc ++ (ps.take (m + 1)).filterMap saidO = ac ++ sd.toList := by rw [hft, ← hac, List.append_assoc]
            have hal3 : ac.length ≤ 1000000000 := by rw [← hac, List.length_append]; omega
            clear hac hft hal2
            have t1 : decide ((m : Int) < (ps.length : Int)) = true := by simp; omega
            cases sd with
            | none =>
              have hn : acc ++ (ps.take (m + 1)).filterMap saidO = ac := by rw [hft2]; simp
              have HN := Lib.hid hn
              have K4 : Hid (∀ w, Calls Tryz.prog 115 #[.string ⟨p.toArray⟩] w fun e w' => e = .returned (.tuple #[.agg #[.string ⟨#[]⟩, .string ⟨#[]⟩, .bool false, .string ⟨#[]⟩], .bool false]) ∧ Below w.heap.size w w') := Lib.hid k4
              clear hn hft2 k4 hpp
              go_wp2_with fail
              refine (K4.out _).mono ?_
              rintro e w4 ⟨rfl, hb4⟩
              have hbA := (Below.refl w4.heap.size w4).alloc (Nat.le_refl _) (.cells #[.string ⟨#[]⟩, .string ⟨#[]⟩, .bool false, .string ⟨#[]⟩] 84)
              have hb5 := bt hb4 hbA
              have hB5 := hbi.trans (hb5.mono hbi.size)
              have HP5 := Lib.hid (HP.out.below hb5)
              clear HP hb4 hbA hb5 c2
              go_wp2
              go_roundw
              case rel => exact ⟨m + 1, by omega, by go_num, by rw [HN.out]; exact HP5, hB5⟩
              case measure => simp [intOf]; omega
            | some d =>
              obtain ⟨dn, dv, dh, df⟩ := d
              have hn : acc ++ (ps.take (m + 1)).filterMap saidO = ac ++ [⟨dn, dv, dh, df⟩] := by rw [hft2]; rfl
              have HN := Lib.hid hn
              have K4 : Hid (∀ w, Calls Tryz.prog 115 #[.string ⟨p.toArray⟩] w fun e w' => e = .returned (.tuple #[.agg #[.string ⟨dn.toArray⟩, .string ⟨dv.toArray⟩, .bool dh, .string ⟨df.toArray⟩], .bool true]) ∧ Below w.heap.size w w') := Lib.hid k4
              clear hn hft2 k4 hpp
              go_wp2_with fail
              refine (K4.out _).mono ?_
              rintro e w4 ⟨rfl, hb4⟩
              have hbA := (Below.refl w4.heap.size w4).alloc (Nat.le_refl _) (.cells #[.string ⟨dn.toArray⟩, .string ⟨dv.toArray⟩, .bool dh, .string ⟨df.toArray⟩] 84)
              have hb5 := bt hb4 hbA
              have hB5 := hbi.trans (hb5.mono hbi.size)
              have HP5 := Lib.hid (HP.out.below hb5)
              clear HP hb4 hbA hb5 c2
              have h4 := at4_alloc w4 (.string ⟨dn.toArray⟩) (.string ⟨dv.toArray⟩) (.bool dh) (.string ⟨df.toArray⟩) 84
              go_upto_region 12 with (fail)
              generalize w4.alloc (.cells #[.string ⟨dn.toArray⟩, .string ⟨dv.toArray⟩, .bool dh, .string ⟨df.toArray⟩] 84) = W5 at *
              obtain ⟨x0, x1, x2, x3, y0, y1, y2, y3, xz⟩ := h4
              go_wp2_with (at_builtin; refine app_dir w.heap.size ⟨dn, dv, dh, df⟩ HP5.out.1 hB5.size hal3 rfl _ _ rfl rfl rfl ?_)
              intro v' w7 hO7 hb7 hfar7
              have hB7 := hB5.trans hb7
              have HP7 : Hid (DirSt w.heap.size v' (acc ++ (ps.take (m + 1)).filterMap saidO) (some ⟨b2, o2, none⟩) ps w7) := by rw [HN.out]; exact Lib.hid (HP5.out.far hO7 hfar7)
              clear hO7 hb7 hfar7 HP5
              go_wp2
              go_roundw
              case rel => exact ⟨m + 1, by omega, by go_num, HP7, hB7⟩
              case measure => simp [intOf]; omega
          · have hme : m = ps.length := by omega
            subst hme
            have hfin := HFIN.out
            clear HFT HFL HFIN
            generalize acc ++ (ps.take ps.length).filterMap saidO = ac at *
            have HN : Hid (OwnD w.heap.size (.slice pa ac.length pc) (dlistL (vs.take (k + 1))) wr) := by rw [hfin]; exact Lib.hid HP.out.1
            clear hfin
            have t1 : decide ((ps.length : Int) < (ps.length : Int)) = false := by simp
            clear HP HPS
            go_wp2
            go_roundw
            case rel => exact ⟨k + 1, by omega, by go_num, HN, hbi⟩
            case measure => simp [intOf]; omega
    · have hke : k = vs.length := by omega
      subst hke
      have hfin := HH.out
      clear HSTEP HML HLEN HH
      generalize dlistL (vs.take vs.length) = q at *
      subst hfin
      go_wp2
      go_ret
      exact ⟨oa, oc, rfl, HO.out, hbw⟩
end Go.Proofs.YtcgdcbnhpbokfaaGreatDoor
/- Small letters and tokens: plain. -/
namespace Go.Proofs.YtcgdcbnhpbokfaaGreatDoor
open Go.RowKit

theorem word_low (c : UInt8) : wordb (lowb c) = wordb c := by
  by_cases h : (decide (65 ≤ c.toNat) && decide (c.toNat ≤ 90)) = true
  · have h1 : lowb c = c + 32 := by unfold lowb; rw [h]; rfl
    have h2 : (c + 32).toNat = c.toNat + 32 := by
      simp at h; rw [UInt8.toNat_add]; simp; omega
    simp at h
    have h3 : letterb c = true := by unfold letterb; simp; omega
    have h4 : letterb (c + 32) = true := by unfold letterb; rw [h2]; simp; omega
    rw [h1]; unfold wordb; rw [h3, h4]; rfl
  · have h' : (decide (65 ≤ c.toNat) && decide (c.toNat ≤ 90)) = false := by simpa using h
    have h1 : lowb c = c := by unfold lowb; rw [h']; rfl
    rw [h1]
theorem token_low (l : List UInt8) : tokenL (lowerL l) = tokenL l := by
  unfold tokenL lowerL
  rw [List.all_map]
  congr 1
  · congr 1; funext c; exact word_low c
  · cases l <;> rfl
end Go.Proofs.YtcgdcbnhpbokfaaGreatDoor
/- Facts of directives; a list behind another one in new memory. -/
namespace Go.Proofs.YtcgdcbnhpbokfaaGreatDoor
open Go.RowKit Go.ChangeShapes Go.WideShapes
set_option maxRecDepth 100000

/-- What each directive of a list is. -/
def GoodD (B : Nat) (d : Dir) : Prop := tokenL d.name = true ∧ lowerL d.name = d.name ∧ (d.has = false → d.value = []) ∧ d.for_ = [] ∧ d.name.length ≤ B
theorem said_good {p : List UInt8} {d : Dir} {B : Nat} (h : saidO p = some d) (hp : p.length ≤ B) : GoodD B d := by
  have hl := (cut_lens p [61]).1
  unfold saidO at h
  have h3 : (Lib.cut p [61]).2.2 = false → (Lib.cut p [61]).2.1 = [] := by
    unfold Lib.cut
    by_cases h0 : 0 ≤ Lib.index p [61]
    · rw [if_pos h0]; simp
    · rw [if_neg h0]; simp
  generalize Lib.cut p [61] = c at *
  obtain ⟨a, b, has⟩ := c
  simp only at h h3 hl
  cases ht : tokenL a
  · rw [ht] at h; simp at h
  · rw [ht] at h
    have key : ∀ v hs, (hs = false → v = []) → GoodD B ⟨lowerL a, v, hs, []⟩ := fun v hs hv => ⟨by show tokenL (lowerL a) = true; rw [token_low, ht], lower_twice a, hv, rfl, by show (lowerL a).length ≤ B; rw [lower_length]; omega⟩
    simp only [Bool.not_true, cond_false] at h
    cases hb : (has && !tokenL b)
    · rw [hb, cond_false] at h
      injection h with h
      subst h
      exact key _ _ h3
    · rw [hb, cond_true] at h
      cases hu : unqP b with
      | none => rw [hu] at h; simp at h
      | some s =>
        rw [hu] at h
        simp only [Option.map_some, Option.some.injEq] at h
        subst h
        exact key _ _ (by simp)
theorem pcs_len {v p : List UInt8} (h : p ∈ pcsL v) : p.length ≤ v.length + 8 := by
  unfold pcsL at h
  cases hz : ((splitL 44 v).2 == 0)
  · rw [hz, cond_false, List.mem_singleton] at h
    subst h
    show 8 ≤ _
    omega
  · rw [hz, cond_true] at h
    have h1 := total_mem h
    have h2 := split_total 44 v
    omega
theorem dlist_good {vs : List (List UInt8)} {B : Nat} (hv : ∀ v ∈ vs, v.length ≤ B) : ∀ d ∈ dlistL vs, GoodD (B + 8) d := by
  intro d hd
  unfold dlistL at hd
  obtain ⟨v, hv1, hd⟩ := List.mem_flatMap.1 hd
  unfold dirsOf at hd
  obtain ⟨p, hp, hd⟩ := List.mem_filterMap.1 hd
  exact said_good hd (by have := pcs_len hp; have := hv v hv1; omega)
end Go.Proofs.YtcgdcbnhpbokfaaGreatDoor
/- The walks of surctl.never, surctl.said, surctl.List. -/
namespace Go.Proofs.YtcgdcbnhpbokfaaGreatDoor
open Go.RowKit
set_option maxRecDepth 100000

theorem OwnD.one {B g : Nat} {d : Dir} {w : World} (h : w.heap[g]? = some (.cells (dirV d).toArray 84 (0, 0))) (hB : B ≤ g) : OwnD B (.slice (some ⟨g, 0, none⟩) 1 1) [d] w :=
  ⟨by simp [dirsV, dirV], Or.inr ⟨g, 1, _, rfl, hB, h, by simp, by decide, by simp [dirV], by simp [dirsV, dirV]⟩⟩
theorem never_any (w : World) :
    Calls Tryz.prog 167 #[] w (DirsPost w [neverD]) := by
  go_enter Tryz.func167, Tryz.ntmps167
  go_wp2
  go_ret
  exact ⟨_, _, rfl, OwnD.one (World.alloc_heap_new w _) (Nat.le_refl _), (Below.refl _ w).alloc (Nat.le_refl _) _⟩
theorem oneOf_le (l : List Dir) (f : List UInt8) : (oneOf l f).length ≤ 1 := by
  unfold oneOf; split <;> simp
/-- A directive in a row of the call's own, with another device. -/
theorem OwnD.setFor {B : Nat} {a : Option Addr} {c : Nat} {d : Dir} {w : World} (h : OwnD B (.slice a 1 c) [d] w) (f : List UInt8) :
    ∃ g, a = some ⟨g, 0, none⟩ ∧ B ≤ g ∧ (∃ u, w.cell? ⟨g, 3, none⟩ = some u) ∧ w.frozen? ⟨g, 3, none⟩ = false ∧ OwnD B (.slice a 1 c) [⟨d.name, d.value, d.has, f⟩] (w.setCell ⟨g, 3, none⟩ (.string ⟨f.toArray⟩)) := by
  obtain ⟨h1, h2⟩ := h
  rcases h2 with ⟨hv, h0⟩ | ⟨g, cap, cur, hv, hg, hh, hn, hc, hs, hx⟩
  · simp at h0
  · cases hv
    simp only [List.length_singleton, Nat.one_mul] at hx hs hn
    have hsz : 4 ≤ cur.size := by omega
    have hlt : g < w.heap.size := by
      rcases Nat.lt_or_ge g w.heap.size with h' | h'
      · exact h'
      · simp [Array.getElem?_eq_none h'] at hh
    refine ⟨g, rfl, hg, ⟨cur[3], by simp [World.cell?, hh, show 3 < cur.size from by omega]⟩, by simp [World.frozen?, hh], ?_⟩
    refine ⟨by simp [dirsV, dirV], Or.inr ⟨g, c, cur.setIfInBounds 3 (.string ⟨f.toArray⟩), rfl, hg, ?_, by simpa using hn, hc, by simpa using hs, ?_⟩⟩
    · simp [World.setCell, Array.getElem?_modify, hh]
    · have e : cur.toList = dirsV [d] ++ cur.toList.drop 4 := by rw [← hx, List.take_append_drop]
      simp only [List.length_singleton, Nat.one_mul, Array.toList_setIfInBounds]
      rw [e]
      simp [dirsV, dirV]
theorem DirsPost.nil {w w' : World} (h : Below w.heap.size w w') : DirsPost w [] (.returned (.slice none 0 0)) w' := ⟨none, 0, rfl, OwnD.nil _ _, h⟩
set_option maxHeartbeats 8000000 in
theorem surSaid_any (s : ByteArray) (w : World) (hM : MaxL w) (hs : s.size ≤ 1000000) :
    Calls Tryz.prog 168 #[.string s] w (DirsPost w (saidS s.data.toList)) := by
  have k1 := split_any s 59 w hs
  have htot := split_total 59 s.data.toList
  rw [← Lib.size_eq] at htot
  have hs0 : saidS s.data.toList = bif (splitL 59 s.data.toList).2 != 0 then [neverD] else match (splitL 59 s.data.toList).1 with
    | [a] => oneOf (dlistL [a]) []
    | [a, b] => bif tokenL b then oneOf (dlistL [a]) b else []
    | _ => [] := rfl
  rw [hs0]
  clear hs0
  generalize splitL 59 s.data.toList = r at *
  obtain ⟨ps, er⟩ := r
  simp only at htot ⊢
  cases hz : (er != 0)
  · have hz0 : er = 0 := by simpa [bne] using hz
    subst hz0
    rw [cond_false]
    have hmem := fun p (hp : p ∈ ps) => total_mem hp
    rcases ps with _ | ⟨p0, _ | ⟨p1, _ | ⟨p2, r⟩⟩⟩
    · have K1 := Lib.hid k1; clear k1
      go_enter Tryz.func168, Tryz.ntmps168
      go_wp2_with fail
      refine K1.out.mono ?_
      rintro e w1 ⟨a1, c1, rfl, ho1, hb1⟩
      go_wp2
      go_ret
      exact DirsPost.nil hb1
    · show Calls Tryz.prog _ _ w (DirsPost w (oneOf (dlistL [p0]) []))
      have hp0 : p0.length ≤ 1000000 := by have := hmem p0 (by simp); omega
      clear hmem htot
      have k2 := fun a1 c1 W (hb : Below w.heap.size w W) (hr : Rd a1 1 1 (strsV [p0]) W) => dlist_any a1 1 c1 [p0] W (hM.below hb) hr (by omega) (by intro v hv; rw [List.mem_singleton.1 hv]; exact hp0)
      generalize dlistL [p0] = ds at *
      rcases ds with _ | ⟨d0, _ | ⟨d1, dr⟩⟩
      all_goals (
        have K1 := Lib.hid k1; have K2 := Lib.hid k2; clear k1 k2
        go_enter Tryz.func168, Tryz.ntmps168
        go_wp2_with fail
        refine K1.out.mono ?_
        rintro e w1 ⟨a1, c1, rfl, ho1, hb1⟩
        have hro := ho1.room
        have hc1 : 1 ≤ c1 := by have := hro.2.1; simpa using this
        have R1 := Lib.hid ho1.rd.2
        clear ho1 hro
        go_wp2_with fail
        refine (K2.out _ _ _ hb1 R1.out).mono ?_
        rintro e w2 ⟨a2, c2, rfl, ho2, hb2⟩
        have hB2 := bt hb1 hb2
        have HO2 := Lib.hid (ho2.base hb1.size)
        clear ho2 hb2)
      · go_wp2
        go_ret
        exact DirsPost.nil hB2
      · go_wp2
        go_ret
        obtain ⟨dn, dv, dh, df⟩ := d0
        exact ⟨_, _, rfl, HO2.out, hB2⟩
      · have t0 : (((dr.length : Int) + 1 + 1) != 1) = true := by simp [bne]; omega
        have t1 : (((dr.length : Int) + 1 + 1) == 1) = false := by simp; omega
        go_wp2
        go_ret
        exact DirsPost.nil hB2
    · show Calls Tryz.prog _ _ w (DirsPost w (bif tokenL p1 then oneOf (dlistL [p0]) p1 else []))
      have hp0 : p0.length ≤ 1000000 := by have := hmem p0 (by simp); omega
      have hp1 : p1.length ≤ 1000000 := by have := hmem p1 (by simp); omega
      clear hmem htot
      have k2 := fun a1 c1 W (hb : Below w.heap.size w W) (hr : Rd a1 1 1 (strsV [p0]) W) => dlist_any a1 1 c1 [p0] W (hM.below hb) hr (by omega) (by intro v hv; rw [List.mem_singleton.1 hv]; exact hp0)
      have k3 := fun W => token_any ⟨p1.toArray⟩ W (by rw [Lib.size_eq]; exact hp1)
      simp only at k3
      cases ht : tokenL p1
      · rw [cond_false]
        rw [ht] at k3
        have K1 := Lib.hid k1; have K3 := Lib.hid k3; clear k1 k2 k3
        go_enter Tryz.func168, Tryz.ntmps168
        go_wp2_with fail
        refine K1.out.mono ?_
        rintro e w1 ⟨a1, c1, rfl, ho1, hb1⟩
        obtain ⟨b, o, rfl, hl, x1⟩ := ho1.rd.2.str_at (k := 1) (by simp)
        have x1' : w1.cell? ⟨b, o + 1, none⟩ = some (.string ⟨p1.toArray⟩) := x1
        clear x1 ho1
        go_wp2_with fail
        refine (K3.out _).mono ?_
        rintro e w2 ⟨rfl, rfl⟩
        go_wp2
        go_ret
        exact DirsPost.nil hb1
      · rw [cond_true]
        rw [ht] at k3
        have hne : p1.isEmpty = false := (token_all ht).2
        generalize dlistL [p0] = ds at *
        rcases ds with _ | ⟨d0, _ | ⟨d1, dr⟩⟩
        all_goals (
          have K1 := Lib.hid k1; have K2 := Lib.hid k2; have K3 := Lib.hid k3; have HNE := Lib.hid hne; clear k1 k2 k3 hne
          go_enter Tryz.func168, Tryz.ntmps168
          go_wp2_with fail
          refine K1.out.mono ?_
          rintro e w1 ⟨a1, c1, rfl, ho1, hb1⟩
          have hro := ho1.room
          have hc1 : 1 ≤ c1 := by have := hro.2.1; simp at this; omega
          obtain ⟨b, o, rfl, hl, x1⟩ := ho1.rd.2.str_at (k := 1) (by simp)
          have x1' : w1.cell? ⟨b, o + 1, none⟩ = some (.string ⟨p1.toArray⟩) := x1
          have hr1 : Rd (some ⟨b, o, none⟩) 1 1 (strsV [p0]) w1 := by
            obtain ⟨_, h⟩ := ho1.rd.2
            refine ⟨rfl, fun _ => ?_⟩
            obtain ⟨b', o', e, hl', hc⟩ := h (by simp)
            cases e
            refine ⟨b, o, rfl, hl', fun j u hu => hc j u ?_⟩
            match j, hu with
            | 0, hu => exact hu
            | j + 1, hu => simp [strsV] at hu
          have R1 := Lib.hid hr1
          clear ho1 hro hr1 x1
          go_wp2_with fail
          refine (K3.out _).mono ?_
          rintro e w2 ⟨rfl, rfl⟩
          go_wp2_with fail
          refine (K2.out _ _ _ hb1 R1.out).mono ?_
          rintro e w2 ⟨a2, c2, rfl, ho2, hb2⟩
          have hB2 := bt hb1 hb2
          have x2 := (hb2.cell (p := ⟨b, o + 1, none⟩) hl).trans x1'
          have hOB := ho2.base hb1.size
          clear ho2 hb2 x1')
        · have HO2 := Lib.hid hOB; clear hOB
          go_wp2
          go_ret
          exact DirsPost.nil hB2
        · obtain ⟨g, rfl, hg, ⟨u, hu⟩, hfz, hO3⟩ := hOB.setFor p1
          have HO2 := Lib.hid hOB; have HO3 := Lib.hid hO3; clear hOB hO3
          go_wp2
          go_ret
          obtain ⟨dn, dv, dh, df⟩ := d0
          have := HO3.out
          unfold oneOf
          rw [HNE.out]
          exact ⟨_, _, rfl, this, hB2.setCell (by show w.heap.size ≤ g; omega) _⟩
        · have HO2 := Lib.hid hOB; clear hOB
          have t0 : (((dr.length : Int) + 1 + 1) != 1) = true := by simp [bne]; omega
          have t1 : (((dr.length : Int) + 1 + 1) == 1) = false := by simp; omega
          go_wp2
          go_ret
          exact DirsPost.nil hB2
    · have K1 := Lib.hid k1; clear k1
      have t0 : (((r.length : Int) + 1 + 1 + 1) == 0) = false := by simp; omega
      have t1 : decide (2 < (r.length : Int) + 1 + 1 + 1) = true := by simp; omega
      go_enter Tryz.func168, Tryz.ntmps168
      go_wp2_with fail
      refine K1.out.mono ?_
      rintro e w1 ⟨a1, c1, rfl, ho1, hb1⟩
      go_wp2
      go_ret
      exact DirsPost.nil hb1
  · rw [cond_true]
    have hz1 : (er == 0) = false := by simpa [bne] using hz
    have K1 := Lib.hid k1; clear k1
    go_enter Tryz.func168, Tryz.ntmps168
    go_wp2_with fail
    refine K1.out.mono ?_
    rintro e w1 ⟨a1, c1, rfl, ho1, hb1⟩
    go_wp2_with fail
    refine (never_any _).mono ?_
    rintro e w2 ⟨a2, c2, rfl, ho2, hb2⟩
    have HO2 := Lib.hid (ho2.base hb1.size)
    have hB2 := bt hb1 hb2
    clear ho2 hb2 ho1
    go_wp2
    go_ret
    exact ⟨_, _, rfl, HO2.out, hB2⟩
end Go.Proofs.YtcgdcbnhpbokfaaGreatDoor
/- Many directives at once at the end of a row that the call made. -/
namespace Go.Proofs.YtcgdcbnhpbokfaaGreatDoor
open Go.RowKit
set_option maxRecDepth 100000

theorem run_appD_none {P : Program} (w : World) (base : Nat) (t ty e : TypeId) (i : TypeInfo) (size c : Nat) (ht : P.underlying t = some (.slice e)) (hi : P.info? e = some i)
    (v : Value) (n : Nat) (xs : List Value) (hown : w.ownsRow base e size v n xs) :
    (Builtin.append_ #[t, t] ty #[v, .slice none 0 c]).run P w = .ok v w := by
  rcases hown.2 with ⟨rfl, rfl⟩ | ⟨g, cap, cur, rfl, _, _, hnc, _⟩
  · simp [Builtin.append_, run_underlying ht, sizeOf, typeInfo, hi, Builtin.lenOf, Builtin.firstCells]
  · simp [Builtin.append_, run_underlying ht, sizeOf, typeInfo, hi, Builtin.lenOf, Builtin.firstCells, hnc, storeCells]
theorem dirsV_one (ys : List Dir) : ∀ u ∈ dirsV ys, u.oneCell' = true := by
  intro u hu
  unfold dirsV at hu
  obtain ⟨f, _, h⟩ := List.mem_flatMap.1 hu
  simp [dirV] at h
  rcases h with rfl | rfl | rfl | rfl <;> rfl
theorem dirsV_app (xs ys : List Dir) : dirsV (xs ++ ys) = dirsV xs ++ dirsV ys := by unfold dirsV; simp
theorem app_dirs {ops : Array Oper} {rest : List Oper} {o : Oper} {a : Act} {Q : Exit → Act → World → Prop} (B : Nat) {w : World} {v : Value} {fs : List Dir} (hown : OwnD B v fs w) (hB : B ≤ w.heap.size)
    {A : Option Addr} {n c : Nat} {ys : List Dir} (hr : Rd A n 4 (dirsV ys) w) (hn : fs.length + n ≤ 1000000000)
    (hgd : o.guard = none) (s x : Operand) (ho : o.op = .call { callee := .builtin .append, args := #[s, x], argTypes := #[81, 81] })
    (hs : a.eval s = v) (hx : a.eval x = .slice A n c)
    (hK : ∀ v' w1, OwnD B v' (fs ++ ys) w1 → Below B w w1 → Far w w1 v v' → wpList Tryz.prog ops Q rest (a.put o.dst v') w1) :
    wpList Tryz.prog ops Q (o :: rest) a w := by
  obtain rfl := hr.dir
  obtain ⟨i0, hi, hz0, hz1, hz2⟩ := info_parts uDir
  have key : ∃ v' w1, (Builtin.append_ #[81, 81] o.type #[v, .slice A ys.length c]).run Tryz.prog w = .ok v' w1 ∧ OwnD B v' (fs ++ ys) w1 ∧ Below B w w1 ∧ Far w w1 v v' := by
    by_cases h0 : A = none
    · subst h0
      have hy : ys.length = 0 := by
        rcases Nat.eq_zero_or_pos ys.length with h | h
        · exact h
        · obtain ⟨b, o', e, _⟩ := hr.2 h; cases e
      have hy2 : ys = [] := List.eq_nil_of_length_eq_zero hy
      subst hy2
      refine ⟨v, w, run_appD_none w B _ _ 84 i0 4 c Tryz.underlying81 hi v _ _ hown, by rw [List.append_nil]; exact hown, Below.refl _ _, ⟨⟨rfl, rfl, rfl, Nat.le_refl _, fun _ _ _ => rfl⟩, Or.inl rfl⟩⟩
    · obtain ⟨ad, rfl⟩ := Option.ne_none_iff_exists'.1 h0
      obtain ⟨v', w', hrun, h2, h3, _, h5⟩ := run_append_own_at (P := Tryz.prog) w B 81 o.type 84 i0 (.agg #[.string ByteArray.empty, .string ByteArray.empty, .bool false, .string ByteArray.empty]) 4 56 Tryz.underlying81 hi hz0 hz1 hz2 rfl (by decide) v fs.length (dirsV fs) hown ad ys.length c (dirsV ys) (by rw [dirsV_len]) (by
        intro j u hj
        have hjl : j < ys.length * 4 := by have := (List.getElem?_eq_some_iff.1 hj).1; rwa [dirsV_len] at this
        obtain ⟨b, o', e, _, hc⟩ := hr.2 (by omega)
        cases e
        have e2 : (⟨b, o', none⟩ : Addr).add j = ⟨b, o' + j, none⟩ := by unfold Addr.add; split <;> simp_all
        rw [e2]
        exact hc j u hj) (dirsV_one ys) (by unfold maxLen; omega) (by omega) hB
      refine ⟨v', w', hrun, ?_, (Below.refl B w).grown h3 hB (fun k hk => (World.ownsRow.lt hown k hk).1), ⟨h3, ?_⟩⟩
      · unfold OwnD
        rw [List.length_append, dirsV_app]
        exact h2
      · rcases h5 with h | h
        · exact Or.inl h
        · refine Or.inr fun g hg => ?_
          rw [h] at hg
          have := Option.some.inj hg
          omega
  obtain ⟨v', w1, hrun, h1, h2, h3⟩ := key
  refine wpList_plain hgd fun _ hK' => ?_
  unfold Oper.wp execOp
  simp only [ho, resolve, invoke, builtin, Sem.run_bind, Sem.run_pure, Result.andThen_ok, List.map_toArray, List.map_cons, List.map_nil, hs, hx, hrun]
  exact hK' _ _ (hK v' w1 h1 h2 h3)
end Go.Proofs.YtcgdcbnhpbokfaaGreatDoor
/- The walk of surctl.List. -/
namespace Go.Proofs.YtcgdcbnhpbokfaaGreatDoor
open Go.RowKit
set_option maxRecDepth 100000

def DSt (B : Nat) (out : Value) (acc : List Dir) (A : Option Addr) (vs : List (List UInt8)) (w : World) : Prop := OwnD B out acc w ∧ Rd A vs.length 1 (strsV vs) w ∧ Sep out A vs.length
theorem DSt.below {B : Nat} {out : Value} {acc : List Dir} {A : Option Addr} {vs : List (List UInt8)} {w w1 : World} (h : DSt B out acc A vs w) (hb : Below w.heap.size w w1) : DSt B out acc A vs w1 := ⟨h.1.below hb, h.2.1.below hb, h.2.2⟩
theorem DSt.far {B : Nat} {out v' : Value} {acc acc' : List Dir} {A : Option Addr} {vs : List (List UInt8)} {w w1 : World} (h : DSt B out acc A vs w) (ho : OwnD B v' acc' w1) (hf : Far w w1 out v') : DSt B v' acc' A vs w1 := ⟨ho, h.2.1.far hf h.2.2⟩
theorem DSt.beside {B : Nat} {out : Value} {acc : List Dir} {A A2 : Option Addr} {vs ps : List (List UInt8)} {w w1 : World} {c : Nat} (h : DSt B out acc A vs w) (hb : Below w.heap.size w w1) (hp : OwnS w.heap.size (.slice A2 ps.length c) ps w1) : DSt B out acc A2 ps w1 := ⟨h.1.below hb, hp.rd.2, Sep.new h.1 (own_new hp)⟩
theorem sayS_le (p : List UInt8) : (sayS p).length ≤ 1 := by
  unfold sayS
  cases ((splitL 59 p).2 != 0)
  · simp only [cond_false]
    split
    · exact oneOf_le _ _
    · cases tokenL _ <;> simp [oneOf_le]
    · simp
  · simp
theorem says_le : ∀ ps : List (List UInt8), (ps.flatMap sayS).length ≤ ps.length
  | [] => by simp
  | p :: r => by
    have h1 := sayS_le p
    have h2 := says_le r
    rw [List.flatMap_cons, List.length_append, List.length_cons]; omega
def tellsV (v : List UInt8) : List Dir := bif (splitL 44 v).2 == 0 then (splitL 44 v).1.flatMap sayS else [neverD]
theorem tellsV_le (v : List UInt8) : (tellsV v).length ≤ 64 := by
  unfold tellsV
  have h := split_few 44 v
  have h2 := says_le (splitL 44 v).1
  cases ((splitL 44 v).2 == 0)
  · simp
  · rw [cond_true]; omega
theorem slist_eq (vs : List (List UInt8)) : slistL vs = vs.flatMap tellsV := rfl
theorem slist_le : ∀ vs : List (List UInt8), (slistL vs).length ≤ 64 * vs.length
  | [] => by simp [slistL]
  | v :: r => by
    have h1 := tellsV_le v
    have h2 := slist_le r
    rw [slist_eq] at *
    rw [List.flatMap_cons, List.length_append, List.length_cons]; omega
theorem fmap_take {α β : Type} (f : α → List β) (l : List α) (k : Nat) (h : k < l.length) : (l.take (k + 1)).flatMap f = (l.take k).flatMap f ++ f l[k] := by
  rw [List.take_succ_eq_append_getElem h, List.flatMap_append]; simp

set_option maxHeartbeats 16000000 in
theorem surList_any (A : Option Addr) (n c : Nat) (vs : List (List UInt8)) (w : World) (hM : MaxL w) (hr : Rd A n 1 (strsV vs) w) (hn : n ≤ 10000) (hl : ∀ v ∈ vs, v.length ≤ 1000000) :
    Calls Tryz.prog 125 #[.slice A n c] w (DirsPost w (slistL vs)) := by
  obtain rfl := hr.str
  have hS : DSt w.heap.size (.slice none 0 0) [] A vs w := ⟨OwnD.nil _ _, hr, fun _ g o e x => by cases x⟩
  have hB := Below.refl w.heap.size w
  have h00 : slistL (vs.take 0) = [] := rfl
  have hstep := fun k (h : k < vs.length) => fmap_take tellsV vs k h
  have hlen : ∀ k, (slistL (vs.take k)).length ≤ 1000000 := fun k => by
    have := slist_le (vs.take k); have h2 : (vs.take k).length ≤ vs.length := by rw [List.length_take]; omega
    omega
  simp only [← slist_eq] at hstep
  have hfin : slistL (vs.take vs.length) = slistL vs := by rw [List.take_length]
  have HS := Lib.hid hS; have H00 := Lib.hid h00; have HSTEP := Lib.hid hstep; have HLEN := Lib.hid hlen; have HH := Lib.hid hfin; have HML := Lib.hid hl
  clear hS h00 hstep hlen hfin hl hr
  go_enter Tryz.func125, Tryz.ntmps125
  go_wp2_with fail
  go_loopw [11, 2] (fun i out wr => ∃ k : Nat, k ≤ vs.length ∧ i = .int .i64 k ∧ Hid (DSt w.heap.size out (slistL (vs.take k)) A vs wr) ∧ Below w.heap.size w wr) (fun i _ _ => vs.length - (intOf i).toNat)
  case atStart => exact ⟨0, Nat.zero_le _, rfl, by rw [H00.out]; exact HS, hB⟩
  case round =>
    clear HS hB H00
    obtain ⟨k, hk, rfl, HO, hbw⟩ := hrel
    obtain ⟨oa, oc, rfl⟩ := HO.out.1.shape
    have hal := HLEN.out k
    by_cases hlt : k < vs.length
    · obtain ⟨b, o, rfl, hl, c1⟩ := HO.out.2.1.str_at (k := k) hlt
      have hst := HSTEP.out k hlt
      have hv := HML.out vs[k] (List.getElem_mem _)
      generalize vs[k] = v at *
      have k2 := fun w => split_any ⟨v.toArray⟩ 44 w (by rw [Lib.size_eq]; exact hv)
      simp only at k2
      have hfew := split_few 44 v
      have hpt := split_total 44 v
      have hsay := @said_say v
      have htv : tellsV v = bif (splitL 44 v).2 == 0 then (splitL 44 v).1.flatMap sayS else [neverD] := rfl
      generalize splitL 44 v = r at *
      obtain ⟨ps, er⟩ := r
      simp only at hfew hpt hsay htv
      rw [htv] at hst
      generalize slistL (vs.take k) = acc at *
      cases hz : (er == 0)
      · rw [hz, cond_false] at hst
        have n0 : (er != 0) = true := by simp [bne, hz]
        have K2 := Lib.hid k2; have HST := Lib.hid hst
        clear k2 hst hpt hfew hsay htv HSTEP HML HLEN hv
        go_wp2_with fail
        refine (K2.out _).mono ?_
        rintro e w3 ⟨a3, c3, rfl, ho3, hb3⟩
        simp only at ho3 ⊢
        have hB3 := hbw.trans (hb3.mono hbw.size)
        have HO3 := Lib.hid (HO.out.below hb3)
        clear ho3 hb3 hbw HO c1 K2
        go_wp2_with fail
        refine (never_any _).mono ?_
        rintro e w4 ⟨a4, c4, rfl, ho4, hb4⟩
        have hB4 := hB3.trans (hb4.mono hB3.size)
        have HO4 := Lib.hid (HO3.out.below hb4)
        have HR4 := Lib.hid ho4.rd.2
        clear HO3 ho4 hb4 hB3
        have hal2 : acc.length + 1 ≤ 1000000000 := by omega
        go_wp2_with (at_builtin; refine app_dirs w.heap.size HO4.out.1 hB4.size HR4.out hal2 rfl _ _ rfl rfl rfl ?_)
        intro v' w7 hO7 hb7 hfar7
        have hB7 := hB4.trans hb7
        have HO7 : Hid (DSt w.heap.size v' (slistL (vs.take (k + 1))) (some ⟨b, o, none⟩) vs w7) := by rw [HST.out]; exact Lib.hid (HO4.out.far hO7 hfar7)
        clear hO7 hb7 hfar7 HO4 HST
        go_wp2
        go_roundw
        case rel => exact ⟨k + 1, by omega, by go_num, HO7, hB7⟩
        case measure => simp [intOf]; omega
      · rw [hz, cond_true] at hst
        have n0 : (er != 0) = false := by simp [bne, hz]
        have her : er = 0 := by simpa using hz
        have hps : ∀ p ∈ ps, p.length ≤ 1000000 := fun p hp => by have := total_mem hp; omega
        have hsy : ∀ p ∈ ps, saidS p = sayS p := fun p hp => hsay her hp
        have hft : ∀ m (h : m < ps.length), acc ++ (ps.take (m + 1)).flatMap sayS = (acc ++ (ps.take m).flatMap sayS) ++ sayS ps[m] := fun m h => by rw [fmap_take sayS ps m h, List.append_assoc]
        have hfl : ∀ m, (acc ++ (ps.take m).flatMap sayS).length ≤ 2000000 := by
          intro m
          have h1 := says_le (ps.take m)
          have h2 : (ps.take m).length ≤ ps.length := by rw [List.length_take]; omega
          rw [List.length_append]; omega
        have hfin : slistL (vs.take (k + 1)) = acc ++ (ps.take ps.length).flatMap sayS := by rw [List.take_length]; exact hst
        have h0 : acc ++ (ps.take 0).flatMap sayS = acc := by simp
        have K2 := Lib.hid k2; have HPS := Lib.hid hps; have HSY := Lib.hid hsy; have HFT := Lib.hid hft; have HFL := Lib.hid hfl; have HFIN := Lib.hid hfin; have H0 := Lib.hid h0
        clear k2 hst hv hpt hps hsy hft hfl hfin h0 hsay htv HSTEP HML HLEN her
        go_wp2_with fail
        refine (K2.out _).mono ?_
        rintro e w3 ⟨a3, c3, rfl, ho3, hb3⟩
        simp only at ho3 ⊢
        have hB3 := hbw.trans (hb3.mono hbw.size)
        have HO3 := Lib.hid (HO.out.below hb3)
        have HP3 := Lib.hid (HO.out.beside hb3 ho3)
        have hM3 := hM.below hB3
        clear ho3 hb3 hbw HO c1 K2
        go_wp2_with fail
        obtain ⟨wo, rfl⟩ : ∃ wo : World, wo = wr := ⟨_, rfl⟩
        go_loopw [27, 2] (fun j out wi => ∃ m : Nat, m ≤ ps.length ∧ j = .int .i64 m ∧ Hid (DSt w.heap.size out (acc ++ (ps.take m).flatMap sayS) (some ⟨b, o, none⟩) vs wi) ∧ Hid (DSt w.heap.size out (acc ++ (ps.take m).flatMap sayS) a3 ps wi) ∧ Below w.heap.size w wi) (fun j _ _ => ps.length - (intOf j).toNat)
        case atStart => exact ⟨0, Nat.zero_le _, rfl, by rw [H0.out]; exact HO3, by rw [H0.out]; exact HP3, hB3⟩
        case round =>
          clear HO3 HP3 hB3 H0 hM3
          obtain ⟨m, hm, rfl, HO, HP, hbi⟩ := hrel
          obtain ⟨pa, pc, rfl⟩ := HO.out.1.shape
          have hal2 := HFL.out m
          by_cases hlm : m < ps.length
          · obtain ⟨b2, o2, rfl, hl2, c2⟩ := HP.out.2.1.str_at (k := m) hlm
            have hpp := HPS.out ps[m] (List.getElem_mem _)
            have hsy := HSY.out ps[m] (List.getElem_mem _)
            have hft := HFT.out m hlm
            have hsl := sayS_le ps[m]
            generalize ps[m] = p at *
            have k4 := surSaid_any ⟨p.toArray⟩ wr (hM.below hbi) (by rw [Lib.size_eq]; exact hpp)
            simp only at k4
            rw [hsy] at k4
            generalize sayS p = q at *
            generalize acc ++ (ps.take m).flatMap sayS = ac at *
            have hal3 : ac.length + q.length ≤ 1000000000 := by omega
            have HFT2 := Lib.hid hft; have K4 := Lib.hid k4
            clear hft k4 hsy hpp
            go_wp2_with fail
            refine K4.out.mono ?_
            rintro e w4 ⟨a4, c4, rfl, ho4, hb4⟩
            have hB4 := hbi.trans (hb4.mono hbi.size)
            have HO4 := Lib.hid (HO.out.below hb4)
            have HP4 := Lib.hid (HP.out.below hb4)
            have HR4 := Lib.hid ho4.rd.2
            clear HO HP ho4 hb4 c2 K4
            go_wp2_with (at_builtin; refine app_dirs w.heap.size HO4.out.1 hB4.size HR4.out hal3 rfl _ _ rfl rfl rfl ?_)
            intro v' w7 hO7 hb7 hfar7
            have hB7 := hB4.trans hb7
            have HO7 : Hid (DSt w.heap.size v' (acc ++ (ps.take (m + 1)).flatMap sayS) (some ⟨b, o, none⟩) vs w7) := by rw [HFT2.out]; exact Lib.hid (HO4.out.far hO7 hfar7)
            have HP7 : Hid (DSt w.heap.size v' (acc ++ (ps.take (m + 1)).flatMap sayS) (some ⟨b2, o2, none⟩) ps w7) := by rw [HFT2.out]; exact Lib.hid (HP4.out.far hO7 hfar7)
            clear hO7 hb7 hfar7 HO4 HP4 HFT2
            go_wp2
            go_roundw
            case rel => exact ⟨m + 1, by omega, by go_num, HO7, HP7, hB7⟩
            case measure => simp [intOf]; omega
          · have hme : m = ps.length := by omega
            subst hme
            have HN : Hid (DSt w.heap.size (.slice pa (acc ++ (ps.take ps.length).flatMap sayS).length pc) (slistL (vs.take (k + 1))) (some ⟨b, o, none⟩) vs wr) := by rw [HFIN.out]; exact HO
            clear HO HP HFT HFL HFIN HPS HSY
            go_wp2
            go_roundw
            case rel => exact ⟨k + 1, by omega, by go_num, HN, hbi⟩
            case measure => simp [intOf]; omega
    · have hke : k = vs.length := by omega
      subst hke
      have hfin := HH.out
      clear HSTEP HML HLEN HH
      generalize slistL (vs.take vs.length) = q at *
      subst hfin
      go_wp2
      go_ret
      exact ⟨oa, oc, rfl, HO.out.1, hbw⟩
end Go.Proofs.YtcgdcbnhpbokfaaGreatDoor
/- The walks of surctl.Mine and its closures (printed by wip/tools/surmine.py). -/
namespace Go.Proofs.YtcgdcbnhpbokfaaGreatDoor
open Go.RowKit
set_option maxRecDepth 100000

set_option maxHeartbeats 4000000 in
theorem own1_any (T : Nat) (dev : ByteArray) (d : Dir) (w : World) (hT : w.cell? ⟨T, 0, none⟩ = some (.string dev)) (hTw : T < w.heap.size) :
    Calls Tryz.prog 164 #[.agg #[.string ⟨d.name.toArray⟩, .string ⟨d.value.toArray⟩, .bool d.has, .string ⟨d.for_.toArray⟩], .pointer (some ⟨T, 0, none⟩)] w fun e w' => e = .returned (.bool (ownB dev.data.toList d)) ∧ Below w.heap.size w w' := by
  obtain ⟨dn, dv, dh, df⟩ := d
  simp only
  have hal := (Below.refl w.heap.size w).alloc (Nat.le_refl _) (.cells #[.string ⟨dn.toArray⟩, .string ⟨dv.toArray⟩, .bool dh, .string ⟨df.toArray⟩] 84)
  have hT2 := (hal.cell (p := ⟨T, 0, none⟩) hTw).trans hT
  have hne : T ≠ w.heap.size := by omega
  cases he : dev.data.toList.isEmpty
  · have e1 : dev.toList.isEmpty = false := by rw [Lib.toList_data]; exact he
    have hq : ownB dev.data.toList ⟨dn, dv, dh, df⟩ = (df == dev.data.toList) := by unfold ownB; rw [he]; rfl
    rw [hq]
    have e2 : (df == dev.toList) = (df == dev.data.toList) := by rw [Lib.toList_data]
    have E2 := Lib.hid e2; clear e2 hq he
    go_enter Tryz.func164, Tryz.ntmps164
    go_wp2
    go_ret
    exact ⟨by rw [← E2.out]; rfl, hal⟩
  · have e1 : dev.toList.isEmpty = true := by rw [Lib.toList_data]; exact he
    have hq : ownB dev.data.toList ⟨dn, dv, dh, df⟩ = false := by unfold ownB; rw [he]; rfl
    rw [hq]
    clear hq he
    go_enter Tryz.func164, Tryz.ntmps164
    go_wp2
    go_ret
    exact ⟨rfl, hal⟩
set_option maxHeartbeats 4000000 in
theorem own2_any (T U V : Nat) (dev : ByteArray) (d x : Dir) (w : World) (hT : w.cell? ⟨T, 0, none⟩ = some (.string dev)) (hTw : T < w.heap.size) (hU : w.cell? ⟨U, 0, none⟩ = some (.func (.func 164) #[] #[.pointer (some ⟨T, 0, none⟩)])) (hUw : U < w.heap.size) (hV : w.cell? ⟨V, 0, none⟩ = some (.string ⟨d.name.toArray⟩)) (hVw : V < w.heap.size) :
    Calls Tryz.prog 166 #[.agg #[.string ⟨x.name.toArray⟩, .string ⟨x.value.toArray⟩, .bool x.has, .string ⟨x.for_.toArray⟩], .pointer (some ⟨U, 0, none⟩), .pointer (some ⟨V, 0, none⟩)] w fun e w' => e = .returned (.bool (ownB dev.data.toList x && x.name == d.name)) ∧ Below w.heap.size w w' := by
  have k1 := fun W h1 h2 => own1_any T dev x W h1 h2
  obtain ⟨dn, _, _, _⟩ := d
  obtain ⟨xn, xv, xh, xf⟩ := x
  simp only at hV k1 ⊢
  obtain ⟨W1, hW1⟩ : ∃ W1, w.alloc (.cells #[.string ⟨xn.toArray⟩, .string ⟨xv.toArray⟩, .bool xh, .string ⟨xf.toArray⟩] 84) = W1 := ⟨_, rfl⟩
  have hal : Below w.heap.size w W1 := by rw [← hW1]; exact (Below.refl w.heap.size w).alloc (Nat.le_refl _) _
  obtain ⟨z0, z1, z2, z3, _, _, _, _, zlt⟩ := at4_alloc w (.string ⟨xn.toArray⟩) (.string ⟨xv.toArray⟩) (.bool xh) (.string ⟨xf.toArray⟩) 84
  rw [hW1] at z0 z1 z2 z3 zlt
  have hT1 := (hal.cell (p := ⟨T, 0, none⟩) hTw).trans hT
  have hal0 := (Below.refl w.heap.size w).alloc (Nat.le_refl _) (.cells #[.string ⟨xn.toArray⟩, .string ⟨xv.toArray⟩, .bool xh, .string ⟨xf.toArray⟩] 84)
  have hU1 := (hal0.cell (p := ⟨U, 0, none⟩) hUw).trans hU
  have hV1 := (hal.cell (p := ⟨V, 0, none⟩) hVw).trans hV
  have k2 := k1 W1 hT1 (Nat.lt_of_lt_of_le hTw hal.size)
  have hVl := Nat.lt_of_lt_of_le hVw hal.size
  have HW1 := Lib.hid hW1
  clear k1 hT hU hV hT1 hW1
  cases ho : ownB dev.data.toList ⟨xn, xv, xh, xf⟩
  all_goals (
    rw [ho] at k2
    have K2 := Lib.hid k2; clear k2 ho
    go_enter Tryz.func166, Tryz.ntmps166
    go_wp2_with fail
    rw [HW1.out]
    refine K2.out.mono ?_
    rintro e w2 ⟨rfl, hb2⟩
    have y0 := (hb2.cell (p := ⟨w.heap.size, 0, none⟩) zlt).trans z0
    have yV := (hb2.cell (p := ⟨V, 0, none⟩) hVl).trans hV1
    have hB2 := hal.trans (hb2.mono hal.size)
    clear z0 z1 z2 z3 hV1 hU1
    go_wp2
    go_ret)
  · exact ⟨rfl, hB2⟩
  · exact ⟨rfl, hB2⟩

set_option maxHeartbeats 4000000 in
theorem indexMine_any (p1 p2 : Value) (q : Dir → Bool) (A : Option Addr) (n c : Nat) (xs : List Dir) (w : World) (hr : Rd A n 4 (dirsV xs) w) (hn : n ≤ 1000000)
    (hc : ∀ d ∈ xs, ∀ W, Below w.heap.size w W → Calls Tryz.prog 166 #[.agg #[.string ⟨d.name.toArray⟩, .string ⟨d.value.toArray⟩, .bool d.has, .string ⟨d.for_.toArray⟩], p1, p2] W fun e W' => e = .returned (.bool (q d)) ∧ Below W.heap.size W W') :
    Calls Tryz.prog 127 #[.slice A n c, .func (.func 166) #[] #[p1, p2]] w fun e w' => e = .returned (.int .i64 (firstI q xs)) ∧ Below w.heap.size w w' := by
  obtain rfl := hr.dir
  have hstep := fun k (h : k < xs.length) => @find_take_none xs q k h
  have hhit : ∀ k (h : k < xs.length), (xs.take k).find? q = none → q xs[k] = true → firstI q xs = k := by
    intro k h hno hp
    unfold firstI
    rw [show xs.findIdx? q = some k from by
      rw [List.findIdx?_eq_some_iff_getElem]
      refine ⟨h, hp, fun j hj => ?_⟩
      rw [List.find?_eq_none] at hno
      refine hno xs[j] ?_
      rw [List.mem_take_iff_getElem]
      exact ⟨j, by omega, rfl⟩]
  have hend : ∀ k, k = xs.length → (xs.take k).find? q = none → firstI q xs = -1 := by
    intro k hk h
    subst hk
    rw [List.take_length] at h
    unfold firstI
    rw [show xs.findIdx? q = none from by
      rw [List.findIdx?_eq_none_iff]
      rw [List.find?_eq_none] at h
      intro x hx'; simpa using h x hx']
  generalize firstI q xs = out at *
  have HR := Lib.hid hr; have HS := Lib.hid hstep; have HH := Lib.hid hhit; have HE := Lib.hid hend; have HC := Lib.hid hc
  clear hr hstep hhit hend hc
  go_enter Tryz.func127, Tryz.ntmps127
  go_wp2_with fail
  go_loopw [8] (fun i wr => ∃ k : Nat, k ≤ xs.length ∧ i = .int .i64 k ∧ Hid ((xs.take k).find? q = none) ∧ Below w.heap.size w wr) (fun i _ => xs.length - (intOf i).toNat)
  case atStart => exact ⟨0, Nat.zero_le _, rfl, Lib.hid (by simp), Below.refl _ _⟩
  case round =>
    obtain ⟨k, hk, rfl, HN, hbr⟩ := hrel
    by_cases hlt : k < xs.length
    · obtain ⟨b, o, rfl, hl, x0, x1, x2, x3⟩ := (HR.out.below hbr).dir_at (k := k) hlt
      have hst := HS.out k hlt HN.out
      have hht := HH.out k hlt HN.out
      have k1 := HC.out xs[k] (List.getElem_mem _) wr hbr
      generalize xs[k] = d at *
      obtain ⟨dn, dv, dh, df⟩ := d
      simp only at x0 x1 x2 x3 k1
      cases hq : q ⟨dn, dv, dh, df⟩
      · rw [hq] at k1
        have HN2 := Lib.hid (hst hq)
        have K1 := Lib.hid k1
        clear hst hht k1 hq HS HH HE HN HC
        go_wp2_with fail
        refine K1.out.mono ?_
        rintro e w1 ⟨rfl, hb1⟩
        have hB1 := hbr.trans (hb1.mono hbr.size)
        go_wp2
        go_roundw
        case rel => exact ⟨k + 1, by omega, by go_num, HN2, hB1⟩
        case measure => simp [intOf]; omega
      · rw [hq] at k1
        have ho := hht hq
        subst ho
        have K1 := Lib.hid k1
        clear hst hht k1 hq HS HH HE HN HC
        go_wp2_with fail
        refine K1.out.mono ?_
        rintro e w1 ⟨rfl, hb1⟩
        have hB1 := hbr.trans (hb1.mono hbr.size)
        go_wp2
        go_ret
        exact ⟨rfl, hB1⟩
    · have ho := HE.out k (by omega) HN.out
      subst ho
      clear HS HH HE HN HC
      go_wp2
      go_ret
      exact ⟨rfl, hbr⟩
set_option maxHeartbeats 1000000 in
theorem containsMine_any (p1 p2 : Value) (q : Dir → Bool) (A : Option Addr) (n c : Nat) (xs : List Dir) (w : World) (hr : Rd A n 4 (dirsV xs) w) (hn : n ≤ 1000000)
    (hc : ∀ d ∈ xs, ∀ W, Below w.heap.size w W → Calls Tryz.prog 166 #[.agg #[.string ⟨d.name.toArray⟩, .string ⟨d.value.toArray⟩, .bool d.has, .string ⟨d.for_.toArray⟩], p1, p2] W fun e W' => e = .returned (.bool (q d)) ∧ Below W.heap.size W W') :
    Calls Tryz.prog 165 #[.slice A n c, .func (.func 166) #[] #[p1, p2]] w fun e w' => e = .returned (.bool (xs.any q)) ∧ Below w.heap.size w w' := by
  have k1 := indexMine_any p1 p2 q A n c xs w hr hn hc
  have hcase := firstI_find q xs
  have hany : (firstI q xs = -1 ∧ xs.any q = false) ∨ (∃ k : Nat, firstI q xs = (k : Int) ∧ xs.any q = true) := by
    rcases hcase with ⟨h1, h2⟩ | ⟨k, hk, h1, h2⟩
    · refine Or.inl ⟨h2, ?_⟩
      rw [List.find?_eq_none] at h1
      rw [List.any_eq_false]
      intro x hx; simpa using h1 x hx
    · refine Or.inr ⟨k, h2, ?_⟩
      rw [List.any_eq_true]
      exact ⟨xs[k], List.getElem_mem _, List.find?_some h1⟩
  clear hcase hc
  generalize firstI q xs = ix at *
  generalize xs.any q = out at *
  have K1 := Lib.hid k1; clear k1 hr
  rcases hany with ⟨rfl, rfl⟩ | ⟨k, rfl, rfl⟩
  · go_enter Tryz.func165, Tryz.ntmps165
    go_wp2_with fail
    refine K1.out.mono ?_
    rintro e w1 ⟨rfl, hb1⟩
    go_wp2
    go_ret
    exact ⟨rfl, hb1⟩
  · go_enter Tryz.func165, Tryz.ntmps165
    go_wp2_with fail
    refine K1.out.mono ?_
    rintro e w1 ⟨rfl, hb1⟩
    go_wp2
    go_ret
    exact ⟨rfl, hb1⟩

def DSt4 (B : Nat) (out : Value) (acc : List Dir) (A : Option Addr) (xs : List Dir) (w : World) : Prop := OwnD B out acc w ∧ Rd A xs.length 4 (dirsV xs) w ∧ Sep out A xs.length
theorem DSt4.below {B : Nat} {out : Value} {acc : List Dir} {A : Option Addr} {xs : List Dir} {w w1 : World} (h : DSt4 B out acc A xs w) (hb : Below w.heap.size w w1) : DSt4 B out acc A xs w1 := ⟨h.1.below hb, h.2.1.below hb, h.2.2⟩
theorem DSt4.far {B : Nat} {out v' : Value} {acc acc' : List Dir} {A : Option Addr} {xs : List Dir} {w w1 : World} (h : DSt4 B out acc A xs w) (ho : OwnD B v' acc' w1) (hf : Far w w1 out v') : DSt4 B v' acc' A xs w1 := ⟨ho, h.2.1.far hf h.2.2⟩
theorem filter_take {α : Type} (p : α → Bool) (l : List α) (k : Nat) (h : k < l.length) : (l.take (k + 1)).filter p = bif p l[k] then (l.take k).filter p ++ [l[k]] else (l.take k).filter p := by
  rw [List.take_succ_eq_append_getElem h, List.filter_append]
  cases hp : p l[k] <;> simp [hp]
set_option maxHeartbeats 16000000 in
theorem mine_any (A : Option Addr) (n c : Nat) (xs : List Dir) (dev : ByteArray) (w : World) (hr : Rd A n 4 (dirsV xs) w) (hn : n ≤ 1000000) :
    Calls Tryz.prog 124 #[.slice A n c, .string dev] w (DirsPost w (mineL xs dev.data.toList)) := by
  obtain rfl := hr.dir
  obtain ⟨W0, hW0⟩ : ∃ W0, w.alloc (.cells #[.string dev] 9) = W0 := ⟨_, rfl⟩
  have hB0 : Below w.heap.size w W0 := by rw [← hW0]; exact (Below.refl _ w).alloc (Nat.le_refl _) _
  have hT0 : W0.cell? ⟨w.heap.size, 0, none⟩ = some (.string dev) := by rw [← hW0]; exact World.cell?_alloc_mark w _ _ _ 0
  have z0 : W0.heap.size = w.heap.size + 1 := by rw [← hW0]; simp
  obtain ⟨W1, hW1⟩ : ∃ W1, W0.alloc (.cells #[.func (.func 164) #[] #[.pointer (some ⟨w.heap.size, 0, none⟩)]] 148) = W1 := ⟨_, rfl⟩
  have hb01 : Below W0.heap.size W0 W1 := by rw [← hW1]; exact (Below.refl _ W0).alloc (Nat.le_refl _) _
  have hB1 : Below w.heap.size w W1 := hB0.trans (hb01.mono hB0.size)
  have hU : W1.cell? ⟨w.heap.size + 1, 0, none⟩ = some (.func (.func 164) #[] #[.pointer (some ⟨w.heap.size, 0, none⟩)]) := by rw [← hW1, ← z0]; exact World.cell?_alloc_mark W0 _ _ _ 0
  have z1 : W1.heap.size = w.heap.size + 2 := by rw [← hW1]; simp; omega
  have hT : W1.cell? ⟨w.heap.size, 0, none⟩ = some (.string dev) := (hb01.cell (p := ⟨w.heap.size, 0, none⟩) (by show w.heap.size < _; omega)).trans hT0
  have hTw : w.heap.size < W1.heap.size := by omega
  have hUw : w.heap.size + 1 < W1.heap.size := by omega
  have hS : DSt4 W1.heap.size (.slice none 0 0) [] A xs W1 := ⟨OwnD.nil _ _, hr.below hB1, fun _ g o e x => by cases x⟩
  have hstep := fun k (h : k < xs.length) => filter_take (mineB xs dev.data.toList) xs k h
  have hlen : ∀ k, ((xs.take k).filter (mineB xs dev.data.toList)).length ≤ xs.length := fun k => by
    have h1 := List.length_filter_le (mineB xs dev.data.toList) (xs.take k)
    have h2 : (xs.take k).length ≤ xs.length := by rw [List.length_take]; omega
    omega
  have hfin : mineL xs dev.data.toList = (xs.take xs.length).filter (mineB xs dev.data.toList) := by rw [List.take_length]; rfl
  have h00 : (xs.take 0).filter (mineB xs dev.data.toList) = [] := rfl
  have hmb : ∀ d, mineB xs dev.data.toList d = (ownB dev.data.toList d || (d.for_.isEmpty && !xs.any fun x => ownB dev.data.toList x && x.name == d.name)) := fun d => rfl
  generalize mineB xs dev.data.toList = mb at *
  rw [hfin]
  clear hfin
  have HS := Lib.hid hS; have HSTEP := Lib.hid hstep; have HLEN := Lib.hid hlen; have H00 := Lib.hid h00; have HMB := Lib.hid hmb; have HW0 := Lib.hid hW0; have HW1 := Lib.hid hW1; have HT := Lib.hid hT; have HU := Lib.hid hU
  have hb1 := Below.refl W1.heap.size W1
  clear hS hstep hlen h00 hmb hW0 hW1 hT hU hr hT0 z0 z1
  go_enter Tryz.func124, Tryz.ntmps124
  go_wp2_with fail
  rw [HW0.out, HW1.out]
  go_loopw [11, 4] (fun i out wr => ∃ k : Nat, k ≤ xs.length ∧ i = .int .i64 k ∧ Hid (DSt4 W1.heap.size out ((xs.take k).filter mb) A xs wr) ∧ Below W1.heap.size W1 wr) (fun i _ _ => xs.length - (intOf i).toNat)
  case atStart => exact ⟨0, Nat.zero_le _, rfl, by rw [H00.out]; exact HS, hb1⟩
  case round =>
    clear HS hb1 H00
    obtain ⟨k, hk, rfl, HO, hbw⟩ := hrel
    obtain ⟨oa, oc, rfl⟩ := HO.out.1.shape
    have hal := HLEN.out k
    by_cases hlt : k < xs.length
    · obtain ⟨b, o, rfl, hl, c0, c1, c2, c3⟩ := HO.out.2.1.dir_at (k := k) hlt
      have hst := HSTEP.out k hlt
      have hmb := HMB.out xs[k]
      have hrd := HO.out.2.1
      generalize xs[k] = d at *
      generalize (xs.take k).filter mb = acc at *
      obtain ⟨dn, dv, dh, df⟩ := d
      simp only at c0 c1 c2 c3 hmb
      obtain ⟨W2, hW2⟩ : ∃ W2, wr.alloc (.cells #[.string ⟨dn.toArray⟩, .string ⟨dv.toArray⟩, .bool dh, .string ⟨df.toArray⟩] 84) = W2 := ⟨_, rfl⟩
      have ha2 : Below wr.heap.size wr W2 := by rw [← hW2]; exact (Below.refl _ wr).alloc (Nat.le_refl _) _
      have j4 := at4_alloc wr (.string ⟨dn.toArray⟩) (.string ⟨dv.toArray⟩) (.bool dh) (.string ⟨df.toArray⟩) 84
      rw [hW2] at j4
      have hB2 := hbw.trans (ha2.mono hbw.size)
      have HO2 := Lib.hid (HO.out.below ha2)
      have hT2 := (hB2.cell (p := ⟨w.heap.size, 0, none⟩) hTw).trans HT.out
      have hU2 := (hB2.cell (p := ⟨w.heap.size + 1, 0, none⟩) hUw).trans HU.out
      have k1 := own1_any w.heap.size dev ⟨dn, dv, dh, df⟩ W2 hT2 (Nat.lt_of_lt_of_le hTw hB2.size)
      have k2 := fun W (hb : Below W2.heap.size W2 W) => containsMine_any (.pointer (some ⟨w.heap.size + 1, 0, none⟩)) (.pointer (some ⟨wr.heap.size, 0, none⟩)) (fun x => ownB dev.data.toList x && x.name == dn) (some ⟨b, o, none⟩) xs.length c xs W ((HO2.out.2.1).below hb) hn
        (fun x _ W' hb' => own2_any w.heap.size (w.heap.size + 1) wr.heap.size dev ⟨dn, dv, dh, df⟩ x W' (((bt hb hb').cell (p := ⟨w.heap.size, 0, none⟩) (Nat.lt_of_lt_of_le hTw hB2.size)).trans hT2) (Nat.lt_of_lt_of_le hTw (Nat.le_trans hB2.size (bt hb hb').size)) (((bt hb hb').cell (p := ⟨w.heap.size + 1, 0, none⟩) (Nat.lt_of_lt_of_le hUw hB2.size)).trans hU2) (Nat.lt_of_lt_of_le hUw (Nat.le_trans hB2.size (bt hb hb').size)) (((bt hb hb').cell (p := ⟨wr.heap.size, 0, none⟩) j4.lt).trans j4.c0) (Nat.lt_of_lt_of_le j4.lt (bt hb hb').size))
      simp only at k1
      have J4 := Lib.hid j4; have HU2 := Lib.hid hU2
      rw [← hW2] at hU2
      have HW2 := Lib.hid hW2
      obtain ⟨x0, x1, x2, x3, _, _, _, _, xlt⟩ := j4
      clear hT2 ha2 hrd HO HSTEP HLEN HMB
      clear hW2
      have hlen2 : acc.length ≤ 1000000000 := by omega
      cases how : ownB dev.data.toList ⟨dn, dv, dh, df⟩
      · rw [how] at k1
        rw [how, Bool.false_or] at hmb
        cases hfq : df.isEmpty
        · rw [hfq, Bool.false_and] at hmb
          rw [hmb, cond_false] at hst
          have HST := Lib.hid hst; have K1 := Lib.hid k1
          clear hst k1 k2 how hmb
          go_wp2_with fail
          rw [HW2.out]
          refine K1.out.mono ?_
          rintro e w3 ⟨rfl, h3⟩
          have hB3 := hB2.trans (h3.mono hB2.size)
          obtain ⟨y0, y1, y2, y3, _, _, _, _, ylt⟩ := J4.out.below h3
          have HO3 : Hid (DSt4 W1.heap.size (.slice oa acc.length oc) ((xs.take (k + 1)).filter mb) (some ⟨b, o, none⟩) xs w3) := by rw [HST.out]; exact Lib.hid (HO2.out.below h3)
          clear x0 x1 x2 x3 h3 HO2 hU2
          go_wp2
          go_roundw
          case rel => exact ⟨k + 1, by omega, by go_num, HO3, hB3⟩
          case measure => simp [intOf]; omega
        · rw [hfq, Bool.true_and] at hmb
          have hdf : df = [] := List.isEmpty_iff.1 hfq
          subst hdf
          generalize (xs.any fun x => ownB dev.data.toList x && x.name == dn) = an at *
          cases an
          · rw [hmb, Bool.not_false, cond_true] at hst
            have HST := Lib.hid hst; have K1 := Lib.hid k1; have K2 := Lib.hid k2
            clear hst k1 k2 how hmb hfq
            go_wp2_with fail
            rw [HW2.out]
            refine K1.out.mono ?_
            rintro e w3 ⟨rfl, h3⟩
            obtain ⟨y0, y1, y2, y3, _, _, _, _, ylt⟩ := J4.out.below h3
            clear x0 x1 x2 x3 hU2
            go_wp2_with fail
            refine (K2.out _ h3).mono ?_
            rintro e w4 ⟨rfl, h4⟩
            have h34 := bt h3 h4
            obtain ⟨v0, v1, v2, v3, _, _, _, _, vlt⟩ := J4.out.below h34
            have hB4 := hB2.trans (h34.mono hB2.size)
            have HO4 := Lib.hid (HO2.out.below h34)
            clear y0 y1 y2 y3 h3 h4 h34 HO2 K1 K2
            go_wp2_with (at_builtin; refine app_dir W1.heap.size ⟨dn, dv, dh, []⟩ HO4.out.1 hB4.size hlen2 rfl _ _ rfl rfl rfl ?_)
            intro v' w7 hO7 hb7 hfar7
            have hB7 := hB4.trans hb7
            have HO7 : Hid (DSt4 W1.heap.size v' ((xs.take (k + 1)).filter mb) (some ⟨b, o, none⟩) xs w7) := by rw [HST.out]; exact Lib.hid (HO4.out.far hO7 hfar7)
            clear hO7 hb7 hfar7 HO4
            go_wp2
            go_roundw
            case rel => exact ⟨k + 1, by omega, by go_num, HO7, hB7⟩
            case measure => simp [intOf]; omega
          · rw [hmb, Bool.not_true, cond_false] at hst
            have HST := Lib.hid hst; have K1 := Lib.hid k1; have K2 := Lib.hid k2
            clear hst k1 k2 how hmb hfq
            go_wp2_with fail
            rw [HW2.out]
            refine K1.out.mono ?_
            rintro e w3 ⟨rfl, h3⟩
            obtain ⟨y0, y1, y2, y3, _, _, _, _, ylt⟩ := J4.out.below h3
            clear x0 x1 x2 x3 hU2
            go_wp2_with fail
            refine (K2.out _ h3).mono ?_
            rintro e w4 ⟨rfl, h4⟩
            have h34 := bt h3 h4
            have hB4 := hB2.trans (h34.mono hB2.size)
            have HO3 : Hid (DSt4 W1.heap.size (.slice oa acc.length oc) ((xs.take (k + 1)).filter mb) (some ⟨b, o, none⟩) xs w4) := by rw [HST.out]; exact Lib.hid (HO2.out.below h34)
            clear y0 y1 y2 y3 h3 h4 h34 HO2 K1 K2
            go_wp2
            go_roundw
            case rel => exact ⟨k + 1, by omega, by go_num, HO3, hB4⟩
            case measure => simp [intOf]; omega
      · rw [how] at k1
        rw [how, Bool.true_or] at hmb
        rw [hmb, cond_true] at hst
        have HST := Lib.hid hst; have K1 := Lib.hid k1
        clear hst k1 k2 how hmb
        go_wp2_with fail
        rw [HW2.out]
        refine K1.out.mono ?_
        rintro e w4 ⟨rfl, h34⟩
        obtain ⟨v0, v1, v2, v3, _, _, _, _, vlt⟩ := J4.out.below h34
        have hB4 := hB2.trans (h34.mono hB2.size)
        have HO4 := Lib.hid (HO2.out.below h34)
        clear x0 x1 x2 x3 h34 HO2 K1 hU2
        go_wp2_with (at_builtin; refine app_dir W1.heap.size ⟨dn, dv, dh, df⟩ HO4.out.1 hB4.size hlen2 rfl _ _ rfl rfl rfl ?_)
        intro v' w7 hO7 hb7 hfar7
        have hB7 := hB4.trans hb7
        have HO7 : Hid (DSt4 W1.heap.size v' ((xs.take (k + 1)).filter mb) (some ⟨b, o, none⟩) xs w7) := by rw [HST.out]; exact Lib.hid (HO4.out.far hO7 hfar7)
        clear hO7 hb7 hfar7 HO4
        go_wp2
        go_roundw
        case rel => exact ⟨k + 1, by omega, by go_num, HO7, hB7⟩
        case measure => simp [intOf]; omega
    · have hke : k = xs.length := by omega
      subst hke
      have HO2 := Lib.hid (HO.out.1.base hB1.size)
      have hB2 := hB1.trans (hbw.mono hB1.size)
      clear HSTEP HLEN HMB HO
      generalize (xs.take xs.length).filter mb = q at *
      go_wp2
      go_ret
      exact ⟨oa, oc, rfl, HO2.out, hB2⟩
end Go.Proofs.YtcgdcbnhpbokfaaGreatDoor
/- Words between blanks: the library's fields, and the document's way; how long what a directive says may be. -/
namespace Go.Proofs.YtcgdcbnhpbokfaaGreatDoor

def blankP (x : Nat) : Bool := ((x : Int) == 32) || ((x : Int) == 9)
theorem get_at (s : ByteArray) (i : Nat) (h : i < s.size) : s.get! i = s[i] := by
  show s.data[i]! = s.data[i]
  exact getElem!_pos s.data i h
theorem dec_step (s : ByteArray) (pos : Nat) (h : pos < s.size) : 1 ≤ (Utf8.decode s pos).2 ∧ pos + (Utf8.decode s pos).2 ≤ s.size ∧
    (blankP (Utf8.decode s pos).1 = true → (Utf8.decode s pos).2 = 1 ∧ blanks.contains s[pos] = true) ∧
    (blankP (Utf8.decode s pos).1 = false → ∀ j (hj : j < s.size), pos ≤ j → j < pos + (Utf8.decode s pos).2 → blanks.contains s[j] = false) := by
  have g0 := get_at s pos h
  have hb : ∀ c : UInt8, 128 ≤ c.toNat → blanks.contains c = false := by
    intro c hc
    cases hq : blanks.contains c
    · rfl
    · have : c = 32 ∨ c = 9 := by simpa [blanks] using hq
      rcases this with e | e <;> subst e <;> simp at hc
  have hk : ∀ k, pos + k < s.size → (s.get! (pos + k)).toNat / 64 = 2 → ∀ (hj : pos + k < s.size), blanks.contains s[pos + k] = false := by
    intro k hk h2 hj
    rw [get_at s (pos + k) hk] at h2
    exact hb _ (by omega)
  have first : ¬ (s[pos]).toNat < 128 → ∀ n, (∀ k, 1 ≤ k → k < n → pos + k < s.size ∧ (s.get! (pos + k)).toNat / 64 = 2) → ∀ j (hj : j < s.size), pos ≤ j → j < pos + n → blanks.contains s[j] = false := by
    intro h0 n hn j hj h1 h2
    obtain ⟨k, rfl⟩ : ∃ k, j = pos + k := ⟨j - pos, by omega⟩
    rcases Nat.eq_zero_or_pos k with hz | hz
    · subst hz; exact hb _ (by simpa using h0)
    · obtain ⟨a, b⟩ := hn k hz (by omega)
      exact hk k a b hj
  unfold Utf8.decode
  simp only [Nat.add_zero, g0]
  by_cases h128 : (s[pos]).toNat < 0x80
  · simp only [h128, if_true]
    refine ⟨by omega, by omega, fun hp => ⟨trivial, ?_⟩, fun hp j hj h1 h2 => ?_⟩
    · have : (s[pos]).toNat = 32 ∨ (s[pos]).toNat = 9 := by simp [blankP] at hp; omega
      have : s[pos] = 32 ∨ s[pos] = 9 := by
        rcases this with e | e
        · left; rw [← UInt8.toNat_inj]; exact e
        · right; rw [← UInt8.toNat_inj]; exact e
      simpa [blanks] using this
    · obtain rfl : j = pos := by omega
      cases hq : blanks.contains s[j]
      · rfl
      · have : s[j] = 32 ∨ s[j] = 9 := by simpa [blanks] using hq
        rcases this with e | e <;> rw [e] at hp <;> simp [blankP] at hp
  · have f1 := first h128 1 (fun k h1 h2 => by omega)
    have bad : 1 ≤ 1 ∧ pos + 1 ≤ s.size ∧ (blankP Utf8.runeError = true → 1 = 1 ∧ blanks.contains s[pos] = true) ∧ (blankP Utf8.runeError = false → ∀ j (hj : j < s.size), pos ≤ j → j < pos + 1 → blanks.contains s[j] = false) :=
      ⟨by omega, by omega, fun hp => by simp [blankP, Utf8.runeError] at hp, fun _ => f1⟩
    have ok : ∀ (c n : Nat), 0x80 ≤ c → 1 ≤ n → (∀ k, 1 ≤ k → k < n → pos + k < s.size ∧ (s.get! (pos + k)).toNat / 64 = 2) → 1 ≤ n ∧ pos + n ≤ s.size ∧ (blankP c = true → n = 1 ∧ blanks.contains s[pos] = true) ∧ (blankP c = false → ∀ j (hj : j < s.size), pos ≤ j → j < pos + n → blanks.contains s[j] = false) := by
      intro c n hc hn hall
      refine ⟨hn, ?_, fun hp => ?_, fun _ => first h128 n hall⟩
      · rcases Nat.lt_or_ge 1 n with h1 | h1
        · have := (hall (n - 1) (by omega) (by omega)).1; omega
        · omega
      · simp [blankP] at hp; omega
    simp only [h128, if_false]
    split
    · rename_i hc
      simp only [Bool.and_eq_true, beq_iff_eq, decide_eq_true_eq] at hc
      split
      · rename_i h80
        exact ok _ 2 h80 (by omega) (fun k h1 h2 => by (obtain rfl : k = 1 := (by omega)); exact hc.2)
      · exact bad
    · split
      · rename_i hc
        simp only [Bool.and_eq_true, beq_iff_eq, decide_eq_true_eq] at hc
        split
        · rename_i h80
          simp only [Bool.and_eq_true, decide_eq_true_eq] at h80
          exact ok _ 3 (by omega) (by omega) (fun k h1 h2 => by rcases (by omega : k = 1 ∨ k = 2) with rfl | rfl; exact hc.1.2; exact hc.2)
        · exact bad
      · split
        · rename_i hc
          simp only [Bool.and_eq_true, beq_iff_eq, decide_eq_true_eq] at hc
          split
          · rename_i h80
            simp only [Bool.and_eq_true, decide_eq_true_eq] at h80
            exact ok _ 4 (by omega) (by omega) (fun k h1 h2 => by rcases (by omega : k = 1 ∨ k = 2 ∨ k = 3) with rfl | rfl | rfl; exact hc.1.1.2; exact hc.1.2; exact hc.2)
          · exact bad
        · exact bad
theorem wordP_run (w : List UInt8) : ∀ (x cur r : List UInt8), (∀ c ∈ x, blanks.contains c = false) → wordP w cur (x ++ r) = wordP w (cur ++ x) r
  | [], cur, r, _ => by simp
  | c :: x, cur, r, h => by
    rw [List.cons_append, wordP, h c (by simp), cond_false, wordP_run w x _ r (fun y hy => h y (by simp [hy]))]
    simp
def curOf (s : ByteArray) (pos : Nat) : Option Nat → List UInt8
  | none => []
  | some a => (s.data.toList.drop a).take (pos - a)
theorem fields_word (s : ByteArray) (w : List UInt8) (hw : w ≠ []) : ∀ (f pos : Nat) (st : Option Nat) (acc : List (Nat × Nat)), s.size ≤ pos + f → pos ≤ s.size → (∀ a, st = some a → a ≤ pos) →
    ((Lib.closeSpans s (Lib.spansFromP blankP s f pos st acc)).any fun x => (s.extract x.1 x.2).data.toList == w) = ((acc.any fun x => (s.extract x.1 x.2).data.toList == w) || wordP w (curOf s pos st) (s.data.toList.drop pos)) := by
  have hw0 : (([] : List UInt8) == w) = false := by rw [beq_eq_false_iff_ne]; exact fun e => hw e.symm
  have base : ∀ (pos : Nat) (st : Option Nat) (acc : List (Nat × Nat)), pos = s.size → (∀ a, st = some a → a ≤ pos) → ((Lib.closeSpans s (acc, st)).any fun x => (s.extract x.1 x.2).data.toList == w) = ((acc.any fun x => (s.extract x.1 x.2).data.toList == w) || wordP w (curOf s pos st) (s.data.toList.drop pos)) := by
    intro pos st acc hp hst
    rw [drop_all s pos (by omega)]
    cases st with
    | none => simp only [Lib.closeSpans, curOf, wordP, hw0, Bool.or_false]
    | some a =>
      simp only [Lib.closeSpans, curOf, wordP, List.any_append, List.any_cons, List.any_nil, Bool.or_false, Lib.extract_data]
      rw [hp]
  intro f
  induction f with
  | zero =>
    intro pos st acc h1 h2 hst
    exact base pos st acc (by omega) hst
  | succ f ih =>
    intro pos st acc h1 h2 hst
    unfold Lib.spansFromP
    by_cases hlt : pos < s.size
    · rw [if_pos hlt]
      obtain ⟨d1, d2, d3, d4⟩ := dec_step s pos hlt
      generalize Utf8.decode s pos = d at *
      obtain ⟨r, n⟩ := d
      simp only at d1 d2 d3 d4 ⊢
      have hdc := drop_cons s pos hlt
      cases hp : blankP r
      · have hall := d4 hp
        have hx : ∀ c ∈ (s.data.toList.drop pos).take n, blanks.contains c = false := by
          intro c hc
          rw [List.mem_take_iff_getElem] at hc
          obtain ⟨i, hi, rfl⟩ := hc
          rw [List.getElem_drop]
          have hil : pos + i < s.size := by
            have := Nat.lt_of_lt_of_le hi (Nat.min_le_left _ _); omega
          rw [← at_list s (pos + i) hil]
          exact hall (pos + i) hil (by omega) (by have := Nat.lt_of_lt_of_le hi (Nat.min_le_left _ _); omega)
        have hsplit : s.data.toList.drop pos = (s.data.toList.drop pos).take n ++ s.data.toList.drop (pos + n) := by
          conv => lhs; rw [← List.take_append_drop n (s.data.toList.drop pos)]
          rw [List.drop_drop]
        simp only [Bool.false_eq_true, if_false]
        cases st with
        | none =>
          simp only
          rw [ih (pos + n) (some pos) acc (by omega) d2 (fun a e => by cases e; omega)]
          congr 1
          rw [hsplit, wordP_run w _ _ _ hx]
          simp only [curOf, List.nil_append]
          rw [show pos + n - pos = n from by omega]
        | some a =>
          have ha := hst a rfl
          simp only
          rw [ih (pos + n) (some a) acc (by omega) d2 (fun b e => by cases e; omega)]
          congr 1
          conv => rhs; rw [hsplit]
          rw [wordP_run w _ _ _ hx]
          congr 1
          simp only [curOf]
          rw [show pos + n - a = (pos - a) + n from by omega, List.take_add, List.drop_drop, show a + (pos - a) = pos from by omega]
      · obtain ⟨rfl, hbl⟩ := d3 hp
        simp only [if_true]
        cases st with
        | none =>
          simp only
          rw [ih (pos + 1) none acc (by omega) d2 (fun a e => by cases e), hdc, wordP, hbl, cond_true]
          simp only [curOf, hw0, Bool.false_or]
        | some a =>
          simp only
          rw [ih (pos + 1) none _ (by omega) d2 (fun a e => by cases e), hdc, wordP, hbl, cond_true]
          simp only [curOf, List.any_append, List.any_cons, List.any_nil, Bool.or_false, Lib.extract_data, Bool.or_assoc]
    · rw [if_neg hlt]
      exact base pos st acc (by omega) hst
theorem contains_word (s : ByteArray) (w : List UInt8) (hw : w ≠ []) : Lib.containsS (Lib.goFieldsP blankP s) ⟨w.toArray⟩ = wordP w [] s.data.toList := by
  have h := fields_word s w hw s.size 0 none [] (by omega) (by omega) (fun a e => by cases e)
  have e : wordP w [] s.data.toList = ((Lib.spansOfP blankP s).any fun x => (s.extract x.1 x.2).data.toList == w) := by
    unfold Lib.spansOfP
    rw [h]
    simp [curOf]
  rw [e, Bool.eq_iff_iff, Lib.containsS_iff]
  unfold Lib.goFieldsP
  rw [List.mem_map, List.any_eq_true]
  constructor
  · rintro ⟨x, hx, hq⟩
    exact ⟨x, hx, by rw [hq]; simp⟩
  · rintro ⟨x, hx, hq⟩
    exact ⟨x, hx, str_list (by simpa using hq)⟩

theorem unq_len : ∀ (l : List UInt8) (b : Bool) (s : List UInt8), unq b l = some s → s.length ≤ l.length
  | [], b, s, h => by
    unfold unq at h
    cases b
    · simp at h; subst h; simp
    · simp at h
  | c :: r, b, s, h => by
    unfold unq at h
    cases h1 : (!plainb c || (c.toNat == 34 && !b)) <;> rw [h1] at h
    · rw [cond_false] at h
      cases h2 : (c.toNat == 92 && !b) <;> rw [h2] at h
      · rw [cond_false] at h
        cases hu : unq false r with
        | none => rw [hu] at h; cases h
        | some t =>
          rw [hu] at h
          simp only [Option.map_some, Option.some.injEq] at h
          subst h
          have := unq_len r false t hu
          simp; omega
      · rw [cond_true] at h
        have := unq_len r true s h
        simp; omega
    · cases h
theorem unqP_len {l s : List UInt8} (h : unqP l = some s) : s.length ≤ l.length := by
  unfold unqP at h
  cases hc : (decide (2 ≤ l.length) && (l.head?.getD 0).toNat == 34 && (l.getLast?.getD 0).toNat == 34) <;> rw [hc] at h
  · cases h
  · rw [cond_true] at h
    have := unq_len _ _ _ h
    simp at this
    omega
theorem said_lens {p : List UInt8} {d : Dir} (h : saidO p = some d) : d.name.length ≤ p.length ∧ d.value.length ≤ p.length ∧ d.for_ = [] := by
  have hl : (Lib.cut p [61]).1.length ≤ p.length ∧ (Lib.cut p [61]).2.1.length ≤ p.length := by
    unfold Lib.cut
    by_cases h0 : 0 ≤ Lib.index p [61]
    · rw [if_pos h0]; simp; omega
    · rw [if_neg h0]; simp
  unfold saidO at h
  generalize Lib.cut p [61] = c at *
  obtain ⟨a, b, has⟩ := c
  simp only at h hl
  cases ht : tokenL a <;> rw [ht] at h
  · cases h
  · simp only [Bool.not_true, cond_false] at h
    cases hb : (has && !tokenL b) <;> rw [hb] at h
    · rw [cond_false] at h
      injection h with h
      subst h
      exact ⟨by show (lowerL a).length ≤ _; rw [lower_length]; exact hl.1, hl.2, rfl⟩
    · rw [cond_true] at h
      cases hu : unqP b with
      | none => rw [hu] at h; cases h
      | some s =>
        rw [hu] at h
        simp only [Option.map_some, Option.some.injEq] at h
        subst h
        exact ⟨by show (lowerL a).length ≤ _; rw [lower_length]; exact hl.1, Nat.le_trans (unqP_len hu) hl.2, rfl⟩
def DirLe (B : Nat) (d : Dir) : Prop := d.name.length ≤ B ∧ d.value.length ≤ B ∧ d.for_.length ≤ B
theorem one_le {l : List Dir} {f : List UInt8} {B : Nat} (hl : ∀ d ∈ l, DirLe B d) (hf : f.length ≤ B) : ∀ d ∈ oneOf l f, DirLe B d := by
  intro d hd
  unfold oneOf at hd
  split at hd
  · rename_i x
    rw [List.mem_singleton] at hd
    subst hd
    have := hl x (by simp)
    refine ⟨this.1, this.2.1, ?_⟩
    cases f with
    | nil => exact this.2.2
    | cons _ _ => exact hf
  · cases hd
theorem says_dirle {p : List UInt8} : ∀ d ∈ sayS p, DirLe (p.length + 8) d := by
  intro d hd
  have ht := split_total 59 p
  have hm := fun x (hx : x ∈ (splitL 59 p).1) => total_mem hx
  unfold sayS at hd
  have hs : ∀ a ∈ (splitL 59 p).1, ∀ d ∈ (saidO a).toList, DirLe (p.length + 8) d := by
    intro a ha d hd
    have h1 := hm a ha
    cases hq : saidO a with
    | none => rw [hq] at hd; cases hd
    | some x =>
      rw [hq] at hd
      simp at hd
      subst hd
      obtain ⟨q1, q2, q3⟩ := said_lens hq
      exact ⟨by omega, by omega, by rw [q3]; simp⟩
  cases hz : ((splitL 59 p).2 != 0) <;> rw [hz] at hd
  · rw [cond_false] at hd
    split at hd
    · rename_i a e
      rw [e] at hs
      exact one_le (hs a (by simp)) (by simp) d hd
    · rename_i a b e
      rw [e] at hs hm ht
      cases hb : tokenL b <;> rw [hb] at hd
      · cases hd
      · exact one_le (hs a (by simp)) (by have := hm b (by simp); omega) d hd
    · cases hd
  · rw [cond_true, List.mem_singleton] at hd
    subst hd
    refine ⟨?_, ?_, ?_⟩ <;> simp [neverD, noStore]
theorem slist_dirle {vs : List (List UInt8)} {B : Nat} (hv : ∀ v ∈ vs, v.length ≤ B) : ∀ d ∈ slistL vs, DirLe (B + 8) d := by
  intro d hd
  unfold slistL at hd
  obtain ⟨v, hv1, hd⟩ := List.mem_flatMap.1 hd
  have hb := hv v hv1
  cases hz : ((splitL 44 v).2 == 0) <;> rw [hz] at hd
  · rw [cond_false, List.mem_singleton] at hd
    subst hd
    refine ⟨?_, ?_, ?_⟩ <;> simp [neverD, noStore]
  · rw [cond_true] at hd
    obtain ⟨p, hp, hd⟩ := List.mem_flatMap.1 hd
    have h1 := total_mem hp
    have h2 := split_total 44 v
    obtain ⟨q1, q2, q3⟩ := says_dirle d hd
    exact ⟨by omega, by omega, by omega⟩
end Go.Proofs.YtcgdcbnhpbokfaaGreatDoor
/- The walk of tick.Delta. -/
namespace Go.Proofs.YtcgdcbnhpbokfaaGreatDoor
open Go.RowKit

set_option maxHeartbeats 1000000 in
theorem boundI_any (n : Int) (w : World) :
    Calls Tryz.prog 109 #[.int .i64 n] w fun e w' => e = .returned (.int .i64 (bnd n)) ∧ w = w' := by
  rcases (by omega : n < 0 ∨ n = 0 ∨ (0 < n ∧ n ≤ 2147483648) ∨ 2147483648 < n) with h | h | ⟨h, h2⟩ | h
  · have Hb := Lib.hid (bnd_neg h)
    go_enter Tryz.func109, Tryz.ntmps109
    go_wp2
    all_goals (go_ret; exact ⟨ret_int (by first | exact Hb.out.symm | (rw [Hb.out]; omega)), rfl⟩)
  · subst h
    go_enter Tryz.func109, Tryz.ntmps109
    go_wp2
    all_goals (go_ret; exact ⟨ret_int (by first | rfl | omega), rfl⟩)
  · have Hb := Lib.hid (bnd_in (Int.le_of_lt h) h2)
    go_enter Tryz.func109, Tryz.ntmps109
    go_wp2
    all_goals (go_ret; exact ⟨ret_int (by first | exact Hb.out.symm | (rw [Hb.out]; omega)), rfl⟩)
  · have Hb := Lib.hid (bnd_big h)
    go_enter Tryz.func109, Tryz.ntmps109
    go_wp2
    all_goals (go_ret; exact ⟨ret_int (by first | exact Hb.out.symm | (rw [Hb.out]; omega)), rfl⟩)

theorem dgtI (c : UInt8) : dgt c = (decide (48 ≤ (c.toNat : Int)) && decide ((c.toNat : Int) ≤ 57)) := by
  unfold dgt; rw [Bool.eq_iff_iff]; simp; omega
set_option maxHeartbeats 2000000 in
theorem delta_any (s : ByteArray) (w : World) (hs : s.size ≤ 1000000) :
    Calls Tryz.prog 110 #[.string s] w fun e w' => e = .returned (deltaV s.data.toList) ∧ w = w' := by
  have hB : ∀ k (h : k < s.size), dgt s[k] = false → deltaV s.data.toList = .tuple #[.int .i64 0, .bool false] := fun k h hb => delta_bad s k h hb
  have hQ : ∀ k, (s.data.toList.take k).all dgt = true → s.size ≤ k → deltaV s.data.toList = .tuple #[.int .i64 (bnd (val (s.data.toList.take k))), .bool (!s.data.toList.isEmpty)] := by
    intro k h hk; rw [take_all s k hk] at h ⊢; unfold deltaV deltaOk; rw [h, Bool.and_true]
    cases hz : s.data.toList <;> rfl
  have HB := Lib.hid hB; have HQ := Lib.hid hQ
  clear hB hQ
  generalize deltaV s.data.toList = out at *
  go_enter Tryz.func110, Tryz.ntmps110
  go_wp2
  go_loop [8, 4] (fun i n => ∃ (k : Nat) (v : Int), k ≤ s.size ∧ i = .int .i64 k ∧ n = .int .i64 v ∧ 0 ≤ v ∧ v ≤ 2147483648 ∧ Hid (v = bnd (val (s.data.toList.take k))) ∧ Hid ((s.data.toList.take k).all dgt = true)) (fun i _ => s.size - (intOf i).toNat)
  case atStart => exact ⟨0, 0, Nat.zero_le _, rfl, rfl, by omega, by omega, by show _ = _; rfl, by show _ = _; simp⟩
  case round =>
    obtain ⟨k, v, hk, rfl, rfl, hv0, hv1, Hv, Hall⟩ := hrel
    by_cases hlt : k < s.size
    · have hu := u8_lt s[k]
      have hd := dgtI s[k]
      cases c1 : decide (48 ≤ (s[k].toNat : Int)) <;> cases c2 : decide ((s[k].toNat : Int) ≤ 57)
      · exfalso; simp at c1 c2; omega
      · have hf := HB.out k hlt (by rw [hd, c1, c2]; rfl)
        have Hf := Lib.hid hf; clear hf hd
        have c3 : decide ((s[k].toNat : Int) < 48) = true := by simp at c1 ⊢; omega
        go_wp2
        go_ret2
        exact ⟨by rw [Hf.out]; rfl, rfl⟩
      · have hf := HB.out k hlt (by rw [hd, c1, c2]; rfl)
        have Hf := Lib.hid hf; clear hf hd
        have c3 : decide ((s[k].toNat : Int) < 48) = false := by simp at c1 ⊢; omega
        have c4 : decide (57 < (s[k].toNat : Int)) = true := by simp at c2 ⊢; omega
        go_wp2
        go_ret2
        exact ⟨by rw [Hf.out]; rfl, rfl⟩
      · have hn : (s.data.toList.take (k + 1)).all dgt = true := by rw [all_snoc dgt s k hlt, Hall.out, hd, c1, c2]; rfl
        have c3 : decide ((s[k].toNat : Int) < 48) = false := by simp at c1 ⊢; omega
        have c4 : decide (57 < (s[k].toNat : Int)) = false := by simp at c2 ⊢; omega
        have c5 : (48 : Int) ≤ (s[k].toNat : Int) := by simp at c1; omega
        have hs2 : bnd (10 * v + ((s[k].toNat : Int) - 48)) = bnd (val (s.data.toList.take (k + 1))) := by
          rw [take_snoc s k hlt, val_snoc, Hv.out, ← bnd_step]; congr 2; omega
        have Hn := Lib.hid hn; have Hs := Lib.hid hs2; clear hn hs2 hd c1 c2
        go_wp2_with (go_at_call 109; refine (boundI_any _ _).mono ?_; rintro e w' ⟨rfl, rfl⟩)
        go_round
        case rel => exact ⟨k + 1, _, by omega, by go_num, rfl, bnd_lo _, bnd_hi _, Hs, Hn⟩
        case measure => simp [intOf]; omega
    · have hf := HQ.out k Hall.out (by omega)
      rw [← Hv.out] at hf
      have Hf := Lib.hid hf; clear hf
      go_wp2
      go_ret2
      exact ⟨by rw [Hf.out]; simp [Lib.toList_data], rfl⟩
end Go.Proofs.YtcgdcbnhpbokfaaGreatDoor
/- The walks of what surctl's rules do. -/
namespace Go.Proofs.YtcgdcbnhpbokfaaGreatDoor
open Go.RowKit
set_option maxRecDepth 100000

/-- A control in memory. -/
def CtlAt (C : Nat) (k : Ctl) (w : World) : Prop := w.heap[C]? = some (.cells #[.bool k.noStore, .bool k.noRemote, .bool k.esi, .bool k.hasAge, .int .i64 k.age, .int .i64 k.extra] 88 (0, 0))
theorem CtlAt.lt {C : Nat} {k : Ctl} {w : World} (h : CtlAt C k w) : C < w.heap.size := by
  rcases Nat.lt_or_ge C w.heap.size with h' | h'
  · exact h'
  · unfold CtlAt at h; simp [Array.getElem?_eq_none h'] at h
theorem CtlAt.below {C : Nat} {k : Ctl} {w w' : World} (h : CtlAt C k w) (hb : Below w.heap.size w w') : CtlAt C k w' := (hb.block C h.lt).trans h
theorem CtlAt.cells {C : Nat} {k : Ctl} {w : World} (h : CtlAt C k w) : w.cell? ⟨C, 0, none⟩ = some (.bool k.noStore) ∧ w.cell? ⟨C, 1, none⟩ = some (.bool k.noRemote) ∧ w.cell? ⟨C, 2, none⟩ = some (.bool k.esi) ∧ w.cell? ⟨C, 3, none⟩ = some (.bool k.hasAge) ∧ w.cell? ⟨C, 4, none⟩ = some (.int .i64 k.age) ∧ w.cell? ⟨C, 5, none⟩ = some (.int .i64 k.extra) ∧ ∀ j, w.frozen? ⟨C, j, none⟩ = false :=
  ⟨(of_heap h 0).1, (of_heap h 1).1, (of_heap h 2).1, (of_heap h 3).1, (of_heap h 4).1, (of_heap h 5).1, fun j => (of_heap h j).2.1⟩
theorem CtlAt.set0 {C : Nat} {k : Ctl} {w : World} (h : CtlAt C k w) : CtlAt C { k with noStore := true } (w.setCell ⟨C, 0, none⟩ (.bool true)) := by
  unfold CtlAt at *; simp [World.setCell, Array.getElem?_modify, h]
theorem CtlAt.set1 {C : Nat} {k : Ctl} {w : World} (h : CtlAt C k w) : CtlAt C { k with noRemote := true } (w.setCell ⟨C, 1, none⟩ (.bool true)) := by
  unfold CtlAt at *; simp [World.setCell, Array.getElem?_modify, h]
theorem CtlAt.set2 {C : Nat} {k : Ctl} {w : World} (h : CtlAt C k w) (b : Bool) : CtlAt C { k with esi := b } (w.setCell ⟨C, 2, none⟩ (.bool b)) := by
  unfold CtlAt at *; simp [World.setCell, Array.getElem?_modify, h]
theorem CtlAt.set3 {C : Nat} {k : Ctl} {w : World} (h : CtlAt C k w) : CtlAt C { k with hasAge := true } (w.setCell ⟨C, 3, none⟩ (.bool true)) := by
  unfold CtlAt at *; simp [World.setCell, Array.getElem?_modify, h]
theorem CtlAt.set45 {C : Nat} {k : Ctl} {w : World} (h : CtlAt C k w) (a x : Int) : CtlAt C { k with age := a, extra := x } ((w.setCell ⟨C, 4, none⟩ (.int .i64 a)).setCell ⟨C, 5, none⟩ (.int .i64 x)) := by
  unfold CtlAt at *; simp [World.setCell, Array.getElem?_modify, h]
def CtlPost (C : Nat) (k : Ctl) (w : World) (e : Ending) (w' : World) : Prop := (∃ v, e = .returned v) ∧ CtlAt C k w' ∧ Beside C w w'

set_option maxHeartbeats 2000000 in
theorem do1_any (C : Nat) (k : Ctl) (v : ByteArray) (w : World) (h : CtlAt C k w) :
    Calls Tryz.prog 169 #[.pointer (some ⟨C, 0, none⟩), .string v] w (CtlPost C { k with noStore := true } w) := by
  obtain ⟨c0, _, _, _, _, _, hf⟩ := h.cells
  have hf0 := hf 0
  have hfin : CtlAt C { k with noStore := true } (w.setCell ⟨C, 0, none⟩ (.bool true)) ∧ Beside C w (w.setCell ⟨C, 0, none⟩ (.bool true)) := ⟨h.set0, Beside.setCell C 0 w _⟩
  have HF := Lib.hid hfin; clear hf hfin h
  go_enter Tryz.func169, Tryz.ntmps169
  go_wp2
  go_end0
  exact ⟨⟨_, rfl⟩, HF.out.1, HF.out.2⟩
set_option maxHeartbeats 2000000 in
theorem do2_any (C : Nat) (k : Ctl) (v : ByteArray) (w : World) (h : CtlAt C k w) :
    Calls Tryz.prog 170 #[.pointer (some ⟨C, 0, none⟩), .string v] w (CtlPost C { k with noRemote := true } w) := by
  obtain ⟨_, c0, _, _, _, _, hf⟩ := h.cells
  have hf0 := hf 1
  have hfin : CtlAt C { k with noRemote := true } (w.setCell ⟨C, 1, none⟩ (.bool true)) ∧ Beside C w (w.setCell ⟨C, 1, none⟩ (.bool true)) := ⟨h.set1, Beside.setCell C 1 w _⟩
  have HF := Lib.hid hfin; clear hf hfin h
  go_enter Tryz.func170, Tryz.ntmps170
  go_wp2
  go_end0
  exact ⟨⟨_, rfl⟩, HF.out.1, HF.out.2⟩
set_option maxHeartbeats 2000000 in
theorem blank_gives (w : World) : PredAtRunes Tryz.prog 172 #[] blankP w := by
  intro W x _ _
  show Calls Tryz.prog 172 #[.int .i32 (x : Int)] W _
  unfold blankP
  go_enter Tryz.func172, Tryz.ntmps172
  cases h1 : ((x : Int) == 32)
  · go_wp2
    go_ret
    exact ⟨rfl, 0, rfl⟩
  · go_wp2
    go_ret
    exact ⟨rfl, 0, rfl⟩
set_option maxHeartbeats 4000000 in
theorem do3_any (C : Nat) (k : Ctl) (v : ByteArray) (w : World) (h : CtlAt C k w) (hv : v.size ≤ 1000000) :
    Calls Tryz.prog 171 #[.pointer (some ⟨C, 0, none⟩), .string v] w (CtlPost C { k with esi := wordP sESI [] v.data.toList } w) := by
  have k1 := Tryz.strings_FieldsFunc_runes 172 #[] (enters_of Tryz.func172 (by kernel_rfl) rfl) blankP v w (by omega) (blank_gives w)
  have hcw := contains_word v sESI (by simp [sESI])
  have hlen : (Lib.goFieldsP blankP v).length ≤ 9223372036854775807 ∨ True := Or.inr trivial
  generalize wordP sESI [] v.data.toList = out at *
  generalize Lib.goFieldsP blankP v = zs at *
  have K1 := Lib.hid k1; have HCW := Lib.hid hcw; have H := Lib.hid h; clear k1 hcw h hlen
  go_enter Tryz.func171, Tryz.ntmps171
  go_wp2_with fail
  refine K1.out.mono ?_
  rintro e w1 ⟨a1, rfl, hA, hown, hb1⟩
  have hz : zs.length ≤ 9223372036854775807 := by
    rcases hown.2 with ⟨hv, h0⟩ | ⟨g, cp, cur, hv, hg, hh, hn, hc, hs, hx⟩
    · cases hv
    · unfold maxLen at hc; omega
  have k2 := Tryz.slices_Contains_string a1 0 zs.length zs.length zs ⟨sESI.toArray⟩ w1 (Nat.le_refl _) hz (fun j hj => by
    have := hown.cells (g := a1) rfl j (.string (zs.getD j ByteArray.empty)) (by simp [List.getD, hj])
    rw [Nat.zero_add]
    rw [show (⟨a1, 0, none⟩ : Addr).add j = ⟨a1, j, none⟩ from by unfold Addr.add; split <;> simp_all] at this
    exact this)
  rw [List.take_length, HCW.out] at k2
  have h1 := H.out.below hb1
  have hB1 := Beside.of hb1 (T := C) (Nat.le_of_lt H.out.lt)
  have K2 := Lib.hid k2
  obtain ⟨_, _, c2, _, _, _, hf⟩ := h1.cells
  have hf2 := hf 2
  have HF := Lib.hid (And.intro (h1.set2 out) (hB1.trans (Beside.setCell C 2 w1 (.bool out))))
  clear k2 hown hf h1 hB1
  go_wp2_with fail
  refine K2.out.mono ?_
  rintro e w2 ⟨rfl, rfl⟩
  go_wp2
  go_end0
  exact ⟨⟨_, rfl⟩, HF.out.1, HF.out.2⟩
theorem MaxL.beside {w w' : World} {C : Nat} (h : MaxL w) (hb : Beside C w w') (hC : 2 < C) : MaxL w' := by
  obtain ⟨h0, m, h⟩ := h
  exact ⟨Nat.lt_of_lt_of_le h0 hb.size, m, (hb.cell 0 h0 (by omega)).trans h⟩
set_option maxHeartbeats 8000000 in
theorem do4_any (C : Nat) (a b c d : Bool) (v : ByteArray) (w : World) (hM : MaxL w) (hC : 2 < C) (h : CtlAt C ⟨a, b, c, d, 0, 0⟩ w) (hv : v.size ≤ 1000000) :
    Calls Tryz.prog 174 #[.pointer (some ⟨C, 0, none⟩), .string v] w (CtlPost C ⟨a, b, c, true, (agesL v.data.toList).1, (agesL v.data.toList).2⟩ w) := by
  have k1 := fun W hW => cut_any v ⟨#[43]⟩ W hW hv
  rw [show (⟨#[43]⟩ : ByteArray).data.toList = [43] from rfl] at k1
  have hl := cut_lens v.data.toList [43]
  rw [← Lib.size_eq] at hl
  have hag : agesL v.data.toList = bif deltaOk (Lib.cut v.data.toList [43]).1 && (deltaOk (Lib.cut v.data.toList [43]).2.1 == (Lib.cut v.data.toList [43]).2.2) then (bnd (val (Lib.cut v.data.toList [43]).1), bif deltaOk (Lib.cut v.data.toList [43]).2.1 then bnd (val (Lib.cut v.data.toList [43]).2.1) else 0) else (0, 0) := rfl
  rw [hag]
  clear hag
  generalize Lib.cut v.data.toList [43] = ct at *
  obtain ⟨x, y, two⟩ := ct
  obtain ⟨x, rfl⟩ : ∃ o : ByteArray, x = o.data.toList := ⟨⟨x.toArray⟩, rfl⟩
  obtain ⟨y, rfl⟩ : ∃ o : ByteArray, y = o.data.toList := ⟨⟨y.toArray⟩, rfl⟩
  simp only [str_of, ← Lib.size_eq] at k1 hl ⊢
  have k2 := fun W => delta_any x W (by omega)
  have k3 := fun W => delta_any y W (by omega)
  unfold deltaV at k2 k3
  obtain ⟨_, _, _, c3, c4, c5, hf⟩ := h.cells
  simp only at c3 c4 c5
  have hf3 := hf 3
  have h1 := h.set3
  have hBs := Beside.setCell C 3 w (.bool true)
  have hM1 := hM.beside hBs hC
  obtain ⟨W1, hW1⟩ : ∃ W1, w.setCell ⟨C, 3, none⟩ (.bool true) = W1 := ⟨_, rfl⟩
  rw [hW1] at h1 hBs hM1
  have kf : ∀ W, Below W1.heap.size W1 W → CtlAt C ⟨a, b, c, true, 0, 0⟩ W ∧ Beside C w W := fun W hb => ⟨h1.below hb, hBs.trans (Beside.of hb (Nat.le_of_lt h1.lt))⟩
  generalize deltaOk x.data.toList = dx at *
  generalize deltaOk y.data.toList = dy at *
  generalize bnd (val x.data.toList) = vx at *
  generalize bnd (val y.data.toList) = vy at *
  have HW1 := Lib.hid hW1; have KF := Lib.hid kf
  clear hM hBs hf kf hW1 h h1 c4 c5
  cases dx <;> cases dy <;> cases two
  all_goals (
    simp only [cond_true, cond_false, Bool.and_true, Bool.and_false, beq_self_eq_true, show (false == true) = false from rfl, show (true == false) = false from rfl] at k2 k3 ⊢
    have K1 := Lib.hid (k1 W1 hM1); have K2 := Lib.hid k2; have K3 := Lib.hid k3
    clear k1 k2 k3 hM1 hl
    go_enter Tryz.func174, Tryz.ntmps174
    go_wp2_with fail
    rw [HW1.out]
    refine K1.out.mono ?_
    rintro e w2 ⟨rfl, hb2⟩
    obtain ⟨q1, q2⟩ := KF.out w2 hb2
    obtain ⟨_, _, _, _, e4, e5, hf⟩ := q1.cells
    simp only at e4 e5
    have f4 := hf 4
    have f5 := hf 5
    have Q1 := Lib.hid q1
    clear hb2 hf q1 K1 KF HW1 c3 hf3
    go_wp2_with fail
    refine (K2.out _).mono ?_
    rintro e w3 ⟨rfl, rfl⟩
    go_wp2_with fail
    refine (K3.out _).mono ?_
    rintro e w3 ⟨rfl, rfl⟩
    go_wp2
    go_end0
    first
      | exact ⟨⟨_, rfl⟩, Q1.out, q2⟩
      | exact ⟨⟨_, rfl⟩, Q1.out.set45 _ _, (q2.trans (Beside.setCell C 4 _ _)).trans (Beside.setCell C 5 _ _)⟩)
end Go.Proofs.YtcgdcbnhpbokfaaGreatDoor
/- The walk of surctl.Of (printed by wip/tools/surof.py). -/
namespace Go.Proofs.YtcgdcbnhpbokfaaGreatDoor
open Go.RowKit
set_option maxRecDepth 100000

theorem rules_any (w : World) :
    Calls Tryz.prog 126 #[] w fun e w' => e = .returned (.slice (some ⟨w.heap.size, 0, none⟩) 4 4) ∧ w' = w.alloc (.cells #[.string ⟨#[110, 111, 45, 115, 116, 111, 114, 101]⟩, .func (.func 169) #[] #[], .string ⟨#[110, 111, 45, 115, 116, 111, 114, 101, 45, 114, 101, 109, 111, 116, 101]⟩, .func (.func 170) #[] #[], .string ⟨#[99, 111, 110, 116, 101, 110, 116]⟩, .func (.func 171) #[] #[], .string ⟨#[109, 97, 120, 45, 97, 103, 101]⟩, .func (.func 174) #[] #[]] 146) := by
  go_enter Tryz.func126, Tryz.ntmps126
  go_wp2
  go_ret
  exact ⟨rfl, rfl⟩
set_option maxHeartbeats 4000000 in
theorem of1_any (V : Nat) (nm : List UInt8) (d : Dir) (w : World) (hV : w.cell? ⟨V, 0, none⟩ = some (.string ⟨nm.toArray⟩)) (hVw : V < w.heap.size) :
    Calls Tryz.prog 128 #[.agg #[.string ⟨d.name.toArray⟩, .string ⟨d.value.toArray⟩, .bool d.has, .string ⟨d.for_.toArray⟩], .pointer (some ⟨V, 0, none⟩)] w fun e w' => e = .returned (.bool (d.name == nm)) ∧ Below w.heap.size w w' := by
  obtain ⟨dn, dv, dh, df⟩ := d
  simp only
  have hal := (Below.refl w.heap.size w).alloc (Nat.le_refl _) (.cells #[.string ⟨dn.toArray⟩, .string ⟨dv.toArray⟩, .bool dh, .string ⟨df.toArray⟩] 84)
  have hV2 := (hal.cell (p := ⟨V, 0, none⟩) hVw).trans hV
  go_enter Tryz.func128, Tryz.ntmps128
  go_wp2
  go_ret
  exact ⟨rfl, hal⟩

set_option maxHeartbeats 4000000 in
theorem indexOf_any (p1 : Value) (q : Dir → Bool) (A : Option Addr) (n c : Nat) (xs : List Dir) (w : World) (hr : Rd A n 4 (dirsV xs) w) (hn : n ≤ 1000000)
    (hc : ∀ d ∈ xs, ∀ W, Below w.heap.size w W → Calls Tryz.prog 128 #[.agg #[.string ⟨d.name.toArray⟩, .string ⟨d.value.toArray⟩, .bool d.has, .string ⟨d.for_.toArray⟩], p1] W fun e W' => e = .returned (.bool (q d)) ∧ Below W.heap.size W W') :
    Calls Tryz.prog 127 #[.slice A n c, .func (.func 128) #[] #[p1]] w fun e w' => e = .returned (.int .i64 (firstI q xs)) ∧ Below w.heap.size w w' := by
  obtain rfl := hr.dir
  have hstep := fun k (h : k < xs.length) => @find_take_none xs q k h
  have hhit : ∀ k (h : k < xs.length), (xs.take k).find? q = none → q xs[k] = true → firstI q xs = k := by
    intro k h hno hp
    unfold firstI
    rw [show xs.findIdx? q = some k from by
      rw [List.findIdx?_eq_some_iff_getElem]
      refine ⟨h, hp, fun j hj => ?_⟩
      rw [List.find?_eq_none] at hno
      refine hno xs[j] ?_
      rw [List.mem_take_iff_getElem]
      exact ⟨j, by omega, rfl⟩]
  have hend : ∀ k, k = xs.length → (xs.take k).find? q = none → firstI q xs = -1 := by
    intro k hk h
    subst hk
    rw [List.take_length] at h
    unfold firstI
    rw [show xs.findIdx? q = none from by
      rw [List.findIdx?_eq_none_iff]
      rw [List.find?_eq_none] at h
      intro x hx'; simpa using h x hx']
  generalize firstI q xs = out at *
  have HR := Lib.hid hr; have HS := Lib.hid hstep; have HH := Lib.hid hhit; have HE := Lib.hid hend; have HC := Lib.hid hc
  clear hr hstep hhit hend hc
  go_enter Tryz.func127, Tryz.ntmps127
  go_wp2_with fail
  go_loopw [8] (fun i wr => ∃ k : Nat, k ≤ xs.length ∧ i = .int .i64 k ∧ Hid ((xs.take k).find? q = none) ∧ Below w.heap.size w wr) (fun i _ => xs.length - (intOf i).toNat)
  case atStart => exact ⟨0, Nat.zero_le _, rfl, Lib.hid (by simp), Below.refl _ _⟩
  case round =>
    obtain ⟨k, hk, rfl, HN, hbr⟩ := hrel
    by_cases hlt : k < xs.length
    · obtain ⟨b, o, rfl, hl, x0, x1, x2, x3⟩ := (HR.out.below hbr).dir_at (k := k) hlt
      have hst := HS.out k hlt HN.out
      have hht := HH.out k hlt HN.out
      have k1 := HC.out xs[k] (List.getElem_mem _) wr hbr
      generalize xs[k] = d at *
      obtain ⟨dn, dv, dh, df⟩ := d
      simp only at x0 x1 x2 x3 k1
      cases hq : q ⟨dn, dv, dh, df⟩
      · rw [hq] at k1
        have HN2 := Lib.hid (hst hq)
        have K1 := Lib.hid k1
        clear hst hht k1 hq HS HH HE HN HC
        go_wp2_with fail
        refine K1.out.mono ?_
        rintro e w1 ⟨rfl, hb1⟩
        have hB1 := hbr.trans (hb1.mono hbr.size)
        go_wp2
        go_roundw
        case rel => exact ⟨k + 1, by omega, by go_num, HN2, hB1⟩
        case measure => simp [intOf]; omega
      · rw [hq] at k1
        have ho := hht hq
        subst ho
        have K1 := Lib.hid k1
        clear hst hht k1 hq HS HH HE HN HC
        go_wp2_with fail
        refine K1.out.mono ?_
        rintro e w1 ⟨rfl, hb1⟩
        have hB1 := hbr.trans (hb1.mono hbr.size)
        go_wp2
        go_ret
        exact ⟨rfl, hB1⟩
    · have ho := HE.out k (by omega) HN.out
      subst ho
      clear HS HH HE HN HC
      go_wp2
      go_ret
      exact ⟨rfl, hbr⟩

def ctlV (k : Ctl) : Value := .agg #[.bool k.noStore, .bool k.noRemote, .bool k.esi, .bool k.hasAge, .int .i64 k.age, .int .i64 k.extra]
def ctlTo (l : List Dir) : Nat → Ctl
  | 0 => ⟨false, false, false, false, 0, 0⟩
  | 1 => ⟨(firstV l noStore).isSome, false, false, false, 0, 0⟩
  | 2 => ⟨(firstV l noStore).isSome, (firstV l sRemote).isSome, false, false, 0, 0⟩
  | 3 => ⟨(firstV l noStore).isSome, (firstV l sRemote).isSome, match firstV l sContent with | some v => wordP sESI [] v | none => false, false, 0, 0⟩
  | _ => ctlL l
theorem first_none {l : List Dir} {nm : List UInt8} (h : l.find? (fun d => d.name == nm) = none) : firstV l nm = none := by unfold firstV; rw [h]; rfl
theorem first_some {l : List Dir} {nm : List UInt8} {d : Dir} (h : l.find? (fun d => d.name == nm) = some d) : firstV l nm = some d.value := by unfold firstV; rw [h]; rfl
theorem Rd.below2 {A : Option Addr} {n size C : Nat} {xs : List Value} {w w' : World} (h : Rd A n size xs w) (hb : Beside C w w') (hC : ∀ b o, A = some ⟨b, o, none⟩ → b ≠ C) : Rd A n size xs w' := by
  refine ⟨h.1, fun hn => ?_⟩
  obtain ⟨b, o, e, hl, hc⟩ := h.2 hn
  exact ⟨b, o, e, Nat.lt_of_lt_of_le hl hb.size, fun j u hu => (hb.cell (o + j) hl (hC b o e)).trans (hc j u hu)⟩
set_option maxHeartbeats 16000000 in
theorem surOf_any (A : Option Addr) (n c : Nat) (vs : List (List UInt8)) (dev : ByteArray) (w : World) (hM : MaxL w) (hr : Rd A n 1 (strsV vs) w) (hn : n ≤ 10000) (hl : ∀ v ∈ vs, v.length ≤ 900000) :
    Calls Tryz.prog 65 #[.slice A n c, .string dev] w fun e w' => e = .returned (ctlV (ofL vs dev.data.toList)) ∧ Below w.heap.size w w' := by
  obtain rfl := hr.str
  obtain ⟨W0, hW0⟩ : ∃ W0, w.alloc (.cells #[.bool false, .bool false, .bool false, .bool false, .int .i64 0, .int .i64 0] 88) = W0 := ⟨_, rfl⟩
  have hB0 : Below w.heap.size w W0 := by rw [← hW0]; exact (Below.refl _ w).alloc (Nat.le_refl _) _
  have hC0 : CtlAt w.heap.size ⟨false, false, false, false, 0, 0⟩ W0 := by rw [← hW0]; exact World.alloc_heap_new w _
  have z0 : W0.heap.size = w.heap.size + 1 := by rw [← hW0]; simp
  have hCg : 2 < w.heap.size := hM.1
  have k1 := surList_any A vs.length c vs W0 (hM.below hB0) (hr.below hB0) hn (fun v hv => by have := hl v hv; omega)
  have hsl := slist_le vs
  have hdl0 := slist_dirle (B := 900000) hl
  have hofl : ofL vs dev.data.toList = ctlL (mineL (slistL vs) dev.data.toList) := rfl
  rw [hofl]
  have hml : (mineL (slistL vs) dev.data.toList).length ≤ (slistL vs).length := List.length_filter_le _ _
  have hdl : ∀ d ∈ mineL (slistL vs) dev.data.toList, d.value.length ≤ 1000000 := fun d hd => by
    have := (hdl0 d (List.mem_filter.1 hd).1).2.1; omega
  have k2 := fun a c W (h : Rd a (slistL vs).length 4 (dirsV (slistL vs)) W) => mine_any a (slistL vs).length c (slistL vs) dev W h (by omega)
  generalize mineL (slistL vs) dev.data.toList = ls at *
  generalize slistL vs = l0 at *
  have hls : ls.length ≤ 1000000 := by omega
  have hct4 : ctlTo ls 4 = ctlL ls := rfl
  rw [← hct4]
  have K1 := Lib.hid k1; have K2 := Lib.hid k2; have HW0 := Lib.hid hW0; have HC0 := Lib.hid hC0; have HDL := Lib.hid hdl; have HM0 := Lib.hid (hM.below hB0)
  have HZ0 := Lib.hid z0
  have hCl0 : w.heap.size < W0.heap.size := by omega
  clear z0
  clear k1 k2 hW0 hC0 hdl hdl0 hM hr hofl hml hsl hct4 hl
  go_enter Tryz.func65, Tryz.ntmps65
  go_wp2_with fail
  rw [HW0.out]
  (with_reducible refine K1.out.mono ?_)
  rintro e w1 ⟨a1, c1, rfl, ho1, hb1⟩
  have R1 := Lib.hid ho1.rd.2
  clear ho1
  go_wp2_with fail
  (with_reducible refine (K2.out _ _ _ R1.out).mono ?_)
  rintro e w2 ⟨la, lc, rfl, ho2, hb2⟩
  have hB2 := bt hb1 hb2
  have hnc : ∀ b o, la = some ⟨b, o, none⟩ → b ≠ w.heap.size := fun b o e => by
    have := own_new ho2 b o e
    have := hb1.size
    have := HZ0.out
    omega
  have HNC := Lib.hid hnc
  have R2 := Lib.hid ho2.rd.2
  clear ho2 hnc R1 K1 K2
  go_wp2_with fail
  (with_reducible refine (rules_any _).mono ?_)
  rintro e w3 ⟨rfl, hw3⟩
  have hb3 : Below w2.heap.size w2 w3 := by rw [hw3]; exact (Below.refl _ w2).alloc (Nat.le_refl _) _
  have hz3 : w3.heap.size = w2.heap.size + 1 := by rw [hw3]; simp
  have hR0a : w3.cell? ⟨w2.heap.size, 0, none⟩ = some (.string ⟨#[110, 111, 45, 115, 116, 111, 114, 101]⟩) := by rw [hw3]; exact World.cell?_alloc_mark w2 _ _ _ 0
  have hR0b : w3.cell? ⟨w2.heap.size, 1, none⟩ = some (.func (.func 169) #[] #[]) := by rw [hw3]; exact World.cell?_alloc_mark w2 _ _ _ 1
  have HR0a := Lib.hid hR0a; have HR0b := Lib.hid hR0b
  have hR1a : w3.cell? ⟨w2.heap.size, 2, none⟩ = some (.string ⟨#[110, 111, 45, 115, 116, 111, 114, 101, 45, 114, 101, 109, 111, 116, 101]⟩) := by rw [hw3]; exact World.cell?_alloc_mark w2 _ _ _ 2
  have hR1b : w3.cell? ⟨w2.heap.size, 3, none⟩ = some (.func (.func 170) #[] #[]) := by rw [hw3]; exact World.cell?_alloc_mark w2 _ _ _ 3
  have HR1a := Lib.hid hR1a; have HR1b := Lib.hid hR1b
  have hR2a : w3.cell? ⟨w2.heap.size, 4, none⟩ = some (.string ⟨#[99, 111, 110, 116, 101, 110, 116]⟩) := by rw [hw3]; exact World.cell?_alloc_mark w2 _ _ _ 4
  have hR2b : w3.cell? ⟨w2.heap.size, 5, none⟩ = some (.func (.func 171) #[] #[]) := by rw [hw3]; exact World.cell?_alloc_mark w2 _ _ _ 5
  have HR2a := Lib.hid hR2a; have HR2b := Lib.hid hR2b
  have hR3a : w3.cell? ⟨w2.heap.size, 6, none⟩ = some (.string ⟨#[109, 97, 120, 45, 97, 103, 101]⟩) := by rw [hw3]; exact World.cell?_alloc_mark w2 _ _ _ 6
  have hR3b : w3.cell? ⟨w2.heap.size, 7, none⟩ = some (.func (.func 174) #[] #[]) := by rw [hw3]; exact World.cell?_alloc_mark w2 _ _ _ 7
  have HR3a := Lib.hid hR3a; have HR3b := Lib.hid hR3b
  have hB3 := bt hB2 hb3
  have HC3 := Lib.hid (HC0.out.below hB3)
  have HRL := Lib.hid (R2.out.below hb3)
  have HM := Lib.hid (HM0.out.below hB3)
  have hs2 := hB2.size
  have hRl : w2.heap.size < w3.heap.size := by omega
  have hRne : w2.heap.size ≠ w.heap.size := by omega
  have hz0 := HC3.out
  clear hR0a hR0b hR1a hR1b hR2a hR2b hR3a hR3b hw3 hb3 R2 HC0 HM0 hb1 hb2 hz0
  obtain ⟨R, hRe⟩ : ∃ R, w2.heap.size = R := ⟨_, rfl⟩
  rw [hRe] at HR0a HR0b HR1a HR1b HR2a HR2b HR3a HR3b hRl hRne ⊢
  clear hRe hz3
  go_wp2_with fail
  go_loopw [15] (fun i wr => ∃ j : Nat, j ≤ 4 ∧ i = .int .i64 j ∧ Hid (CtlAt w.heap.size (ctlTo ls j) wr) ∧ Beside w.heap.size w3 wr) (fun i _ => 4 - (intOf i).toNat)
  case atStart => exact ⟨0, by omega, rfl, HC3, Beside.of (Below.refl _ _) (by have := hB3.size; omega)⟩
  case round =>
    clear HC3
    obtain ⟨j, hj, rfl, HC, hbw⟩ := hrel
    rcases (by omega : j = 0 ∨ j = 1 ∨ j = 2 ∨ j = 3 ∨ j = 4) with rfl | rfl | rfl | rfl | rfl
    · -- rule 1
      have r0 := (hbw.cell 0 hRl hRne).trans HR0a.out
      have r1 := (hbw.cell 1 hRl hRne).trans HR0b.out
      obtain ⟨W4, hW4⟩ : ∃ W4, wr.alloc (.cells #[.string ⟨#[110, 111, 45, 115, 116, 111, 114, 101]⟩, .func (.func 169) #[] #[]] 146) = W4 := ⟨_, rfl⟩
      have ha4 : Below wr.heap.size wr W4 := by rw [← hW4]; exact (Below.refl _ wr).alloc (Nat.le_refl _) _
      have v0 : W4.cell? ⟨wr.heap.size, 0, none⟩ = some (.string ⟨#[110, 111, 45, 115, 116, 111, 114, 101]⟩) := by rw [← hW4]; exact World.cell?_alloc_mark wr _ _ _ 0
      have v1 : W4.cell? ⟨wr.heap.size, 1, none⟩ = some (.func (.func 169) #[] #[]) := by rw [← hW4]; exact World.cell?_alloc_mark wr _ _ _ 1
      have hVl : wr.heap.size < W4.heap.size := by rw [← hW4]; simp
      have hrl := (HRL.out.below2 hbw HNC.out).below ha4
      have k5 := indexOf_any (.pointer (some ⟨wr.heap.size, 0, none⟩)) (fun d => d.name == noStore) la ls.length lc ls W4 hrl hls (fun d _ W' hb' => of1_any wr.heap.size noStore d W' ((hb'.cell (p := ⟨wr.heap.size, 0, none⟩) hVl).trans v0) (Nat.lt_of_lt_of_le hVl hb'.size))
      have hcase := firstI_find (fun d => d.name == noStore) ls
      have hcw := HC.out.lt
      have HC4 := Lib.hid (HC.out.below ha4)
      have hB4 := hbw.trans (Beside.of ha4 (Nat.le_of_lt HC.out.lt))
      have HRL4 := Lib.hid hrl
      generalize firstI (fun d => d.name == noStore) ls = ix at *
      have K5 := Lib.hid k5; have HW4 := Lib.hid hW4; have HV1 := Lib.hid v1
      clear k5 hW4 ha4 v0 v1 hrl HC hbw
      rcases hcase with ⟨hf, rfl⟩ | ⟨k, hk, hf, rfl⟩
      · have hnx : ctlTo ls 1 = ctlTo ls 0 := by unfold ctlTo; rw [first_none hf]; rfl
        have HNX := Lib.hid hnx
        clear hnx hf
        go_wp2_with fail
        rw [HW4.out]
        (with_reducible refine K5.out.mono ?_)
        rintro e w5 ⟨rfl, h5⟩
        have HC5 : Hid (CtlAt w.heap.size (ctlTo ls 1) w5) := by rw [HNX.out]; exact Lib.hid (HC4.out.below h5)
        have hB5 := hB4.trans (Beside.of h5 (Nat.le_of_lt HC4.out.lt))
        clear h5 r0 r1
        go_wp2
        go_roundw
        case rel => exact ⟨1, by omega, by rfl, HC5, hB5⟩
        case measure => simp [intOf]
      · have hdl := HDL.out ls[k] (List.getElem_mem _)
        obtain ⟨d, hd⟩ : ∃ d, ls[k] = d := ⟨_, rfl⟩
        rw [hd] at hf hdl
        have hfv := first_some hf
        obtain ⟨dn, dv, dh, df⟩ := d
        have hnx : ctlTo ls 1 = { ctlTo ls 0 with noStore := true } := by unfold ctlTo; rw [hfv]; rfl
        have HNX := Lib.hid hnx; have HD := Lib.hid hd
        have hvs : (⟨dv.toArray⟩ : ByteArray).size ≤ 1000000 := by rw [Lib.size_eq]; exact hdl
        clear hnx hf hd hdl hfv
        go_wp2_with fail
        rw [HW4.out]
        (with_reducible refine K5.out.mono ?_)
        rintro e w5 ⟨rfl, h5⟩
        obtain ⟨b, o, rfl, hbl, _, x1, _, _⟩ := (HRL4.out.below h5).dir_at (k := k) hk
        rw [HD.out] at x1
        simp only at x1
        have hbne : b ≠ w.heap.size := HNC.out b o rfl
        have hVl5 : wr.heap.size < w5.heap.size := Nat.lt_of_lt_of_le hVl h5.size
        have s0 := (h5.cell (p := ⟨wr.heap.size, 1, none⟩) hVl).trans HV1.out
        have s1 := x1
        have HC5 := Lib.hid (HC4.out.below h5)
        have hB5 := hB4.trans (Beside.of h5 (Nat.le_of_lt HC4.out.lt))
        have hM5 := HM.out.beside hB5 hCg
        have hbl5 := hbl
        have hVne : wr.heap.size ≠ w.heap.size := by omega
        have hBd : Beside w.heap.size w5 w5.drew := ⟨(Below.refl _ _).drew, fun _ _ _ => rfl⟩
        have s0d : w5.drew.cell? ⟨wr.heap.size, 1, none⟩ = some (.func (.func 169) #[] #[]) := s0
        have s1d : w5.drew.cell? ⟨b, o + k * 4 + 1, none⟩ = some (.string ⟨dv.toArray⟩) := s1
        have hM5d := hM5.beside hBd hCg
        have hC5d : CtlAt w.heap.size (ctlTo ls 0) w5.drew := HC5.out
        have k6 := do1_any w.heap.size _ ⟨dv.toArray⟩ _ hC5d
        have K6 := Lib.hid k6; have HBD := Lib.hid (hB5.trans hBd)
        clear h5 r0 r1 k6 hC5d hM5d hM5 hBd x1
        go_wp2_with fail
        refine wp_region_held_drew (S := (fun w' => w'.cell? ⟨wr.heap.size, 1, none⟩ = some (.func (.func 169) #[] #[]) ∧ w'.cell? ⟨b, o + k * 4 + 1, none⟩ = some (.string ⟨dv.toArray⟩))) (by kernel_rfl) (And.intro s0d s1d) (fun hHeld => ?_)
        refine tkS 0 hHeld ?_
        try simp only [Act.put, ps1, ps2, ps3]
        refine tkS 1 hHeld ?_
        try simp only [Act.put, ps1, ps2, ps3]
        refine tkS 2 hHeld ?_
        try simp only [Act.put, ps1, ps2, ps3]
        refine tkS 3 hHeld ?_
        try simp only [Act.put, ps1, ps2, ps3]
        refine tkS 4 hHeld ?_
        try simp only [Act.put, ps1, ps2, ps3]
        refine tkS 5 hHeld ?_
        try simp only [Act.put, ps1, ps2, ps3]
        refine tkS 6 hHeld ?_
        try simp only [Act.put, ps1, ps2, ps3]
        refine wpAnyH_ready (rs := [7]) (by kernel_rfl) (by simp) (AllReadyH.cons (by simp only [List.getElem?_toArray, List.getElem?_cons_succ, List.getElem?_cons_zero]; exact rfl) (fun K hK => ?_) AllReadyH.nil)
        rw [if_pos (by rfl)]
        go_simp
        refine (K6.out).mono ?_; rintro e w6 ⟨⟨_, rfl⟩, hc6, hb6⟩; have hS6 := And.intro ((hb6.cell 1 hVl5 hVne).trans s0d) ((hb6.cell (o + k * 4 + 1) hbl5 hbne).trans s1d); go_wp2_with fail
        refine hK.out _ _ (hS6) (fun hHeld => ?_)
        clear hK K
        try simp only [Act.put, ps1, ps2, ps3]
        refine wpAnyH_done (by kernel_rfl) ?_ _
        have HC6 : Hid (CtlAt w.heap.size (ctlTo ls 1) w6) := by rw [HNX.out]; exact Lib.hid hc6
        have hB6 := HBD.out.trans hb6
        clear hc6 hb6 hHeld hS6
        go_wp2
        go_roundw
        case rel => exact ⟨1, by omega, by rfl, HC6, hB6⟩
        case measure => simp [intOf]
    · -- rule 2
      have r0 := (hbw.cell 2 hRl hRne).trans HR1a.out
      have r1 := (hbw.cell 3 hRl hRne).trans HR1b.out
      obtain ⟨W4, hW4⟩ : ∃ W4, wr.alloc (.cells #[.string ⟨#[110, 111, 45, 115, 116, 111, 114, 101, 45, 114, 101, 109, 111, 116, 101]⟩, .func (.func 170) #[] #[]] 146) = W4 := ⟨_, rfl⟩
      have ha4 : Below wr.heap.size wr W4 := by rw [← hW4]; exact (Below.refl _ wr).alloc (Nat.le_refl _) _
      have v0 : W4.cell? ⟨wr.heap.size, 0, none⟩ = some (.string ⟨#[110, 111, 45, 115, 116, 111, 114, 101, 45, 114, 101, 109, 111, 116, 101]⟩) := by rw [← hW4]; exact World.cell?_alloc_mark wr _ _ _ 0
      have v1 : W4.cell? ⟨wr.heap.size, 1, none⟩ = some (.func (.func 170) #[] #[]) := by rw [← hW4]; exact World.cell?_alloc_mark wr _ _ _ 1
      have hVl : wr.heap.size < W4.heap.size := by rw [← hW4]; simp
      have hrl := (HRL.out.below2 hbw HNC.out).below ha4
      have k5 := indexOf_any (.pointer (some ⟨wr.heap.size, 0, none⟩)) (fun d => d.name == sRemote) la ls.length lc ls W4 hrl hls (fun d _ W' hb' => of1_any wr.heap.size sRemote d W' ((hb'.cell (p := ⟨wr.heap.size, 0, none⟩) hVl).trans v0) (Nat.lt_of_lt_of_le hVl hb'.size))
      have hcase := firstI_find (fun d => d.name == sRemote) ls
      have hcw := HC.out.lt
      have HC4 := Lib.hid (HC.out.below ha4)
      have hB4 := hbw.trans (Beside.of ha4 (Nat.le_of_lt HC.out.lt))
      have HRL4 := Lib.hid hrl
      generalize firstI (fun d => d.name == sRemote) ls = ix at *
      have K5 := Lib.hid k5; have HW4 := Lib.hid hW4; have HV1 := Lib.hid v1
      clear k5 hW4 ha4 v0 v1 hrl HC hbw
      rcases hcase with ⟨hf, rfl⟩ | ⟨k, hk, hf, rfl⟩
      · have hnx : ctlTo ls 2 = ctlTo ls 1 := by unfold ctlTo; rw [first_none hf]; rfl
        have HNX := Lib.hid hnx
        clear hnx hf
        go_wp2_with fail
        rw [HW4.out]
        (with_reducible refine K5.out.mono ?_)
        rintro e w5 ⟨rfl, h5⟩
        have HC5 : Hid (CtlAt w.heap.size (ctlTo ls 2) w5) := by rw [HNX.out]; exact Lib.hid (HC4.out.below h5)
        have hB5 := hB4.trans (Beside.of h5 (Nat.le_of_lt HC4.out.lt))
        clear h5 r0 r1
        go_wp2
        go_roundw
        case rel => exact ⟨2, by omega, by rfl, HC5, hB5⟩
        case measure => simp [intOf]
      · have hdl := HDL.out ls[k] (List.getElem_mem _)
        obtain ⟨d, hd⟩ : ∃ d, ls[k] = d := ⟨_, rfl⟩
        rw [hd] at hf hdl
        have hfv := first_some hf
        obtain ⟨dn, dv, dh, df⟩ := d
        have hnx : ctlTo ls 2 = { ctlTo ls 1 with noRemote := true } := by unfold ctlTo; rw [hfv]; rfl
        have HNX := Lib.hid hnx; have HD := Lib.hid hd
        have hvs : (⟨dv.toArray⟩ : ByteArray).size ≤ 1000000 := by rw [Lib.size_eq]; exact hdl
        clear hnx hf hd hdl hfv
        go_wp2_with fail
        rw [HW4.out]
        (with_reducible refine K5.out.mono ?_)
        rintro e w5 ⟨rfl, h5⟩
        obtain ⟨b, o, rfl, hbl, _, x1, _, _⟩ := (HRL4.out.below h5).dir_at (k := k) hk
        rw [HD.out] at x1
        simp only at x1
        have hbne : b ≠ w.heap.size := HNC.out b o rfl
        have hVl5 : wr.heap.size < w5.heap.size := Nat.lt_of_lt_of_le hVl h5.size
        have s0 := (h5.cell (p := ⟨wr.heap.size, 1, none⟩) hVl).trans HV1.out
        have s1 := x1
        have HC5 := Lib.hid (HC4.out.below h5)
        have hB5 := hB4.trans (Beside.of h5 (Nat.le_of_lt HC4.out.lt))
        have hM5 := HM.out.beside hB5 hCg
        have hbl5 := hbl
        have hVne : wr.heap.size ≠ w.heap.size := by omega
        have hBd : Beside w.heap.size w5 w5.drew := ⟨(Below.refl _ _).drew, fun _ _ _ => rfl⟩
        have s0d : w5.drew.cell? ⟨wr.heap.size, 1, none⟩ = some (.func (.func 170) #[] #[]) := s0
        have s1d : w5.drew.cell? ⟨b, o + k * 4 + 1, none⟩ = some (.string ⟨dv.toArray⟩) := s1
        have hM5d := hM5.beside hBd hCg
        have hC5d : CtlAt w.heap.size (ctlTo ls 1) w5.drew := HC5.out
        have k6 := do2_any w.heap.size _ ⟨dv.toArray⟩ _ hC5d
        have K6 := Lib.hid k6; have HBD := Lib.hid (hB5.trans hBd)
        clear h5 r0 r1 k6 hC5d hM5d hM5 hBd x1
        go_wp2_with fail
        refine wp_region_held_drew (S := (fun w' => w'.cell? ⟨wr.heap.size, 1, none⟩ = some (.func (.func 170) #[] #[]) ∧ w'.cell? ⟨b, o + k * 4 + 1, none⟩ = some (.string ⟨dv.toArray⟩))) (by kernel_rfl) (And.intro s0d s1d) (fun hHeld => ?_)
        refine tkS 0 hHeld ?_
        try simp only [Act.put, ps1, ps2, ps3]
        refine tkS 1 hHeld ?_
        try simp only [Act.put, ps1, ps2, ps3]
        refine tkS 2 hHeld ?_
        try simp only [Act.put, ps1, ps2, ps3]
        refine tkS 3 hHeld ?_
        try simp only [Act.put, ps1, ps2, ps3]
        refine tkS 4 hHeld ?_
        try simp only [Act.put, ps1, ps2, ps3]
        refine tkS 5 hHeld ?_
        try simp only [Act.put, ps1, ps2, ps3]
        refine tkS 6 hHeld ?_
        try simp only [Act.put, ps1, ps2, ps3]
        refine wpAnyH_ready (rs := [7]) (by kernel_rfl) (by simp) (AllReadyH.cons (by simp only [List.getElem?_toArray, List.getElem?_cons_succ, List.getElem?_cons_zero]; exact rfl) (fun K hK => ?_) AllReadyH.nil)
        rw [if_pos (by rfl)]
        go_simp
        refine (K6.out).mono ?_; rintro e w6 ⟨⟨_, rfl⟩, hc6, hb6⟩; have hS6 := And.intro ((hb6.cell 1 hVl5 hVne).trans s0d) ((hb6.cell (o + k * 4 + 1) hbl5 hbne).trans s1d); go_wp2_with fail
        refine hK.out _ _ (hS6) (fun hHeld => ?_)
        clear hK K
        try simp only [Act.put, ps1, ps2, ps3]
        refine wpAnyH_done (by kernel_rfl) ?_ _
        have HC6 : Hid (CtlAt w.heap.size (ctlTo ls 2) w6) := by rw [HNX.out]; exact Lib.hid hc6
        have hB6 := HBD.out.trans hb6
        clear hc6 hb6 hHeld hS6
        go_wp2
        go_roundw
        case rel => exact ⟨2, by omega, by rfl, HC6, hB6⟩
        case measure => simp [intOf]
    · -- rule 3
      have r0 := (hbw.cell 4 hRl hRne).trans HR2a.out
      have r1 := (hbw.cell 5 hRl hRne).trans HR2b.out
      obtain ⟨W4, hW4⟩ : ∃ W4, wr.alloc (.cells #[.string ⟨#[99, 111, 110, 116, 101, 110, 116]⟩, .func (.func 171) #[] #[]] 146) = W4 := ⟨_, rfl⟩
      have ha4 : Below wr.heap.size wr W4 := by rw [← hW4]; exact (Below.refl _ wr).alloc (Nat.le_refl _) _
      have v0 : W4.cell? ⟨wr.heap.size, 0, none⟩ = some (.string ⟨#[99, 111, 110, 116, 101, 110, 116]⟩) := by rw [← hW4]; exact World.cell?_alloc_mark wr _ _ _ 0
      have v1 : W4.cell? ⟨wr.heap.size, 1, none⟩ = some (.func (.func 171) #[] #[]) := by rw [← hW4]; exact World.cell?_alloc_mark wr _ _ _ 1
      have hVl : wr.heap.size < W4.heap.size := by rw [← hW4]; simp
      have hrl := (HRL.out.below2 hbw HNC.out).below ha4
      have k5 := indexOf_any (.pointer (some ⟨wr.heap.size, 0, none⟩)) (fun d => d.name == sContent) la ls.length lc ls W4 hrl hls (fun d _ W' hb' => of1_any wr.heap.size sContent d W' ((hb'.cell (p := ⟨wr.heap.size, 0, none⟩) hVl).trans v0) (Nat.lt_of_lt_of_le hVl hb'.size))
      have hcase := firstI_find (fun d => d.name == sContent) ls
      have hcw := HC.out.lt
      have HC4 := Lib.hid (HC.out.below ha4)
      have hB4 := hbw.trans (Beside.of ha4 (Nat.le_of_lt HC.out.lt))
      have HRL4 := Lib.hid hrl
      generalize firstI (fun d => d.name == sContent) ls = ix at *
      have K5 := Lib.hid k5; have HW4 := Lib.hid hW4; have HV1 := Lib.hid v1
      clear k5 hW4 ha4 v0 v1 hrl HC hbw
      rcases hcase with ⟨hf, rfl⟩ | ⟨k, hk, hf, rfl⟩
      · have hnx : ctlTo ls 3 = ctlTo ls 2 := by unfold ctlTo; rw [first_none hf]; rfl
        have HNX := Lib.hid hnx
        clear hnx hf
        go_wp2_with fail
        rw [HW4.out]
        (with_reducible refine K5.out.mono ?_)
        rintro e w5 ⟨rfl, h5⟩
        have HC5 : Hid (CtlAt w.heap.size (ctlTo ls 3) w5) := by rw [HNX.out]; exact Lib.hid (HC4.out.below h5)
        have hB5 := hB4.trans (Beside.of h5 (Nat.le_of_lt HC4.out.lt))
        clear h5 r0 r1
        go_wp2
        go_roundw
        case rel => exact ⟨3, by omega, by rfl, HC5, hB5⟩
        case measure => simp [intOf]
      · have hdl := HDL.out ls[k] (List.getElem_mem _)
        obtain ⟨d, hd⟩ : ∃ d, ls[k] = d := ⟨_, rfl⟩
        rw [hd] at hf hdl
        have hfv := first_some hf
        obtain ⟨dn, dv, dh, df⟩ := d
        have hnx : ctlTo ls 3 = { ctlTo ls 2 with esi := wordP sESI [] dv } := by unfold ctlTo; rw [hfv]; rfl
        have HNX := Lib.hid hnx; have HD := Lib.hid hd
        have hvs : (⟨dv.toArray⟩ : ByteArray).size ≤ 1000000 := by rw [Lib.size_eq]; exact hdl
        clear hnx hf hd hdl hfv
        go_wp2_with fail
        rw [HW4.out]
        (with_reducible refine K5.out.mono ?_)
        rintro e w5 ⟨rfl, h5⟩
        obtain ⟨b, o, rfl, hbl, _, x1, _, _⟩ := (HRL4.out.below h5).dir_at (k := k) hk
        rw [HD.out] at x1
        simp only at x1
        have hbne : b ≠ w.heap.size := HNC.out b o rfl
        have hVl5 : wr.heap.size < w5.heap.size := Nat.lt_of_lt_of_le hVl h5.size
        have s0 := (h5.cell (p := ⟨wr.heap.size, 1, none⟩) hVl).trans HV1.out
        have s1 := x1
        have HC5 := Lib.hid (HC4.out.below h5)
        have hB5 := hB4.trans (Beside.of h5 (Nat.le_of_lt HC4.out.lt))
        have hM5 := HM.out.beside hB5 hCg
        have hbl5 := hbl
        have hVne : wr.heap.size ≠ w.heap.size := by omega
        have hBd : Beside w.heap.size w5 w5.drew := ⟨(Below.refl _ _).drew, fun _ _ _ => rfl⟩
        have s0d : w5.drew.cell? ⟨wr.heap.size, 1, none⟩ = some (.func (.func 171) #[] #[]) := s0
        have s1d : w5.drew.cell? ⟨b, o + k * 4 + 1, none⟩ = some (.string ⟨dv.toArray⟩) := s1
        have hM5d := hM5.beside hBd hCg
        have hC5d : CtlAt w.heap.size (ctlTo ls 2) w5.drew := HC5.out
        have k6 := do3_any w.heap.size _ ⟨dv.toArray⟩ _ hC5d hvs
        have K6 := Lib.hid k6; have HBD := Lib.hid (hB5.trans hBd)
        clear h5 r0 r1 k6 hC5d hM5d hM5 hBd x1
        go_wp2_with fail
        refine wp_region_held_drew (S := (fun w' => w'.cell? ⟨wr.heap.size, 1, none⟩ = some (.func (.func 171) #[] #[]) ∧ w'.cell? ⟨b, o + k * 4 + 1, none⟩ = some (.string ⟨dv.toArray⟩))) (by kernel_rfl) (And.intro s0d s1d) (fun hHeld => ?_)
        refine tkS 0 hHeld ?_
        try simp only [Act.put, ps1, ps2, ps3]
        refine tkS 1 hHeld ?_
        try simp only [Act.put, ps1, ps2, ps3]
        refine tkS 2 hHeld ?_
        try simp only [Act.put, ps1, ps2, ps3]
        refine tkS 3 hHeld ?_
        try simp only [Act.put, ps1, ps2, ps3]
        refine tkS 4 hHeld ?_
        try simp only [Act.put, ps1, ps2, ps3]
        refine tkS 5 hHeld ?_
        try simp only [Act.put, ps1, ps2, ps3]
        refine tkS 6 hHeld ?_
        try simp only [Act.put, ps1, ps2, ps3]
        refine wpAnyH_ready (rs := [7]) (by kernel_rfl) (by simp) (AllReadyH.cons (by simp only [List.getElem?_toArray, List.getElem?_cons_succ, List.getElem?_cons_zero]; exact rfl) (fun K hK => ?_) AllReadyH.nil)
        rw [if_pos (by rfl)]
        go_simp
        refine (K6.out).mono ?_; rintro e w6 ⟨⟨_, rfl⟩, hc6, hb6⟩; have hS6 := And.intro ((hb6.cell 1 hVl5 hVne).trans s0d) ((hb6.cell (o + k * 4 + 1) hbl5 hbne).trans s1d); go_wp2_with fail
        refine hK.out _ _ (hS6) (fun hHeld => ?_)
        clear hK K
        try simp only [Act.put, ps1, ps2, ps3]
        refine wpAnyH_done (by kernel_rfl) ?_ _
        have HC6 : Hid (CtlAt w.heap.size (ctlTo ls 3) w6) := by rw [HNX.out]; exact Lib.hid hc6
        have hB6 := HBD.out.trans hb6
        clear hc6 hb6 hHeld hS6
        go_wp2
        go_roundw
        case rel => exact ⟨3, by omega, by rfl, HC6, hB6⟩
        case measure => simp [intOf]
    · -- rule 4
      have r0 := (hbw.cell 6 hRl hRne).trans HR3a.out
      have r1 := (hbw.cell 7 hRl hRne).trans HR3b.out
      obtain ⟨W4, hW4⟩ : ∃ W4, wr.alloc (.cells #[.string ⟨#[109, 97, 120, 45, 97, 103, 101]⟩, .func (.func 174) #[] #[]] 146) = W4 := ⟨_, rfl⟩
      have ha4 : Below wr.heap.size wr W4 := by rw [← hW4]; exact (Below.refl _ wr).alloc (Nat.le_refl _) _
      have v0 : W4.cell? ⟨wr.heap.size, 0, none⟩ = some (.string ⟨#[109, 97, 120, 45, 97, 103, 101]⟩) := by rw [← hW4]; exact World.cell?_alloc_mark wr _ _ _ 0
      have v1 : W4.cell? ⟨wr.heap.size, 1, none⟩ = some (.func (.func 174) #[] #[]) := by rw [← hW4]; exact World.cell?_alloc_mark wr _ _ _ 1
      have hVl : wr.heap.size < W4.heap.size := by rw [← hW4]; simp
      have hrl := (HRL.out.below2 hbw HNC.out).below ha4
      have k5 := indexOf_any (.pointer (some ⟨wr.heap.size, 0, none⟩)) (fun d => d.name == sMaxAge) la ls.length lc ls W4 hrl hls (fun d _ W' hb' => of1_any wr.heap.size sMaxAge d W' ((hb'.cell (p := ⟨wr.heap.size, 0, none⟩) hVl).trans v0) (Nat.lt_of_lt_of_le hVl hb'.size))
      have hcase := firstI_find (fun d => d.name == sMaxAge) ls
      have hcw := HC.out.lt
      have HC4 := Lib.hid (HC.out.below ha4)
      have hB4 := hbw.trans (Beside.of ha4 (Nat.le_of_lt HC.out.lt))
      have HRL4 := Lib.hid hrl
      generalize firstI (fun d => d.name == sMaxAge) ls = ix at *
      have K5 := Lib.hid k5; have HW4 := Lib.hid hW4; have HV1 := Lib.hid v1
      clear k5 hW4 ha4 v0 v1 hrl HC hbw
      rcases hcase with ⟨hf, rfl⟩ | ⟨k, hk, hf, rfl⟩
      · have hnx : ctlTo ls 4 = ctlTo ls 3 := by unfold ctlTo; unfold ctlL; rw [first_none hf]; rfl
        have HNX := Lib.hid hnx
        clear hnx hf
        go_wp2_with fail
        rw [HW4.out]
        (with_reducible refine K5.out.mono ?_)
        rintro e w5 ⟨rfl, h5⟩
        have HC5 : Hid (CtlAt w.heap.size (ctlTo ls 4) w5) := by rw [HNX.out]; exact Lib.hid (HC4.out.below h5)
        have hB5 := hB4.trans (Beside.of h5 (Nat.le_of_lt HC4.out.lt))
        clear h5 r0 r1
        go_wp2
        go_roundw
        case rel => exact ⟨4, by omega, by rfl, HC5, hB5⟩
        case measure => simp [intOf]
      · have hdl := HDL.out ls[k] (List.getElem_mem _)
        obtain ⟨d, hd⟩ : ∃ d, ls[k] = d := ⟨_, rfl⟩
        rw [hd] at hf hdl
        have hfv := first_some hf
        obtain ⟨dn, dv, dh, df⟩ := d
        have hnx : ctlTo ls 4 = ⟨(ctlTo ls 3).noStore, (ctlTo ls 3).noRemote, (ctlTo ls 3).esi, true, (agesL dv).1, (agesL dv).2⟩ := by unfold ctlTo; unfold ctlL; rw [hfv]; rfl
        have HNX := Lib.hid hnx; have HD := Lib.hid hd
        have hvs : (⟨dv.toArray⟩ : ByteArray).size ≤ 1000000 := by rw [Lib.size_eq]; exact hdl
        clear hnx hf hd hdl hfv
        go_wp2_with fail
        rw [HW4.out]
        (with_reducible refine K5.out.mono ?_)
        rintro e w5 ⟨rfl, h5⟩
        obtain ⟨b, o, rfl, hbl, _, x1, _, _⟩ := (HRL4.out.below h5).dir_at (k := k) hk
        rw [HD.out] at x1
        simp only at x1
        have hbne : b ≠ w.heap.size := HNC.out b o rfl
        have hVl5 : wr.heap.size < w5.heap.size := Nat.lt_of_lt_of_le hVl h5.size
        have s0 := (h5.cell (p := ⟨wr.heap.size, 1, none⟩) hVl).trans HV1.out
        have s1 := x1
        have HC5 := Lib.hid (HC4.out.below h5)
        have hB5 := hB4.trans (Beside.of h5 (Nat.le_of_lt HC4.out.lt))
        have hM5 := HM.out.beside hB5 hCg
        have hbl5 := hbl
        have hVne : wr.heap.size ≠ w.heap.size := by omega
        have hBd : Beside w.heap.size w5 w5.drew := ⟨(Below.refl _ _).drew, fun _ _ _ => rfl⟩
        have s0d : w5.drew.cell? ⟨wr.heap.size, 1, none⟩ = some (.func (.func 174) #[] #[]) := s0
        have s1d : w5.drew.cell? ⟨b, o + k * 4 + 1, none⟩ = some (.string ⟨dv.toArray⟩) := s1
        have hM5d := hM5.beside hBd hCg
        have hC5d : CtlAt w.heap.size (ctlTo ls 3) w5.drew := HC5.out
        have k6 := do4_any w.heap.size _ _ _ _ ⟨dv.toArray⟩ _ hM5d hCg hC5d hvs
        have K6 := Lib.hid k6; have HBD := Lib.hid (hB5.trans hBd)
        clear h5 r0 r1 k6 hC5d hM5d hM5 hBd x1
        go_wp2_with fail
        refine wp_region_held_drew (S := (fun w' => w'.cell? ⟨wr.heap.size, 1, none⟩ = some (.func (.func 174) #[] #[]) ∧ w'.cell? ⟨b, o + k * 4 + 1, none⟩ = some (.string ⟨dv.toArray⟩))) (by kernel_rfl) (And.intro s0d s1d) (fun hHeld => ?_)
        refine tkS 0 hHeld ?_
        try simp only [Act.put, ps1, ps2, ps3]
        refine tkS 1 hHeld ?_
        try simp only [Act.put, ps1, ps2, ps3]
        refine tkS 2 hHeld ?_
        try simp only [Act.put, ps1, ps2, ps3]
        refine tkS 3 hHeld ?_
        try simp only [Act.put, ps1, ps2, ps3]
        refine tkS 4 hHeld ?_
        try simp only [Act.put, ps1, ps2, ps3]
        refine tkS 5 hHeld ?_
        try simp only [Act.put, ps1, ps2, ps3]
        refine tkS 6 hHeld ?_
        try simp only [Act.put, ps1, ps2, ps3]
        refine wpAnyH_ready (rs := [7]) (by kernel_rfl) (by simp) (AllReadyH.cons (by simp only [List.getElem?_toArray, List.getElem?_cons_succ, List.getElem?_cons_zero]; exact rfl) (fun K hK => ?_) AllReadyH.nil)
        rw [if_pos (by rfl)]
        go_simp
        refine (K6.out).mono ?_; rintro e w6 ⟨⟨_, rfl⟩, hc6, hb6⟩; have hS6 := And.intro ((hb6.cell 1 hVl5 hVne).trans s0d) ((hb6.cell (o + k * 4 + 1) hbl5 hbne).trans s1d); go_wp2_with fail
        refine hK.out _ _ (hS6) (fun hHeld => ?_)
        clear hK K
        try simp only [Act.put, ps1, ps2, ps3]
        refine wpAnyH_done (by kernel_rfl) ?_ _
        have HC6 : Hid (CtlAt w.heap.size (ctlTo ls 4) w6) := by rw [HNX.out]; exact Lib.hid hc6
        have hB6 := HBD.out.trans hb6
        clear hc6 hb6 hHeld hS6
        go_wp2
        go_roundw
        case rel => exact ⟨4, by omega, by rfl, HC6, hB6⟩
        case measure => simp [intOf]
    · obtain ⟨c0, c1, c2, c3, c4, c5, hf⟩ := HC.out.cells
      have hfin := hB0.trans ((hB3.mono hB0.size).trans (hbw.1.mono (Nat.le_refl _)))
      obtain ⟨kk, hkk⟩ : ∃ kk, ctlTo ls 4 = kk := ⟨_, rfl⟩
      rw [hkk] at c0 c1 c2 c3 c4 c5
      have HK := Lib.hid hkk
      clear hkk
      obtain ⟨k0, k1, k2, k3, k4, k5⟩ := kk
      simp only at c0 c1 c2 c3 c4 c5
      have f0 := hf 0; have f1 := hf 1; have f2 := hf 2; have f3 := hf 3; have f4 := hf 4; have f5 := hf 5
      clear hf HC HRL HM HDL HNC HR0a HR0b HR1a HR1b HR2a HR2b HR3a HR3b hbw
      go_wp2_with fail
      refine bodyPost_ret_by (v := ctlV ⟨k0, k1, k2, k3, k4, k5⟩) ?_ rfl ?_
      · rw [results_cell_one rfl]
        go_simp
        rfl
      · exact ⟨by rw [HK.out], (((((hfin.setCell (p := ⟨w.heap.size, 0, none⟩) (Nat.le_refl _) _).setCell (p := ⟨w.heap.size, 1, none⟩) (Nat.le_refl _) _).setCell (p := ⟨w.heap.size, 2, none⟩) (Nat.le_refl _) _).setCell (p := ⟨w.heap.size, 3, none⟩) (Nat.le_refl _) _).setCell (p := ⟨w.heap.size, 4, none⟩) (Nat.le_refl _) _).setCell (p := ⟨w.heap.size, 5, none⟩) (Nat.le_refl _) _⟩
end Go.Proofs.YtcgdcbnhpbokfaaGreatDoor
