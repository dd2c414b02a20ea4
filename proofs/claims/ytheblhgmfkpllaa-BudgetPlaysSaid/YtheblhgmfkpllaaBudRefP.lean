/- The document's Budget: the walk of Put (printed by wip/tools/budput.py). -/
import Derived.Test.YtheblhgmfkpllaaBudRefD
import Derived.Deep.RegionHeld3
namespace Go.Proofs.Ytheblhgmfkpllaa
open Go.RowKit
set_option maxRecDepth 100000

theorem OwnS.one {B : Nat} (w : World) (hB : B ≤ w.heap.size) (y : List UInt8) : OwnS B (.slice (some ⟨w.heap.size, 0, none⟩) 1 1) [y] (w.alloc (.cells #[.string ⟨y.toArray⟩] 9 (0, 0))) :=
  ⟨rfl, Or.inr ⟨w.heap.size, 1, _, rfl, hB, heap_alloc_last w _, Nat.le_refl _, by decide, rfl, rfl⟩⟩
def PutRPost (w : World) (fr : List Nat) (rb : Nat) (n m : Int) (R : List ByteArray × List Ent) (e : Ending) (w' : World) : Prop :=
  ∃ a cap, e = .returned (.slice a R.1.length cap) ∧ OwnS w.heap.size (.slice a R.1.length cap) (strs R.1) w' ∧ StR w w' fr rb n m R.2
set_option maxHeartbeats 16000000 in
theorem putR_big {w : World} {fr : List Nat} {rb : Nat} {n m : Int} {es : List Ent} (h : BR w fr rb n m es) (hes : EsOk es) (hm : 1 ≤ m) (key : ByteArray) (s x0 : Int) (hs : m < s) :
    Calls Try.prog 31 #[.pointer (some ⟨rb, 0, none⟩), .string key, .int .i64 s, .int .i64 x0] w (PutRPost w fr rb n m (putE n m key s (.int .i64 x0) es)) := by
  have e0 : putE n m key s (.int .i64 x0) es = (if hasE key es then [key] else [], delE key es) := by unfold putE; rw [if_pos hs]
  rw [e0]
  clear e0
  have k1 := dropR_any h hes key
  generalize hasE key es = was at *
  generalize delE key es = zs at *
  have K1 := Lib.hid k1
  have hs0 : decide (s < 0) = false := by simp; omega
  have hs1 : ¬ s < 0 := by omega
  clear k1 h
  obtain ⟨y, rfl⟩ : ∃ y : List UInt8, key = ⟨y.toArray⟩ := ⟨key.data.toList, (str_back key).symm⟩
  cases was
  · go_enter Try.func31, Try.ntmps31
    go_wp2_with fail
    (with_reducible refine K1.out.mono ?_)
    rintro e w1 ⟨rfl, hst⟩
    have hst2 := hst
    obtain ⟨fr1, hb1, ht1, hf1⟩ := hst2
    obtain ⟨A, cap, hr, hnf, hlt, c0, c1, c2, f2⟩ := hb1.cells
    have t1 : decide (s > m) = true := by simpa using hs
    clear hb1 hr
    go_wp2
    go_ret
    exact ⟨none, 0, rfl, OwnS.nil _ _, hst⟩
  · go_enter Try.func31, Try.ntmps31
    go_wp2_with fail
    (with_reducible refine K1.out.mono ?_)
    rintro e w1 ⟨rfl, hst⟩
    have hst2 := hst
    obtain ⟨fr1, hb1, ht1, hf1⟩ := hst2
    obtain ⟨A, cap, hr, hnf, hlt, c0, c1, c2, f2⟩ := hb1.cells
    have t1 : decide (s > m) = true := by simpa using hs
    have HB1 := Lib.hid hb1
    clear hb1 hr
    go_wp2
    go_ret
    have hal := (Below.refl w1.heap.size w1).alloc (Nat.le_refl _) (.cells #[.string ⟨y.toArray⟩] 9 (0, 0))
    refine ⟨some ⟨w1.heap.size, 0, none⟩, 1, rfl, ?_, fr1, HB1.out.below hal, ht1.belowR (hal.mono ht1.2.2.2.1), hf1⟩
    have := OwnS.one w1 ht1.2.2.2.1 y
    have e1 : strs ([⟨y.toArray⟩] : List ByteArray) = [y] := by unfold strs; simp
    show OwnS _ (.slice _ 1 1) (strs [⟨y.toArray⟩]) _
    rw [e1]
    exact this
theorem EsOk.put {es : List Ent} (h : EsOk es) (hl : es.length ≤ 4096) (key : ByteArray) (z x0 : Int) (hz : 0 ≤ z ∧ z ≤ 1073741824) (hno : ∀ e ∈ es, keyIs key e = false) : EsOk (es ++ [⟨key, z, .int .i64 x0⟩]) := by
  refine ⟨?_, fun e he => ?_, fun e he => ?_, by rw [List.length_append, List.length_singleton]; omega⟩
  · rw [List.map_append, List.nodup_append]
    refine ⟨h.nd, by simp, fun a ha b hb => ?_⟩
    obtain ⟨e, he, rfl⟩ := List.mem_map.1 ha
    simp at hb
    subst hb
    exact keyIs_false.1 (hno e he)
  · rcases List.mem_append.1 he with h' | h'
    · exact h.sz e h'
    · rw [List.mem_singleton.1 h']; exact hz
  · rcases List.mem_append.1 he with h' | h'
    · exact h.x e h'
    · rw [List.mem_singleton.1 h']; exact ⟨x0, rfl⟩
theorem app_ones {ops : Array Oper} {rest : List Oper} {o : Oper} {a : Act} {Q : Exit → Act → World → Prop} {w : World} {fr : List Nat} {es : List Ent} {A : Option Addr} {cap : Nat} (h : Row1 w fr es A cap) (e : Ent) (hx : e.x.oneCell' = true) (hn : es.length ≤ 100000) {ad : Addr} (hc : ∀ j u, (oneV e)[j]? = some u → w.cell? (ad.add j) = some u)
    (hgd : o.guard = none) (s x : Operand) (ho : o.op = .call { callee := .builtin .append, args := #[s, x], argTypes := #[35, 35] })
    (hs : a.eval s = .slice A es.length cap) (hxv : a.eval x = .slice (some ad) 1 1)
    (hK : ∀ A' cap' w1 fr', Row1 w1 fr' (es ++ [e]) A' cap' → Touch fr w w1 → (∀ b ∈ fr', b ∈ fr ∨ w.heap.size ≤ b) → wpList Try.prog ops Q rest (a.put o.dst (.slice A' (es.length + 1) cap')) w1) :
    wpList Try.prog ops Q (o :: rest) a w := by
  obtain ⟨A', cap', w1, fr', hrun, h1, h2, h3⟩ := run_app_ones h e hx hn o.type hc
  refine wpList_plain hgd fun _ hK' => ?_
  unfold Oper.wp execOp
  simp only [ho, resolve, invoke, builtin, Sem.run_bind, Sem.run_pure, Result.andThen_ok, List.map_toArray, List.map_cons, List.map_nil, hs, hxv, hrun]
  exact hK' _ _ (hK A' cap' w1 fr' h1 h2 h3)
set_option maxHeartbeats 16000000 in
theorem putR_small {w : World} {fr : List Nat} {rb : Nat} {n m : Int} {es : List Ent} (h : BR w fr rb n m es) (hes : EsOk es) (hn : 1 ≤ n ∧ n ≤ 4096) (hm : 1 ≤ m ∧ m ≤ 1073741824) (hln : (es.length : Int) ≤ n) (key : ByteArray) (s x0 : Int) (hs : ¬ m < s) :
    Calls Try.prog 31 #[.pointer (some ⟨rb, 0, none⟩), .string key, .int .i64 s, .int .i64 x0] w (PutRPost w fr rb n m (putE n m key s (.int .i64 x0) es)) := by
  obtain ⟨R, hR⟩ : ∃ R, putE n m key s (.int .i64 x0) es = R := ⟨_, rfl⟩
  have e0 : putE n m key s (.int .i64 x0) es = evE n m (delE key es ++ [⟨key, max 0 s, .int .i64 x0⟩]) := by unfold putE; rw [if_neg hs]
  rw [hR] at e0 ⊢
  have hno := del_no key es
  have hes1 : EsOk (delE key es) := hes.sub List.filter_sublist
  have hl1 : (delE key es).length ≤ es.length := (List.filter_sublist (p := fun e => !keyIs key e)).length_le
  have k1 := dropR_any h hes key
  generalize hasE key es = was at *
  generalize delE key es = zs at *
  have K1 := Lib.hid k1
  have HR := Lib.hid e0
  have HNO := Lib.hid hno
  have HES1 := Lib.hid hes1
  have hl2 : zs.length ≤ 4096 := by omega
  clear k1 h e0 hno hes1 hR hl1 hes hln
  obtain ⟨z, hz0⟩ : ∃ z, z = max 0 s := ⟨_, rfl⟩
  have hzb : 0 ≤ z ∧ z ≤ m := by omega
  have HZ0 := Lib.hid hz0
  have hzi : (s < 0 → z = 0) ∧ (¬ s < 0 → z = s) := ⟨fun h => by omega, fun h => by omega⟩
  clear hz0
  by_cases hneg : s < 0
  · have hz1 : z = 0 := hzi.1 hneg
    subst hz1
    clear hzi
    have hs0 : decide (s < 0) = true := by simpa using hneg
    go_enter Try.func31, Try.ntmps31
    go_wp2_with fail
    (with_reducible refine K1.out.mono ?_)
    rintro e w1 ⟨rfl, fr1, hb1, ht1, hf1⟩
    obtain ⟨A, cap, hr, hnf, hlt, c0, c1, c2, f2⟩ := hb1.cells
    have t1 : decide (0 > m) = false := by simp; omega
    have hal := (Below.refl w1.heap.size w1).alloc (Nat.le_refl _) (.cells #[.string key, .int .i64 0, .int .i64 x0] 60 (0, 0))
    have hrA := hr.of hal.size (fun b hb => hal.block b (hr.low b hb))
    have hnn : zs.length ≤ 100000 := by omega
    have hcc : ∀ j u, (oneV ⟨key, 0, .int .i64 x0⟩)[j]? = some u → (w1.alloc (.cells #[.string key, .int .i64 0, .int .i64 x0] 60 (0, 0))).cell? ((⟨w1.heap.size, 0, none⟩ : Addr).add j) = some u := by
      intro j u hu
      rw [Addr.add_lit, Nat.zero_add, World.cell?_alloc_mark]
      simpa [oneV] using hu
    have HC := Lib.hid (And.intro hcc (And.intro hrA hb1))
    clear hcc hrA hb1 hr
    go_wp2_with (at_builtin; refine app_ones HC.out.2.1 ⟨key, 0, .int .i64 x0⟩ rfl hnn HC.out.1 rfl _ _ rfl rfl rfl ?_)
    intro A' cap' w3 fr3 hr3 ht3 hf3
    have hb1 := HC.out.2.2
    have hlt1 : rb < (w1.alloc (.cells #[.string key, .int .i64 0, .int .i64 x0] 60 (0, 0))).heap.size := Nat.lt_of_lt_of_le hlt hal.size
    obtain ⟨blk, hblk⟩ := hb1.blk
    have hblk3 := ((ht3.2.2.2.2 rb hlt1 hnf).trans (hal.block rb hlt)).trans hblk
    have c23 : w3.cell? ⟨rb, 2, none⟩ = some blk := by simp [World.cell?, hblk3]
    have f23 : w3.frozen? ⟨rb, 2, none⟩ = false := by simp [World.frozen?, hblk3]
    have hnf3 : rb ∉ fr3 := fun hx => by
      rcases hf3 rb hx with h' | h'
      · exact hnf h'
      · omega
    have htA : Touch (rb :: fr1) w1 w3 := ((Touch.refl (rb :: fr1) w1).alloc _).trans (ht3.mono (fp' := rb :: fr1) (fun b hb => Or.inl (List.mem_cons_of_mem _ hb))) (fun b hb => Or.inl hb)
    obtain ⟨fr4, hb4, ht4, hf4⟩ := BR.store (fr := fr1) hblk3 hr3 hnf3 htA (fun b hb => by
      rcases hf3 b hb with h' | h'
      · exact Or.inl h'
      · exact Or.inr (by omega)) 0
    have hl4 : (zs ++ [(⟨key, 0, .int .i64 x0⟩ : Ent)]).length = zs.length + 1 := by simp
    rw [hl4] at hb4 ht4
    have hes4 := HES1.out.put hl2 key 0 x0 (by omega) HNO.out
    have hR4 : evE n m (zs ++ [⟨key, 0, .int .i64 x0⟩]) = R := by rw [HR.out, ← HZ0.out]
    have HR4 := Lib.hid hR4
    have HES4 := Lib.hid hes4
    have hl5 : (zs ++ [(⟨key, 0, .int .i64 x0⟩ : Ent)]).length ≤ 4097 := by rw [hl4]; omega
    have hst1 : Touch (rb :: fr) w w1 := ht1
    have hff : ∀ b ∈ fr4, b ∈ fr ∨ w.heap.size ≤ b := fun b hb => by
      rcases hf4 b hb with h' | h'
      · exact hf1 b h'
      · exact Or.inr (Nat.le_trans ht1.2.2.2.1 h')
    have htt : Touch (rb :: fr) w ((w3.setCell ⟨rb, 2, none⟩ (.slice A' (zs.length + 1) cap')).drewN 0) := hst1.trans ht4 (fun b hb => by
      rcases List.mem_cons.1 hb with rfl | hb
      · exact Or.inl List.mem_cons_self
      · rcases hf1 b hb with h' | h'
        · exact Or.inl (List.mem_cons_of_mem _ h')
        · exact Or.inr h')
    obtain ⟨w4, hw4⟩ : ∃ w4, w3.setCell ⟨rb, 2, none⟩ (.slice A' (zs.length + 1) cap') = w4 := ⟨_, rfl⟩
    rw [hw4] at hb4 htt
    have hb4' : BR w4 fr4 rb n m (zs ++ [⟨key, 0, .int .i64 x0⟩]) := hb4
    have htt' : Touch (rb :: fr) w w4 := htt
    have HW4 := Lib.hid hw4
    have HB4 := Lib.hid hb4'
    have HT4 := Lib.hid htt'
    have HF4 := Lib.hid hff
    have HL4 := Lib.hid hb4'.low
    have hs4 : w.heap.size ≤ w4.heap.size := htt'.2.2.2.1
    clear hb1 ht1 hf1 hr3 ht3 hf3 HC hnn hlt1 hblk hblk3 hnf3 htA hb4 ht4 hf4 hl4 hes4 hR4 hst1 hff htt hb4' htt' hw4 hal HNO HES1 HR K1
    generalize zs ++ [(⟨key, 0, .int .i64 x0⟩ : Ent)] = zs4 at *
    go_wp2_with fail
    rw [HW4.out]
    have HE0 := Lib.hid (BR.low HB4.out)
    clear c0 c1 c2 f2 c23 f23
    go_loopw [10] (fun g wr => ∃ (ks : List ByteArray) (zz : List Ent), Hid (R = (ks ++ (evE n m zz).1, (evE n m zz).2)) ∧ zz.Sublist zs4 ∧ Hid (BR wr fr4 rb n m zz) ∧ OwnS w4.heap.size g (strs ks) wr ∧ Hid (Touch (rb :: fr4) w4 wr) ∧ ks.length + zz.length ≤ 4097) (fun g _ => 5000 - rowLen g)
    case atStart => exact ⟨[], zs4, Lib.hid (by rw [HR4.out]; rfl), List.Sublist.refl _, HB4, OwnS.nil _ _, Lib.hid (Touch.refl _ _), by rw [List.length_nil]; omega⟩
    case round =>
      obtain ⟨ks, zz, HRR, hzs, HZ, hO, HTT, hlen⟩ := hrel
      obtain ⟨oa, oc, rfl⟩ := hO.shape
      obtain ⟨A, cap, hrr, hnfr, hltr, c0, c1, c2, f2⟩ := HZ.out.cells
      have HEZ := Lib.hid (HES4.out.sub hzs)
      by_cases hov : n < (zz.length : Int)
      · have t0 : decide (n < (zz.length : Int)) = true := by simpa using hov
        have t2 : decide ((zz.length : Int) > n) = true := by simpa using hov
        have HOV : overE n m zz = true := by unfold overE; rw [t0]; rfl
        go_wp2
        go_region
        obtain ⟨e, tt, rfl⟩ : ∃ e tt, zz = e :: tt := by
          cases zz with
          | nil => exfalso; simp at hov; omega
          | cons e tt => exact ⟨e, tt, rfl⟩
        have hev : R = ((ks ++ [e.key]) ++ (evE n m tt).1, (evE n m tt).2) := by
          rw [HRR.out, evE, if_pos HOV]
          simp
        have HEV := Lib.hid hev
        have hB1 := HZ.out.below (w' := wr.drewN 1) ⟨rfl, rfl, rfl, Nat.le_refl _, fun _ _ => rfl⟩
        have hO1 : OwnS w4.heap.size (.slice oa (strs ks).length oc) (strs ks) (wr.drewN 1) := hO
        have hT1 : Touch (rb :: fr4) w4 (wr.drewN 1) := HTT.out
        have hszr := hT1.2.2.2.1
        show Exit.then _ _ _ _ (wr.drewN 1)
        clear hev c0 c1 c2 hO HTT HRR HZ hrr
        generalize wr.drewN 1 = wd at *
        obtain ⟨A, cap, hrr, hnfr, hltr, c0, c1, c2, f2⟩ := hB1.cells
        obtain ⟨blk, hblk⟩ := hB1.blk
        obtain ⟨g, o, cap2, c2b, hcap2, d0, d1, d2⟩ := BR.at (p := []) hB1
        have hll : (e :: tt).length = tt.length + 1 := rfl
        rw [c2] at c2b
        obtain ⟨rfl, rfl⟩ : A = some ⟨g, o, none⟩ ∧ cap = cap2 := by
          injection c2b with h; injection h with h1 h2 h3; exact ⟨h1, h3⟩
        obtain ⟨ek, es', ex⟩ := e
        obtain ⟨yy, rfl⟩ : ∃ yy : List UInt8, ek = ⟨yy.toArray⟩ := ⟨ek.data.toList, (str_back ek).symm⟩
        have hle := hrr.le
        rw [hll] at hle
        have htail := hrr.tail
        have hgl := hrr.low
        rw [List.length_cons] at c2
        have d0' : wd.cell? ⟨g, o, none⟩ = some (.string ⟨yy.toArray⟩) := by simpa using d0
        have hkl : (strs ks).length ≤ 1000000000 := by unfold strs; rw [List.length_map]; omega
        have hkt : ks.length + (tt.length + 1) ≤ 4097 := by rw [List.length_cons] at hlen; exact hlen
        have HR2 := Lib.hid (And.intro hB1 (And.intro htail (And.intro hgl (And.intro hblk hnfr))))
        clear hB1 htail hgl c2b d0 d1 d2 hlen hrr hll hblk hnfr
        generalize hQ : tt.length = Q at c2 hle hkt
        have HQL := Lib.hid hQ
        clear hQ
        go_wp2_with (at_builtin; refine app_str w4.heap.size yy hO1 hszr hkl rfl _ _ rfl rfl rfl ?_)
        intro v' w6 hO6 hb6 hfar
        obtain ⟨oa6, oc6, rfl⟩ := hO6.shape
        have hrbl : rb < w4.heap.size := HL4.out rb List.mem_cons_self
        have c2' : w6.cell? ⟨rb, 2, none⟩ = some (.slice (some ⟨g, o, none⟩) (Q + 1) cap) := (World.cell?_of_block (a := ⟨rb, 2, none⟩) (hb6.block rb hrbl)).trans c2
        have f2' : w6.frozen? ⟨rb, 2, none⟩ = false := by rw [frozen_heap (hb6.block rb hrbl)]; exact f2
        have hst : strs (ks ++ [⟨yy.toArray⟩]) = strs ks ++ [yy] := by unfold strs; simp
        have HT6 := Lib.hid (And.intro hT1 hb6)
        have HST := Lib.hid hst
        clear hT1 hb6 c0 c1 c2 f2 d0' hst
        by_cases hc1 : cap = 1
        · subst hc1
          obtain rfl : Q = 0 := by omega
          have i2 : 1 ≤ 0 + 1 := by omega
          go_wp2
          go_roundw
          case rel =>
            have hblk6 := (HT6.out.2.block rb hrbl).trans HR2.out.2.2.2.1
            have htl := HR2.out.2.1
            rw [if_pos rfl] at htl
            have htl6 : Row1 w6 fr4 tt (some ⟨g, o, none⟩) 0 := htl.of HT6.out.2.size (fun b hb => HT6.out.2.block b (HL4.out b (List.mem_cons_of_mem _ hb)))
            have hnf : rb ∉ fr4 := HR2.out.2.2.2.2
            have ht6 : Touch (rb :: fr4) w4 w6 := HT6.out.1.belowR HT6.out.2
            obtain ⟨fr5, hst5, ht5, hf5⟩ := BR.store (w := w4) (fr := fr4) hblk6 htl6 hnf ht6 (fun b hb => Or.inl hb) 0
            have hown6 : OwnS w4.heap.size (.slice oa6 (strs ks ++ [yy]).length oc6) (strs ks ++ [yy]) (w6.setCell ⟨rb, 2, none⟩ (.slice (some ⟨g, o, none⟩) tt.length 0)) := hO6.touch (fp := [rb]) ((Touch.refl [rb] w6).setCell rb 2 _ (by simp)) (fun b hb => by rw [List.mem_singleton.1 hb]; exact Or.inl hrbl)
            rw [HQL.out] at hown6 ht5
            refine ⟨ks ++ [⟨yy.toArray⟩], tt, HEV, (List.sublist_cons_self _ _).trans hzs, ?_, by rw [HST.out]; exact hown6, Lib.hid ht5, by rw [List.length_append, List.length_singleton, HQL.out]; omega⟩
            refine Lib.hid ?_
            have hB6 : BR ((w6.setCell ⟨rb, 2, none⟩ (.slice (some ⟨g, o, none⟩) tt.length 0)).drewN 0) fr4 rb n m tt := by
              refine ⟨(some ⟨g, o, none⟩), 0, ?_, htl6.of (by rw [World.heap_drewN]; simp) (fun b hb => ?_), hnf⟩
              · rw [World.heap_drewN]
                simp [World.setCell, Array.getElem?_modify, hblk6]
              · rw [World.heap_drewN, heap_set_ne _ _ _ _ _ (fun x => hnf (by rw [← x]; exact hb))]
            rw [HQL.out] at hB6
            exact hB6
          case measure =>
            simp only [rowLen]
            rw [List.length_append, List.length_singleton]
            have : (strs ks).length = ks.length := by unfold strs; rw [List.length_map]
            omega
        · have i2 : 1 ≤ Q + 1 := by omega
          go_wp2
          go_roundw
          case rel =>
            have hblk6 := (HT6.out.2.block rb hrbl).trans HR2.out.2.2.2.1
            have htl := HR2.out.2.1
            rw [if_neg hc1] at htl
            have htl6 : Row1 w6 fr4 tt (some ⟨g, o + 3, none⟩) (cap - 1) := htl.of HT6.out.2.size (fun b hb => HT6.out.2.block b (HL4.out b (List.mem_cons_of_mem _ hb)))
            have hnf : rb ∉ fr4 := HR2.out.2.2.2.2
            have ht6 : Touch (rb :: fr4) w4 w6 := HT6.out.1.belowR HT6.out.2
            obtain ⟨fr5, hst5, ht5, hf5⟩ := BR.store (w := w4) (fr := fr4) hblk6 htl6 hnf ht6 (fun b hb => Or.inl hb) 0
            have hown6 : OwnS w4.heap.size (.slice oa6 (strs ks ++ [yy]).length oc6) (strs ks ++ [yy]) (w6.setCell ⟨rb, 2, none⟩ (.slice (some ⟨g, o + 3, none⟩) tt.length (cap - 1))) := hO6.touch (fp := [rb]) ((Touch.refl [rb] w6).setCell rb 2 _ (by simp)) (fun b hb => by rw [List.mem_singleton.1 hb]; exact Or.inl hrbl)
            rw [HQL.out] at hown6 ht5
            refine ⟨ks ++ [⟨yy.toArray⟩], tt, HEV, (List.sublist_cons_self _ _).trans hzs, ?_, by rw [HST.out]; exact hown6, Lib.hid ht5, by rw [List.length_append, List.length_singleton, HQL.out]; omega⟩
            refine Lib.hid ?_
            have hB6 : BR ((w6.setCell ⟨rb, 2, none⟩ (.slice (some ⟨g, o + 3, none⟩) tt.length (cap - 1))).drewN 0) fr4 rb n m tt := by
              refine ⟨(some ⟨g, o + 3, none⟩), (cap - 1), ?_, htl6.of (by rw [World.heap_drewN]; simp) (fun b hb => ?_), hnf⟩
              · rw [World.heap_drewN]
                simp [World.setCell, Array.getElem?_modify, hblk6]
              · rw [World.heap_drewN, heap_set_ne _ _ _ _ _ (fun x => hnf (by rw [← x]; exact hb))]
            rw [HQL.out] at hB6
            exact hB6
          case measure =>
            simp only [rowLen]
            rw [List.length_append, List.length_singleton]
            have : (strs ks).length = ks.length := by unfold strs; rw [List.length_map]
            omega
      · have t2 : decide ((zz.length : Int) > n) = false := by simpa using hov
        by_cases hov2 : m < sumE zz
        · have t0 : decide (m < sumE zz) = true := by simpa using hov2
          have t3 : decide (sumE zz > m) = true := by simpa using hov2
          have HOV : overE n m zz = true := by unfold overE; rw [t0, Bool.or_true]
          go_wp2
          refine wp_region_held_drew (S := (fun w' => w'.cell? ⟨rb, 0, none⟩ = some (.int .i64 n) ∧ w'.cell? ⟨rb, 1, none⟩ = some (.int .i64 m) ∧ w'.cell? ⟨rb, 2, none⟩ = some (.slice A zz.length cap) ∧ BR w' fr4 rb n m zz ∧ w' = wr.drewN 1)) (by kernel_rfl) (⟨c0, c1, c2, HZ.out.below ⟨rfl, rfl, rfl, Nat.le_refl _, fun _ _ => rfl⟩, rfl⟩) (fun hHeld => ?_)
          refine wpAnyH_take (i := 0) (v := ?_) (by simp only [List.getElem?_toArray, List.getElem?_cons_zero]; exact rfl) (by kernel_rfl) (by kernel_rfl) (by kernel_rfl) (by intro _ _ _ h; exact h) (Or.inl ⟨by rfl, fun W hSw => ?_⟩) hHeld ?_
          rotate_left
          focus ((try dsimp only at hSw); first | (go_simp; done) | (go_simp; with_reducible rfl))
          try simp only [Act.put, List.setIfInBounds_toArray, List.set_cons_zero, List.set_cons_succ]
          refine wpAnyH_take (i := 1) (v := ?_) (by simp only [List.getElem?_toArray, List.getElem?_cons_succ, List.getElem?_cons_zero]; exact rfl) (by kernel_rfl) (by kernel_rfl) (by kernel_rfl) (by intro _ _ _ h; exact h) (Or.inl ⟨by rfl, fun W hSw => ?_⟩) hHeld ?_
          rotate_left
          focus ((try dsimp only at hSw); first | (go_simp; done) | (go_simp; with_reducible rfl))
          try simp only [Act.put, List.setIfInBounds_toArray, List.set_cons_zero, List.set_cons_succ]
          refine wpAnyH_take (i := 2) (v := ?_) (by simp only [List.getElem?_toArray, List.getElem?_cons_succ, List.getElem?_cons_zero]; exact rfl) (by kernel_rfl) (by kernel_rfl) (by kernel_rfl) (by intro _ _ _ h; exact h) (Or.inl ⟨by rfl, fun W hSw => ?_⟩) hHeld ?_
          rotate_left
          focus ((try dsimp only at hSw); first | (go_simp; done) | (go_simp; with_reducible rfl))
          try simp only [Act.put, List.setIfInBounds_toArray, List.set_cons_zero, List.set_cons_succ]
          refine wpAnyH_take (i := 3) (v := ?_) (by simp only [List.getElem?_toArray, List.getElem?_cons_succ, List.getElem?_cons_zero]; exact rfl) (by kernel_rfl) (by kernel_rfl) (by kernel_rfl) (by intro _ _ _ h; exact h) (Or.inl ⟨by rfl, fun W hSw => ?_⟩) hHeld ?_
          rotate_left
          focus ((try dsimp only at hSw); first | (go_simp; done) | (go_simp; with_reducible rfl))
          try simp only [Act.put, List.setIfInBounds_toArray, List.set_cons_zero, List.set_cons_succ]
          refine wpAnyH_take (i := 4) (v := ?_) (by simp only [List.getElem?_toArray, List.getElem?_cons_succ, List.getElem?_cons_zero]; exact rfl) (by kernel_rfl) (by kernel_rfl) (by kernel_rfl) (by intro _ _ _ h; exact h) (Or.inl ⟨by rfl, fun W hSw => ?_⟩) hHeld ?_
          rotate_left
          focus ((try dsimp only at hSw); first | (go_simp; done) | (go_simp; with_reducible rfl))
          try simp only [Act.put, List.setIfInBounds_toArray, List.set_cons_zero, List.set_cons_succ]
          refine wpAnyH_take (i := 5) (v := ?_) (by simp only [List.getElem?_toArray, List.getElem?_cons_succ, List.getElem?_cons_zero]; exact rfl) (by kernel_rfl) (by kernel_rfl) (by kernel_rfl) (by intro _ _ _ h; exact h) (Or.inl ⟨by rfl, fun W hSw => ?_⟩) hHeld ?_
          rotate_left
          focus ((try dsimp only at hSw); first | (go_simp; done) | (go_simp; with_reducible rfl))
          try simp only [Act.put, List.setIfInBounds_toArray, List.set_cons_zero, List.set_cons_succ]
          refine wpAnyH_take (i := 6) (v := ?_) (by simp only [List.getElem?_toArray, List.getElem?_cons_succ, List.getElem?_cons_zero]; exact rfl) (by kernel_rfl) (by kernel_rfl) (by kernel_rfl) (by intro _ _ _ h; exact h) (Or.inl ⟨by rfl, fun W hSw => ?_⟩) hHeld ?_
          rotate_left
          focus ((try dsimp only at hSw); first | (go_simp; done) | (go_simp; with_reducible rfl))
          try simp only [Act.put, List.setIfInBounds_toArray, List.set_cons_zero, List.set_cons_succ]
          refine wpAnyH_take (i := 7) (v := ?_) (by simp only [List.getElem?_toArray, List.getElem?_cons_succ, List.getElem?_cons_zero]; exact rfl) (by kernel_rfl) (by kernel_rfl) (by kernel_rfl) (by intro _ _ _ h; exact h) (Or.inl ⟨by rfl, fun W hSw => ?_⟩) hHeld ?_
          rotate_left
          focus ((try dsimp only at hSw); first | (go_simp; done) | (go_simp; with_reducible rfl))
          try simp only [Act.put, List.setIfInBounds_toArray, List.set_cons_zero, List.set_cons_succ]
          refine wpAnyH_take (i := 8) (v := ?_) (by simp only [List.getElem?_toArray, List.getElem?_cons_succ, List.getElem?_cons_zero]; exact rfl) (by kernel_rfl) (by kernel_rfl) (by kernel_rfl) (by intro _ _ _ h; exact h) (Or.inl ⟨by rfl, fun W hSw => ?_⟩) hHeld ?_
          rotate_left
          focus ((try dsimp only at hSw); first | (go_simp; done) | (go_simp; with_reducible rfl))
          try simp only [Act.put, List.setIfInBounds_toArray, List.set_cons_zero, List.set_cons_succ]
          refine wpAnyH_take (i := 9) (v := ?_) (by simp only [List.getElem?_toArray, List.getElem?_cons_succ, List.getElem?_cons_zero]; exact rfl) (by kernel_rfl) (by kernel_rfl) (by kernel_rfl) (by intro _ _ _ h; exact h) (Or.inl ⟨by rfl, fun W hSw => ?_⟩) hHeld ?_
          rotate_left
          focus ((try dsimp only at hSw); first | (go_simp; done) | (go_simp; with_reducible rfl))
          try simp only [Act.put, List.setIfInBounds_toArray, List.set_cons_zero, List.set_cons_succ]
          refine wpAnyH_take (i := 10) (v := ?_) (by simp only [List.getElem?_toArray, List.getElem?_cons_succ, List.getElem?_cons_zero]; exact rfl) (by kernel_rfl) (by kernel_rfl) (by kernel_rfl) (by intro _ _ _ h; exact h) (Or.inl ⟨by rfl, fun W hSw => ?_⟩) hHeld ?_
          rotate_left
          focus ((try dsimp only at hSw); first | (go_simp; done) | (go_simp; with_reducible rfl))
          try simp only [Act.put, List.setIfInBounds_toArray, List.set_cons_zero, List.set_cons_succ]
          refine wpAnyH_take (i := 11) (v := ?_) (by simp only [List.getElem?_toArray, List.getElem?_cons_succ, List.getElem?_cons_zero]; exact rfl) (by kernel_rfl) (by kernel_rfl) (by kernel_rfl) (by intro _ _ _ h; exact h) (Or.inl ⟨by rfl, fun W hSw => ?_⟩) hHeld ?_
          rotate_left
          focus ((try dsimp only at hSw); first | (go_simp; done) | (go_simp; with_reducible rfl))
          try simp only [Act.put, List.setIfInBounds_toArray, List.set_cons_zero, List.set_cons_succ]
          refine wpAnyH_take (i := 13) (v := ?_) (by simp only [List.getElem?_toArray, List.getElem?_cons_succ, List.getElem?_cons_zero]; exact rfl) (by kernel_rfl) (by kernel_rfl) (by kernel_rfl) (by intro _ _ _ h; exact h) (Or.inl ⟨by rfl, fun W hSw => ?_⟩) hHeld ?_
          rotate_left
          focus ((try dsimp only at hSw); first | (go_simp; done) | (go_simp; with_reducible rfl))
          try simp only [Act.put, List.setIfInBounds_toArray, List.set_cons_zero, List.set_cons_succ]
          refine wpAnyH_take (i := 14) (v := ?_) (by simp only [List.getElem?_toArray, List.getElem?_cons_succ, List.getElem?_cons_zero]; exact rfl) (by kernel_rfl) (by kernel_rfl) (by kernel_rfl) (by intro _ _ _ h; exact h) (Or.inl ⟨by rfl, fun W hSw => ?_⟩) hHeld ?_
          rotate_left
          focus ((try dsimp only at hSw); first | (go_simp; done) | (go_simp; with_reducible rfl))
          try simp only [Act.put, List.setIfInBounds_toArray, List.set_cons_zero, List.set_cons_succ]
          refine wpAnyH_take (i := 15) (v := ?_) (by simp only [List.getElem?_toArray, List.getElem?_cons_succ, List.getElem?_cons_zero]; exact rfl) (by kernel_rfl) (by kernel_rfl) (by kernel_rfl) (by intro _ _ _ h; exact h) (Or.inl ⟨by rfl, fun W hSw => ?_⟩) hHeld ?_
          rotate_left
          focus ((try dsimp only at hSw); first | (go_simp; done) | (go_simp; with_reducible rfl))
          try simp only [Act.put, List.setIfInBounds_toArray, List.set_cons_zero, List.set_cons_succ]
          refine wpAnyH_take (i := 16) (v := ?_) (by simp only [List.getElem?_toArray, List.getElem?_cons_succ, List.getElem?_cons_zero]; exact rfl) (by kernel_rfl) (by kernel_rfl) (by kernel_rfl) (by intro _ _ _ h; exact h) (Or.inl ⟨by rfl, fun W hSw => ?_⟩) hHeld ?_
          rotate_left
          focus ((try dsimp only at hSw); first | (go_simp; done) | (go_simp; with_reducible rfl))
          try simp only [Act.put, List.setIfInBounds_toArray, List.set_cons_zero, List.set_cons_succ]
          refine wpAnyH_ready (rs := [12]) (by kernel_rfl) (by simp) (AllReadyH.cons (by simp only [List.getElem?_toArray, List.getElem?_cons_succ, List.getElem?_cons_zero]; exact rfl) (fun K hK => ?_) AllReadyH.nil)
          rw [if_pos (by rfl)]
          go_simp
          refine (bytesR_any hHeld.2.2.2.1 HEZ.out).mono ?_; rintro e w9 ⟨rfl, rfl⟩; go_wp2_with fail
          refine hK.out _ _ (hHeld) (fun hHeld => ?_)
          clear hK K
          try simp only [Act.put, List.setIfInBounds_toArray, List.set_cons_zero, List.set_cons_succ]
          refine wpAnyH_take (i := 17) (v := ?_) (by simp only [List.getElem?_toArray, List.getElem?_cons_succ, List.getElem?_cons_zero]; exact rfl) (by kernel_rfl) (by kernel_rfl) (by kernel_rfl) (by intro _ _ _ h; exact h) (Or.inl ⟨by rfl, fun W hSw => ?_⟩) hHeld ?_
          rotate_left
          focus ((try dsimp only at hSw); first | (go_simp; done) | (go_simp; with_reducible rfl))
          try simp only [Act.put, List.setIfInBounds_toArray, List.set_cons_zero, List.set_cons_succ]
          refine wpAnyH_take (i := 18) (v := ?_) (by simp only [List.getElem?_toArray, List.getElem?_cons_succ, List.getElem?_cons_zero]; exact rfl) (by kernel_rfl) (by kernel_rfl) (by kernel_rfl) (by intro _ _ _ h; exact h) (Or.inl ⟨by rfl, fun W hSw => ?_⟩) hHeld ?_
          rotate_left
          focus ((try dsimp only at hSw); first | (go_simp; done) | (go_simp; with_reducible rfl))
          try simp only [Act.put, List.setIfInBounds_toArray, List.set_cons_zero, List.set_cons_succ]
          refine wpAnyH_done (by kernel_rfl) ?_ _
          clear hHeld
          obtain ⟨e, tt, rfl⟩ : ∃ e tt, zz = e :: tt := by
            cases zz with
            | nil => exfalso; simp [sumE] at hov2; omega
            | cons e tt => exact ⟨e, tt, rfl⟩
          have hev : R = ((ks ++ [e.key]) ++ (evE n m tt).1, (evE n m tt).2) := by
            rw [HRR.out, evE, if_pos HOV]
            simp
          have HEV := Lib.hid hev
          have hB1 := HZ.out.below (w' := wr.drewN 1) ⟨rfl, rfl, rfl, Nat.le_refl _, fun _ _ => rfl⟩
          have hO1 : OwnS w4.heap.size (.slice oa (strs ks).length oc) (strs ks) (wr.drewN 1) := hO
          have hT1 : Touch (rb :: fr4) w4 (wr.drewN 1) := HTT.out
          have hszr := hT1.2.2.2.1
          show Exit.then _ _ _ _ (wr.drewN 1)
          clear hev c0 c1 c2 hO HTT HRR HZ hrr
          generalize wr.drewN 1 = wd at *
          obtain ⟨A, cap, hrr, hnfr, hltr, c0, c1, c2, f2⟩ := hB1.cells
          obtain ⟨blk, hblk⟩ := hB1.blk
          obtain ⟨g, o, cap2, c2b, hcap2, d0, d1, d2⟩ := BR.at (p := []) hB1
          have hll : (e :: tt).length = tt.length + 1 := rfl
          rw [c2] at c2b
          obtain ⟨rfl, rfl⟩ : A = some ⟨g, o, none⟩ ∧ cap = cap2 := by
            injection c2b with h; injection h with h1 h2 h3; exact ⟨h1, h3⟩
          obtain ⟨ek, es', ex⟩ := e
          obtain ⟨yy, rfl⟩ : ∃ yy : List UInt8, ek = ⟨yy.toArray⟩ := ⟨ek.data.toList, (str_back ek).symm⟩
          have hle := hrr.le
          rw [hll] at hle
          have htail := hrr.tail
          have hgl := hrr.low
          rw [List.length_cons] at c2
          have d0' : wd.cell? ⟨g, o, none⟩ = some (.string ⟨yy.toArray⟩) := by simpa using d0
          have hkl : (strs ks).length ≤ 1000000000 := by unfold strs; rw [List.length_map]; omega
          have hkt : ks.length + (tt.length + 1) ≤ 4097 := by rw [List.length_cons] at hlen; exact hlen
          have HR2 := Lib.hid (And.intro hB1 (And.intro htail (And.intro hgl (And.intro hblk hnfr))))
          clear hB1 htail hgl c2b d0 d1 d2 hlen hrr hll hblk hnfr
          generalize hQ : tt.length = Q at c2 hle hkt
          have HQL := Lib.hid hQ
          clear hQ
          go_wp2_with (at_builtin; refine app_str w4.heap.size yy hO1 hszr hkl rfl _ _ rfl rfl rfl ?_)
          intro v' w6 hO6 hb6 hfar
          obtain ⟨oa6, oc6, rfl⟩ := hO6.shape
          have hrbl : rb < w4.heap.size := HL4.out rb List.mem_cons_self
          have c2' : w6.cell? ⟨rb, 2, none⟩ = some (.slice (some ⟨g, o, none⟩) (Q + 1) cap) := (World.cell?_of_block (a := ⟨rb, 2, none⟩) (hb6.block rb hrbl)).trans c2
          have f2' : w6.frozen? ⟨rb, 2, none⟩ = false := by rw [frozen_heap (hb6.block rb hrbl)]; exact f2
          have hst : strs (ks ++ [⟨yy.toArray⟩]) = strs ks ++ [yy] := by unfold strs; simp
          have HT6 := Lib.hid (And.intro hT1 hb6)
          have HST := Lib.hid hst
          clear hT1 hb6 c0 c1 c2 f2 d0' hst
          by_cases hc1 : cap = 1
          · subst hc1
            obtain rfl : Q = 0 := by omega
            have i2 : 1 ≤ 0 + 1 := by omega
            go_wp2
            go_roundw
            case rel =>
              have hblk6 := (HT6.out.2.block rb hrbl).trans HR2.out.2.2.2.1
              have htl := HR2.out.2.1
              rw [if_pos rfl] at htl
              have htl6 : Row1 w6 fr4 tt (some ⟨g, o, none⟩) 0 := htl.of HT6.out.2.size (fun b hb => HT6.out.2.block b (HL4.out b (List.mem_cons_of_mem _ hb)))
              have hnf : rb ∉ fr4 := HR2.out.2.2.2.2
              have ht6 : Touch (rb :: fr4) w4 w6 := HT6.out.1.belowR HT6.out.2
              obtain ⟨fr5, hst5, ht5, hf5⟩ := BR.store (w := w4) (fr := fr4) hblk6 htl6 hnf ht6 (fun b hb => Or.inl hb) 0
              have hown6 : OwnS w4.heap.size (.slice oa6 (strs ks ++ [yy]).length oc6) (strs ks ++ [yy]) (w6.setCell ⟨rb, 2, none⟩ (.slice (some ⟨g, o, none⟩) tt.length 0)) := hO6.touch (fp := [rb]) ((Touch.refl [rb] w6).setCell rb 2 _ (by simp)) (fun b hb => by rw [List.mem_singleton.1 hb]; exact Or.inl hrbl)
              rw [HQL.out] at hown6 ht5
              refine ⟨ks ++ [⟨yy.toArray⟩], tt, HEV, (List.sublist_cons_self _ _).trans hzs, ?_, by rw [HST.out]; exact hown6, Lib.hid ht5, by rw [List.length_append, List.length_singleton, HQL.out]; omega⟩
              refine Lib.hid ?_
              have hB6 : BR ((w6.setCell ⟨rb, 2, none⟩ (.slice (some ⟨g, o, none⟩) tt.length 0)).drewN 0) fr4 rb n m tt := by
                refine ⟨(some ⟨g, o, none⟩), 0, ?_, htl6.of (by rw [World.heap_drewN]; simp) (fun b hb => ?_), hnf⟩
                · rw [World.heap_drewN]
                  simp [World.setCell, Array.getElem?_modify, hblk6]
                · rw [World.heap_drewN, heap_set_ne _ _ _ _ _ (fun x => hnf (by rw [← x]; exact hb))]
              rw [HQL.out] at hB6
              exact hB6
            case measure =>
              simp only [rowLen]
              rw [List.length_append, List.length_singleton]
              have : (strs ks).length = ks.length := by unfold strs; rw [List.length_map]
              omega
          · have i2 : 1 ≤ Q + 1 := by omega
            go_wp2
            go_roundw
            case rel =>
              have hblk6 := (HT6.out.2.block rb hrbl).trans HR2.out.2.2.2.1
              have htl := HR2.out.2.1
              rw [if_neg hc1] at htl
              have htl6 : Row1 w6 fr4 tt (some ⟨g, o + 3, none⟩) (cap - 1) := htl.of HT6.out.2.size (fun b hb => HT6.out.2.block b (HL4.out b (List.mem_cons_of_mem _ hb)))
              have hnf : rb ∉ fr4 := HR2.out.2.2.2.2
              have ht6 : Touch (rb :: fr4) w4 w6 := HT6.out.1.belowR HT6.out.2
              obtain ⟨fr5, hst5, ht5, hf5⟩ := BR.store (w := w4) (fr := fr4) hblk6 htl6 hnf ht6 (fun b hb => Or.inl hb) 0
              have hown6 : OwnS w4.heap.size (.slice oa6 (strs ks ++ [yy]).length oc6) (strs ks ++ [yy]) (w6.setCell ⟨rb, 2, none⟩ (.slice (some ⟨g, o + 3, none⟩) tt.length (cap - 1))) := hO6.touch (fp := [rb]) ((Touch.refl [rb] w6).setCell rb 2 _ (by simp)) (fun b hb => by rw [List.mem_singleton.1 hb]; exact Or.inl hrbl)
              rw [HQL.out] at hown6 ht5
              refine ⟨ks ++ [⟨yy.toArray⟩], tt, HEV, (List.sublist_cons_self _ _).trans hzs, ?_, by rw [HST.out]; exact hown6, Lib.hid ht5, by rw [List.length_append, List.length_singleton, HQL.out]; omega⟩
              refine Lib.hid ?_
              have hB6 : BR ((w6.setCell ⟨rb, 2, none⟩ (.slice (some ⟨g, o + 3, none⟩) tt.length (cap - 1))).drewN 0) fr4 rb n m tt := by
                refine ⟨(some ⟨g, o + 3, none⟩), (cap - 1), ?_, htl6.of (by rw [World.heap_drewN]; simp) (fun b hb => ?_), hnf⟩
                · rw [World.heap_drewN]
                  simp [World.setCell, Array.getElem?_modify, hblk6]
                · rw [World.heap_drewN, heap_set_ne _ _ _ _ _ (fun x => hnf (by rw [← x]; exact hb))]
              rw [HQL.out] at hB6
              exact hB6
            case measure =>
              simp only [rowLen]
              rw [List.length_append, List.length_singleton]
              have : (strs ks).length = ks.length := by unfold strs; rw [List.length_map]
              omega
        · have t3 : decide (sumE zz > m) = false := by simpa using hov2
          go_wp2
          refine wp_region_held_drew (S := (fun w' => w'.cell? ⟨rb, 0, none⟩ = some (.int .i64 n) ∧ w'.cell? ⟨rb, 1, none⟩ = some (.int .i64 m) ∧ w'.cell? ⟨rb, 2, none⟩ = some (.slice A zz.length cap) ∧ BR w' fr4 rb n m zz ∧ w' = wr.drewN 1)) (by kernel_rfl) (⟨c0, c1, c2, HZ.out.below ⟨rfl, rfl, rfl, Nat.le_refl _, fun _ _ => rfl⟩, rfl⟩) (fun hHeld => ?_)
          refine wpAnyH_take (i := 0) (v := ?_) (by simp only [List.getElem?_toArray, List.getElem?_cons_zero]; exact rfl) (by kernel_rfl) (by kernel_rfl) (by kernel_rfl) (by intro _ _ _ h; exact h) (Or.inl ⟨by rfl, fun W hSw => ?_⟩) hHeld ?_
          rotate_left
          focus ((try dsimp only at hSw); first | (go_simp; done) | (go_simp; with_reducible rfl))
          try simp only [Act.put, List.setIfInBounds_toArray, List.set_cons_zero, List.set_cons_succ]
          refine wpAnyH_take (i := 1) (v := ?_) (by simp only [List.getElem?_toArray, List.getElem?_cons_succ, List.getElem?_cons_zero]; exact rfl) (by kernel_rfl) (by kernel_rfl) (by kernel_rfl) (by intro _ _ _ h; exact h) (Or.inl ⟨by rfl, fun W hSw => ?_⟩) hHeld ?_
          rotate_left
          focus ((try dsimp only at hSw); first | (go_simp; done) | (go_simp; with_reducible rfl))
          try simp only [Act.put, List.setIfInBounds_toArray, List.set_cons_zero, List.set_cons_succ]
          refine wpAnyH_take (i := 2) (v := ?_) (by simp only [List.getElem?_toArray, List.getElem?_cons_succ, List.getElem?_cons_zero]; exact rfl) (by kernel_rfl) (by kernel_rfl) (by kernel_rfl) (by intro _ _ _ h; exact h) (Or.inl ⟨by rfl, fun W hSw => ?_⟩) hHeld ?_
          rotate_left
          focus ((try dsimp only at hSw); first | (go_simp; done) | (go_simp; with_reducible rfl))
          try simp only [Act.put, List.setIfInBounds_toArray, List.set_cons_zero, List.set_cons_succ]
          refine wpAnyH_take (i := 3) (v := ?_) (by simp only [List.getElem?_toArray, List.getElem?_cons_succ, List.getElem?_cons_zero]; exact rfl) (by kernel_rfl) (by kernel_rfl) (by kernel_rfl) (by intro _ _ _ h; exact h) (Or.inl ⟨by rfl, fun W hSw => ?_⟩) hHeld ?_
          rotate_left
          focus ((try dsimp only at hSw); first | (go_simp; done) | (go_simp; with_reducible rfl))
          try simp only [Act.put, List.setIfInBounds_toArray, List.set_cons_zero, List.set_cons_succ]
          refine wpAnyH_take (i := 4) (v := ?_) (by simp only [List.getElem?_toArray, List.getElem?_cons_succ, List.getElem?_cons_zero]; exact rfl) (by kernel_rfl) (by kernel_rfl) (by kernel_rfl) (by intro _ _ _ h; exact h) (Or.inl ⟨by rfl, fun W hSw => ?_⟩) hHeld ?_
          rotate_left
          focus ((try dsimp only at hSw); first | (go_simp; done) | (go_simp; with_reducible rfl))
          try simp only [Act.put, List.setIfInBounds_toArray, List.set_cons_zero, List.set_cons_succ]
          refine wpAnyH_take (i := 5) (v := ?_) (by simp only [List.getElem?_toArray, List.getElem?_cons_succ, List.getElem?_cons_zero]; exact rfl) (by kernel_rfl) (by kernel_rfl) (by kernel_rfl) (by intro _ _ _ h; exact h) (Or.inl ⟨by rfl, fun W hSw => ?_⟩) hHeld ?_
          rotate_left
          focus ((try dsimp only at hSw); first | (go_simp; done) | (go_simp; with_reducible rfl))
          try simp only [Act.put, List.setIfInBounds_toArray, List.set_cons_zero, List.set_cons_succ]
          refine wpAnyH_take (i := 6) (v := ?_) (by simp only [List.getElem?_toArray, List.getElem?_cons_succ, List.getElem?_cons_zero]; exact rfl) (by kernel_rfl) (by kernel_rfl) (by kernel_rfl) (by intro _ _ _ h; exact h) (Or.inl ⟨by rfl, fun W hSw => ?_⟩) hHeld ?_
          rotate_left
          focus ((try dsimp only at hSw); first | (go_simp; done) | (go_simp; with_reducible rfl))
          try simp only [Act.put, List.setIfInBounds_toArray, List.set_cons_zero, List.set_cons_succ]
          refine wpAnyH_take (i := 7) (v := ?_) (by simp only [List.getElem?_toArray, List.getElem?_cons_succ, List.getElem?_cons_zero]; exact rfl) (by kernel_rfl) (by kernel_rfl) (by kernel_rfl) (by intro _ _ _ h; exact h) (Or.inl ⟨by rfl, fun W hSw => ?_⟩) hHeld ?_
          rotate_left
          focus ((try dsimp only at hSw); first | (go_simp; done) | (go_simp; with_reducible rfl))
          try simp only [Act.put, List.setIfInBounds_toArray, List.set_cons_zero, List.set_cons_succ]
          refine wpAnyH_take (i := 8) (v := ?_) (by simp only [List.getElem?_toArray, List.getElem?_cons_succ, List.getElem?_cons_zero]; exact rfl) (by kernel_rfl) (by kernel_rfl) (by kernel_rfl) (by intro _ _ _ h; exact h) (Or.inl ⟨by rfl, fun W hSw => ?_⟩) hHeld ?_
          rotate_left
          focus ((try dsimp only at hSw); first | (go_simp; done) | (go_simp; with_reducible rfl))
          try simp only [Act.put, List.setIfInBounds_toArray, List.set_cons_zero, List.set_cons_succ]
          refine wpAnyH_take (i := 9) (v := ?_) (by simp only [List.getElem?_toArray, List.getElem?_cons_succ, List.getElem?_cons_zero]; exact rfl) (by kernel_rfl) (by kernel_rfl) (by kernel_rfl) (by intro _ _ _ h; exact h) (Or.inl ⟨by rfl, fun W hSw => ?_⟩) hHeld ?_
          rotate_left
          focus ((try dsimp only at hSw); first | (go_simp; done) | (go_simp; with_reducible rfl))
          try simp only [Act.put, List.setIfInBounds_toArray, List.set_cons_zero, List.set_cons_succ]
          refine wpAnyH_take (i := 10) (v := ?_) (by simp only [List.getElem?_toArray, List.getElem?_cons_succ, List.getElem?_cons_zero]; exact rfl) (by kernel_rfl) (by kernel_rfl) (by kernel_rfl) (by intro _ _ _ h; exact h) (Or.inl ⟨by rfl, fun W hSw => ?_⟩) hHeld ?_
          rotate_left
          focus ((try dsimp only at hSw); first | (go_simp; done) | (go_simp; with_reducible rfl))
          try simp only [Act.put, List.setIfInBounds_toArray, List.set_cons_zero, List.set_cons_succ]
          refine wpAnyH_take (i := 11) (v := ?_) (by simp only [List.getElem?_toArray, List.getElem?_cons_succ, List.getElem?_cons_zero]; exact rfl) (by kernel_rfl) (by kernel_rfl) (by kernel_rfl) (by intro _ _ _ h; exact h) (Or.inl ⟨by rfl, fun W hSw => ?_⟩) hHeld ?_
          rotate_left
          focus ((try dsimp only at hSw); first | (go_simp; done) | (go_simp; with_reducible rfl))
          try simp only [Act.put, List.setIfInBounds_toArray, List.set_cons_zero, List.set_cons_succ]
          refine wpAnyH_take (i := 13) (v := ?_) (by simp only [List.getElem?_toArray, List.getElem?_cons_succ, List.getElem?_cons_zero]; exact rfl) (by kernel_rfl) (by kernel_rfl) (by kernel_rfl) (by intro _ _ _ h; exact h) (Or.inl ⟨by rfl, fun W hSw => ?_⟩) hHeld ?_
          rotate_left
          focus ((try dsimp only at hSw); first | (go_simp; done) | (go_simp; with_reducible rfl))
          try simp only [Act.put, List.setIfInBounds_toArray, List.set_cons_zero, List.set_cons_succ]
          refine wpAnyH_take (i := 14) (v := ?_) (by simp only [List.getElem?_toArray, List.getElem?_cons_succ, List.getElem?_cons_zero]; exact rfl) (by kernel_rfl) (by kernel_rfl) (by kernel_rfl) (by intro _ _ _ h; exact h) (Or.inl ⟨by rfl, fun W hSw => ?_⟩) hHeld ?_
          rotate_left
          focus ((try dsimp only at hSw); first | (go_simp; done) | (go_simp; with_reducible rfl))
          try simp only [Act.put, List.setIfInBounds_toArray, List.set_cons_zero, List.set_cons_succ]
          refine wpAnyH_take (i := 15) (v := ?_) (by simp only [List.getElem?_toArray, List.getElem?_cons_succ, List.getElem?_cons_zero]; exact rfl) (by kernel_rfl) (by kernel_rfl) (by kernel_rfl) (by intro _ _ _ h; exact h) (Or.inl ⟨by rfl, fun W hSw => ?_⟩) hHeld ?_
          rotate_left
          focus ((try dsimp only at hSw); first | (go_simp; done) | (go_simp; with_reducible rfl))
          try simp only [Act.put, List.setIfInBounds_toArray, List.set_cons_zero, List.set_cons_succ]
          refine wpAnyH_take (i := 16) (v := ?_) (by simp only [List.getElem?_toArray, List.getElem?_cons_succ, List.getElem?_cons_zero]; exact rfl) (by kernel_rfl) (by kernel_rfl) (by kernel_rfl) (by intro _ _ _ h; exact h) (Or.inl ⟨by rfl, fun W hSw => ?_⟩) hHeld ?_
          rotate_left
          focus ((try dsimp only at hSw); first | (go_simp; done) | (go_simp; with_reducible rfl))
          try simp only [Act.put, List.setIfInBounds_toArray, List.set_cons_zero, List.set_cons_succ]
          refine wpAnyH_ready (rs := [12]) (by kernel_rfl) (by simp) (AllReadyH.cons (by simp only [List.getElem?_toArray, List.getElem?_cons_succ, List.getElem?_cons_zero]; exact rfl) (fun K hK => ?_) AllReadyH.nil)
          rw [if_pos (by rfl)]
          go_simp
          refine (bytesR_any hHeld.2.2.2.1 HEZ.out).mono ?_; rintro e w9 ⟨rfl, rfl⟩; go_wp2_with fail
          refine hK.out _ _ (hHeld) (fun hHeld => ?_)
          clear hK K
          try simp only [Act.put, List.setIfInBounds_toArray, List.set_cons_zero, List.set_cons_succ]
          refine wpAnyH_take (i := 17) (v := ?_) (by simp only [List.getElem?_toArray, List.getElem?_cons_succ, List.getElem?_cons_zero]; exact rfl) (by kernel_rfl) (by kernel_rfl) (by kernel_rfl) (by intro _ _ _ h; exact h) (Or.inl ⟨by rfl, fun W hSw => ?_⟩) hHeld ?_
          rotate_left
          focus ((try dsimp only at hSw); first | (go_simp; done) | (go_simp; with_reducible rfl))
          try simp only [Act.put, List.setIfInBounds_toArray, List.set_cons_zero, List.set_cons_succ]
          refine wpAnyH_take (i := 18) (v := ?_) (by simp only [List.getElem?_toArray, List.getElem?_cons_succ, List.getElem?_cons_zero]; exact rfl) (by kernel_rfl) (by kernel_rfl) (by kernel_rfl) (by intro _ _ _ h; exact h) (Or.inl ⟨by rfl, fun W hSw => ?_⟩) hHeld ?_
          rotate_left
          focus ((try dsimp only at hSw); first | (go_simp; done) | (go_simp; with_reducible rfl))
          try simp only [Act.put, List.setIfInBounds_toArray, List.set_cons_zero, List.set_cons_succ]
          refine wpAnyH_done (by kernel_rfl) ?_ _
          have hov3 : overE n m zz = false := by
            unfold overE
            have z1 : decide (n < (zz.length : Int)) = false := by simpa using hov
            have z2 : decide (m < sumE zz) = false := by simpa using hov2
            rw [z1, z2]; rfl
          have hev : evE n m zz = ([], zz) := by
            cases zz with
            | nil => rfl
            | cons p tt => rw [evE, hov3]; rfl
          have hRe : R = (ks, zz) := by rw [HRR.out, hev, List.append_nil]
          have hkl : (strs ks).length = ks.length := by unfold strs; rw [List.length_map]
          have HRE := Lib.hid (And.intro hRe hkl)
          clear hRe hev hov3 HRR HR4 hkl
          go_wp2
          go_ret
          rw [HRE.out.1]
          have ho2 : OwnS w4.heap.size (.slice oa ks.length oc) (strs ks) wr := by
            have := hO
            rw [HRE.out.2] at this
            exact this
          refine ⟨oa, oc, ?_, ho2.base hs4, fr4, HZ.out.below ⟨rfl, rfl, rfl, Nat.le_refl _, fun _ _ => rfl⟩, ?_, HF4.out⟩
          · show Ending.returned (Value.slice oa (strs ks).length oc) = Ending.returned (Value.slice oa ks.length oc)
            rw [HRE.out.2]
          · have htt : Touch (rb :: fr4) w4 wr := HTT.out
            exact HT4.out.trans htt (fun b hb => by
              rcases List.mem_cons.1 hb with rfl | hb
              · exact Or.inl List.mem_cons_self
              · rcases HF4.out b hb with h' | h'
                · exact Or.inl (List.mem_cons_of_mem _ h')
                · exact Or.inr h')
  · have hz1 : z = s := hzi.2 hneg
    subst hz1
    clear hzi
    have hs0 : decide (z < 0) = false := by simpa using hneg
    go_enter Try.func31, Try.ntmps31
    go_wp2_with fail
    (with_reducible refine K1.out.mono ?_)
    rintro e w1 ⟨rfl, fr1, hb1, ht1, hf1⟩
    obtain ⟨A, cap, hr, hnf, hlt, c0, c1, c2, f2⟩ := hb1.cells
    have t1 : decide (z > m) = false := by simp; omega
    have hal := (Below.refl w1.heap.size w1).alloc (Nat.le_refl _) (.cells #[.string key, .int .i64 z, .int .i64 x0] 60 (0, 0))
    have hrA := hr.of hal.size (fun b hb => hal.block b (hr.low b hb))
    have hnn : zs.length ≤ 100000 := by omega
    have hcc : ∀ j u, (oneV ⟨key, z, .int .i64 x0⟩)[j]? = some u → (w1.alloc (.cells #[.string key, .int .i64 z, .int .i64 x0] 60 (0, 0))).cell? ((⟨w1.heap.size, 0, none⟩ : Addr).add j) = some u := by
      intro j u hu
      rw [Addr.add_lit, Nat.zero_add, World.cell?_alloc_mark]
      simpa [oneV] using hu
    have HC := Lib.hid (And.intro hcc (And.intro hrA hb1))
    clear hcc hrA hb1 hr
    go_wp2_with (at_builtin; refine app_ones HC.out.2.1 ⟨key, z, .int .i64 x0⟩ rfl hnn HC.out.1 rfl _ _ rfl rfl rfl ?_)
    intro A' cap' w3 fr3 hr3 ht3 hf3
    have hb1 := HC.out.2.2
    have hlt1 : rb < (w1.alloc (.cells #[.string key, .int .i64 z, .int .i64 x0] 60 (0, 0))).heap.size := Nat.lt_of_lt_of_le hlt hal.size
    obtain ⟨blk, hblk⟩ := hb1.blk
    have hblk3 := ((ht3.2.2.2.2 rb hlt1 hnf).trans (hal.block rb hlt)).trans hblk
    have c23 : w3.cell? ⟨rb, 2, none⟩ = some blk := by simp [World.cell?, hblk3]
    have f23 : w3.frozen? ⟨rb, 2, none⟩ = false := by simp [World.frozen?, hblk3]
    have hnf3 : rb ∉ fr3 := fun hx => by
      rcases hf3 rb hx with h' | h'
      · exact hnf h'
      · omega
    have htA : Touch (rb :: fr1) w1 w3 := ((Touch.refl (rb :: fr1) w1).alloc _).trans (ht3.mono (fp' := rb :: fr1) (fun b hb => Or.inl (List.mem_cons_of_mem _ hb))) (fun b hb => Or.inl hb)
    obtain ⟨fr4, hb4, ht4, hf4⟩ := BR.store (fr := fr1) hblk3 hr3 hnf3 htA (fun b hb => by
      rcases hf3 b hb with h' | h'
      · exact Or.inl h'
      · exact Or.inr (by omega)) 0
    have hl4 : (zs ++ [(⟨key, z, .int .i64 x0⟩ : Ent)]).length = zs.length + 1 := by simp
    rw [hl4] at hb4 ht4
    have hes4 := HES1.out.put hl2 key z x0 (by omega) HNO.out
    have hR4 : evE n m (zs ++ [⟨key, z, .int .i64 x0⟩]) = R := by rw [HR.out, ← HZ0.out]
    have HR4 := Lib.hid hR4
    have HES4 := Lib.hid hes4
    have hl5 : (zs ++ [(⟨key, z, .int .i64 x0⟩ : Ent)]).length ≤ 4097 := by rw [hl4]; omega
    have hst1 : Touch (rb :: fr) w w1 := ht1
    have hff : ∀ b ∈ fr4, b ∈ fr ∨ w.heap.size ≤ b := fun b hb => by
      rcases hf4 b hb with h' | h'
      · exact hf1 b h'
      · exact Or.inr (Nat.le_trans ht1.2.2.2.1 h')
    have htt : Touch (rb :: fr) w ((w3.setCell ⟨rb, 2, none⟩ (.slice A' (zs.length + 1) cap')).drewN 0) := hst1.trans ht4 (fun b hb => by
      rcases List.mem_cons.1 hb with rfl | hb
      · exact Or.inl List.mem_cons_self
      · rcases hf1 b hb with h' | h'
        · exact Or.inl (List.mem_cons_of_mem _ h')
        · exact Or.inr h')
    obtain ⟨w4, hw4⟩ : ∃ w4, w3.setCell ⟨rb, 2, none⟩ (.slice A' (zs.length + 1) cap') = w4 := ⟨_, rfl⟩
    rw [hw4] at hb4 htt
    have hb4' : BR w4 fr4 rb n m (zs ++ [⟨key, z, .int .i64 x0⟩]) := hb4
    have htt' : Touch (rb :: fr) w w4 := htt
    have HW4 := Lib.hid hw4
    have HB4 := Lib.hid hb4'
    have HT4 := Lib.hid htt'
    have HF4 := Lib.hid hff
    have HL4 := Lib.hid hb4'.low
    have hs4 : w.heap.size ≤ w4.heap.size := htt'.2.2.2.1
    clear hb1 ht1 hf1 hr3 ht3 hf3 HC hnn hlt1 hblk hblk3 hnf3 htA hb4 ht4 hf4 hl4 hes4 hR4 hst1 hff htt hb4' htt' hw4 hal HNO HES1 HR K1
    generalize zs ++ [(⟨key, z, .int .i64 x0⟩ : Ent)] = zs4 at *
    go_wp2_with fail
    rw [HW4.out]
    have HE0 := Lib.hid (BR.low HB4.out)
    clear c0 c1 c2 f2 c23 f23
    go_loopw [10] (fun g wr => ∃ (ks : List ByteArray) (zz : List Ent), Hid (R = (ks ++ (evE n m zz).1, (evE n m zz).2)) ∧ zz.Sublist zs4 ∧ Hid (BR wr fr4 rb n m zz) ∧ OwnS w4.heap.size g (strs ks) wr ∧ Hid (Touch (rb :: fr4) w4 wr) ∧ ks.length + zz.length ≤ 4097) (fun g _ => 5000 - rowLen g)
    case atStart => exact ⟨[], zs4, Lib.hid (by rw [HR4.out]; rfl), List.Sublist.refl _, HB4, OwnS.nil _ _, Lib.hid (Touch.refl _ _), by rw [List.length_nil]; omega⟩
    case round =>
      obtain ⟨ks, zz, HRR, hzs, HZ, hO, HTT, hlen⟩ := hrel
      obtain ⟨oa, oc, rfl⟩ := hO.shape
      obtain ⟨A, cap, hrr, hnfr, hltr, c0, c1, c2, f2⟩ := HZ.out.cells
      have HEZ := Lib.hid (HES4.out.sub hzs)
      by_cases hov : n < (zz.length : Int)
      · have t0 : decide (n < (zz.length : Int)) = true := by simpa using hov
        have t2 : decide ((zz.length : Int) > n) = true := by simpa using hov
        have HOV : overE n m zz = true := by unfold overE; rw [t0]; rfl
        go_wp2
        go_region
        obtain ⟨e, tt, rfl⟩ : ∃ e tt, zz = e :: tt := by
          cases zz with
          | nil => exfalso; simp at hov; omega
          | cons e tt => exact ⟨e, tt, rfl⟩
        have hev : R = ((ks ++ [e.key]) ++ (evE n m tt).1, (evE n m tt).2) := by
          rw [HRR.out, evE, if_pos HOV]
          simp
        have HEV := Lib.hid hev
        have hB1 := HZ.out.below (w' := wr.drewN 1) ⟨rfl, rfl, rfl, Nat.le_refl _, fun _ _ => rfl⟩
        have hO1 : OwnS w4.heap.size (.slice oa (strs ks).length oc) (strs ks) (wr.drewN 1) := hO
        have hT1 : Touch (rb :: fr4) w4 (wr.drewN 1) := HTT.out
        have hszr := hT1.2.2.2.1
        show Exit.then _ _ _ _ (wr.drewN 1)
        clear hev c0 c1 c2 hO HTT HRR HZ hrr
        generalize wr.drewN 1 = wd at *
        obtain ⟨A, cap, hrr, hnfr, hltr, c0, c1, c2, f2⟩ := hB1.cells
        obtain ⟨blk, hblk⟩ := hB1.blk
        obtain ⟨g, o, cap2, c2b, hcap2, d0, d1, d2⟩ := BR.at (p := []) hB1
        have hll : (e :: tt).length = tt.length + 1 := rfl
        rw [c2] at c2b
        obtain ⟨rfl, rfl⟩ : A = some ⟨g, o, none⟩ ∧ cap = cap2 := by
          injection c2b with h; injection h with h1 h2 h3; exact ⟨h1, h3⟩
        obtain ⟨ek, es', ex⟩ := e
        obtain ⟨yy, rfl⟩ : ∃ yy : List UInt8, ek = ⟨yy.toArray⟩ := ⟨ek.data.toList, (str_back ek).symm⟩
        have hle := hrr.le
        rw [hll] at hle
        have htail := hrr.tail
        have hgl := hrr.low
        rw [List.length_cons] at c2
        have d0' : wd.cell? ⟨g, o, none⟩ = some (.string ⟨yy.toArray⟩) := by simpa using d0
        have hkl : (strs ks).length ≤ 1000000000 := by unfold strs; rw [List.length_map]; omega
        have hkt : ks.length + (tt.length + 1) ≤ 4097 := by rw [List.length_cons] at hlen; exact hlen
        have HR2 := Lib.hid (And.intro hB1 (And.intro htail (And.intro hgl (And.intro hblk hnfr))))
        clear hB1 htail hgl c2b d0 d1 d2 hlen hrr hll hblk hnfr
        generalize hQ : tt.length = Q at c2 hle hkt
        have HQL := Lib.hid hQ
        clear hQ
        go_wp2_with (at_builtin; refine app_str w4.heap.size yy hO1 hszr hkl rfl _ _ rfl rfl rfl ?_)
        intro v' w6 hO6 hb6 hfar
        obtain ⟨oa6, oc6, rfl⟩ := hO6.shape
        have hrbl : rb < w4.heap.size := HL4.out rb List.mem_cons_self
        have c2' : w6.cell? ⟨rb, 2, none⟩ = some (.slice (some ⟨g, o, none⟩) (Q + 1) cap) := (World.cell?_of_block (a := ⟨rb, 2, none⟩) (hb6.block rb hrbl)).trans c2
        have f2' : w6.frozen? ⟨rb, 2, none⟩ = false := by rw [frozen_heap (hb6.block rb hrbl)]; exact f2
        have hst : strs (ks ++ [⟨yy.toArray⟩]) = strs ks ++ [yy] := by unfold strs; simp
        have HT6 := Lib.hid (And.intro hT1 hb6)
        have HST := Lib.hid hst
        clear hT1 hb6 c0 c1 c2 f2 d0' hst
        by_cases hc1 : cap = 1
        · subst hc1
          obtain rfl : Q = 0 := by omega
          have i2 : 1 ≤ 0 + 1 := by omega
          go_wp2
          go_roundw
          case rel =>
            have hblk6 := (HT6.out.2.block rb hrbl).trans HR2.out.2.2.2.1
            have htl := HR2.out.2.1
            rw [if_pos rfl] at htl
            have htl6 : Row1 w6 fr4 tt (some ⟨g, o, none⟩) 0 := htl.of HT6.out.2.size (fun b hb => HT6.out.2.block b (HL4.out b (List.mem_cons_of_mem _ hb)))
            have hnf : rb ∉ fr4 := HR2.out.2.2.2.2
            have ht6 : Touch (rb :: fr4) w4 w6 := HT6.out.1.belowR HT6.out.2
            obtain ⟨fr5, hst5, ht5, hf5⟩ := BR.store (w := w4) (fr := fr4) hblk6 htl6 hnf ht6 (fun b hb => Or.inl hb) 0
            have hown6 : OwnS w4.heap.size (.slice oa6 (strs ks ++ [yy]).length oc6) (strs ks ++ [yy]) (w6.setCell ⟨rb, 2, none⟩ (.slice (some ⟨g, o, none⟩) tt.length 0)) := hO6.touch (fp := [rb]) ((Touch.refl [rb] w6).setCell rb 2 _ (by simp)) (fun b hb => by rw [List.mem_singleton.1 hb]; exact Or.inl hrbl)
            rw [HQL.out] at hown6 ht5
            refine ⟨ks ++ [⟨yy.toArray⟩], tt, HEV, (List.sublist_cons_self _ _).trans hzs, ?_, by rw [HST.out]; exact hown6, Lib.hid ht5, by rw [List.length_append, List.length_singleton, HQL.out]; omega⟩
            refine Lib.hid ?_
            have hB6 : BR ((w6.setCell ⟨rb, 2, none⟩ (.slice (some ⟨g, o, none⟩) tt.length 0)).drewN 0) fr4 rb n m tt := by
              refine ⟨(some ⟨g, o, none⟩), 0, ?_, htl6.of (by rw [World.heap_drewN]; simp) (fun b hb => ?_), hnf⟩
              · rw [World.heap_drewN]
                simp [World.setCell, Array.getElem?_modify, hblk6]
              · rw [World.heap_drewN, heap_set_ne _ _ _ _ _ (fun x => hnf (by rw [← x]; exact hb))]
            rw [HQL.out] at hB6
            exact hB6
          case measure =>
            simp only [rowLen]
            rw [List.length_append, List.length_singleton]
            have : (strs ks).length = ks.length := by unfold strs; rw [List.length_map]
            omega
        · have i2 : 1 ≤ Q + 1 := by omega
          go_wp2
          go_roundw
          case rel =>
            have hblk6 := (HT6.out.2.block rb hrbl).trans HR2.out.2.2.2.1
            have htl := HR2.out.2.1
            rw [if_neg hc1] at htl
            have htl6 : Row1 w6 fr4 tt (some ⟨g, o + 3, none⟩) (cap - 1) := htl.of HT6.out.2.size (fun b hb => HT6.out.2.block b (HL4.out b (List.mem_cons_of_mem _ hb)))
            have hnf : rb ∉ fr4 := HR2.out.2.2.2.2
            have ht6 : Touch (rb :: fr4) w4 w6 := HT6.out.1.belowR HT6.out.2
            obtain ⟨fr5, hst5, ht5, hf5⟩ := BR.store (w := w4) (fr := fr4) hblk6 htl6 hnf ht6 (fun b hb => Or.inl hb) 0
            have hown6 : OwnS w4.heap.size (.slice oa6 (strs ks ++ [yy]).length oc6) (strs ks ++ [yy]) (w6.setCell ⟨rb, 2, none⟩ (.slice (some ⟨g, o + 3, none⟩) tt.length (cap - 1))) := hO6.touch (fp := [rb]) ((Touch.refl [rb] w6).setCell rb 2 _ (by simp)) (fun b hb => by rw [List.mem_singleton.1 hb]; exact Or.inl hrbl)
            rw [HQL.out] at hown6 ht5
            refine ⟨ks ++ [⟨yy.toArray⟩], tt, HEV, (List.sublist_cons_self _ _).trans hzs, ?_, by rw [HST.out]; exact hown6, Lib.hid ht5, by rw [List.length_append, List.length_singleton, HQL.out]; omega⟩
            refine Lib.hid ?_
            have hB6 : BR ((w6.setCell ⟨rb, 2, none⟩ (.slice (some ⟨g, o + 3, none⟩) tt.length (cap - 1))).drewN 0) fr4 rb n m tt := by
              refine ⟨(some ⟨g, o + 3, none⟩), (cap - 1), ?_, htl6.of (by rw [World.heap_drewN]; simp) (fun b hb => ?_), hnf⟩
              · rw [World.heap_drewN]
                simp [World.setCell, Array.getElem?_modify, hblk6]
              · rw [World.heap_drewN, heap_set_ne _ _ _ _ _ (fun x => hnf (by rw [← x]; exact hb))]
            rw [HQL.out] at hB6
            exact hB6
          case measure =>
            simp only [rowLen]
            rw [List.length_append, List.length_singleton]
            have : (strs ks).length = ks.length := by unfold strs; rw [List.length_map]
            omega
      · have t2 : decide ((zz.length : Int) > n) = false := by simpa using hov
        by_cases hov2 : m < sumE zz
        · have t0 : decide (m < sumE zz) = true := by simpa using hov2
          have t3 : decide (sumE zz > m) = true := by simpa using hov2
          have HOV : overE n m zz = true := by unfold overE; rw [t0, Bool.or_true]
          go_wp2
          refine wp_region_held_drew (S := (fun w' => w'.cell? ⟨rb, 0, none⟩ = some (.int .i64 n) ∧ w'.cell? ⟨rb, 1, none⟩ = some (.int .i64 m) ∧ w'.cell? ⟨rb, 2, none⟩ = some (.slice A zz.length cap) ∧ BR w' fr4 rb n m zz ∧ w' = wr.drewN 1)) (by kernel_rfl) (⟨c0, c1, c2, HZ.out.below ⟨rfl, rfl, rfl, Nat.le_refl _, fun _ _ => rfl⟩, rfl⟩) (fun hHeld => ?_)
          refine wpAnyH_take (i := 0) (v := ?_) (by simp only [List.getElem?_toArray, List.getElem?_cons_zero]; exact rfl) (by kernel_rfl) (by kernel_rfl) (by kernel_rfl) (by intro _ _ _ h; exact h) (Or.inl ⟨by rfl, fun W hSw => ?_⟩) hHeld ?_
          rotate_left
          focus ((try dsimp only at hSw); first | (go_simp; done) | (go_simp; with_reducible rfl))
          try simp only [Act.put, List.setIfInBounds_toArray, List.set_cons_zero, List.set_cons_succ]
          refine wpAnyH_take (i := 1) (v := ?_) (by simp only [List.getElem?_toArray, List.getElem?_cons_succ, List.getElem?_cons_zero]; exact rfl) (by kernel_rfl) (by kernel_rfl) (by kernel_rfl) (by intro _ _ _ h; exact h) (Or.inl ⟨by rfl, fun W hSw => ?_⟩) hHeld ?_
          rotate_left
          focus ((try dsimp only at hSw); first | (go_simp; done) | (go_simp; with_reducible rfl))
          try simp only [Act.put, List.setIfInBounds_toArray, List.set_cons_zero, List.set_cons_succ]
          refine wpAnyH_take (i := 2) (v := ?_) (by simp only [List.getElem?_toArray, List.getElem?_cons_succ, List.getElem?_cons_zero]; exact rfl) (by kernel_rfl) (by kernel_rfl) (by kernel_rfl) (by intro _ _ _ h; exact h) (Or.inl ⟨by rfl, fun W hSw => ?_⟩) hHeld ?_
          rotate_left
          focus ((try dsimp only at hSw); first | (go_simp; done) | (go_simp; with_reducible rfl))
          try simp only [Act.put, List.setIfInBounds_toArray, List.set_cons_zero, List.set_cons_succ]
          refine wpAnyH_take (i := 3) (v := ?_) (by simp only [List.getElem?_toArray, List.getElem?_cons_succ, List.getElem?_cons_zero]; exact rfl) (by kernel_rfl) (by kernel_rfl) (by kernel_rfl) (by intro _ _ _ h; exact h) (Or.inl ⟨by rfl, fun W hSw => ?_⟩) hHeld ?_
          rotate_left
          focus ((try dsimp only at hSw); first | (go_simp; done) | (go_simp; with_reducible rfl))
          try simp only [Act.put, List.setIfInBounds_toArray, List.set_cons_zero, List.set_cons_succ]
          refine wpAnyH_take (i := 4) (v := ?_) (by simp only [List.getElem?_toArray, List.getElem?_cons_succ, List.getElem?_cons_zero]; exact rfl) (by kernel_rfl) (by kernel_rfl) (by kernel_rfl) (by intro _ _ _ h; exact h) (Or.inl ⟨by rfl, fun W hSw => ?_⟩) hHeld ?_
          rotate_left
          focus ((try dsimp only at hSw); first | (go_simp; done) | (go_simp; with_reducible rfl))
          try simp only [Act.put, List.setIfInBounds_toArray, List.set_cons_zero, List.set_cons_succ]
          refine wpAnyH_take (i := 5) (v := ?_) (by simp only [List.getElem?_toArray, List.getElem?_cons_succ, List.getElem?_cons_zero]; exact rfl) (by kernel_rfl) (by kernel_rfl) (by kernel_rfl) (by intro _ _ _ h; exact h) (Or.inl ⟨by rfl, fun W hSw => ?_⟩) hHeld ?_
          rotate_left
          focus ((try dsimp only at hSw); first | (go_simp; done) | (go_simp; with_reducible rfl))
          try simp only [Act.put, List.setIfInBounds_toArray, List.set_cons_zero, List.set_cons_succ]
          refine wpAnyH_take (i := 6) (v := ?_) (by simp only [List.getElem?_toArray, List.getElem?_cons_succ, List.getElem?_cons_zero]; exact rfl) (by kernel_rfl) (by kernel_rfl) (by kernel_rfl) (by intro _ _ _ h; exact h) (Or.inl ⟨by rfl, fun W hSw => ?_⟩) hHeld ?_
          rotate_left
          focus ((try dsimp only at hSw); first | (go_simp; done) | (go_simp; with_reducible rfl))
          try simp only [Act.put, List.setIfInBounds_toArray, List.set_cons_zero, List.set_cons_succ]
          refine wpAnyH_take (i := 7) (v := ?_) (by simp only [List.getElem?_toArray, List.getElem?_cons_succ, List.getElem?_cons_zero]; exact rfl) (by kernel_rfl) (by kernel_rfl) (by kernel_rfl) (by intro _ _ _ h; exact h) (Or.inl ⟨by rfl, fun W hSw => ?_⟩) hHeld ?_
          rotate_left
          focus ((try dsimp only at hSw); first | (go_simp; done) | (go_simp; with_reducible rfl))
          try simp only [Act.put, List.setIfInBounds_toArray, List.set_cons_zero, List.set_cons_succ]
          refine wpAnyH_take (i := 8) (v := ?_) (by simp only [List.getElem?_toArray, List.getElem?_cons_succ, List.getElem?_cons_zero]; exact rfl) (by kernel_rfl) (by kernel_rfl) (by kernel_rfl) (by intro _ _ _ h; exact h) (Or.inl ⟨by rfl, fun W hSw => ?_⟩) hHeld ?_
          rotate_left
          focus ((try dsimp only at hSw); first | (go_simp; done) | (go_simp; with_reducible rfl))
          try simp only [Act.put, List.setIfInBounds_toArray, List.set_cons_zero, List.set_cons_succ]
          refine wpAnyH_take (i := 9) (v := ?_) (by simp only [List.getElem?_toArray, List.getElem?_cons_succ, List.getElem?_cons_zero]; exact rfl) (by kernel_rfl) (by kernel_rfl) (by kernel_rfl) (by intro _ _ _ h; exact h) (Or.inl ⟨by rfl, fun W hSw => ?_⟩) hHeld ?_
          rotate_left
          focus ((try dsimp only at hSw); first | (go_simp; done) | (go_simp; with_reducible rfl))
          try simp only [Act.put, List.setIfInBounds_toArray, List.set_cons_zero, List.set_cons_succ]
          refine wpAnyH_take (i := 10) (v := ?_) (by simp only [List.getElem?_toArray, List.getElem?_cons_succ, List.getElem?_cons_zero]; exact rfl) (by kernel_rfl) (by kernel_rfl) (by kernel_rfl) (by intro _ _ _ h; exact h) (Or.inl ⟨by rfl, fun W hSw => ?_⟩) hHeld ?_
          rotate_left
          focus ((try dsimp only at hSw); first | (go_simp; done) | (go_simp; with_reducible rfl))
          try simp only [Act.put, List.setIfInBounds_toArray, List.set_cons_zero, List.set_cons_succ]
          refine wpAnyH_take (i := 11) (v := ?_) (by simp only [List.getElem?_toArray, List.getElem?_cons_succ, List.getElem?_cons_zero]; exact rfl) (by kernel_rfl) (by kernel_rfl) (by kernel_rfl) (by intro _ _ _ h; exact h) (Or.inl ⟨by rfl, fun W hSw => ?_⟩) hHeld ?_
          rotate_left
          focus ((try dsimp only at hSw); first | (go_simp; done) | (go_simp; with_reducible rfl))
          try simp only [Act.put, List.setIfInBounds_toArray, List.set_cons_zero, List.set_cons_succ]
          refine wpAnyH_take (i := 13) (v := ?_) (by simp only [List.getElem?_toArray, List.getElem?_cons_succ, List.getElem?_cons_zero]; exact rfl) (by kernel_rfl) (by kernel_rfl) (by kernel_rfl) (by intro _ _ _ h; exact h) (Or.inl ⟨by rfl, fun W hSw => ?_⟩) hHeld ?_
          rotate_left
          focus ((try dsimp only at hSw); first | (go_simp; done) | (go_simp; with_reducible rfl))
          try simp only [Act.put, List.setIfInBounds_toArray, List.set_cons_zero, List.set_cons_succ]
          refine wpAnyH_take (i := 14) (v := ?_) (by simp only [List.getElem?_toArray, List.getElem?_cons_succ, List.getElem?_cons_zero]; exact rfl) (by kernel_rfl) (by kernel_rfl) (by kernel_rfl) (by intro _ _ _ h; exact h) (Or.inl ⟨by rfl, fun W hSw => ?_⟩) hHeld ?_
          rotate_left
          focus ((try dsimp only at hSw); first | (go_simp; done) | (go_simp; with_reducible rfl))
          try simp only [Act.put, List.setIfInBounds_toArray, List.set_cons_zero, List.set_cons_succ]
          refine wpAnyH_take (i := 15) (v := ?_) (by simp only [List.getElem?_toArray, List.getElem?_cons_succ, List.getElem?_cons_zero]; exact rfl) (by kernel_rfl) (by kernel_rfl) (by kernel_rfl) (by intro _ _ _ h; exact h) (Or.inl ⟨by rfl, fun W hSw => ?_⟩) hHeld ?_
          rotate_left
          focus ((try dsimp only at hSw); first | (go_simp; done) | (go_simp; with_reducible rfl))
          try simp only [Act.put, List.setIfInBounds_toArray, List.set_cons_zero, List.set_cons_succ]
          refine wpAnyH_take (i := 16) (v := ?_) (by simp only [List.getElem?_toArray, List.getElem?_cons_succ, List.getElem?_cons_zero]; exact rfl) (by kernel_rfl) (by kernel_rfl) (by kernel_rfl) (by intro _ _ _ h; exact h) (Or.inl ⟨by rfl, fun W hSw => ?_⟩) hHeld ?_
          rotate_left
          focus ((try dsimp only at hSw); first | (go_simp; done) | (go_simp; with_reducible rfl))
          try simp only [Act.put, List.setIfInBounds_toArray, List.set_cons_zero, List.set_cons_succ]
          refine wpAnyH_ready (rs := [12]) (by kernel_rfl) (by simp) (AllReadyH.cons (by simp only [List.getElem?_toArray, List.getElem?_cons_succ, List.getElem?_cons_zero]; exact rfl) (fun K hK => ?_) AllReadyH.nil)
          rw [if_pos (by rfl)]
          go_simp
          refine (bytesR_any hHeld.2.2.2.1 HEZ.out).mono ?_; rintro e w9 ⟨rfl, rfl⟩; go_wp2_with fail
          refine hK.out _ _ (hHeld) (fun hHeld => ?_)
          clear hK K
          try simp only [Act.put, List.setIfInBounds_toArray, List.set_cons_zero, List.set_cons_succ]
          refine wpAnyH_take (i := 17) (v := ?_) (by simp only [List.getElem?_toArray, List.getElem?_cons_succ, List.getElem?_cons_zero]; exact rfl) (by kernel_rfl) (by kernel_rfl) (by kernel_rfl) (by intro _ _ _ h; exact h) (Or.inl ⟨by rfl, fun W hSw => ?_⟩) hHeld ?_
          rotate_left
          focus ((try dsimp only at hSw); first | (go_simp; done) | (go_simp; with_reducible rfl))
          try simp only [Act.put, List.setIfInBounds_toArray, List.set_cons_zero, List.set_cons_succ]
          refine wpAnyH_take (i := 18) (v := ?_) (by simp only [List.getElem?_toArray, List.getElem?_cons_succ, List.getElem?_cons_zero]; exact rfl) (by kernel_rfl) (by kernel_rfl) (by kernel_rfl) (by intro _ _ _ h; exact h) (Or.inl ⟨by rfl, fun W hSw => ?_⟩) hHeld ?_
          rotate_left
          focus ((try dsimp only at hSw); first | (go_simp; done) | (go_simp; with_reducible rfl))
          try simp only [Act.put, List.setIfInBounds_toArray, List.set_cons_zero, List.set_cons_succ]
          refine wpAnyH_done (by kernel_rfl) ?_ _
          clear hHeld
          obtain ⟨e, tt, rfl⟩ : ∃ e tt, zz = e :: tt := by
            cases zz with
            | nil => exfalso; simp [sumE] at hov2; omega
            | cons e tt => exact ⟨e, tt, rfl⟩
          have hev : R = ((ks ++ [e.key]) ++ (evE n m tt).1, (evE n m tt).2) := by
            rw [HRR.out, evE, if_pos HOV]
            simp
          have HEV := Lib.hid hev
          have hB1 := HZ.out.below (w' := wr.drewN 1) ⟨rfl, rfl, rfl, Nat.le_refl _, fun _ _ => rfl⟩
          have hO1 : OwnS w4.heap.size (.slice oa (strs ks).length oc) (strs ks) (wr.drewN 1) := hO
          have hT1 : Touch (rb :: fr4) w4 (wr.drewN 1) := HTT.out
          have hszr := hT1.2.2.2.1
          show Exit.then _ _ _ _ (wr.drewN 1)
          clear hev c0 c1 c2 hO HTT HRR HZ hrr
          generalize wr.drewN 1 = wd at *
          obtain ⟨A, cap, hrr, hnfr, hltr, c0, c1, c2, f2⟩ := hB1.cells
          obtain ⟨blk, hblk⟩ := hB1.blk
          obtain ⟨g, o, cap2, c2b, hcap2, d0, d1, d2⟩ := BR.at (p := []) hB1
          have hll : (e :: tt).length = tt.length + 1 := rfl
          rw [c2] at c2b
          obtain ⟨rfl, rfl⟩ : A = some ⟨g, o, none⟩ ∧ cap = cap2 := by
            injection c2b with h; injection h with h1 h2 h3; exact ⟨h1, h3⟩
          obtain ⟨ek, es', ex⟩ := e
          obtain ⟨yy, rfl⟩ : ∃ yy : List UInt8, ek = ⟨yy.toArray⟩ := ⟨ek.data.toList, (str_back ek).symm⟩
          have hle := hrr.le
          rw [hll] at hle
          have htail := hrr.tail
          have hgl := hrr.low
          rw [List.length_cons] at c2
          have d0' : wd.cell? ⟨g, o, none⟩ = some (.string ⟨yy.toArray⟩) := by simpa using d0
          have hkl : (strs ks).length ≤ 1000000000 := by unfold strs; rw [List.length_map]; omega
          have hkt : ks.length + (tt.length + 1) ≤ 4097 := by rw [List.length_cons] at hlen; exact hlen
          have HR2 := Lib.hid (And.intro hB1 (And.intro htail (And.intro hgl (And.intro hblk hnfr))))
          clear hB1 htail hgl c2b d0 d1 d2 hlen hrr hll hblk hnfr
          generalize hQ : tt.length = Q at c2 hle hkt
          have HQL := Lib.hid hQ
          clear hQ
          go_wp2_with (at_builtin; refine app_str w4.heap.size yy hO1 hszr hkl rfl _ _ rfl rfl rfl ?_)
          intro v' w6 hO6 hb6 hfar
          obtain ⟨oa6, oc6, rfl⟩ := hO6.shape
          have hrbl : rb < w4.heap.size := HL4.out rb List.mem_cons_self
          have c2' : w6.cell? ⟨rb, 2, none⟩ = some (.slice (some ⟨g, o, none⟩) (Q + 1) cap) := (World.cell?_of_block (a := ⟨rb, 2, none⟩) (hb6.block rb hrbl)).trans c2
          have f2' : w6.frozen? ⟨rb, 2, none⟩ = false := by rw [frozen_heap (hb6.block rb hrbl)]; exact f2
          have hst : strs (ks ++ [⟨yy.toArray⟩]) = strs ks ++ [yy] := by unfold strs; simp
          have HT6 := Lib.hid (And.intro hT1 hb6)
          have HST := Lib.hid hst
          clear hT1 hb6 c0 c1 c2 f2 d0' hst
          by_cases hc1 : cap = 1
          · subst hc1
            obtain rfl : Q = 0 := by omega
            have i2 : 1 ≤ 0 + 1 := by omega
            go_wp2
            go_roundw
            case rel =>
              have hblk6 := (HT6.out.2.block rb hrbl).trans HR2.out.2.2.2.1
              have htl := HR2.out.2.1
              rw [if_pos rfl] at htl
              have htl6 : Row1 w6 fr4 tt (some ⟨g, o, none⟩) 0 := htl.of HT6.out.2.size (fun b hb => HT6.out.2.block b (HL4.out b (List.mem_cons_of_mem _ hb)))
              have hnf : rb ∉ fr4 := HR2.out.2.2.2.2
              have ht6 : Touch (rb :: fr4) w4 w6 := HT6.out.1.belowR HT6.out.2
              obtain ⟨fr5, hst5, ht5, hf5⟩ := BR.store (w := w4) (fr := fr4) hblk6 htl6 hnf ht6 (fun b hb => Or.inl hb) 0
              have hown6 : OwnS w4.heap.size (.slice oa6 (strs ks ++ [yy]).length oc6) (strs ks ++ [yy]) (w6.setCell ⟨rb, 2, none⟩ (.slice (some ⟨g, o, none⟩) tt.length 0)) := hO6.touch (fp := [rb]) ((Touch.refl [rb] w6).setCell rb 2 _ (by simp)) (fun b hb => by rw [List.mem_singleton.1 hb]; exact Or.inl hrbl)
              rw [HQL.out] at hown6 ht5
              refine ⟨ks ++ [⟨yy.toArray⟩], tt, HEV, (List.sublist_cons_self _ _).trans hzs, ?_, by rw [HST.out]; exact hown6, Lib.hid ht5, by rw [List.length_append, List.length_singleton, HQL.out]; omega⟩
              refine Lib.hid ?_
              have hB6 : BR ((w6.setCell ⟨rb, 2, none⟩ (.slice (some ⟨g, o, none⟩) tt.length 0)).drewN 0) fr4 rb n m tt := by
                refine ⟨(some ⟨g, o, none⟩), 0, ?_, htl6.of (by rw [World.heap_drewN]; simp) (fun b hb => ?_), hnf⟩
                · rw [World.heap_drewN]
                  simp [World.setCell, Array.getElem?_modify, hblk6]
                · rw [World.heap_drewN, heap_set_ne _ _ _ _ _ (fun x => hnf (by rw [← x]; exact hb))]
              rw [HQL.out] at hB6
              exact hB6
            case measure =>
              simp only [rowLen]
              rw [List.length_append, List.length_singleton]
              have : (strs ks).length = ks.length := by unfold strs; rw [List.length_map]
              omega
          · have i2 : 1 ≤ Q + 1 := by omega
            go_wp2
            go_roundw
            case rel =>
              have hblk6 := (HT6.out.2.block rb hrbl).trans HR2.out.2.2.2.1
              have htl := HR2.out.2.1
              rw [if_neg hc1] at htl
              have htl6 : Row1 w6 fr4 tt (some ⟨g, o + 3, none⟩) (cap - 1) := htl.of HT6.out.2.size (fun b hb => HT6.out.2.block b (HL4.out b (List.mem_cons_of_mem _ hb)))
              have hnf : rb ∉ fr4 := HR2.out.2.2.2.2
              have ht6 : Touch (rb :: fr4) w4 w6 := HT6.out.1.belowR HT6.out.2
              obtain ⟨fr5, hst5, ht5, hf5⟩ := BR.store (w := w4) (fr := fr4) hblk6 htl6 hnf ht6 (fun b hb => Or.inl hb) 0
              have hown6 : OwnS w4.heap.size (.slice oa6 (strs ks ++ [yy]).length oc6) (strs ks ++ [yy]) (w6.setCell ⟨rb, 2, none⟩ (.slice (some ⟨g, o + 3, none⟩) tt.length (cap - 1))) := hO6.touch (fp := [rb]) ((Touch.refl [rb] w6).setCell rb 2 _ (by simp)) (fun b hb => by rw [List.mem_singleton.1 hb]; exact Or.inl hrbl)
              rw [HQL.out] at hown6 ht5
              refine ⟨ks ++ [⟨yy.toArray⟩], tt, HEV, (List.sublist_cons_self _ _).trans hzs, ?_, by rw [HST.out]; exact hown6, Lib.hid ht5, by rw [List.length_append, List.length_singleton, HQL.out]; omega⟩
              refine Lib.hid ?_
              have hB6 : BR ((w6.setCell ⟨rb, 2, none⟩ (.slice (some ⟨g, o + 3, none⟩) tt.length (cap - 1))).drewN 0) fr4 rb n m tt := by
                refine ⟨(some ⟨g, o + 3, none⟩), (cap - 1), ?_, htl6.of (by rw [World.heap_drewN]; simp) (fun b hb => ?_), hnf⟩
                · rw [World.heap_drewN]
                  simp [World.setCell, Array.getElem?_modify, hblk6]
                · rw [World.heap_drewN, heap_set_ne _ _ _ _ _ (fun x => hnf (by rw [← x]; exact hb))]
              rw [HQL.out] at hB6
              exact hB6
            case measure =>
              simp only [rowLen]
              rw [List.length_append, List.length_singleton]
              have : (strs ks).length = ks.length := by unfold strs; rw [List.length_map]
              omega
        · have t3 : decide (sumE zz > m) = false := by simpa using hov2
          go_wp2
          refine wp_region_held_drew (S := (fun w' => w'.cell? ⟨rb, 0, none⟩ = some (.int .i64 n) ∧ w'.cell? ⟨rb, 1, none⟩ = some (.int .i64 m) ∧ w'.cell? ⟨rb, 2, none⟩ = some (.slice A zz.length cap) ∧ BR w' fr4 rb n m zz ∧ w' = wr.drewN 1)) (by kernel_rfl) (⟨c0, c1, c2, HZ.out.below ⟨rfl, rfl, rfl, Nat.le_refl _, fun _ _ => rfl⟩, rfl⟩) (fun hHeld => ?_)
          refine wpAnyH_take (i := 0) (v := ?_) (by simp only [List.getElem?_toArray, List.getElem?_cons_zero]; exact rfl) (by kernel_rfl) (by kernel_rfl) (by kernel_rfl) (by intro _ _ _ h; exact h) (Or.inl ⟨by rfl, fun W hSw => ?_⟩) hHeld ?_
          rotate_left
          focus ((try dsimp only at hSw); first | (go_simp; done) | (go_simp; with_reducible rfl))
          try simp only [Act.put, List.setIfInBounds_toArray, List.set_cons_zero, List.set_cons_succ]
          refine wpAnyH_take (i := 1) (v := ?_) (by simp only [List.getElem?_toArray, List.getElem?_cons_succ, List.getElem?_cons_zero]; exact rfl) (by kernel_rfl) (by kernel_rfl) (by kernel_rfl) (by intro _ _ _ h; exact h) (Or.inl ⟨by rfl, fun W hSw => ?_⟩) hHeld ?_
          rotate_left
          focus ((try dsimp only at hSw); first | (go_simp; done) | (go_simp; with_reducible rfl))
          try simp only [Act.put, List.setIfInBounds_toArray, List.set_cons_zero, List.set_cons_succ]
          refine wpAnyH_take (i := 2) (v := ?_) (by simp only [List.getElem?_toArray, List.getElem?_cons_succ, List.getElem?_cons_zero]; exact rfl) (by kernel_rfl) (by kernel_rfl) (by kernel_rfl) (by intro _ _ _ h; exact h) (Or.inl ⟨by rfl, fun W hSw => ?_⟩) hHeld ?_
          rotate_left
          focus ((try dsimp only at hSw); first | (go_simp; done) | (go_simp; with_reducible rfl))
          try simp only [Act.put, List.setIfInBounds_toArray, List.set_cons_zero, List.set_cons_succ]
          refine wpAnyH_take (i := 3) (v := ?_) (by simp only [List.getElem?_toArray, List.getElem?_cons_succ, List.getElem?_cons_zero]; exact rfl) (by kernel_rfl) (by kernel_rfl) (by kernel_rfl) (by intro _ _ _ h; exact h) (Or.inl ⟨by rfl, fun W hSw => ?_⟩) hHeld ?_
          rotate_left
          focus ((try dsimp only at hSw); first | (go_simp; done) | (go_simp; with_reducible rfl))
          try simp only [Act.put, List.setIfInBounds_toArray, List.set_cons_zero, List.set_cons_succ]
          refine wpAnyH_take (i := 4) (v := ?_) (by simp only [List.getElem?_toArray, List.getElem?_cons_succ, List.getElem?_cons_zero]; exact rfl) (by kernel_rfl) (by kernel_rfl) (by kernel_rfl) (by intro _ _ _ h; exact h) (Or.inl ⟨by rfl, fun W hSw => ?_⟩) hHeld ?_
          rotate_left
          focus ((try dsimp only at hSw); first | (go_simp; done) | (go_simp; with_reducible rfl))
          try simp only [Act.put, List.setIfInBounds_toArray, List.set_cons_zero, List.set_cons_succ]
          refine wpAnyH_take (i := 5) (v := ?_) (by simp only [List.getElem?_toArray, List.getElem?_cons_succ, List.getElem?_cons_zero]; exact rfl) (by kernel_rfl) (by kernel_rfl) (by kernel_rfl) (by intro _ _ _ h; exact h) (Or.inl ⟨by rfl, fun W hSw => ?_⟩) hHeld ?_
          rotate_left
          focus ((try dsimp only at hSw); first | (go_simp; done) | (go_simp; with_reducible rfl))
          try simp only [Act.put, List.setIfInBounds_toArray, List.set_cons_zero, List.set_cons_succ]
          refine wpAnyH_take (i := 6) (v := ?_) (by simp only [List.getElem?_toArray, List.getElem?_cons_succ, List.getElem?_cons_zero]; exact rfl) (by kernel_rfl) (by kernel_rfl) (by kernel_rfl) (by intro _ _ _ h; exact h) (Or.inl ⟨by rfl, fun W hSw => ?_⟩) hHeld ?_
          rotate_left
          focus ((try dsimp only at hSw); first | (go_simp; done) | (go_simp; with_reducible rfl))
          try simp only [Act.put, List.setIfInBounds_toArray, List.set_cons_zero, List.set_cons_succ]
          refine wpAnyH_take (i := 7) (v := ?_) (by simp only [List.getElem?_toArray, List.getElem?_cons_succ, List.getElem?_cons_zero]; exact rfl) (by kernel_rfl) (by kernel_rfl) (by kernel_rfl) (by intro _ _ _ h; exact h) (Or.inl ⟨by rfl, fun W hSw => ?_⟩) hHeld ?_
          rotate_left
          focus ((try dsimp only at hSw); first | (go_simp; done) | (go_simp; with_reducible rfl))
          try simp only [Act.put, List.setIfInBounds_toArray, List.set_cons_zero, List.set_cons_succ]
          refine wpAnyH_take (i := 8) (v := ?_) (by simp only [List.getElem?_toArray, List.getElem?_cons_succ, List.getElem?_cons_zero]; exact rfl) (by kernel_rfl) (by kernel_rfl) (by kernel_rfl) (by intro _ _ _ h; exact h) (Or.inl ⟨by rfl, fun W hSw => ?_⟩) hHeld ?_
          rotate_left
          focus ((try dsimp only at hSw); first | (go_simp; done) | (go_simp; with_reducible rfl))
          try simp only [Act.put, List.setIfInBounds_toArray, List.set_cons_zero, List.set_cons_succ]
          refine wpAnyH_take (i := 9) (v := ?_) (by simp only [List.getElem?_toArray, List.getElem?_cons_succ, List.getElem?_cons_zero]; exact rfl) (by kernel_rfl) (by kernel_rfl) (by kernel_rfl) (by intro _ _ _ h; exact h) (Or.inl ⟨by rfl, fun W hSw => ?_⟩) hHeld ?_
          rotate_left
          focus ((try dsimp only at hSw); first | (go_simp; done) | (go_simp; with_reducible rfl))
          try simp only [Act.put, List.setIfInBounds_toArray, List.set_cons_zero, List.set_cons_succ]
          refine wpAnyH_take (i := 10) (v := ?_) (by simp only [List.getElem?_toArray, List.getElem?_cons_succ, List.getElem?_cons_zero]; exact rfl) (by kernel_rfl) (by kernel_rfl) (by kernel_rfl) (by intro _ _ _ h; exact h) (Or.inl ⟨by rfl, fun W hSw => ?_⟩) hHeld ?_
          rotate_left
          focus ((try dsimp only at hSw); first | (go_simp; done) | (go_simp; with_reducible rfl))
          try simp only [Act.put, List.setIfInBounds_toArray, List.set_cons_zero, List.set_cons_succ]
          refine wpAnyH_take (i := 11) (v := ?_) (by simp only [List.getElem?_toArray, List.getElem?_cons_succ, List.getElem?_cons_zero]; exact rfl) (by kernel_rfl) (by kernel_rfl) (by kernel_rfl) (by intro _ _ _ h; exact h) (Or.inl ⟨by rfl, fun W hSw => ?_⟩) hHeld ?_
          rotate_left
          focus ((try dsimp only at hSw); first | (go_simp; done) | (go_simp; with_reducible rfl))
          try simp only [Act.put, List.setIfInBounds_toArray, List.set_cons_zero, List.set_cons_succ]
          refine wpAnyH_take (i := 13) (v := ?_) (by simp only [List.getElem?_toArray, List.getElem?_cons_succ, List.getElem?_cons_zero]; exact rfl) (by kernel_rfl) (by kernel_rfl) (by kernel_rfl) (by intro _ _ _ h; exact h) (Or.inl ⟨by rfl, fun W hSw => ?_⟩) hHeld ?_
          rotate_left
          focus ((try dsimp only at hSw); first | (go_simp; done) | (go_simp; with_reducible rfl))
          try simp only [Act.put, List.setIfInBounds_toArray, List.set_cons_zero, List.set_cons_succ]
          refine wpAnyH_take (i := 14) (v := ?_) (by simp only [List.getElem?_toArray, List.getElem?_cons_succ, List.getElem?_cons_zero]; exact rfl) (by kernel_rfl) (by kernel_rfl) (by kernel_rfl) (by intro _ _ _ h; exact h) (Or.inl ⟨by rfl, fun W hSw => ?_⟩) hHeld ?_
          rotate_left
          focus ((try dsimp only at hSw); first | (go_simp; done) | (go_simp; with_reducible rfl))
          try simp only [Act.put, List.setIfInBounds_toArray, List.set_cons_zero, List.set_cons_succ]
          refine wpAnyH_take (i := 15) (v := ?_) (by simp only [List.getElem?_toArray, List.getElem?_cons_succ, List.getElem?_cons_zero]; exact rfl) (by kernel_rfl) (by kernel_rfl) (by kernel_rfl) (by intro _ _ _ h; exact h) (Or.inl ⟨by rfl, fun W hSw => ?_⟩) hHeld ?_
          rotate_left
          focus ((try dsimp only at hSw); first | (go_simp; done) | (go_simp; with_reducible rfl))
          try simp only [Act.put, List.setIfInBounds_toArray, List.set_cons_zero, List.set_cons_succ]
          refine wpAnyH_take (i := 16) (v := ?_) (by simp only [List.getElem?_toArray, List.getElem?_cons_succ, List.getElem?_cons_zero]; exact rfl) (by kernel_rfl) (by kernel_rfl) (by kernel_rfl) (by intro _ _ _ h; exact h) (Or.inl ⟨by rfl, fun W hSw => ?_⟩) hHeld ?_
          rotate_left
          focus ((try dsimp only at hSw); first | (go_simp; done) | (go_simp; with_reducible rfl))
          try simp only [Act.put, List.setIfInBounds_toArray, List.set_cons_zero, List.set_cons_succ]
          refine wpAnyH_ready (rs := [12]) (by kernel_rfl) (by simp) (AllReadyH.cons (by simp only [List.getElem?_toArray, List.getElem?_cons_succ, List.getElem?_cons_zero]; exact rfl) (fun K hK => ?_) AllReadyH.nil)
          rw [if_pos (by rfl)]
          go_simp
          refine (bytesR_any hHeld.2.2.2.1 HEZ.out).mono ?_; rintro e w9 ⟨rfl, rfl⟩; go_wp2_with fail
          refine hK.out _ _ (hHeld) (fun hHeld => ?_)
          clear hK K
          try simp only [Act.put, List.setIfInBounds_toArray, List.set_cons_zero, List.set_cons_succ]
          refine wpAnyH_take (i := 17) (v := ?_) (by simp only [List.getElem?_toArray, List.getElem?_cons_succ, List.getElem?_cons_zero]; exact rfl) (by kernel_rfl) (by kernel_rfl) (by kernel_rfl) (by intro _ _ _ h; exact h) (Or.inl ⟨by rfl, fun W hSw => ?_⟩) hHeld ?_
          rotate_left
          focus ((try dsimp only at hSw); first | (go_simp; done) | (go_simp; with_reducible rfl))
          try simp only [Act.put, List.setIfInBounds_toArray, List.set_cons_zero, List.set_cons_succ]
          refine wpAnyH_take (i := 18) (v := ?_) (by simp only [List.getElem?_toArray, List.getElem?_cons_succ, List.getElem?_cons_zero]; exact rfl) (by kernel_rfl) (by kernel_rfl) (by kernel_rfl) (by intro _ _ _ h; exact h) (Or.inl ⟨by rfl, fun W hSw => ?_⟩) hHeld ?_
          rotate_left
          focus ((try dsimp only at hSw); first | (go_simp; done) | (go_simp; with_reducible rfl))
          try simp only [Act.put, List.setIfInBounds_toArray, List.set_cons_zero, List.set_cons_succ]
          refine wpAnyH_done (by kernel_rfl) ?_ _
          have hov3 : overE n m zz = false := by
            unfold overE
            have z1 : decide (n < (zz.length : Int)) = false := by simpa using hov
            have z2 : decide (m < sumE zz) = false := by simpa using hov2
            rw [z1, z2]; rfl
          have hev : evE n m zz = ([], zz) := by
            cases zz with
            | nil => rfl
            | cons p tt => rw [evE, hov3]; rfl
          have hRe : R = (ks, zz) := by rw [HRR.out, hev, List.append_nil]
          have hkl : (strs ks).length = ks.length := by unfold strs; rw [List.length_map]
          have HRE := Lib.hid (And.intro hRe hkl)
          clear hRe hev hov3 HRR HR4 hkl
          go_wp2
          go_ret
          rw [HRE.out.1]
          have ho2 : OwnS w4.heap.size (.slice oa ks.length oc) (strs ks) wr := by
            have := hO
            rw [HRE.out.2] at this
            exact this
          refine ⟨oa, oc, ?_, ho2.base hs4, fr4, HZ.out.below ⟨rfl, rfl, rfl, Nat.le_refl _, fun _ _ => rfl⟩, ?_, HF4.out⟩
          · show Ending.returned (Value.slice oa (strs ks).length oc) = Ending.returned (Value.slice oa ks.length oc)
            rw [HRE.out.2]
          · have htt : Touch (rb :: fr4) w4 wr := HTT.out
            exact HT4.out.trans htt (fun b hb => by
              rcases List.mem_cons.1 hb with rfl | hb
              · exact Or.inl List.mem_cons_self
              · rcases HF4.out b hb with h' | h'
                · exact Or.inl (List.mem_cons_of_mem _ h')
                · exact Or.inr h')
end Go.Proofs.Ytheblhgmfkpllaa
