/- The document's Budget: the walks of Drop, Get, Put. -/
import Derived.Test.YtheblhgmfkpllaaBudRef
namespace Go.Proofs.Ytheblhgmfkpllaa
open Go.RowKit
set_option maxRecDepth 100000

theorem app_onesM {ops : Array Oper} {rest : List Oper} {o : Oper} {a : Act} {Q : Exit → Act → World → Prop} (B : Nat) {w : World} {v : Value} {fs : List Ent} (hown : OwnO B v fs w) (hB : B ≤ w.heap.size)
    {A : Option Addr} {n c : Nat} {ys : List Ent} (hr : Rd A n 3 (onesV ys) w) (hn : fs.length + n ≤ 1000000000) (hy : ∀ e ∈ ys, e.x.oneCell' = true)
    (hgd : o.guard = none) (s x : Operand) (ho : o.op = .call { callee := .builtin .append, args := #[s, x], argTypes := #[35, 35] })
    (hs : a.eval s = v) (hx : a.eval x = .slice A n c)
    (hK : ∀ v' w1, OwnO B v' (fs ++ ys) w1 → Below B w w1 → Far w w1 v v' → wpList Try.prog ops Q rest (a.put o.dst v') w1) :
    wpList Try.prog ops Q (o :: rest) a w := by
  obtain ⟨v', w1, hrun, h1, h2, h3⟩ := run_app_onesM B hown hB o.type hr hn hy (c := c)
  refine wpList_plain hgd fun _ hK' => ?_
  unfold Oper.wp execOp
  simp only [ho, resolve, invoke, builtin, Sem.run_bind, Sem.run_pure, Result.andThen_ok, List.map_toArray, List.map_cons, List.map_nil, hs, hx, hrun]
  exact hK' _ _ (hK v' w1 h1 h2 h3)
theorem BR.store {w w2 : World} {fr fr2 : List Nat} {rb cap : Nat} {n m : Int} {es : List Ent} {A : Option Addr} {old : Value} (h2 : w2.heap[rb]? = some (.cells #[.int .i64 n, .int .i64 m, old] 37 (0, 0))) (hr : Row1 w2 fr2 es A cap) (hn : rb ∉ fr2) (ht : Touch (rb :: fr) w w2) (hf : ∀ b ∈ fr2, b ∈ fr ∨ w.heap.size ≤ b) (k : Nat) :
    StR w ((w2.setCell ⟨rb, 2, none⟩ (.slice A es.length cap)).drewN k) fr rb n m es := by
  have hb : ((w2.setCell ⟨rb, 2, none⟩ (.slice A es.length cap)).drewN k).heap[rb]? = some (.cells #[.int .i64 n, .int .i64 m, .slice A es.length cap] 37 (0, 0)) := by
    rw [World.heap_drewN]
    simp [World.setCell, Array.getElem?_modify, h2]
  refine ⟨fr2, ⟨A, cap, hb, hr.of (by rw [World.heap_drewN]; simp) (fun b hb' => ?_), hn⟩, (ht.setCell rb 2 _ List.mem_cons_self).drewN k, hf⟩
  rw [World.heap_drewN, heap_set_ne _ _ _ _ _ (fun x => hn (by rw [← x]; exact hb'))]
theorem StR.same {w : World} {fr : List Nat} {rb : Nat} {n m : Int} {es : List Ent} (h : BR w fr rb n m es) : StR w w fr rb n m es := ⟨fr, h, Touch.refl _ _, fun _ hb => Or.inl hb⟩
theorem BR.blk {w : World} {fr : List Nat} {rb : Nat} {n m : Int} {es : List Ent} (h : BR w fr rb n m es) : ∃ v, w.heap[rb]? = some (.cells #[.int .i64 n, .int .i64 m, v] 37 (0, 0)) := by
  obtain ⟨A, cap, hb, _⟩ := h
  exact ⟨_, hb⟩
set_option maxHeartbeats 8000000 in
theorem dropR_any {w : World} {fr : List Nat} {rb : Nat} {n m : Int} {es : List Ent} (h : BR w fr rb n m es) (hes : EsOk es) (key : ByteArray) :
    Calls Try.prog 34 #[.pointer (some ⟨rb, 0, none⟩), .string key] w fun e w' => e = .returned (.bool (hasE key es)) ∧ StR w w' fr rb n m (delE key es) := by
  have k1 := atR_any h hes key
  have K1 := Lib.hid k1
  have HB := Lib.hid h
  have HES := Lib.hid hes
  clear k1 h hes
  go_enter Try.func34, Try.ntmps34
  go_wp2_with fail
  (with_reducible refine K1.out.mono ?_)
  rintro y w1 ⟨rfl, ⟨hf, rfl⟩ | ⟨p, e, q, rfl, hk, hp, hf, rfl⟩⟩
  · have hd : delE key es = es := by
      rcases split_key key es HES.out.nd with ⟨_, h2, _⟩ | ⟨_, _, _, _, _, h2, _⟩
      · exact h2
      · rw [h2] at hf; cases hf
    have HD := Lib.hid (And.intro hd hf)
    clear hd hf
    go_wp2
    go_ret
    exact ⟨by unfold hasE; rw [HD.out.2]; rfl, by rw [HD.out.1]; exact StR.same HB.out⟩
  · obtain ⟨A, cap, hr, hnf, hlt, c0, c1, c2, f2⟩ := HB.out.cells
    have hll := HES.out.len
    rw [List.length_append, List.length_cons] at hll
    have hN : (p ++ e :: q).length = p.length + q.length + 1 := by rw [List.length_append, List.length_cons]; omega
    have hle := hr.le
    rw [hN] at c2 hle
    have hfront := hr.front
    have hback := hr.back
    obtain ⟨k, hk2⟩ : ∃ k, p.length = k := ⟨_, rfl⟩
    rw [hk2] at c2 hfront hback hle hll
    obtain ⟨N, hN2⟩ : ∃ N, k + q.length + 1 = N := ⟨_, rfl⟩
    rw [hN2] at c2 hle
    have hkl : k < N := by omega
    have HFF := Lib.hid hf
    rw [hk2]
    have HH := Lib.hid (And.intro hk2 (And.intro hN2 (And.intro hk hp)))
    have HR := Lib.hid hr
    clear hN hk hk2 hf hp hN2 hr
    have i2 : IntKind.i64.wrap ((k : Int) + 1) = ((k + 1 : Nat) : Int) := by rw [IntKind.wrap_i64]; omega
    have hone1 : ∀ x ∈ p, x.x.oneCell' = true := fun x hx => HES.out.one x (List.mem_append_left _ hx)
    have hone2 : ∀ x ∈ q, x.x.oneCell' = true := fun x hx => HES.out.one x (List.mem_append_right _ (List.mem_cons_of_mem _ hx))
    have hkc : k ≤ cap := by omega
    have hz : ([] : List Ent).length + k ≤ 1000000000 := by simp; omega
    go_wp2_with (at_builtin; refine app_onesM w.heap.size (OwnO.nil _ _) (Nat.le_refl _) hfront hz hone1 rfl _ _ rfl rfl rfl ?_)
    intro v1 w1 hO1 hb1 hfar1
    obtain ⟨a1, cap1, rfl⟩ := hO1.shape
    have c2' : w1.cell? ⟨rb, 2, none⟩ = some (.slice A N cap) := (World.cell?_of_block (a := ⟨rb, 2, none⟩) (hb1.block rb hlt)).trans c2
    have f2' : w1.frozen? ⟨rb, 2, none⟩ = false := by rw [frozen_heap (hb1.block rb hlt)]; exact f2
    by_cases hcap : cap = k + 1
    · subst hcap
      have hback1 := hback.below hb1
      rw [if_pos rfl] at hback1
      have hkk : k + 1 ≤ N := hkl
      have HB1 := Lib.hid (And.intro hb1 (And.intro hback1 hfar1))
      have hz2 : p.length + (N - (k + 1)) ≤ 1000000000 := by have := HES.out.len; rw [List.length_append, List.length_cons] at this; have h1 := HH.out.1; have h2 := HH.out.2.1; omega
      have hq : N - (k + 1) = q.length := by have h2 := HH.out.2.1; omega
      have hb2r : Rd A (N - (k + 1)) 3 (onesV q) w1 := by rw [hq]; exact HB1.out.2.1
      clear hb1 hback hback1 hfar1 hfront c0 c1 c2 f2 hq hle
      go_wp2_with (at_builtin; refine app_onesM (ys := q) w.heap.size hO1 HB1.out.1.size hb2r hz2 hone2 rfl _ _ rfl rfl rfl ?_)
      intro v2 w2 hO2 hb2 hfar2
      obtain ⟨a2, cap2, rfl⟩ := hO2.shape
      have c2'' : w2.cell? ⟨rb, 2, none⟩ = some (.slice A N (k + 1)) := (World.cell?_of_block (a := ⟨rb, 2, none⟩) (hb2.block rb hlt)).trans c2'
      have f2'' : w2.frozen? ⟨rb, 2, none⟩ = false := by rw [frozen_heap (hb2.block rb hlt)]; exact f2'
      clear hb2r hz2 c2' f2'
      go_wp2
      go_ret
      have hdel : delE key (p ++ e :: q) = p ++ q := by
        rcases split_key key (p ++ e :: q) HES.out.nd with ⟨h1, _, _⟩ | ⟨p2, e2, q2, h1, h3, _, h4⟩
        · rw [h1] at HFF; exact absurd HFF.out (by simp)
        · rw [h4]
          unfold delE at h4
          have hfp : p.filter (fun e => !keyIs key e) = p := by
            rw [List.filter_eq_self]
            intro x hx
            rw [keyIs_false.2 (HH.out.2.2.2 x hx)]; rfl
          have hfq : q.filter (fun e => !keyIs key e) = q := by
            rw [List.filter_eq_self]
            intro x hx
            have hnd := HES.out.nd
            rw [List.map_append, List.map_cons, List.nodup_append, List.nodup_cons] at hnd
            have : x.key ≠ key := fun e3 => hnd.2.1.1 (List.mem_map.2 ⟨x, hx, by rw [e3, HH.out.2.2.1]⟩)
            rw [keyIs_false.2 this]; rfl
          rw [← h4, List.filter_append, List.filter_cons, keyIs_iff.2 HH.out.2.2.1, hfp, hfq]
          simp
      refine ⟨by unfold hasE; rw [HFF.out]; rfl, ?_⟩
      rw [hdel]
      obtain ⟨_, fr2, hr2, hf2⟩ := Row1.of_own (es := p ++ q) hO2
      obtain ⟨v, hbk⟩ := HB.out.blk
      have hb12 : Below w.heap.size w w2 := HB1.out.1.trans hb2
      have hfin := BR.store (fr := fr) (k := 0) (old := v) ((hb12.block rb hlt).trans hbk) hr2 (fun hx => by have := hf2 rb hx; omega) (Touch.kept hb12 _) (fun b hb => Or.inr (hf2 b hb))
      rw [List.length_append] at hfin
      exact hfin
    · have hback1 := hback.below hb1
      rw [if_neg hcap] at hback1
      have hkk : k + 1 ≤ N := hkl
      have HB1 := Lib.hid (And.intro hb1 (And.intro hback1 hfar1))
      have hz2 : p.length + (N - (k + 1)) ≤ 1000000000 := by have := HES.out.len; rw [List.length_append, List.length_cons] at this; have h1 := HH.out.1; have h2 := HH.out.2.1; omega
      have hq : N - (k + 1) = q.length := by have h2 := HH.out.2.1; omega
      have hb2r : Rd (A.map (·.add ((k + 1) * 3))) (N - (k + 1)) 3 (onesV q) w1 := by rw [hq]; exact HB1.out.2.1
      clear hb1 hback hback1 hfar1 hfront c0 c1 c2 f2 hq hle
      go_wp2_with (at_builtin; refine app_onesM (ys := q) w.heap.size hO1 HB1.out.1.size hb2r hz2 hone2 rfl _ _ rfl rfl rfl ?_)
      intro v2 w2 hO2 hb2 hfar2
      obtain ⟨a2, cap2, rfl⟩ := hO2.shape
      have c2'' : w2.cell? ⟨rb, 2, none⟩ = some (.slice A N cap) := (World.cell?_of_block (a := ⟨rb, 2, none⟩) (hb2.block rb hlt)).trans c2'
      have f2'' : w2.frozen? ⟨rb, 2, none⟩ = false := by rw [frozen_heap (hb2.block rb hlt)]; exact f2'
      clear hb2r hz2 c2' f2'
      go_wp2
      go_ret
      have hdel : delE key (p ++ e :: q) = p ++ q := by
        rcases split_key key (p ++ e :: q) HES.out.nd with ⟨h1, _, _⟩ | ⟨p2, e2, q2, h1, h3, _, h4⟩
        · rw [h1] at HFF; exact absurd HFF.out (by simp)
        · rw [h4]
          unfold delE at h4
          have hfp : p.filter (fun e => !keyIs key e) = p := by
            rw [List.filter_eq_self]
            intro x hx
            rw [keyIs_false.2 (HH.out.2.2.2 x hx)]; rfl
          have hfq : q.filter (fun e => !keyIs key e) = q := by
            rw [List.filter_eq_self]
            intro x hx
            have hnd := HES.out.nd
            rw [List.map_append, List.map_cons, List.nodup_append, List.nodup_cons] at hnd
            have : x.key ≠ key := fun e3 => hnd.2.1.1 (List.mem_map.2 ⟨x, hx, by rw [e3, HH.out.2.2.1]⟩)
            rw [keyIs_false.2 this]; rfl
          rw [← h4, List.filter_append, List.filter_cons, keyIs_iff.2 HH.out.2.2.1, hfp, hfq]
          simp
      refine ⟨by unfold hasE; rw [HFF.out]; rfl, ?_⟩
      rw [hdel]
      obtain ⟨_, fr2, hr2, hf2⟩ := Row1.of_own (es := p ++ q) hO2
      obtain ⟨v, hbk⟩ := HB.out.blk
      have hb12 : Below w.heap.size w w2 := HB1.out.1.trans hb2
      have hfin := BR.store (fr := fr) (k := 0) (old := v) ((hb12.block rb hlt).trans hbk) hr2 (fun hx => by have := hf2 rb hx; omega) (Touch.kept hb12 _) (fun b hb => Or.inr (hf2 b hb))
      rw [List.length_append] at hfin
      exact hfin
end Go.Proofs.Ytheblhgmfkpllaa
