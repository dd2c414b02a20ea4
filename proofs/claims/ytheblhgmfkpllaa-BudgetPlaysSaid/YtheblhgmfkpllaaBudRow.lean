/- The document's Budget: its list in memory. -/
import Derived.Test.YtheblhgmfkpllaaBudF
import Derived.ArgAppend
import Derived.Laws.OwnMore
import Derived.Deep.MidRow
import Derived.Deep.Upon
namespace Go.Proofs.Ytheblhgmfkpllaa
open Go.RowKit
set_option maxRecDepth 100000

def oneV (e : Ent) : List Value := [.string e.key, .int .i64 e.size, e.x]
def onesV (es : List Ent) : List Value := es.flatMap oneV
theorem onesV_len (xs : List Ent) : (onesV xs).length = xs.length * 3 := by
  unfold onesV
  induction xs with
  | nil => rfl
  | cons x r ih => rw [List.flatMap_cons, List.length_append, ih, List.length_cons]; show 3 + _ = _; omega
theorem onesV_app (xs ys : List Ent) : onesV (xs ++ ys) = onesV xs ++ onesV ys := by unfold onesV; simp
theorem onesV_at (p : List Ent) (e : Ent) (q : List Ent) : (onesV (p ++ e :: q))[p.length * 3]? = some (.string e.key) ∧ (onesV (p ++ e :: q))[p.length * 3 + 1]? = some (.int .i64 e.size) ∧ (onesV (p ++ e :: q))[p.length * 3 + 2]? = some e.x := by
  rw [onesV_app]
  have h : ∀ j, (onesV p ++ onesV (e :: q))[p.length * 3 + j]? = (onesV (e :: q))[j]? := fun j => by
    rw [List.getElem?_append_right (by rw [onesV_len]; omega), onesV_len, Nat.add_sub_cancel_left]
  refine ⟨?_, ?_, ?_⟩
  · have := h 0; rw [Nat.add_zero] at this; rw [this]; rfl
  · rw [h]; rfl
  · rw [h]; rfl
/-- The list lies behind A; there is room for more behind it; none of it lies outside of these blocks. -/
structure Row1 (w : World) (fr : List Nat) (es : List Ent) (A : Option Addr) (cap : Nat) : Prop where
  le : es.length ≤ cap
  row : 0 < cap → ∃ g o, A = some ⟨g, o, none⟩ ∧ g ∈ fr ∧ (∀ j u, (onesV es)[j]? = some u → w.cell? ⟨g, o + j, none⟩ = some u) ∧ (∀ j, j < cap * 3 → (w.cell? ⟨g, o + j, none⟩).isSome = true) ∧ ∀ j, w.frozen? ⟨g, j, none⟩ = false
  low : ∀ b ∈ fr, b < w.heap.size
theorem Row1.rd {w : World} {fr : List Nat} {es : List Ent} {A : Option Addr} {cap : Nat} (h : Row1 w fr es A cap) : Rd A es.length 3 (onesV es) w := by
  refine ⟨onesV_len es, fun hn => ?_⟩
  obtain ⟨g, o, e, hg, hc, _⟩ := h.row (by have := h.le; omega)
  exact ⟨g, o, e, h.low g hg, hc⟩
theorem Row1.of {w w' : World} {fr : List Nat} {es : List Ent} {A : Option Addr} {cap : Nat} (h : Row1 w fr es A cap) (hs : w.heap.size ≤ w'.heap.size) (hb : ∀ b ∈ fr, w'.heap[b]? = w.heap[b]?) : Row1 w' fr es A cap := by
  refine ⟨h.le, fun hc => ?_, fun b hb' => Nat.lt_of_lt_of_le (h.low b hb') hs⟩
  obtain ⟨g, o, e, hg, h1, h2, h3⟩ := h.row hc
  have hx := hb g hg
  refine ⟨g, o, e, hg, fun j u hu => (World.cell?_of_block (a := ⟨g, o + j, none⟩) hx).trans (h1 j u hu), fun j hj => ?_, fun j => ?_⟩
  · rw [World.cell?_of_block (a := ⟨g, o + j, none⟩) hx]; exact h2 j hj
  · have := h3 j
    unfold World.frozen? at this ⊢
    rw [hx]; exact this
theorem Row1.grow {w : World} {fr fr' : List Nat} {es : List Ent} {A : Option Addr} {cap : Nat} (h : Row1 w fr es A cap) (hs : ∀ b ∈ fr, b ∈ fr') (hl : ∀ b ∈ fr', b < w.heap.size) : Row1 w fr' es A cap := by
  refine ⟨h.le, fun hc => ?_, hl⟩
  obtain ⟨g, o, e, hg, r⟩ := h.row hc
  exact ⟨g, o, e, hs g hg, r⟩
theorem Row1.nil (w : World) (A : Option Addr) : Row1 w [] [] A 0 := ⟨Nat.le_refl _, fun h => absurd h (by omega), by simp⟩
theorem Row1.of_own {B n : Nat} {T : TypeId} {A : Option Addr} {cap : Nat} {es : List Ent} {w : World} (h : w.ownsRow B T 3 (.slice A n cap) es.length (onesV es)) : n = es.length ∧ ∃ fr, Row1 w fr es A cap ∧ ∀ b ∈ fr, B ≤ b := by
  obtain ⟨h1, h2⟩ := h
  rcases h2 with ⟨hv, h0⟩ | ⟨g, cp, cur, hv, hg, hh, hn, hm, hs, hx⟩
  · cases hv
    have he : es = [] := List.eq_nil_of_length_eq_zero h0
    subst he
    exact ⟨rfl, [], Row1.nil w none, by simp⟩
  · cases hv
    refine ⟨rfl, [g], ⟨hn, fun _ => ⟨g, 0, rfl, by simp, fun j u hu => ?_, fun j hj => ?_, fun j => ?_⟩, fun b hb => ?_⟩, fun b hb => ?_⟩
    · have hj : j < es.length * 3 := by rw [← onesV_len]; exact (List.getElem?_eq_some_iff.1 hu).1
      have h3 : cur[j]? = some u := by
        rw [← hu, ← hx, List.getElem?_take_of_lt hj, Array.getElem?_toList]
      rw [Nat.zero_add]
      simp only [World.cell?, hh]
      exact h3
    · rw [Nat.zero_add]
      simp only [World.cell?, hh]
      rw [Array.getElem?_eq_getElem (by rw [hs]; exact hj)]
      rfl
    · simp [World.frozen?, hh]
    · rw [List.mem_singleton.1 hb]
      rcases Nat.lt_or_ge g w.heap.size with h' | h'
      · exact h'
      · simp [Array.getElem?_eq_none h'] at hh
    · rw [List.mem_singleton.1 hb]; exact hg
/-- Its first element taken away. -/
theorem Row1.tail {w : World} {fr : List Nat} {e : Ent} {es : List Ent} {A : Option Addr} {cap : Nat} (h : Row1 w fr (e :: es) A cap) : Row1 w fr es (if cap = 1 then A else A.map (·.add 3)) (cap - 1) := by
  have hl := h.le
  rw [List.length_cons] at hl
  refine ⟨by omega, fun hc => ?_, h.low⟩
  obtain ⟨g, o, rfl, hg, h1, h2, h3⟩ := h.row (by omega)
  rw [if_neg (by omega)]
  refine ⟨g, o + 3, ?_, hg, fun j u hu => ?_, fun j hj => ?_, h3⟩
  · simp [Addr.add]
  · have := h1 (3 + j) u (by
      have e1 : onesV (e :: es) = oneV e ++ onesV es := by unfold onesV; simp
      rw [e1, List.getElem?_append_right (by show 3 ≤ _; omega)]
      show (onesV es)[3 + j - 3]? = _
      rw [Nat.add_sub_cancel_left]; exact hu)
    rw [← this, Nat.add_assoc]
  · have := h2 (3 + j) (by omega)
    rw [Nat.add_assoc]; exact this
theorem oneV_one {e : Ent} (hx : e.x.oneCell' = true) : ∀ u ∈ oneV e, u.oneCell' = true := by
  intro u hu
  simp [oneV] at hu
  rcases hu with rfl | rfl | rfl
  · rfl
  · rfl
  · exact hx
theorem uOne : (Try.prog.info? 60).map (fun i => (i.zero, i.size, i.bytes)) = some (some (.agg #[.string ByteArray.empty, .int .i64 0, .int .i64 0]), 3, 32) := by kernel_rfl
theorem frozen_heap {w w' : World} {g j : Nat} (h : w'.heap[g]? = w.heap[g]?) : w'.frozen? ⟨g, j, none⟩ = w.frozen? ⟨g, j, none⟩ := by
  unfold World.frozen?
  rw [h]
/-- One more at its end. -/
theorem run_app_ones {w : World} {fr : List Nat} {es : List Ent} {A : Option Addr} {cap : Nat} (h : Row1 w fr es A cap) (e : Ent) (hx : e.x.oneCell' = true) (hn : es.length ≤ 100000) (ty : TypeId) {ad : Addr} (hc : ∀ j u, (oneV e)[j]? = some u → w.cell? (ad.add j) = some u) :
    ∃ A' cap' w1 fr', (Builtin.append_ #[35, 35] ty #[.slice A es.length cap, .slice (some ad) 1 1]).run Try.prog w = .ok (.slice A' (es.length + 1) cap') w1 ∧ Row1 w1 fr' (es ++ [e]) A' cap' ∧ Touch fr w w1 ∧ (∀ b ∈ fr', b ∈ fr ∨ w.heap.size ≤ b) := by
  obtain ⟨i0, hi, hz0, hz1, hz2⟩ := info_parts uOne
  have hnew : (oneV e).length = 1 * 3 := rfl
  by_cases hroom : es.length + 1 ≤ cap
  · obtain ⟨g, o, rfl, hg, h1, h2, h3⟩ := h.row (by omega)
    have hrun := run_append_room_cells (P := Try.prog) w 35 ty 60 i0 Try.underlying35 hi g o es.length cap ad 1 1 (oneV e) (by rw [hz1]; rfl) hc (oneV_one hx) hroom (fun j hj => by
      rw [hz1, Nat.add_assoc]
      exact h2 _ (by have : j < 3 := hj; omega)) (fun j _ => h3 _)
    have hsz : (w.setCells g (o + es.length * 3) (oneV e)).heap.size = w.heap.size := by
      show ((((w.setCell _ _).setCell _ _).setCell _ _)).heap.size = _
      simp
    rw [hz1] at hrun
    refine ⟨_, _, _, fr, hrun, ⟨by rw [List.length_append]; exact hroom, fun _ => ⟨g, o, rfl, hg, fun j u hu => ?_, fun j hj => ?_, fun j => ?_⟩, fun b hb => by rw [hsz]; exact h.low b hb⟩, ⟨rfl, rfl, rfl, by rw [hsz]; exact Nat.le_refl _, fun b hb hn' => World.heap_setCells_other w g _ _ hb (fun x => hn' (by rw [x]; exact hg))⟩, fun b hb => Or.inl hb⟩
    · rw [onesV_app] at hu
      by_cases hj : j < es.length * 3
      · rw [List.getElem?_append_left (by rw [onesV_len]; exact hj)] at hu
        rw [World.cell?_setCells_out g _ _ w ⟨g, o + j, none⟩ (fun _ _ => Or.inl (by show o + j < _; omega))]
        exact h1 j u hu
      · rw [List.getElem?_append_right (by rw [onesV_len]; omega), onesV_len] at hu
        have e1 : onesV [e] = oneV e := by unfold onesV; simp
        rw [e1] at hu
        obtain ⟨hj2, hu2⟩ := List.getElem?_eq_some_iff.1 hu
        have := World.cell?_setCells_in g (oneV e) (o + es.length * 3) w (fun j hj => by
          rw [Nat.add_assoc]
          exact h2 _ (by have : j < 3 := hj; omega)) (j - es.length * 3) hj2
        rw [show o + es.length * 3 + (j - es.length * 3) = o + j from by omega] at this
        rw [this, hu2]
    · exact World.isSome_setCells g _ _ w _ (h2 j hj)
    · rw [World.frozen?_setCells]; exact h3 j
  · have hle := h.le
    have hcap : cap = es.length := by omega
    subst hcap
    by_cases h0 : 0 < es.length
    · obtain ⟨g, o, rfl, hg, h1, h2, h3⟩ := h.row h0
      obtain ⟨v', w', hrun, r1, r2⟩ := run_append_arg_grows (P := Try.prog) w 35 ty 60 i0 _ 3 32 Try.underlying35 hi hz0 hz1 hz2 rfl (by decide) ⟨g, o, none⟩ es.length es.length (onesV es) (onesV_len es) (fun j u hj => by rw [Addr.add_lit]; exact h1 j u hj) ad 1 1 (oneV e) rfl hc (by omega) (by unfold maxLen; omega) (by omega)
      have e1 : onesV es ++ oneV e = onesV (es ++ [e]) := by rw [onesV_app]; unfold onesV; simp
      rw [e1] at r1
      have hsl : ∃ A' cap', v' = .slice A' (es.length + 1) cap' := by
        rcases r1.2 with ⟨rfl, hz⟩ | ⟨g', cap', cur, rfl, _⟩
        · omega
        · exact ⟨_, _, rfl⟩
      obtain ⟨A', cap', rfl⟩ := hsl
      obtain ⟨_, fr', r3, r4⟩ := Row1.of_own (es := es ++ [e]) (by rw [List.length_append]; exact r1)
      refine ⟨A', cap', w', fr', hrun, r3, ⟨r2.os, r2.tape, r2.output, r2.size, fun b hb _ => r2.block b hb (by simp)⟩, fun b hb => Or.inr (r4 b hb)⟩
    · have he : es = [] := List.eq_nil_of_length_eq_zero (by omega)
      subst he
      have e1 : ([] : List Value) ++ oneV e = onesV ([] ++ [e]) := by unfold onesV; simp
      have hfin : ∀ v' w', w'.ownsRow w.heap.size 60 3 v' (0 + 1) ([] ++ oneV e) → w.grownBy w' none → ∃ A' cap' fr', v' = .slice A' (0 + 1) cap' ∧ Row1 w' fr' ([] ++ [e]) A' cap' ∧ Touch fr w w' ∧ (∀ b ∈ fr', b ∈ fr ∨ w.heap.size ≤ b) := by
        intro v' w' r1 r2
        have hsl : ∃ A' cap', v' = .slice A' (0 + 1) cap' := by
          rcases r1.2 with ⟨rfl, hz⟩ | ⟨g', cap', cur, rfl, _⟩
          · omega
          · exact ⟨_, _, rfl⟩
        obtain ⟨A', cap', rfl⟩ := hsl
        rw [e1] at r1
        obtain ⟨_, fr', r3, r4⟩ := Row1.of_own (es := [] ++ [e]) r1
        exact ⟨A', cap', fr', rfl, r3, ⟨r2.os, r2.tape, r2.output, r2.size, fun b hb _ => r2.block b hb (by simp)⟩, fun b hb => Or.inr (r4 b hb)⟩
      cases A with
      | none =>
        obtain ⟨v', w', hrun, r1, r2, _⟩ := run_append_own (P := Try.prog) w w.heap.size 35 ty 60 i0 _ 3 32 Try.underlying35 hi hz0 hz1 hz2 rfl (by decide) (.slice none 0 0) 0 [] (World.ownsRow_nil w _ _ _) ad 1 1 (oneV e) rfl hc (oneV_one hx) (by decide) (by decide) (Nat.le_refl _)
        obtain ⟨A', cap', fr', rfl, h5, h6, h7⟩ := hfin v' w' r1 r2
        exact ⟨A', cap', w', fr', hrun, h5, h6, h7⟩
      | some b =>
        obtain ⟨v', w', hrun, r1, r2⟩ := run_append_arg_grows (P := Try.prog) w 35 ty 60 i0 _ 3 32 Try.underlying35 hi hz0 hz1 hz2 rfl (by decide) b 0 0 [] rfl (fun j u hj => by simp at hj) ad 1 1 (oneV e) rfl hc (by decide) (by decide) (by decide)
        obtain ⟨A', cap', fr', rfl, h5, h6, h7⟩ := hfin v' w' r1 r2
        exact ⟨A', cap', w', fr', hrun, h5, h6, h7⟩
/-- A whole list behind a row of the call's own. -/
theorem run_app_none {P : Program} (w : World) (base : Nat) (t ty e : TypeId) (i : TypeInfo) (size c : Nat) (ht : P.underlying t = some (.slice e)) (hi : P.info? e = some i)
    (v : Value) (n : Nat) (xs : List Value) (hown : w.ownsRow base e size v n xs) :
    (Builtin.append_ #[t, t] ty #[v, .slice none 0 c]).run P w = .ok v w := by
  rcases hown.2 with ⟨rfl, rfl⟩ | ⟨g, cap, cur, rfl, _, _, hnc, _⟩
  · simp [Builtin.append_, run_underlying ht, sizeOf, typeInfo, hi, Builtin.lenOf, Builtin.firstCells]
  · simp [Builtin.append_, run_underlying ht, sizeOf, typeInfo, hi, Builtin.lenOf, Builtin.firstCells, hnc, storeCells]
def OwnO (B : Nat) (v : Value) (es : List Ent) (w : World) : Prop := w.ownsRow B 60 3 v es.length (onesV es)
theorem OwnO.nil (B : Nat) (w : World) : OwnO B (.slice none 0 0) [] w := World.ownsRow_nil _ _ _ _
theorem OwnO.shape {B : Nat} {v : Value} {es : List Ent} {w : World} (h : OwnO B v es w) : ∃ a cap, v = .slice a es.length cap := by
  rcases h.2 with ⟨rfl, h0⟩ | ⟨g, cap, cur, rfl, _⟩
  · exact ⟨none, 0, by rw [h0]⟩
  · exact ⟨_, _, rfl⟩
theorem onesV_one {es : List Ent} (h : ∀ e ∈ es, e.x.oneCell' = true) : ∀ u ∈ onesV es, u.oneCell' = true := by
  intro u hu
  unfold onesV at hu
  obtain ⟨f, hf, h2⟩ := List.mem_flatMap.1 hu
  exact oneV_one (h f hf) u h2
theorem run_app_onesM (B : Nat) {w : World} {v : Value} {fs : List Ent} (hown : OwnO B v fs w) (hB : B ≤ w.heap.size) (ty : TypeId)
    {A : Option Addr} {n c : Nat} {ys : List Ent} (hr : Rd A n 3 (onesV ys) w) (hn : fs.length + n ≤ 1000000000) (hy : ∀ e ∈ ys, e.x.oneCell' = true) :
    ∃ v' w1, (Builtin.append_ #[35, 35] ty #[v, .slice A n c]).run Try.prog w = .ok v' w1 ∧ OwnO B v' (fs ++ ys) w1 ∧ Below B w w1 ∧ Far w w1 v v' := by
  have hnl : n = ys.length := by have := hr.1; rw [onesV_len] at this; omega
  subst hnl
  obtain ⟨i0, hi, hz0, hz1, hz2⟩ := info_parts uOne
  by_cases h0 : A = none
  · subst h0
    have hy0 : ys.length = 0 := by
      rcases Nat.eq_zero_or_pos ys.length with h | h
      · exact h
      · obtain ⟨b, o', e, _⟩ := hr.2 h; cases e
    have hy2 : ys = [] := List.eq_nil_of_length_eq_zero hy0
    subst hy2
    exact ⟨v, w, run_app_none w B _ _ 60 i0 3 c Try.underlying35 hi v _ _ hown, by rw [List.append_nil]; exact hown, Below.refl _ _, ⟨⟨rfl, rfl, rfl, Nat.le_refl _, fun _ _ _ => rfl⟩, Or.inl rfl⟩⟩
  · obtain ⟨ad, rfl⟩ := Option.ne_none_iff_exists'.1 h0
    obtain ⟨v', w', hrun, h2, h3, _, h5⟩ := run_append_own_at (P := Try.prog) w B 35 ty 60 i0 _ 3 32 Try.underlying35 hi hz0 hz1 hz2 rfl (by decide) v fs.length (onesV fs) hown ad ys.length c (onesV ys) (by rw [onesV_len]) (by
      intro j u hj
      have hjl : j < ys.length * 3 := by have := (List.getElem?_eq_some_iff.1 hj).1; rwa [onesV_len] at this
      obtain ⟨b, o', e, _, hc⟩ := hr.2 (by omega)
      cases e
      have e2 : (⟨b, o', none⟩ : Addr).add j = ⟨b, o' + j, none⟩ := by unfold Addr.add; split <;> simp_all
      rw [e2]
      exact hc j u hj) (onesV_one hy) (by unfold maxLen; omega) (by omega) hB
    refine ⟨v', w', hrun, ?_, (Below.refl B w).grown h3 hB (fun k hk => (World.ownsRow.lt hown k hk).1), ⟨h3, ?_⟩⟩
    · unfold OwnO
      rw [List.length_append, onesV_app]
      exact h2
    · rcases h5 with h | h
      · exact Or.inl h
      · refine Or.inr fun g hg => ?_
        rw [h] at hg
        have := Option.some.inj hg
        omega
/-- Its first and its last part. -/
theorem Row1.front {w : World} {fr : List Nat} {p q : List Ent} {A : Option Addr} {cap : Nat} (h : Row1 w fr (p ++ q) A cap) : Rd A p.length 3 (onesV p) w := by
  refine ⟨onesV_len p, fun hn => ?_⟩
  obtain ⟨g, o, e, hg, hc, _⟩ := h.row (by have := h.le; rw [List.length_append] at this; omega)
  refine ⟨g, o, e, h.low g hg, fun j u hu => hc j u ?_⟩
  rw [onesV_app, List.getElem?_append_left (List.getElem?_eq_some_iff.1 hu).1]
  exact hu
theorem Row1.back {w : World} {fr : List Nat} {p q : List Ent} {e : Ent} {A : Option Addr} {cap : Nat} (h : Row1 w fr (p ++ e :: q) A cap) : Rd (if cap = p.length + 1 then A else A.map (·.add ((p.length + 1) * 3))) q.length 3 (onesV q) w := by
  refine ⟨onesV_len q, fun hn => ?_⟩
  have hl := h.le
  rw [List.length_append, List.length_cons] at hl
  obtain ⟨g, o, rfl, hg, hc, _⟩ := h.row (by omega)
  rw [if_neg (by omega)]
  refine ⟨g, o + (p.length + 1) * 3, by simp [Addr.add], h.low g hg, fun j u hu => ?_⟩
  rw [Nat.add_assoc]
  refine hc _ u ?_
  have e1 : p ++ e :: q = (p ++ [e]) ++ q := by simp
  rw [e1, onesV_app, List.getElem?_append_right (by rw [onesV_len, List.length_append, List.length_singleton]; omega), onesV_len, List.length_append, List.length_singleton, Nat.add_sub_cancel_left]
  exact hu
end Go.Proofs.Ytheblhgmfkpllaa
