/- What a round keeps that writes one cell and the row that it leads to. -/
import Derived.Test.YtfoabdpfadgafaaDoorOwn
import Derived.RangeFuncWrites
import Derived.Laws.Entries
namespace Go.Proofs.YtfoabdpfadgafaaDoor
open Go.RowKit

/-- The cell at L leads to block g. -/
def rowOf (L : Nat) (w : World) (g : Nat) : Prop := ∃ v, w.cell? ⟨L, 0, none⟩ = some v ∧ v.ownBlock = some g
/-- All blocks of cells lie as they lay, but for L and its row; a new row lies in new memory. -/
def KpRow (L : Nat) (w w' : World) : Prop :=
  w.heap.size ≤ w'.heap.size ∧ (∀ b cur e fz, w.heap[b]? = some (.cells cur e fz) → b ≠ L → ¬ rowOf L w b → w'.heap[b]? = some (.cells cur e fz)) ∧
  (∀ g, rowOf L w' g → rowOf L w g ∨ (w.heap.size ≤ g ∧ g < w'.heap.size))
theorem heap_lt {w : World} {b : Nat} {o : Obj} (h : w.heap[b]? = some o) : b < w.heap.size := by
  rcases Nat.lt_or_ge b w.heap.size with h' | h'
  · exact h'
  · simp [Array.getElem?_eq_none h'] at h
theorem KpRow.trans {L : Nat} {a b c : World} (h : KpRow L a b) (k : KpRow L b c) : KpRow L a c := by
  refine ⟨Nat.le_trans h.1 k.1, fun i cur e fz hi hL hr => ?_, fun g hg => ?_⟩
  · have h1 := h.2.1 i cur e fz hi hL hr
    refine k.2.1 i cur e fz h1 hL (fun hr2 => ?_)
    rcases h.2.2 i hr2 with h3 | h3
    · exact hr h3
    · have := heap_lt hi; omega
  · rcases k.2.2 g hg with h3 | h3
    · rcases h.2.2 g h3 with h4 | h4
      · exact Or.inl h4
      · exact Or.inr ⟨h4.1, Nat.lt_of_lt_of_le h4.2 k.1⟩
    · exact Or.inr ⟨Nat.le_trans h.1 h3.1, h3.2⟩
theorem rowOf_below {L g : Nat} {w w' : World} (hb : Below w.heap.size w w') (hL : L < w.heap.size) : rowOf L w' g ↔ rowOf L w g := by
  unfold rowOf
  rw [hb.cell (p := ⟨L, 0, none⟩) hL]
/-- The row that L leads to lies beyond n, in the heap. -/
def RowIn (n L : Nat) (w : World) : Prop := ∀ g, rowOf L w g → n ≤ g ∧ g < w.heap.size
theorem RowIn.kp {n L : Nat} {w w' : World} (h : RowIn n L w) (k : KpRow L w w') (hn : n ≤ w.heap.size) : RowIn n L w' := by
  intro g hg
  rcases k.2.2 g hg with h1 | h1
  · exact ⟨(h g h1).1, Nat.lt_of_lt_of_le (h g h1).2 k.1⟩
  · exact ⟨Nat.le_trans hn h1.1, h1.2⟩
theorem RowIn.below {n L : Nat} {w w' : World} (h : RowIn n L w) (hb : Below w.heap.size w w') (hL : L < w.heap.size) : RowIn n L w' := by
  intro g hg
  have := h g ((rowOf_below hb hL).1 hg)
  exact ⟨this.1, Nat.lt_of_lt_of_le this.2 hb.size⟩
/-- What lies in a block of cells that is neither L nor its row is read as it was. -/
theorem KpRow.own {L B : Nat} {e : TypeId} {size n : Nat} {v : Value} {xs : List Value} {w w' : World} (k : KpRow L w w') (h : w.ownsRow B e size v n xs) (hL : L < B) (hr : ∀ g, v.ownBlock = some g → ¬ rowOf L w g) : w'.ownsRow B e size v n xs := by
  obtain ⟨h1, h2⟩ := h
  refine ⟨h1, ?_⟩
  rcases h2 with h2 | ⟨g, cap, cur, hv, hg, hh, r⟩
  · exact Or.inl h2
  · exact Or.inr ⟨g, cap, cur, hv, hg, k.2.1 g cur e (0, 0) hh (by omega) (hr g (by rw [hv]; rfl)), r⟩
theorem KpRow.cell {L b j : Nat} {u : Value} {w w' : World} (k : KpRow L w w') (h : w.cell? ⟨b, j, none⟩ = some u) (hL : b ≠ L) (hr : ¬ rowOf L w b) : w'.cell? ⟨b, j, none⟩ = some u := by
  cases ho : w.heap[b]? with
  | none => simp [World.cell?, ho] at h
  | some o =>
    cases o with
    | cells cur e fz =>
      have h2 := k.2.1 b cur e fz ho hL hr
      simp only [World.cell?, ho] at h
      simp only [World.cell?, h2]
      exact h
    | _ => simp [World.cell?, ho] at h
theorem KpRow.rd {L : Nat} {A : Option Addr} {n size : Nat} {xs : List Value} {w w' : World} (k : KpRow L w w') (h : Rd A n size xs w) (hr : 0 < n → ∀ b o, A = some ⟨b, o, none⟩ → b ≠ L ∧ ¬ rowOf L w b) : Rd A n size xs w' := by
  refine ⟨h.1, fun hn => ?_⟩
  obtain ⟨b, o, e, hl, hc⟩ := h.2 hn
  obtain ⟨h1, h2⟩ := hr hn b o e
  exact ⟨b, o, e, Nat.lt_of_lt_of_le hl k.1, fun j u hu => k.cell (hc j u hu) h1 h2⟩
/-- A turn of what is no cells, beyond L, is kept by KpRow. -/
theorem KpRow.putObj {L l : Nat} {o : Obj} {w : World} (o' : Obj) (hl : w.heap[l]? = some o) (ho : o.isCells = false) (hL : L < l) : KpRow L w (w.putObj l o') := by
  have hne : ∀ b, b ≠ l → (w.putObj l o').heap[b]? = w.heap[b]? := fun b hb => World.putObj_heap_other (fun e => hb (by rw [e]))
  refine ⟨by simp, fun b cur e fz hb _ _ => ?_, fun g hg => Or.inl ?_⟩
  · rw [hne b (fun e2 => by subst e2; rw [hb] at hl; cases hl; cases ho)]
    exact hb
  · obtain ⟨v, hv, hvo⟩ := hg
    refine ⟨v, ?_, hvo⟩
    simp only [World.cell?, hne L (by omega)] at hv
    simp only [World.cell?]
    exact hv
/-- An append to the row, and the store of what came of it. -/
theorem KpRow.stored {L : Nat} {v v' : Value} {w w1 : World} (hf : Far w w1 v v') (hc : w.cell? ⟨L, 0, none⟩ = some v) (hv' : ∀ g, v'.ownBlock = some g → g < w1.heap.size) (hL : L < w.heap.size) (hne : v.ownBlock ≠ some L) :
    KpRow L w (w1.setCell ⟨L, 0, none⟩ v') := by
  obtain ⟨hg, hw⟩ := hf
  have hcell1 : w1.cell? ⟨L, 0, none⟩ = some v := by
    have hb := hg.block L hL (fun e => hne e.symm)
    simp only [World.cell?, hb]
    simpa only [World.cell?] using hc
  refine ⟨by simp; exact hg.size, fun b cur e fz hb hbL hr => ?_, fun g hgr => ?_⟩
  · rw [Below.heap_setCell _ _ _ _ hbL, hg.block b (heap_lt hb) (fun e2 => hr ⟨v, hc, e2.symm⟩)]
    exact hb
  · obtain ⟨u, hu, huo⟩ := hgr
    have hu2 : u = v' := by
      have := World.cell?_setCell_same' w1 ⟨L, 0, none⟩ v' (by rw [hcell1]; rfl)
      rw [this] at hu
      exact (Option.some.inj hu).symm
    subst hu2
    rcases hw with h | h
    · exact Or.inl ⟨v, hc, by rw [← h]; exact huo⟩
    · exact Or.inr ⟨h g huo, by simp; exact hv' g huo⟩
/-- The cells below n, but L's block, are read as they were. -/
def KeepC (n L : Nat) (w w' : World) : Prop := ∀ b j u, b < n → b ≠ L → w.cell? ⟨b, j, none⟩ = some u → w'.cell? ⟨b, j, none⟩ = some u
theorem KeepC.refl (n L : Nat) (w : World) : KeepC n L w w := fun _ _ _ _ _ h => h
theorem KeepC.below {n L : Nat} {w0 w w' : World} (h : KeepC n L w0 w) (hb : Below w.heap.size w w') (hn : n ≤ w.heap.size) : KeepC n L w0 w' :=
  fun b j u h1 h2 h3 => (hb.cell (p := ⟨b, j, none⟩) (by show b < _; omega)).trans (h b j u h1 h2 h3)
theorem KeepC.kp {n L : Nat} {w0 w w' : World} (h : KeepC n L w0 w) (k : KpRow L w w') (hr : RowIn n L w) : KeepC n L w0 w' :=
  fun b j u h1 h2 h3 => k.cell (h b j u h1 h2 h3) h2 (fun hx => by have := (hr b hx).1; omega)
theorem Rd.keepC {n L : Nat} {w w' : World} {A : Option Addr} {m size : Nat} {xs : List Value} (h : Rd A m size xs w) (k : KeepC n L w w') (hs : n ≤ w'.heap.size) (hA : 0 < m → ∀ b o, A = some ⟨b, o, none⟩ → b < n ∧ b ≠ L) : Rd A m size xs w' := by
  refine ⟨h.1, fun hm => ?_⟩
  obtain ⟨b, o, e, hl, hc⟩ := h.2 hm
  obtain ⟨h1, h2⟩ := hA hm b o e
  exact ⟨b, o, e, by omega, fun j u hu => k b _ u h1 h2 (hc j u hu)⟩
/-- Texts in a block of an iterator's own, apart from L and its row. -/
def Apart (L : Nat) (A : Option Addr) (m : Nat) (w : World) : Prop := 0 < m → ∀ b o, A = some ⟨b, o, none⟩ → b < w.heap.size ∧ b ≠ L ∧ ¬ rowOf L w b
theorem Apart.kp {L : Nat} {A : Option Addr} {m : Nat} {w w' : World} (h : Apart L A m w) (k : KpRow L w w') : Apart L A m w' := by
  intro hm b o e
  obtain ⟨h1, h2, h3⟩ := h hm b o e
  refine ⟨Nat.lt_of_lt_of_le h1 k.1, h2, fun hx => ?_⟩
  rcases k.2.2 b hx with h4 | h4
  · exact h3 h4
  · omega
theorem Apart.below {L : Nat} {A : Option Addr} {m : Nat} {w w' : World} (h : Apart L A m w) (hb : Below w.heap.size w w') (hL : L < w.heap.size) : Apart L A m w' := by
  intro hm b o e
  obtain ⟨h1, h2, h3⟩ := h hm b o e
  exact ⟨Nat.lt_of_lt_of_le h1 hb.size, h2, fun hx => h3 ((rowOf_below hb hL).1 hx)⟩
/-- What lies in new memory stands apart. -/
theorem Apart.new {n L : Nat} {A : Option Addr} {m size : Nat} {xs : List Value} {w w' : World} (hb : Below w.heap.size w w') (hr : RowIn n L w) (hL : L < w.heap.size) (hd : Rd A m size xs w') (hA : ∀ b o, A = some ⟨b, o, none⟩ → w.heap.size ≤ b) : Apart L A m w' := by
  intro hm b o e
  obtain ⟨b', o', e', hl, _⟩ := hd.2 hm
  rw [e] at e'
  cases e'
  have h1 := hA b o e
  refine ⟨hl, by omega, fun hx => ?_⟩
  have := hr b ((rowOf_below hb hL).1 hx)
  omega
theorem KpRow.of_below {L : Nat} {w w' : World} (h : Below w.heap.size w w') (hL : L < w.heap.size) : KpRow L w w' := by
  refine ⟨h.size, fun b cur e fz hb _ _ => ?_, fun g hg => Or.inl ((rowOf_below h hL).1 hg)⟩
  rw [h.block b (heap_lt hb)]; exact hb
theorem KpRow.alloc (L : Nat) (w : World) (o : Obj) (hL : L < w.heap.size) : KpRow L w (w.alloc o) := KpRow.of_below ((Below.refl w.heap.size w).alloc (Nat.le_refl _) o) hL
theorem below_grown {w w' : World} (h : Below w.heap.size w w') : w.grownBy w' none := ⟨h.os, h.tape, h.output, h.size, fun k hk _ => h.block k hk⟩
end Go.Proofs.YtfoabdpfadgafaaDoor
