/- Bytes appended to a slice that the call made: a string, and new bytes. A builder behind other calls. -/
import Derived.Test.YthppcaoldobocaaDoorRLow
import Derived.Test.YthppcaoldobocaaDoorBuild
import Derived.Lib.AppendStr
namespace Go.Proofs.YthppcaoldobocaaDoor
open Go.RowKit

theorem OwnB.shape {B : Nat} {v : Value} {l : List UInt8} {w : World} (h : OwnB B v l w) : ∃ a cap, v = .slice a l.length cap := by
  rcases h.2 with ⟨rfl, h0⟩ | ⟨g, cap, cur, rfl, _⟩
  · exact ⟨none, 0, by rw [h0]⟩
  · exact ⟨_, _, rfl⟩
theorem OwnB.nil (B : Nat) (w : World) : OwnB B (.slice none 0 0) [] w := World.ownsRow_nil _ _ _ _
theorem OwnB.below {B : Nat} {v : Value} {l : List UInt8} {w w1 : World} (h : OwnB B v l w) (hb : Below w.heap.size w w1) : OwnB B v l w1 := by
  obtain ⟨h1, h2⟩ := h
  refine ⟨h1, ?_⟩
  rcases h2 with h2 | ⟨g, cap, cur, hv, hg, hh, r⟩
  · exact Or.inl h2
  · refine Or.inr ⟨g, cap, cur, hv, hg, ?_, r⟩
    have hlt : g < w.heap.size := by
      rcases Nat.lt_or_ge g w.heap.size with h' | h'
      · exact h'
      · simp [Array.getElem?_eq_none h'] at hh
    rw [hb.block g hlt]; exact hh
theorem app_bstr {ops : Array Oper} {rest : List Oper} {o : Oper} {a : Act} {Q : Exit → Act → World → Prop} (B : Nat) (s : ByteArray) {w : World} {v : Value} {l : List UInt8} (hown : OwnB B v l w) (hB : B ≤ w.heap.size) (hn : l.length + s.size ≤ 1000000000)
    (hgd : o.guard = none) (sl x : Operand) (ho : o.op = .call { callee := .builtin .append, args := #[sl, x], argTypes := #[62, 9] })
    (hs : a.eval sl = v) (hx : a.eval x = .string s)
    (hK : ∀ v' w1, OwnB B v' (l ++ s.data.toList) w1 → Below B w w1 → wpList Tryd.prog ops Q rest (a.put o.dst v') w1) :
    wpList Tryd.prog ops Q (o :: rest) a w := by
  obtain ⟨i0, hi, hz0, hz1, hz2⟩ := info_parts uByte
  unfold OwnB at hown
  refine Lib.wpList_append_own_string _ hgd sl x 62 9 ho B 5 i0 Tryd.underlying62 Tryd.underlying9 hi hz0 hz1 hz2 v l.length _ hs hown s hx (by unfold maxLen; omega) (by omega) hB ?_
  intro v' w1 h1 h2 _
  refine hK v' w1 ?_ ((Below.refl B w).grown h2 hB (fun j hj => (hown.lt j hj).1))
  unfold OwnB
  rw [List.length_append, ← Lib.size_eq, List.map_append]
  exact h1
theorem app_bnew {ops : Array Oper} {rest : List Oper} {o : Oper} {a : Act} {Q : Exit → Act → World → Prop} (B : Nat) (ys : List UInt8) (cs : Array Value) (hcs : cs.toList = ys.map fun c => Value.int .u8 c.toNat) {w : World} {v : Value} {l : List UInt8} (hown : OwnB B v l w) (hB : B ≤ w.heap.size) (hn : l.length + ys.length ≤ 1000000000)
    (hgd : o.guard = none) (sl x : Operand) (ho : o.op = .call { callee := .builtin .append, args := #[sl, x], argTypes := #[62, 62] })
    (hs : a.eval sl = v) (hx : a.eval x = .slice (some ⟨w.heap.size, 0, none⟩) ys.length ys.length)
    (hK : ∀ v' w1, OwnB B v' (l ++ ys) w1 → Below B w w1 → wpList Tryd.prog ops Q rest (a.put o.dst v') w1) :
    wpList Tryd.prog ops Q (o :: rest) a (w.alloc (.cells cs 5)) := by
  obtain ⟨i0, hi, hz0, hz1, hz2⟩ := info_parts uByte
  unfold OwnB at hown
  refine wpList_append_own _ hgd sl x 62 ho B 5 i0 (.int .u8 0) 1 1 Tryd.underlying62 hi hz0 hz1 hz2 rfl (by decide) v l.length _ hs (hown.alloc _) ⟨w.heap.size, 0, none⟩ ys.length ys.length (ys.map fun c => Value.int .u8 c.toNat) hx (by simp) ?c1 ?c2 (by unfold maxLen; omega) (by omega) (by simp; omega) ?_
  case c1 =>
    intro j u hj
    have e : (⟨w.heap.size, 0, none⟩ : Addr).add j = ⟨w.heap.size, j, none⟩ := by unfold Addr.add; split <;> simp_all
    rw [e, World.cell?_alloc_mark, ← hj, ← hcs]; simp
  case c2 => intro u hu; obtain ⟨c, _, rfl⟩ := List.mem_map.1 hu; rfl
  intro v' w1 h1 h2 _
  refine hK v' w1 ?_ (((Below.refl B w).alloc hB _).grown h2 (by simp; omega) (fun j hj => (hown.lt j hj).1))
  unfold OwnB
  rw [List.length_append, List.map_append]
  exact h1

theorem IsB.below {B b : Nat} {l : List UInt8} {w w' : World} (h : IsB B b l w) (hb : Below w.heap.size w w') : IsB B b l w' := by
  have key : ∀ p, Lib.BuilderAtF 64 5 B b p (Lib.byteCells l) w → Lib.BuilderAtF 64 5 B b p (Lib.byteCells l) w' := by
    rintro p ⟨hB, v, hbk, hown, hne⟩
    have hl : ∀ (g : Nat) (o : Obj), w.heap[g]? = some o → g < w.heap.size := by
      intro g o hg
      rcases Nat.lt_or_ge g w.heap.size with h' | h'
      · exact h'
      · simp [Array.getElem?_eq_none h'] at hg
    refine ⟨hB, v, by rw [hb.block b (hl _ _ hbk)]; exact hbk, ?_, hne⟩
    obtain ⟨h1, h2⟩ := hown
    refine ⟨h1, ?_⟩
    rcases h2 with h2 | ⟨g, cap, cur, fz, hv, hg, hh, r⟩
    · exact Or.inl h2
    · exact Or.inr ⟨g, cap, cur, fz, hv, hg, by rw [hb.block g (hl _ _ hh)]; exact hh, r⟩
  rcases h with h | h
  · exact Or.inl (key _ h)
  · exact Or.inr (key _ h)
end Go.Proofs.YthppcaoldobocaaDoor
