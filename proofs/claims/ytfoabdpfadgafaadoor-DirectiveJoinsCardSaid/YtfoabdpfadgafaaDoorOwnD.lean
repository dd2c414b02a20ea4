/- Directives in a slice that the call made. -/
import Derived.Test.YtfoabdpfadgafaaDoorOwn
import Derived.Test.YtfoabdpfadgafaaDoorDirSpec
namespace Go.Proofs.YtfoabdpfadgafaaDoor
open Go.RowKit
set_option maxRecDepth 100000

theorem uDir : (Tryd.prog.info? 29).map (fun i => (i.zero, i.size, i.bytes)) = some (some (.agg #[.string ByteArray.empty, .string ByteArray.empty, .bool false, .string ByteArray.empty]), 4, 56) := by kernel_rfl
def OwnD (B : Nat) (v : Value) (ds : List Dir) (w : World) : Prop := w.ownsRow B 29 4 v ds.length (dirsV ds)
theorem OwnD.shape {B : Nat} {v : Value} {ds : List Dir} {w : World} (h : OwnD B v ds w) : ∃ a cap, v = .slice a ds.length cap := by
  rcases h.2 with ⟨rfl, h0⟩ | ⟨g, cap, cur, rfl, _⟩
  · exact ⟨none, 0, by rw [h0]⟩
  · exact ⟨_, _, rfl⟩
theorem OwnD.below {B : Nat} {v : Value} {ds : List Dir} {w w1 : World} (h : OwnD B v ds w) (hb : Below w.heap.size w w1) : OwnD B v ds w1 := own_below h hb
theorem OwnD.nil (B : Nat) (w : World) : OwnD B (.slice none 0 0) [] w := World.ownsRow_nil _ _ _ _
theorem OwnD.rd {B m cap : Nat} {a : Option Addr} {ds : List Dir} {w : World} (h : OwnD B (.slice a m cap) ds w) : m = ds.length ∧ Rd a ds.length 4 (dirsV ds) w := Rd.of_own h
theorem OwnD.base {B B' : Nat} {v : Value} {ds : List Dir} {w : World} (h : OwnD B v ds w) (hB : B' ≤ B) : OwnD B' v ds w := by
  refine ⟨h.1, ?_⟩
  rcases h.2 with h | ⟨g, cp, cur, hv, hg, r⟩
  · exact Or.inl h
  · exact Or.inr ⟨g, cp, cur, hv, by omega, r⟩
theorem dirV_one (d : Dir) : ∀ u ∈ dirV d, u.oneCell' = true := by
  intro u hu
  simp [dirV] at hu
  rcases hu with rfl | rfl | rfl | rfl <;> rfl
theorem dirsV_snoc (ds : List Dir) (d : Dir) : dirsV (ds ++ [d]) = dirsV ds ++ dirV d := by unfold dirsV; simp
theorem app_dir {ops : Array Oper} {rest : List Oper} {o : Oper} {a : Act} {Q : Exit → Act → World → Prop} (B : Nat) (d : Dir) {w : World} {v : Value} {ds : List Dir} (hown : OwnD B v ds w) (hB : B ≤ w.heap.size) (hn : ds.length ≤ 1000000000)
    (hgd : o.guard = none) (s x : Operand) (ho : o.op = .call { callee := .builtin .append, args := #[s, x], argTypes := #[26, 26] })
    (hs : a.eval s = v) (hx : a.eval x = .slice (some ⟨w.heap.size, 0, none⟩) 1 1)
    (hK : ∀ v' w1, OwnD B v' (ds ++ [d]) w1 → Below B w w1 → Far w w1 v v' → wpList Tryd.prog ops Q rest (a.put o.dst v') w1) :
    wpList Tryd.prog ops Q (o :: rest) a (w.alloc (.cells #[.string ⟨d.name.toArray⟩, .string ⟨d.value.toArray⟩, .bool d.has, .string ⟨d.for_.toArray⟩] 29)) := by
  refine app_one (z := .agg #[.string ByteArray.empty, .string ByteArray.empty, .bool false, .string ByteArray.empty]) (bytes := 56) (n := ds.length) hgd s x 26 29 ho Tryd.underlying26 uDir rfl (by decide) (by decide) B (dirV d) rfl (dirV_one d) hs hx hown hB hn ?_
  intro v' w1 h1 h2 h3
  refine hK v' w1 ?_ h2 h3
  show World.ownsRow _ _ _ _ _ _ _
  rw [List.length_append, List.length_singleton, dirsV_snoc]
  exact h1
/-- Directives that are handed back in a slice of the call's own. -/
def DirsPost (w : World) (ds : List Dir) (e : Ending) (w' : World) : Prop :=
  ∃ a cap, e = .returned (.slice a ds.length cap) ∧ OwnD w.heap.size (.slice a ds.length cap) ds w' ∧ Below w.heap.size w w'
end Go.Proofs.YtfoabdpfadgafaaDoor
