/- Fields in a slice that the call made. -/
import Derived.Test.YthppcaoldobocaaDoorOwn
namespace Go.Proofs.YthppcaoldobocaaDoor
open Go.RowKit

theorem uFld : (Tryd.prog.info? 37).map (fun i => (i.zero, i.size, i.bytes)) = some (some (.agg #[.string ByteArray.empty, .string ByteArray.empty]), 2, 32) := by kernel_rfl
def OwnF (B : Nat) (v : Value) (fs : List Fld) (w : World) : Prop := w.ownsRow B 37 2 v fs.length (fldsV fs)
theorem OwnF.shape {B : Nat} {v : Value} {fs : List Fld} {w : World} (h : OwnF B v fs w) : ∃ a cap, v = .slice a fs.length cap := by
  rcases h.2 with ⟨rfl, h0⟩ | ⟨g, cap, cur, rfl, _⟩
  · exact ⟨none, 0, by rw [h0]⟩
  · exact ⟨_, _, rfl⟩
theorem OwnF.below {B : Nat} {v : Value} {fs : List Fld} {w w1 : World} (h : OwnF B v fs w) (hb : Below w.heap.size w w1) : OwnF B v fs w1 := own_below h hb
theorem OwnF.drew {B : Nat} {v : Value} {fs : List Fld} {w : World} (h : OwnF B v fs w) : OwnF B v fs w.drew := h
theorem OwnF.nil (B : Nat) (w : World) : OwnF B (.slice none 0 0) [] w := World.ownsRow_nil _ _ _ _
theorem OwnF.rd {B m cap : Nat} {a : Option Addr} {fs : List Fld} {w : World} (h : OwnF B (.slice a m cap) fs w) : m = fs.length ∧ Rd a fs.length 2 (fldsV fs) w := Rd.of_own h
theorem OwnF.base {B B' : Nat} {v : Value} {fs : List Fld} {w : World} (h : OwnF B v fs w) (hB : B' ≤ B) : OwnF B' v fs w := by
  refine ⟨h.1, ?_⟩
  rcases h.2 with h | ⟨g, cp, cur, hv, hg, r⟩
  · exact Or.inl h
  · exact Or.inr ⟨g, cp, cur, hv, by omega, r⟩
theorem app_fld {ops : Array Oper} {rest : List Oper} {o : Oper} {a : Act} {Q : Exit → Act → World → Prop} (B : Nat) (y : Fld) {w : World} {v : Value} {fs : List Fld} (hown : OwnF B v fs w) (hB : B ≤ w.heap.size) (hn : fs.length ≤ 1000000000)
    (hgd : o.guard = none) (s x : Operand) (ho : o.op = .call { callee := .builtin .append, args := #[s, x], argTypes := #[23, 23] })
    (hs : a.eval s = v) (hx : a.eval x = .slice (some ⟨w.heap.size, 0, none⟩) 1 1)
    (hK : ∀ v' w1, OwnF B v' (fs ++ [y]) w1 → Below B w w1 → Far w w1 v v' → wpList Tryd.prog ops Q rest (a.put o.dst v') w1) :
    wpList Tryd.prog ops Q (o :: rest) a (w.alloc (.cells #[.string ⟨y.1.toArray⟩, .string ⟨y.2.toArray⟩] 37)) := by
  refine app_one (z := .agg #[.string ByteArray.empty, .string ByteArray.empty]) (bytes := 32) (n := fs.length) hgd s x 23 37 ho Tryd.underlying23 uFld rfl (by decide) (by decide) B (fldV y) rfl (by intro u hu; simp [fldV] at hu; rcases hu with rfl | rfl <;> rfl) hs hx hown hB hn ?_
  intro v' w1 h1 h2 h3
  refine hK v' w1 ?_ h2 h3
  show World.ownsRow _ _ _ _ _ _ _
  rw [List.length_append, List.length_singleton]
  have : fldsV (fs ++ [y]) = fldsV fs ++ fldV y := by unfold fldsV; simp
  rw [this]
  exact h1
theorem step_fld {ops : Array Oper} {o : Oper} {a : Act} {K : Act → World → Prop} {Q : Exit → Act → World → Prop} {G : Prop} (B : Nat) (y : Fld) {w : World} {v : Value} {fs : List Fld} (hown : OwnF B v fs w) (hB : B ≤ w.heap.size) (hn : fs.length ≤ 1000000000)
    (hgd : o.guard = none) (s x : Operand) (ho : o.op = .call { callee := .builtin .append, args := #[s, x], argTypes := #[23, 23] })
    (hs : a.eval s = v) (hx : a.eval x = .slice (some ⟨w.heap.size, 0, none⟩) 1 1)
    (hK : ∀ v' w1, OwnF B v' (fs ++ [y]) w1 → Below B w w1 → Far w w1 v v' → K (a.put o.dst v') w1) :
    if Region.wanted o (yielded ops a.tmps) = true then Oper.wp Tryd.prog o a (w.alloc (.cells #[.string ⟨y.1.toArray⟩, .string ⟨y.2.toArray⟩] 37)) K Q else G := by
  refine step_app_one (z := .agg #[.string ByteArray.empty, .string ByteArray.empty]) (bytes := 32) (n := fs.length) hgd s x 23 37 ho Tryd.underlying23 uFld rfl (by decide) (by decide) B (fldV y) rfl (by intro u hu; simp [fldV] at hu; rcases hu with rfl | rfl <;> rfl) hs hx hown hB hn ?_
  intro v' w1 h1 h2 h3
  refine hK v' w1 ?_ h2 h3
  show World.ownsRow _ _ _ _ _ _ _
  rw [List.length_append, List.length_singleton]
  have : fldsV (fs ++ [y]) = fldsV fs ++ fldV y := by unfold fldsV; simp
  rw [this]
  exact h1
/-- Fields that are handed back in a slice of the call's own. -/
def FieldsPost (w : World) (fs : List Fld) (e : Ending) (w' : World) : Prop :=
  ∃ a cap, e = .returned (.slice a fs.length cap) ∧ OwnF w.heap.size (.slice a fs.length cap) fs w' ∧ Below w.heap.size w w'
end Go.Proofs.YthppcaoldobocaaDoor
