/- Directives: the plain law. -/
import Derived.Test.YtfoabdpfadgafaaDoorSpec1
import Derived.Test.YtfoabdpfadgafaaDoorSplitSpec
import Derived.Test.YtfoabdpfadgafaaDoorTrim
import Derived.Test.YtfoabdpfadgafaaDoorRd
import Derived.Lib.IndexMore
namespace Go.Proofs.YtfoabdpfadgafaaDoor
open Go.RowKit

/-- A directive: its name, its value, has it one, whom it is for. -/
structure Dir where
  name : List UInt8
  value : List UInt8
  has : Bool
  for_ : List UInt8
deriving DecidableEq
def dirV (d : Dir) : List Value := [.string ⟨d.name.toArray⟩, .string ⟨d.value.toArray⟩, .bool d.has, .string ⟨d.for_.toArray⟩]
def dirsV (xs : List Dir) : List Value := xs.flatMap dirV
theorem dirsV_len (xs : List Dir) : (dirsV xs).length = xs.length * 4 := by
  unfold dirsV
  induction xs with
  | nil => rfl
  | cons x r ih => rw [List.flatMap_cons, List.length_append, ih, List.length_cons]; show 4 + _ = _; omega
theorem dirsV_at : ∀ (xs : List Dir) (k : Nat) (hk : k < xs.length), (dirsV xs)[k * 4]? = some (.string ⟨(xs[k]).name.toArray⟩) ∧ (dirsV xs)[k * 4 + 1]? = some (.string ⟨(xs[k]).value.toArray⟩) ∧ (dirsV xs)[k * 4 + 2]? = some (.bool (xs[k]).has) ∧ (dirsV xs)[k * 4 + 3]? = some (.string ⟨(xs[k]).for_.toArray⟩)
  | [], k, hk => by simp at hk
  | x :: r, 0, _ => by unfold dirsV; simp [dirV]
  | x :: r, k + 1, hk => by
    have ih := dirsV_at r k (by simpa using hk)
    unfold dirsV at ih ⊢
    rw [List.flatMap_cons, show (k + 1) * 4 = k * 4 + 4 from by omega]
    have e : ∀ j, (dirV x ++ r.flatMap dirV)[j + 4]? = (r.flatMap dirV)[j]? := fun j => by rw [List.getElem?_append_right (by show 4 ≤ _; omega)]; rfl
    rw [show k * 4 + 4 + 1 = (k * 4 + 1) + 4 from by omega, show k * 4 + 4 + 2 = (k * 4 + 2) + 4 from by omega, show k * 4 + 4 + 3 = (k * 4 + 3) + 4 from by omega, e, e, e, e]
    simpa using ih
theorem Rd.dir {A : Option Addr} {n : Nat} {xs : List Dir} {w : World} (h : Rd A n 4 (dirsV xs) w) : n = xs.length := by
  have := h.1; rw [dirsV_len] at this; omega
theorem Rd.dir_at {A : Option Addr} {n k : Nat} {xs : List Dir} {w : World} (h : Rd A n 4 (dirsV xs) w) (hk : k < xs.length) :
    ∃ b o, A = some ⟨b, o, none⟩ ∧ b < w.heap.size ∧ w.cell? ⟨b, o + k * 4, none⟩ = some (.string ⟨(xs[k]).name.toArray⟩) ∧ w.cell? ⟨b, o + k * 4 + 1, none⟩ = some (.string ⟨(xs[k]).value.toArray⟩) ∧ w.cell? ⟨b, o + k * 4 + 2, none⟩ = some (.bool (xs[k]).has) ∧ w.cell? ⟨b, o + k * 4 + 3, none⟩ = some (.string ⟨(xs[k]).for_.toArray⟩) := by
  obtain ⟨b, o, e, hl, hc⟩ := h.2 (by rw [h.dir]; omega)
  have := dirsV_at xs k hk
  exact ⟨b, o, e, hl, hc _ _ this.1, hc _ _ this.2.1, hc _ _ this.2.2.1, hc _ _ this.2.2.2⟩

/-- What a piece says. -/
def saidO (p : List UInt8) : Option Dir :=
  bif !tokenL (Lib.cut p [61]).1 then none
  else bif (Lib.cut p [61]).2.2 && !tokenL (Lib.cut p [61]).2.1 then (unqP (Lib.cut p [61]).2.1).map fun s => ⟨lowerL (Lib.cut p [61]).1, s, true, []⟩
  else some ⟨lowerL (Lib.cut p [61]).1, (Lib.cut p [61]).2.1, (Lib.cut p [61]).2.2, []⟩
def noStore : List UInt8 := [110, 111, 45, 115, 116, 111, 114, 101]
/-- The pieces of a value. -/
def pcsL (v : List UInt8) : List (List UInt8) := bif (splitL 44 v).2 == 0 then (splitL 44 v).1 else [noStore]
def dirsOf (v : List UInt8) : List Dir := (pcsL v).filterMap saidO
def dlistL (vs : List (List UInt8)) : List Dir := vs.flatMap dirsOf
def findO (xs : List Dir) (nm : List UInt8) : Option Dir := xs.find? fun d => lowerL d.name == lowerL nm
end Go.Proofs.YtfoabdpfadgafaaDoor
