/- A map from texts to counts that the call made; rows that stay where they are while it is written. -/
import Derived.Test.YtdlajobnnnmojaaDoorNamesSpec
import Derived.Test.YtdlajobnnnmojaaDoorOwn
import Derived.Maps.Own
import Derived.Maps.OwnOps
import Derived.Maps.OwnSet
import Derived.Maps.Views
import Derived.Maps.StringElems
namespace Go.Proofs.YtdlajobnnnmojaaDoor
open Go.RowKit Go.WideMaps Go.Maps

theorem kStr : Keyed Tryd.prog 9 := string_keyed Tryd.underlying9
theorem zInt (w : World) : (zeroValue 3).run Tryd.prog w = .ok (.int .i64 0) w := by kernel_rfl
theorem keyStr {l : List UInt8} (h : l.length ≤ 1000000000) : keyOf Tryd.prog 9 (.string ⟨l.toArray⟩) = some (.string l) := by
  have := keyOf_string_mk (P := Tryd.prog) Tryd.underlying9 (s := ⟨l.toArray⟩) (by rw [Lib.size_eq]; show l.length ≤ _; unfold maxLen; omega)
  simpa using this
/-- Block M is a map of counts. -/
def Met (M n : Nat) (f : List UInt8 → Int) (w : World) : Prop :=
  ∃ D : DataW Unit, w.ownsMap Tryd.prog 9 (plainElem Tryd.prog 3) M n D ∧ IsMap D ∧ ∀ l : List UInt8, D.atKey (.string l) (.lit (.int .i64 0)) = .lit (.int .i64 (f l))
theorem Met.start (w : World) : Met w.heap.size 0 (fun _ => 0) (w.alloc (.map #[] 0)) := ⟨.map [], World.ownsMap_made _ _ _ _, isMap_empty, fun l => by simp [DataW.atKey]⟩
theorem Met.kept {M n : Nat} {f : List UInt8 → Int} {w w1 : World} {row : Option Nat} (h : Met M n f w) (hg : w.grownBy w1 row) (hne : some M ≠ row) : Met M n f w1 := by
  obtain ⟨D, h1, h2, h3⟩ := h
  exact ⟨D, h1.kept hg hne, h2, h3⟩
theorem grown_below {w w1 : World} (h : Below w.heap.size w w1) (row : Option Nat) : w.grownBy w1 row := ⟨h.os, h.tape, h.output, h.size, fun k hk _ => h.block k hk⟩
theorem Met.below {M n : Nat} {f : List UInt8 → Int} {w w1 : World} (h : Met M n f w) (hb : Below w.heap.size w w1) : Met M n f w1 := h.kept (grown_below hb none) (by simp)
theorem Met.map {M n : Nat} {f : List UInt8 → Int} {w : World} (h : Met M n f w) : ∃ es c, w.heap[M]? = some (.map es c) := by
  obtain ⟨D, ⟨es, c, h1, _⟩, _⟩ := h
  exact ⟨es, c, h1⟩
theorem not_map {w : World} {M : Nat} {e : TypeId} {size B n : Nat} {v : Value} {xs : List Value} {es : Array MapEntry} {c : Nat} (hm : w.heap[M]? = some (.map es c)) (h : w.ownsRow B e size v n xs) : some M ≠ v.ownBlock := by
  intro he
  rcases h.2 with ⟨rfl, _⟩ | ⟨g, cap, cur, rfl, _, hh, _⟩
  · simp [Value.ownBlock] at he
  · have : g = M := by simpa [Value.ownBlock] using he.symm
    subst this
    rw [hh] at hm; cases hm
theorem Met.far {M n B : Nat} {e : TypeId} {size m : Nat} {f : List UInt8 → Int} {w w1 : World} {v v' : Value} {xs : List Value} (h : Met M n f w) (ho : w.ownsRow B e size v m xs) (hf : Far w w1 v v') : Met M n f w1 := by
  obtain ⟨es, c, hm⟩ := h.map
  exact h.kept hf.1 (not_map hm ho)
theorem Rd.grown {A : Option Addr} {n size : Nat} {xs : List Value} {w w1 : World} {row : Option Nat} (h : Rd A n size xs w) (hg : w.grownBy w1 row) (hne : 0 < n → ∀ g o, A = some ⟨g, o, none⟩ → row ≠ some g) : Rd A n size xs w1 := by
  refine ⟨h.1, fun hn => ?_⟩
  obtain ⟨b, o, e, hl, hc⟩ := h.2 hn
  have hb := hg.block b hl (fun x => hne hn b o e x.symm)
  exact ⟨b, o, e, Nat.lt_of_lt_of_le hl hg.size, fun j u hu => (World.cell?_of_block (a := ⟨b, o + j, none⟩) hb).trans (hc j u hu)⟩
theorem rd_not_map {A : Option Addr} {n size : Nat} {xs : List Value} {w : World} {M : Nat} {es : Array MapEntry} {c : Nat} (h : Rd A n size xs w) (hs : 0 < size) (hm : w.heap[M]? = some (.map es c)) : 0 < n → ∀ g o, A = some ⟨g, o, none⟩ → some M ≠ some g := by
  intro hn g o e he
  obtain ⟨b, o', e', hl, hc⟩ := h.2 hn
  rw [e'] at e
  cases e
  cases he
  have hp : 0 < n * size := Nat.mul_pos hn hs
  have h0 := hc 0 (xs[0]'(by rw [h.1]; exact hp)) (List.getElem?_eq_getElem _)
  simp [World.cell?, hm] at h0
theorem own_grown {B : Nat} {e : TypeId} {size m : Nat} {v : Value} {xs : List Value} {w w1 : World} {row : Option Nat} (h : w.ownsRow B e size v m xs) (hg : w.grownBy w1 row) (hne : row ≠ v.ownBlock ∨ v.ownBlock = none) : w1.ownsRow B e size v m xs := by
  obtain ⟨h1, h2⟩ := h
  refine ⟨h1, ?_⟩
  rcases h2 with h2 | ⟨g, cap, cur, rfl, hb, hh, r⟩
  · exact Or.inl h2
  · refine Or.inr ⟨g, cap, cur, rfl, hb, ?_, r⟩
    have hlt : g < w.heap.size := by
      rcases Nat.lt_or_ge g w.heap.size with h' | h'
      · exact h'
      · simp [Array.getElem?_eq_none h'] at hh
    rw [hg.block g hlt (by
      rcases hne with h | h
      · exact fun x => h x.symm
      · simp [Value.ownBlock] at h)]
    exact hh
end Go.Proofs.YtdlajobnnnmojaaDoor
