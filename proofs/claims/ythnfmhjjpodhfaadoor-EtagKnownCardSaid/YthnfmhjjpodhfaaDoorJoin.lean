/- strings.Join over a slice that the call made. -/
import Derived.Test.YthnfmhjjpodhfaaDoorStaysSpec
import Derived.Test.YthnfmhjjpodhfaaDoorOwn
namespace Go.Proofs.YthnfmhjjpodhfaaDoor
open Go.RowKit

theorem join_any (B cap : Nat) (a : Option Addr) (ls : List (List UInt8)) (sep : ByteArray) (w : World) (h : OwnS B (.slice a ls.length cap) ls w) (h1 : ls.length ≤ 1000000) (h2 : total ls + ls.length * sep.size ≤ 100000000000) :
    Calls Tryd.prog 46 #[.slice a ls.length cap, .string sep] w fun e w' => e = .returned (.string ⟨(Lib.join ls sep.data.toList).toArray⟩) ∧ Below w.heap.size w w' := by
  obtain ⟨_, hcap, hg⟩ := h.room
  cases ls with
  | nil =>
    refine (Tryd.strings_Join_none a cap sep w).mono ?_
    rintro e w' ⟨rfl, rfl⟩
    exact ⟨rfl, Below.refl _ _⟩
  | cons x r =>
    obtain ⟨g, rfl, hgl⟩ := hg (by simp)
    have hmap : ((x :: r).map fun l => (⟨l.toArray⟩ : ByteArray)).map (·.data.toList) = x :: r := by
      rw [List.map_map]; have : ((fun b : ByteArray => b.data.toList) ∘ fun l : List UInt8 => (⟨l.toArray⟩ : ByteArray)) = id := by funext l; simp
      rw [this, List.map_id]
    have hj := join_le sep.data.toList (x :: r)
    rw [← Lib.size_eq] at hj
    have k := Tryd.strings_Join g 0 cap ((x :: r).map fun l => (⟨l.toArray⟩ : ByteArray)) sep w (by
      intro j y hy
      obtain ⟨hj1, hj2⟩ := List.getElem?_eq_some_iff.1 hy
      have hj3 : j < (x :: r).length := by simpa using hj1
      obtain ⟨g', e, hc, _⟩ := h.cell j hj3
      cases e
      rw [Nat.zero_add, hc, ← hj2, List.getElem_map]) hgl (by rw [List.length_map]; omega) (by rw [List.length_map]; omega) (by rw [hmap]; omega)
    rw [hmap, List.length_map] at k
    exact k
end Go.Proofs.YthnfmhjjpodhfaaDoor
