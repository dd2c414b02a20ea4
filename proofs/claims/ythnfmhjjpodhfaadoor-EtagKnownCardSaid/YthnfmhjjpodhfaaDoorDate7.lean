/- Dates: all pieces; a text's letters one by one; what a date's pieces can be. -/
import Derived.Test.YthnfmhjjpodhfaaDoorDateOk
import Derived.Laws.RangeString
namespace Go.Proofs.YthnfmhjjpodhfaaDoor
open Go.RowKit
set_option maxRecDepth 100000

def dletters : List Nat := [119, 87, 68, 69, 109, 89, 121, 72, 73, 83, 44, 32, 58, 71, 77, 84, 45]
theorem dtake_any (c : Nat) (hc : c ∈ dletters) (mb : Nat) (m : Mom) (s : ByteArray) (w : World) (hE : DEnv w) (hm : MomAt mb m w) :
    Calls Tryd.prog 56 #[.pointer (some ⟨mb, 0, none⟩), .int .i32 c, .string s] w fun e w' => e = .returned (.tuple #[.string ⟨(dtake m c s.data.toList).2.1.toArray⟩, .bool (dtake m c s.data.toList).2.2]) ∧ ButB mb w w' ∧ MomAt mb (dtake m c s.data.toList).1 w' := by
  unfold dletters at hc
  simp only [List.mem_cons, List.not_mem_nil, or_false] at hc
  rcases hc with rfl | rfl | rfl | rfl | rfl | rfl | rfl | rfl | rfl | rfl | rfl | rfl | rfl | rfl | rfl | rfl | rfl
  · exact dtake119_any mb m s w hE hm
  · exact dtake87_any mb m s w hE hm
  · exact dtake68_any mb m s w hE hm
  · exact dtake69_any mb m s w hE hm
  · exact dtake109_any mb m s w hE hm
  · exact dtake89_any mb m s w hE hm
  · exact dtake121_any mb m s w hE hm
  · exact dtake72_any mb m s w hE hm
  · exact dtake73_any mb m s w hE hm
  · exact dtake83_any mb m s w hE hm
  · exact dtake44_any mb m s w hE hm
  · exact dtake32_any mb m s w hE hm
  · exact dtake58_any mb m s w hE hm
  · exact dtake71_any mb m s w hE hm
  · exact dtake77_any mb m s w hE hm
  · exact dtake84_any mb m s w hE hm
  · exact dtake45_any mb m s w hE hm
/-- The iterator of a text, wherever it lies. -/
def stepI (w : World) (ib : Nat) (s : ByteArray) (p : Nat) : World := { w with heap := w.heap.setIfInBounds ib (.stringIter s p) }
theorem run_next_at {P : Program} (w : World) (ib : Nat) (s : ByteArray) (pos : Nat) (ty : TypeId) (hi : w.heap[ib]? = some (.stringIter s pos)) (h : pos < s.size) (ha : (s[pos]'h).toNat < 128) :
    (Instr.next (.pointer (some ⟨ib, 0, none⟩)) true ty).run P w = .ok (.tuple #[.bool true, .int .i64 pos, .int .i32 (s[pos]'h).toNat]) (stepI w ib s (pos + 1)) := by
  simp only [Instr.next, getObj, setObj, Sem.run_bind, Sem.run, hi, Result.andThen, h, if_true, decode_ascii s pos h ha]
  have hl : ib < w.heap.size := by
    rcases Nat.lt_or_ge ib w.heap.size with h' | h'
    · exact h'
    · simp [Array.getElem?_eq_none h'] at hi
  simp [goInt, stepI]
theorem run_next_stop {P : Program} (w : World) (ib : Nat) (s : ByteArray) (pos : Nat) (ty : TypeId) (hi : w.heap[ib]? = some (.stringIter s pos)) (h : ¬ pos < s.size) :
    (Instr.next (.pointer (some ⟨ib, 0, none⟩)) true ty).run P w = .ok (.tuple #[.bool false]) w := by
  simp [Instr.next, getObj, Sem.run, hi, h]
theorem stepI_same {w : World} {ib p : Nat} {s : ByteArray} (h : ib < w.heap.size) : (stepI w ib s p).heap[ib]? = some (.stringIter s p) := by
  unfold stepI; simp [h]
theorem stepI_other {w : World} {ib p b : Nat} {s : ByteArray} (h : b ≠ ib) : (stepI w ib s p).heap[b]? = w.heap[b]? := by
  unfold stepI; simp [Array.getElem?_setIfInBounds]; intro e; exact absurd e.symm h
theorem stepI_but (w : World) (ib p : Nat) (s : ByteArray) : ButB ib w (stepI w ib s p) := ⟨rfl, rfl, rfl, by simp [stepI], fun _ _ hn => stepI_other hn⟩

theorem dnum4 (l : List UInt8) (h : l.all dg = true) (n : Nat) (hn : l.length ≤ n) (h4 : n = 1 ∨ n = 2 ∨ n = 4) : 0 ≤ dnum l 0 ∧ dnum l 0 ≤ 9999 ∧ (n ≤ 2 → dnum l 0 ≤ 99) := by
  have hb := dnum_le l h 0 (by omega)
  generalize hL : l.length = L at *
  have : L = 0 ∨ L = 1 ∨ L = 2 ∨ L = 3 ∨ L = 4 := by omega
  rcases this with rfl | rfl | rfl | rfl | rfl <;> simp at hb <;> omega
theorem dnumL_le (s : List UInt8) (n : Nat) (h4 : n = 1 ∨ n = 2 ∨ n = 4) : 0 ≤ (dnumL s n).1 ∧ (dnumL s n).1 ≤ 9999 ∧ (n ≤ 2 → (dnumL s n).1 ≤ 99) := by
  unfold dnumL
  cases decide (s.length < n)
  · cases hd : (s.take n).all dg
    · simp
    · simp only [cond_false, cond_true]
      exact dnum4 (s.take n) hd n (by rw [List.length_take]; omega) h4
  · simp
theorem dname_le (s : List UInt8) (n : Nat) : ∀ (ls : List (List UInt8)) (i : Nat), i + ls.length ≤ 7 → 0 ≤ (dname s n ls i).1 ∧ (dname s n ls i).1 ≤ 6
  | [], i, h => by simp [dname]
  | x :: r, i, h => by
    have ih := dname_le s n r (i + 1) (by rw [List.length_cons] at h; omega)
    rw [dname]
    cases Lib.hasPrefix s (bif decide (0 < n) then x.take n else x)
    · exact ih
    · simp only [cond_true]
      rw [List.length_cons] at h
      omega
theorem dtake_ok {m : Mom} (h : MomOk m) (c : Nat) (hc : c ∈ dletters) (s : List UInt8) (h2 : c = 89 → m.two = false) : MomOk (dtake m c s).1 ∧ (c ≠ 121 → (dtake m c s).1.two = m.two) := by
  have n1 := dnumL_le (s.drop 1) 1 (by omega)
  have n2 := dnumL_le s 2 (by omega)
  have n4 := dnumL_le s 4 (by omega)
  have d0 := dname_le s 0 ddays 0 (by decide)
  have d3 := dname_le s 3 ddays 0 (by decide)
  have hx := dindex_range dmonths (s.take 3)
  have hml : dmonths.length = 36 := rfl
  rw [hml] at hx
  obtain ⟨a1, a2, a3, a4, a5, a6, a7, a8⟩ := h
  unfold dletters at hc
  simp only [List.mem_cons, List.not_mem_nil, or_false] at hc
  unfold dtake
  rcases hc with rfl | rfl | rfl | rfl | rfl | rfl | rfl | rfl | rfl | rfl | rfl | rfl | rfl | rfl | rfl | rfl | rfl
  all_goals simp only [Nat.reduceEqDiff, if_true, if_false]
  · exact ⟨⟨by simp only; omega, a2, a3, a4, a5, a6, a7, a8⟩, fun _ => by first | rfl | trivial⟩
  · exact ⟨⟨by simp only; omega, a2, a3, a4, a5, a6, a7, a8⟩, fun _ => by first | rfl | trivial⟩
  · exact ⟨⟨a1, by simp only; omega, a3, a4, a5, a6, a7, a8⟩, fun _ => by first | rfl | trivial⟩
  · split
    · exact ⟨⟨a1, by simp only; omega, a3, a4, a5, a6, a7, a8⟩, fun _ => by first | rfl | trivial⟩
    · exact ⟨⟨a1, by simp only; omega, a3, a4, a5, a6, a7, a8⟩, fun _ => by first | rfl | trivial⟩
  · split
    · exact ⟨⟨a1, a2, a3, a4, a5, a6, a7, a8⟩, fun _ => by first | rfl | trivial⟩
    · exact ⟨⟨a1, a2, by simp only; omega, a4, a5, a6, a7, a8⟩, fun _ => by first | rfl | trivial⟩
  · exact ⟨⟨a1, a2, a3, by simp only; omega, a5, a6, a7, fun h => by rw [h2 rfl] at h; cases h⟩, fun _ => by first | rfl | trivial⟩
  · exact ⟨⟨a1, a2, a3, by simp only; omega, a5, a6, a7, fun _ => by simp only; omega⟩, fun h => by first | exact absurd rfl h | simp at h⟩
  · exact ⟨⟨a1, a2, a3, a4, by simp only; omega, a6, a7, a8⟩, fun _ => by first | rfl | trivial⟩
  · exact ⟨⟨a1, a2, a3, a4, a5, by simp only; omega, a7, a8⟩, fun _ => by first | rfl | trivial⟩
  · exact ⟨⟨a1, a2, a3, a4, a5, a6, by simp only; omega, a8⟩, fun _ => by first | rfl | trivial⟩
  all_goals
    split <;> exact ⟨⟨a1, a2, a3, a4, a5, a6, a7, a8⟩, fun _ => by first | rfl | trivial⟩
end Go.Proofs.YthnfmhjjpodhfaaDoor
