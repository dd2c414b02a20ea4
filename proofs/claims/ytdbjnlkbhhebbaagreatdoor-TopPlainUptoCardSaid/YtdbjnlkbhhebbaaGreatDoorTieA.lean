/- The tie of TopPlain's listed variables, fact by fact: what is named, and its kinds. -/
import Derived.Test.YtdbjnlkbhhebbaaGreatDoorRows
import Derived.LaidByTextLater
import Derived.SevenTiedAt
set_option linter.all false
namespace Go.Proofs.YtdbjnlkbhhebbaaGreatDoor
open Go
set_option maxRecDepth 100000

abbrev tl : List (String × DataW Unit) := [("internal/strconv.uint64pow10", Rows.laid_internal_strconv_uint64pow10), ("math/bits.deBruijn32tab", Rows.laid_math_bits_deBruijn32tab), ("math/bits.deBruijn64tab", Rows.laid_math_bits_deBruijn64tab), ("unicode/utf8.acceptRanges", Rows.laid_unicode_utf8_acceptRanges), ("strconv.ErrSyntax", Rows.laid_strconv_ErrSyntax), ("strconv.ErrRange", Rows.laid_strconv_ErrRange), ("strings.asciiSpace", Rows.laid_strings_asciiSpace), ("unicode.White_Space", Rows.laid_unicode_White_Space)]
abbrev tlK : List LaidKind := [.data, .data, .data, .data, .sentinel, .sentinel, .data, .listed]
def plc : MemPlace → Nat
  | .cell b o => (b * 512 + o) * 2
  | .map b => b * 2 + 1
def bitsB : Nat → List Nat → Bool
  | _, [] => true
  | m, x :: r => !(m.testBit x) && bitsB (m ||| (1 <<< x)) r
theorem bitsB_nodup : ∀ (l : List Nat) (m : Nat), bitsB m l = true → (∀ x ∈ l, m.testBit x = false) ∧ l.Nodup
  | [], _, _ => ⟨fun x hx => by simp at hx, List.nodup_nil⟩
  | x :: r, m, h => by
    unfold bitsB at h
    rw [Bool.and_eq_true] at h
    obtain ⟨h1, h2⟩ := bitsB_nodup r _ h.2
    have hx : m.testBit x = false := by simpa using h.1
    have hb : ∀ y ∈ r, m.testBit y = false ∧ y ≠ x := by
      intro y hy
      have := h1 y hy
      rw [Nat.testBit_or, Bool.or_eq_false_iff] at this
      refine ⟨this.1, ?_⟩
      rintro rfl
      have h3 := this.2
      rw [Nat.one_shiftLeft, Nat.testBit_two_pow_self] at h3
      cases h3
    refine ⟨fun y hy => ?_, List.nodup_cons.2 ⟨fun hm => (hb x hm).2 rfl, h2⟩⟩
    rcases List.mem_cons.1 hy with rfl | hy
    · exact hx
    · exact (hb y hy).1
theorem plc_nodup {ps : List MemPlace} (h : bitsB 0 (ps.map plc) = true) : ps.Nodup := by
  have := (bitsB_nodup _ 0 h).2
  unfold List.Nodup at *
  rw [List.pairwise_map] at this
  exact this.imp fun h e => h (by rw [e])

theorem tf_w : Tryz.prog.worded (varsWordLater true) = true := by kernel_rfl
theorem tf_w2 : Tryz.prog.worded (varsWordLater !true) = false := by kernel_rfl
theorem tf_root : Tryz.prog.worded rootWordLater = true := by kernel_rfl
theorem tf_k : tl.map (fun x => Tryz.prog.kindOfLater x.1) = tlK.map some := by kernel_rfl
theorem tf_g : (Tryz.prog.funcNamed "gosem.cut.vars").isSome = true := by kernel_rfl
theorem tf_n : varsNamedLaterB Tryz.prog (varsId Tryz.prog) tl = true := by kernel_rfl
end Go.Proofs.YtdbjnlkbhhebbaaGreatDoor
