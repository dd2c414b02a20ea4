/- Joined out of the texts Kit, Spec1, Lower, Trim, SplitSpec, Rd, DirSpec, StaysSpec, JoinsSpec, BackDir, Own, OwnD, SameD, OpenT, OpenB, OpenD, MaxL, Cut, Build, Quote, Token, Said, Split, KpRow, Each, DList, Told, Awake11, TokLow, FewD (wip/tools/merge.py). -/
import Derived.Test.YtfjgacankfidmaaDoorRows
import Derived.WalkKit
import Derived.WalkSpells
import Derived.WalkLawsBesides
import Derived.Deep.DeepCutAuto
import Derived.Deep.QuietTactic
import Derived.BigQuiet
import Derived.Lib.Hide
import Derived.Lib.Strings
import Derived.Test.YtfjgacankfidmaaDoorShelf
import Derived.Lib.SlBytesRow
import Derived.Lib.IndexLaws
import Derived.Shelf.Strings.SlTrimAscii
import Derived.Lib.IndexMore
import Derived.Lib.Join
import Derived.Maps.AppendAt
import Derived.OpenShut
import Derived.SizedLaws
import Derived.Deep.Slices
import Derived.SliceStrings
import Derived.ChangeSame
import Derived.ChangeSlices
import Derived.Lib.FrozenHead2
import Derived.Lib.OthersKept
import Derived.Shelf.Strings.BuilderK
import Derived.Laws.ResultCell
import Derived.RangeFuncWrites
import Derived.Laws.Entries
import Derived.RangeFuncNested
import Derived.RangeFuncBound
import Derived.RangeFuncCalls
import Derived.RangeFuncLeaves
import Derived.RangeFuncBox
import Derived.Shelf.Abstract
import Derived.Shelf.RegionOpen
import Derived.OwnWalkIn
import Derived.TacticsInMore
import Derived.LoopNIn
import Derived.LoopIn
import Derived.IntWalk
/- Small lemmas that all walks of this seat use. -/
namespace Go.Proofs.YtfjgacankfidmaaDoor
open Go.RowKit

/-- One call behind the other: nothing that was there at the first has turned. -/
theorem bt {w w1 w2 : World} (h : Below w.heap.size w w1) (k : Below w1.heap.size w1 w2) : Below w.heap.size w w2 := h.trans (k.mono h.size)
theorem ret_int {k : IntKind} {a b : Int} (h : a = b) : Ending.returned (.int k a) = .returned (.int k b) := by rw [h]

/-! Bytes of a string, from the front and to the end. -/
theorem take_snoc (s : ByteArray) (k : Nat) (h : k < s.size) : s.data.toList.take (k + 1) = s.data.toList.take k ++ [s[k]] := by
  rw [List.take_succ_eq_append_getElem (by simpa using h)]; rfl
theorem drop_cons (s : ByteArray) (k : Nat) (h : k < s.size) : s.data.toList.drop k = s[k] :: s.data.toList.drop (k + 1) := by
  rw [List.drop_eq_getElem_cons (by simpa using h)]; rfl
theorem take_all (s : ByteArray) (k : Nat) (h : s.size ≤ k) : s.data.toList.take k = s.data.toList := List.take_of_length_le (by simpa using h)
theorem drop_all (s : ByteArray) (k : Nat) (h : s.size ≤ k) : s.data.toList.drop k = [] := List.drop_eq_nil_of_le (by simpa using h)
theorem all_snoc (p : UInt8 → Bool) (s : ByteArray) (k : Nat) (h : k < s.size) :
    (s.data.toList.take (k + 1)).all p = ((s.data.toList.take k).all p && p s[k]) := by
  rw [take_snoc s k h, List.all_append]; simp
theorem all_bad (p : UInt8 → Bool) (s : ByteArray) (k : Nat) (h : k < s.size) (hb : p s[k] = false) : s.data.toList.all p = false := by
  rw [List.all_eq_false]
  exact ⟨s[k], by show s.data[k] ∈ _; simp, by simp [hb]⟩
theorem str_of (s : ByteArray) : (⟨s.data.toList.toArray⟩ : ByteArray) = s := Lib.mk_data s
theorem str_eq (s t : ByteArray) (h : s.data.toList = t.data.toList) : s = t := by rw [← str_of s, ← str_of t, h]
theorem app_list (o t : ByteArray) : (o ++ t).data.toList = o.data.toList ++ t.data.toList := by simp
theorem ext_one (s : ByteArray) (k : Nat) (h : k < s.size) : (s.extract k (k + 1)).data.toList = [s[k]] := by
  rw [Lib.extract_data, drop_cons s k h]; simp
theorem str_list {o : ByteArray} {l : List UInt8} (h : o.data.toList = l) : o = ⟨l.toArray⟩ := by rw [← h, str_of]
theorem beq_cast (a b : Nat) : (a == b) = ((a : Int) == (b : Int)) := by rw [Bool.eq_iff_iff]; simp only [beq_iff_eq]; omega
theorem mk_at (t : ByteArray) (l : List UInt8) (ht : t = ⟨l.toArray⟩) (j : Nat) (h : j < t.size) (h' : j < l.length) : t[j] = l[j] := by
  subst ht; show (l.toArray)[j] = _; simp
theorem at_list (s : ByteArray) (j : Nat) (h : j < s.size) : s[j] = s.data.toList[j]'(by simpa using h) := by show s.data[j] = _; simp
theorem ne_of_pos (s : ByteArray) (h : 0 < s.size) : s.data.toList.isEmpty = false := by
  cases hq : s.data.toList with
  | nil => rw [Lib.size_eq, hq] at h; exact absurd h (by simp)
  | cons _ _ => rfl
theorem nil_of_zero (s : ByteArray) (h : ¬ 0 < s.size) : s.data.toList = [] := by
  apply List.eq_nil_of_length_eq_zero; rw [← Lib.size_eq]; omega
theorem heap_new (w : World) (o : Obj) (n : Nat) (h : w.heap.size = n) : (w.alloc o).heap[n]? = some o := by
  subst h; show (w.heap.push o)[w.heap.size]? = _; simp
theorem empty_eq : (ByteArray.empty : ByteArray) = ⟨#[]⟩ := rfl
theorem u8_lt (c : UInt8) : (c.toNat : Int) < 256 := by have := c.toNat_lt; omega
end Go.Proofs.YtfjgacankfidmaaDoor
/- What the functions of layer 1 compute, as plain functions on lists of bytes; no program in sight. -/
namespace Go.Proofs.YtfjgacankfidmaaDoor

/-- may a byte be in a quoted text? -/
def plainb (c : UInt8) : Bool := c.toNat == 9 || (decide (32 ≤ c.toNat) && c.toNat != 127)
def esc (c : UInt8) : List UInt8 := bif c.toNat == 34 || c.toNat == 92 then [92, c] else [c]
theorem esc_le (c : UInt8) : (esc c).length ≤ 2 := by unfold esc; cases (c.toNat == 34 || c.toNat == 92) <;> simp
theorem flat_le (l : List UInt8) : (l.flatMap esc).length ≤ 2 * l.length := by
  induction l with
  | nil => simp
  | cons x r ih => have := esc_le x; rw [List.flatMap_cons, List.length_append, List.length_cons]; omega
def quoted (s : ByteArray) : List UInt8 := 34 :: (s.data.toList.flatMap esc ++ [34])
def two (l : Option (List UInt8)) : Value := match l with
  | some l => .tuple #[.string ⟨l.toArray⟩, .int .i64 0]
  | none => .tuple #[.string ⟨#[]⟩, .int .i64 4]
/-- Quote. -/
def quoteO (s : ByteArray) : Option (List UInt8) := bif s.data.toList.all plainb then some (quoted s) else none

/-- What the pieces say, byte by byte: the flag tells whether a byte 92 stands ahead. -/
def unq : Bool → List UInt8 → Option (List UInt8)
  | b, [] => bif b then none else some []
  | b, c :: r =>
    bif !plainb c || (c.toNat == 34 && !b) then none
    else bif c.toNat == 92 && !b then unq true r
    else (unq false r).map (c :: ·)
/-- Unquote: the program's way: both ends first, then what is between them. -/
def unqP (l : List UInt8) : Option (List UInt8) :=
  bif decide (2 ≤ l.length) && (l.head?.getD 0).toNat == 34 && (l.getLast?.getD 0).toNat == 34 then unq false (l.drop 1).dropLast else none
/-- Unquote: the document's way: piece by piece up to the closing mark. -/
def unqD : List UInt8 → Option (List UInt8)
  | [] => none
  | [c] => bif c.toNat == 34 then some [] else none
  | c :: d :: r =>
    bif c.toNat == 34 then none
    else bif c.toNat == 92 then (bif plainb d then (unqD r).map (d :: ·) else none)
    else (bif plainb c then (unqD (d :: r)).map (c :: ·) else none)
def unqR (l : List UInt8) : Option (List UInt8) := match l with
  | [] => none
  | c :: r => bif c.toNat == 34 then unqD r else none

/-- Both ways agree. -/
theorem unqD_eq : ∀ (n : Nat) (l : List UInt8), l.length ≤ n → unqD l = bif decide (1 ≤ l.length) && (l.getLast?.getD 0).toNat == 34 then unq false l.dropLast else none
  | _, [], _ => rfl
  | _, [c], _ => by by_cases h : c.toNat = 34 <;> simp [unqD, h, unq]
  | 0, c :: d :: r, h => by simp at h
  | n + 1, c :: d :: r, h => by
    have ih1 := unqD_eq n (d :: r) (by simp at *; omega)
    have ih2 := unqD_eq n r (by simp at *; omega)
    have hl : (c :: d :: r).getLast? = (d :: r).getLast? := by simp [List.getLast?_cons_cons]
    have hd : (c :: d :: r).dropLast = c :: (d :: r).dropLast := by simp
    rw [hl, hd, unqD]
    cases h34 : (c.toNat == 34)
    · cases h92 : (c.toNat == 92)
      · rw [ih1]
        cases hp : plainb c <;> cases hq : (((d :: r).getLast?.getD 0).toNat == 34)
        all_goals simp [unq, h34, h92, hp]
      · have hc : plainb c = true := by simp at h92; simp [plainb, h92]
        cases r with
        | nil =>
          cases hp : plainb d <;> cases hq : (d.toNat == 34)
          all_goals simp [h92, h34, unq, unqD, hc, hq]
        | cons e r =>
          have hl2 : (d :: e :: r).getLast? = (e :: r).getLast? := by simp [List.getLast?_cons_cons]
          have hd2 : (d :: e :: r).dropLast = d :: (e :: r).dropLast := by simp
          rw [hl2, hd2, ih2]
          cases hp : plainb d <;> cases hq : (((e :: r).getLast?.getD 0).toNat == 34)
          all_goals simp [h92, h34, unq, hc, hp]
    · have h92 : (c.toNat == 92) = false := by simp at h34; simp [h34]
      have hc : plainb c = true := by simp at h34; simp [plainb, h34]
      simp [unq, h34, h92, hc]
theorem unqP_eq (l : List UInt8) : unqP l = unqR l := by
  cases l with
  | nil => rfl
  | cons c r =>
    unfold unqR unqP
    simp only [List.drop_one, List.tail_cons]
    rw [unqD_eq r.length r (Nat.le_refl _)]
    cases r with
    | nil => simp
    | cons d r =>
      have hl : (c :: d :: r).getLast? = (d :: r).getLast? := by simp [List.getLast?_cons_cons]
      rw [hl]
      cases h : (c.toNat == 34) <;> cases hq : (((d :: r).getLast?.getD 0).toNat == 34)
      all_goals simp [h]

/-- Lower. -/
def lowb (c : UInt8) : UInt8 := bif decide (65 ≤ c.toNat) && decide (c.toNat ≤ 90) then c + 32 else c
def lowerL (l : List UInt8) : List UInt8 := l.map lowb
/-- a token's byte -/
def markL : List UInt8 := [33, 35, 36, 37, 38, 39, 42, 43, 45, 46, 94, 95, 96, 124, 126]
def letterb (c : UInt8) : Bool := (decide (97 ≤ c.toNat) && decide (c.toNat ≤ 122)) || (decide (65 ≤ c.toNat) && decide (c.toNat ≤ 90)) || (decide (48 ≤ c.toNat) && decide (c.toNat ≤ 57))
def wordb (c : UInt8) : Bool := letterb c || markL.contains c
def tokenL (l : List UInt8) : Bool := l.all wordb && !l.isEmpty
end Go.Proofs.YtfjgacankfidmaaDoor
/- The walk of text.Lower. -/
namespace Go.Proofs.YtfjgacankfidmaaDoor
open Go.RowKit

/-- The bytes with the first k made small. -/
def lowTo (s : ByteArray) (k : Nat) : ByteArray := ⟨((s.data.toList.take k).map lowb ++ s.data.toList.drop k).toArray⟩
theorem lowTo_size (s : ByteArray) (k : Nat) : (lowTo s k).size = s.size := by
  unfold lowTo; rw [Lib.size_eq, Lib.size_eq]; simp only [List.length_append, List.length_map, List.length_take, List.length_drop]; omega
theorem lowTo_zero (s : ByteArray) : lowTo s 0 = s := by unfold lowTo; simp
theorem lowTo_end (s : ByteArray) : lowTo s s.size = ⟨(lowerL s.data.toList).toArray⟩ := by
  unfold lowTo lowerL; rw [take_all s _ (Nat.le_refl _), drop_all s _ (Nat.le_refl _), List.append_nil]
theorem lowTo_at (s : ByteArray) (k j : Nat) (h : j < s.size) (h' : j < (lowTo s k).size) : (lowTo s k)[j] = if j < k then lowb s[j] else s[j] := by
  have hl : j < ((s.data.toList.take k).map lowb ++ s.data.toList.drop k).length := by
    rw [List.length_append, List.length_map, List.length_take, List.length_drop, ← Lib.size_eq]; omega
  rw [mk_at (lowTo s k) _ rfl j h' hl, at_list s j h]
  by_cases hk : j < k
  · rw [if_pos hk, List.getElem_append_left (by rw [List.length_map, List.length_take, ← Lib.size_eq]; omega)]
    simp only [List.getElem_map, List.getElem_take]
  · rw [if_neg hk, List.getElem_append_right (by rw [List.length_map, List.length_take, ← Lib.size_eq]; omega)]
    simp only [List.getElem_drop]; congr 1
    rw [List.length_map, List.length_take, ← Lib.size_eq]; omega

/-- A row of bytes in block b that may be written. -/
structure RowAt (b : Nat) (s : ByteArray) (w : World) : Prop where
  cells : Lib.Bytes w b 0 s
  free : ∀ i, i < s.size → w.frozen? ⟨b, i, none⟩ = false

theorem RowAt.fresh (s : ByteArray) (cap : Nat) (w : World) :
    RowAt w.heap.size s (w.alloc (.cells (bytesRow s cap) 5 ((bytesRow s cap).size, (bytesRow s cap).size + 1))) := by
  refine ⟨fun i h => ?_, fun i h => ?_⟩
  · rw [Nat.zero_add, World.cell?_alloc_mark, bytesRow_at s cap i h]; rfl
  · rw [World.frozen?_alloc_mark]
    have : s.size ≤ (bytesRow s cap).size := by unfold bytesRow; simp
    simp; omega
theorem RowAt.drew {b : Nat} {s : ByteArray} {w : World} (h : RowAt b s w) : RowAt b s w.drew := ⟨fun i hi => h.cells i hi, fun i hi => h.free i hi⟩
theorem RowAt.same {b k : Nat} {s : ByteArray} {w : World} (h : RowAt b (lowTo s k) w) (hk : k < s.size) (e : lowb s[k] = s[k]) : RowAt b (lowTo s (k + 1)) w := by
  refine ⟨fun i hi => ?_, fun i hi => h.free i (by rw [lowTo_size] at *; exact hi)⟩
  have hi2 : i < s.size := by rw [lowTo_size] at hi; exact hi
  rw [h.cells i (by rw [lowTo_size]; exact hi2), lowTo_at s k i hi2, lowTo_at s (k + 1) i hi2]
  by_cases h1 : i < k
  · rw [if_pos h1, if_pos (by omega)]
  · rw [if_neg h1]
    by_cases h2 : i = k
    · subst h2; rw [if_pos (by omega), e]
    · rw [if_neg (by omega)]
theorem RowAt.put {b k : Nat} {s : ByteArray} {w : World} (h : RowAt b (lowTo s k) w) (hk : k < s.size) {n : Int} (e : ((lowb s[k]).toNat : Int) = n) : RowAt b (lowTo s (k + 1)) (w.setCell ⟨b, k, none⟩ (.int .u8 n)) := by
  refine ⟨fun i hi => ?_, fun i hi => ?_⟩
  · have hi2 : i < s.size := by rw [lowTo_size] at hi; exact hi
    have hc := h.cells i (by rw [lowTo_size]; exact hi2)
    rw [Nat.zero_add] at hc ⊢
    rw [lowTo_at s (k + 1) i hi2]
    by_cases h2 : i = k
    · subst h2
      rw [World.cell?_setCell_same _ _ _ hc, if_pos (by omega), e]
    · rw [World.cell?_setCell_other _ _ _ _ (by intro e; cases e; exact h2 rfl), hc, lowTo_at s k i hi2]
      by_cases h1 : i < k
      · rw [if_pos h1, if_pos (by omega)]
      · rw [if_neg h1, if_neg (by omega)]
  · rw [World.frozen?_setCell]; exact h.free i (by rw [lowTo_size] at *; exact hi)
theorem RowAt.at {b k : Nat} {s : ByteArray} {w : World} (h : RowAt b (lowTo s k) w) (hk : k < s.size) : w.cell? ⟨b, k, none⟩ = some (.int .u8 s[k].toNat) := by
  have hc := h.cells k (by rw [lowTo_size]; exact hk)
  rw [Nat.zero_add] at hc
  rw [hc, lowTo_at s k k hk, if_neg (by omega)]

theorem lowb_no (c : UInt8) (h : (decide (65 ≤ (c.toNat : Int)) && decide ((c.toNat : Int) ≤ 90)) = false) : lowb c = c := by
  have : (decide (65 ≤ c.toNat) && decide (c.toNat ≤ 90)) = false := by rw [← h, Bool.eq_iff_iff]; simp; omega
  unfold lowb; rw [this]; rfl
theorem lowb_yes (c : UInt8) (h1 : decide (65 ≤ (c.toNat : Int)) = true) (h2 : decide ((c.toNat : Int) ≤ 90) = true) : ((lowb c).toNat : Int) = (c.toNat : Int) + 32 := by
  have : (decide (65 ≤ c.toNat) && decide (c.toNat ≤ 90)) = true := by simp at *; omega
  unfold lowb; rw [this, cond_true]
  have : c.toNat ≤ 90 := by simp at h2; omega
  rw [UInt8.toNat_add]; simp; omega

set_option maxRecDepth 100000 in
set_option maxHeartbeats 2000000 in
theorem lower_wide (s : ByteArray) (w : World) (hs : s.size ≤ 140737488351232) :
    Calls Tryd.prog 6 #[.string s] w fun e w' => e = .returned (.string ⟨(lowerL s.data.toList).toArray⟩) ∧ Below w.heap.size w w' := by
  have hcv := run_bytes_of_string (P := Tryd.prog) w 9 23 5 s Tryd.underlying9 Tryd.underlying23 Tryd.underlying5
  have hfr := RowAt.fresh s (grownCap w s.size 0 5) w
  have hbl : Below w.heap.size w (w.alloc (.cells (bytesRow s (grownCap w s.size 0 5)) 5 ((bytesRow s (grownCap w s.size 0 5)).size, (bytesRow s (grownCap w s.size 0 5)).size + 1))) := (Below.refl _ w).alloc (Nat.le_refl _) _
  generalize grownCap w s.size 0 5 = cap at *
  generalize Obj.cells (bytesRow s cap) 5 ((bytesRow s cap).size, (bytesRow s cap).size + 1) = row at *
  have HF := Lib.hid hfr; have HL := Lib.hid hbl; clear hfr hbl
  go_enter Tryd.func6, Tryd.ntmps6
  go_wp2
  clear hcv
  go_loopw [9] (fun i wr => ∃ k : Nat, k ≤ s.size ∧ i = .int .i64 k ∧ RowAt w.heap.size (lowTo s k) wr ∧ Below w.heap.size w wr) (fun i _ => s.size - (intOf i).toNat)
  case atStart => exact ⟨0, Nat.zero_le _, rfl, by rw [lowTo_zero]; exact HF.out.drew, HL.out.drew⟩
  case round =>
    obtain ⟨k, hk, rfl, hR, hbw⟩ := hrel
    have HR := Lib.hid hR; clear hR
    by_cases hlt : k < s.size
    · have hc := HR.out.at hlt
      have hz := HR.out.free k (by rw [lowTo_size]; exact hlt)
      have hu := u8_lt s[k]
      cases c1 : decide (65 ≤ (s[k].toNat : Int)) <;> cases c2 : decide ((s[k].toNat : Int) ≤ 90)
      · exfalso; simp at c1 c2; omega
      · have hl := lowb_no s[k] (by rw [c1, c2]; rfl)
        have Hl := Lib.hid hl; clear hl
        go_wp2
        go_roundw
        case rel => exact ⟨k + 1, by omega, by go_num, HR.out.same hlt Hl.out, hbw⟩
        case measure => simp [intOf]; omega
      · have hl := lowb_no s[k] (by rw [c1, c2]; rfl)
        have Hl := Lib.hid hl; clear hl
        go_wp2
        go_roundw
        case rel => exact ⟨k + 1, by omega, by go_num, HR.out.same hlt Hl.out, hbw⟩
        case measure => simp [intOf]; omega
      · have hl := lowb_yes s[k] c1 c2
        have Hl := Lib.hid hl; clear hl
        have hu2 : (s[k].toNat : Int) ≤ 90 := by simp at c2; omega
        go_wp2
        go_roundw
        case rel => exact ⟨k + 1, by omega, by go_num, HR.out.put hlt Hl.out, hbw.setCell (Nat.le_refl _) _⟩
        case measure => simp [intOf]; omega
    · have hke : k = s.size := by omega
      have hb := Lib.run_convert_whole (P := Tryd.prog) wr 23 5 9 Tryd.underlying23 Tryd.underlying5 Tryd.underlying9 w.heap.size 0 (lowTo s k) HR.out.cells cap
      rw [lowTo_size] at hb
      have hfin : lowTo s k = ⟨(lowerL s.data.toList).toArray⟩ := by rw [hke, lowTo_end]
      have Hf := Lib.hid hfin; clear hfin
      generalize lowTo s k = t at *
      have Hke := Lib.hid hke; clear hke
      go_wp2
      go_ret
      exact ⟨by rw [← Hf.out]; rfl, hbw⟩
theorem lower_any (s : ByteArray) (w : World) (hs : s.size ≤ 1000000) :
    Calls Tryd.prog 6 #[.string s] w fun e w' => e = .returned (.string ⟨(lowerL s.data.toList).toArray⟩) ∧ Below w.heap.size w w' := lower_wide s w (by omega)
end Go.Proofs.YtfjgacankfidmaaDoor
/- The walk of text.Trim. -/
namespace Go.Proofs.YtfjgacankfidmaaDoor
open Go.RowKit

def blanks : List UInt8 := [32, 9]
def trimL (l : List UInt8) : List UInt8 := Lib.trimS l blanks
theorem trimL_le (l : List UInt8) : (trimL l).length ≤ l.length := by
  have h1 : ∀ m : List UInt8, (Lib.trimLeftS m blanks).length ≤ m.length := fun m => (List.dropWhile_sublist _).length_le
  have h2 : ∀ m : List UInt8, (Lib.trimRightS m blanks).length ≤ m.length := fun m => by
    unfold Lib.trimRightS; rw [List.length_reverse]
    exact Nat.le_trans (List.dropWhile_sublist _).length_le (by rw [List.length_reverse]; exact Nat.le_refl _)
  exact Nat.le_trans (h1 _) (h2 _)

set_option maxHeartbeats 1000000 in
theorem trim_any (s : ByteArray) (w : World) (hs : s.size ≤ 1000000) :
    Calls Tryd.prog 34 #[.string s] w fun e w' => e = .returned (.string ⟨(trimL s.data.toList).toArray⟩) ∧ Below w.heap.size w w' := by
  have hcon := Any.strings_Trim_laid Tryd.lays160 (by kernel_rfl) s ⟨#[32, 9]⟩ w (by omega) (by decide) (ascii_of_all (by decide))
  have HC := Lib.hid hcon; clear hcon
  go_enter Tryd.func34, Tryd.ntmps34
  go_wp2_with (go_at_call 38; refine HC.out.mono ?_; rintro e w' ⟨rfl, hb⟩)
  go_ret
  exact ⟨rfl, hb⟩
end Go.Proofs.YtfjgacankfidmaaDoor
/- What text.Split computes, and the document's way: plain functions on lists of bytes. -/
namespace Go.Proofs.YtfjgacankfidmaaDoor

def addP (ls : List (List UInt8)) (p : List UInt8) : List (List UInt8) := bif p.isEmpty then ls else ls ++ [p]
theorem addP_le (ls : List (List UInt8)) (p : List UInt8) : (addP ls p).length ≤ ls.length + 1 := by
  unfold addP; cases p.isEmpty <;> simp
def splP (sep : UInt8) : Bool → Bool → List UInt8 → List (List UInt8) → List UInt8 → Option (List (List UInt8))
  | o, _, cur, ls, [] => bif o then none else some (addP ls (trimL cur))
  | o, b, cur, ls, c :: r =>
    bif b then splP sep o false (cur ++ [c]) ls r
    else bif o && c.toNat == 92 then splP sep o true (cur ++ [c]) ls r
    else bif c.toNat == 34 then splP sep (!o) false (cur ++ [c]) ls r
    else bif c.toNat == sep.toNat && !o then splP sep o false [] (addP ls (trimL cur)) r
    else splP sep o false (cur ++ [c]) ls r
/-- The pieces and the error's number. -/
def splitE (t : Option (List (List UInt8))) : List (List UInt8) × Int := match t with
  | none => ([], 4)
  | some ls => bif decide (64 < ls.length) then ([], 3) else (ls, 0)
def splitL (sep : UInt8) (l : List UInt8) : List (List UInt8) × Int :=
  bif sep.toNat == 34 || sep.toNat == 92 then ([], 2) else splitE (splP sep false false [] [] l)

/-- The document's way: which bytes stand in quotes; is one open at the end? -/
def fl : Bool → Bool → List UInt8 → List Bool
  | _, _, [] => []
  | o, b, c :: r => (o || c.toNat == 34) :: (bif b then fl o false r else bif o && c.toNat == 92 then fl o true r else bif c.toNat == 34 then fl (!o) false r else fl o false r)
def en : Bool → Bool → List UInt8 → Bool
  | o, _, [] => o
  | o, b, c :: r => bif b then en o false r else bif o && c.toNat == 92 then en o true r else bif c.toNat == 34 then en (!o) false r else en o false r
def spR (sep : UInt8) : List UInt8 → List (List UInt8) → List UInt8 → List Bool → List (List UInt8)
  | cur, ls, c :: r, f :: fs => bif (c.toNat != sep.toNat) || f then spR sep (cur ++ [c]) ls r fs else spR sep [] (addP ls (trimL cur)) r fs
  | cur, ls, _, _ => addP ls (trimL cur)
theorem fl_length : ∀ (l : List UInt8) (o b : Bool), (fl o b l).length = l.length
  | [], _, _ => rfl
  | c :: r, o, b => by
    simp only [fl, List.length_cons]
    congr 1
    cases b <;> cases (o && c.toNat == 92) <;> cases (c.toNat == 34) <;> simp [fl_length r]
theorem spl_eq (sep : UInt8) (hs : (sep.toNat == 34) = false) : ∀ (l : List UInt8) (o b : Bool) (cur : List UInt8) (ls : List (List UInt8)), (b = true → o = true) →
    splP sep o b cur ls l = bif en o b l then none else some (spR sep cur ls l (fl o b l))
  | [], o, b, cur, ls, _ => by simp [splP, en, spR]
  | c :: r, o, b, cur, ls, h => by
    have hne : (c.toNat == 34) = true → (c.toNat != sep.toNat) = true := by
      intro e; simp at e hs ⊢; omega
    have i1 := spl_eq sep hs r
    cases b
    · cases o
      · cases h34 : (c.toNat == 34)
        · cases hc : (c.toNat == sep.toNat)
          · have : (c.toNat != sep.toNat) = true := by simp [bne, hc]
            simp [splP, en, spR, fl, h34, hc, this, i1]
          · have : (c.toNat != sep.toNat) = false := by simp [bne, hc]
            simp [splP, en, spR, fl, h34, hc, this, i1]
        · simp [splP, en, spR, fl, h34, i1]
      · cases h92 : (c.toNat == 92)
        · cases h34 : (c.toNat == 34)
          · simp [splP, en, spR, fl, h34, h92, i1]
          · simp [splP, en, spR, fl, h34, h92, i1]
        · simp [splP, en, spR, fl, h92, i1]
    · have ho := h rfl
      subst ho
      simp [splP, en, spR, fl, i1]
theorem spl_count (sep : UInt8) : ∀ (l : List UInt8) (o b : Bool) (cur : List UInt8) (ls ps : List (List UInt8)), splP sep o b cur ls l = some ps → ps.length ≤ ls.length + l.length + 1
  | [], o, b, cur, ls, ps, h => by
    cases o
    · simp [splP] at h; subst h; have := addP_le ls (trimL cur); simp; omega
    · simp [splP] at h
  | c :: r, o, b, cur, ls, ps, h => by
    have ih := spl_count sep r
    have ha := addP_le ls (trimL cur)
    rw [splP] at h
    rw [List.length_cons]
    cases b
    · simp only [cond_false] at h
      cases hx : (o && c.toNat == 92) <;> rw [hx] at h <;> simp only [cond_true, cond_false] at h
      · cases h34 : (c.toNat == 34) <;> rw [h34] at h <;> simp only [cond_true, cond_false] at h
        · cases hy : (c.toNat == sep.toNat && !o) <;> rw [hy] at h <;> simp only [cond_true, cond_false] at h
          · have := ih _ _ _ _ _ h; omega
          · have := ih _ _ _ _ _ h; omega
        · have := ih _ _ _ _ _ h; omega
      · have := ih _ _ _ _ _ h; omega
    · simp only [cond_true] at h
      have := ih _ _ _ _ _ h; omega
end Go.Proofs.YtfjgacankfidmaaDoor
/- What a slice that is read holds, wherever it came from: plain words on memory; lists of texts and of fields. -/
namespace Go.Proofs.YtfjgacankfidmaaDoor
open Go.RowKit

/-- n elements, 'size' cells each, lie behind A. -/
def Rd (A : Option Addr) (n size : Nat) (xs : List Value) (w : World) : Prop :=
  xs.length = n * size ∧ (0 < n → ∃ b o, A = some ⟨b, o, none⟩ ∧ b < w.heap.size ∧ ∀ j u, xs[j]? = some u → w.cell? ⟨b, o + j, none⟩ = some u)
theorem Rd.nil {A : Option Addr} {size : Nat} {w : World} : Rd A 0 size [] w := ⟨by simp, fun h => absurd h (by omega)⟩
theorem Rd.below {A : Option Addr} {n size : Nat} {xs : List Value} {w w' : World} (h : Rd A n size xs w) (hb : Below w.heap.size w w') : Rd A n size xs w' := by
  refine ⟨h.1, fun hn => ?_⟩
  obtain ⟨b, o, e, hl, hc⟩ := h.2 hn
  exact ⟨b, o, e, by have := hb.size; omega, fun j u hu => (hb.cell (p := ⟨b, o + j, none⟩) hl).trans (hc j u hu)⟩
theorem Rd.of_own {B : Nat} {e : TypeId} {size : Nat} {a : Option Addr} {m n cap : Nat} {xs : List Value} {w : World} (h : w.ownsRow B e size (.slice a m cap) n xs) : m = n ∧ Rd a n size xs w := by
  obtain ⟨h1, h2⟩ := h
  rcases h2 with ⟨hv, h0⟩ | ⟨g, cp, cur, hv, hg, hh, hn, hm, hs, hx⟩
  · cases hv; exact ⟨h0.symm, h1, fun hn => by omega⟩
  · cases hv
    refine ⟨rfl, h1, fun _ => ⟨g, 0, rfl, ?_, fun j u hu => ?_⟩⟩
    · rcases Nat.lt_or_ge g w.heap.size with h' | h'
      · exact h'
      · simp [Array.getElem?_eq_none h'] at hh
    · have hj : j < m * size := by
        have := (List.getElem?_eq_some_iff.1 hu).1; omega
      have h3 : cur[j]? = some u := by
        rw [← hu, ← hx, List.getElem?_take_of_lt hj, Array.getElem?_toList]
      rw [Nat.zero_add]
      simp only [World.cell?, hh]
      exact h3

/-- Texts as values. -/
def strsV (ls : List (List UInt8)) : List Value := ls.map fun l => Value.string ⟨l.toArray⟩
theorem Rd.str {A : Option Addr} {n : Nat} {ls : List (List UInt8)} {w : World} (h : Rd A n 1 (strsV ls) w) : n = ls.length := by
  have := h.1; unfold strsV at this; simpa using this.symm
theorem Rd.str_at {A : Option Addr} {n k : Nat} {ls : List (List UInt8)} {w : World} (h : Rd A n 1 (strsV ls) w) (hk : k < ls.length) :
    ∃ b o, A = some ⟨b, o, none⟩ ∧ b < w.heap.size ∧ w.cell? ⟨b, o + k, none⟩ = some (.string ⟨(ls[k]).toArray⟩) := by
  obtain ⟨b, o, e, hl, hc⟩ := h.2 (by rw [h.str]; omega)
  exact ⟨b, o, e, hl, hc k _ (by simp [strsV, hk])⟩

/-- A header field. -/
abbrev Fld := List UInt8 × List UInt8
def fldV (f : Fld) : List Value := [.string ⟨f.1.toArray⟩, .string ⟨f.2.toArray⟩]
def fldsV (xs : List Fld) : List Value := xs.flatMap fldV
theorem fldsV_len (xs : List Fld) : (fldsV xs).length = xs.length * 2 := by
  unfold fldsV
  induction xs with
  | nil => rfl
  | cons x r ih => rw [List.flatMap_cons, List.length_append, ih, List.length_cons]; show 2 + _ = _; omega
theorem fldsV_at : ∀ (xs : List Fld) (k : Nat) (hk : k < xs.length), (fldsV xs)[k * 2]? = some (.string ⟨(xs[k]).1.toArray⟩) ∧ (fldsV xs)[k * 2 + 1]? = some (.string ⟨(xs[k]).2.toArray⟩)
  | [], k, hk => by simp at hk
  | x :: r, 0, _ => by unfold fldsV; simp [fldV]
  | x :: r, k + 1, hk => by
    have ih := fldsV_at r k (by simpa using hk)
    unfold fldsV at ih ⊢
    rw [List.flatMap_cons, show (k + 1) * 2 = k * 2 + 2 from by omega]
    have e : ∀ j, (fldV x ++ r.flatMap fldV)[j + 2]? = (r.flatMap fldV)[j]? := fun j => by rw [List.getElem?_append_right (by show 2 ≤ _; omega)]; rfl
    rw [show k * 2 + 2 + 1 = (k * 2 + 1) + 2 from by omega, e, e]
    simpa using ih
theorem Rd.fld {A : Option Addr} {n : Nat} {xs : List Fld} {w : World} (h : Rd A n 2 (fldsV xs) w) : n = xs.length := by
  have := h.1; rw [fldsV_len] at this; omega
theorem Rd.fld_at {A : Option Addr} {n k : Nat} {xs : List Fld} {w : World} (h : Rd A n 2 (fldsV xs) w) (hk : k < xs.length) :
    ∃ b o, A = some ⟨b, o, none⟩ ∧ b < w.heap.size ∧ w.cell? ⟨b, o + k * 2, none⟩ = some (.string ⟨(xs[k]).1.toArray⟩) ∧ w.cell? ⟨b, o + k * 2 + 1, none⟩ = some (.string ⟨(xs[k]).2.toArray⟩) := by
  obtain ⟨b, o, e, hl, hc⟩ := h.2 (by rw [h.fld]; omega)
  have := fldsV_at xs k hk
  exact ⟨b, o, e, hl, hc _ _ this.1, hc _ _ this.2⟩
end Go.Proofs.YtfjgacankfidmaaDoor
/- Directives: the plain law. -/
namespace Go.Proofs.YtfjgacankfidmaaDoor
open Go.RowKit

/-- A directive: its name, its value, has it one, whom it is for. -/
structure Dir where
  name : List UInt8
  value : List UInt8
  has : Bool
  for_ : List UInt8
deriving DecidableEq
def dirV (d : Dir) : List Value := [.string ⟨d.name.toArray⟩, .string ⟨d.value.toArray⟩, .bool d.has, .string ⟨d.for_.toArray⟩]
def dirsV (xs : List Dir) : List Value := xs.flatMap dirV
theorem dirsV_len (xs : List Dir) : (dirsV xs).length = xs.length * 4 := by
  unfold dirsV
  induction xs with
  | nil => rfl
  | cons x r ih => rw [List.flatMap_cons, List.length_append, ih, List.length_cons]; show 4 + _ = _; omega
theorem dirsV_at : ∀ (xs : List Dir) (k : Nat) (hk : k < xs.length), (dirsV xs)[k * 4]? = some (.string ⟨(xs[k]).name.toArray⟩) ∧ (dirsV xs)[k * 4 + 1]? = some (.string ⟨(xs[k]).value.toArray⟩) ∧ (dirsV xs)[k * 4 + 2]? = some (.bool (xs[k]).has) ∧ (dirsV xs)[k * 4 + 3]? = some (.string ⟨(xs[k]).for_.toArray⟩)
  | [], k, hk => by simp at hk
  | x :: r, 0, _ => by unfold dirsV; simp [dirV]
  | x :: r, k + 1, hk => by
    have ih := dirsV_at r k (by simpa using hk)
    unfold dirsV at ih ⊢
    rw [List.flatMap_cons, show (k + 1) * 4 = k * 4 + 4 from by omega]
    have e : ∀ j, (dirV x ++ r.flatMap dirV)[j + 4]? = (r.flatMap dirV)[j]? := fun j => by rw [List.getElem?_append_right (by show 4 ≤ _; omega)]; rfl
    rw [show k * 4 + 4 + 1 = (k * 4 + 1) + 4 from by omega, show k * 4 + 4 + 2 = (k * 4 + 2) + 4 from by omega, show k * 4 + 4 + 3 = (k * 4 + 3) + 4 from by omega, e, e, e, e]
    simpa using ih
theorem Rd.dir {A : Option Addr} {n : Nat} {xs : List Dir} {w : World} (h : Rd A n 4 (dirsV xs) w) : n = xs.length := by
  have := h.1; rw [dirsV_len] at this; omega
theorem Rd.dir_at {A : Option Addr} {n k : Nat} {xs : List Dir} {w : World} (h : Rd A n 4 (dirsV xs) w) (hk : k < xs.length) :
    ∃ b o, A = some ⟨b, o, none⟩ ∧ b < w.heap.size ∧ w.cell? ⟨b, o + k * 4, none⟩ = some (.string ⟨(xs[k]).name.toArray⟩) ∧ w.cell? ⟨b, o + k * 4 + 1, none⟩ = some (.string ⟨(xs[k]).value.toArray⟩) ∧ w.cell? ⟨b, o + k * 4 + 2, none⟩ = some (.bool (xs[k]).has) ∧ w.cell? ⟨b, o + k * 4 + 3, none⟩ = some (.string ⟨(xs[k]).for_.toArray⟩) := by
  obtain ⟨b, o, e, hl, hc⟩ := h.2 (by rw [h.dir]; omega)
  have := dirsV_at xs k hk
  exact ⟨b, o, e, hl, hc _ _ this.1, hc _ _ this.2.1, hc _ _ this.2.2.1, hc _ _ this.2.2.2⟩

/-- What a piece says. -/
def saidO (p : List UInt8) : Option Dir :=
  bif !tokenL (Lib.cut p [61]).1 then none
  else bif (Lib.cut p [61]).2.2 && !tokenL (Lib.cut p [61]).2.1 then (unqP (Lib.cut p [61]).2.1).map fun s => ⟨lowerL (Lib.cut p [61]).1, s, true, []⟩
  else some ⟨lowerL (Lib.cut p [61]).1, (Lib.cut p [61]).2.1, (Lib.cut p [61]).2.2, []⟩
def noStore : List UInt8 := [110, 111, 45, 115, 116, 111, 114, 101]
/-- The pieces of a value. -/
def pcsL (v : List UInt8) : List (List UInt8) := bif (splitL 44 v).2 == 0 then (splitL 44 v).1 else [noStore]
def dirsOf (v : List UInt8) : List Dir := (pcsL v).filterMap saidO
def dlistL (vs : List (List UInt8)) : List Dir := vs.flatMap dirsOf
def findO (xs : List Dir) (nm : List UInt8) : Option Dir := xs.find? fun d => lowerL d.name == lowerL nm
end Go.Proofs.YtfjgacankfidmaaDoor
/- What TextStays and TextKnown want of the plain functions. -/
namespace Go.Proofs.YtfjgacankfidmaaDoor

theorem lowb_twice (c : UInt8) : lowb (lowb c) = lowb c := by
  by_cases h : (decide (65 ≤ c.toNat) && decide (c.toNat ≤ 90)) = true
  · have h1 : lowb c = c + 32 := by unfold lowb; rw [h]; rfl
    have h2 : (c + 32).toNat = c.toNat + 32 := by
      simp at h; rw [UInt8.toNat_add]; simp; omega
    have h3 : (decide (65 ≤ (c + 32).toNat) && decide ((c + 32).toNat ≤ 90)) = false := by simp at h ⊢; omega
    rw [h1]; unfold lowb; rw [h3]; rfl
  · have h' : (decide (65 ≤ c.toNat) && decide (c.toNat ≤ 90)) = false := by simpa using h
    have h1 : lowb c = c := by unfold lowb; rw [h']; rfl
    rw [h1, h1]
theorem lower_twice (l : List UInt8) : lowerL (lowerL l) = lowerL l := by
  unfold lowerL; rw [List.map_map]; apply List.map_congr_left; intro c _; exact lowb_twice c
theorem lower_length (l : List UInt8) : (lowerL l).length = l.length := by unfold lowerL; simp

theorem dw_idem (p : UInt8 → Bool) : ∀ l : List UInt8, (l.dropWhile p).dropWhile p = l.dropWhile p
  | [] => rfl
  | c :: r => by
    cases h : p c
    · rw [List.dropWhile_cons_of_neg (by simp [h]), List.dropWhile_cons_of_neg (by simp [h])]
    · rw [List.dropWhile_cons_of_pos h]; exact dw_idem p r
theorem dw_suffix (p : UInt8 → Bool) (l : List UInt8) : ∃ a, l = a ++ l.dropWhile p := ⟨l.takeWhile p, (List.takeWhile_append_dropWhile).symm⟩
theorem dw_none (p : UInt8 → Bool) (l : List UInt8) (h : ∀ c ∈ l, p c = false) : l.dropWhile p = l := by
  cases l with
  | nil => rfl
  | cons c r => rw [List.dropWhile_cons_of_neg (by simp [h c (by simp)])]
theorem trim_twice (l : List UInt8) : trimL (trimL l) = trimL l := by
  unfold trimL Lib.trimS Lib.trimLeftS Lib.trimRightS
  generalize (fun x => blanks.contains x) = p
  obtain ⟨a, ha⟩ := dw_suffix p (l.reverse.dropWhile p).reverse
  have hr : (l.reverse.dropWhile p).dropWhile p = l.reverse.dropWhile p := dw_idem _ _
  generalize l.reverse.dropWhile p = r at *
  have ht := dw_idem p r.reverse
  generalize r.reverse.dropWhile p = t at *
  have h1 : t.reverse.dropWhile p = t.reverse := by
    have h2 : r = t.reverse ++ a.reverse := by rw [← List.reverse_reverse r, ha]; simp
    cases h3 : t.reverse with
    | nil => rfl
    | cons x y =>
      rw [h3] at h2
      rw [h2] at hr
      cases hx : p x
      · rw [List.dropWhile_cons_of_neg (by simp [hx])]
      · exfalso
        rw [List.cons_append, List.dropWhile_cons_of_pos hx] at hr
        have := congrArg List.length hr
        have h4 : ((y ++ a.reverse).dropWhile p).length ≤ (y ++ a.reverse).length := (List.dropWhile_sublist p).length_le
        rw [List.length_cons] at this
        omega
  rw [h1, List.reverse_reverse, ht]
theorem trim_infix (l : List UInt8) : ∃ a b, l = a ++ (trimL l ++ b) := by
  unfold trimL Lib.trimS Lib.trimLeftS Lib.trimRightS
  generalize (fun x => blanks.contains x) = p
  obtain ⟨b, hb⟩ := dw_suffix p l.reverse
  obtain ⟨a, ha⟩ := dw_suffix p (l.reverse.dropWhile p).reverse
  refine ⟨a, b.reverse, ?_⟩
  rw [← List.append_assoc, ← ha, ← List.reverse_append, ← hb, List.reverse_reverse]
theorem contains_of (l t a b : List UInt8) (h : l = a ++ (t ++ b)) : Lib.contains l t = true := by
  unfold Lib.contains
  rcases Lib.index_spec l t with ⟨_, h2⟩ | ⟨i, h1, _⟩
  · exfalso
    have := h2 a.length (by rw [h]; simp)
    unfold Lib.occAt at this
    rw [h, List.drop_left] at this
    have h3 : t.isPrefixOf (t ++ b) = true := by rw [List.isPrefixOf_iff_prefix]; exact List.prefix_append _ _
    rw [h3] at this; cases this
  · rw [h1]; simp
theorem contains_trim (l : List UInt8) : Lib.contains l (trimL l) = true := by
  obtain ⟨a, b, h⟩ := trim_infix l
  exact contains_of _ _ _ _ h

theorem word_not {c : UInt8} (h : wordb c = true) : blanks.contains c = false ∧ (c.toNat == 34) = false ∧ (c.toNat == 92) = false := by
  have h0 : ∀ d : UInt8, wordb d = true → (blanks.contains d = false ∧ (d.toNat == 34) = false ∧ (d.toNat == 92) = false) := by
    intro d hd
    refine ⟨?_, ?_, ?_⟩
    · cases hb : blanks.contains d
      · rfl
      · have : d = 32 ∨ d = 9 := by simpa [blanks] using hb
        rcases this with e | e <;> subst e <;> exact absurd hd (by decide)
    · cases hb : (d.toNat == 34)
      · rfl
      · have : d = 34 := by rw [← UInt8.toNat_inj]; simpa using hb
        subst this; exact absurd hd (by decide)
    · cases hb : (d.toNat == 92)
      · rfl
      · have : d = 92 := by rw [← UInt8.toNat_inj]; simpa using hb
        subst this; exact absurd hd (by decide)
  exact h0 c h
theorem token_all {l : List UInt8} (h : tokenL l = true) : (∀ c ∈ l, wordb c = true) ∧ l.isEmpty = false := by
  unfold tokenL at h
  rw [Bool.and_eq_true] at h
  refine ⟨fun c hc => List.all_eq_true.1 h.1 c hc, ?_⟩
  cases hl : l.isEmpty
  · rfl
  · rw [hl] at h; exact absurd h.2 (by decide)
theorem trim_word (l : List UInt8) (h : ∀ c ∈ l, wordb c = true) : trimL l = l := by
  unfold trimL Lib.trimS Lib.trimLeftS Lib.trimRightS
  have h1 : l.reverse.dropWhile (fun x => blanks.contains x) = l.reverse := dw_none _ _ (fun c hc => (word_not (h c (by simpa using hc))).1)
  rw [h1, List.reverse_reverse]
  exact dw_none _ _ (fun c hc => (word_not (h c hc)).1)
theorem trim_token {l : List UInt8} (h : tokenL l = true) : trimL l = l := trim_word l (token_all h).1
theorem unqP_token {l : List UInt8} (h : tokenL l = true) : unqP l = none := by
  cases l with
  | nil => rfl
  | cons c r =>
    have hc := word_not ((token_all h).1 c (by simp))
    have : ((c :: r).head?.getD 0).toNat = c.toNat := rfl
    unfold unqP
    rw [this, hc.2.1]; simp
theorem spl_word (sep : UInt8) : ∀ (l cur : List UInt8), (∀ c ∈ l, wordb c = true) → (∀ c ∈ l, (c.toNat == sep.toNat) = false) → splP sep false false cur [] l = some (addP [] (trimL (cur ++ l)))
  | [], cur, _, _ => by simp [splP]
  | c :: r, cur, h1, h2 => by
    have hc := word_not (h1 c (by simp))
    have hs := h2 c (by simp)
    rw [splP, hc.2.1, hs]
    simp only [cond_false, Bool.false_and]
    rw [spl_word sep r (cur ++ [c]) (fun x hx => h1 x (by simp [hx])) (fun x hx => h2 x (by simp [hx]))]
    simp
theorem split_token {l : List UInt8} {sep : UInt8} (h : tokenL l = true) (hs : ∀ c ∈ l, (c.toNat == sep.toNat) = false) (h1 : (sep.toNat == 34) = false) (h2 : (sep.toNat == 92) = false) : splitL sep l = ([l], 0) := by
  have ht := token_all h
  unfold splitL
  rw [h1, h2, spl_word sep l [] ht.1 hs, List.nil_append, trim_token h]
  unfold addP; rw [ht.2]; rfl

/-- What 'pieces' hands back. -/
def piecesL (sep : UInt8) (l : List UInt8) : List UInt8 :=
  bif (splitL sep l).2 == 0 then Lib.join (splitL sep l).1 [124] else [101, 114, 114, 111, 114, 32, 48 + UInt8.ofNat (splitL sep l).2.toNat]
theorem pieces_token {l : List UInt8} {sep : UInt8} (h : tokenL l = true) (hs : ∀ c ∈ l, (c.toNat == sep.toNat) = false) (h1 : (sep.toNat == 34) = false) (h2 : (sep.toNat == 92) = false) : piecesL sep l = l := by
  unfold piecesL; rw [split_token h hs h1 h2]; exact Lib.join_one _ _
theorem split_err (sep : UInt8) (l : List UInt8) : 0 ≤ (splitL sep l).2 ∧ (splitL sep l).2 ≤ 4 := by
  unfold splitL
  cases (sep.toNat == 34 || sep.toNat == 92)
  · cases splP sep false false [] [] l with
    | none => simp [splitE]
    | some ls =>
      simp only [splitE, cond_false]
      cases h : decide (64 < ls.length) <;> simp
  · simp
/-- The pieces together are no longer than the text. -/
def total (ls : List (List UInt8)) : Nat := (ls.map List.length).sum
theorem total_addP (ls : List (List UInt8)) (p : List UInt8) : total (addP ls p) = total ls + p.length := by
  unfold addP total
  cases h : p.isEmpty
  · simp
  · simp at h; simp [h]
theorem spl_total (sep : UInt8) : ∀ (l : List UInt8) (o b : Bool) (cur : List UInt8) (ls ps : List (List UInt8)), splP sep o b cur ls l = some ps → total ps ≤ total ls + cur.length + l.length
  | [], o, b, cur, ls, ps, h => by
    cases o
    · simp [splP] at h; subst h; have := trimL_le cur; rw [total_addP]; simp; omega
    · simp [splP] at h
  | c :: r, o, b, cur, ls, ps, h => by
    have ih := spl_total sep r
    have ha := total_addP ls (trimL cur)
    have hb := trimL_le cur
    rw [splP] at h
    rw [List.length_cons]
    cases b
    · simp only [cond_false] at h
      cases hx : (o && c.toNat == 92) <;> rw [hx] at h <;> simp only [cond_true, cond_false] at h
      · cases h34 : (c.toNat == 34) <;> rw [h34] at h <;> simp only [cond_true, cond_false] at h
        · cases hy : (c.toNat == sep.toNat && !o) <;> rw [hy] at h <;> simp only [cond_true, cond_false] at h
          · have := ih _ _ _ _ _ h; simp at this; omega
          · have := ih _ _ _ _ _ h; simp at this; omega
        · have := ih _ _ _ _ _ h; simp at this; omega
      · have := ih _ _ _ _ _ h; simp at this; omega
    · simp only [cond_true] at h
      have := ih _ _ _ _ _ h; simp at this; omega
theorem split_total (sep : UInt8) (l : List UInt8) : total (splitL sep l).1 ≤ l.length := by
  unfold splitL
  cases (sep.toNat == 34 || sep.toNat == 92)
  · cases h : splP sep false false [] [] l with
    | none => simp [splitE, total]
    | some ls =>
      have h1 := spl_total sep l _ _ _ _ _ h
      simp only [splitE, cond_false]
      cases h : decide (64 < ls.length)
      · simpa [total] using h1
      · simp [total]
  · simp [total]
theorem join_le (sep : List UInt8) : ∀ ls : List (List UInt8), (Lib.join ls sep).length ≤ total ls + ls.length * sep.length
  | [] => by simp [Lib.join_nil]
  | [x] => by rw [Lib.join_one]; simp [total]
  | x :: y :: r => by
    have ih := join_le sep (y :: r)
    rw [Lib.join_cons] at ih ⊢
    unfold total at *
    simp [Lib.joinTail, Nat.add_mul] at ih ⊢
    omega
theorem total_mem {ls : List (List UInt8)} {x : List UInt8} (h : x ∈ ls) : x.length ≤ total ls := by
  unfold total
  induction ls with
  | nil => cases h
  | cons y r ih =>
    rw [List.map_cons, List.sum_cons]
    rcases List.mem_cons.1 h with rfl | h
    · omega
    · have := ih h; omega
end Go.Proofs.YtfjgacankfidmaaDoor
/- TextJoins: the plain law: a list put together of tokens and quoted texts is parted into them. -/
namespace Go.Proofs.YtfjgacankfidmaaDoor

def goodQ (q : List UInt8) : Prop := tokenL q = true ∨ ∃ l : List UInt8, l.all plainb = true ∧ q = 34 :: (l.flatMap esc ++ [34])
theorem spl_run : ∀ (l cur : List UInt8) (ls : List (List UInt8)) (rest : List UInt8), (∀ c ∈ l, (c.toNat == 34) = false ∧ (c.toNat == 44) = false) →
    splP 44 false false cur ls (l ++ rest) = splP 44 false false (cur ++ l) ls rest
  | [], cur, ls, rest, _ => by simp
  | c :: r, cur, ls, rest, h => by
    have hc := h c (by simp)
    rw [List.cons_append, splP, hc.1, show (44 : UInt8).toNat = 44 from rfl, hc.2]
    simp only [cond_false, Bool.false_and]
    rw [spl_run r (cur ++ [c]) ls rest (fun x hx => h x (by simp [hx]))]
    simp
theorem spl_in : ∀ (l cur : List UInt8) (ls : List (List UInt8)) (rest : List UInt8), splP 44 true false cur ls (l.flatMap esc ++ rest) = splP 44 true false (cur ++ l.flatMap esc) ls rest
  | [], cur, ls, rest => by simp
  | c :: r, cur, ls, rest => by
    have ih := spl_in r
    rw [List.flatMap_cons]
    cases h34 : (c.toNat == 34) <;> cases h92 : (c.toNat == 92)
    · have he : esc c = [c] := by simp [esc, h34, h92]
      rw [he, List.append_assoc, List.singleton_append, splP, h34, h92]
      simp only [cond_false, Bool.and_false, Bool.not_true]
      rw [ih]; simp
    all_goals
      have he : esc c = [92, c] := by simp [esc, h34, h92]
      rw [he, List.append_assoc, List.cons_append, List.singleton_append, splP]
      simp only [cond_false, cond_true, Bool.true_and, show ((92 : UInt8).toNat == 92) = true from rfl]
      rw [splP, cond_true, ih]; simp
theorem spl_item {q : List UInt8} (h : goodQ q) (cur : List UInt8) (ls : List (List UInt8)) (rest : List UInt8) : splP 44 false false cur ls (q ++ rest) = splP 44 false false (cur ++ q) ls rest := by
  rcases h with h | ⟨l, _, rfl⟩
  · refine spl_run q cur ls rest fun c hc => ?_
    have hw := (token_all h).1 c hc
    refine ⟨(word_not hw).2.1, ?_⟩
    cases hb : (c.toNat == 44)
    · rfl
    · have : c = 44 := by rw [← UInt8.toNat_inj]; simpa using hb
      subst this; exact absurd hw (by decide)
  · rw [List.cons_append, List.append_assoc, splP]
    simp only [cond_false, Bool.false_and, show ((34 : UInt8).toNat == 34) = true from rfl, cond_true, Bool.not_false]
    rw [spl_in, List.singleton_append, splP]
    simp
theorem spl_comma (cur : List UInt8) (ls : List (List UInt8)) (rest : List UInt8) : splP 44 false false cur ls (44 :: rest) = splP 44 false false [] (addP ls (trimL cur)) rest := by
  rw [splP]; simp
theorem dw_app (p : UInt8 → Bool) : ∀ (g x : List UInt8), (∀ c ∈ g, p c = true) → (g ++ x).dropWhile p = x.dropWhile p
  | [], _, _ => rfl
  | c :: r, x, h => by rw [List.cons_append, List.dropWhile_cons_of_pos (h c (by simp)), dw_app p r x (fun y hy => h y (by simp [hy]))]
theorem good_ends {q : List UInt8} (h : goodQ q) : (∃ x y, q = x :: y ∧ blanks.contains x = false) ∧ ∃ x y, q.reverse = x :: y ∧ blanks.contains x = false := by
  rcases h with h | ⟨l, _, rfl⟩
  · have ht := token_all h
    constructor
    · cases q with
      | nil => exact absurd ht.2 (by decide)
      | cons x y => exact ⟨x, y, rfl, (word_not (ht.1 x (by simp))).1⟩
    · cases hr : q.reverse with
      | nil => rw [List.reverse_eq_nil_iff] at hr; subst hr; exact absurd ht.2 (by decide)
      | cons x y => exact ⟨x, y, rfl, (word_not (ht.1 x (by rw [← List.mem_reverse, hr]; simp))).1⟩
  · exact ⟨⟨34, _, rfl, by decide⟩, ⟨34, (l.flatMap esc).reverse ++ [34], by simp, by decide⟩⟩
theorem trim_good {q g g2 : List UInt8} (h : goodQ q) (hg : ∀ c ∈ g, blanks.contains c = true) (hg2 : ∀ c ∈ g2, blanks.contains c = true) : trimL ((g ++ q) ++ g2) = q := by
  obtain ⟨⟨x, y, e1, b1⟩, ⟨x2, y2, e2, b2⟩⟩ := good_ends h
  unfold trimL Lib.trimS Lib.trimLeftS Lib.trimRightS
  rw [List.reverse_append, dw_app _ _ _ (fun c hc => hg2 c (by simpa using hc)), List.reverse_append, e2, List.cons_append, List.dropWhile_cons_of_neg (by simp only [b2]; decide), ← List.cons_append, ← e2, ← List.reverse_append, List.reverse_reverse,
    dw_app _ _ _ hg, e1, List.dropWhile_cons_of_neg (by simp only [b1]; decide)]
theorem trim_blank (g : List UInt8) (hg : ∀ c ∈ g, blanks.contains c = true) : trimL g = [] := by
  unfold trimL Lib.trimS Lib.trimLeftS Lib.trimRightS
  have : g.reverse.dropWhile (fun x => blanks.contains x) = [] := by
    have := dw_app (fun x => blanks.contains x) g.reverse [] (fun c hc => hg c (by simpa using hc))
    rw [List.append_nil] at this; exact this
  rw [this]; rfl
theorem blank_not {c : UInt8} (h : blanks.contains c = true) : (c.toNat == 34) = false ∧ (c.toNat == 44) = false := by
  have : c = 32 ∨ c = 9 := by simpa [blanks] using h
  rcases this with e | e <;> subst e <;> exact ⟨rfl, rfl⟩
theorem addP_good {q : List UInt8} (h : goodQ q) (ls : List (List UInt8)) : addP ls q = ls ++ [q] := by
  obtain ⟨⟨x, y, rfl, _⟩, _⟩ := good_ends h
  rfl
theorem spl_tail (g : List UInt8) (hg : ∀ c ∈ g, blanks.contains c = true) : ∀ (r : List (List UInt8)) (q : List UInt8) (ls : List (List UInt8)), goodQ q → (∀ x ∈ r, goodQ x) →
    splP 44 false false (g ++ q) ls (Lib.joinTail (g ++ [44] ++ g) r ++ (g ++ [44])) = some (ls ++ q :: r)
  | [], q, ls, hq, _ => by
    have hr : Lib.joinTail (g ++ [44] ++ g) [] = [] := rfl
    rw [hr, List.nil_append, spl_run g _ _ _ (fun c hc => blank_not (hg c hc)), spl_comma, trim_good hq hg hg, addP_good hq]
    rfl
  | x :: r, q, ls, hq, hr => by
    have ih := spl_tail g hg r x (ls ++ [q]) (hr x (by simp)) (fun y hy => hr y (by simp [hy]))
    have hj : Lib.joinTail (g ++ [44] ++ g) (x :: r) = g ++ (44 :: (g ++ (x ++ Lib.joinTail (g ++ [44] ++ g) r))) := by
      simp [Lib.joinTail]
    rw [hj, List.append_assoc, spl_run g _ _ _ (fun c hc => blank_not (hg c hc)), List.cons_append, spl_comma, trim_good hq hg hg, addP_good hq, List.append_assoc, spl_run g _ _ _ (fun c hc => blank_not (hg c hc)), List.append_assoc, spl_item (hr x (by simp)), List.nil_append, ih]
    simp
theorem split_joined (g : List UInt8) (hg : ∀ c ∈ g, blanks.contains c = true) (ws : List (List UInt8)) (h : ∀ x ∈ ws, goodQ x) (hn : ws.length ≤ 64) :
    splitL 44 (((g ++ Lib.join ws (g ++ [44] ++ g)) ++ g) ++ [44]) = (ws, 0) := by
  have key : splP 44 false false [] [] (((g ++ Lib.join ws (g ++ [44] ++ g)) ++ g) ++ [44]) = some ws := by
    cases ws with
    | nil =>
      rw [Lib.join_nil, List.append_nil]
      have : (g ++ g) ++ [44] = (g ++ g) ++ (44 :: []) := rfl
      rw [this, spl_run (g ++ g) _ _ _ (fun c hc => blank_not (hg c (by simpa using hc))), spl_comma, List.nil_append, trim_blank _ (fun c hc => hg c (by simpa using hc))]
      rfl
    | cons q r =>
      have e : ((g ++ Lib.join (q :: r) (g ++ [44] ++ g)) ++ g) ++ [44] = g ++ (q ++ (Lib.joinTail (g ++ [44] ++ g) r ++ (g ++ [44]))) := by
        rw [Lib.join_cons]; simp
      rw [e, spl_run g _ _ _ (fun c hc => blank_not (hg c hc)), spl_item (h q (by simp)), List.nil_append, spl_tail g hg r q [] (h q (by simp)) (fun x hx => h x (by simp [hx]))]
      rfl
  unfold splitL
  rw [key, show ((44 : UInt8).toNat == 34 || (44 : UInt8).toNat == 92) = false from rfl]
  have : decide (64 < ws.length) = false := by simp; omega
  simp only [splitE, cond_false, this]
theorem repeat_blank (c : UInt8) (hc : blanks.contains c = true) : ∀ n, ∀ x ∈ Lib.repeatL [c] n, blanks.contains x = true
  | 0, x, h => by simp [Lib.repeatL] at h
  | n + 1, x, h => by
    rw [Lib.repeatL, List.singleton_append, List.mem_cons] at h
    rcases h with rfl | h
    · exact hc
    · exact repeat_blank c hc n x h
theorem good_quote {s : ByteArray} {q : List UInt8} (h : quoteO s = some q) : goodQ q := by
  unfold quoteO at h
  cases hp : s.data.toList.all plainb <;> rw [hp] at h <;> simp at h
  exact Or.inr ⟨_, hp, h.symm⟩
end Go.Proofs.YtfjgacankfidmaaDoor
/- DirectiveBack: the plain law: directives that are put together are read as themselves. -/
namespace Go.Proofs.YtfjgacankfidmaaDoor

/-- A piece: a name alone, or with a token or a quoted text behind it. -/
def pieceD (nm : List UInt8) (o : Option (List UInt8)) : List UInt8 := match o with
  | none => nm
  | some v => nm ++ 61 :: v
theorem word_61b {c : UInt8} (h : wordb c = true) : c ≠ 61 := by rintro rfl; exact absurd h (by decide)
theorem cut_61 : ∀ (a b : List UInt8), (∀ c ∈ a, c ≠ 61) → Lib.cut (a ++ 61 :: b) [61] = (a, b, true) := by
  intro a b h
  have hi : ∀ a : List UInt8, (∀ c ∈ a, c ≠ 61) → Lib.index (a ++ 61 :: b) [61] = (a.length : Int) := by
    intro a
    induction a with
    | nil => intro _; rfl
    | cons x r ih =>
      intro h
      have hx : ([61] : List UInt8).isPrefixOf (x :: (r ++ 61 :: b)) = false := by
        have := h x (by simp)
        simp [List.isPrefixOf, Ne.symm this]
      rw [List.cons_append]
      unfold Lib.index
      rw [if_neg (by rw [hx]; simp), ih (fun c hc => h c (by simp [hc]))]
      simp
  have hi1 := hi a h
  unfold Lib.cut
  rw [hi1, if_pos (by omega)]
  simp
theorem cut_no61 : ∀ (a : List UInt8), (∀ c ∈ a, c ≠ 61) → Lib.cut a [61] = (a, [], false) := by
  intro a h
  have hi : ∀ a : List UInt8, (∀ c ∈ a, c ≠ 61) → Lib.index a [61] = -1 := by
    intro a
    induction a with
    | nil => intro _; rfl
    | cons x r ih =>
      intro h
      have hx : ([61] : List UInt8).isPrefixOf (x :: r) = false := by
        have := h x (by simp)
        simp [List.isPrefixOf, Ne.symm this]
      unfold Lib.index
      rw [if_neg (by rw [hx]; simp), ih (fun c hc => h c (by simp [hc]))]
      simp
  unfold Lib.cut
  rw [hi a h]
  rfl
theorem said_alone {nm : List UInt8} (h : tokenL nm = true) : saidO nm = some ⟨lowerL nm, [], false, []⟩ := by
  unfold saidO
  rw [cut_no61 nm (fun c hc => word_61b ((token_all h).1 c hc))]
  simp only [h]; rfl
theorem said_bare {nm v : List UInt8} (h : tokenL nm = true) (hv : tokenL v = true) : saidO (pieceD nm (some v)) = some ⟨lowerL nm, v, true, []⟩ := by
  unfold saidO pieceD
  rw [cut_61 nm v (fun c hc => word_61b ((token_all h).1 c hc))]
  simp only [h, hv]; rfl
theorem unq_backD : ∀ (l : List UInt8), l.all plainb = true → unq false (l.flatMap esc) = some l
  | [], _ => rfl
  | c :: r, h => by
    rw [List.all_cons, Bool.and_eq_true] at h
    have ih := unq_backD r h.2
    have p92 : plainb 92 = true := rfl
    rw [List.flatMap_cons]
    cases h34 : (c.toNat == 34) <;> cases h92 : (c.toNat == 92)
    all_goals simp [esc, unq, h34, h92, h.1, ih, p92]
theorem unqP_backD (s : ByteArray) (h : s.data.toList.all plainb = true) : unqP (quoted s) = some s.data.toList := by
  have e : quoted s = 34 :: (s.data.toList.flatMap esc ++ [34]) := rfl
  unfold unqP
  rw [e]
  have h1 : (34 :: (s.data.toList.flatMap esc ++ [34])).getLast? = some 34 := by rw [← List.cons_append, List.getLast?_append]; rfl
  have h2 : ((34 :: (s.data.toList.flatMap esc ++ [34])).drop 1).dropLast = s.data.toList.flatMap esc := by simp
  have h3 : decide (2 ≤ (34 :: (s.data.toList.flatMap esc ++ [34])).length) = true := by
    rw [decide_eq_true_iff, List.length_cons, List.length_append, List.length_singleton]; omega
  rw [h1, h2, h3, unq_backD _ h]; rfl
theorem said_quoted {nm : List UInt8} {s : ByteArray} {q : List UInt8} (h : tokenL nm = true) (hq : quoteO s = some q) : saidO (pieceD nm (some q)) = some ⟨lowerL nm, s.data.toList, true, []⟩ := by
  unfold quoteO at hq
  cases hp : s.data.toList.all plainb <;> rw [hp] at hq <;> simp at hq
  subst hq
  have ht : tokenL (quoted s) = false := by
    unfold quoted tokenL
    rw [List.all_cons, show wordb 34 = false from by decide]; rfl
  unfold saidO pieceD
  rw [cut_61 nm _ (fun c hc => word_61b ((token_all h).1 c hc))]
  simp only [h, ht, unqP_backD s hp]; rfl
def okP (p : List UInt8) : Prop := (∀ cur ls rest, splP 44 false false cur ls (p ++ rest) = splP 44 false false (cur ++ p) ls rest) ∧ (∃ x y, p = x :: y ∧ blanks.contains x = false) ∧ ∃ x y, p.reverse = x :: y ∧ blanks.contains x = false
theorem okP_alone {nm : List UInt8} (h : tokenL nm = true) : okP nm := ⟨spl_item (Or.inl h), good_ends (Or.inl h)⟩
theorem okP_with {nm v : List UInt8} (h : tokenL nm = true) (hv : goodQ v) : okP (pieceD nm (some v)) := by
  refine ⟨fun cur ls rest => ?_, ?_, ?_⟩
  · have e : pieceD nm (some v) ++ rest = nm ++ ([61] ++ (v ++ rest)) := by simp [pieceD]
    rw [e, spl_item (Or.inl h), spl_run [61] _ _ _ (by intro c hc; rw [List.mem_singleton.1 hc]; exact ⟨rfl, rfl⟩), spl_item hv]
    simp [pieceD]
  · obtain ⟨x, y, rfl, hb⟩ := (good_ends (q := nm) (Or.inl h)).1
    exact ⟨x, y ++ 61 :: v, rfl, hb⟩
  · obtain ⟨x, y, e, hb⟩ := (good_ends hv).2
    refine ⟨x, y ++ (61 :: nm.reverse), ?_, hb⟩
    simp [pieceD, e]
theorem trim_okP {q g g2 : List UInt8} (h : okP q) (hg : ∀ c ∈ g, blanks.contains c = true) (hg2 : ∀ c ∈ g2, blanks.contains c = true) : trimL ((g ++ q) ++ g2) = q := by
  obtain ⟨_, ⟨x, y, e1, b1⟩, ⟨x2, y2, e2, b2⟩⟩ := h
  unfold trimL Lib.trimS Lib.trimLeftS Lib.trimRightS
  rw [List.reverse_append, dw_app _ _ _ (fun c hc => hg2 c (by simpa using hc)), List.reverse_append, e2, List.cons_append, List.dropWhile_cons_of_neg (by simp only [b2]; decide), ← List.cons_append, ← e2, ← List.reverse_append, List.reverse_reverse,
    dw_app _ _ _ hg, e1, List.dropWhile_cons_of_neg (by simp only [b1]; decide)]
/-- A text under way, behind a gap. -/
def BackAt (n : Nat) (g s : List UInt8) (want : List Dir) : Prop :=
  ∃ ps, (∀ ls rest, splP 44 false false [] ls (s ++ rest) = splP 44 false false g (ls ++ ps) rest) ∧ ps.length ≤ n ∧ ps.filterMap saidO = want
theorem BackAt.start {g : List UInt8} (hg : ∀ c ∈ g, blanks.contains c = true) : BackAt 0 g g [] :=
  ⟨[], fun ls rest => by rw [spl_run g _ _ _ (fun c hc => blank_not (hg c hc)), List.nil_append, List.append_nil], by simp, rfl⟩
theorem BackAt.grow {n m : Nat} {g s : List UInt8} {want : List Dir} (h : BackAt n g s want) (hm : n ≤ m) : BackAt m g s want := by
  obtain ⟨ps, h1, h2, h3⟩ := h
  exact ⟨ps, h1, by omega, h3⟩
theorem BackAt.piece {n : Nat} {g s : List UInt8} {want : List Dir} (h : BackAt n g s want) (hg : ∀ c ∈ g, blanks.contains c = true) {p : List UInt8} {d : Dir} (hp : okP p) (hd : saidO p = some d) : BackAt (n + 1) g (s ++ (p ++ (g ++ (44 :: g)))) (want ++ [d]) := by
  obtain ⟨ps, h1, h2, rfl⟩ := h
  refine ⟨ps ++ [p], fun ls rest => ?_, by simp; omega, by rw [List.filterMap_append]; simp [hd]⟩
  have e : (s ++ (p ++ (g ++ (44 :: g)))) ++ rest = s ++ (p ++ (g ++ (44 :: (g ++ rest)))) := by simp
  have ha : ∀ ls, addP ls p = ls ++ [p] := by
    intro ls; obtain ⟨x, y, e, _⟩ := hp.2.1; rw [e]; rfl
  rw [e, h1, hp.1, spl_run g _ _ _ (fun c hc => blank_not (hg c hc)), spl_comma, trim_okP hp hg hg, ha, spl_run g _ _ _ (fun c hc => blank_not (hg c hc)), List.nil_append, List.append_assoc]
theorem BackAt.all {n : Nat} {g s : List UInt8} {want : List Dir} (h : BackAt n g s want) (hg : ∀ c ∈ g, blanks.contains c = true) (hn : n ≤ 64) : dlistL [s] = want := by
  obtain ⟨ps, h1, h2, rfl⟩ := h
  have h3 := h1 [] []
  rw [List.append_nil, List.nil_append, splP, cond_false, trim_blank g hg, show addP ps [] = ps from rfl] at h3
  have h4 : splitL 44 s = (ps, 0) := by
    unfold splitL
    rw [h3, show ((44 : UInt8).toNat == 34 || (44 : UInt8).toNat == 92) = false from rfl]
    have : decide (64 < ps.length) = false := by simp; omega
    simp only [splitE, cond_false, this]
  unfold dlistL dirsOf pcsL
  rw [List.flatMap_cons, List.flatMap_nil, List.append_nil, h4]
  rfl
end Go.Proofs.YtfjgacankfidmaaDoor
/- Texts in a slice that the call made; blocks of one cell. -/
namespace Go.Proofs.YtfjgacankfidmaaDoor
open Go.RowKit

theorem uStr : (Tryd.prog.info? 9).map (fun i => (i.zero, i.size, i.bytes)) = some (some (.string ByteArray.empty), 1, 16) := by kernel_rfl
/-- A slice of texts that the call made. -/
def OwnS (B : Nat) (v : Value) (ls : List (List UInt8)) (w : World) : Prop := w.ownsRow B 9 1 v ls.length (ls.map fun l => Value.string ⟨l.toArray⟩)
theorem OwnS.shape {B : Nat} {v : Value} {ls : List (List UInt8)} {w : World} (h : OwnS B v ls w) : ∃ a cap, v = .slice a ls.length cap := by
  rcases h.2 with ⟨rfl, h0⟩ | ⟨g, cap, cur, rfl, _⟩
  · exact ⟨none, 0, by rw [h0]⟩
  · exact ⟨_, _, rfl⟩

theorem own_below {B : Nat} {e : TypeId} {size : Nat} {v : Value} {n : Nat} {xs : List Value} {w w1 : World} (h : w.ownsRow B e size v n xs) (hb : Below w.heap.size w w1) : w1.ownsRow B e size v n xs := by
  obtain ⟨h1, h2⟩ := h
  refine ⟨h1, ?_⟩
  rcases h2 with h2 | ⟨g, cap, cur, hv, hg, hh, r⟩
  · exact Or.inl h2
  · refine Or.inr ⟨g, cap, cur, hv, hg, ?_, r⟩
    have hlt : g < w.heap.size := by
      rcases Nat.lt_or_ge g w.heap.size with h' | h'
      · exact h'
      · simp [Array.getElem?_eq_none h'] at hh
    rw [hb.block g hlt]; exact hh
theorem OwnS.below {B : Nat} {v : Value} {ls : List (List UInt8)} {w w1 : World} (h : OwnS B v ls w) (hb : Below w.heap.size w w1) : OwnS B v ls w1 := own_below h hb
theorem of_heap {w : World} {b : Nat} {cs : Array Value} {T : TypeId} (h : w.heap[b]? = some (.cells cs T (0, 0))) (j : Nat) : w.cell? ⟨b, j, none⟩ = cs[j]? ∧ w.frozen? ⟨b, j, none⟩ = false ∧ b < w.heap.size := by
  refine ⟨by simp [World.cell?, h], by simp [World.frozen?, h], ?_⟩
  rcases Nat.lt_or_ge b w.heap.size with h' | h'
  · exact h'
  · simp [Array.getElem?_eq_none h'] at h
theorem heap_set {w : World} {b : Nat} {v u : Value} {T : TypeId} (h : w.heap[b]? = some (.cells #[u] T (0, 0))) : (w.setCell ⟨b, 0, none⟩ v).heap[b]? = some (.cells #[v] T (0, 0)) := by
  simp [World.setCell, Array.getElem?_modify, h]

theorem heap_set2 {w : World} {b c : Nat} {v u x : Value} {T : TypeId} (hne : c ≠ b) (h : w.heap[b]? = some (.cells #[u] T (0, 0))) : ((w.setCell ⟨b, 0, none⟩ v).setCell ⟨c, 0, none⟩ x).heap[b]? = some (.cells #[v] T (0, 0)) := by
  rw [Below.heap_setCell _ _ _ _ (by show b ≠ c; omega)]; exact heap_set h
theorem OwnS.cell {B n cap : Nat} {a : Option Addr} {ls : List (List UInt8)} {w : World} (h : OwnS B (.slice a n cap) ls w) (j : Nat) (hj : j < ls.length) :
    ∃ g, a = some ⟨g, 0, none⟩ ∧ w.cell? ⟨g, j, none⟩ = some (.string ⟨ls[j].toArray⟩) ∧ w.frozen? ⟨g, j, none⟩ = false := by
  rcases h.2 with ⟨_, h0⟩ | ⟨g, cp, cur, hv, hg, hh, hn, hc, hs, hx⟩
  · omega
  · cases hv
    refine ⟨g, rfl, ?_, by simp [World.frozen?, hh]⟩
    have h1 : cur[j]? = (cur.toList.take (ls.length * 1))[j]? := by
      rw [List.getElem?_take_of_lt (by omega), Array.getElem?_toList]
    have h2 : cur[j]? = some (.string ⟨ls[j].toArray⟩) := by
      rw [h1, hx, List.getElem?_map, List.getElem?_eq_getElem hj]; rfl
    simp only [World.cell?, hh]
    exact h2
theorem OwnS.base {B B' : Nat} {v : Value} {ls : List (List UInt8)} {w : World} (h : OwnS B v ls w) (hB : B' ≤ B) : OwnS B' v ls w := by
  refine ⟨h.1, ?_⟩
  rcases h.2 with h | ⟨g, cp, cur, hv, hg, r⟩
  · exact Or.inl h
  · exact Or.inr ⟨g, cp, cur, hv, by omega, r⟩
theorem OwnS.room {B n cap : Nat} {a : Option Addr} {ls : List (List UInt8)} {w : World} (h : OwnS B (.slice a n cap) ls w) : n = ls.length ∧ n ≤ cap ∧ (0 < n → ∃ g, a = some ⟨g, 0, none⟩ ∧ g < w.heap.size) := by
  rcases h.2 with ⟨hv, h0⟩ | ⟨g, cp, cur, hv, hg, hh, hn, hc, hs, hx⟩
  · cases hv; exact ⟨by omega, by omega, fun h => by omega⟩
  · cases hv
    refine ⟨rfl, hn, fun _ => ⟨g, rfl, ?_⟩⟩
    rcases Nat.lt_or_ge g w.heap.size with h' | h'
    · exact h'
    · simp [Array.getElem?_eq_none h'] at hh

/-! One element more at the end of a row that the call made. -/
/-- What an append leaves alone, and where the new row lies. -/
def Far (w w1 : World) (v v' : Value) : Prop := w.grownBy w1 v.ownBlock ∧ (v'.ownBlock = v.ownBlock ∨ ∀ g, v'.ownBlock = some g → w.heap.size ≤ g)
theorem wp_app_one {P : Program} {o : Oper} {a : Act} {K : Act → World → Prop} {Q : Exit → Act → World → Prop} (s x : Operand) (T E : TypeId)
    (ho : o.op = .call { callee := .builtin .append, args := #[s, x], argTypes := #[T, T] }) {z : Value} {size bytes : Nat} (ht : P.underlying T = some (.slice E)) (hinf : (P.info? E).map (fun i => (i.zero, i.size, i.bytes)) = some (some z, size, bytes))
    (hzs : z.cells.size = size) (hsz : 0 < size) (hbs : bytes ≤ 1000) {w wx : World} (B g : Nat) {v : Value} {n : Nat} {xs : List Value} (news : List Value) (hl : news.length = size) (h1 : ∀ u ∈ news, u.oneCell' = true)
    (hs : a.eval s = v) (hx : a.eval x = .slice (some ⟨g, 0, none⟩) 1 1) (hown : wx.ownsRow B E size v n xs) (hB : B ≤ w.heap.size) (hn : n ≤ 1000000000)
    (hc : ∀ j : Nat, wx.cell? ⟨g, j, none⟩ = news[j]?) (hwx : Below w.heap.size w wx)
    (hK : ∀ v' w1, w1.ownsRow B E size v' (n + 1) (xs ++ news) → Below B w w1 → Far wx w1 v v' → K (a.put o.dst v') w1) :
    o.wp P a wx K Q := by
  obtain ⟨i0, hi, hz0, hz1, hz2⟩ := info_parts hinf
  have hby : (n + 1) * bytes ≤ 1000000001 * 1000 := Nat.mul_le_mul (by omega) hbs
  have hsz2 := hwx.size
  obtain ⟨v', w', hr, h2, h3, _, h5⟩ := run_append_own_at (P := P) wx B T o.type E i0 z size bytes ht hi hz0 hz1 hz2 hzs hsz v n xs hown ⟨g, 0, none⟩ 1 1 news (by omega) (by
    intro j u hj
    have e : (⟨g, 0, none⟩ : Addr).add j = ⟨g, j, none⟩ := by
      unfold Addr.add; split <;> simp_all
    rw [e, hc, hj]) h1 (by unfold maxLen; omega) (by omega) (by omega)
  unfold Oper.wp execOp
  simp only [ho, resolve, invoke, builtin, Sem.run_bind, Sem.run_pure, Result.andThen_ok, List.map_toArray, List.map_cons, List.map_nil, hs, hx, hr]
  refine hK _ _ h2 ?_ ⟨h3, ?_⟩
  · exact (hwx.mono hB).grown h3 (by omega) (fun k hk => (hown.lt k hk).1)
  · rcases h5 with h | h
    · exact Or.inl h
    · refine Or.inr fun g hg => ?_
      rw [h] at hg
      have := Option.some.inj hg
      omega
theorem far_alloc {w w1 : World} {o : Obj} {v v' : Value} (h : Far (w.alloc o) w1 v v') : Far w w1 v v' := by
  obtain ⟨hgrow, hwhere⟩ := h
  have h0 := World.grownBy_alloc w o v.ownBlock
  refine ⟨⟨hgrow.os.trans h0.os, hgrow.tape.trans h0.tape, hgrow.output.trans h0.output, Nat.le_trans h0.size hgrow.size, fun k hk hne => (hgrow.block k (Nat.lt_of_lt_of_le hk h0.size) hne).trans (h0.block k hk hne)⟩, ?_⟩
  rcases hwhere with h | h
  · exact Or.inl h
  · exact Or.inr fun g hg => Nat.le_trans h0.size (h g hg)
theorem app_one {P : Program} {ops : Array Oper} {rest : List Oper} {o : Oper} {a : Act} {Q : Exit → Act → World → Prop} (hgd : o.guard = none) (s x : Operand) (T E : TypeId)
    (ho : o.op = .call { callee := .builtin .append, args := #[s, x], argTypes := #[T, T] }) {z : Value} {size bytes : Nat} (ht : P.underlying T = some (.slice E)) (hinf : (P.info? E).map (fun i => (i.zero, i.size, i.bytes)) = some (some z, size, bytes))
    (hzs : z.cells.size = size) (hsz : 0 < size) (hbs : bytes ≤ 1000) {w : World} (B : Nat) {v : Value} {n : Nat} {xs : List Value} (news : List Value) (hl : news.length = size) (h1 : ∀ u ∈ news, u.oneCell' = true)
    (hs : a.eval s = v) (hx : a.eval x = .slice (some ⟨w.heap.size, 0, none⟩) 1 1) (hown : w.ownsRow B E size v n xs) (hB : B ≤ w.heap.size) (hn : n ≤ 1000000000)
    (hK : ∀ v' w1, w1.ownsRow B E size v' (n + 1) (xs ++ news) → Below B w w1 → Far w w1 v v' → wpList P ops Q rest (a.put o.dst v') w1) :
    wpList P ops Q (o :: rest) a (w.alloc (.cells news.toArray E)) :=
  wpList_plain hgd fun _ hK' => wp_app_one s x T E ho ht hinf hzs hsz hbs B w.heap.size news hl h1 hs hx (hown.alloc _) hB hn (fun j => by rw [World.cell?_alloc_mark]; simp) ((Below.refl _ w).alloc (Nat.le_refl _) _)
    fun v' w1 h2 h3 h4 => hK' _ _ (hK v' w1 h2 h3 (far_alloc h4))
/-- The same in a region that draws its order: the block lies behind a draw. -/
theorem step_app_one {P : Program} {ops : Array Oper} {o : Oper} {a : Act} {K : Act → World → Prop} {Q : Exit → Act → World → Prop} {G : Prop} (hgd : o.guard = none) (s x : Operand) (T E : TypeId)
    (ho : o.op = .call { callee := .builtin .append, args := #[s, x], argTypes := #[T, T] }) {z : Value} {size bytes : Nat} (ht : P.underlying T = some (.slice E)) (hinf : (P.info? E).map (fun i => (i.zero, i.size, i.bytes)) = some (some z, size, bytes))
    (hzs : z.cells.size = size) (hsz : 0 < size) (hbs : bytes ≤ 1000) {w : World} (B : Nat) {v : Value} {n : Nat} {xs : List Value} (news : List Value) (hl : news.length = size) (h1 : ∀ u ∈ news, u.oneCell' = true)
    (hs : a.eval s = v) (hx : a.eval x = .slice (some ⟨w.heap.size, 0, none⟩) 1 1) (hown : w.ownsRow B E size v n xs) (hB : B ≤ w.heap.size) (hn : n ≤ 1000000000)
    (hK : ∀ v' w1, w1.ownsRow B E size v' (n + 1) (xs ++ news) → Below B w w1 → Far w w1 v v' → K (a.put o.dst v') w1) :
    if Region.wanted o (yielded ops a.tmps) = true then Oper.wp P o a (w.alloc (.cells news.toArray E)) K Q else G := by
  have hw : Region.wanted o (yielded ops a.tmps) = true := by simp [Region.wanted, hgd]
  rw [if_pos hw]
  exact wp_app_one s x T E ho ht hinf hzs hsz hbs B w.heap.size news hl h1 hs hx (hown.alloc _) hB hn (fun j => by rw [World.cell?_alloc_mark]; simp) ((Below.refl _ w).alloc (Nat.le_refl _) _)
    fun v' w1 h2 h3 h4 => hK v' w1 h2 h3 (far_alloc h4)
theorem app_str {ops : Array Oper} {rest : List Oper} {o : Oper} {a : Act} {Q : Exit → Act → World → Prop} (B : Nat) (y : List UInt8) {w : World} {v : Value} {ls : List (List UInt8)} (hown : OwnS B v ls w) (hB : B ≤ w.heap.size) (hn : ls.length ≤ 1000000000)
    (hgd : o.guard = none) (s x : Operand) (ho : o.op = .call { callee := .builtin .append, args := #[s, x], argTypes := #[34, 34] })
    (hs : a.eval s = v) (hx : a.eval x = .slice (some ⟨w.heap.size, 0, none⟩) 1 1)
    (hK : ∀ v' w1, OwnS B v' (ls ++ [y]) w1 → Below B w w1 → Far w w1 v v' → wpList Tryd.prog ops Q rest (a.put o.dst v') w1) :
    wpList Tryd.prog ops Q (o :: rest) a (w.alloc (.cells #[.string ⟨y.toArray⟩] 9)) := by
  refine app_one (z := .string ByteArray.empty) (bytes := 16) (n := ls.length) hgd s x 34 9 ho Tryd.underlying34 uStr rfl (by decide) (by decide) B [.string ⟨y.toArray⟩] rfl (by intro u hu; simp at hu; subst hu; rfl) hs hx hown hB hn ?_
  intro v' w1 h1 h2 h3
  refine hK v' w1 ?_ h2 h3
  show World.ownsRow _ _ _ _ _ _ _
  rw [List.length_append, List.length_singleton, List.map_append]
  exact h1
theorem OwnS.drew {B : Nat} {v : Value} {ls : List (List UInt8)} {w : World} (h : OwnS B v ls w) : OwnS B v ls w.drew := h
theorem OwnS.nil (B : Nat) (w : World) : OwnS B (.slice none 0 0) [] w := World.ownsRow_nil _ _ _ _
/-- Texts that are handed back in a slice of the call's own. -/
def TextsPost (w : World) (ls : List (List UInt8)) (e : Ending) (w' : World) : Prop :=
  ∃ a cap, e = .returned (.slice a ls.length cap) ∧ OwnS w.heap.size (.slice a ls.length cap) ls w' ∧ Below w.heap.size w w'
theorem OwnS.rd {B m cap : Nat} {a : Option Addr} {ls : List (List UInt8)} {w : World} (h : OwnS B (.slice a m cap) ls w) : m = ls.length ∧ Rd a ls.length 1 (strsV ls) w := Rd.of_own h
/-- v's row is none of those that lie behind A. -/
def Sep (v : Value) (A : Option Addr) (n : Nat) : Prop := 0 < n → ∀ g o, A = some ⟨g, o, none⟩ → v.ownBlock ≠ some g
theorem Rd.far {A : Option Addr} {n size : Nat} {xs : List Value} {w w1 : World} {v v' : Value} (h : Rd A n size xs w) (hf : Far w w1 v v') (hs : Sep v A n) : Rd A n size xs w1 ∧ Sep v' A n := by
  refine ⟨⟨h.1, fun hn => ?_⟩, fun hn g o e => ?_⟩
  · obtain ⟨b, o, e, hl, hc⟩ := h.2 hn
    have hb := hf.1.block b hl (fun x => hs hn b o e x.symm)
    exact ⟨b, o, e, Nat.lt_of_lt_of_le hl hf.1.size, fun j u hu => (World.cell?_of_block (a := ⟨b, o + j, none⟩) hb).trans (hc j u hu)⟩
  · obtain ⟨b, o', e', hl, _⟩ := h.2 hn
    rw [e'] at e
    cases e
    rcases hf.2 with h2 | h2
    · rw [h2]; exact hs hn _ _ e'
    · intro x; have := h2 _ x; omega
/-- What lies in new blocks is none of an elder row. -/
theorem Sep.new {v : Value} {B n : Nat} {e : TypeId} {m size : Nat} {xs : List Value} {w : World} {A : Option Addr} (h : w.ownsRow B e size v m xs) (ha : ∀ g o, A = some ⟨g, o, none⟩ → w.heap.size ≤ g) : Sep v A n := by
  intro _ g o e x
  have := (h.lt g x).2
  have := ha g o e
  omega
theorem own_new {B : Nat} {e : TypeId} {size : Nat} {a : Option Addr} {m n cap : Nat} {xs : List Value} {w : World} (h : w.ownsRow B e size (.slice a m cap) n xs) : ∀ g o, a = some ⟨g, o, none⟩ → B ≤ g := by
  intro g o e
  exact (h.lt g (by rw [e]; rfl)).1
end Go.Proofs.YtfjgacankfidmaaDoor
/- Directives in a slice that the call made. -/
namespace Go.Proofs.YtfjgacankfidmaaDoor
open Go.RowKit
set_option maxRecDepth 100000

theorem uDir : (Tryd.prog.info? 28).map (fun i => (i.zero, i.size, i.bytes)) = some (some (.agg #[.string ByteArray.empty, .string ByteArray.empty, .bool false, .string ByteArray.empty]), 4, 56) := by kernel_rfl
def OwnD (B : Nat) (v : Value) (ds : List Dir) (w : World) : Prop := w.ownsRow B 28 4 v ds.length (dirsV ds)
theorem OwnD.shape {B : Nat} {v : Value} {ds : List Dir} {w : World} (h : OwnD B v ds w) : ∃ a cap, v = .slice a ds.length cap := by
  rcases h.2 with ⟨rfl, h0⟩ | ⟨g, cap, cur, rfl, _⟩
  · exact ⟨none, 0, by rw [h0]⟩
  · exact ⟨_, _, rfl⟩
theorem OwnD.below {B : Nat} {v : Value} {ds : List Dir} {w w1 : World} (h : OwnD B v ds w) (hb : Below w.heap.size w w1) : OwnD B v ds w1 := own_below h hb
theorem OwnD.nil (B : Nat) (w : World) : OwnD B (.slice none 0 0) [] w := World.ownsRow_nil _ _ _ _
theorem OwnD.rd {B m cap : Nat} {a : Option Addr} {ds : List Dir} {w : World} (h : OwnD B (.slice a m cap) ds w) : m = ds.length ∧ Rd a ds.length 4 (dirsV ds) w := Rd.of_own h
theorem OwnD.base {B B' : Nat} {v : Value} {ds : List Dir} {w : World} (h : OwnD B v ds w) (hB : B' ≤ B) : OwnD B' v ds w := by
  refine ⟨h.1, ?_⟩
  rcases h.2 with h | ⟨g, cp, cur, hv, hg, r⟩
  · exact Or.inl h
  · exact Or.inr ⟨g, cp, cur, hv, by omega, r⟩
theorem dirV_one (d : Dir) : ∀ u ∈ dirV d, u.oneCell' = true := by
  intro u hu
  simp [dirV] at hu
  rcases hu with rfl | rfl | rfl | rfl <;> rfl
theorem dirsV_snoc (ds : List Dir) (d : Dir) : dirsV (ds ++ [d]) = dirsV ds ++ dirV d := by unfold dirsV; simp
theorem app_dir {ops : Array Oper} {rest : List Oper} {o : Oper} {a : Act} {Q : Exit → Act → World → Prop} (B : Nat) (d : Dir) {w : World} {v : Value} {ds : List Dir} (hown : OwnD B v ds w) (hB : B ≤ w.heap.size) (hn : ds.length ≤ 1000000000)
    (hgd : o.guard = none) (s x : Operand) (ho : o.op = .call { callee := .builtin .append, args := #[s, x], argTypes := #[22, 22] })
    (hs : a.eval s = v) (hx : a.eval x = .slice (some ⟨w.heap.size, 0, none⟩) 1 1)
    (hK : ∀ v' w1, OwnD B v' (ds ++ [d]) w1 → Below B w w1 → Far w w1 v v' → wpList Tryd.prog ops Q rest (a.put o.dst v') w1) :
    wpList Tryd.prog ops Q (o :: rest) a (w.alloc (.cells #[.string ⟨d.name.toArray⟩, .string ⟨d.value.toArray⟩, .bool d.has, .string ⟨d.for_.toArray⟩] 28)) := by
  refine app_one (z := .agg #[.string ByteArray.empty, .string ByteArray.empty, .bool false, .string ByteArray.empty]) (bytes := 56) (n := ds.length) hgd s x 22 28 ho Tryd.underlying22 uDir rfl (by decide) (by decide) B (dirV d) rfl (dirV_one d) hs hx hown hB hn ?_
  intro v' w1 h1 h2 h3
  refine hK v' w1 ?_ h2 h3
  show World.ownsRow _ _ _ _ _ _ _
  rw [List.length_append, List.length_singleton, dirsV_snoc]
  exact h1
/-- Directives that are handed back in a slice of the call's own. -/
def DirsPost (w : World) (ds : List Dir) (e : Ending) (w' : World) : Prop :=
  ∃ a cap, e = .returned (.slice a ds.length cap) ∧ OwnD w.heap.size (.slice a ds.length cap) ds w' ∧ Below w.heap.size w w'
end Go.Proofs.YtfjgacankfidmaaDoor
/- The walk of the document's Same (two lists of directives). -/
namespace Go.Proofs.YtfjgacankfidmaaDoor
open Go.RowKit

end Go.Proofs.YtfjgacankfidmaaDoor
/- What came in, opened: texts and fields in slices; replies and entries by value. -/
namespace Go.Proofs.YtfjgacankfidmaaDoor
open Go.ChangeShapes Go.WideShapes Go.RowKit
set_option maxRecDepth 100000

/-- The form's own reach: each string, slice and map within d. -/
def Reach {H : Type} (T : TypeId) (d : DataW H) : Prop := ∀ n ∈ d.weights Tryd.prog T, n ≤ reachBytes
theorem reach_each {H : Type} {ts : List TypeId} {ds : List (DataW H)} (h : (DataW.weightsEach Tryd.prog ts ds).all (· ≤ reachBytes) = true) {j : Nat} {t : TypeId} {d : DataW H} (ht : ts[j]? = some t) (hd : ds[j]? = some d) : Reach t d :=
  fun n hn => of_decide_eq_true (List.all_eq_true.1 h n (DataW.weights_mem_each ht hd n hn))
theorem reach_str {H : Type} {T : TypeId} {l : List UInt8} (h : Reach (H := H) T (.lit (.string l))) : l.length ≤ reachBytes := h _ (by simp [DataW.weights])
theorem weightsAll_mem' {H : Type} {e : TypeId} : ∀ {ds : List (DataW H)} {d : DataW H}, d ∈ ds → ∀ n ∈ d.weights Tryd.prog e, n ∈ DataW.weightsAll Tryd.prog e ds
  | x :: r, d, hd, n, hn => by
    simp only [DataW.weightsAll, List.mem_append]
    rcases List.mem_cons.1 hd with rfl | h
    · exact Or.inl hn
    · exact Or.inr (weightsAll_mem' h n hn)
theorem reach_elem {H : Type} {t e : TypeId} (hu : Tryd.prog.underlying t = some (.slice e)) {elems spare : List (DataW H)} (h : Reach t (.slice elems spare)) {d : DataW H} (hd : d ∈ elems) : Reach e d := by
  intro n hn
  refine h n ?_
  simp only [DataW.weights, hu, List.mem_cons, List.mem_append]
  exact Or.inr (Or.inl (weightsAll_mem' hd n hn))
theorem reach_len {H : Type} {t e : TypeId} (hu : Tryd.prog.underlying t = some (.slice e)) {elems spare : List (DataW H)} (h : Reach t (.slice elems spare)) : elems.length * Tryd.prog.bytesOf e ≤ reachBytes := by
  have := h ((elems.length + spare.length) * Tryd.prog.bytesOf e) (by simp [DataW.weights, hu])
  exact Nat.le_trans (Nat.mul_le_mul_right _ (by omega)) this
theorem reach_part {H : Type} {t : TypeId} {fs : Array Field} (hu : Tryd.prog.underlying t = some (.struct fs)) {parts : List (DataW H)} (h : Reach t (.agg parts)) {j : Nat} {f : Field} {d : DataW H} (hf : fs[j]? = some f) (hd : parts[j]? = some d) : Reach f.type d := by
  intro n hn
  refine h n ?_
  simp only [DataW.weights, hu]
  exact DataW.weights_mem_each (j := j) (by simp [hf]) hd n hn

theorem two_of {α : Type} : ∀ (l : List α), l.length = 2 → ∃ u v, l = [u, v]
  | [u, v], _ => ⟨u, v, rfl⟩
theorem exists_listL {α : Type} (n : Nat) (Pr : Nat → α → Prop) (h : ∀ i, i < n → ∃ x, Pr i x) : ∃ xs : List α, xs.length = n ∧ ∀ i (hi : i < xs.length), Pr i xs[i] := by
  induction n with
  | zero => exact ⟨[], rfl, fun i hi => by simp at hi⟩
  | succ n ih =>
    obtain ⟨xs, hl, hx⟩ := ih (fun i hi => h i (by omega))
    obtain ⟨x, hx1⟩ := h n (by omega)
    refine ⟨xs ++ [x], by simp [hl], fun i hi => ?_⟩
    rw [List.length_append, List.length_singleton] at hi
    by_cases hin : i < xs.length
    · rw [List.getElem_append_left hin]; exact hx i hin
    · have : i = n := by omega
      subst this
      rw [List.getElem_append_right (by omega)]
      simpa [hl] using hx1

section
variable {H : Type} {enc : TypeId × Value → H} {W : World}
/-- A slice of texts that came in. -/
theorem open_texts {fuel : Nat} {cs : List Value} {x : DataW H × List MemPlace} (h : DataW.trod enc Tryd.prog W 0 (fun _ => true) true fuel 34 cs = some x) (hr : Reach 34 x.1) :
    ∃ A n c ls, cs = [.slice A n c] ∧ Rd A n 1 (strsV ls) W ∧ n * 16 ≤ reachBytes ∧ ∀ l ∈ ls, l.length ≤ reachBytes := by
  rcases Go.Deep.open_slice Tryd.underlying34 h with ⟨rfl, rfl⟩ | ⟨a, len, cap, m, n, D, Pl, rfl, hb, hl, hm, hmm, rfl, hi⟩
  · exact ⟨none, 0, 0, [], rfl, Rd.nil, by decide, by simp⟩
  · simp only [if_true] at hmm
    subst hmm
    have hc1 : Tryd.prog.cellsOf 9 = 1 := by kernel_rfl
    have key : ∀ i, i < len → ∃ s : List UInt8, W.cell? (a.add i) = some (.string ⟨s.toArray⟩) ∧ D i = .lit (.string s) := by
      intro i hi'
      obtain ⟨cs', hcs, ht⟩ := hi i (by omega)
      rw [hc1, Nat.mul_one] at hcs
      obtain ⟨s, rfl, hx, _⟩ := DataW.trod_string Tryd.underlying9 ht
      obtain ⟨_, _, hat⟩ := World.cells?_some hcs
      refine ⟨s.data.toList, ?_, congrArg Prod.fst hx⟩
      have := hat 0 (by omega)
      rw [str_of]
      simpa [Addr.add] using this
    obtain ⟨ls, hll, hls⟩ := exists_listL len _ key
    refine ⟨some a, len, _, ls, rfl, ⟨by simp [strsV, hll], fun hn => ?_⟩, ?_, ?_⟩
    · have hspot : a.spot = none := by
        have := World.cell?_spot (hls 0 (by omega)).1
        simpa [Addr.add] using this
      obtain ⟨b, o, spot⟩ := a
      simp only at hspot
      subst hspot
      refine ⟨b, o, rfl, ?_, fun j u hu => ?_⟩
      · rcases Nat.lt_or_ge b W.heap.size with h' | h'
        · exact h'
        · have := (hls 0 (by omega)).1
          simp [World.cell?, Addr.add, Array.getElem?_eq_none h'] at this
      · have hj : j < ls.length := by have := (List.getElem?_eq_some_iff.1 hu).1; simpa [strsV] using this
        have h1 := (hls j hj).1
        have e : (⟨b, o, none⟩ : Addr).add j = ⟨b, o + j, none⟩ := by unfold Addr.add; split <;> simp_all
        rw [e] at h1
        rw [h1, ← hu]; simp [strsV, hj]
    · have := reach_len Tryd.underlying34 hr
      rw [List.length_map, List.length_range, show Tryd.prog.bytesOf 9 = 16 from by kernel_rfl] at this
      exact this
    · intro l hl'
      obtain ⟨i, hi', e⟩ := List.mem_iff_getElem.1 hl'
      have h2 := (hls i hi').2
      rw [e] at h2
      exact reach_str (reach_elem Tryd.underlying34 hr (List.mem_map.2 ⟨i, List.mem_range.2 (by omega), h2⟩))
theorem open_texts_v {base : Nat} {v : Value} {d : DataW H} {p : List MemPlace} (hv : Value.okWide Tryd.prog W .any base 34 v) (h : DataW.Trod enc Tryd.prog W 0 (fun _ => true) true 34 v d p) (hr : Reach 34 d) :
    ∃ A n c ls, v = .slice A n c ∧ Rd A n 1 (strsV ls) W ∧ n * 16 ≤ reachBytes ∧ ∀ l ∈ ls, l.length ≤ reachBytes := by
  obtain ⟨a0, len, cap, rfl⟩ := okWide_slice Tryd.underlying34 hv
  obtain ⟨fuel, hf⟩ := h
  have hf' : DataW.trod enc Tryd.prog W 0 (fun _ => true) true fuel 34 [.slice a0 len cap] = some (d, p) := hf
  obtain ⟨A, n, c, xs, e, r⟩ := open_texts hf' hr
  exact ⟨A, n, c, xs, (List.cons.inj e).1, r⟩
end
end Go.Proofs.YtfjgacankfidmaaDoor
/- Slices of bytes that came in, opened. -/
namespace Go.Proofs.YtfjgacankfidmaaDoor
open Go.ChangeShapes Go.WideShapes Go.RowKit
set_option maxRecDepth 100000

theorem byteOfB {x : Int} (h : (Lit.int .u8 x).wf = true) : ∃ b : UInt8, x = (b.toNat : Int) := by
  have h2 : 0 ≤ x ∧ x ≤ 255 := by
    simp [Lit.wf, IntKind.min, IntKind.max, IntKind.signed, IntKind.bits] at h
    omega
  refine ⟨UInt8.ofNat x.toNat, ?_⟩
  have : (UInt8.ofNat x.toNat).toNat = x.toNat := by simp; omega
  omega
theorem addB_at (b o j : Nat) : (⟨b, o, none⟩ : Addr).add j = ⟨b, o + j, none⟩ := by unfold Addr.add; split <;> simp_all
/-- Bytes in a slice. -/
def BIn (A : Option Addr) (bs : List UInt8) (w : World) : Prop := 0 < bs.length → ∃ b o, A = some ⟨b, o, none⟩ ∧ b < w.heap.size ∧ ∀ j x, bs[j]? = some x → w.cell? ⟨b, o + j, none⟩ = some (.int .u8 x.toNat)
theorem BIn.below {A : Option Addr} {bs : List UInt8} {w w' : World} (h : BIn A bs w) (hb : Below w.heap.size w w') : BIn A bs w' := by
  intro h0
  obtain ⟨b, o, e, hl, hc⟩ := h h0
  exact ⟨b, o, e, Nat.lt_of_lt_of_le hl hb.size, fun j x hx => (hb.cell (p := ⟨b, o + j, none⟩) hl).trans (hc j x hx)⟩
theorem open_bytes_v {H : Type} {enc : TypeId × Value → H} {W : World} {base : Nat} {v : Value} {d : DataW H} {p : List MemPlace} (hv : Value.okWide Tryd.prog W .any base 23 v) (h : DataW.Trod enc Tryd.prog W 0 (fun _ => true) true 23 v d p) :
    ∃ A n c bs, v = .slice A n c ∧ n = bs.length ∧ BIn A bs W ∧ n ≤ maxLen := by
  obtain ⟨a0, len, cap, rfl⟩ := okWide_slice Tryd.underlying23 hv
  obtain ⟨fuel, hf⟩ := h
  have hf' : DataW.trod enc Tryd.prog W 0 (fun _ => true) true fuel 23 [.slice a0 len cap] = some (d, p) := hf
  have hc1 : Tryd.prog.cellsOf 5 = 1 := by kernel_rfl
  rcases open_ints Tryd.underlying23 Tryd.underlying5 hc1 hf' with ⟨hcs, _⟩ | ⟨a, len', cap', zs, hcs, _, hl, hm, hz, _, hcell, hwf⟩
  · simp at hcs
    obtain ⟨rfl, rfl, rfl⟩ := hcs
    exact ⟨none, 0, 0, [], rfl, rfl, fun h => absurd h (by simp), Nat.zero_le _⟩
  · simp at hcs
    obtain ⟨rfl, rfl, rfl⟩ := hcs
    simp only [if_true] at hz
    have hby : ∀ z ∈ zs, z = ((UInt8.ofNat z.toNat).toNat : Int) := by
      intro z hz'
      obtain ⟨bl, rfl⟩ := byteOfB (hwf z hz')
      simp
    refine ⟨some a, len, cap, (zs.take len).map (fun z => UInt8.ofNat z.toNat), rfl, by simp; omega, fun h0 => ?_, by omega⟩
    have hl0 : 0 < zs.length := by simp at h0; omega
    have hspot : a.spot = none := by
      have := World.cell?_spot (hcell 0 hl0)
      simpa [Addr.add] using this
    obtain ⟨b, o, spot⟩ := a
    simp only at hspot
    subst hspot
    refine ⟨b, o, rfl, ?_, fun j x hx => ?_⟩
    · rcases Nat.lt_or_ge b W.heap.size with h' | h'
      · exact h'
      · have := hcell 0 hl0
        simp [World.cell?, Addr.add, Array.getElem?_eq_none h'] at this
    · have hj : j < zs.length ∧ j < len := by
        have := (List.getElem?_eq_some_iff.1 hx).1
        simp at this; omega
      have h1 := hcell j hj.1
      rw [addB_at] at h1
      rw [h1]
      have h2 := hby _ (List.getElem_mem hj.1)
      simp [hj.1, hj.2] at hx
      subst hx
      have h3 : zs.getD j 0 = zs[j] := by simp [List.getD, hj.1]
      rw [h3, ← h2]
end Go.Proofs.YtfjgacankfidmaaDoor
/- Slices of directives that came in, opened. -/
namespace Go.Proofs.YtfjgacankfidmaaDoor
open Go.ChangeShapes Go.WideShapes Go.RowKit
set_option maxRecDepth 100000

theorem dfour_of {α : Type} : ∀ (l : List α), l.length = 4 → ∃ a b c d, l = [a, b, c, d]
  | [a, b, c, d], _ => ⟨a, b, c, d, rfl⟩
/-- A directive within the form's reach. -/
def DirR (d : Dir) : Prop := d.name.length ≤ reachBytes ∧ d.value.length ≤ reachBytes ∧ d.for_.length ≤ reachBytes
section
variable {H : Type} {enc : TypeId × Value → H} {W : World}
def dirD (d : Dir) : DataW H := .agg [.lit (.string d.name), .lit (.string d.value), .lit (.bool d.has), .lit (.string d.for_)]
theorem open_dir_cs {fuel : Nat} {cs : List Value} {x : DataW H × List MemPlace} (h : DataW.trod enc Tryd.prog W 0 (fun _ => true) true fuel 28 cs = some x) :
    ∃ d : Dir, cs = dirV d ∧ x.1 = dirD d := by
  obtain ⟨ys, n', _, hx, hcl, hyl, hg⟩ := DataW.trod_struct Tryd.underlying28 h
  have hc4 : Tryd.prog.cellsOf 28 = 4 := by kernel_rfl
  have hcs : Tryd.prog.cellsOf 9 = 1 := by kernel_rfl
  have hcb : Tryd.prog.cellsOf 4 = 1 := by kernel_rfl
  obtain ⟨c0, c1, c2, c3, rfl⟩ := dfour_of cs (hcl.trans hc4)
  obtain ⟨y0, y1, y2, y3, rfl⟩ := dfour_of ys hyl
  have g0 : DataW.trod enc Tryd.prog W 0 (fun _ => true) true n' 9 (([c0, c1, c2, c3].drop 0).take (Tryd.prog.cellsOf 9)) = some y0 := hg 0 _ rfl
  have g1 : DataW.trod enc Tryd.prog W 0 (fun _ => true) true n' 9 (([c0, c1, c2, c3].drop 1).take (Tryd.prog.cellsOf 9)) = some y1 := hg 1 _ rfl
  have g2 : DataW.trod enc Tryd.prog W 0 (fun _ => true) true n' 4 (([c0, c1, c2, c3].drop 2).take (Tryd.prog.cellsOf 4)) = some y2 := hg 2 _ rfl
  have g3 : DataW.trod enc Tryd.prog W 0 (fun _ => true) true n' 9 (([c0, c1, c2, c3].drop 3).take (Tryd.prog.cellsOf 9)) = some y3 := hg 3 _ rfl
  rw [hcs] at g0 g1 g3
  rw [hcb] at g2
  obtain ⟨s0, e0, z0, _⟩ := DataW.trod_string Tryd.underlying9 (cs := [c0]) g0
  obtain ⟨s1, e1, z1, _⟩ := DataW.trod_string Tryd.underlying9 (cs := [c1]) g1
  obtain ⟨b2, e2, z2⟩ := DataW.trod_bool Tryd.underlying4 (cs := [c2]) g2
  obtain ⟨s3, e3, z3, _⟩ := DataW.trod_string Tryd.underlying9 (cs := [c3]) g3
  have e0' := (List.cons.inj e0).1
  have e1' := (List.cons.inj e1).1
  have e2' := (List.cons.inj e2).1
  have e3' := (List.cons.inj e3).1
  subst e0'; subst e1'; subst e2'; subst e3'; subst z0; subst z1; subst z2; subst z3
  refine ⟨⟨s0.data.toList, s1.data.toList, b2, s3.data.toList⟩, ?_, ?_⟩
  · simp only [dirV, str_of]
  · rw [hx]; rfl
theorem reach_dir {d : Dir} (h : Reach (H := H) 28 (dirD d)) : DirR d :=
  ⟨reach_str (reach_part Tryd.underlying28 h (j := 0) rfl rfl), reach_str (reach_part Tryd.underlying28 h (j := 1) rfl rfl), reach_str (reach_part Tryd.underlying28 h (j := 3) rfl rfl)⟩
/-- A slice of directives that came in. -/
theorem open_dirs {fuel : Nat} {cs : List Value} {x : DataW H × List MemPlace} (h : DataW.trod enc Tryd.prog W 0 (fun _ => true) true fuel 22 cs = some x) (hr : Reach 22 x.1) :
    ∃ A n c xs, cs = [.slice A n c] ∧ Rd A n 4 (dirsV xs) W ∧ n * 56 ≤ reachBytes ∧ ∀ d ∈ xs, DirR d := by
  rcases Go.Deep.open_slice Tryd.underlying22 h with ⟨rfl, rfl⟩ | ⟨a, len, cap, m, n, D, Pl, rfl, hb, hl, hm, hmm, rfl, hi⟩
  · exact ⟨none, 0, 0, [], rfl, Rd.nil, by decide, by simp⟩
  · simp only [if_true] at hmm
    subst hmm
    have hc4 : Tryd.prog.cellsOf 28 = 4 := by kernel_rfl
    have key : ∀ i, i < len → ∃ d : Dir, (∀ j u, (dirV d)[j]? = some u → W.cell? (a.add (i * 4 + j)) = some u) ∧ D i = dirD d := by
      intro i hi'
      obtain ⟨cs', hcs, ht⟩ := hi i (by omega)
      rw [hc4] at hcs
      obtain ⟨_, hlen, hat⟩ := World.cells?_some hcs
      obtain ⟨d, rfl, hx⟩ := open_dir_cs ht
      refine ⟨d, fun j u hu => ?_, hx⟩
      have hj : j < 4 := (List.getElem?_eq_some_iff.1 hu).1
      have := hat j hj
      rw [Go.Deep.add_add] at this
      rw [this, ← hu, List.getElem?_eq_getElem (show j < (dirV d).length from hj)]
    obtain ⟨xs, hll, hls⟩ := exists_listL len _ key
    refine ⟨some a, len, _, xs, rfl, ⟨by rw [dirsV_len, hll], fun hn => ?_⟩, ?_, ?_⟩
    · have hspot : a.spot = none := by
        have := World.cell?_spot ((hls 0 (by omega)).1 0 _ rfl)
        simpa [Addr.add] using this
      obtain ⟨b, o, spot⟩ := a
      simp only at hspot
      subst hspot
      have e : ∀ j, (⟨b, o, none⟩ : Addr).add j = ⟨b, o + j, none⟩ := fun j => by unfold Addr.add; split <;> simp_all
      refine ⟨b, o, rfl, ?_, fun j u hu => ?_⟩
      · rcases Nat.lt_or_ge b W.heap.size with h' | h'
        · exact h'
        · have := (hls 0 (by omega)).1 0 _ rfl
          simp [World.cell?, Addr.add, Array.getElem?_eq_none h'] at this
      · have hj : j < xs.length * 4 := by have := (List.getElem?_eq_some_iff.1 hu).1; rwa [dirsV_len] at this
        have hk : j / 4 < xs.length := by omega
        have h1 := (hls (j / 4) hk).1 (j % 4)
        have h2 := dirsV_at xs (j / 4) hk
        have h4 : j % 4 < 4 := Nat.mod_lt _ (by omega)
        have ej : j = j / 4 * 4 + j % 4 := by omega
        have key2 : (dirV xs[j / 4])[j % 4]? = some u := by
          have hu2 : (dirsV xs)[j / 4 * 4 + j % 4]? = some u := by rw [show j / 4 * 4 + j % 4 = j from by omega]; exact hu
          rw [← hu2]
          generalize j % 4 = r at *
          match r, h4 with
          | 0, _ => rw [Nat.add_zero, h2.1]; rfl
          | 1, _ => rw [h2.2.1]; rfl
          | 2, _ => rw [h2.2.2.1]; rfl
          | 3, _ => rw [h2.2.2.2]; rfl
        have h3 := h1 u key2
        rw [e] at h3
        rw [show o + j = o + (j / 4 * 4 + j % 4) from by omega]
        exact h3
    · have := reach_len Tryd.underlying22 hr
      rw [List.length_map, List.length_range, show Tryd.prog.bytesOf 28 = 56 from by kernel_rfl] at this
      exact this
    · intro d hd'
      obtain ⟨i, hi', e⟩ := List.mem_iff_getElem.1 hd'
      have h2 := (hls i hi').2
      rw [e] at h2
      have h3 := reach_elem Tryd.underlying22 hr (List.mem_map.2 ⟨i, List.mem_range.2 (by omega), h2⟩)
      exact reach_dir h3
theorem open_dirs_v {base : Nat} {v : Value} {d : DataW H} {p : List MemPlace} (hv : Value.okWide Tryd.prog W .any base 22 v) (h : DataW.Trod enc Tryd.prog W 0 (fun _ => true) true 22 v d p) (hr : Reach 22 d) :
    ∃ A n c xs, v = .slice A n c ∧ Rd A n 4 (dirsV xs) W ∧ n * 56 ≤ reachBytes ∧ ∀ d ∈ xs, DirR d := by
  obtain ⟨a0, len, cap, rfl⟩ := okWide_slice Tryd.underlying22 hv
  obtain ⟨fuel, hf⟩ := h
  have hf' : DataW.trod enc Tryd.prog W 0 (fun _ => true) true fuel 22 [.slice a0 len cap] = some (d, p) := hf
  obtain ⟨A, n, c, xs, e, r⟩ := open_dirs hf' hr
  exact ⟨A, n, c, xs, (List.cons.inj e).1, r⟩
end
end Go.Proofs.YtfjgacankfidmaaDoor
/- The library's own mark. -/
namespace Go.Proofs.YtfjgacankfidmaaDoor
open Go.RowKit
set_option maxRecDepth 100000

/-- The library's own mark holds a number. -/
def MaxL (w : World) : Prop := 0 < w.heap.size ∧ ∃ m, w.cell? ⟨0, 0, none⟩ = some (.int .i64 m)
theorem MaxL.of {w : World} (h : ∃ m, w.cell? ⟨0, 0, none⟩ = some (.int .i64 m)) : MaxL w := by
  obtain ⟨m, h⟩ := h
  exact ⟨World.block_lt_of_cell? w _ h, m, h⟩
theorem MaxL.below {w w' : World} (h : MaxL w) (hb : Below w.heap.size w w') : MaxL w' := by
  obtain ⟨h0, m, h⟩ := h
  exact ⟨Nat.lt_of_lt_of_le h0 hb.size, m, (hb.cell (p := ⟨_, 0, none⟩) h0).trans h⟩
end Go.Proofs.YtfjgacankfidmaaDoor
/- strings.Cut. -/
namespace Go.Proofs.YtfjgacankfidmaaDoor
open Go.RowKit
set_option maxRecDepth 100000

theorem cut_any (s sep : ByteArray) (w : World) (h : MaxL w) (hs : s.size ≤ 1000000) :
    Calls Tryd.prog 35 #[.string s, .string sep] w fun e w' => e = .returned (.tuple #[.string ⟨(Lib.cut s.data.toList sep.data.toList).1.toArray⟩, .string ⟨(Lib.cut s.data.toList sep.data.toList).2.1.toArray⟩, .bool (Lib.cut s.data.toList sep.data.toList).2.2]) ∧ Below w.heap.size w w' := by
  obtain ⟨_, m, hm⟩ := h
  refine (Tryd.strings_Cut s sep m w (by omega) hm).mono ?_
  rintro e w' ⟨rfl, n, rfl⟩
  exact ⟨rfl, Go.below_drewN (Below.refl _ _) _⟩

end Go.Proofs.YtfjgacankfidmaaDoor
/- strings.Builder's writers at this seat: the copy check, WriteByte, WriteString. The library's own contracts ask a body of the copy check that is not the one here (its last branch is refused by the loader), so they are walked anew with the library's laws on append. -/
namespace Go.Proofs.YtfjgacankfidmaaDoor
open Go.RowKit
set_option maxRecDepth 100000

theorem bSize : (Tryd.prog.info? 43).map (·.size) = some 2 := by kernel_rfl
theorem bLies : liesAt Tryd.prog Tryd.prog.depth 43 (2 / Tryd.prog.cellsOf 43) 0 43 1 = true := by kernel_rfl
theorem bByte : (Tryd.prog.info? 5).map (fun i => (i.zero, i.size, i.bytes)) = some (some (.int .u8 0), 1, 1) := by kernel_rfl

set_option maxHeartbeats 1000000 in
theorem copyCheck_used (b : Nat) (w : World) (h0 : w.cell? ⟨b, 0, none⟩ = some (.pointer (some ⟨b, 0, none⟩))) :
    Calls Tryd.prog 24 #[.pointer (some ⟨b, 0, none⟩)] w fun e w' => e = .returned (.tuple #[]) ∧ w = w' := by
  obtain ⟨j, hj, _⟩ := Option.map_eq_some_iff.1 bSize
  go_enter Tryd.func24, Tryd.ntmps24
  go_wp2
  rw [Lib.run_neq_ptr_same w _ Tryd.underlying41 hj]
  go_wp2
  go_end0
  exact ⟨rfl, rfl⟩

set_option maxHeartbeats 1000000 in
theorem copyCheck_fresh (b : Nat) (w : World) (h0 : w.cell? ⟨b, 0, none⟩ = some (.pointer none)) (hsh : w.shape? b = some (43, 2)) (hfz : w.frozen? ⟨b, 0, none⟩ = false) :
    Calls Tryd.prog 24 #[.pointer (some ⟨b, 0, none⟩)] w fun e w' => e = .returned (.tuple #[]) ∧ w.setCell ⟨b, 0, none⟩ (.pointer (some ⟨b, 0, none⟩)) = w' := by
  obtain ⟨j, hj, hjs⟩ := Option.map_eq_some_iff.1 bSize
  go_enter Tryd.func24, Tryd.ntmps24
  go_wp2
  rw [Lib.run_to_unsafe w ⟨b, 0, none⟩ Tryd.underlying41 Tryd.underlying69 hj (by rw [hjs]; decide) hsh (Nat.zero_lt_succ 1)]
  simp only [Result.andThen]
  rw [Oper.upon_value]
  go_wp2
  rw [run_callFunc_extern Tryd.func30 (by kernel_rfl) (by kernel_rfl) (by kernel_rfl) (e := Extern.AbiNoEscape.same) (by kernel_rfl)]
  rw [Lib.run_noEscape]
  simp only [Result.andThen]
  rw [Oper.upon_value]
  go_wp2
  rw [Lib.run_from_unsafe w ⟨b, 0, none⟩ Tryd.underlying69 Tryd.underlying41 hj hsh bLies]
  simp only [Result.andThen]
  rw [Oper.upon_value]
  go_wp2
  go_end0
  exact ⟨rfl, rfl⟩

/-- A builder in block b, the call's own from B on, that holds these bytes. -/
def IsB (B b : Nat) (l : List UInt8) (w : World) : Prop := Lib.IsBuilderF 43 5 B b (Lib.byteCells l) w

theorem copyCheck_any (B b : Nat) (bs : List Value) (w : World) (h : Lib.IsBuilderF 43 5 B b bs w) :
    Calls Tryd.prog 24 #[.pointer (some ⟨b, 0, none⟩)] w fun e w' => e = .returned (.tuple #[]) ∧ Lib.BuilderAtF 43 5 B b (.pointer (some ⟨b, 0, none⟩)) bs w' ∧ Below B w w' ∧ Lib.OthersKept 5 (some b) w w' := by
  rcases h with h | h
  · refine (copyCheck_fresh b w h.cell0 h.shape h.frozen0).mono ?_
    rintro e w' ⟨rfl, rfl⟩
    exact ⟨rfl, h.used _, (Below.refl B w).setCell (p := ⟨b, 0, none⟩) h.1 _, (Lib.OthersKept.refl _ _ w).setCell ⟨b, 0, none⟩ rfl _⟩
  · refine (copyCheck_used b w h.cell0).mono ?_
    rintro e w' ⟨rfl, rfl⟩
    exact ⟨rfl, h, Below.refl B _, Lib.OthersKept.refl _ _ _⟩

theorem IsB.lt {B b : Nat} {l : List UInt8} {w : World} (h : IsB B b l w) : b < w.heap.size := by
  rcases h with h | h <;> exact h.lt

set_option maxHeartbeats 2000000 in
set_option maxRecDepth 100000 in
theorem writeByte_any (B b : Nat) (l : List UInt8) (c : UInt8) (w : World) (h : IsB B b l w) (hlen : l.length + 1 ≤ 140737488355328) (hBw : B ≤ w.heap.size) :
    Calls Tryd.prog 17 #[.pointer (some ⟨b, 0, none⟩), .int .u8 c.toNat] w fun e w' => e = .returned .nilIface ∧ IsB B b (l ++ [c]) w' ∧ Below B w w' ∧ Lib.OthersKept 5 (some b) w w' := by
  unfold IsB at *
  have hlb := Lib.byteCells_length l
  have hap : Lib.byteCells (l ++ [c]) = Lib.byteCells l ++ [.int .u8 c.toNat] := by rw [Lib.byteCells_append]; rfl
  rw [hap]; clear hap
  generalize Lib.byteCells l = bs at *
  obtain ⟨n, hn⟩ : ∃ n : Int, n = c.toNat := ⟨_, rfl⟩
  rw [← hn]; clear hn
  have Hlb := Lib.hid hlb; clear hlb
  obtain ⟨i0, hi, hz0, hz1, hz2⟩ := info_parts bByte
  go_enter Tryd.func17, Tryd.ntmps17
  go_wp2_with (go_at_call 24; refine (copyCheck_any B b bs _ h).mono ?_)
  rintro e w1 ⟨rfl, h1, hb1, hk1⟩
  obtain ⟨hB, v, hbk, hown, hne⟩ := h1
  have c0 : w1.cell? ⟨b, 0, none⟩ = some (.pointer (some ⟨b, 0, none⟩)) := by rw [Lib.cell_of_heap hbk]; rfl
  have c1 : w1.cell? ⟨b, 1, none⟩ = some v := by rw [Lib.cell_of_heap hbk]; rfl
  go_wp2_with (at_builtin; refine wpList_append_ownF _ rfl _ _ 23 rfl B 5 i0 (.int .u8 0) 1 1 Tryd.underlying23 hi hz0 hz1 hz2 rfl (by decide) _ _ _ rfl (hown.alloc _) ⟨w1.heap.size, 0, none⟩ 1 1 [.int .u8 n] rfl rfl ?c1 ?c2 ?c3 ?c4 ?c5 ?_)
  case c1 =>
    intro j u hj
    match j, hj with
    | 0, hj => simp at hj; subst hj; simp [Addr.add]
  case c2 => intro u hu; simp at hu; subst hu; rfl
  case c3 => have := Hlb.out; unfold maxLen; omega
  case c4 => have := Hlb.out; omega
  case c5 => have := hb1.size; simp; omega
  intro v' w2 hown' hgrow _
  have hlt : b < w1.heap.size := by
    rcases Nat.lt_or_ge b w1.heap.size with h' | h'
    · exact h'
    · simp [Array.getElem?_eq_none h'] at hbk
  have hb2 : w2.heap[b]? = some (.cells #[.pointer (some ⟨b, 0, none⟩), v] 43 (0, 0)) := by
    rw [hgrow.block b (by simp; omega) (fun e => hne e.symm), Lib.alloc_old w1 _ b hlt]
    exact hbk
  have d0 : w2.cell? ⟨b, 0, none⟩ = some (.pointer (some ⟨b, 0, none⟩)) := by rw [Lib.cell_of_heap hb2]; rfl
  have d1 : w2.cell? ⟨b, 1, none⟩ = some v := by rw [Lib.cell_of_heap hb2]; rfl
  have f1 : w2.frozen? ⟨b, 1, none⟩ = false := Lib.frozen_of_heap hb2 1
  obtain ⟨g, cap, rfl⟩ : ∃ g cap, v' = .slice (some ⟨g, 0, none⟩) (bs.length + 1) cap := by
    rcases hown'.2 with ⟨_, h0⟩ | ⟨g, cap, cur, fz, hv, _⟩
    · omega
    · exact ⟨g, cap, hv⟩
  go_wp2
  go_ret
  refine ⟨rfl, Or.inr ?_, ?_, ((hk1.alloc _).grown hgrow (Lib.ownsRowF_kind (hown.alloc _))).setCell ⟨b, 1, none⟩ rfl _⟩
  · exact Lib.BuilderAtF.put (T := 43) (e := 5) hB hb2 (bs' := bs ++ [.int .u8 n]) (by simpa using hown') (by decide)
  · exact ((hb1.alloc (by have := hb1.size; omega) _).grown hgrow (by have := hb1.size; simp; omega) (fun k hk => (hown.lt k hk).1)).setCell (p := ⟨b, 1, none⟩) hB _

set_option maxHeartbeats 2000000 in
set_option maxRecDepth 100000 in
theorem writeString_any (B b : Nat) (l : List UInt8) (s : ByteArray) (w : World) (h : IsB B b l w) (hlen : l.length + s.size ≤ 140737488355328) (hBw : B ≤ w.heap.size) :
    Calls Tryd.prog 14 #[.pointer (some ⟨b, 0, none⟩), .string s] w fun e w' => e = .returned (.tuple #[.int .i64 s.size, .nilIface]) ∧ IsB B b (l ++ s.data.toList) w' ∧ Below B w w' ∧ Lib.OthersKept 5 (some b) w w' := by
  unfold IsB at *
  have hlb := Lib.byteCells_length l
  have hap : Lib.byteCells (l ++ s.data.toList) = Lib.byteCells l ++ Lib.strCells s := by rw [Lib.byteCells_append]; rfl
  rw [hap]; clear hap
  generalize Lib.byteCells l = bs at *
  have Hlb := Lib.hid hlb; clear hlb
  obtain ⟨i0, hi, hz0, hz1, hz2⟩ := info_parts bByte
  go_enter Tryd.func14, Tryd.ntmps14
  go_wp2_with (go_at_call 24; refine (copyCheck_any B b bs _ h).mono ?_)
  rintro e w1 ⟨rfl, h1, hb1, hk1⟩
  obtain ⟨hB, v, hbk, hown, hne⟩ := h1
  have c0 : w1.cell? ⟨b, 0, none⟩ = some (.pointer (some ⟨b, 0, none⟩)) := by rw [Lib.cell_of_heap hbk]; rfl
  have c1 : w1.cell? ⟨b, 1, none⟩ = some v := by rw [Lib.cell_of_heap hbk]; rfl
  go_wp2_with (at_builtin; refine Lib.wpList_append_own_stringF _ rfl _ _ 23 9 rfl B 5 i0 Tryd.underlying23 Tryd.underlying9 hi hz0 hz1 hz2 _ _ _ rfl hown s rfl ?c3 ?c4 ?c5 ?_)
  case c3 => have := Hlb.out; unfold maxLen; omega
  case c4 => have := Hlb.out; omega
  case c5 => have := hb1.size; omega
  intro v' w2 hown' hgrow _
  have hlt : b < w1.heap.size := by
    rcases Nat.lt_or_ge b w1.heap.size with h' | h'
    · exact h'
    · simp [Array.getElem?_eq_none h'] at hbk
  have hb2 : w2.heap[b]? = some (.cells #[.pointer (some ⟨b, 0, none⟩), v] 43 (0, 0)) := by
    rw [hgrow.block b hlt (fun e => hne e.symm)]
    exact hbk
  have d0 : w2.cell? ⟨b, 0, none⟩ = some (.pointer (some ⟨b, 0, none⟩)) := by rw [Lib.cell_of_heap hb2]; rfl
  have d1 : w2.cell? ⟨b, 1, none⟩ = some v := by rw [Lib.cell_of_heap hb2]; rfl
  have f1 : w2.frozen? ⟨b, 1, none⟩ = false := Lib.frozen_of_heap hb2 1
  obtain ⟨ao, n', cap, rfl⟩ : ∃ ao n' cap, v' = .slice ao n' cap := by
    rcases hown'.2 with ⟨hv, _⟩ | ⟨g, cap, cur, fz, hv, _⟩
    · exact ⟨_, _, _, hv⟩
    · exact ⟨_, _, _, hv⟩
  go_wp2
  go_ret2
  refine ⟨rfl, Or.inr ?_, ?_, (hk1.grown hgrow (Lib.ownsRowF_kind hown)).setCell ⟨b, 1, none⟩ rfl _⟩
  · exact Lib.BuilderAtF.put (T := 43) (e := 5) hB hb2 (bs' := bs ++ Lib.strCells s) (by simpa [Lib.strCells_length] using hown') (by decide)
  · exact (hb1.grown hgrow (by have := hb1.size; omega) (fun k hk => (hown.lt k hk).1)).setCell (p := ⟨b, 1, none⟩) hB _
end Go.Proofs.YtfjgacankfidmaaDoor
/- The walks of text.Quote and text.Unquote, and of the document's. -/
namespace Go.Proofs.YtfjgacankfidmaaDoor
open Go.RowKit

theorem plain_any (c : UInt8) (w : World) :
    Calls Tryd.prog 18 #[.int .u8 c.toNat] w fun e w' => e = .returned (.bool (plainb c)) ∧ w = w' := by
  have hlt := c.toNat_lt
  have hp : plainb c = (((c.toNat : Int) == 9) || (decide (32 ≤ (c.toNat : Int)) && ((c.toNat : Int) != 127))) := by
    unfold plainb; rw [Bool.eq_iff_iff]; simp; omega
  rw [hp]
  clear hp
  generalize c.toNat = n at *
  cases h1 : ((n : Int) == 9) <;> cases h2 : decide (32 ≤ (n : Int)) <;> cases h3 : ((n : Int) != 127)
  all_goals
    go_enter Tryd.func18, Tryd.ntmps18
    go_wp2
    go_ret
    exact ⟨rfl, rfl⟩

theorem esc_eq (c : UInt8) : esc c = bif ((c.toNat : Int) == 34) || ((c.toNat : Int) == 92) then [92, c] else [c] := by
  unfold esc
  have h1 : (c.toNat == 34) = ((c.toNat : Int) == 34) := by rw [Bool.eq_iff_iff]; simp; omega
  have h2 : (c.toNat == 92) = ((c.toNat : Int) == 92) := by rw [Bool.eq_iff_iff]; simp; omega
  rw [h1, h2]
theorem flat_snoc (s : ByteArray) (k : Nat) (h : k < s.size) : (s.data.toList.take (k + 1)).flatMap esc = (s.data.toList.take k).flatMap esc ++ esc s[k] := by
  rw [take_snoc s k h]; simp
theorem fresh_B (w : World) : IsB w.heap.size w.heap.size [] (w.alloc (.cells #[.pointer none, .slice none 0 0] 43)) :=
  Lib.IsBuilderF.of (Lib.fresh_isBuilder 43 5 w)

set_option maxRecDepth 100000 in
set_option maxHeartbeats 2000000 in
theorem quote_wide (s : ByteArray) (w : World) (hs : s.size ≤ 2000000) :
    Calls Tryd.prog 7 #[.string s] w fun e w' => e = .returned (two (quoteO s)) ∧ Below w.heap.size w w' := by
  have hq : ∀ k, k ≤ s.size → (s.data.toList.take k).all plainb = true → k = s.size → two (quoteO s) = .tuple #[.string ⟨(34 :: ((s.data.toList.take k).flatMap esc ++ [34])).toArray⟩, .int .i64 0] := by
    intro k _ hk e
    rw [take_all s k (by omega)] at hk ⊢
    unfold quoteO quoted two; rw [hk]; rfl
  have hb : ∀ k (h : k < s.size), plainb s[k] = false → two (quoteO s) = .tuple #[.string ⟨#[]⟩, .int .i64 4] := by
    intro k h hk
    unfold quoteO two; rw [all_bad plainb s k h hk]; rfl
  have HQ := Lib.hid hq; have HB := Lib.hid hb
  clear hq hb
  generalize two (quoteO s) = out at *
  go_enter Tryd.func7, Tryd.ntmps7
  go_wp2_with (go_at_call 17; refine (writeByte_any w.heap.size w.heap.size [] 34 _ (fresh_B w) (by simp) (by simp)).mono ?_; rintro e w1 ⟨rfl, h1, b1, -⟩)
  have hb0 : Below w.heap.size w w1 := ((Below.refl _ w).alloc (Nat.le_refl _) _).trans b1
  clear b1
  go_loopw [9] (fun i wr => ∃ k : Nat, k ≤ s.size ∧ i = .int .i64 k ∧ (s.data.toList.take k).all plainb = true ∧ IsB w.heap.size w.heap.size (34 :: (s.data.toList.take k).flatMap esc) wr ∧ Below w.heap.size w wr) (fun i _ => s.size - (intOf i).toNat)
  case atStart => exact ⟨0, Nat.zero_le _, rfl, by simp, by simpa using h1, hb0⟩
  case round =>
    obtain ⟨k, hk, rfl, hall, hI, hbw⟩ := hrel
    have hfl := flat_le (s.data.toList.take k)
    have htl : (s.data.toList.take k).length ≤ k := List.length_take_le _ _
    have Hall := Lib.hid hall; clear hall
    by_cases hlt : k < s.size
    · cases hp : plainb s[k]
      · have hf := HB.out k hlt hp
        have Hf := Lib.hid hf; clear hf
        have Hp := Lib.hid hp; clear hp
        go_wp2_with (go_at_call 18; refine (plain_any _ _).mono ?_; rintro e w2 ⟨rfl, rfl⟩; rw [Hp.out])
        go_ret2
        exact ⟨by rw [Hf.out]; rfl, hbw⟩
      · have he := esc_eq s[k]
        have hsn := flat_snoc s k hlt
        have has := all_snoc plainb s k hlt
        rw [hp] at has
        have Hp := Lib.hid hp; clear hp
        have Hs := Lib.hid hsn; clear hsn
        have Ha := Lib.hid has; clear has
        cases c1 : ((s[k].toNat : Int) == 34) <;> cases c2 : ((s[k].toNat : Int) == 92)
        · rw [c1, c2] at he
          have He := Lib.hid he; clear he
          go_wp2_with (go_at_call 18; refine (plain_any _ _).mono ?_; rintro e w2 ⟨rfl, rfl⟩; rw [Hp.out])
          refine (writeByte_any w.heap.size w.heap.size _ s[k] _ hI (by rw [List.length_cons]; omega) hbw.size).mono ?_
          rintro e w3 ⟨rfl, hI3, b3, -⟩
          go_wp2
          go_roundw
          case rel => exact ⟨k + 1, by omega, by go_num, by rw [Ha.out, Hall.out]; rfl, by rw [Hs.out, He.out]; simpa using hI3, hbw.trans b3⟩
          case measure => simp [intOf]; omega
        · rw [c1, c2] at he
          have He := Lib.hid he; clear he
          go_wp2_with (go_at_call 18; refine (plain_any _ _).mono ?_; rintro e w2 ⟨rfl, rfl⟩; rw [Hp.out])
          refine (writeByte_any w.heap.size w.heap.size _ 92 _ hI (by rw [List.length_cons]; omega) hbw.size).mono ?_
          rintro e w2 ⟨rfl, hI2, b2, -⟩
          have hbw2 := hbw.trans b2
          go_wp2_with (fail)
          refine (writeByte_any w.heap.size w.heap.size _ s[k] _ hI2 (by rw [List.length_append, List.length_cons, List.length_singleton]; omega) hbw2.size).mono ?_
          rintro e w3 ⟨rfl, hI3, b3, -⟩
          go_wp2
          go_roundw
          case rel => exact ⟨k + 1, by omega, by go_num, by rw [Ha.out, Hall.out]; rfl, by rw [Hs.out, He.out]; simpa using hI3, hbw2.trans b3⟩
          case measure => simp [intOf]; omega
        · rw [c1, c2] at he
          have He := Lib.hid he; clear he
          go_wp2_with (go_at_call 18; refine (plain_any _ _).mono ?_; rintro e w2 ⟨rfl, rfl⟩; rw [Hp.out])
          refine (writeByte_any w.heap.size w.heap.size _ 92 _ hI (by rw [List.length_cons]; omega) hbw.size).mono ?_
          rintro e w2 ⟨rfl, hI2, b2, -⟩
          have hbw2 := hbw.trans b2
          go_wp2_with (fail)
          refine (writeByte_any w.heap.size w.heap.size _ s[k] _ hI2 (by rw [List.length_append, List.length_cons, List.length_singleton]; omega) hbw2.size).mono ?_
          rintro e w3 ⟨rfl, hI3, b3, -⟩
          go_wp2
          go_roundw
          case rel => exact ⟨k + 1, by omega, by go_num, by rw [Ha.out, Hall.out]; rfl, by rw [Hs.out, He.out]; simpa using hI3, hbw2.trans b3⟩
          case measure => simp [intOf]; omega
        · exfalso; simp at c1 c2; omega
    · have hf := HQ.out k hk Hall.out (by omega)
      have Hf := Lib.hid hf; clear hf
      go_wp2_with (first | (go_at_call 17; refine (writeByte_any w.heap.size w.heap.size _ 34 _ hI (by rw [List.length_cons]; omega) hbw.size).mono ?_; rintro e w2 ⟨rfl, hI2, b2, -⟩) | (go_at_call 16; refine (Tryd.Builder_String_any_k w.heap.size w.heap.size _ _ hI2 (hbw.trans b2).size).mono ?_; rintro e w3 ⟨rfl, _, b3, _⟩))
      go_ret2
      exact ⟨by rw [Hf.out]; simp, (hbw.trans b2).trans b3⟩


/-- What stands between the ends. -/
theorem quote_any (s : ByteArray) (w : World) (hs : s.size ≤ 1000000) :
    Calls Tryd.prog 7 #[.string s] w fun e w' => e = .returned (two (quoteO s)) ∧ Below w.heap.size w w' := quote_wide s w (by omega)

def mid (s : ByteArray) : ByteArray := s.extract 1 (s.size - 1)
theorem mid_list (s : ByteArray) : (mid s).data.toList = (s.data.toList.drop 1).dropLast := by
  unfold mid; rw [Lib.extract_data, List.dropLast_eq_take, List.length_drop, ← Lib.size_eq]
theorem mid_size (s : ByteArray) : (mid s).size = s.size - 2 := by unfold mid; simp [ByteArray.size_extract]; omega
theorem mid_at (s : ByteArray) (k : Nat) (h : k < (mid s).size) (h' : k + 1 < s.size) : (mid s)[k] = s[k + 1] := by
  have key : ∀ (t : ByteArray) (_ : t = s.extract 1 (s.size - 1)) (hk : k < t.size), t[k] = s[k + 1] := by
    intro t ht hk; subst ht; simp [ByteArray.getElem_extract, Nat.add_comm]
  exact key _ rfl h
theorem ends_ok (s : ByteArray) (h : 2 ≤ s.size) (h0 : s[0].toNat = 34) (h1 : s[s.size - 1].toNat = 34) : unqP s.data.toList = unq false (mid s).data.toList := by
  have e1 : s.data.toList.head? = some s[0] := by rw [List.head?_eq_getElem?, List.getElem?_eq_getElem (by simpa using (by omega : 0 < s.size))]; rfl
  have e2 : s.data.toList.getLast? = some s[s.size - 1] := by
    rw [List.getLast?_eq_getElem?, ← Lib.size_eq, List.getElem?_eq_getElem (by simpa using (by omega : s.size - 1 < s.size))]; rfl
  unfold unqP; rw [e1, e2, mid_list, ← Lib.size_eq]; simp [h, h0, h1]
theorem ends_short (s : ByteArray) (h : s.size < 2) : unqP s.data.toList = none := by
  unfold unqP; rw [← Lib.size_eq]; have : decide (2 ≤ s.size) = false := by simp; omega
  rw [this]; rfl
theorem ends_first (s : ByteArray) (h : 2 ≤ s.size) (h0 : ¬ s[0].toNat = 34) : unqP s.data.toList = none := by
  have e1 : s.data.toList.head? = some s[0] := by rw [List.head?_eq_getElem?, List.getElem?_eq_getElem (by simpa using (by omega : 0 < s.size))]; rfl
  have e2 : (s[0].toNat == 34) = false := by simpa using h0
  unfold unqP; rw [e1]; simp only [Option.getD_some, e2, Bool.and_false, Bool.false_and, cond_false]
theorem ends_last (s : ByteArray) (h : 2 ≤ s.size) (h1 : ¬ s[s.size - 1].toNat = 34) : unqP s.data.toList = none := by
  have e2 : s.data.toList.getLast? = some s[s.size - 1] := by
    rw [List.getLast?_eq_getElem?, ← Lib.size_eq, List.getElem?_eq_getElem (by simpa using (by omega : s.size - 1 < s.size))]; rfl
  have e3 : (s[s.size - 1].toNat == 34) = false := by simpa using h1
  unfold unqP; rw [e2]; simp only [Option.getD_some, e3, Bool.and_false, cond_false]

set_option maxRecDepth 100000 in
set_option maxHeartbeats 2000000 in
theorem unquote_any (s : ByteArray) (w : World) (hs : s.size ≤ 1000000) :
    Calls Tryd.prog 36 #[.string s] w fun e w' => e = .returned (two (unqP s.data.toList)) ∧ Below w.heap.size w w' := by
  by_cases h2 : 2 ≤ s.size
  · by_cases h0 : s[0].toNat = 34
    · by_cases h1 : s[s.size - 1].toNat = 34
      · rw [ends_ok s h2 h0 h1]
        have hms := mid_size s
        have d0 : ((s[0].toNat : Int) != 34) = false := by simp; omega
        have d1 : ((s[s.size - 1].toNat : Int) != 34) = false := by simp; omega
        have d2 : decide ((s.size : Int) < 2) = false := by simp; omega
        clear h0 h1
        obtain ⟨m, hm⟩ : ∃ m, mid s = m := ⟨_, rfl⟩
        have hat : ∀ k (h : k < m.size) (h' : k + 1 < s.size), m[k] = s[k + 1] := by intro k h h'; subst hm; exact mid_at s k h h'
        rw [hm] at hms ⊢
        obtain ⟨out, ho⟩ : ∃ o, unq false m.data.toList = o := ⟨_, rfl⟩
        rw [ho]
        have HO := Lib.hid ho; have HA := Lib.hid hat; have HM := Lib.hid hms
        clear ho hat hm hms
        go_enter Tryd.func36, Tryd.ntmps36
        go_wp2
        clear d0 d1 d2
        go_loopw [27, 5] (fun i b wr => ∃ (k : Nat) (bh : Bool) (acc : List UInt8), k ≤ s.size - 2 ∧ i = .int .i64 k ∧ b = .bool bh ∧ Hid (out = (unq bh (m.data.toList.drop k)).map (acc ++ ·)) ∧ acc.length ≤ k ∧ IsB w.heap.size w.heap.size acc wr ∧ Below w.heap.size w wr) (fun i _ _ => s.size - 2 - (intOf i).toNat)
        case atStart => exact ⟨0, false, [], Nat.zero_le _, rfl, rfl, by have := HO.out; show _ = _; rw [List.drop_zero, this]; simp, by simp, fresh_B w, (Below.refl _ w).alloc (Nat.le_refl _) _⟩
        case round =>
          obtain ⟨k, bh, acc, hk, rfl, rfl, Hout, hacc, hI, hbw⟩ := hrel
          by_cases hlt : k < s.size - 2
          · have hkm : k < m.size := by have := HM.out; omega
            have hc := HA.out k hkm (by omega)
            have hd := drop_cons m k hkm
            rw [hc] at hd
            have Hd := Lib.hid hd; clear hd hc hkm
            have hk1 : k + 1 < s.size := by omega
            cases hp : plainb s[k + 1]
            · have hf : out = none := by rw [Hout.out, Hd.out, unq, hp]; rfl
              have Hf := Lib.hid hf; have Hp := Lib.hid hp; clear hf hp
              go_wp2_with (go_at_call 18; refine (plain_any _ _).mono ?_; rintro e w2 ⟨rfl, rfl⟩; rw [Hp.out])
              go_ret2
              exact ⟨by rw [Hf.out]; rfl, hbw⟩
            · cases c1 : ((s[k + 1].toNat : Int) == 34) <;> cases c2 : ((s[k + 1].toNat : Int) == 92)
              all_goals have d1 : (s[k + 1].toNat == 34) = _ := (beq_cast _ 34).trans c1
              all_goals have d2 : (s[k + 1].toNat == 92) = _ := (beq_cast _ 92).trans c2
              all_goals have D1 := Lib.hid d1
              all_goals have D2 := Lib.hid d2
              all_goals clear d1 d2
              · cases bh
                · have hf : out = (unq false (m.data.toList.drop (k + 1))).map ((acc ++ [s[k + 1]]) ++ ·) := by rw [Hout.out, Hd.out, unq, hp, D1.out, D2.out]; simp [Function.comp_def]
                  have Hf := Lib.hid hf; have Hp := Lib.hid hp; clear hf hp
                  go_wp2_with (go_at_call 18; refine (plain_any _ _).mono ?_; rintro e w2 ⟨rfl, rfl⟩; rw [Hp.out])
                  refine (writeByte_any w.heap.size w.heap.size _ s[k + 1] _ hI (by omega) hbw.size).mono ?_
                  rintro e w3 ⟨rfl, hI3, b3, -⟩
                  go_wp2
                  go_roundw
                  case rel => exact ⟨k + 1, false, _, by omega, by go_num, rfl, Hf, by rw [List.length_append, List.length_singleton]; omega, hI3, hbw.trans b3⟩
                  case measure => simp [intOf]; omega
                · have hf : out = (unq false (m.data.toList.drop (k + 1))).map ((acc ++ [s[k + 1]]) ++ ·) := by rw [Hout.out, Hd.out, unq, hp, D1.out, D2.out]; simp [Function.comp_def]
                  have Hf := Lib.hid hf; have Hp := Lib.hid hp; clear hf hp
                  go_wp2_with (go_at_call 18; refine (plain_any _ _).mono ?_; rintro e w2 ⟨rfl, rfl⟩; rw [Hp.out])
                  refine (writeByte_any w.heap.size w.heap.size _ s[k + 1] _ hI (by omega) hbw.size).mono ?_
                  rintro e w3 ⟨rfl, hI3, b3, -⟩
                  go_wp2
                  go_roundw
                  case rel => exact ⟨k + 1, false, _, by omega, by go_num, rfl, Hf, by rw [List.length_append, List.length_singleton]; omega, hI3, hbw.trans b3⟩
                  case measure => simp [intOf]; omega
              · cases bh
                · have hf : out = (unq true (m.data.toList.drop (k + 1))).map (acc ++ ·) := by rw [Hout.out, Hd.out, unq, hp, D1.out, D2.out]; rfl
                  have Hf := Lib.hid hf; have Hp := Lib.hid hp; clear hf hp
                  go_wp2_with (go_at_call 18; refine (plain_any _ _).mono ?_; rintro e w2 ⟨rfl, rfl⟩; rw [Hp.out])
                  go_roundw
                  case rel => exact ⟨k + 1, true, acc, by omega, by go_num, rfl, Hf, by omega, hI, hbw⟩
                  case measure => simp [intOf]; omega
                · have hf : out = (unq false (m.data.toList.drop (k + 1))).map ((acc ++ [s[k + 1]]) ++ ·) := by rw [Hout.out, Hd.out, unq, hp, D1.out, D2.out]; simp [Function.comp_def]
                  have Hf := Lib.hid hf; have Hp := Lib.hid hp; clear hf hp
                  go_wp2_with (go_at_call 18; refine (plain_any _ _).mono ?_; rintro e w2 ⟨rfl, rfl⟩; rw [Hp.out])
                  refine (writeByte_any w.heap.size w.heap.size _ s[k + 1] _ hI (by omega) hbw.size).mono ?_
                  rintro e w3 ⟨rfl, hI3, b3, -⟩
                  go_wp2
                  go_roundw
                  case rel => exact ⟨k + 1, false, _, by omega, by go_num, rfl, Hf, by rw [List.length_append, List.length_singleton]; omega, hI3, hbw.trans b3⟩
                  case measure => simp [intOf]; omega
              · cases bh
                · have hf : out = none := by rw [Hout.out, Hd.out, unq, hp, D1.out]; rfl
                  have Hf := Lib.hid hf; have Hp := Lib.hid hp; clear hf hp
                  go_wp2_with (go_at_call 18; refine (plain_any _ _).mono ?_; rintro e w2 ⟨rfl, rfl⟩; rw [Hp.out])
                  go_ret2
                  exact ⟨by rw [Hf.out]; rfl, hbw⟩
                · have hf : out = (unq false (m.data.toList.drop (k + 1))).map ((acc ++ [s[k + 1]]) ++ ·) := by rw [Hout.out, Hd.out, unq, hp, D1.out, D2.out]; simp [Function.comp_def]
                  have Hf := Lib.hid hf; have Hp := Lib.hid hp; clear hf hp
                  go_wp2_with (go_at_call 18; refine (plain_any _ _).mono ?_; rintro e w2 ⟨rfl, rfl⟩; rw [Hp.out])
                  refine (writeByte_any w.heap.size w.heap.size _ s[k + 1] _ hI (by omega) hbw.size).mono ?_
                  rintro e w3 ⟨rfl, hI3, b3, -⟩
                  go_wp2
                  go_roundw
                  case rel => exact ⟨k + 1, false, _, by omega, by go_num, rfl, Hf, by rw [List.length_append, List.length_singleton]; omega, hI3, hbw.trans b3⟩
                  case measure => simp [intOf]; omega
              · exfalso; simp at c1 c2; omega
          · have hf : out = bif bh then none else some acc := by
              rw [Hout.out, drop_all m k (by have := HM.out; omega), unq]; cases bh <;> simp
            have Hf := Lib.hid hf; clear hf
            cases bh
            · go_wp2_with (go_at_call 16; refine (Tryd.Builder_String_any_k w.heap.size w.heap.size _ _ hI hbw.size).mono ?_; rintro e w3 ⟨rfl, _, b3, _⟩)
              go_ret2
              exact ⟨by rw [Hf.out]; rfl, hbw.trans b3⟩
            · go_wp2
              go_ret2
              exact ⟨by rw [Hf.out]; rfl, hbw⟩
      · rw [ends_last s h2 h1]
        have d1 : ((s[s.size - 1].toNat : Int) != 34) = true := by simp; omega
        have d0 : ((s[0].toNat : Int) != 34) = false := by simp; omega
        have d2 : decide ((s.size : Int) < 2) = false := by simp; omega
        clear h0 h1
        go_enter Tryd.func36, Tryd.ntmps36
        go_wp2
        go_ret2
        exact ⟨rfl, Below.refl _ _⟩
    · rw [ends_first s h2 h0]
      have d0 : ((s[0].toNat : Int) != 34) = true := by simp; omega
      have d2 : decide ((s.size : Int) < 2) = false := by simp; omega
      clear h0
      go_enter Tryd.func36, Tryd.ntmps36
      go_wp2
      go_ret2
      exact ⟨rfl, Below.refl _ _⟩
  · rw [ends_short s (by omega)]
    have d2 : decide ((s.size : Int) < 2) = true := by simp; omega
    clear h2
    go_enter Tryd.func36, Tryd.ntmps36
    go_wp2
    go_ret2
    exact ⟨rfl, Below.refl _ _⟩
end Go.Proofs.YtfjgacankfidmaaDoor
/- The walks of text.word, text.Token. -/
namespace Go.Proofs.YtfjgacankfidmaaDoor
open Go.RowKit

theorem mark_ix (c : UInt8) : decide (0 ≤ Lib.indexByte markL c) = markL.contains c := by
  have key : ∀ (l : List UInt8), decide (0 ≤ Lib.indexByte l c) = l.contains c := by
    intro l
    rw [Bool.eq_iff_iff]
    simp only [decide_eq_true_eq, List.contains_iff_mem]
    constructor
    · intro h
      obtain ⟨o, ho⟩ := Int.eq_ofNat_of_zero_le h
      exact List.mem_of_getElem? (Lib.indexByte_some ho).1
    · intro h
      obtain ⟨k, hk⟩ := List.mem_iff_getElem?.1 h
      have h1 := Lib.indexByte_ge l c
      have h2 : Lib.indexByte l c ≠ -1 := fun e => Lib.indexByte_none e k hk
      omega
  exact key markL
def letterI (n : Int) : Bool := (decide (97 ≤ n) && decide (n ≤ 122)) || (decide (65 ≤ n) && decide (n ≤ 90)) || (decide (48 ≤ n) && decide (n ≤ 57))
theorem letter_eq (c : UInt8) : letterb c = letterI c.toNat := by
  unfold letterb letterI; rw [Bool.eq_iff_iff]; simp; omega

set_option maxHeartbeats 2000000 in
theorem word_any (c : UInt8) (w : World) :
    Calls Tryd.prog 19 #[.int .u8 c.toNat] w fun e w' => e = .returned (.bool (wordb c)) ∧ w = w' := by
  have hi := Tryd.strings_IndexByte ⟨markL.toArray⟩ (c.toNat : Int)
  rw [show (c.toNat : Int).toNat.toUInt8 = c from by simp] at hi
  rw [show (⟨markL.toArray⟩ : ByteArray).data.toList = markL from rfl] at hi
  have hm := mark_ix c
  have hw : wordb c = (letterI c.toNat || markL.contains c) := by unfold wordb; rw [letter_eq]
  have hu := c.toNat_lt
  generalize Lib.indexByte markL c = ix at *
  generalize c.toNat = n at *
  generalize markL.contains c = mm at *
  rw [hw]
  have HI := Lib.hid hi
  clear hi hw
  unfold letterI
  cases h1 : decide (97 ≤ (n : Int)) <;> cases h2 : decide ((n : Int) ≤ 122)
  · exfalso; simp at h1 h2; omega
  · cases h3 : decide (65 ≤ (n : Int)) <;> cases h4 : decide ((n : Int) ≤ 90)
    · exfalso; simp at h3 h4; omega
    · cases h5 : decide (48 ≤ (n : Int)) <;> cases h6 : decide ((n : Int) ≤ 57)
      · exfalso; simp at h5 h6; omega
      all_goals
        go_enter Tryd.func19, Tryd.ntmps19
        go_wp2_with (go_at_call 26; refine (HI.out _).mono ?_; rintro e w' ⟨rfl, rfl⟩)
        go_ret
        first | exact ⟨by rw [← hm]; rfl, rfl⟩ | exact ⟨rfl, rfl⟩
    · have h5 : decide (48 ≤ (n : Int)) = true := by simp at h3 ⊢; omega
      have h6 : decide ((n : Int) ≤ 57) = false := by simp at h3 ⊢; omega
      rw [h5, h6]
      go_enter Tryd.func19, Tryd.ntmps19
      go_wp2_with (go_at_call 26; refine (HI.out _).mono ?_; rintro e w' ⟨rfl, rfl⟩)
      go_ret
      first | exact ⟨by rw [← hm]; rfl, rfl⟩ | exact ⟨rfl, rfl⟩
    · go_enter Tryd.func19, Tryd.ntmps19
      go_wp2_with (go_at_call 26; refine (HI.out _).mono ?_; rintro e w' ⟨rfl, rfl⟩)
      go_ret
      first | exact ⟨by rw [← hm]; rfl, rfl⟩ | exact ⟨rfl, rfl⟩
  · have h3 : decide (65 ≤ (n : Int)) = true := by simp at h1 ⊢; omega
    have h4 : decide ((n : Int) ≤ 90) = false := by simp at h1 ⊢; omega
    have h5 : decide (48 ≤ (n : Int)) = true := by simp at h1 ⊢; omega
    have h6 : decide ((n : Int) ≤ 57) = false := by simp at h1 ⊢; omega
    rw [h3, h4, h5, h6]
    go_enter Tryd.func19, Tryd.ntmps19
    go_wp2_with (go_at_call 26; refine (HI.out _).mono ?_; rintro e w' ⟨rfl, rfl⟩)
    go_ret
    first | exact ⟨by rw [← hm]; rfl, rfl⟩ | exact ⟨rfl, rfl⟩
  · go_enter Tryd.func19, Tryd.ntmps19
    go_wp2_with (go_at_call 26; refine (HI.out _).mono ?_; rintro e w' ⟨rfl, rfl⟩)
    go_ret
    first | exact ⟨by rw [← hm]; rfl, rfl⟩ | exact ⟨rfl, rfl⟩

set_option maxHeartbeats 2000000 in
theorem token_wide (s : ByteArray) (w : World) (hs : s.size ≤ 140737488351232) :
    Calls Tryd.prog 8 #[.string s] w fun e w' => e = .returned (.bool (tokenL s.data.toList)) ∧ w = w' := by
  have hB : ∀ k (h : k < s.size), wordb s[k] = false → tokenL s.data.toList = false := by
    intro k h hk; unfold tokenL; rw [all_bad wordb s k h hk]; rfl
  have hQ : ∀ k, (s.data.toList.take k).all wordb = true → s.size ≤ k → tokenL s.data.toList = !s.data.toList.isEmpty := by
    intro k h hk; rw [take_all s k hk] at h; unfold tokenL; rw [h]; rfl
  have HB := Lib.hid hB; have HQ := Lib.hid hQ
  clear hB hQ
  generalize tokenL s.data.toList = out at *
  go_enter Tryd.func8, Tryd.ntmps8
  go_wp2
  go_loop [6] (fun i => ∃ k : Nat, k ≤ s.size ∧ i = .int .i64 k ∧ Hid ((s.data.toList.take k).all wordb = true)) (fun i => s.size - (intOf i).toNat)
  case atStart => exact ⟨0, Nat.zero_le _, rfl, by show _ = _; simp⟩
  case round =>
    obtain ⟨k, hk, rfl, Hall⟩ := hrel
    by_cases hlt : k < s.size
    · cases hp : wordb s[k]
      · have hf := HB.out k hlt hp
        have Hf := Lib.hid hf; have Hp := Lib.hid hp; clear hf hp
        go_wp2_with (go_at_call 19; refine (word_any _ _).mono ?_; rintro e w2 ⟨rfl, rfl⟩; rw [Hp.out])
        go_ret
        exact ⟨by rw [Hf.out]; rfl, rfl⟩
      · have hn : (s.data.toList.take (k + 1)).all wordb = true := by rw [all_snoc wordb s k hlt, Hall.out, hp]; rfl
        have Hn := Lib.hid hn; have Hp := Lib.hid hp; clear hn hp
        go_wp2_with (go_at_call 19; refine (word_any _ _).mono ?_; rintro e w2 ⟨rfl, rfl⟩; rw [Hp.out])
        go_round
        case rel => exact ⟨k + 1, by omega, by go_num, Hn⟩
        case measure => simp [intOf]; omega
    · have hf := HQ.out k Hall.out (by omega)
      have Hf := Lib.hid hf; clear hf
      go_wp2
      go_ret
      exact ⟨by rw [Hf.out]; simp [Lib.toList_data], rfl⟩
theorem token_any (s : ByteArray) (w : World) (hs : s.size ≤ 1000000) :
    Calls Tryd.prog 8 #[.string s] w fun e w' => e = .returned (.bool (tokenL s.data.toList)) ∧ w = w' := token_wide s w (by omega)
end Go.Proofs.YtfjgacankfidmaaDoor
/- The walk of directive.said. -/
namespace Go.Proofs.YtfjgacankfidmaaDoor
open Go.RowKit
set_option maxRecDepth 100000

theorem cut_lens (s sep : List UInt8) : (Lib.cut s sep).1.length ≤ s.length ∧ (Lib.cut s sep).2.1.length ≤ s.length := by
  unfold Lib.cut
  by_cases h0 : 0 ≤ Lib.index s sep
  · rw [if_pos h0]; simp; omega
  · rw [if_neg h0]; simp
def saidV : Option Dir → Value
  | none => .tuple #[.agg #[.string ⟨#[]⟩, .string ⟨#[]⟩, .bool false, .string ⟨#[]⟩], .bool false]
  | some d => .tuple #[.agg #[.string ⟨d.name.toArray⟩, .string ⟨d.value.toArray⟩, .bool d.has, .string ⟨d.for_.toArray⟩], .bool true]
set_option maxHeartbeats 8000000 in
theorem said_any (s : ByteArray) (w : World) (hM : MaxL w) (hs : s.size ≤ 1000000) :
    Calls Tryd.prog 29 #[.string s] w fun e w' => e = .returned (saidV (saidO s.data.toList)) ∧ Below w.heap.size w w' := by
  obtain ⟨W0, hW0⟩ : ∃ W0, w.alloc (.cells #[.string ⟨#[]⟩, .string ⟨#[]⟩, .bool false, .string ⟨#[]⟩] 28) = W0 := ⟨_, rfl⟩
  have hB0 : Below w.heap.size w W0 := by rw [← hW0]; exact (Below.refl w.heap.size w).alloc (Nat.le_refl _) _
  have z0 : w.heap.size < W0.heap.size := by rw [← hW0]; simp
  have hc : ∀ j, W0.cell? ⟨w.heap.size, j, none⟩ = #[Value.string ⟨#[]⟩, .string ⟨#[]⟩, .bool false, .string ⟨#[]⟩][j]? := fun j => by rw [← hW0]; exact World.cell?_alloc_mark w _ _ _ j
  have hf : ∀ j, W0.frozen? ⟨w.heap.size, j, none⟩ = false := fun j => by rw [← hW0]; exact World.frozen?_alloc_at _ _ _ _ rfl
  have kc : ∀ w', Below W0.heap.size W0 w' → Below w.heap.size w w' ∧ w'.cell? ⟨w.heap.size, 0, none⟩ = some (.string ⟨#[]⟩) ∧ w'.cell? ⟨w.heap.size, 1, none⟩ = some (.string ⟨#[]⟩) ∧ w'.cell? ⟨w.heap.size, 2, none⟩ = some (.bool false) ∧ w'.cell? ⟨w.heap.size, 3, none⟩ = some (.string ⟨#[]⟩) ∧ w'.frozen? ⟨w.heap.size, 0, none⟩ = false ∧ w'.frozen? ⟨w.heap.size, 1, none⟩ = false ∧ w'.frozen? ⟨w.heap.size, 2, none⟩ = false ∧ w'.frozen? ⟨w.heap.size, 3, none⟩ = false ∧ w.heap.size < w'.heap.size :=
    fun w' h => ⟨hB0.trans (h.mono hB0.size), (h.cell (p := ⟨w.heap.size, 0, none⟩) z0).trans (hc 0), (h.cell (p := ⟨w.heap.size, 1, none⟩) z0).trans (hc 1), (h.cell (p := ⟨w.heap.size, 2, none⟩) z0).trans (hc 2), (h.cell (p := ⟨w.heap.size, 3, none⟩) z0).trans (hc 3), (h.frozen (p := ⟨w.heap.size, 0, none⟩) z0).trans (hf 0), (h.frozen (p := ⟨w.heap.size, 1, none⟩) z0).trans (hf 1), (h.frozen (p := ⟨w.heap.size, 2, none⟩) z0).trans (hf 2), (h.frozen (p := ⟨w.heap.size, 3, none⟩) z0).trans (hf 3), Nat.lt_of_lt_of_le z0 h.size⟩
  have k1 := cut_any s ⟨#[61]⟩ W0 (hM.below hB0) hs
  rw [show (⟨#[61]⟩ : ByteArray).data.toList = [61] from rfl] at k1
  have hl := cut_lens s.data.toList [61]
  rw [← Lib.size_eq] at hl
  have ho : saidO s.data.toList = bif !tokenL (Lib.cut s.data.toList [61]).1 then none
    else bif (Lib.cut s.data.toList [61]).2.2 && !tokenL (Lib.cut s.data.toList [61]).2.1 then (unqP (Lib.cut s.data.toList [61]).2.1).map fun s2 => ⟨lowerL (Lib.cut s.data.toList [61]).1, s2, true, []⟩
    else some ⟨lowerL (Lib.cut s.data.toList [61]).1, (Lib.cut s.data.toList [61]).2.1, (Lib.cut s.data.toList [61]).2.2, []⟩ := rfl
  generalize Lib.cut s.data.toList [61] = c at *
  obtain ⟨nm, v, has⟩ := c
  obtain ⟨nm, rfl⟩ : ∃ o : ByteArray, nm = o.data.toList := ⟨⟨nm.toArray⟩, rfl⟩
  obtain ⟨v, rfl⟩ : ∃ o : ByteArray, v = o.data.toList := ⟨⟨v.toArray⟩, rfl⟩
  simp only [str_of, ← Lib.size_eq] at k1 hl ho
  obtain ⟨hl1, hl2⟩ := hl
  have k2 := fun w => token_any nm w (by omega)
  have k3 := fun w => token_any v w (by omega)
  have k4 := fun w => lower_any nm w (by omega)
  have k5 := fun w => unquote_any v w (by omega)
  obtain ⟨ln, hln⟩ : ∃ ln : ByteArray, ⟨(lowerL nm.data.toList).toArray⟩ = ln := ⟨_, rfl⟩
  rw [hln] at k4
  have hV : saidV (saidO s.data.toList) = bif !tokenL nm.data.toList then .tuple #[.agg #[.string ⟨#[]⟩, .string ⟨#[]⟩, .bool false, .string ⟨#[]⟩], .bool false] else bif has && !tokenL v.data.toList then (match unqP v.data.toList with | none => .tuple #[.agg #[.string ⟨#[]⟩, .string ⟨#[]⟩, .bool false, .string ⟨#[]⟩], .bool false] | some s2 => .tuple #[.agg #[.string ln, .string ⟨s2.toArray⟩, .bool true, .string ⟨#[]⟩], .bool true]) else .tuple #[.agg #[.string ln, .string v, .bool has, .string ⟨#[]⟩], .bool true] := by
    rw [ho, ← hln]
    cases tokenL nm.data.toList
    · rfl
    · cases has <;> cases tokenL v.data.toList <;> simp only [Bool.not_true, Bool.not_false, cond_true, cond_false, Bool.and_true, Bool.and_false, saidV, str_of]
      cases unqP v.data.toList <;> rfl
  generalize saidV (saidO s.data.toList) = out at *
  generalize tokenL nm.data.toList = tn at *
  generalize tokenL v.data.toList = tv at *
  generalize unqP v.data.toList = uq at *
  have K1 := Lib.hid k1; have K2 := Lib.hid k2; have K3 := Lib.hid k3; have K4 := Lib.hid k4; have K5 := Lib.hid k5; have KC := Lib.hid kc; have HW0 := Lib.hid hW0
  clear k1 k2 k3 k4 k5 kc hc hf hW0 ho hln hl1 hl2
  cases tn
  · have HO := Lib.hid (show out = _ from hV); clear hV
    simp only [Bool.not_false, cond_true] at HO
    go_enter Tryd.func29, Tryd.ntmps29
    go_wp2_with fail
    rw [HW0.out]
    refine K1.out.mono ?_
    rintro e w1 ⟨rfl, hb1⟩
    go_wp2_with fail
    refine (K2.out _).mono ?_
    rintro e w2 ⟨rfl, rfl⟩
    have ho := HO.out
    subst ho
    clear HO
    obtain ⟨hBw, g0, g1, g2, g3, q0, q1, q2, q3, glt⟩ := KC.out _ hb1
    clear KC
    go_wp2_with fail
    refine bodyPost_ret_by (v := .tuple #[.agg #[.string ⟨#[]⟩, .string ⟨#[]⟩, .bool false, .string ⟨#[]⟩], .bool false]) ?_ rfl ?_
    · rw [results_cell_tmp rfl]
      go_simp
    · exact ⟨rfl, (((hBw.setCell (p := ⟨w.heap.size, 0, none⟩) (Nat.le_refl _) _).setCell (p := ⟨w.heap.size, 1, none⟩) (Nat.le_refl _) _).setCell (p := ⟨w.heap.size, 2, none⟩) (Nat.le_refl _) _).setCell (p := ⟨w.heap.size, 3, none⟩) (Nat.le_refl _) _⟩
  · simp only [Bool.not_true, cond_false] at hV
    cases has
    · simp only [Bool.false_and, cond_false] at hV
      have HO := Lib.hid hV; clear hV
      go_enter Tryd.func29, Tryd.ntmps29
      go_wp2_with fail
      rw [HW0.out]
      refine K1.out.mono ?_
      rintro e w1 ⟨rfl, hb1⟩
      go_wp2_with fail
      refine (K2.out _).mono ?_
      rintro e w2 ⟨rfl, rfl⟩
      have ho := HO.out
      subst ho
      clear HO
      go_wp2_with fail
      refine (K4.out _).mono ?_
      rintro e w9 ⟨rfl, hb9⟩
      have hB9 := bt hb1 hb9
      obtain ⟨hBw, g0, g1, g2, g3, q0, q1, q2, q3, glt⟩ := KC.out _ hB9
      clear KC
      go_wp2_with fail
      refine bodyPost_ret_by (v := .tuple #[.agg #[.string ln, .string v, .bool false, .string ⟨#[]⟩], .bool true]) ?_ rfl ?_
      · rw [results_cell_tmp rfl]
        go_simp
      · exact ⟨rfl, (((hBw.setCell (p := ⟨w.heap.size, 0, none⟩) (Nat.le_refl _) _).setCell (p := ⟨w.heap.size, 1, none⟩) (Nat.le_refl _) _).setCell (p := ⟨w.heap.size, 2, none⟩) (Nat.le_refl _) _).setCell (p := ⟨w.heap.size, 3, none⟩) (Nat.le_refl _) _⟩
    · cases tv
      · simp only [Bool.not_false, Bool.and_true, cond_true] at hV
        cases uq with
        | none =>
          have HO := Lib.hid hV; clear hV
          simp only at HO
          have K6 : Hid (∀ w, Calls Tryd.prog 36 #[.string v] w fun e w' => e = .returned (.tuple #[.string ⟨#[]⟩, .int .i64 4]) ∧ Below w.heap.size w w') := K5
          go_enter Tryd.func29, Tryd.ntmps29
          go_wp2_with fail
          rw [HW0.out]
          refine K1.out.mono ?_
          rintro e w1 ⟨rfl, hb1⟩
          go_wp2_with fail
          refine (K2.out _).mono ?_
          rintro e w2 ⟨rfl, rfl⟩
          go_wp2_with fail
          refine (K3.out _).mono ?_
          rintro e w3 ⟨rfl, rfl⟩
          go_wp2_with fail
          refine (K6.out _).mono ?_
          rintro e w4 ⟨rfl, hb4⟩
          have hB4 := bt hb1 hb4
          have ho := HO.out
          subst ho
          clear HO
          obtain ⟨hBw, g0, g1, g2, g3, q0, q1, q2, q3, glt⟩ := KC.out _ hB4
          clear KC
          go_wp2_with fail
          refine bodyPost_ret_by (v := .tuple #[.agg #[.string ⟨#[]⟩, .string ⟨#[]⟩, .bool false, .string ⟨#[]⟩], .bool false]) ?_ rfl ?_
          · rw [results_cell_tmp rfl]
            go_simp
          · exact ⟨rfl, (((hBw.setCell (p := ⟨w.heap.size, 0, none⟩) (Nat.le_refl _) _).setCell (p := ⟨w.heap.size, 1, none⟩) (Nat.le_refl _) _).setCell (p := ⟨w.heap.size, 2, none⟩) (Nat.le_refl _) _).setCell (p := ⟨w.heap.size, 3, none⟩) (Nat.le_refl _) _⟩
        | some s2 =>
          have HO := Lib.hid hV; clear hV
          simp only at HO
          have K6 : Hid (∀ w, Calls Tryd.prog 36 #[.string v] w fun e w' => e = .returned (.tuple #[.string ⟨s2.toArray⟩, .int .i64 0]) ∧ Below w.heap.size w w') := K5
          go_enter Tryd.func29, Tryd.ntmps29
          go_wp2_with fail
          rw [HW0.out]
          refine K1.out.mono ?_
          rintro e w1 ⟨rfl, hb1⟩
          go_wp2_with fail
          refine (K2.out _).mono ?_
          rintro e w2 ⟨rfl, rfl⟩
          go_wp2_with fail
          refine (K3.out _).mono ?_
          rintro e w3 ⟨rfl, rfl⟩
          go_wp2_with fail
          refine (K6.out _).mono ?_
          rintro e w4 ⟨rfl, hb4⟩
          have hB4 := bt hb1 hb4
          have ho := HO.out
          subst ho
          clear HO
          go_wp2_with fail
          refine (K4.out _).mono ?_
          rintro e w9 ⟨rfl, hb9⟩
          have hB9 := bt hB4 hb9
          obtain ⟨hBw, g0, g1, g2, g3, q0, q1, q2, q3, glt⟩ := KC.out _ hB9
          clear KC
          go_wp2_with fail
          refine bodyPost_ret_by (v := .tuple #[.agg #[.string ln, .string ⟨s2.toArray⟩, .bool true, .string ⟨#[]⟩], .bool true]) ?_ rfl ?_
          · rw [results_cell_tmp rfl]
            go_simp
          · exact ⟨rfl, (((hBw.setCell (p := ⟨w.heap.size, 0, none⟩) (Nat.le_refl _) _).setCell (p := ⟨w.heap.size, 1, none⟩) (Nat.le_refl _) _).setCell (p := ⟨w.heap.size, 2, none⟩) (Nat.le_refl _) _).setCell (p := ⟨w.heap.size, 3, none⟩) (Nat.le_refl _) _⟩
      · simp only [Bool.not_true, Bool.and_false, cond_false] at hV
        have HO := Lib.hid hV; clear hV
        go_enter Tryd.func29, Tryd.ntmps29
        go_wp2_with fail
        rw [HW0.out]
        refine K1.out.mono ?_
        rintro e w1 ⟨rfl, hb1⟩
        go_wp2_with fail
        refine (K2.out _).mono ?_
        rintro e w2 ⟨rfl, rfl⟩
        go_wp2_with fail
        refine (K3.out _).mono ?_
        rintro e w3 ⟨rfl, rfl⟩
        have ho := HO.out
        subst ho
        clear HO
        go_wp2_with fail
        refine (K4.out _).mono ?_
        rintro e w9 ⟨rfl, hb9⟩
        have hB9 := bt hb1 hb9
        obtain ⟨hBw, g0, g1, g2, g3, q0, q1, q2, q3, glt⟩ := KC.out _ hB9
        clear KC
        go_wp2_with fail
        refine bodyPost_ret_by (v := .tuple #[.agg #[.string ln, .string v, .bool true, .string ⟨#[]⟩], .bool true]) ?_ rfl ?_
        · rw [results_cell_tmp rfl]
          go_simp
        · exact ⟨rfl, (((hBw.setCell (p := ⟨w.heap.size, 0, none⟩) (Nat.le_refl _) _).setCell (p := ⟨w.heap.size, 1, none⟩) (Nat.le_refl _) _).setCell (p := ⟨w.heap.size, 2, none⟩) (Nat.le_refl _) _).setCell (p := ⟨w.heap.size, 3, none⟩) (Nat.le_refl _) _⟩
end Go.Proofs.YtfjgacankfidmaaDoor
/- The walk of text.Split: its closure first. -/
namespace Go.Proofs.YtfjgacankfidmaaDoor
open Go.RowKit

/-- What the closure stands on: the text, where the piece began, and the pieces so far. -/
structure TakeSt (B : Nat) (s : ByteArray) (f : Nat) (ls : List (List UInt8)) (w : World) : Prop where
  text : w.heap[B]? = some (.cells #[.string s] 9 (0, 0))
  list : ∃ v, w.heap[B + 1]? = some (.cells #[v] 34 (0, 0)) ∧ OwnS (B + 3) v ls w
  start : w.heap[B + 2]? = some (.cells #[.int .i64 f] 3 (0, 0))

def pieceOf (s : ByteArray) (f t : Nat) : List UInt8 := trimL ((s.data.toList.drop f).take (t - f))

set_option maxRecDepth 100000 in
set_option maxHeartbeats 2000000 in
theorem take_any (B : Nat) (s : ByteArray) (f t : Nat) (ls : List (List UInt8)) (w : World) (h : TakeSt B s f ls w) (hft : f ≤ t) (ht : t ≤ s.size) (hs : s.size ≤ 1000000) (hn : ls.length ≤ 1000001) :
    Calls Tryd.prog 33 #[.int .i64 t, .pointer (some ⟨B, 0, none⟩), .pointer (some ⟨B + 2, 0, none⟩), .pointer (some ⟨B + 1, 0, none⟩)] w
      fun e w' => e = .returned (.tuple #[]) ∧ TakeSt B s (t + 1) (addP ls (pieceOf s f t)) w' ∧ Below B w w' := by
  obtain ⟨h1, ⟨v, h2, hown⟩, h3⟩ := h
  obtain ⟨c1, z1, l1⟩ := of_heap h1 0
  obtain ⟨c2, z2, l2⟩ := of_heap h2 0
  obtain ⟨c3, z3, l3⟩ := of_heap h3 0
  simp at c1 c2 c3
  have hex : (s.extract f t).data.toList = (s.data.toList.drop f).take (t - f) := Lib.extract_data s f t
  have hexs : (s.extract f t).size ≤ 1000000 := by rw [ByteArray.size_extract]; omega
  have k1 := fun w => trim_any (s.extract f t) w hexs
  rw [hex] at k1
  have hp : trimL ((s.data.toList.drop f).take (t - f)) = pieceOf s f t := rfl
  rw [hp] at k1
  have hpl : (pieceOf s f t).length ≤ 1000000 := by
    have h1 := trimL_le ((s.data.toList.drop f).take (t - f))
    rw [hp] at h1
    have h2 : ((s.data.toList.drop f).take (t - f)).length ≤ s.data.toList.length := by rw [List.length_take, List.length_drop]; omega
    rw [← Lib.size_eq] at h2; omega
  generalize pieceOf s f t = p at *
  have K1 := Lib.hid k1; have HO := Lib.hid hown; have H1 := Lib.hid h1; have H2 := Lib.hid h2; have H3 := Lib.hid h3
  clear k1 hown h1 h2 h3 hex hp
  obtain ⟨i0, hi, hz0, hz1, hz2⟩ := info_parts uStr
  cases he : p.isEmpty
  · have hadd : addP ls p = ls ++ [p] := by unfold addP; rw [he]; rfl
    have HA := Lib.hid hadd; clear hadd
    go_enter Tryd.func33, Tryd.ntmps33
    go_wp2_with (first | (go_at_call 34; refine (K1.out _).mono ?_; rintro e w1 ⟨rfl, hb1⟩; have d2 := (hb1.cell (p := ⟨B + 1, 0, none⟩) l2).trans c2; have d3 := (hb1.cell (p := ⟨B + 2, 0, none⟩) l3).trans c3; have y2 := (hb1.frozen (p := ⟨B + 1, 0, none⟩) l2).trans z2; have y3 := (hb1.frozen (p := ⟨B + 2, 0, none⟩) l3).trans z3; have HO1 := Lib.hid (own_below HO.out hb1)) | (at_builtin; refine wpList_append_own _ rfl _ _ 34 rfl (B + 3) 9 i0 (.string ByteArray.empty) 1 16 Tryd.underlying34 hi hz0 hz1 hz2 rfl (by decide) _ _ _ rfl (HO1.out.alloc _) ⟨w1.heap.size, 0, none⟩ 1 1 [.string ⟨p.toArray⟩] rfl rfl ?c1 ?c2 ?c3 ?c4 ?c5 ?_))
    case c1 =>
      intro j u hj
      match j, hj with
      | 0, hj => simp at hj; subst hj; simp [Addr.add]
    case c2 => intro u hu; simp at hu; subst hu; rfl
    case c3 => unfold maxLen; omega
    case c4 => omega
    case c5 => have := hb1.size; simp; omega
    intro v' w2 hown' hgrow _
    have hkeep : ∀ b, b < B + 3 → b < w.heap.size → w2.heap[b]? = w.heap[b]? := by
      intro b hb3 hbw
      have h1 := hb1.size
      rw [hgrow.block b (by simp; omega) (fun e => by have := (HO1.out.lt b e.symm).1; omega), Below.heap_alloc _ _ _ (by omega), hb1.block b hbw]
    have q1 := (hkeep B (by omega) l1).trans H1.out
    have q2 := (hkeep (B + 1) (by omega) l2).trans H2.out
    have q3 := (hkeep (B + 2) (by omega) l3).trans H3.out
    obtain ⟨e2, f2, _⟩ := of_heap q2 0
    obtain ⟨e3, f3, _⟩ := of_heap q3 0
    simp at e2 e3
    obtain ⟨g, cap, rfl⟩ : ∃ g cap, v' = .slice (some ⟨g, 0, none⟩) (ls.length + 1) cap := by
      rcases hown'.2 with ⟨_, h0⟩ | ⟨g, cap, cur, hv, _⟩
      · omega
      · exact ⟨g, cap, hv⟩
    have hbelow : Below B w w2 := ((hb1.mono (by omega)).alloc (by have := hb1.size; omega) _).grown hgrow (by have := hb1.size; simp; omega) (fun k hk => by have := (HO1.out.lt k hk).1; omega)
    have HQ1 := Lib.hid q1; have HQ2 := Lib.hid q2; have HQ3 := Lib.hid q3; have HN := Lib.hid hown'; have HB := Lib.hid hbelow
    clear q1 q2 q3 hown' hkeep hgrow hbelow hb1 d2 d3 y2 y3 c1 c2 c3
    go_wp2
    go_end0
    refine ⟨rfl, ⟨?_, ⟨_, heap_set2 (by omega) HQ2.out, ?_⟩, ?_⟩, (HB.out.setCell (p := ⟨B + 1, 0, none⟩) (by show B ≤ B + 1; omega) _).setCell (p := ⟨B + 2, 0, none⟩) (by show B ≤ B + 2; omega) _⟩
    · rw [Below.heap_setCell _ _ _ _ (by show B ≠ B + 2; omega), Below.heap_setCell _ _ _ _ (by show B ≠ B + 1; omega)]; exact HQ1.out
    · rw [HA.out]
      refine ownsRow_setCell_below (ownsRow_setCell_below ?_ (by show B + 1 < B + 3; omega) _) (by show B + 2 < B + 3; omega) _
      rw [List.length_append, List.length_singleton, List.map_append]; exact HN.out
    · exact heap_set (by rw [Below.heap_setCell _ _ _ _ (by show B + 2 ≠ B + 1; omega)]; exact HQ3.out)
  · have hadd : addP ls p = ls := by unfold addP; rw [he]; rfl
    have HA := Lib.hid hadd; clear hadd
    go_enter Tryd.func33, Tryd.ntmps33
    go_wp2_with (go_at_call 34; refine (K1.out _).mono ?_; rintro e w1 ⟨rfl, hb1⟩; have d3 := (hb1.cell (p := ⟨B + 2, 0, none⟩) l3).trans c3; have y3 := (hb1.frozen (p := ⟨B + 2, 0, none⟩) l3).trans z3)
    go_end0
    refine ⟨rfl, ⟨?_, ⟨v, ?_, ?_⟩, ?_⟩, (hb1.mono (by omega)).setCell (p := ⟨B + 2, 0, none⟩) (by show B ≤ B + 2; omega) _⟩
    · rw [Below.heap_setCell _ _ _ _ (by show B ≠ B + 2; omega), hb1.block B l1]; exact H1.out
    · rw [Below.heap_setCell _ _ _ _ (by show B + 1 ≠ B + 2; omega), hb1.block (B + 1) l2]; exact H2.out
    · rw [HA.out]; exact ownsRow_setCell_below (own_below HO.out hb1) (by show B + 2 < B + 3; omega) _
    · exact heap_set (by rw [hb1.block (B + 2) l3]; exact H3.out)

def seg (s : ByteArray) (f k : Nat) : List UInt8 := (s.data.toList.drop f).take (k - f)
theorem seg_snoc (s : ByteArray) (f k : Nat) (hf : f ≤ k) (h : k < s.size) : seg s f (k + 1) = seg s f k ++ [s[k]] := by
  unfold seg
  rw [show k + 1 - f = (k - f) + 1 from by omega, List.take_succ_eq_append_getElem (by rw [List.length_drop, ← Lib.size_eq]; omega)]
  congr 2
  rw [List.getElem_drop, at_list s k h]; congr 1; omega
theorem seg_self (s : ByteArray) (k : Nat) : seg s k k = [] := by unfold seg; rw [Nat.sub_self]; rfl
/-- One step of the scan, by what the byte is. -/
theorem spl_step (sep : UInt8) (o b : Bool) (cur : List UInt8) (ls : List (List UInt8)) (c : UInt8) (r : List UInt8) (x92 x34 xs : Bool) (h1 : ((c.toNat : Int) == 92) = x92) (h2 : ((c.toNat : Int) == 34) = x34) (h3 : ((c.toNat : Int) == (sep.toNat : Int)) = xs) :
    splP sep o b cur ls (c :: r) = bif b then splP sep o false (cur ++ [c]) ls r
    else bif o && x92 then splP sep o true (cur ++ [c]) ls r
    else bif x34 then splP sep (!o) false (cur ++ [c]) ls r
    else bif xs && !o then splP sep o false [] (addP ls (trimL cur)) r
    else splP sep o false (cur ++ [c]) ls r := by
  have e1 := (beq_cast c.toNat 92).trans h1
  have e2 := (beq_cast c.toNat 34).trans h2
  have e3 := (beq_cast c.toNat sep.toNat).trans h3
  rw [splP, e1, e2, e3]

/-- What Split hands back. -/
def SplitPost (w : World) (r : List (List UInt8) × Int) (e : Ending) (w' : World) : Prop :=
  ∃ a cap, e = .returned (.tuple #[.slice a r.1.length cap, .int .i64 r.2]) ∧ OwnS w.heap.size (.slice a r.1.length cap) r.1 w' ∧ Below w.heap.size w w'
theorem SplitPost.none {w w' : World} {n : Int} (h : Below w.heap.size w w') : SplitPost w ([], n) (.returned (.tuple #[.slice none 0 0, .int .i64 n])) w' :=
  ⟨Option.none, 0, rfl, World.ownsRow_nil _ _ _ _, h⟩

set_option maxRecDepth 100000 in
set_option maxHeartbeats 4000000 in
theorem split_any (s : ByteArray) (sep : UInt8) (w : World) (hs : s.size ≤ 1000000) :
    Calls Tryd.prog 28 #[.string s, .int .u8 sep.toNat] w (SplitPost w (splitL sep s.data.toList)) := by
  cases q1 : ((sep.toNat : Int) == 34)
  · cases q2 : ((sep.toNat : Int) == 92)
    · have hsp : splitL sep s.data.toList = splitE (splP sep false false [] [] s.data.toList) := by
        unfold splitL; rw [(beq_cast sep.toNat 34).trans q1, (beq_cast sep.toNat 92).trans q2]; rfl
      rw [hsp]; clear hsp
      obtain ⟨tot, htot⟩ : ∃ t, splP sep false false [] [] s.data.toList = t := ⟨_, rfl⟩
      rw [htot]
      have hcnt : ∀ ps, tot = some ps → ps.length ≤ 1000001 := by
        intro ps e
        have := spl_count sep s.data.toList false false [] [] ps (htot.trans e)
        rw [← Lib.size_eq] at this; simp at this; omega
      have HT := Lib.hid htot; have HC := Lib.hid hcnt; clear htot hcnt
      have hB3 : Below w.heap.size w (((w.alloc (.cells #[.string s] 9)).alloc (.cells #[.slice none 0 0] 34)).alloc (.cells #[.int .i64 0] 3)) := (((Below.refl _ w).alloc (Nat.le_refl _) _).alloc (by simp) _).alloc (by simp; omega) _
      have hst : TakeSt w.heap.size s 0 [] (((w.alloc (.cells #[.string s] 9)).alloc (.cells #[.slice none 0 0] 34)).alloc (.cells #[.int .i64 0] 3)) := by
        refine ⟨?_, ⟨.slice none 0 0, ?_, World.ownsRow_nil _ _ _ _⟩, ?_⟩
        · rw [Below.heap_alloc _ _ _ (by simp; omega), Below.heap_alloc _ _ _ (by simp)]; exact heap_new _ _ _ rfl
        · rw [Below.heap_alloc _ _ _ (by simp)]; exact heap_new _ _ _ (by simp)
        · exact heap_new _ _ _ (by simp)
      have HB3 := Lib.hid hB3; have HST := Lib.hid hst; clear hB3 hst
      go_enter Tryd.func28, Tryd.ntmps28
      go_wp2
      go_loopw [22, 8, 9] (fun i o b wr => ∃ (k : Nat) (oo bb : Bool) (f : Nat) (ls : List (List UInt8)), k ≤ s.size ∧ i = .int .i64 k ∧ o = .bool oo ∧ b = .bool bb ∧ f ≤ k ∧ (bb = true → oo = true) ∧ ls.length ≤ k ∧ TakeSt w.heap.size s f ls wr ∧ Below w.heap.size w wr ∧ Hid (splP sep oo bb (seg s f k) ls (s.data.toList.drop k) = tot)) (fun i _ _ _ => s.size - (intOf i).toNat)
      case atStart => exact ⟨0, false, false, 0, [], Nat.zero_le _, rfl, rfl, rfl, Nat.le_refl _, (fun h => absurd h (by decide)), by simp, HST.out, HB3.out, by show _ = _; rw [seg_self]; exact HT.out⟩
      case round =>
        clear HB3 HST
        obtain ⟨k, oo, bb, f, ls, hk, rfl, rfl, rfl, hfk, hbo, hls, hst, hbw, Htot⟩ := hrel
        obtain ⟨ct, _, lt⟩ := of_heap hst.text 0
        simp at ct
        have HST := Lib.hid hst; clear hst
        have Hbo := Lib.hid hbo; clear hbo
        by_cases hlt : k < s.size
        · have hd := drop_cons s k hlt
          have hsg := seg_snoc s f k hfk hlt
          cases x92 : ((s[k].toNat : Int) == 92) <;> cases x34 : ((s[k].toNat : Int) == 34) <;> cases xs : ((s[k].toNat : Int) == (sep.toNat : Int))
          all_goals
            have hstep := Htot.out
            rw [hd, spl_step sep oo bb _ ls s[k] _ _ _ _ x92 x34 xs, ← hsg] at hstep
          all_goals clear hd hsg
          all_goals try (exfalso; simp at x92 x34 xs q1 q2; omega; done)
          all_goals cases bb <;> cases oo
          all_goals try (exact absurd (Hbo.out rfl) (by decide))
          all_goals simp only [cond_true, cond_false, Bool.and_true, Bool.and_false, Bool.not_true, Bool.not_false] at hstep
          all_goals first
            | (with_reducible (have HN0 : splP sep _ _ (seg s f (k + 1)) ls (List.drop (k + 1) s.data.toList) = tot := hstep)
               have HN := Lib.hid HN0
               clear HN0 hstep
               go_wp2
               go_roundw
               case rel => exact ⟨k + 1, _, _, f, ls, by omega, by go_num, rfl, rfl, by omega, (fun h => by first | rfl | exact absurd h (by decide)), by omega, HST.out, hbw, HN⟩
               case measure => simp [intOf]; omega)
            | (have hp : trimL (seg s f k) = pieceOf s f k := rfl
               rw [hp, ← seg_self s (k + 1)] at hstep
               have HN := Lib.hid hstep
               clear hstep hp
               have hal := addP_le ls (pieceOf s f k)
               go_wp2_with (go_at_call 33; refine (take_any w.heap.size s f k ls _ HST.out hfk (by omega) hs (by omega)).mono ?_; rintro e w2 ⟨rfl, hst2, hb2⟩)
               have HST2 := Lib.hid hst2; clear hst2
               go_wp2
               go_roundw
               case rel => exact ⟨k + 1, _, _, k + 1, addP ls (pieceOf s f k), by omega, by go_num, rfl, rfl, by omega, (fun h => by first | rfl | exact absurd h (by decide)), by omega, HST2.out, hbw.trans hb2, HN⟩
               case measure => simp [intOf]; omega)
        · have hke : k = s.size := by omega
          subst hke
          have hend := Htot.out
          rw [drop_all s s.size (Nat.le_refl _)] at hend
          cases oo
          · have hp : trimL (seg s f s.size) = pieceOf s f s.size := rfl
            simp only [splP, cond_false, hp] at hend
            subst hend
            have hcn := HC.out _ rfl
            have Hcn := Lib.hid hcn; clear hcn
            clear HT Htot
            have hal := addP_le ls (pieceOf s f s.size)
            go_wp2_with fail
            refine (take_any w.heap.size s f s.size ls _ HST.out hfk (Nat.le_refl _) hs (by omega)).mono ?_
            rintro e w2 ⟨rfl, hst2, hb2⟩
            generalize addP ls (pieceOf s f s.size) = ps at *
            obtain ⟨h1, ⟨v, h2, hown⟩, h3⟩ := hst2
            obtain ⟨a, cap, rfl⟩ := hown.shape
            obtain ⟨c2, _, l2⟩ := of_heap h2 0
            simp at c2
            have hB := hbw.trans hb2
            have HO := Lib.hid hown
            clear hown h1 h2 h3 hb2
            cases hlen : decide (64 < ps.length)
            · have hse : splitE (some ps) = (ps, 0) := by unfold splitE; simp only [hlen, cond_false]
              have HSE := Lib.hid hse
              have t1 : decide ((64 : Int) < (ps.length : Int)) = false := by simp at hlen ⊢; omega
              clear hlen hse
              go_wp2
              go_ret2
              rw [HSE.out]
              exact ⟨a, cap, rfl, ⟨HO.out.1, by
                rcases HO.out.2 with h | ⟨g, cp, cur, hv, hg, r⟩
                · exact Or.inl h
                · exact Or.inr ⟨g, cp, cur, hv, by omega, r⟩⟩, hB⟩
            · have hse : splitE (some ps) = ([], 3) := by unfold splitE; simp only [hlen, cond_true]
              have HSE := Lib.hid hse
              have t1 : decide ((64 : Int) < (ps.length : Int)) = true := by simp at hlen ⊢; omega
              clear hlen hse
              go_wp2
              go_ret2
              rw [HSE.out]
              exact SplitPost.none hB
          · simp only [splP, cond_true] at hend
            subst hend
            clear HT Htot HC
            go_wp2
            go_ret2
            exact SplitPost.none hbw
    · have hsp : splitL sep s.data.toList = ([], 2) := by unfold splitL; rw [(beq_cast sep.toNat 34).trans q1, (beq_cast sep.toNat 92).trans q2]; rfl
      rw [hsp]; clear hsp
      go_enter Tryd.func28, Tryd.ntmps28
      go_wp2
      go_ret2
      exact SplitPost.none ((Below.refl _ w).alloc (Nat.le_refl _) _)
  · have hsp : splitL sep s.data.toList = ([], 2) := by unfold splitL; rw [(beq_cast sep.toNat 34).trans q1]; rfl
    rw [hsp]; clear hsp
    go_enter Tryd.func28, Tryd.ntmps28
    go_wp2
    go_ret2
    exact SplitPost.none ((Below.refl _ w).alloc (Nat.le_refl _) _)
end Go.Proofs.YtfjgacankfidmaaDoor
/- What a round keeps that writes one cell and the row that it leads to. -/
namespace Go.Proofs.YtfjgacankfidmaaDoor
open Go.RowKit

/-- The cell at L leads to block g. -/
def rowOf (L : Nat) (w : World) (g : Nat) : Prop := ∃ v, w.cell? ⟨L, 0, none⟩ = some v ∧ v.ownBlock = some g
/-- All blocks of cells lie as they lay, but for L and its row; a new row lies in new memory. -/
def KpRow (L : Nat) (w w' : World) : Prop :=
  w.heap.size ≤ w'.heap.size ∧ (∀ b cur e fz, w.heap[b]? = some (.cells cur e fz) → b ≠ L → ¬ rowOf L w b → w'.heap[b]? = some (.cells cur e fz)) ∧
  (∀ g, rowOf L w' g → rowOf L w g ∨ (w.heap.size ≤ g ∧ g < w'.heap.size))
theorem heap_lt {w : World} {b : Nat} {o : Obj} (h : w.heap[b]? = some o) : b < w.heap.size := by
  rcases Nat.lt_or_ge b w.heap.size with h' | h'
  · exact h'
  · simp [Array.getElem?_eq_none h'] at h
theorem KpRow.trans {L : Nat} {a b c : World} (h : KpRow L a b) (k : KpRow L b c) : KpRow L a c := by
  refine ⟨Nat.le_trans h.1 k.1, fun i cur e fz hi hL hr => ?_, fun g hg => ?_⟩
  · have h1 := h.2.1 i cur e fz hi hL hr
    refine k.2.1 i cur e fz h1 hL (fun hr2 => ?_)
    rcases h.2.2 i hr2 with h3 | h3
    · exact hr h3
    · have := heap_lt hi; omega
  · rcases k.2.2 g hg with h3 | h3
    · rcases h.2.2 g h3 with h4 | h4
      · exact Or.inl h4
      · exact Or.inr ⟨h4.1, Nat.lt_of_lt_of_le h4.2 k.1⟩
    · exact Or.inr ⟨Nat.le_trans h.1 h3.1, h3.2⟩
theorem rowOf_below {L g : Nat} {w w' : World} (hb : Below w.heap.size w w') (hL : L < w.heap.size) : rowOf L w' g ↔ rowOf L w g := by
  unfold rowOf
  rw [hb.cell (p := ⟨L, 0, none⟩) hL]
/-- The row that L leads to lies beyond n, in the heap. -/
def RowIn (n L : Nat) (w : World) : Prop := ∀ g, rowOf L w g → n ≤ g ∧ g < w.heap.size
theorem RowIn.kp {n L : Nat} {w w' : World} (h : RowIn n L w) (k : KpRow L w w') (hn : n ≤ w.heap.size) : RowIn n L w' := by
  intro g hg
  rcases k.2.2 g hg with h1 | h1
  · exact ⟨(h g h1).1, Nat.lt_of_lt_of_le (h g h1).2 k.1⟩
  · exact ⟨Nat.le_trans hn h1.1, h1.2⟩
theorem RowIn.below {n L : Nat} {w w' : World} (h : RowIn n L w) (hb : Below w.heap.size w w') (hL : L < w.heap.size) : RowIn n L w' := by
  intro g hg
  have := h g ((rowOf_below hb hL).1 hg)
  exact ⟨this.1, Nat.lt_of_lt_of_le this.2 hb.size⟩
/-- What lies in a block of cells that is neither L nor its row is read as it was. -/
theorem KpRow.own {L B : Nat} {e : TypeId} {size n : Nat} {v : Value} {xs : List Value} {w w' : World} (k : KpRow L w w') (h : w.ownsRow B e size v n xs) (hL : L < B) (hr : ∀ g, v.ownBlock = some g → ¬ rowOf L w g) : w'.ownsRow B e size v n xs := by
  obtain ⟨h1, h2⟩ := h
  refine ⟨h1, ?_⟩
  rcases h2 with h2 | ⟨g, cap, cur, hv, hg, hh, r⟩
  · exact Or.inl h2
  · exact Or.inr ⟨g, cap, cur, hv, hg, k.2.1 g cur e (0, 0) hh (by omega) (hr g (by rw [hv]; rfl)), r⟩
theorem KpRow.cell {L b j : Nat} {u : Value} {w w' : World} (k : KpRow L w w') (h : w.cell? ⟨b, j, none⟩ = some u) (hL : b ≠ L) (hr : ¬ rowOf L w b) : w'.cell? ⟨b, j, none⟩ = some u := by
  cases ho : w.heap[b]? with
  | none => simp [World.cell?, ho] at h
  | some o =>
    cases o with
    | cells cur e fz =>
      have h2 := k.2.1 b cur e fz ho hL hr
      simp only [World.cell?, ho] at h
      simp only [World.cell?, h2]
      exact h
    | _ => simp [World.cell?, ho] at h
theorem KpRow.rd {L : Nat} {A : Option Addr} {n size : Nat} {xs : List Value} {w w' : World} (k : KpRow L w w') (h : Rd A n size xs w) (hr : 0 < n → ∀ b o, A = some ⟨b, o, none⟩ → b ≠ L ∧ ¬ rowOf L w b) : Rd A n size xs w' := by
  refine ⟨h.1, fun hn => ?_⟩
  obtain ⟨b, o, e, hl, hc⟩ := h.2 hn
  obtain ⟨h1, h2⟩ := hr hn b o e
  exact ⟨b, o, e, Nat.lt_of_lt_of_le hl k.1, fun j u hu => k.cell (hc j u hu) h1 h2⟩
/-- A turn of what is no cells, beyond L, is kept by KpRow. -/
theorem KpRow.putObj {L l : Nat} {o : Obj} {w : World} (o' : Obj) (hl : w.heap[l]? = some o) (ho : o.isCells = false) (hL : L < l) : KpRow L w (w.putObj l o') := by
  have hne : ∀ b, b ≠ l → (w.putObj l o').heap[b]? = w.heap[b]? := fun b hb => World.putObj_heap_other (fun e => hb (by rw [e]))
  refine ⟨by simp, fun b cur e fz hb _ _ => ?_, fun g hg => Or.inl ?_⟩
  · rw [hne b (fun e2 => by subst e2; rw [hb] at hl; cases hl; cases ho)]
    exact hb
  · obtain ⟨v, hv, hvo⟩ := hg
    refine ⟨v, ?_, hvo⟩
    simp only [World.cell?, hne L (by omega)] at hv
    simp only [World.cell?]
    exact hv
/-- An append to the row, and the store of what came of it. -/
theorem KpRow.stored {L : Nat} {v v' : Value} {w w1 : World} (hf : Far w w1 v v') (hc : w.cell? ⟨L, 0, none⟩ = some v) (hv' : ∀ g, v'.ownBlock = some g → g < w1.heap.size) (hL : L < w.heap.size) (hne : v.ownBlock ≠ some L) :
    KpRow L w (w1.setCell ⟨L, 0, none⟩ v') := by
  obtain ⟨hg, hw⟩ := hf
  have hcell1 : w1.cell? ⟨L, 0, none⟩ = some v := by
    have hb := hg.block L hL (fun e => hne e.symm)
    simp only [World.cell?, hb]
    simpa only [World.cell?] using hc
  refine ⟨by simp; exact hg.size, fun b cur e fz hb hbL hr => ?_, fun g hgr => ?_⟩
  · rw [Below.heap_setCell _ _ _ _ hbL, hg.block b (heap_lt hb) (fun e2 => hr ⟨v, hc, e2.symm⟩)]
    exact hb
  · obtain ⟨u, hu, huo⟩ := hgr
    have hu2 : u = v' := by
      have := World.cell?_setCell_same' w1 ⟨L, 0, none⟩ v' (by rw [hcell1]; rfl)
      rw [this] at hu
      exact (Option.some.inj hu).symm
    subst hu2
    rcases hw with h | h
    · exact Or.inl ⟨v, hc, by rw [← h]; exact huo⟩
    · exact Or.inr ⟨h g huo, by simp; exact hv' g huo⟩
/-- The cells below n, but L's block, are read as they were. -/
def KeepC (n L : Nat) (w w' : World) : Prop := ∀ b j u, b < n → b ≠ L → w.cell? ⟨b, j, none⟩ = some u → w'.cell? ⟨b, j, none⟩ = some u
theorem KeepC.refl (n L : Nat) (w : World) : KeepC n L w w := fun _ _ _ _ _ h => h
theorem KeepC.below {n L : Nat} {w0 w w' : World} (h : KeepC n L w0 w) (hb : Below w.heap.size w w') (hn : n ≤ w.heap.size) : KeepC n L w0 w' :=
  fun b j u h1 h2 h3 => (hb.cell (p := ⟨b, j, none⟩) (by show b < _; omega)).trans (h b j u h1 h2 h3)
theorem KeepC.kp {n L : Nat} {w0 w w' : World} (h : KeepC n L w0 w) (k : KpRow L w w') (hr : RowIn n L w) : KeepC n L w0 w' :=
  fun b j u h1 h2 h3 => k.cell (h b j u h1 h2 h3) h2 (fun hx => by have := (hr b hx).1; omega)
theorem Rd.keepC {n L : Nat} {w w' : World} {A : Option Addr} {m size : Nat} {xs : List Value} (h : Rd A m size xs w) (k : KeepC n L w w') (hs : n ≤ w'.heap.size) (hA : 0 < m → ∀ b o, A = some ⟨b, o, none⟩ → b < n ∧ b ≠ L) : Rd A m size xs w' := by
  refine ⟨h.1, fun hm => ?_⟩
  obtain ⟨b, o, e, hl, hc⟩ := h.2 hm
  obtain ⟨h1, h2⟩ := hA hm b o e
  exact ⟨b, o, e, by omega, fun j u hu => k b _ u h1 h2 (hc j u hu)⟩
/-- Texts in a block of an iterator's own, apart from L and its row. -/
def Apart (L : Nat) (A : Option Addr) (m : Nat) (w : World) : Prop := 0 < m → ∀ b o, A = some ⟨b, o, none⟩ → b < w.heap.size ∧ b ≠ L ∧ ¬ rowOf L w b
theorem Apart.kp {L : Nat} {A : Option Addr} {m : Nat} {w w' : World} (h : Apart L A m w) (k : KpRow L w w') : Apart L A m w' := by
  intro hm b o e
  obtain ⟨h1, h2, h3⟩ := h hm b o e
  refine ⟨Nat.lt_of_lt_of_le h1 k.1, h2, fun hx => ?_⟩
  rcases k.2.2 b hx with h4 | h4
  · exact h3 h4
  · omega
theorem Apart.below {L : Nat} {A : Option Addr} {m : Nat} {w w' : World} (h : Apart L A m w) (hb : Below w.heap.size w w') (hL : L < w.heap.size) : Apart L A m w' := by
  intro hm b o e
  obtain ⟨h1, h2, h3⟩ := h hm b o e
  exact ⟨Nat.lt_of_lt_of_le h1 hb.size, h2, fun hx => h3 ((rowOf_below hb hL).1 hx)⟩
/-- What lies in new memory stands apart. -/
theorem Apart.new {n L : Nat} {A : Option Addr} {m size : Nat} {xs : List Value} {w w' : World} (hb : Below w.heap.size w w') (hr : RowIn n L w) (hL : L < w.heap.size) (hd : Rd A m size xs w') (hA : ∀ b o, A = some ⟨b, o, none⟩ → w.heap.size ≤ b) : Apart L A m w' := by
  intro hm b o e
  obtain ⟨b', o', e', hl, _⟩ := hd.2 hm
  rw [e] at e'
  cases e'
  have h1 := hA b o e
  refine ⟨hl, by omega, fun hx => ?_⟩
  have := hr b ((rowOf_below hb hL).1 hx)
  omega
theorem KpRow.of_below {L : Nat} {w w' : World} (h : Below w.heap.size w w') (hL : L < w.heap.size) : KpRow L w w' := by
  refine ⟨h.size, fun b cur e fz hb _ _ => ?_, fun g hg => Or.inl ((rowOf_below h hL).1 hg)⟩
  rw [h.block b (heap_lt hb)]; exact hb
theorem KpRow.alloc (L : Nat) (w : World) (o : Obj) (hL : L < w.heap.size) : KpRow L w (w.alloc o) := KpRow.of_below ((Below.refl w.heap.size w).alloc (Nat.le_refl _) o) hL
theorem below_grown {w w' : World} (h : Below w.heap.size w w') : w.grownBy w' none := ⟨h.os, h.tape, h.output, h.size, fun k hk _ => h.block k hk⟩
end Go.Proofs.YtfjgacankfidmaaDoor
/- The iterator of directive.each: for every loop body that writes one row. -/
namespace Go.Proofs.YtfjgacankfidmaaDoor
open Go.RowKit Go.Shelf
set_option maxRecDepth 100000
attribute [local go_sem] Oper.semAt_some

def dirA (d : Dir) : Value := .agg #[.string ⟨d.name.toArray⟩, .string ⟨d.value.toArray⟩, .bool d.has, .string ⟨d.for_.toArray⟩]
theorem dlist_snoc (vs : List (List UInt8)) (k : Nat) (h : k < vs.length) : dlistL (vs.take (k + 1)) = dlistL (vs.take k) ++ (pcsL vs[k]).filterMap saidO := by
  unfold dlistL; rw [List.take_succ_eq_append_getElem h, List.flatMap_append]; simp [dirsOf]
theorem fm_snoc (ps : List (List UInt8)) (m : Nat) (h : m < ps.length) : (ps.take (m + 1)).filterMap saidO = (ps.take m).filterMap saidO ++ (saidO ps[m]).toList := by
  rw [List.take_succ_eq_append_getElem h, List.filterMap_append]
  cases hs : saidO ps[m] <;> simp [hs]

theorem Rd.newS1 (w : World) (l : List UInt8) (T : TypeId) : Rd (some ⟨w.heap.size, 0, none⟩) 1 1 (strsV [l]) (w.alloc (.cells #[.string ⟨l.toArray⟩] T)) := by
  refine ⟨rfl, fun _ => ⟨w.heap.size, 0, rfl, by simp, fun j u hu => ?_⟩⟩
  rw [Nat.zero_add, World.cell?_alloc_mark]
  match j, hu with
  | 0, hu => exact hu
  | j + 1, hu => simp [strsV] at hu
theorem split_few44 (l : List UInt8) : (splitL 44 l).1.length ≤ 64 := by
  unfold splitL
  cases ((44 : UInt8).toNat == 34 || (44 : UInt8).toNat == 92)
  · cases splP 44 false false [] [] l with
    | none => simp [splitE]
    | some ls =>
      simp only [splitE, cond_false]
      cases h : decide (64 < ls.length)
      · simp at h ⊢; exact h
      · simp
  · simp
set_option maxHeartbeats 16000000 in
theorem each1_in (L Bs : Nat) (A : Option Addr) (n c : Nat) (vs : List (List UInt8)) (w : World) (hM : MaxL w) (hL : L < w.heap.size) (hML : 0 ≠ L) (hBs : Bs < w.heap.size) (hbox : w.cell? ⟨Bs, 0, none⟩ = some (.slice A n c)) (hr : Rd A n 1 (strsV vs) w)
    (hA : 0 < n → ∀ b o, A = some ⟨b, o, none⟩ → b < w.heap.size ∧ b ≠ L) (hrow : RowIn w.heap.size L w) (hn : n ≤ 1000000) (hl : ∀ v ∈ vs, v.length ≤ 1000000) (d : Nat) (hd : 1 ≤ d) (l : Nat) (J Jx : List Dir → World → Prop) (W : World) (hW : Below w.heap.size w W) (hJa : AbidesFrom W.heap.size J)
    (hY : ∀ pre x W1, J pre W1 → pre.length < 64 * vs.length → YieldAt Fence.wide (d - 1) Tryd.prog l #[dirA x] W1 fun e W' =>
      (e = .returned (.bool true) ∧ J (pre ++ [x]) W' ∧ KpRow L W1 W') ∨ (e = .returned (.bool false) ∧ Jx (pre ++ [x]) W'))
    (h0 : J [] W) :
    CallsIn Fence.wide d Tryd.prog 27 #[.func (.yield l) #[] #[], .pointer (some ⟨Bs, 0, none⟩)] W fun e W' => (∃ v, e = .returned v) ∧ ((∃ ys, ys = dlistL vs ∧ J ys W') ∨ (∃ pre, True ∧ Jx pre W')) := by
  obtain rfl := hr.str
  have hb0 : W.cell? ⟨Bs, 0, none⟩ = some (.slice A vs.length c) := (hW.cell (p := ⟨Bs, 0, none⟩) hBs).trans hbox
  have hk0 : KeepC w.heap.size L w W := (KeepC.refl _ _ w).below hW (Nat.le_refl _)
  have hr0 : RowIn w.heap.size L W := hrow.below hW hL
  have hJb : ∀ pre W1 W2, J pre W1 → Below W1.heap.size W1 W2 → J pre W2 := fun pre W1 W2 h1 h2 => hJa pre W1 W2 none h1 (below_grown h2) (fun r e => by cases e)
  have HM := Lib.hid hM; have HR := Lib.hid hr; have HA := Lib.hid hA; have HL := Lib.hid hl; have HY := Lib.hid hY; have HJB := Lib.hid hJb; have HK0 := Lib.hid hk0; have HR0 := Lib.hid hr0
  clear hM hr hA hl hY hJb hk0 hr0 hJa hrow
  refine callsIn_of_wp Tryd.func27 rfl trivial ?_ rfl
  simp only [Tryd.ntmps27, List.size_toArray, List.length_cons, List.length_nil, Nat.reduceAdd, Nat.reduceSub, Array.replicate_succ, Array.replicate_zero, List.push_toArray, List.append_toArray, List.nil_append, List.cons_append]
  gi_wp2
  gi_loopw [13] (fun i wr => ∃ (k : Nat) (pre : List Dir), k ≤ vs.length ∧ i = .int .i64 k ∧ Hid (pre = dlistL (vs.take k)) ∧ pre.length ≤ 64 * k ∧ J pre wr ∧ Hid (KeepC w.heap.size L w wr) ∧ Hid (RowIn w.heap.size L wr) ∧ w.heap.size ≤ wr.heap.size) (fun i _ => vs.length - (intOf i).toNat)
  case atStart => exact ⟨0, [], Nat.zero_le _, rfl, Lib.hid rfl, by simp, h0, HK0, HR0, hW.size⟩
  case round =>
    clear HK0 HR0 h0
    obtain ⟨k, pre, hk, rfl, HPre, hpl, hJs, HK, HRow, hsz⟩ := hrel
    have hLs : L < wr.heap.size := by omega
    by_cases hlt : k < vs.length
    · have hrd := HR.out.keepC HK.out hsz HA.out
      obtain ⟨b, o, rfl, hlb, c1⟩ := hrd.str_at (k := k) hlt
      have hv := HL.out vs[k] (List.getElem_mem _)
      have hsn := dlist_snoc vs k hlt
      generalize vs[k] = v at *
      have k2 := split_any ⟨v.toArray⟩ 44 wr (by rw [Lib.size_eq]; exact hv)
      simp only at k2
      have hfew : (splitL 44 v).1.length ≤ 64 := split_few44 v
      have hpt := split_total 44 v
      have hpc : pcsL v = bif (splitL 44 v).2 == 0 then (splitL 44 v).1 else [noStore] := rfl
      generalize pcsL v = ps0 at *
      generalize splitL 44 v = r at *
      obtain ⟨ps, er⟩ := r
      simp only at hfew hpt hpc
      have K2 := Lib.hid k2
      cases hz : (er == 0)
      · rw [hz, cond_false] at hpc
        subst hpc
        have n0 : (er != 0) = true := by simp [bne, hz]
        have HSN := Lib.hid hsn
        have HPL : Hid (∀ p ∈ [noStore], p.length ≤ 1000000) := Lib.hid (by intro p hp; simp at hp; subst hp; decide)
        clear hsn k2 hrd hz hpt hfew hv
        gi_wp2_with (refine ⟨trivial, ?_⟩; gi_at_call 28; refine (callsIn_wide.2 K2.out).mono ?_; rintro e w3 ⟨a3', c3', rfl, ho3, hb3⟩; simp only)
        have h4 := hb3.alloc hb3.size (.cells #[.string ⟨#[110, 111, 45, 115, 116, 111, 114, 101]⟩] 9)
        have hrd4 : Rd (some ⟨w3.heap.size, 0, none⟩) 1 1 (strsV [noStore]) (w3.alloc (.cells #[.string ⟨#[110, 111, 45, 115, 116, 111, 114, 101]⟩] 9)) := Rd.newS1 w3 noStore 9
        have HP3 := Lib.hid (And.intro hrd4 (Apart.new h4 HRow.out hLs hrd4 (fun b o e => by cases e; exact hb3.size)))
        have hJ3 := HJB.out pre _ _ hJs h4
        have HK3 := Lib.hid (HK.out.below h4 hsz)
        have HR3 := Lib.hid (HRow.out.below h4 hLs)
        have hs3 := Nat.le_trans hsz h4.size
        clear ho3 hb3 hrd4 K2 c1 HK HRow hJs h4
        generalize (w3.alloc (.cells #[.string ⟨#[110, 111, 45, 115, 116, 111, 114, 101]⟩] 9)) = w4 at *
        generalize w3.heap.size = g3 at *
        obtain ⟨wo, hwo⟩ : ∃ wo : World, wo = wr := ⟨_, rfl⟩
        clear hLs hsz
        subst hwo
        gi_loopw [27] (fun j wi => ∃ (m : Nat) (pre : List Dir), m ≤ 1 ∧ j = .int .i64 m ∧ Hid (pre = dlistL (vs.take k) ++ ([noStore].take m).filterMap saidO) ∧ pre.length ≤ 64 * k + m ∧ J pre wi ∧ Hid (KeepC w.heap.size L w wi) ∧ Hid (RowIn w.heap.size L wi) ∧ w.heap.size ≤ wi.heap.size ∧ Hid (Rd (some ⟨g3, 0, none⟩) 1 1 (strsV [noStore]) wi ∧ Apart L (some ⟨g3, 0, none⟩) 1 wi)) (fun j _ => 1 - (intOf j).toNat)
        case atStart => exact ⟨0, pre, Nat.zero_le _, rfl, by show _ = _; rw [HPre.out]; simp, by omega, hJ3, HK3, HR3, hs3, HP3⟩
        case round =>
          clear HK3 HR3 HP3 hJ3 hs3 HPre hpl
          obtain ⟨m, pre, hm, rfl, HPre, hpl, hJs, HK, HRow, hsz, HP⟩ := hrel
          have hLs : L < wr.heap.size := by omega
          by_cases hlm : m < 1
          · obtain ⟨b2, o2, hab, hl2, c2⟩ := HP.out.1.str_at (k := m) hlm
            have hpp := HPL.out (([noStore] : List (List UInt8))[m]'hlm) (List.getElem_mem _)
            have hfm := fm_snoc [noStore] m hlm
            have hM1 : MaxL wr := by
              obtain ⟨g1, mm, g2⟩ := HM.out
              exact ⟨by omega, mm, HK.out _ 0 _ g1 hML g2⟩
            generalize (([noStore] : List (List UInt8))[m]'hlm) = p at *
            have k1 := said_any ⟨p.toArray⟩ wr hM1 (by rw [Lib.size_eq]; exact hpp)
            simp only at k1
            clear hM1
            cases hab
            rw [Nat.zero_add] at c2
            cases hs : saidO p with
            | none =>
              rw [hs] at k1 hfm
              unfold saidV at k1
              have hnx : pre = dlistL (vs.take k) ++ ([noStore].take (m + 1)).filterMap saidO := by rw [HPre.out, hfm]; simp
              have HNX := Lib.hid hnx; have K1 := Lib.hid k1
              clear hnx k1 hfm hs HPre
              gi_wp2_with (refine ⟨trivial, ?_⟩; gi_at_call 29; refine (callsIn_wide.2 K1.out).mono ?_; rintro e w5 ⟨rfl, hb5⟩)
              have h6 := hb5.alloc hb5.size (.cells #[.string ⟨#[]⟩, .string ⟨#[]⟩, .bool false, .string ⟨#[]⟩] 28)
              have hJ6 := HJB.out pre _ _ hJs h6
              have HK6 := Lib.hid (HK.out.below h6 hsz)
              have HR6 := Lib.hid (HRow.out.below h6 hLs)
              have HP6 := Lib.hid (And.intro (HP.out.1.below h6) (HP.out.2.below h6 hLs))
              have hs6 := Nat.le_trans hsz h6.size
              clear HK HRow HP c2 K1
              refine ⟨fun _ h => (by cases h), ?_⟩
              gi_wp2
              go_roundw
              case rel => exact ⟨m + 1, pre, by omega, by go_num, HNX, by omega, hJ6, HK6, HR6, hs6, HP6⟩
              case measure => simp [intOf]; omega
            | some dd =>
              rw [hs] at k1 hfm
              have hnx : pre ++ [dd] = dlistL (vs.take k) ++ ([noStore].take (m + 1)).filterMap saidO := by rw [HPre.out, hfm]; simp
              have k2 : Calls Tryd.prog 29 #[.string ⟨p.toArray⟩] wr fun e w' => e = .returned (.tuple #[.agg #[.string ⟨dd.name.toArray⟩, .string ⟨dd.value.toArray⟩, .bool dd.has, .string ⟨dd.for_.toArray⟩], .bool true]) ∧ Below wr.heap.size wr w' := k1
              have HNX := Lib.hid hnx; have K1 := Lib.hid k2
              have hlt64 : pre.length < 64 * vs.length := by omega
              have hy0 := fun W h => HY.out pre dd W h hlt64
              have HY0 := Lib.hid hy0
              clear hnx k1 k2 hfm hs HPre hy0
              obtain ⟨dn, dv, dh, df⟩ := dd
              unfold dirA at HY0
              simp only at K1
              gi_wp2_with (refine ⟨trivial, ?_⟩; gi_at_call 29; refine (callsIn_wide.2 K1.out).mono ?_; rintro e w5 ⟨rfl, hb5⟩; have h6 := hb5.alloc hb5.size (.cells #[.string ⟨dn.toArray⟩, .string ⟨dv.toArray⟩, .bool dh, .string ⟨df.toArray⟩] 28); obtain ⟨fn, tmps, assign, body, hy, hR⟩ := HY0.out _ (HJB.out pre _ _ hJs h6); dsimp only at hy)
              have HK6 := Lib.hid (HK.out.below h6 hsz)
              have HR6 := Lib.hid (HRow.out.below h6 hLs)
              have HP6 := Lib.hid (And.intro (HP.out.1.below h6) (HP.out.2.below h6 hLs))
              have hs6 := Nat.le_trans hsz h6.size
              refine hR.mono ?_
              rintro e W7 (⟨rfl, hJ7, hk7⟩ | ⟨rfl, hJx7⟩)
              · have HK7 := Lib.hid (HK6.out.kp hk7 HR6.out)
                have HR7 := Lib.hid (HR6.out.kp hk7 hs6)
                have HP7 := Lib.hid (And.intro (hk7.rd HP6.out.1 (fun h b o e => (HP6.out.2 h b o e).2)) (HP6.out.2.kp hk7))
                have hs7 := Nat.le_trans hs6 hk7.1
                clear HK HRow HP c2 K1 HK6 HR6 HP6 hR hy
                gi_wp2
                go_roundw
                case rel => exact ⟨m + 1, pre ++ [⟨dn, dv, dh, df⟩], by omega, by go_num, HNX, by simp; omega, hJ7, HK7, HR7, hs7, HP7⟩
                case measure => simp [intOf]; omega
              · gi_wp2
                refine bodyPost_ret (results_none rfl _ _ _) rfl ?_
                exact ⟨⟨_, rfl⟩, .inr ⟨_, trivial, hJx7⟩⟩
          · have hme : m = 1 := by omega
            subst hme
            have hnx : pre = dlistL (vs.take (k + 1)) := by rw [HSN.out, HPre.out]; rfl
            have HNX := Lib.hid hnx
            clear hnx HP HPL HPre
            gi_wp2
            go_roundw
            case rel => exact ⟨k + 1, pre, by omega, by go_num, HNX, by omega, hJs, HK, HRow, hsz⟩
            case measure => simp [intOf]; omega
      · rw [hz, cond_true] at hpc
        subst hpc
        have n0 : (er != 0) = false := by simp [bne, hz]
        have HSN := Lib.hid hsn
        have HPL : Hid (∀ p ∈ ps0, p.length ≤ 1000000) := Lib.hid (by intro p hp; have := total_mem hp; omega)
        clear hsn k2 hrd hz hpt hv
        gi_wp2_with (refine ⟨trivial, ?_⟩; gi_at_call 28; refine (callsIn_wide.2 K2.out).mono ?_; rintro e w3 ⟨a3, c3, rfl, ho3, hb3⟩; simp only)
        have hrd4 := ho3.rd.2
        have HP3 := Lib.hid (And.intro hrd4 (Apart.new hb3 HRow.out hLs hrd4 (own_new ho3)))
        have hJ3 := HJB.out pre _ _ hJs hb3
        have HK3 := Lib.hid (HK.out.below hb3 hsz)
        have HR3 := Lib.hid (HRow.out.below hb3 hLs)
        have hs3 := Nat.le_trans hsz hb3.size
        clear ho3 hrd4 K2 c1 HK HRow hJs hb3
        obtain ⟨wo, hwo⟩ : ∃ wo : World, wo = wr := ⟨_, rfl⟩
        clear hLs hsz
        subst hwo
        gi_loopw [27] (fun j wi => ∃ (m : Nat) (pre : List Dir), m ≤ ps0.length ∧ j = .int .i64 m ∧ Hid (pre = dlistL (vs.take k) ++ (ps0.take m).filterMap saidO) ∧ pre.length ≤ 64 * k + m ∧ J pre wi ∧ Hid (KeepC w.heap.size L w wi) ∧ Hid (RowIn w.heap.size L wi) ∧ w.heap.size ≤ wi.heap.size ∧ Hid (Rd a3 ps0.length 1 (strsV ps0) wi ∧ Apart L a3 ps0.length wi)) (fun j _ => ps0.length - (intOf j).toNat)
        case atStart => exact ⟨0, pre, Nat.zero_le _, rfl, by show _ = _; rw [HPre.out]; simp, by omega, hJ3, HK3, HR3, hs3, HP3⟩
        case round =>
          clear HK3 HR3 HP3 hJ3 hs3 HPre hpl
          obtain ⟨m, pre, hm, rfl, HPre, hpl, hJs, HK, HRow, hsz, HP⟩ := hrel
          have hLs : L < wr.heap.size := by omega
          by_cases hlm : m < ps0.length
          · obtain ⟨b2, o2, hab, hl2, c2⟩ := HP.out.1.str_at (k := m) hlm
            have hpp := HPL.out ps0[m] (List.getElem_mem _)
            have hfm := fm_snoc ps0 m hlm
            have hM1 : MaxL wr := by
              obtain ⟨g1, mm, g2⟩ := HM.out
              exact ⟨by omega, mm, HK.out _ 0 _ g1 hML g2⟩
            generalize ps0[m] = p at *
            have k1 := said_any ⟨p.toArray⟩ wr hM1 (by rw [Lib.size_eq]; exact hpp)
            simp only at k1
            clear hM1
            subst hab
            cases hs : saidO p with
            | none =>
              rw [hs] at k1 hfm
              unfold saidV at k1
              have hnx : pre = dlistL (vs.take k) ++ (ps0.take (m + 1)).filterMap saidO := by rw [HPre.out, hfm]; simp
              have HNX := Lib.hid hnx; have K1 := Lib.hid k1
              clear hnx k1 hfm hs HPre
              gi_wp2_with (refine ⟨trivial, ?_⟩; gi_at_call 29; refine (callsIn_wide.2 K1.out).mono ?_; rintro e w5 ⟨rfl, hb5⟩)
              have h6 := hb5.alloc hb5.size (.cells #[.string ⟨#[]⟩, .string ⟨#[]⟩, .bool false, .string ⟨#[]⟩] 28)
              have hJ6 := HJB.out pre _ _ hJs h6
              have HK6 := Lib.hid (HK.out.below h6 hsz)
              have HR6 := Lib.hid (HRow.out.below h6 hLs)
              have HP6 := Lib.hid (And.intro (HP.out.1.below h6) (HP.out.2.below h6 hLs))
              have hs6 := Nat.le_trans hsz h6.size
              clear HK HRow HP c2 K1
              refine ⟨fun _ h => (by cases h), ?_⟩
              gi_wp2
              go_roundw
              case rel => exact ⟨m + 1, pre, by omega, by go_num, HNX, by omega, hJ6, HK6, HR6, hs6, HP6⟩
              case measure => simp [intOf]; omega
            | some dd =>
              rw [hs] at k1 hfm
              have hnx : pre ++ [dd] = dlistL (vs.take k) ++ (ps0.take (m + 1)).filterMap saidO := by rw [HPre.out, hfm]; simp
              have k2 : Calls Tryd.prog 29 #[.string ⟨p.toArray⟩] wr fun e w' => e = .returned (.tuple #[.agg #[.string ⟨dd.name.toArray⟩, .string ⟨dd.value.toArray⟩, .bool dd.has, .string ⟨dd.for_.toArray⟩], .bool true]) ∧ Below wr.heap.size wr w' := k1
              have HNX := Lib.hid hnx; have K1 := Lib.hid k2
              have hlt64 : pre.length < 64 * vs.length := by omega
              have hy0 := fun W h => HY.out pre dd W h hlt64
              have HY0 := Lib.hid hy0
              clear hnx k1 k2 hfm hs HPre hy0
              obtain ⟨dn, dv, dh, df⟩ := dd
              unfold dirA at HY0
              simp only at K1
              gi_wp2_with (refine ⟨trivial, ?_⟩; gi_at_call 29; refine (callsIn_wide.2 K1.out).mono ?_; rintro e w5 ⟨rfl, hb5⟩; have h6 := hb5.alloc hb5.size (.cells #[.string ⟨dn.toArray⟩, .string ⟨dv.toArray⟩, .bool dh, .string ⟨df.toArray⟩] 28); obtain ⟨fn, tmps, assign, body, hy, hR⟩ := HY0.out _ (HJB.out pre _ _ hJs h6); dsimp only at hy)
              have HK6 := Lib.hid (HK.out.below h6 hsz)
              have HR6 := Lib.hid (HRow.out.below h6 hLs)
              have HP6 := Lib.hid (And.intro (HP.out.1.below h6) (HP.out.2.below h6 hLs))
              have hs6 := Nat.le_trans hsz h6.size
              refine hR.mono ?_
              rintro e W7 (⟨rfl, hJ7, hk7⟩ | ⟨rfl, hJx7⟩)
              · have HK7 := Lib.hid (HK6.out.kp hk7 HR6.out)
                have HR7 := Lib.hid (HR6.out.kp hk7 hs6)
                have HP7 := Lib.hid (And.intro (hk7.rd HP6.out.1 (fun h b o e => (HP6.out.2 h b o e).2)) (HP6.out.2.kp hk7))
                have hs7 := Nat.le_trans hs6 hk7.1
                clear HK HRow HP c2 K1 HK6 HR6 HP6 hR hy
                gi_wp2
                go_roundw
                case rel => exact ⟨m + 1, pre ++ [⟨dn, dv, dh, df⟩], by omega, by go_num, HNX, by simp; omega, hJ7, HK7, HR7, hs7, HP7⟩
                case measure => simp [intOf]; omega
              · gi_wp2
                refine bodyPost_ret (results_none rfl _ _ _) rfl ?_
                exact ⟨⟨_, rfl⟩, .inr ⟨_, trivial, hJx7⟩⟩
          · have hme : m = ps0.length := by omega
            subst hme
            have hnx : pre = dlistL (vs.take (k + 1)) := by rw [HSN.out, HPre.out]; rw [List.take_length]
            have HNX := Lib.hid hnx
            clear hnx HP HPL HPre
            gi_wp2
            go_roundw
            case rel => exact ⟨k + 1, pre, by omega, by go_num, HNX, by omega, hJs, HK, HRow, hsz⟩
            case measure => simp [intOf]; omega
    · have hke : k = vs.length := by omega
      subst hke
      have hnx : pre = dlistL vs := by rw [HPre.out, List.take_length]
      clear HK HRow HPre
      gi_wp2
      go_end0
      exact ⟨⟨_, rfl⟩, .inl ⟨pre, hnx, hJs⟩⟩
end Go.Proofs.YtfjgacankfidmaaDoor
/- The walk of directive.List. -/
namespace Go.Proofs.YtfjgacankfidmaaDoor
open Go.RowKit Go.Shelf
set_option maxRecDepth 100000
attribute [local go_sem] Oper.semAt_some

theorem app_dirIn {F : Fence} {m : Nat} {ops : Array Oper} {rest : List Oper} {o : Oper} {a : Act} {Q : Exit → Act → World → Prop} (B : Nat) (d : Dir) {w : World} {v : Value} {ds : List Dir} (hown : OwnD B v ds w) (hB : B ≤ w.heap.size) (hn : ds.length ≤ 1000000000)
    (hgd : o.guard = none) (s x : Operand) (ho : o.op = .call { callee := .builtin .append, args := #[s, x], argTypes := #[22, 22] })
    (hs : a.eval s = v) (hx : a.eval x = .slice (some ⟨w.heap.size, 0, none⟩) 1 1)
    (hK : ∀ v' w1, OwnD B v' (ds ++ [d]) w1 → Below B w w1 → Far w w1 v v' → wpListIn F m Tryd.prog ops Q rest (a.put o.dst v') w1) :
    wpListIn F m Tryd.prog ops Q (o :: rest) a (w.alloc (.cells #[.string ⟨d.name.toArray⟩, .string ⟨d.value.toArray⟩, .bool d.has, .string ⟨d.for_.toArray⟩] 28)) := by
  obtain ⟨i0, hi, hz0, hz1, hz2⟩ := info_parts uDir
  refine wpListIn_plain hgd fun K hK' => ?_
  obtain ⟨v', w', hrun, h2, h3, _, h5⟩ := run_append_own_at (P := Tryd.prog) (w.alloc (.cells #[.string ⟨d.name.toArray⟩, .string ⟨d.value.toArray⟩, .bool d.has, .string ⟨d.for_.toArray⟩] 28)) B 22 o.type 28 i0 (.agg #[.string ByteArray.empty, .string ByteArray.empty, .bool false, .string ByteArray.empty]) 4 56 Tryd.underlying22 hi hz0 hz1 hz2 rfl (by decide) v ds.length (dirsV ds) (World.ownsRow.alloc hown _) ⟨w.heap.size, 0, none⟩ 1 1 (dirV d) rfl (by
    intro j u hj
    have e : (⟨w.heap.size, 0, none⟩ : Addr).add j = ⟨w.heap.size, j, none⟩ := by unfold Addr.add; split <;> simp_all
    rw [e, World.cell?_alloc_mark, ← hj]; simp [dirV]) (dirV_one d) (by unfold maxLen; omega) (by omega) (by simp; omega)
  have hfar : Far w w' v v' := far_alloc (o := .cells #[.string ⟨d.name.toArray⟩, .string ⟨d.value.toArray⟩, .bool d.has, .string ⟨d.for_.toArray⟩] 28) ⟨h3, by
    rcases h5 with h | h
    · exact Or.inl h
    · refine Or.inr fun g hg => ?_
      rw [h] at hg
      have := Option.some.inj hg
      omega⟩
  unfold Oper.wpIn
  refine ⟨?_, ?_⟩
  · simp [Oper.about, ho, resolve, Target.leads, Sem.run_pure]
  · rw [Oper.semAt_plain F _ _ (by rw [ho]; intro c hc'; cases hc')]
    simp [execOp, ho, resolve, invoke, builtin, hs, hx, hrun, Result.andThen]
    refine hK' _ _ (hK v' w' ?_ ((Below.refl B w).grown hfar.1 hB (fun k hk => (World.ownsRow.lt hown k hk).1)) hfar)
    unfold OwnD
    rw [List.length_append, dirsV_snoc]
    exact h2

theorem each_any (A : Option Addr) (n c : Nat) (w : World) :
    Calls Tryd.prog 20 #[.slice A n c] w fun e w' => e = .returned (.func (.func 27) #[] #[.pointer (some ⟨w.heap.size, 0, none⟩)]) ∧ w' = w.alloc (.cells #[.slice A n c] 34) := by
  go_enter Tryd.func20, Tryd.ntmps20
  go_wp2
  go_ret
  exact ⟨rfl, rfl⟩

/-- What lies between two rounds: the box, the row that it leads to. -/
def DI (w : World) (pre : List Dir) (W : World) : Prop := ∃ v, W.heap[w.heap.size]? = some (.cells #[v] 22 (0, 0)) ∧ OwnD (w.heap.size + 2) v pre W ∧ Below w.heap.size w W ∧ w.heap.size + 2 ≤ W.heap.size
theorem DI.own {w : World} {B : Nat} (hB : w.heap.size ≤ B) : OwnFrom B (DI w) := by
  rintro pre W W' row ⟨v, h1, h2, h3, h4⟩ hg hr
  have hne : ∀ (b : Nat) (cur : Array Value) (e : TypeId) (fz : Nat × Nat), W.heap[b]? = some (.cells cur e fz) → W'.heap[b]? = some (.cells cur e fz) := by
    intro b cur e fz hb
    rw [hg.block b (heap_lt hb) (fun x => by
      obtain ⟨_, o, ho, hc⟩ := hr b x.symm
      rw [hb] at ho; cases ho; cases hc)]
    exact hb
  refine ⟨v, hne _ _ _ _ h1, ?_, h3.trans ((Below.refl w.heap.size W).grown hg h3.size (fun k hk => ?_)), Nat.le_trans h4 hg.size⟩
  · obtain ⟨g1, g2⟩ := h2
    refine ⟨g1, ?_⟩
    rcases g2 with g2 | ⟨g, cap, cur, hv, hgg, hh, r⟩
    · exact Or.inl g2
    · exact Or.inr ⟨g, cap, cur, hv, hgg, hne _ _ _ _ hh, r⟩
  · exact Nat.le_trans hB (hr k hk).1

set_option maxHeartbeats 8000000 in
theorem dlist_any (A : Option Addr) (n c : Nat) (vs : List (List UInt8)) (w : World) (hM : MaxL w) (hr : Rd A n 1 (strsV vs) w) (hn : n ≤ 10000) (hl : ∀ v ∈ vs, v.length ≤ 1000000) :
    Calls Tryd.prog 9 #[.slice A n c] w (DirsPost w (dlistL vs)) := by
  refine (callsIn_wide (n := 6)).1 ?_
  refine callsIn_of_wp_marks Tryd.func9 rfl trivial ?_ rfl
  simp only [Tryd.ntmps9, List.size_toArray, List.length_cons, List.length_nil, Nat.reduceAdd, Nat.reduceSub, Array.replicate_succ, Array.replicate_zero, List.push_toArray, List.append_toArray, List.nil_append, List.cons_append]
  obtain rfl := hr.str
  obtain ⟨W2, hW2⟩ : ∃ W2, (w.alloc (.cells #[.slice none 0 0] 22)).alloc (.cells #[.slice A vs.length c] 34) = W2 := ⟨_, rfl⟩
  have hB2 : Below w.heap.size w W2 := by rw [← hW2]; exact ((Below.refl _ w).alloc (Nat.le_refl _) _).alloc (by simp) _
  have z2 : W2.heap.size = w.heap.size + 2 := by rw [← hW2]; simp
  have hbox : W2.cell? ⟨w.heap.size + 1, 0, none⟩ = some (.slice A vs.length c) := by
    rw [← hW2]
    have := World.cell?_alloc_mark (w.alloc (.cells #[.slice none 0 0] 22)) #[.slice A vs.length c] 34 (0, 0) 0
    rw [World.size_alloc] at this
    exact this
  have hL2 : W2.heap[w.heap.size]? = some (.cells #[.slice none 0 0] 22 (0, 0)) := by
    rw [← hW2]
    exact (Below.heap_alloc _ _ _ (by simp)).trans (World.alloc_heap_new w _)
  have hLc : W2.cell? ⟨w.heap.size, 0, none⟩ = some (.slice none 0 0) := (of_heap hL2 0).1
  have hrow : RowIn W2.heap.size w.heap.size W2 := by
    rintro g ⟨v, hv, hg⟩
    rw [hLc] at hv
    cases hv
    cases hg
  have hAA : 0 < vs.length → ∀ b o, A = some ⟨b, o, none⟩ → b < W2.heap.size ∧ b ≠ w.heap.size := by
    intro h b o e
    obtain ⟨b', o', e', hl', _⟩ := hr.2 h
    rw [e] at e'
    cases e'
    exact ⟨by omega, by omega⟩
  have hseq : SeqStopsK Fence.wide (6 - 1) Tryd.prog 27 #[.pointer (some ⟨w.heap.size + 1, 0, none⟩)] (fun d : Dir => #[dirA d]) (KpRow w.heap.size) (fun ys => ys = dlistL vs) (fun _ => True) (64 * vs.length) W2 :=
    fun l J Jx W hW hJ _ hY h0 => each1_in w.heap.size (w.heap.size + 1) A vs.length c vs W2 (hM.below hB2) (by omega) (Nat.ne_of_lt hM.1) (by omega) hbox (hr.below hB2) hAA hrow (by omega) hl 5 (by decide) l J Jx W hW hJ hY h0
  have HSEQ := Lib.hid hseq; have HW2 := Lib.hid hW2; have HL2 := Lib.hid hL2
  clear hseq hbox hrow hAA hr hl hM hLc hW2 hL2
  gi_wp2_with (refine ⟨trivial, ?_⟩; gi_at_call 20; refine (callsIn_wide.2 (each_any _ _ _ _)).mono ?_; rintro e w' ⟨rfl, rfl⟩)
  rw [HW2.out]
  refine wpIn_rangeFunc_ownH rfl (by decide) (gf := 27) (lb := #[.pointer (some ⟨w.heap.size + 1, 0, none⟩)]) rfl trivial (enters_of Tryd.func27 (by kernel_rfl) rfl)
    HSEQ.out KpRow.trans (fun W l o o' h1 h2 h3 _ => KpRow.putObj o' h2 h3 (by omega)) (Below.refl _ _) (fun _ => rfl)
    (DI w) (fun _ _ _ => False) (DI.own (by omega)) (fun _ _ _ _ _ hs _ _ => hs) ⟨_, HL2.out, OwnD.nil _ _, hB2, by omega⟩
    (fun x a' W => ∃ Bx, w.heap.size + 1 < Bx ∧ W.heap[Bx]? = some (.cells #[.string ⟨x.name.toArray⟩, .string ⟨x.value.toArray⟩, .bool x.has, .string ⟨x.for_.toArray⟩] 28 (0, 0)) ∧ a' = { tmps := #[.slice A vs.length c, undef, .slice none 0 0, .pointer (some ⟨w.heap.size, 0, none⟩), .pointer (some ⟨Bx, 0, none⟩), .slice A vs.length c, .func (.func 27) #[] #[.pointer (some ⟨w.heap.size + 1, 0, none⟩)], dirA x, undef, undef, undef, undef, undef], defers := [] })
    (fun x a' _ X Y row hs hg hr => by
      obtain ⟨Bx, h1, h2, h3⟩ := hs
      refine ⟨Bx, h1, ?_, h3⟩
      rw [hg.block Bx (heap_lt h2) (fun e => by
        obtain ⟨_, o, ho, hc⟩ := hr Bx e.symm
        rw [h2] at ho; cases ho; cases hc)]
      exact h2)
    ?assign ?body ?done ?stop
  case assign =>
    rintro l pre x W K ⟨v, h1, h2, h3, h4⟩ hK
    obtain ⟨dn, dv, dh, df⟩ := x
    unfold dirA at *
    gi_wp2
    have hal := (Below.refl W.heap.size W).alloc (Nat.le_refl _) (.cells #[.string ⟨dn.toArray⟩, .string ⟨dv.toArray⟩, .bool dh, .string ⟨df.toArray⟩] 28)
    refine hK _ _ ((KeepsOthers.alloc _ _).from _) (KpRow.alloc _ W _ (heap_lt h1)) ⟨v, (hal.block _ (heap_lt h1)).trans h1, h2.below hal, h3.trans (hal.mono h3.size), by simp; omega⟩ ⟨W.heap.size, by omega, World.alloc_heap_new W _, rfl⟩
  case body =>
    rintro l pre x a' W hl _ ⟨v, h1, h2, h3, h4⟩ ⟨Bx, hBx, bX, rfl⟩ hlt
    obtain ⟨dn, dv, dh, df⟩ := x
    unfold dirA
    obtain ⟨e0, e1, _⟩ := of_heap h1 0
    have e0' : W.cell? ⟨w.heap.size, 0, none⟩ = some v := e0
    have x0 := (of_heap bX 0).1
    have x1 := (of_heap bX 1).1
    have x2 := (of_heap bX 2).1
    have x3 := (of_heap bX 3).1
    have y0 : W.cell? ⟨Bx, 0, none⟩ = some (.string ⟨dn.toArray⟩) := x0
    have y1 : W.cell? ⟨Bx, 1, none⟩ = some (.string ⟨dv.toArray⟩) := x1
    have y2 : W.cell? ⟨Bx, 2, none⟩ = some (.bool dh) := x2
    have y3 : W.cell? ⟨Bx, 3, none⟩ = some (.string ⟨df.toArray⟩) := x3
    have hpl : pre.length ≤ 1000000000 := by omega
    obtain ⟨va, vc, rfl⟩ := h2.shape
    have HO := Lib.hid h2; have H1 := Lib.hid h1; have H3 := Lib.hid h3
    clear x0 x1 x2 x3 e0 h1 h2 h3 bX
    gi_wp2_with (gi_at_builtin; refine app_dirIn (w.heap.size + 2) ⟨dn, dv, dh, df⟩ HO.out h4 hpl rfl _ _ rfl rfl rfl ?_; intro v' w1 hO' hb' hfar'; obtain ⟨va', vc', rfl⟩ := hO'.shape; have t0 := (hb'.cell (p := ⟨w.heap.size, 0, none⟩) (by show w.heap.size < _; omega)).trans e0'; have t1 := (hb'.frozen (p := ⟨w.heap.size, 0, none⟩) (by show w.heap.size < _; omega)).trans e1)
    have hll : (pre ++ [(⟨dn, dv, dh, df⟩ : Dir)]).length = pre.length + 1 := by simp
    rw [hll] at hO' hfar'
    clear hll
    have hne : (Value.slice va pre.length vc).ownBlock ≠ some w.heap.size := fun h => by
      have := (World.ownsRow.lt HO.out _ h).1; omega
    have hkp := KpRow.stored hfar' e0' (fun g hg => (World.ownsRow.lt hO' g hg).2) (by omega) hne
    have hko : KeepsFrom W2.heap.size W (w1.setCell ⟨w.heap.size, 0, none⟩ (.slice va' (pre.length + 1) vc')) := by
      refine (KeepsOthers.trans (KeepsOthers.of_grownBy hfar'.1 (fun j o hj ho => ?_)) (KeepsOthers.setCell w1 ⟨w.heap.size, 0, none⟩ _)).from _
      rcases HO.out.2 with ⟨hv, _⟩ | ⟨g, cp, cur, hv, _, hh, _⟩
      · rw [hv] at hj; cases hj
      · rw [hv] at hj; cases hj
        rw [hh] at ho; cases ho; rfl
    have h1' : (w1.setCell ⟨w.heap.size, 0, none⟩ (.slice va' (pre.length + 1) vc')).heap[w.heap.size]? = some (.cells #[.slice va' (pre.length + 1) vc'] 22 (0, 0)) := heap_set ((hb'.block _ (by omega)).trans H1.out)
    have h2' : OwnD (w.heap.size + 2) (.slice va' (pre.length + 1) vc') (pre ++ [(⟨dn, dv, dh, df⟩ : Dir)]) (w1.setCell ⟨w.heap.size, 0, none⟩ (.slice va' (pre.length + 1) vc')) := ownsRow_setCell_below (a := ⟨w.heap.size, 0, none⟩) hO' (by show w.heap.size < w.heap.size + 2; omega) _
    have h3' := (H3.out.trans (hb'.mono (by omega))).setCell (p := ⟨w.heap.size, 0, none⟩) (Nat.le_refl _) (.slice va' (pre.length + 1) vc')
    have h4' : w.heap.size + 2 ≤ (w1.setCell ⟨w.heap.size, 0, none⟩ (.slice va' (pre.length + 1) vc')).heap.size := by have := hb'.size; simp; omega
    exact ⟨hko, hkp, _, h1', h2', h3', h4'⟩
  case done =>
    rintro D ys W hD rfl ⟨v, h1, h2, h3, h4⟩ hK
    obtain ⟨va, vc, rfl⟩ := h2.shape
    have e0 : W.cell? ⟨w.heap.size, 0, none⟩ = some (.slice va (dlistL vs).length vc) := (of_heap h1 0).1
    gi_wp2
    refine ⟨by simp, .inl ⟨_, _, rfl, run_takeDeferred hK, ?_⟩⟩
    exact ⟨_, results_tmp rfl _ _ _, va, vc, rfl, OwnD.base (ownsRow_putObj h2 _ hK rfl) (by omega), h3.trans (belowK_b (w := w) (Nat.le_refl _) W D _ _ (by omega) hK rfl rfl)⟩
  case stop =>
    rintro D c pre W _ _ h _
    exact h.elim
end Go.Proofs.YtfjgacankfidmaaDoor
/- The walk of the law's told (layer 11). -/
namespace Go.Proofs.YtfjgacankfidmaaDoor
open Go.RowKit
set_option maxRecDepth 100000

def toldP (b : Bool) (d : Dir) : List UInt8 := (bif b then [32] else []) ++ (d.name ++ (bif d.has then 61 :: d.value else []))
def toldS (b : Bool) : List Dir → List UInt8
  | [] => []
  | d :: r => toldP b d ++ toldS true r
theorem toldS_snoc : ∀ (xs : List Dir) (b : Bool) (d : Dir), toldS b (xs ++ [d]) = toldS b xs ++ toldP (b || !xs.isEmpty) d
  | [], b, d => by simp [toldS]
  | x :: r, b, d => by
    rw [List.cons_append, toldS, toldS, toldS_snoc r true d]
    simp
theorem toldS_take (xs : List Dir) (k : Nat) (h : k < xs.length) : toldS false (xs.take (k + 1)) = toldS false (xs.take k) ++ toldP (decide ((k : Int) > 0)) xs[k] := by
  rw [List.take_succ_eq_append_getElem h, toldS_snoc]
  congr 2
  cases k with
  | zero => rfl
  | succ j =>
    cases xs with
    | nil => simp at h
    | cons x r => simp

set_option maxHeartbeats 8000000 in
theorem told_any (A : Option Addr) (n c : Nat) (vs : List (List UInt8)) (w : World) (hM : MaxL w) (hr : Rd A n 1 (strsV vs) w) (hn : n ≤ 10000) (hs : ∀ v ∈ vs, v.length ≤ 1000000) (hx : (dlistL vs).length ≤ 1000 ∧ ∀ d ∈ dlistL vs, d.name.length ≤ 1000 ∧ d.value.length ≤ 1000) :
    Calls Tryd.prog 10 #[.slice A n c] w fun e w' => e = .returned (.string ⟨(toldS false (dlistL vs)).toArray⟩) ∧ Below w.heap.size w w' := by
  have k1 := dlist_any A n c vs w hM hr hn hs
  generalize dlistL vs = xs at *
  obtain ⟨hxl, hxs⟩ := hx
  have hsn := toldS_take xs
  have h00 : toldS false (xs.take 0) = [] := rfl
  have hfin : toldS false (xs.take xs.length) = toldS false xs := by rw [List.take_length]
  have K1 := Lib.hid k1; have HXS := Lib.hid hxs; have HSN := Lib.hid hsn; have H00 := Lib.hid h00; have HFIN := Lib.hid hfin
  clear k1 hxs hsn h00 hfin hr hM hs
  go_enter Tryd.func10, Tryd.ntmps10
  go_wp2_with fail
  refine K1.out.mono ?_
  rintro e w1 ⟨a1, c1, rfl, ho1, hb1⟩
  have HR := Lib.hid ho1.rd.2
  clear ho1 K1
  go_wp2_with fail
  go_loopw [5, 3] (fun i out wr => ∃ k : Nat, k ≤ xs.length ∧ i = .int .i64 k ∧ (∃ o : ByteArray, out = .string o ∧ Hid (o.data.toList = toldS false (xs.take k)) ∧ o.size ≤ 2002 * k) ∧ wr = w1) (fun i _ _ => xs.length - (intOf i).toNat)
  case atStart => exact ⟨0, Nat.zero_le _, rfl, ⟨⟨#[]⟩, rfl, Lib.hid (by rw [H00.out]), by decide⟩, rfl⟩
  case round =>
    clear H00
    obtain ⟨k, hk, rfl, ⟨acc, rfl, HA, hsz⟩, rfl⟩ := hrel
    by_cases hlt : k < xs.length
    · obtain ⟨b, o, rfl, hl, x0, x1, x2, x3⟩ := HR.out.dir_at (k := k) hlt
      have hd := HXS.out xs[k] (List.getElem_mem _)
      have hsn := HSN.out k hlt
      generalize xs[k] = d at *
      obtain ⟨dn, dv, dh, df⟩ := d
      simp only at x0 x1 x2 x3 hd
      have z1 : (⟨dn.toArray⟩ : ByteArray).size ≤ 1000 := by rw [Lib.size_eq]; exact hd.1
      have z2 : (⟨dv.toArray⟩ : ByteArray).size ≤ 1000 := by rw [Lib.size_eq]; exact hd.2
      rw [← HA.out] at hsn
      have HSN2 := Lib.hid hsn
      clear hsn hd HSN HXS HFIN HA
      obtain ⟨bn, hbn⟩ : ∃ bn : ByteArray, (⟨dn.toArray⟩ : ByteArray) = bn := ⟨_, rfl⟩
      obtain ⟨bv, hbv⟩ : ∃ bv : ByteArray, (⟨dv.toArray⟩ : ByteArray) = bv := ⟨_, rfl⟩
      have hdn : dn = bn.data.toList := by rw [← hbn]
      have hdv : dv = bv.data.toList := by rw [← hbv]
      rw [hbn] at x0 z1
      rw [hbv] at x1 z2
      subst hdn; subst hdv
      clear hbn hbv
      have zs : (⟨#[32]⟩ : ByteArray).size = 1 := rfl
      have ze : (⟨#[61]⟩ : ByteArray).size = 1 := rfl
      have zd : (⟨#[32]⟩ : ByteArray).data.toList = [32] := rfl
      have zf : (⟨#[61]⟩ : ByteArray).data.toList = [61] := rfl
      have hqq : (decide (0 < k) = true ∧ decide ((k : Int) > 0) = true) ∨ (decide (0 < k) = false ∧ decide ((k : Int) > 0) = false) := by
        by_cases hz : 0 < k
        · left; exact ⟨decide_eq_true hz, decide_eq_true (by omega)⟩
        · right; exact ⟨decide_eq_false hz, decide_eq_false (by omega)⟩
      rcases hqq with ⟨q0, q1⟩ | ⟨q0, q1⟩
      all_goals rw [q1] at HSN2
      all_goals cases dh
      all_goals (
        go_wp2
        go_roundw
        case rel =>
          refine ⟨k + 1, by omega, by go_num, ⟨_, rfl, Lib.hid ?_, ?_⟩, trivial⟩
          · rw [HSN2.out]; simp [toldP]
          · simp only [ByteArray.size_append]; omega
        case measure => simp [intOf]; omega)
    · have hke : k = xs.length := by omega
      subst hke
      have hA := HA.out
      rw [HFIN.out] at hA
      have t1 : decide ((xs.length : Int) < (xs.length : Int)) = false := by simp
      have HV := Lib.hid hA
      clear HSN HXS HFIN HA hA
      go_wp2
      go_ret
      exact ⟨(by rw [← HV.out, str_of]; exact rfl), hb1⟩
end Go.Proofs.YtfjgacankfidmaaDoor
/- The walk of the law's awake (layer 11). -/
namespace Go.Proofs.YtfjgacankfidmaaDoor
open Go.RowKit
set_option maxRecDepth 100000

def aw1 : List UInt8 := [78, 111, 45, 67, 97, 99, 104, 101, 44, 32, 109, 97, 120, 45, 97, 103, 101, 61, 53]
def aw2 : List UInt8 := [109, 97, 120, 45, 97, 103, 101, 61, 57, 44, 32, 34, 120]
def aw3 : List UInt8 := [97, 61, 34, 120, 44, 121, 34, 44, 32, 98]
theorem told_new (l : List UInt8) (ds : List Dir) (r : List UInt8) (w : World) (hM : MaxL w) (hl : l.length ≤ 1000) (hd : dlistL [l] = ds) (hx : (decide (ds.length ≤ 1000) && ds.all fun d => decide (d.name.length ≤ 1000) && decide (d.value.length ≤ 1000)) = true) (hr : toldS false ds = r) :
    Calls Tryd.prog 10 #[.slice (some ⟨w.heap.size, 0, none⟩) 1 1] (w.alloc (.cells #[.string ⟨l.toArray⟩] 9)) fun e w' => e = .returned (.string ⟨r.toArray⟩) ∧ Below w.heap.size w w' := by
  have hal := (Below.refl w.heap.size w).alloc (Nat.le_refl _) (.cells #[.string ⟨l.toArray⟩] 9)
  subst hd
  rw [Bool.and_eq_true, decide_eq_true_eq, List.all_eq_true] at hx
  obtain ⟨h1, h2⟩ := hx
  have h := told_any _ 1 1 [l] _ (hM.below hal) (Rd.newS1 w l 9) (by omega) (by intro v hv; rw [List.mem_singleton.1 hv]; omega) ⟨h1, fun d hd => by have := h2 d hd; simpa using this⟩
  rw [hr] at h
  exact h.mono fun _ _ ⟨h1, h2⟩ => ⟨h1, hal.trans (h2.mono (by simp))⟩
def dw1 : List Dir := [⟨[110, 111, 45, 99, 97, 99, 104, 101], [], false, []⟩, ⟨[109, 97, 120, 45, 97, 103, 101], [53], true, []⟩]
def dw2 : List Dir := [⟨noStore, [], false, []⟩]
def dw3 : List Dir := [⟨[97], [120, 44, 121], true, []⟩, ⟨[98], [], false, []⟩]
theorem aw1_list : dlistL [aw1] = dw1 := by kernel_rfl
theorem aw2_list : dlistL [aw2] = dw2 := by kernel_rfl
theorem aw3_list : dlistL [aw3] = dw3 := by kernel_rfl
set_option maxHeartbeats 4000000 in
theorem awake11_any (w : World) (hM : MaxL w) :
    Calls Tryd.prog 4 #[] w fun e w' => e = .returned (.bool true) ∧ Below w.heap.size w w' := by
  have k1 := fun w h => told_new aw1 dw1 [110, 111, 45, 99, 97, 99, 104, 101, 32, 109, 97, 120, 45, 97, 103, 101, 61, 53] w h (by decide) aw1_list (by decide) (by decide)
  have k2 := fun w h => told_new aw2 dw2 [110, 111, 45, 115, 116, 111, 114, 101] w h (by decide) aw2_list (by decide) (by decide)
  have k3 := fun w h => told_new aw3 dw3 [97, 61, 120, 44, 121, 32, 98] w h (by decide) aw3_list (by decide) (by decide)
  have e1 : (⟨aw1.toArray⟩ : ByteArray) = ⟨#[78, 111, 45, 67, 97, 99, 104, 101, 44, 32, 109, 97, 120, 45, 97, 103, 101, 61, 53]⟩ := rfl
  have e2 : (⟨aw2.toArray⟩ : ByteArray) = ⟨#[109, 97, 120, 45, 97, 103, 101, 61, 57, 44, 32, 34, 120]⟩ := rfl
  have e3 : (⟨aw3.toArray⟩ : ByteArray) = ⟨#[97, 61, 34, 120, 44, 121, 34, 44, 32, 98]⟩ := rfl
  rw [e1] at k1; rw [e2] at k2; rw [e3] at k3
  clear e1 e2 e3
  have K1 := Lib.hid k1; have K2 := Lib.hid k2; have K3 := Lib.hid k3; clear k1 k2 k3
  go_enter Tryd.func4, Tryd.ntmps4
  go_wp2_with fail
  refine (K1.out _ hM).mono ?_
  rintro e w1 ⟨rfl, hb1⟩
  go_wp2_with fail
  refine (K2.out _ (hM.below hb1)).mono ?_
  rintro e w2 ⟨rfl, hb2⟩
  have hB2 := bt hb1 hb2
  go_wp2_with fail
  refine (K3.out _ (hM.below hB2)).mono ?_
  rintro e w3 ⟨rfl, hb3⟩
  go_wp2
  go_ret
  exact ⟨rfl, bt hB2 hb3⟩
end Go.Proofs.YtfjgacankfidmaaDoor
/- Small letters and tokens: plain. -/
namespace Go.Proofs.YtfjgacankfidmaaDoor
open Go.RowKit

theorem word_low (c : UInt8) : wordb (lowb c) = wordb c := by
  by_cases h : (decide (65 ≤ c.toNat) && decide (c.toNat ≤ 90)) = true
  · have h1 : lowb c = c + 32 := by unfold lowb; rw [h]; rfl
    have h2 : (c + 32).toNat = c.toNat + 32 := by
      simp at h; rw [UInt8.toNat_add]; simp; omega
    simp at h
    have h3 : letterb c = true := by unfold letterb; simp; omega
    have h4 : letterb (c + 32) = true := by unfold letterb; rw [h2]; simp; omega
    rw [h1]; unfold wordb; rw [h3, h4]; rfl
  · have h' : (decide (65 ≤ c.toNat) && decide (c.toNat ≤ 90)) = false := by simpa using h
    have h1 : lowb c = c := by unfold lowb; rw [h']; rfl
    rw [h1]
theorem token_low (l : List UInt8) : tokenL (lowerL l) = tokenL l := by
  unfold tokenL lowerL
  rw [List.all_map]
  congr 1
  · congr 1; funext c; exact word_low c
  · cases l <;> rfl
end Go.Proofs.YtfjgacankfidmaaDoor
/- The walk of the law's few (layer 11). -/
namespace Go.Proofs.YtfjgacankfidmaaDoor
open Go.RowKit
set_option maxRecDepth 100000

def fewD (vs : List (List UInt8)) : Bool := (vs.take 30).all (fun v => decide (v.length ≤ 2000)) && decide (vs.length ≤ 20)
theorem fewD_yes {vs : List (List UInt8)} (h : fewD vs = true) : vs.length ≤ 20 ∧ ∀ v ∈ vs, v.length ≤ 2000 := by
  unfold fewD at h
  rw [Bool.and_eq_true, decide_eq_true_eq, List.all_eq_true] at h
  obtain ⟨h1, h2⟩ := h
  rw [List.take_of_length_le (by omega)] at h1
  exact ⟨h2, fun v hv => by simpa using h1 v hv⟩

end Go.Proofs.YtfjgacankfidmaaDoor
