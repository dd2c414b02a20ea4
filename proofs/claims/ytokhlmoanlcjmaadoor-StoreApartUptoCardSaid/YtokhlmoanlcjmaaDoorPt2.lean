/- Joined out of the texts SumF, OwnF, Spec1, FieldSpec, Lower, Trim, SplitSpec, StaysSpec, VarySpec, Same, Values, Split, Join, VaryValue, VarySel, St1, Box8, OwnFar, ResOne, St2, Build, RLow, Bytes, St3, St4, St5, St6 (wip/tools/merge.py). -/
import Derived.Test.YtokhlmoanlcjmaaDoorPt1
import Derived.Lib.Join
import Derived.Test.YtokhlmoanlcjmaaDoorShelf
import Derived.Lib.SlBytesRow
import Derived.Lib.IndexLaws
import Derived.Shelf.Strings.SlTrimAscii
import Derived.Lib.IndexMore
import Derived.Deep.RegionHeld3
import Derived.Laws.CopyOwn
import Derived.Laws.OwnMore
import Derived.Lib.LazyBuf
import Derived.RegionTactic
import Derived.BigRegion
import Derived.Laws.ResultCell
import Derived.Deep.RegionWith
import Derived.Lib.FrozenHead2
import Derived.Lib.OthersKept
import Derived.Shelf.Strings.BuilderK
import Derived.Laws.BytesArg
import Derived.Lib.AppendStr
import Derived.Lib.AppendIntMem
import Derived.Lib.ItoaLen
/- All that fields hold: plain. -/
namespace Go.Proofs.YtokhlmoanlcjmaaDoor
open Go.RowKit

/-- All that the fields hold. -/
def sumF (xs : List Fld) : Nat := (xs.map fun f => f.1.length + f.2.length).sum
theorem sumF_mem {xs : List Fld} {f : Fld} (h : f ∈ xs) : f.1.length + f.2.length ≤ sumF xs := by
  unfold sumF
  induction xs with
  | nil => cases h
  | cons x r ih =>
    rw [List.map_cons, List.sum_cons]
    rcases List.mem_cons.1 h with rfl | h
    · omega
    · have := ih h; omega
theorem sumF_take (xs : List Fld) (k : Nat) : sumF (xs.take k) ≤ sumF xs := by
  unfold sumF
  conv => rhs; rw [← List.take_append_drop k xs, List.map_append, List.sum_append]
  omega
theorem sumF_snoc (xs : List Fld) (k : Nat) (h : k < xs.length) : sumF (xs.take (k + 1)) = sumF (xs.take k) + (xs[k].1.length + xs[k].2.length) := by
  unfold sumF; rw [List.take_succ_eq_append_getElem h, List.map_append, List.sum_append]; rfl
end Go.Proofs.YtokhlmoanlcjmaaDoor
/- Fields in a slice that the call made. -/
namespace Go.Proofs.YtokhlmoanlcjmaaDoor
open Go.RowKit

theorem uFld : (Tryd.prog.info? 62).map (fun i => (i.zero, i.size, i.bytes)) = some (some (.agg #[.string ByteArray.empty, .string ByteArray.empty]), 2, 32) := by kernel_rfl
def OwnF (B : Nat) (v : Value) (fs : List Fld) (w : World) : Prop := w.ownsRow B 62 2 v fs.length (fldsV fs)
theorem OwnF.shape {B : Nat} {v : Value} {fs : List Fld} {w : World} (h : OwnF B v fs w) : ∃ a cap, v = .slice a fs.length cap := by
  rcases h.2 with ⟨rfl, h0⟩ | ⟨g, cap, cur, rfl, _⟩
  · exact ⟨none, 0, by rw [h0]⟩
  · exact ⟨_, _, rfl⟩
theorem OwnF.below {B : Nat} {v : Value} {fs : List Fld} {w w1 : World} (h : OwnF B v fs w) (hb : Below w.heap.size w w1) : OwnF B v fs w1 := own_below h hb
theorem OwnF.drew {B : Nat} {v : Value} {fs : List Fld} {w : World} (h : OwnF B v fs w) : OwnF B v fs w.drew := h
theorem OwnF.nil (B : Nat) (w : World) : OwnF B (.slice none 0 0) [] w := World.ownsRow_nil _ _ _ _
theorem OwnF.rd {B m cap : Nat} {a : Option Addr} {fs : List Fld} {w : World} (h : OwnF B (.slice a m cap) fs w) : m = fs.length ∧ Rd a fs.length 2 (fldsV fs) w := Rd.of_own h
theorem OwnF.base {B B' : Nat} {v : Value} {fs : List Fld} {w : World} (h : OwnF B v fs w) (hB : B' ≤ B) : OwnF B' v fs w := by
  refine ⟨h.1, ?_⟩
  rcases h.2 with h | ⟨g, cp, cur, hv, hg, r⟩
  · exact Or.inl h
  · exact Or.inr ⟨g, cp, cur, hv, by omega, r⟩
theorem app_fld {ops : Array Oper} {rest : List Oper} {o : Oper} {a : Act} {Q : Exit → Act → World → Prop} (B : Nat) (y : Fld) {w : World} {v : Value} {fs : List Fld} (hown : OwnF B v fs w) (hB : B ≤ w.heap.size) (hn : fs.length ≤ 1000000000)
    (hgd : o.guard = none) (s x : Operand) (ho : o.op = .call { callee := .builtin .append, args := #[s, x], argTypes := #[29, 29] })
    (hs : a.eval s = v) (hx : a.eval x = .slice (some ⟨w.heap.size, 0, none⟩) 1 1)
    (hK : ∀ v' w1, OwnF B v' (fs ++ [y]) w1 → Below B w w1 → Far w w1 v v' → wpList Tryd.prog ops Q rest (a.put o.dst v') w1) :
    wpList Tryd.prog ops Q (o :: rest) a (w.alloc (.cells #[.string ⟨y.1.toArray⟩, .string ⟨y.2.toArray⟩] 62)) := by
  refine app_one (z := .agg #[.string ByteArray.empty, .string ByteArray.empty]) (bytes := 32) (n := fs.length) hgd s x 29 62 ho Tryd.underlying29 uFld rfl (by decide) (by decide) B (fldV y) rfl (by intro u hu; simp [fldV] at hu; rcases hu with rfl | rfl <;> rfl) hs hx hown hB hn ?_
  intro v' w1 h1 h2 h3
  refine hK v' w1 ?_ h2 h3
  show World.ownsRow _ _ _ _ _ _ _
  rw [List.length_append, List.length_singleton]
  have : fldsV (fs ++ [y]) = fldsV fs ++ fldV y := by unfold fldsV; simp
  rw [this]
  exact h1
theorem step_fld {ops : Array Oper} {o : Oper} {a : Act} {K : Act → World → Prop} {Q : Exit → Act → World → Prop} {G : Prop} (B : Nat) (y : Fld) {w : World} {v : Value} {fs : List Fld} (hown : OwnF B v fs w) (hB : B ≤ w.heap.size) (hn : fs.length ≤ 1000000000)
    (hgd : o.guard = none) (s x : Operand) (ho : o.op = .call { callee := .builtin .append, args := #[s, x], argTypes := #[29, 29] })
    (hs : a.eval s = v) (hx : a.eval x = .slice (some ⟨w.heap.size, 0, none⟩) 1 1)
    (hK : ∀ v' w1, OwnF B v' (fs ++ [y]) w1 → Below B w w1 → Far w w1 v v' → K (a.put o.dst v') w1) :
    if Region.wanted o (yielded ops a.tmps) = true then Oper.wp Tryd.prog o a (w.alloc (.cells #[.string ⟨y.1.toArray⟩, .string ⟨y.2.toArray⟩] 62)) K Q else G := by
  refine step_app_one (z := .agg #[.string ByteArray.empty, .string ByteArray.empty]) (bytes := 32) (n := fs.length) hgd s x 29 62 ho Tryd.underlying29 uFld rfl (by decide) (by decide) B (fldV y) rfl (by intro u hu; simp [fldV] at hu; rcases hu with rfl | rfl <;> rfl) hs hx hown hB hn ?_
  intro v' w1 h1 h2 h3
  refine hK v' w1 ?_ h2 h3
  show World.ownsRow _ _ _ _ _ _ _
  rw [List.length_append, List.length_singleton]
  have : fldsV (fs ++ [y]) = fldsV fs ++ fldV y := by unfold fldsV; simp
  rw [this]
  exact h1
/-- Fields that are handed back in a slice of the call's own. -/
def FieldsPost (w : World) (fs : List Fld) (e : Ending) (w' : World) : Prop :=
  ∃ a cap, e = .returned (.slice a fs.length cap) ∧ OwnF w.heap.size (.slice a fs.length cap) fs w' ∧ Below w.heap.size w w'
end Go.Proofs.YtokhlmoanlcjmaaDoor
/- What the functions of layer 1 compute, as plain functions on lists of bytes; no program in sight. -/
namespace Go.Proofs.YtokhlmoanlcjmaaDoor

/-- may a byte be in a quoted text? -/
def plainb (c : UInt8) : Bool := c.toNat == 9 || (decide (32 ≤ c.toNat) && c.toNat != 127)
def esc (c : UInt8) : List UInt8 := bif c.toNat == 34 || c.toNat == 92 then [92, c] else [c]
theorem esc_le (c : UInt8) : (esc c).length ≤ 2 := by unfold esc; cases (c.toNat == 34 || c.toNat == 92) <;> simp
theorem flat_le (l : List UInt8) : (l.flatMap esc).length ≤ 2 * l.length := by
  induction l with
  | nil => simp
  | cons x r ih => have := esc_le x; rw [List.flatMap_cons, List.length_append, List.length_cons]; omega
def quoted (s : ByteArray) : List UInt8 := 34 :: (s.data.toList.flatMap esc ++ [34])
def two (l : Option (List UInt8)) : Value := match l with
  | some l => .tuple #[.string ⟨l.toArray⟩, .int .i64 0]
  | none => .tuple #[.string ⟨#[]⟩, .int .i64 4]
/-- Quote. -/
def quoteO (s : ByteArray) : Option (List UInt8) := bif s.data.toList.all plainb then some (quoted s) else none

/-- What the pieces say, byte by byte: the flag tells whether a byte 92 stands ahead. -/
def unq : Bool → List UInt8 → Option (List UInt8)
  | b, [] => bif b then none else some []
  | b, c :: r =>
    bif !plainb c || (c.toNat == 34 && !b) then none
    else bif c.toNat == 92 && !b then unq true r
    else (unq false r).map (c :: ·)
/-- Unquote: the program's way: both ends first, then what is between them. -/
def unqP (l : List UInt8) : Option (List UInt8) :=
  bif decide (2 ≤ l.length) && (l.head?.getD 0).toNat == 34 && (l.getLast?.getD 0).toNat == 34 then unq false (l.drop 1).dropLast else none
/-- Unquote: the document's way: piece by piece up to the closing mark. -/
def unqD : List UInt8 → Option (List UInt8)
  | [] => none
  | [c] => bif c.toNat == 34 then some [] else none
  | c :: d :: r =>
    bif c.toNat == 34 then none
    else bif c.toNat == 92 then (bif plainb d then (unqD r).map (d :: ·) else none)
    else (bif plainb c then (unqD (d :: r)).map (c :: ·) else none)
def unqR (l : List UInt8) : Option (List UInt8) := match l with
  | [] => none
  | c :: r => bif c.toNat == 34 then unqD r else none

/-- Both ways agree. -/
theorem unqD_eq : ∀ (n : Nat) (l : List UInt8), l.length ≤ n → unqD l = bif decide (1 ≤ l.length) && (l.getLast?.getD 0).toNat == 34 then unq false l.dropLast else none
  | _, [], _ => rfl
  | _, [c], _ => by by_cases h : c.toNat = 34 <;> simp [unqD, h, unq]
  | 0, c :: d :: r, h => by simp at h
  | n + 1, c :: d :: r, h => by
    have ih1 := unqD_eq n (d :: r) (by simp at *; omega)
    have ih2 := unqD_eq n r (by simp at *; omega)
    have hl : (c :: d :: r).getLast? = (d :: r).getLast? := by simp [List.getLast?_cons_cons]
    have hd : (c :: d :: r).dropLast = c :: (d :: r).dropLast := by simp
    rw [hl, hd, unqD]
    cases h34 : (c.toNat == 34)
    · cases h92 : (c.toNat == 92)
      · rw [ih1]
        cases hp : plainb c <;> cases hq : (((d :: r).getLast?.getD 0).toNat == 34)
        all_goals simp [unq, h34, h92, hp]
      · have hc : plainb c = true := by simp at h92; simp [plainb, h92]
        cases r with
        | nil =>
          cases hp : plainb d <;> cases hq : (d.toNat == 34)
          all_goals simp [h92, h34, unq, unqD, hc, hq]
        | cons e r =>
          have hl2 : (d :: e :: r).getLast? = (e :: r).getLast? := by simp [List.getLast?_cons_cons]
          have hd2 : (d :: e :: r).dropLast = d :: (e :: r).dropLast := by simp
          rw [hl2, hd2, ih2]
          cases hp : plainb d <;> cases hq : (((e :: r).getLast?.getD 0).toNat == 34)
          all_goals simp [h92, h34, unq, hc, hp]
    · have h92 : (c.toNat == 92) = false := by simp at h34; simp [h34]
      have hc : plainb c = true := by simp at h34; simp [plainb, h34]
      simp [unq, h34, h92, hc]
theorem unqP_eq (l : List UInt8) : unqP l = unqR l := by
  cases l with
  | nil => rfl
  | cons c r =>
    unfold unqR unqP
    simp only [List.drop_one, List.tail_cons]
    rw [unqD_eq r.length r (Nat.le_refl _)]
    cases r with
    | nil => simp
    | cons d r =>
      have hl : (c :: d :: r).getLast? = (d :: r).getLast? := by simp [List.getLast?_cons_cons]
      rw [hl]
      cases h : (c.toNat == 34) <;> cases hq : (((d :: r).getLast?.getD 0).toNat == 34)
      all_goals simp [h]

/-- Lower. -/
def lowb (c : UInt8) : UInt8 := bif decide (65 ≤ c.toNat) && decide (c.toNat ≤ 90) then c + 32 else c
def lowerL (l : List UInt8) : List UInt8 := l.map lowb
/-- a token's byte -/
def markL : List UInt8 := [33, 35, 36, 37, 38, 39, 42, 43, 45, 46, 94, 95, 96, 124, 126]
def letterb (c : UInt8) : Bool := (decide (97 ≤ c.toNat) && decide (c.toNat ≤ 122)) || (decide (65 ≤ c.toNat) && decide (c.toNat ≤ 90)) || (decide (48 ≤ c.toNat) && decide (c.toNat ≤ 57))
def wordb (c : UInt8) : Bool := letterb c || markL.contains c
def tokenL (l : List UInt8) : Bool := l.all wordb && !l.isEmpty
end Go.Proofs.YtokhlmoanlcjmaaDoor
/- Fields of a name: plain. -/
namespace Go.Proofs.YtokhlmoanlcjmaaDoor

def valuesL (xs : List Fld) (name : List UInt8) : List (List UInt8) := (xs.filter fun f => lowerL f.1 == lowerL name).map (·.2)
theorem valuesL_le (xs : List Fld) (name : List UInt8) : (valuesL xs name).length ≤ xs.length := by
  unfold valuesL; rw [List.length_map]; exact List.length_filter_le _ _
theorem valuesL_snoc (xs : List Fld) (f : Fld) (name : List UInt8) : valuesL (xs ++ [f]) name = if lowerL f.1 == lowerL name then valuesL xs name ++ [f.2] else valuesL xs name := by
  unfold valuesL
  rw [List.filter_append]
  cases h : (lowerL f.1 == lowerL name) <;> simp [h]
theorem take_snocL {α : Type} (xs : List α) (k : Nat) (h : k < xs.length) : xs.take (k + 1) = xs.take k ++ [xs[k]] := List.take_succ_eq_append_getElem h
end Go.Proofs.YtokhlmoanlcjmaaDoor
/- The walk of text.Lower. -/
namespace Go.Proofs.YtokhlmoanlcjmaaDoor
open Go.RowKit

/-- The bytes with the first k made small. -/
def lowTo (s : ByteArray) (k : Nat) : ByteArray := ⟨((s.data.toList.take k).map lowb ++ s.data.toList.drop k).toArray⟩
theorem lowTo_size (s : ByteArray) (k : Nat) : (lowTo s k).size = s.size := by
  unfold lowTo; rw [Lib.size_eq, Lib.size_eq]; simp only [List.length_append, List.length_map, List.length_take, List.length_drop]; omega
theorem lowTo_zero (s : ByteArray) : lowTo s 0 = s := by unfold lowTo; simp
theorem lowTo_end (s : ByteArray) : lowTo s s.size = ⟨(lowerL s.data.toList).toArray⟩ := by
  unfold lowTo lowerL; rw [take_all s _ (Nat.le_refl _), drop_all s _ (Nat.le_refl _), List.append_nil]
theorem lowTo_at (s : ByteArray) (k j : Nat) (h : j < s.size) (h' : j < (lowTo s k).size) : (lowTo s k)[j] = if j < k then lowb s[j] else s[j] := by
  have hl : j < ((s.data.toList.take k).map lowb ++ s.data.toList.drop k).length := by
    rw [List.length_append, List.length_map, List.length_take, List.length_drop, ← Lib.size_eq]; omega
  rw [mk_at (lowTo s k) _ rfl j h' hl, at_list s j h]
  by_cases hk : j < k
  · rw [if_pos hk, List.getElem_append_left (by rw [List.length_map, List.length_take, ← Lib.size_eq]; omega)]
    simp only [List.getElem_map, List.getElem_take]
  · rw [if_neg hk, List.getElem_append_right (by rw [List.length_map, List.length_take, ← Lib.size_eq]; omega)]
    simp only [List.getElem_drop]; congr 1
    rw [List.length_map, List.length_take, ← Lib.size_eq]; omega

/-- A row of bytes in block b that may be written. -/
structure RowAt (b : Nat) (s : ByteArray) (w : World) : Prop where
  cells : Lib.Bytes w b 0 s
  free : ∀ i, i < s.size → w.frozen? ⟨b, i, none⟩ = false

theorem RowAt.fresh (s : ByteArray) (cap : Nat) (w : World) :
    RowAt w.heap.size s (w.alloc (.cells (bytesRow s cap) 5 ((bytesRow s cap).size, (bytesRow s cap).size + 1))) := by
  refine ⟨fun i h => ?_, fun i h => ?_⟩
  · rw [Nat.zero_add, World.cell?_alloc_mark, bytesRow_at s cap i h]; rfl
  · rw [World.frozen?_alloc_mark]
    have : s.size ≤ (bytesRow s cap).size := by unfold bytesRow; simp
    simp; omega
theorem RowAt.drew {b : Nat} {s : ByteArray} {w : World} (h : RowAt b s w) : RowAt b s w.drew := ⟨fun i hi => h.cells i hi, fun i hi => h.free i hi⟩
theorem RowAt.same {b k : Nat} {s : ByteArray} {w : World} (h : RowAt b (lowTo s k) w) (hk : k < s.size) (e : lowb s[k] = s[k]) : RowAt b (lowTo s (k + 1)) w := by
  refine ⟨fun i hi => ?_, fun i hi => h.free i (by rw [lowTo_size] at *; exact hi)⟩
  have hi2 : i < s.size := by rw [lowTo_size] at hi; exact hi
  rw [h.cells i (by rw [lowTo_size]; exact hi2), lowTo_at s k i hi2, lowTo_at s (k + 1) i hi2]
  by_cases h1 : i < k
  · rw [if_pos h1, if_pos (by omega)]
  · rw [if_neg h1]
    by_cases h2 : i = k
    · subst h2; rw [if_pos (by omega), e]
    · rw [if_neg (by omega)]
theorem RowAt.put {b k : Nat} {s : ByteArray} {w : World} (h : RowAt b (lowTo s k) w) (hk : k < s.size) {n : Int} (e : ((lowb s[k]).toNat : Int) = n) : RowAt b (lowTo s (k + 1)) (w.setCell ⟨b, k, none⟩ (.int .u8 n)) := by
  refine ⟨fun i hi => ?_, fun i hi => ?_⟩
  · have hi2 : i < s.size := by rw [lowTo_size] at hi; exact hi
    have hc := h.cells i (by rw [lowTo_size]; exact hi2)
    rw [Nat.zero_add] at hc ⊢
    rw [lowTo_at s (k + 1) i hi2]
    by_cases h2 : i = k
    · subst h2
      rw [World.cell?_setCell_same _ _ _ hc, if_pos (by omega), e]
    · rw [World.cell?_setCell_other _ _ _ _ (by intro e; cases e; exact h2 rfl), hc, lowTo_at s k i hi2]
      by_cases h1 : i < k
      · rw [if_pos h1, if_pos (by omega)]
      · rw [if_neg h1, if_neg (by omega)]
  · rw [World.frozen?_setCell]; exact h.free i (by rw [lowTo_size] at *; exact hi)
theorem RowAt.at {b k : Nat} {s : ByteArray} {w : World} (h : RowAt b (lowTo s k) w) (hk : k < s.size) : w.cell? ⟨b, k, none⟩ = some (.int .u8 s[k].toNat) := by
  have hc := h.cells k (by rw [lowTo_size]; exact hk)
  rw [Nat.zero_add] at hc
  rw [hc, lowTo_at s k k hk, if_neg (by omega)]

theorem lowb_no (c : UInt8) (h : (decide (65 ≤ (c.toNat : Int)) && decide ((c.toNat : Int) ≤ 90)) = false) : lowb c = c := by
  have : (decide (65 ≤ c.toNat) && decide (c.toNat ≤ 90)) = false := by rw [← h, Bool.eq_iff_iff]; simp; omega
  unfold lowb; rw [this]; rfl
theorem lowb_yes (c : UInt8) (h1 : decide (65 ≤ (c.toNat : Int)) = true) (h2 : decide ((c.toNat : Int) ≤ 90) = true) : ((lowb c).toNat : Int) = (c.toNat : Int) + 32 := by
  have : (decide (65 ≤ c.toNat) && decide (c.toNat ≤ 90)) = true := by simp at *; omega
  unfold lowb; rw [this, cond_true]
  have : c.toNat ≤ 90 := by simp at h2; omega
  rw [UInt8.toNat_add]; simp; omega

set_option maxRecDepth 100000 in
set_option maxHeartbeats 2000000 in
theorem lower_wide (s : ByteArray) (w : World) (hs : s.size ≤ 140737488351232) :
    Calls Tryd.prog 75 #[.string s] w fun e w' => e = .returned (.string ⟨(lowerL s.data.toList).toArray⟩) ∧ Below w.heap.size w w' := by
  have hcv := run_bytes_of_string (P := Tryd.prog) w 9 73 5 s Tryd.underlying9 Tryd.underlying73 Tryd.underlying5
  have hfr := RowAt.fresh s (grownCap w s.size 0 5) w
  have hbl : Below w.heap.size w (w.alloc (.cells (bytesRow s (grownCap w s.size 0 5)) 5 ((bytesRow s (grownCap w s.size 0 5)).size, (bytesRow s (grownCap w s.size 0 5)).size + 1))) := (Below.refl _ w).alloc (Nat.le_refl _) _
  generalize grownCap w s.size 0 5 = cap at *
  generalize Obj.cells (bytesRow s cap) 5 ((bytesRow s cap).size, (bytesRow s cap).size + 1) = row at *
  have HF := Lib.hid hfr; have HL := Lib.hid hbl; clear hfr hbl
  go_enter Tryd.func75, Tryd.ntmps75
  go_wp2
  clear hcv
  go_loopw [9] (fun i wr => ∃ k : Nat, k ≤ s.size ∧ i = .int .i64 k ∧ RowAt w.heap.size (lowTo s k) wr ∧ Below w.heap.size w wr) (fun i _ => s.size - (intOf i).toNat)
  case atStart => exact ⟨0, Nat.zero_le _, rfl, by rw [lowTo_zero]; exact HF.out.drew, HL.out.drew⟩
  case round =>
    obtain ⟨k, hk, rfl, hR, hbw⟩ := hrel
    have HR := Lib.hid hR; clear hR
    by_cases hlt : k < s.size
    · have hc := HR.out.at hlt
      have hz := HR.out.free k (by rw [lowTo_size]; exact hlt)
      have hu := u8_lt s[k]
      cases c1 : decide (65 ≤ (s[k].toNat : Int)) <;> cases c2 : decide ((s[k].toNat : Int) ≤ 90)
      · exfalso; simp at c1 c2; omega
      · have hl := lowb_no s[k] (by rw [c1, c2]; rfl)
        have Hl := Lib.hid hl; clear hl
        go_wp2
        go_roundw
        case rel => exact ⟨k + 1, by omega, by go_num, HR.out.same hlt Hl.out, hbw⟩
        case measure => simp [intOf]; omega
      · have hl := lowb_no s[k] (by rw [c1, c2]; rfl)
        have Hl := Lib.hid hl; clear hl
        go_wp2
        go_roundw
        case rel => exact ⟨k + 1, by omega, by go_num, HR.out.same hlt Hl.out, hbw⟩
        case measure => simp [intOf]; omega
      · have hl := lowb_yes s[k] c1 c2
        have Hl := Lib.hid hl; clear hl
        have hu2 : (s[k].toNat : Int) ≤ 90 := by simp at c2; omega
        go_wp2
        go_roundw
        case rel => exact ⟨k + 1, by omega, by go_num, HR.out.put hlt Hl.out, hbw.setCell (Nat.le_refl _) _⟩
        case measure => simp [intOf]; omega
    · have hke : k = s.size := by omega
      have hb := Lib.run_convert_whole (P := Tryd.prog) wr 73 5 9 Tryd.underlying73 Tryd.underlying5 Tryd.underlying9 w.heap.size 0 (lowTo s k) HR.out.cells cap
      rw [lowTo_size] at hb
      have hfin : lowTo s k = ⟨(lowerL s.data.toList).toArray⟩ := by rw [hke, lowTo_end]
      have Hf := Lib.hid hfin; clear hfin
      generalize lowTo s k = t at *
      have Hke := Lib.hid hke; clear hke
      go_wp2
      go_ret
      exact ⟨by rw [← Hf.out]; rfl, hbw⟩
theorem lower_any (s : ByteArray) (w : World) (hs : s.size ≤ 1000000) :
    Calls Tryd.prog 75 #[.string s] w fun e w' => e = .returned (.string ⟨(lowerL s.data.toList).toArray⟩) ∧ Below w.heap.size w w' := lower_wide s w (by omega)
end Go.Proofs.YtokhlmoanlcjmaaDoor
/- The walk of text.Trim. -/
namespace Go.Proofs.YtokhlmoanlcjmaaDoor
open Go.RowKit

def blanks : List UInt8 := [32, 9]
def trimL (l : List UInt8) : List UInt8 := Lib.trimS l blanks
theorem trimL_le (l : List UInt8) : (trimL l).length ≤ l.length := by
  have h1 : ∀ m : List UInt8, (Lib.trimLeftS m blanks).length ≤ m.length := fun m => (List.dropWhile_sublist _).length_le
  have h2 : ∀ m : List UInt8, (Lib.trimRightS m blanks).length ≤ m.length := fun m => by
    unfold Lib.trimRightS; rw [List.length_reverse]
    exact Nat.le_trans (List.dropWhile_sublist _).length_le (by rw [List.length_reverse]; exact Nat.le_refl _)
  exact Nat.le_trans (h1 _) (h2 _)

set_option maxHeartbeats 1000000 in
theorem trim_wide (s : ByteArray) (w : World) (hs : s.size ≤ 2000000) :
    Calls Tryd.prog 64 #[.string s] w fun e w' => e = .returned (.string ⟨(trimL s.data.toList).toArray⟩) ∧ Below w.heap.size w w' := by
  have hcon := Any.strings_Trim_laid Tryd.lays160 (by kernel_rfl) s ⟨#[32, 9]⟩ w (by omega) (by decide) (ascii_of_all (by decide))
  have HC := Lib.hid hcon; clear hcon
  go_enter Tryd.func64, Tryd.ntmps64
  go_wp2_with (go_at_call 70; refine HC.out.mono ?_; rintro e w' ⟨rfl, hb⟩)
  go_ret
  exact ⟨rfl, hb⟩
theorem trim_any (s : ByteArray) (w : World) (hs : s.size ≤ 1000000) :
    Calls Tryd.prog 64 #[.string s] w fun e w' => e = .returned (.string ⟨(trimL s.data.toList).toArray⟩) ∧ Below w.heap.size w w' := trim_wide s w (by omega)
end Go.Proofs.YtokhlmoanlcjmaaDoor
/- What text.Split computes, and the document's way: plain functions on lists of bytes. -/
namespace Go.Proofs.YtokhlmoanlcjmaaDoor

def addP (ls : List (List UInt8)) (p : List UInt8) : List (List UInt8) := bif p.isEmpty then ls else ls ++ [p]
theorem addP_le (ls : List (List UInt8)) (p : List UInt8) : (addP ls p).length ≤ ls.length + 1 := by
  unfold addP; cases p.isEmpty <;> simp
def splP (sep : UInt8) : Bool → Bool → List UInt8 → List (List UInt8) → List UInt8 → Option (List (List UInt8))
  | o, _, cur, ls, [] => bif o then none else some (addP ls (trimL cur))
  | o, b, cur, ls, c :: r =>
    bif b then splP sep o false (cur ++ [c]) ls r
    else bif o && c.toNat == 92 then splP sep o true (cur ++ [c]) ls r
    else bif c.toNat == 34 then splP sep (!o) false (cur ++ [c]) ls r
    else bif c.toNat == sep.toNat && !o then splP sep o false [] (addP ls (trimL cur)) r
    else splP sep o false (cur ++ [c]) ls r
/-- The pieces and the error's number. -/
def splitE (t : Option (List (List UInt8))) : List (List UInt8) × Int := match t with
  | none => ([], 4)
  | some ls => bif decide (64 < ls.length) then ([], 3) else (ls, 0)
def splitL (sep : UInt8) (l : List UInt8) : List (List UInt8) × Int :=
  bif sep.toNat == 34 || sep.toNat == 92 then ([], 2) else splitE (splP sep false false [] [] l)

/-- The document's way: which bytes stand in quotes; is one open at the end? -/
def fl : Bool → Bool → List UInt8 → List Bool
  | _, _, [] => []
  | o, b, c :: r => (o || c.toNat == 34) :: (bif b then fl o false r else bif o && c.toNat == 92 then fl o true r else bif c.toNat == 34 then fl (!o) false r else fl o false r)
def en : Bool → Bool → List UInt8 → Bool
  | o, _, [] => o
  | o, b, c :: r => bif b then en o false r else bif o && c.toNat == 92 then en o true r else bif c.toNat == 34 then en (!o) false r else en o false r
def spR (sep : UInt8) : List UInt8 → List (List UInt8) → List UInt8 → List Bool → List (List UInt8)
  | cur, ls, c :: r, f :: fs => bif (c.toNat != sep.toNat) || f then spR sep (cur ++ [c]) ls r fs else spR sep [] (addP ls (trimL cur)) r fs
  | cur, ls, _, _ => addP ls (trimL cur)
theorem fl_length : ∀ (l : List UInt8) (o b : Bool), (fl o b l).length = l.length
  | [], _, _ => rfl
  | c :: r, o, b => by
    simp only [fl, List.length_cons]
    congr 1
    cases b <;> cases (o && c.toNat == 92) <;> cases (c.toNat == 34) <;> simp [fl_length r]
theorem spl_eq (sep : UInt8) (hs : (sep.toNat == 34) = false) : ∀ (l : List UInt8) (o b : Bool) (cur : List UInt8) (ls : List (List UInt8)), (b = true → o = true) →
    splP sep o b cur ls l = bif en o b l then none else some (spR sep cur ls l (fl o b l))
  | [], o, b, cur, ls, _ => by simp [splP, en, spR]
  | c :: r, o, b, cur, ls, h => by
    have hne : (c.toNat == 34) = true → (c.toNat != sep.toNat) = true := by
      intro e; simp at e hs ⊢; omega
    have i1 := spl_eq sep hs r
    cases b
    · cases o
      · cases h34 : (c.toNat == 34)
        · cases hc : (c.toNat == sep.toNat)
          · have : (c.toNat != sep.toNat) = true := by simp [bne, hc]
            simp [splP, en, spR, fl, h34, hc, this, i1]
          · have : (c.toNat != sep.toNat) = false := by simp [bne, hc]
            simp [splP, en, spR, fl, h34, hc, this, i1]
        · simp [splP, en, spR, fl, h34, i1]
      · cases h92 : (c.toNat == 92)
        · cases h34 : (c.toNat == 34)
          · simp [splP, en, spR, fl, h34, h92, i1]
          · simp [splP, en, spR, fl, h34, h92, i1]
        · simp [splP, en, spR, fl, h92, i1]
    · have ho := h rfl
      subst ho
      simp [splP, en, spR, fl, i1]
theorem spl_count (sep : UInt8) : ∀ (l : List UInt8) (o b : Bool) (cur : List UInt8) (ls ps : List (List UInt8)), splP sep o b cur ls l = some ps → ps.length ≤ ls.length + l.length + 1
  | [], o, b, cur, ls, ps, h => by
    cases o
    · simp [splP] at h; subst h; have := addP_le ls (trimL cur); simp; omega
    · simp [splP] at h
  | c :: r, o, b, cur, ls, ps, h => by
    have ih := spl_count sep r
    have ha := addP_le ls (trimL cur)
    rw [splP] at h
    rw [List.length_cons]
    cases b
    · simp only [cond_false] at h
      cases hx : (o && c.toNat == 92) <;> rw [hx] at h <;> simp only [cond_true, cond_false] at h
      · cases h34 : (c.toNat == 34) <;> rw [h34] at h <;> simp only [cond_true, cond_false] at h
        · cases hy : (c.toNat == sep.toNat && !o) <;> rw [hy] at h <;> simp only [cond_true, cond_false] at h
          · have := ih _ _ _ _ _ h; omega
          · have := ih _ _ _ _ _ h; omega
        · have := ih _ _ _ _ _ h; omega
      · have := ih _ _ _ _ _ h; omega
    · simp only [cond_true] at h
      have := ih _ _ _ _ _ h; omega
end Go.Proofs.YtokhlmoanlcjmaaDoor
/- What TextStays and TextKnown want of the plain functions. -/
namespace Go.Proofs.YtokhlmoanlcjmaaDoor

theorem lowb_twice (c : UInt8) : lowb (lowb c) = lowb c := by
  by_cases h : (decide (65 ≤ c.toNat) && decide (c.toNat ≤ 90)) = true
  · have h1 : lowb c = c + 32 := by unfold lowb; rw [h]; rfl
    have h2 : (c + 32).toNat = c.toNat + 32 := by
      simp at h; rw [UInt8.toNat_add]; simp; omega
    have h3 : (decide (65 ≤ (c + 32).toNat) && decide ((c + 32).toNat ≤ 90)) = false := by simp at h ⊢; omega
    rw [h1]; unfold lowb; rw [h3]; rfl
  · have h' : (decide (65 ≤ c.toNat) && decide (c.toNat ≤ 90)) = false := by simpa using h
    have h1 : lowb c = c := by unfold lowb; rw [h']; rfl
    rw [h1, h1]
theorem lower_twice (l : List UInt8) : lowerL (lowerL l) = lowerL l := by
  unfold lowerL; rw [List.map_map]; apply List.map_congr_left; intro c _; exact lowb_twice c
theorem lower_length (l : List UInt8) : (lowerL l).length = l.length := by unfold lowerL; simp

theorem dw_idem (p : UInt8 → Bool) : ∀ l : List UInt8, (l.dropWhile p).dropWhile p = l.dropWhile p
  | [] => rfl
  | c :: r => by
    cases h : p c
    · rw [List.dropWhile_cons_of_neg (by simp [h]), List.dropWhile_cons_of_neg (by simp [h])]
    · rw [List.dropWhile_cons_of_pos h]; exact dw_idem p r
theorem dw_suffix (p : UInt8 → Bool) (l : List UInt8) : ∃ a, l = a ++ l.dropWhile p := ⟨l.takeWhile p, (List.takeWhile_append_dropWhile).symm⟩
theorem dw_none (p : UInt8 → Bool) (l : List UInt8) (h : ∀ c ∈ l, p c = false) : l.dropWhile p = l := by
  cases l with
  | nil => rfl
  | cons c r => rw [List.dropWhile_cons_of_neg (by simp [h c (by simp)])]
theorem trim_twice (l : List UInt8) : trimL (trimL l) = trimL l := by
  unfold trimL Lib.trimS Lib.trimLeftS Lib.trimRightS
  generalize (fun x => blanks.contains x) = p
  obtain ⟨a, ha⟩ := dw_suffix p (l.reverse.dropWhile p).reverse
  have hr : (l.reverse.dropWhile p).dropWhile p = l.reverse.dropWhile p := dw_idem _ _
  generalize l.reverse.dropWhile p = r at *
  have ht := dw_idem p r.reverse
  generalize r.reverse.dropWhile p = t at *
  have h1 : t.reverse.dropWhile p = t.reverse := by
    have h2 : r = t.reverse ++ a.reverse := by rw [← List.reverse_reverse r, ha]; simp
    cases h3 : t.reverse with
    | nil => rfl
    | cons x y =>
      rw [h3] at h2
      rw [h2] at hr
      cases hx : p x
      · rw [List.dropWhile_cons_of_neg (by simp [hx])]
      · exfalso
        rw [List.cons_append, List.dropWhile_cons_of_pos hx] at hr
        have := congrArg List.length hr
        have h4 : ((y ++ a.reverse).dropWhile p).length ≤ (y ++ a.reverse).length := (List.dropWhile_sublist p).length_le
        rw [List.length_cons] at this
        omega
  rw [h1, List.reverse_reverse, ht]
theorem trim_infix (l : List UInt8) : ∃ a b, l = a ++ (trimL l ++ b) := by
  unfold trimL Lib.trimS Lib.trimLeftS Lib.trimRightS
  generalize (fun x => blanks.contains x) = p
  obtain ⟨b, hb⟩ := dw_suffix p l.reverse
  obtain ⟨a, ha⟩ := dw_suffix p (l.reverse.dropWhile p).reverse
  refine ⟨a, b.reverse, ?_⟩
  rw [← List.append_assoc, ← ha, ← List.reverse_append, ← hb, List.reverse_reverse]
theorem contains_of (l t a b : List UInt8) (h : l = a ++ (t ++ b)) : Lib.contains l t = true := by
  unfold Lib.contains
  rcases Lib.index_spec l t with ⟨_, h2⟩ | ⟨i, h1, _⟩
  · exfalso
    have := h2 a.length (by rw [h]; simp)
    unfold Lib.occAt at this
    rw [h, List.drop_left] at this
    have h3 : t.isPrefixOf (t ++ b) = true := by rw [List.isPrefixOf_iff_prefix]; exact List.prefix_append _ _
    rw [h3] at this; cases this
  · rw [h1]; simp
theorem contains_trim (l : List UInt8) : Lib.contains l (trimL l) = true := by
  obtain ⟨a, b, h⟩ := trim_infix l
  exact contains_of _ _ _ _ h

theorem word_not {c : UInt8} (h : wordb c = true) : blanks.contains c = false ∧ (c.toNat == 34) = false ∧ (c.toNat == 92) = false := by
  have h0 : ∀ d : UInt8, wordb d = true → (blanks.contains d = false ∧ (d.toNat == 34) = false ∧ (d.toNat == 92) = false) := by
    intro d hd
    refine ⟨?_, ?_, ?_⟩
    · cases hb : blanks.contains d
      · rfl
      · have : d = 32 ∨ d = 9 := by simpa [blanks] using hb
        rcases this with e | e <;> subst e <;> exact absurd hd (by decide)
    · cases hb : (d.toNat == 34)
      · rfl
      · have : d = 34 := by rw [← UInt8.toNat_inj]; simpa using hb
        subst this; exact absurd hd (by decide)
    · cases hb : (d.toNat == 92)
      · rfl
      · have : d = 92 := by rw [← UInt8.toNat_inj]; simpa using hb
        subst this; exact absurd hd (by decide)
  exact h0 c h
theorem token_all {l : List UInt8} (h : tokenL l = true) : (∀ c ∈ l, wordb c = true) ∧ l.isEmpty = false := by
  unfold tokenL at h
  rw [Bool.and_eq_true] at h
  refine ⟨fun c hc => List.all_eq_true.1 h.1 c hc, ?_⟩
  cases hl : l.isEmpty
  · rfl
  · rw [hl] at h; exact absurd h.2 (by decide)
theorem trim_word (l : List UInt8) (h : ∀ c ∈ l, wordb c = true) : trimL l = l := by
  unfold trimL Lib.trimS Lib.trimLeftS Lib.trimRightS
  have h1 : l.reverse.dropWhile (fun x => blanks.contains x) = l.reverse := dw_none _ _ (fun c hc => (word_not (h c (by simpa using hc))).1)
  rw [h1, List.reverse_reverse]
  exact dw_none _ _ (fun c hc => (word_not (h c hc)).1)
theorem trim_token {l : List UInt8} (h : tokenL l = true) : trimL l = l := trim_word l (token_all h).1
theorem unqP_token {l : List UInt8} (h : tokenL l = true) : unqP l = none := by
  cases l with
  | nil => rfl
  | cons c r =>
    have hc := word_not ((token_all h).1 c (by simp))
    have : ((c :: r).head?.getD 0).toNat = c.toNat := rfl
    unfold unqP
    rw [this, hc.2.1]; simp
theorem spl_word (sep : UInt8) : ∀ (l cur : List UInt8), (∀ c ∈ l, wordb c = true) → (∀ c ∈ l, (c.toNat == sep.toNat) = false) → splP sep false false cur [] l = some (addP [] (trimL (cur ++ l)))
  | [], cur, _, _ => by simp [splP]
  | c :: r, cur, h1, h2 => by
    have hc := word_not (h1 c (by simp))
    have hs := h2 c (by simp)
    rw [splP, hc.2.1, hs]
    simp only [cond_false, Bool.false_and]
    rw [spl_word sep r (cur ++ [c]) (fun x hx => h1 x (by simp [hx])) (fun x hx => h2 x (by simp [hx]))]
    simp
theorem split_token {l : List UInt8} {sep : UInt8} (h : tokenL l = true) (hs : ∀ c ∈ l, (c.toNat == sep.toNat) = false) (h1 : (sep.toNat == 34) = false) (h2 : (sep.toNat == 92) = false) : splitL sep l = ([l], 0) := by
  have ht := token_all h
  unfold splitL
  rw [h1, h2, spl_word sep l [] ht.1 hs, List.nil_append, trim_token h]
  unfold addP; rw [ht.2]; rfl

/-- What 'pieces' hands back. -/
def piecesL (sep : UInt8) (l : List UInt8) : List UInt8 :=
  bif (splitL sep l).2 == 0 then Lib.join (splitL sep l).1 [124] else [101, 114, 114, 111, 114, 32, 48 + UInt8.ofNat (splitL sep l).2.toNat]
theorem pieces_token {l : List UInt8} {sep : UInt8} (h : tokenL l = true) (hs : ∀ c ∈ l, (c.toNat == sep.toNat) = false) (h1 : (sep.toNat == 34) = false) (h2 : (sep.toNat == 92) = false) : piecesL sep l = l := by
  unfold piecesL; rw [split_token h hs h1 h2]; exact Lib.join_one _ _
theorem split_err (sep : UInt8) (l : List UInt8) : 0 ≤ (splitL sep l).2 ∧ (splitL sep l).2 ≤ 4 := by
  unfold splitL
  cases (sep.toNat == 34 || sep.toNat == 92)
  · cases splP sep false false [] [] l with
    | none => simp [splitE]
    | some ls =>
      simp only [splitE, cond_false]
      cases h : decide (64 < ls.length) <;> simp
  · simp
/-- The pieces together are no longer than the text. -/
def total (ls : List (List UInt8)) : Nat := (ls.map List.length).sum
theorem total_addP (ls : List (List UInt8)) (p : List UInt8) : total (addP ls p) = total ls + p.length := by
  unfold addP total
  cases h : p.isEmpty
  · simp
  · simp at h; simp [h]
theorem spl_total (sep : UInt8) : ∀ (l : List UInt8) (o b : Bool) (cur : List UInt8) (ls ps : List (List UInt8)), splP sep o b cur ls l = some ps → total ps ≤ total ls + cur.length + l.length
  | [], o, b, cur, ls, ps, h => by
    cases o
    · simp [splP] at h; subst h; have := trimL_le cur; rw [total_addP]; simp; omega
    · simp [splP] at h
  | c :: r, o, b, cur, ls, ps, h => by
    have ih := spl_total sep r
    have ha := total_addP ls (trimL cur)
    have hb := trimL_le cur
    rw [splP] at h
    rw [List.length_cons]
    cases b
    · simp only [cond_false] at h
      cases hx : (o && c.toNat == 92) <;> rw [hx] at h <;> simp only [cond_true, cond_false] at h
      · cases h34 : (c.toNat == 34) <;> rw [h34] at h <;> simp only [cond_true, cond_false] at h
        · cases hy : (c.toNat == sep.toNat && !o) <;> rw [hy] at h <;> simp only [cond_true, cond_false] at h
          · have := ih _ _ _ _ _ h; simp at this; omega
          · have := ih _ _ _ _ _ h; simp at this; omega
        · have := ih _ _ _ _ _ h; simp at this; omega
      · have := ih _ _ _ _ _ h; simp at this; omega
    · simp only [cond_true] at h
      have := ih _ _ _ _ _ h; simp at this; omega
theorem split_total (sep : UInt8) (l : List UInt8) : total (splitL sep l).1 ≤ l.length := by
  unfold splitL
  cases (sep.toNat == 34 || sep.toNat == 92)
  · cases h : splP sep false false [] [] l with
    | none => simp [splitE, total]
    | some ls =>
      have h1 := spl_total sep l _ _ _ _ _ h
      simp only [splitE, cond_false]
      cases h : decide (64 < ls.length)
      · simpa [total] using h1
      · simp [total]
  · simp [total]
theorem join_le (sep : List UInt8) : ∀ ls : List (List UInt8), (Lib.join ls sep).length ≤ total ls + ls.length * sep.length
  | [] => by simp [Lib.join_nil]
  | [x] => by rw [Lib.join_one]; simp [total]
  | x :: y :: r => by
    have ih := join_le sep (y :: r)
    rw [Lib.join_cons] at ih ⊢
    unfold total at *
    simp [Lib.joinTail, Nat.add_mul] at ih ⊢
    omega
theorem total_mem {ls : List (List UInt8)} {x : List UInt8} (h : x ∈ ls) : x.length ≤ total ls := by
  unfold total
  induction ls with
  | nil => cases h
  | cons y r ih =>
    rw [List.map_cons, List.sum_cons]
    rcases List.mem_cons.1 h with rfl | h
    · omega
    · have := ih h; omega
end Go.Proofs.YtokhlmoanlcjmaaDoor
/- What a name has in a request, by which names a reply varies: plain. -/
namespace Go.Proofs.YtokhlmoanlcjmaaDoor

def piecesOf (v : List UInt8) : List (List UInt8) := bif (splitL 44 v).2 == 0 then (splitL 44 v).1 else [trimL v]
def keepP (ps : List (List UInt8)) : List (List UInt8) := ps.filter fun p => !p.isEmpty
def allP (vs : List (List UInt8)) : List (List UInt8) := vs.flatMap fun v => keepP (piecesOf v)
def cs : List UInt8 := [44, 32]
/-- request.value. -/
def valueL (xs : List Fld) (name : List UInt8) : List UInt8 := Lib.join (allP (valuesL xs name)) cs

theorem splitL_le' (sep : UInt8) (l : List UInt8) : (splitL sep l).1.length ≤ 64 := by
  unfold splitL
  cases (sep.toNat == 34 || sep.toNat == 92)
  · cases splP sep false false [] [] l with
    | none => simp [splitE]
    | some ls =>
      simp only [splitE, cond_false]
      cases h : decide (64 < ls.length)
      · simp at h ⊢; exact h
      · simp
  · simp
theorem piecesOf_le (v : List UInt8) : (piecesOf v).length ≤ 64 := by
  unfold piecesOf
  cases ((splitL 44 v).2 == 0)
  · simp
  · exact splitL_le' 44 v
theorem keepP_le (ps : List (List UInt8)) : (keepP ps).length ≤ ps.length := List.length_filter_le _ _
theorem keepP_snoc (ps : List (List UInt8)) (p : List UInt8) : keepP (ps ++ [p]) = if p.isEmpty then keepP ps else keepP ps ++ [p] := by
  unfold keepP
  rw [List.filter_append]
  cases h : p.isEmpty <;> simp [h]
theorem allP_snoc (vs : List (List UInt8)) (v : List UInt8) : allP (vs ++ [v]) = allP vs ++ keepP (piecesOf v) := by
  unfold allP; simp [List.flatMap_append]
theorem allP_le (vs : List (List UInt8)) : (allP vs).length ≤ 64 * vs.length := by
  unfold allP
  induction vs with
  | nil => simp
  | cons v r ih =>
    have h1 := keepP_le (piecesOf v)
    have h2 := piecesOf_le v
    rw [List.flatMap_cons, List.length_append, List.length_cons]
    omega
theorem total_keepP (ps : List (List UInt8)) : total (keepP ps) ≤ total ps := by
  unfold keepP total
  induction ps with
  | nil => simp
  | cons p r ih =>
    rw [List.filter_cons]
    cases h : p.isEmpty
    · simp at ih ⊢; exact ih
    · simp at ih ⊢; omega
theorem total_app (a b : List (List UInt8)) : total (a ++ b) = total a + total b := by unfold total; simp
theorem total_pieces (v : List UInt8) : total (piecesOf v) ≤ v.length := by
  unfold piecesOf
  cases ((splitL 44 v).2 == 0)
  · have := trimL_le v; unfold total; simpa using this
  · exact split_total 44 v
theorem total_allP (vs : List (List UInt8)) : total (allP vs) ≤ total vs := by
  induction vs with
  | nil => simp [allP, total]
  | cons v r ih =>
    have h1 := total_keepP (piecesOf v)
    have h2 := total_pieces v
    have e1 : allP (v :: r) = keepP (piecesOf v) ++ allP r := rfl
    have e2 : total (v :: r) = v.length + total r := by unfold total; simp
    rw [e1, e2, total_app]; omega
theorem total_bound (M : Nat) : ∀ ls : List (List UInt8), (∀ x ∈ ls, x.length ≤ M) → total ls ≤ ls.length * M
  | [], _ => by simp [total]
  | x :: r, h => by
    have ih := total_bound M r (fun y hy => h y (by simp [hy]))
    have h1 := h x (by simp)
    have e2 : total (x :: r) = x.length + total r := by unfold total; simp
    rw [e2, List.length_cons, Nat.add_mul]; omega
theorem valuesL_mem {xs : List Fld} {name v : List UInt8} (h : v ∈ valuesL xs name) : ∃ f ∈ xs, f.2 = v := by
  unfold valuesL at h
  obtain ⟨f, hf, e⟩ := List.mem_map.1 h
  exact ⟨f, (List.mem_filter.1 hf).1, e⟩

/-- Joined, one more behind. -/
theorem join_snoc (sep p : List UInt8) : ∀ ls : List (List UInt8), Lib.join (ls ++ [p]) sep = if ls.isEmpty then p else Lib.join ls sep ++ (sep ++ p)
  | [] => Lib.join_one _ _
  | x :: r => by
    rw [List.cons_append, Lib.join_cons, Lib.join_cons]
    simp [Lib.joinTail, List.append_assoc]
theorem keepP_ne (ps : List (List UInt8)) : ∀ p ∈ keepP ps, p ≠ [] := by
  intro p hp
  have := (List.mem_filter.1 hp).2
  simpa using this
theorem allP_ne (vs : List (List UInt8)) : ∀ p ∈ allP vs, p ≠ [] := by
  intro p hp
  obtain ⟨v, _, h⟩ := List.mem_flatMap.1 hp
  exact keepP_ne _ p h
theorem join_empty (sep : List UInt8) (ls : List (List UInt8)) (h : ∀ p ∈ ls, p ≠ []) : (Lib.join ls sep).isEmpty = ls.isEmpty := by
  cases ls with
  | nil => rfl
  | cons x r =>
    have hx := h x (by simp)
    rw [Lib.join_cons]
    cases x with
    | nil => exact absurd rfl hx
    | cons c t => rfl
end Go.Proofs.YtokhlmoanlcjmaaDoor
/- The walk of text.Same. -/
namespace Go.Proofs.YtokhlmoanlcjmaaDoor
open Go.RowKit

set_option maxHeartbeats 1000000 in
theorem tsame_wide (a b : ByteArray) (w : World) (ha : a.size ≤ 140737488351232) (hb : b.size ≤ 140737488351232) :
    Calls Tryd.prog 68 #[.string a, .string b] w fun e w' => e = .returned (.bool (lowerL a.data.toList == lowerL b.data.toList)) ∧ Below w.heap.size w w' := by
  have hB := Below.refl w.heap.size w
  have k1 := fun w => lower_wide a w ha
  have k2 := fun w => lower_wide b w hb
  have t1 : ((⟨(lowerL a.data.toList).toArray⟩ : ByteArray).toList == (⟨(lowerL b.data.toList).toArray⟩ : ByteArray).toList) = (lowerL a.data.toList == lowerL b.data.toList) := by rw [Lib.toList_data, Lib.toList_data]
  generalize lowerL a.data.toList = x at *
  generalize lowerL b.data.toList = y at *
  have K1 := Lib.hid k1; have K2 := Lib.hid k2; have T1 := Lib.hid t1; clear k1 k2 t1
  go_enter Tryd.func68, Tryd.ntmps68
  go_wp2_with fail
  refine (K1.out _).mono ?_
  rintro e w1 ⟨rfl, hb1⟩
  go_wp2_with fail
  refine (K2.out _).mono ?_
  rintro e w2 ⟨rfl, hb2⟩
  go_wp2
  go_ret
  exact ⟨by rw [← T1.out]; rfl, bt hb1 hb2⟩
theorem tsame_any (a b : ByteArray) (w : World) (ha : a.size ≤ 1000000) (hb : b.size ≤ 1000000) :
    Calls Tryd.prog 68 #[.string a, .string b] w fun e w' => e = .returned (.bool (lowerL a.data.toList == lowerL b.data.toList)) ∧ Below w.heap.size w w' := tsame_wide a b w (by omega) (by omega)
end Go.Proofs.YtokhlmoanlcjmaaDoor
/- The walk of fields.Values. -/
namespace Go.Proofs.YtokhlmoanlcjmaaDoor
open Go.RowKit

set_option maxRecDepth 100000 in
set_option maxHeartbeats 2000000 in
theorem values_wide (A : Option Addr) (n c : Nat) (xs : List Fld) (name : ByteArray) (w : World) (hr : Rd A n 2 (fldsV xs) w) (hn : n ≤ 1000000) (hs : ∀ f ∈ xs, f.1.length ≤ 2000000) (hname : name.size ≤ 2000000) :
    Calls Tryd.prog 62 #[.slice A n c, .string name] w (TextsPost w (valuesL xs name.data.toList)) := by
  have hB := Below.refl w.heap.size w
  obtain rfl := hr.fld
  have HR := Lib.hid hr; have HS := Lib.hid hs; clear hr hs
  go_enter Tryd.func62, Tryd.ntmps62
  go_wp2
  go_loopw [9, 4] (fun i out wr => ∃ k : Nat, k ≤ xs.length ∧ i = .int .i64 k ∧ Hid (OwnS w.heap.size out (valuesL (xs.take k) name.data.toList) wr) ∧ Below w.heap.size w wr) (fun i _ _ => xs.length - (intOf i).toNat)
  case atStart => exact ⟨0, Nat.zero_le _, rfl, Lib.hid (OwnS.nil _ _), hB⟩
  case round =>
    clear hB
    obtain ⟨k, hk, rfl, HO, hbw⟩ := hrel
    by_cases hlt : k < xs.length
    · obtain ⟨b, o, rfl, hl, c1, c2⟩ := (HR.out.below hbw).fld_at (k := k) (by omega)
      have hf1 := HS.out xs[k] (List.getElem_mem _)
      have hsn := valuesL_snoc (xs.take k) xs[k] name.data.toList
      rw [← take_snocL xs k (by omega)] at hsn
      have k1 := fun w => tsame_wide ⟨(xs[k]).1.toArray⟩ name w (by rw [Lib.size_eq]; exact Nat.le_trans hf1 (by decide)) (Nat.le_trans hname (by decide))
      have hvl := valuesL_le (xs.take k) name.data.toList
      rw [List.length_take] at hvl
      generalize xs[k] = f at *
      obtain ⟨f1, f2⟩ := f
      simp only at c1 c2 k1 hsn
      have Hsn := Lib.hid hsn; have K1 := Lib.hid k1; clear hsn k1 hf1
      cases hq : (lowerL f1 == lowerL name.data.toList)
      · have hnx := Hsn.out
        rw [hq, if_neg (by decide)] at hnx
        have HN : Hid (OwnS w.heap.size u4 (valuesL (xs.take (k + 1)) name.data.toList) wr) := by rw [hnx]; exact HO
        have Hq := Lib.hid hq; clear hnx hq Hsn
        go_wp2_with (go_at_call 68; refine (K1.out _).mono ?_; rintro e w1 ⟨rfl, hb1⟩; rw [Hq.out])
        have hb2 : Below w.heap.size w w1 := (hbw.alloc hbw.size _).trans (hb1.mono (by have := hbw.size; simp; omega))
        go_roundw
        case rel => exact ⟨k + 1, by omega, by go_num, Lib.hid ((HN.out.below ((Below.refl _ wr).alloc (Nat.le_refl _) _)).below hb1), hb2⟩
        case measure => simp [intOf]; omega
      · have hnx := Hsn.out
        rw [hq, if_pos rfl] at hnx
        have Hnx := Lib.hid hnx
        have Hq := Lib.hid hq; clear hnx hq Hsn
        go_wp2_with fail
        refine (K1.out _).mono ?_
        rintro e w1 ⟨rfl, hb1⟩
        rw [Hq.out]
        have d2 := hb1.cell (p := ⟨wr.heap.size, 1, none⟩) (by simp)
        simp [go_sem] at d2
        have hb2 : Below w.heap.size w w1 := (hbw.alloc hbw.size _).trans (hb1.mono (by have := hbw.size; simp; omega))
        have hO1 := (HO.out.below ((Below.refl _ wr).alloc (Nat.le_refl _) _)).below hb1
        have HO1 := Lib.hid hO1; clear hO1 HO
        go_wp2_with (at_builtin; refine app_str w.heap.size f2 HO1.out hb2.size (by omega) rfl _ _ rfl rfl rfl ?_)
        intro v' w2 hO2 hb3 _
        have hb4 := hb2.trans hb3
        have HO2 : Hid (OwnS w.heap.size v' (valuesL (xs.take (k + 1)) name.data.toList) w2) := by rw [Hnx.out]; exact Lib.hid hO2
        clear hO2 hb3 hb2 hb1 d2
        go_wp2
        go_roundw
        case rel => exact ⟨k + 1, by omega, by go_num, HO2, hb4⟩
        case measure => simp [intOf]; omega
    · have hke : k = xs.length := by omega
      subst hke
      have ho := HO.out
      rw [List.take_length] at ho
      obtain ⟨a, cap, rfl⟩ := ho.shape
      have HO1 := Lib.hid ho; clear ho HO
      go_wp2
      go_ret
      exact ⟨a, cap, rfl, HO1.out, hbw⟩
theorem values_any (A : Option Addr) (n c : Nat) (xs : List Fld) (name : ByteArray) (w : World) (hr : Rd A n 2 (fldsV xs) w) (hn : n ≤ 1000000) (hs : ∀ f ∈ xs, f.1.length ≤ 1000000) (hname : name.size ≤ 1000000) :
    Calls Tryd.prog 62 #[.slice A n c, .string name] w (TextsPost w (valuesL xs name.data.toList)) := values_wide A n c xs name w hr hn (fun f hf => Nat.le_trans (hs f hf) (by decide)) (by omega)
end Go.Proofs.YtokhlmoanlcjmaaDoor
/- The walk of text.Split: its closure first. -/
namespace Go.Proofs.YtokhlmoanlcjmaaDoor
open Go.RowKit

/-- What the closure stands on: the text, where the piece began, and the pieces so far. -/
structure TakeSt (B : Nat) (s : ByteArray) (f : Nat) (ls : List (List UInt8)) (w : World) : Prop where
  text : w.heap[B]? = some (.cells #[.string s] 9 (0, 0))
  list : ∃ v, w.heap[B + 1]? = some (.cells #[v] 47 (0, 0)) ∧ OwnS (B + 3) v ls w
  start : w.heap[B + 2]? = some (.cells #[.int .i64 f] 3 (0, 0))

def pieceOf (s : ByteArray) (f t : Nat) : List UInt8 := trimL ((s.data.toList.drop f).take (t - f))

set_option maxRecDepth 100000 in
set_option maxHeartbeats 2000000 in
theorem take_any (B : Nat) (s : ByteArray) (f t : Nat) (ls : List (List UInt8)) (w : World) (h : TakeSt B s f ls w) (hft : f ≤ t) (ht : t ≤ s.size) (hs : s.size ≤ 2000000) (hn : ls.length ≤ 2000001) :
    Calls Tryd.prog 69 #[.int .i64 t, .pointer (some ⟨B, 0, none⟩), .pointer (some ⟨B + 2, 0, none⟩), .pointer (some ⟨B + 1, 0, none⟩)] w
      fun e w' => e = .returned (.tuple #[]) ∧ TakeSt B s (t + 1) (addP ls (pieceOf s f t)) w' ∧ Below B w w' := by
  obtain ⟨h1, ⟨v, h2, hown⟩, h3⟩ := h
  obtain ⟨c1, z1, l1⟩ := of_heap h1 0
  obtain ⟨c2, z2, l2⟩ := of_heap h2 0
  obtain ⟨c3, z3, l3⟩ := of_heap h3 0
  simp at c1 c2 c3
  have hex : (s.extract f t).data.toList = (s.data.toList.drop f).take (t - f) := Lib.extract_data s f t
  have hexs : (s.extract f t).size ≤ 2000000 := by rw [ByteArray.size_extract]; omega
  have k1 := fun w => trim_wide (s.extract f t) w hexs
  rw [hex] at k1
  have hp : trimL ((s.data.toList.drop f).take (t - f)) = pieceOf s f t := rfl
  rw [hp] at k1
  have hpl : (pieceOf s f t).length ≤ 2000000 := by
    have h1 := trimL_le ((s.data.toList.drop f).take (t - f))
    rw [hp] at h1
    have h2 : ((s.data.toList.drop f).take (t - f)).length ≤ s.data.toList.length := by rw [List.length_take, List.length_drop]; omega
    rw [← Lib.size_eq] at h2; omega
  generalize pieceOf s f t = p at *
  have K1 := Lib.hid k1; have HO := Lib.hid hown; have H1 := Lib.hid h1; have H2 := Lib.hid h2; have H3 := Lib.hid h3
  clear k1 hown h1 h2 h3 hex hp
  obtain ⟨i0, hi, hz0, hz1, hz2⟩ := info_parts uStr
  cases he : p.isEmpty
  · have hadd : addP ls p = ls ++ [p] := by unfold addP; rw [he]; rfl
    have HA := Lib.hid hadd; clear hadd
    go_enter Tryd.func69, Tryd.ntmps69
    go_wp2_with (first | (go_at_call 64; refine (K1.out _).mono ?_; rintro e w1 ⟨rfl, hb1⟩; have d2 := (hb1.cell (p := ⟨B + 1, 0, none⟩) l2).trans c2; have d3 := (hb1.cell (p := ⟨B + 2, 0, none⟩) l3).trans c3; have y2 := (hb1.frozen (p := ⟨B + 1, 0, none⟩) l2).trans z2; have y3 := (hb1.frozen (p := ⟨B + 2, 0, none⟩) l3).trans z3; have HO1 := Lib.hid (own_below HO.out hb1)) | (at_builtin; refine wpList_append_own _ rfl _ _ 47 rfl (B + 3) 9 i0 (.string ByteArray.empty) 1 16 Tryd.underlying47 hi hz0 hz1 hz2 rfl (by decide) _ _ _ rfl (HO1.out.alloc _) ⟨w1.heap.size, 0, none⟩ 1 1 [.string ⟨p.toArray⟩] rfl rfl ?c1 ?c2 ?c3 ?c4 ?c5 ?_))
    case c1 =>
      intro j u hj
      match j, hj with
      | 0, hj => simp at hj; subst hj; simp [Addr.add]
    case c2 => intro u hu; simp at hu; subst hu; rfl
    case c3 => unfold maxLen; omega
    case c4 => omega
    case c5 => have := hb1.size; simp; omega
    intro v' w2 hown' hgrow _
    have hkeep : ∀ b, b < B + 3 → b < w.heap.size → w2.heap[b]? = w.heap[b]? := by
      intro b hb3 hbw
      have h1 := hb1.size
      rw [hgrow.block b (by simp; omega) (fun e => by have := (HO1.out.lt b e.symm).1; omega), Below.heap_alloc _ _ _ (by omega), hb1.block b hbw]
    have q1 := (hkeep B (by omega) l1).trans H1.out
    have q2 := (hkeep (B + 1) (by omega) l2).trans H2.out
    have q3 := (hkeep (B + 2) (by omega) l3).trans H3.out
    obtain ⟨e2, f2, _⟩ := of_heap q2 0
    obtain ⟨e3, f3, _⟩ := of_heap q3 0
    simp at e2 e3
    obtain ⟨g, cap, rfl⟩ : ∃ g cap, v' = .slice (some ⟨g, 0, none⟩) (ls.length + 1) cap := by
      rcases hown'.2 with ⟨_, h0⟩ | ⟨g, cap, cur, hv, _⟩
      · omega
      · exact ⟨g, cap, hv⟩
    have hbelow : Below B w w2 := ((hb1.mono (by omega)).alloc (by have := hb1.size; omega) _).grown hgrow (by have := hb1.size; simp; omega) (fun k hk => by have := (HO1.out.lt k hk).1; omega)
    have HQ1 := Lib.hid q1; have HQ2 := Lib.hid q2; have HQ3 := Lib.hid q3; have HN := Lib.hid hown'; have HB := Lib.hid hbelow
    clear q1 q2 q3 hown' hkeep hgrow hbelow hb1 d2 d3 y2 y3 c1 c2 c3
    go_wp2
    go_end0
    refine ⟨rfl, ⟨?_, ⟨_, heap_set2 (by omega) HQ2.out, ?_⟩, ?_⟩, (HB.out.setCell (p := ⟨B + 1, 0, none⟩) (by show B ≤ B + 1; omega) _).setCell (p := ⟨B + 2, 0, none⟩) (by show B ≤ B + 2; omega) _⟩
    · rw [Below.heap_setCell _ _ _ _ (by show B ≠ B + 2; omega), Below.heap_setCell _ _ _ _ (by show B ≠ B + 1; omega)]; exact HQ1.out
    · rw [HA.out]
      refine ownsRow_setCell_below (ownsRow_setCell_below ?_ (by show B + 1 < B + 3; omega) _) (by show B + 2 < B + 3; omega) _
      rw [List.length_append, List.length_singleton, List.map_append]; exact HN.out
    · exact heap_set (by rw [Below.heap_setCell _ _ _ _ (by show B + 2 ≠ B + 1; omega)]; exact HQ3.out)
  · have hadd : addP ls p = ls := by unfold addP; rw [he]; rfl
    have HA := Lib.hid hadd; clear hadd
    go_enter Tryd.func69, Tryd.ntmps69
    go_wp2_with (go_at_call 64; refine (K1.out _).mono ?_; rintro e w1 ⟨rfl, hb1⟩; have d3 := (hb1.cell (p := ⟨B + 2, 0, none⟩) l3).trans c3; have y3 := (hb1.frozen (p := ⟨B + 2, 0, none⟩) l3).trans z3)
    go_end0
    refine ⟨rfl, ⟨?_, ⟨v, ?_, ?_⟩, ?_⟩, (hb1.mono (by omega)).setCell (p := ⟨B + 2, 0, none⟩) (by show B ≤ B + 2; omega) _⟩
    · rw [Below.heap_setCell _ _ _ _ (by show B ≠ B + 2; omega), hb1.block B l1]; exact H1.out
    · rw [Below.heap_setCell _ _ _ _ (by show B + 1 ≠ B + 2; omega), hb1.block (B + 1) l2]; exact H2.out
    · rw [HA.out]; exact ownsRow_setCell_below (own_below HO.out hb1) (by show B + 2 < B + 3; omega) _
    · exact heap_set (by rw [hb1.block (B + 2) l3]; exact H3.out)

def seg (s : ByteArray) (f k : Nat) : List UInt8 := (s.data.toList.drop f).take (k - f)
theorem seg_snoc (s : ByteArray) (f k : Nat) (hf : f ≤ k) (h : k < s.size) : seg s f (k + 1) = seg s f k ++ [s[k]] := by
  unfold seg
  rw [show k + 1 - f = (k - f) + 1 from by omega, List.take_succ_eq_append_getElem (by rw [List.length_drop, ← Lib.size_eq]; omega)]
  congr 2
  rw [List.getElem_drop, at_list s k h]; congr 1; omega
theorem seg_self (s : ByteArray) (k : Nat) : seg s k k = [] := by unfold seg; rw [Nat.sub_self]; rfl
/-- One step of the scan, by what the byte is. -/
theorem spl_step (sep : UInt8) (o b : Bool) (cur : List UInt8) (ls : List (List UInt8)) (c : UInt8) (r : List UInt8) (x92 x34 xs : Bool) (h1 : ((c.toNat : Int) == 92) = x92) (h2 : ((c.toNat : Int) == 34) = x34) (h3 : ((c.toNat : Int) == (sep.toNat : Int)) = xs) :
    splP sep o b cur ls (c :: r) = bif b then splP sep o false (cur ++ [c]) ls r
    else bif o && x92 then splP sep o true (cur ++ [c]) ls r
    else bif x34 then splP sep (!o) false (cur ++ [c]) ls r
    else bif xs && !o then splP sep o false [] (addP ls (trimL cur)) r
    else splP sep o false (cur ++ [c]) ls r := by
  have e1 := (beq_cast c.toNat 92).trans h1
  have e2 := (beq_cast c.toNat 34).trans h2
  have e3 := (beq_cast c.toNat sep.toNat).trans h3
  rw [splP, e1, e2, e3]

/-- What Split hands back. -/
def SplitPost (w : World) (r : List (List UInt8) × Int) (e : Ending) (w' : World) : Prop :=
  ∃ a cap, e = .returned (.tuple #[.slice a r.1.length cap, .int .i64 r.2]) ∧ OwnS w.heap.size (.slice a r.1.length cap) r.1 w' ∧ Below w.heap.size w w'
theorem SplitPost.none {w w' : World} {n : Int} (h : Below w.heap.size w w') : SplitPost w ([], n) (.returned (.tuple #[.slice none 0 0, .int .i64 n])) w' :=
  ⟨Option.none, 0, rfl, World.ownsRow_nil _ _ _ _, h⟩

set_option maxRecDepth 100000 in
set_option maxHeartbeats 4000000 in
theorem split_wide (s : ByteArray) (sep : UInt8) (w : World) (hs : s.size ≤ 2000000) :
    Calls Tryd.prog 63 #[.string s, .int .u8 sep.toNat] w (SplitPost w (splitL sep s.data.toList)) := by
  cases q1 : ((sep.toNat : Int) == 34)
  · cases q2 : ((sep.toNat : Int) == 92)
    · have hsp : splitL sep s.data.toList = splitE (splP sep false false [] [] s.data.toList) := by
        unfold splitL; rw [(beq_cast sep.toNat 34).trans q1, (beq_cast sep.toNat 92).trans q2]; rfl
      rw [hsp]; clear hsp
      obtain ⟨tot, htot⟩ : ∃ t, splP sep false false [] [] s.data.toList = t := ⟨_, rfl⟩
      rw [htot]
      have hcnt : ∀ ps, tot = some ps → ps.length ≤ 2000001 := by
        intro ps e
        have := spl_count sep s.data.toList false false [] [] ps (htot.trans e)
        rw [← Lib.size_eq] at this; simp at this; omega
      have HT := Lib.hid htot; have HC := Lib.hid hcnt; clear htot hcnt
      have hB3 : Below w.heap.size w (((w.alloc (.cells #[.string s] 9)).alloc (.cells #[.slice none 0 0] 47)).alloc (.cells #[.int .i64 0] 3)) := (((Below.refl _ w).alloc (Nat.le_refl _) _).alloc (by simp) _).alloc (by simp; omega) _
      have hst : TakeSt w.heap.size s 0 [] (((w.alloc (.cells #[.string s] 9)).alloc (.cells #[.slice none 0 0] 47)).alloc (.cells #[.int .i64 0] 3)) := by
        refine ⟨?_, ⟨.slice none 0 0, ?_, World.ownsRow_nil _ _ _ _⟩, ?_⟩
        · rw [Below.heap_alloc _ _ _ (by simp; omega), Below.heap_alloc _ _ _ (by simp)]; exact heap_new _ _ _ rfl
        · rw [Below.heap_alloc _ _ _ (by simp)]; exact heap_new _ _ _ (by simp)
        · exact heap_new _ _ _ (by simp)
      have HB3 := Lib.hid hB3; have HST := Lib.hid hst; clear hB3 hst
      go_enter Tryd.func63, Tryd.ntmps63
      go_wp2
      go_loopw [22, 8, 9] (fun i o b wr => ∃ (k : Nat) (oo bb : Bool) (f : Nat) (ls : List (List UInt8)), k ≤ s.size ∧ i = .int .i64 k ∧ o = .bool oo ∧ b = .bool bb ∧ f ≤ k ∧ (bb = true → oo = true) ∧ ls.length ≤ k ∧ TakeSt w.heap.size s f ls wr ∧ Below w.heap.size w wr ∧ Hid (splP sep oo bb (seg s f k) ls (s.data.toList.drop k) = tot)) (fun i _ _ _ => s.size - (intOf i).toNat)
      case atStart => exact ⟨0, false, false, 0, [], Nat.zero_le _, rfl, rfl, rfl, Nat.le_refl _, (fun h => absurd h (by decide)), by simp, HST.out, HB3.out, by show _ = _; rw [seg_self]; exact HT.out⟩
      case round =>
        clear HB3 HST
        obtain ⟨k, oo, bb, f, ls, hk, rfl, rfl, rfl, hfk, hbo, hls, hst, hbw, Htot⟩ := hrel
        obtain ⟨ct, _, lt⟩ := of_heap hst.text 0
        simp at ct
        have HST := Lib.hid hst; clear hst
        have Hbo := Lib.hid hbo; clear hbo
        by_cases hlt : k < s.size
        · have hd := drop_cons s k hlt
          have hsg := seg_snoc s f k hfk hlt
          cases x92 : ((s[k].toNat : Int) == 92) <;> cases x34 : ((s[k].toNat : Int) == 34) <;> cases xs : ((s[k].toNat : Int) == (sep.toNat : Int))
          all_goals
            have hstep := Htot.out
            rw [hd, spl_step sep oo bb _ ls s[k] _ _ _ _ x92 x34 xs, ← hsg] at hstep
          all_goals clear hd hsg
          all_goals try (exfalso; simp at x92 x34 xs q1 q2; omega; done)
          all_goals cases bb <;> cases oo
          all_goals try (exact absurd (Hbo.out rfl) (by decide))
          all_goals simp only [cond_true, cond_false, Bool.and_true, Bool.and_false, Bool.not_true, Bool.not_false] at hstep
          all_goals first
            | (with_reducible (have HN0 : splP sep _ _ (seg s f (k + 1)) ls (List.drop (k + 1) s.data.toList) = tot := hstep)
               have HN := Lib.hid HN0
               clear HN0 hstep
               go_wp2
               go_roundw
               case rel => exact ⟨k + 1, _, _, f, ls, by omega, by go_num, rfl, rfl, by omega, (fun h => by first | rfl | exact absurd h (by decide)), by omega, HST.out, hbw, HN⟩
               case measure => simp [intOf]; omega)
            | (have hp : trimL (seg s f k) = pieceOf s f k := rfl
               rw [hp, ← seg_self s (k + 1)] at hstep
               have HN := Lib.hid hstep
               clear hstep hp
               have hal := addP_le ls (pieceOf s f k)
               go_wp2_with (go_at_call 69; refine (take_any w.heap.size s f k ls _ HST.out hfk (by omega) hs (by omega)).mono ?_; rintro e w2 ⟨rfl, hst2, hb2⟩)
               have HST2 := Lib.hid hst2; clear hst2
               go_wp2
               go_roundw
               case rel => exact ⟨k + 1, _, _, k + 1, addP ls (pieceOf s f k), by omega, by go_num, rfl, rfl, by omega, (fun h => by first | rfl | exact absurd h (by decide)), by omega, HST2.out, hbw.trans hb2, HN⟩
               case measure => simp [intOf]; omega)
        · have hke : k = s.size := by omega
          subst hke
          have hend := Htot.out
          rw [drop_all s s.size (Nat.le_refl _)] at hend
          cases oo
          · have hp : trimL (seg s f s.size) = pieceOf s f s.size := rfl
            simp only [splP, cond_false, hp] at hend
            subst hend
            have hcn := HC.out _ rfl
            have Hcn := Lib.hid hcn; clear hcn
            clear HT Htot
            have hal := addP_le ls (pieceOf s f s.size)
            go_wp2_with fail
            refine (take_any w.heap.size s f s.size ls _ HST.out hfk (Nat.le_refl _) hs (by omega)).mono ?_
            rintro e w2 ⟨rfl, hst2, hb2⟩
            generalize addP ls (pieceOf s f s.size) = ps at *
            obtain ⟨h1, ⟨v, h2, hown⟩, h3⟩ := hst2
            obtain ⟨a, cap, rfl⟩ := hown.shape
            obtain ⟨c2, _, l2⟩ := of_heap h2 0
            simp at c2
            have hB := hbw.trans hb2
            have HO := Lib.hid hown
            clear hown h1 h2 h3 hb2
            cases hlen : decide (64 < ps.length)
            · have hse : splitE (some ps) = (ps, 0) := by unfold splitE; simp only [hlen, cond_false]
              have HSE := Lib.hid hse
              have t1 : decide ((64 : Int) < (ps.length : Int)) = false := by simp at hlen ⊢; omega
              clear hlen hse
              go_wp2
              go_ret2
              rw [HSE.out]
              exact ⟨a, cap, rfl, ⟨HO.out.1, by
                rcases HO.out.2 with h | ⟨g, cp, cur, hv, hg, r⟩
                · exact Or.inl h
                · exact Or.inr ⟨g, cp, cur, hv, by omega, r⟩⟩, hB⟩
            · have hse : splitE (some ps) = ([], 3) := by unfold splitE; simp only [hlen, cond_true]
              have HSE := Lib.hid hse
              have t1 : decide ((64 : Int) < (ps.length : Int)) = true := by simp at hlen ⊢; omega
              clear hlen hse
              go_wp2
              go_ret2
              rw [HSE.out]
              exact SplitPost.none hB
          · simp only [splP, cond_true] at hend
            subst hend
            clear HT Htot HC
            go_wp2
            go_ret2
            exact SplitPost.none hbw
    · have hsp : splitL sep s.data.toList = ([], 2) := by unfold splitL; rw [(beq_cast sep.toNat 34).trans q1, (beq_cast sep.toNat 92).trans q2]; rfl
      rw [hsp]; clear hsp
      go_enter Tryd.func63, Tryd.ntmps63
      go_wp2
      go_ret2
      exact SplitPost.none ((Below.refl _ w).alloc (Nat.le_refl _) _)
  · have hsp : splitL sep s.data.toList = ([], 2) := by unfold splitL; rw [(beq_cast sep.toNat 34).trans q1]; rfl
    rw [hsp]; clear hsp
    go_enter Tryd.func63, Tryd.ntmps63
    go_wp2
    go_ret2
    exact SplitPost.none ((Below.refl _ w).alloc (Nat.le_refl _) _)
theorem split_any (s : ByteArray) (sep : UInt8) (w : World) (hs : s.size ≤ 1000000) :
    Calls Tryd.prog 63 #[.string s, .int .u8 sep.toNat] w (SplitPost w (splitL sep s.data.toList)) := split_wide s sep w (by omega)
end Go.Proofs.YtokhlmoanlcjmaaDoor
/- strings.Join over a slice that the call made. -/
namespace Go.Proofs.YtokhlmoanlcjmaaDoor
open Go.RowKit

theorem join_any (B cap : Nat) (a : Option Addr) (ls : List (List UInt8)) (sep : ByteArray) (w : World) (h : OwnS B (.slice a ls.length cap) ls w) (h1 : ls.length ≤ 1000000) (h2 : total ls + ls.length * sep.size ≤ 100000000000) :
    Calls Tryd.prog 23 #[.slice a ls.length cap, .string sep] w fun e w' => e = .returned (.string ⟨(Lib.join ls sep.data.toList).toArray⟩) ∧ Below w.heap.size w w' := by
  obtain ⟨_, hcap, hg⟩ := h.room
  cases ls with
  | nil =>
    refine (Tryd.strings_Join_none a cap sep w).mono ?_
    rintro e w' ⟨rfl, rfl⟩
    exact ⟨rfl, Below.refl _ _⟩
  | cons x r =>
    obtain ⟨g, rfl, hgl⟩ := hg (by simp)
    have hmap : ((x :: r).map fun l => (⟨l.toArray⟩ : ByteArray)).map (·.data.toList) = x :: r := by
      rw [List.map_map]; have : ((fun b : ByteArray => b.data.toList) ∘ fun l : List UInt8 => (⟨l.toArray⟩ : ByteArray)) = id := by funext l; simp
      rw [this, List.map_id]
    have hj := join_le sep.data.toList (x :: r)
    rw [← Lib.size_eq] at hj
    have k := Tryd.strings_Join g 0 cap ((x :: r).map fun l => (⟨l.toArray⟩ : ByteArray)) sep w (by
      intro j y hy
      obtain ⟨hj1, hj2⟩ := List.getElem?_eq_some_iff.1 hy
      have hj3 : j < (x :: r).length := by simpa using hj1
      obtain ⟨g', e, hc, _⟩ := h.cell j hj3
      cases e
      rw [Nat.zero_add, hc, ← hj2, List.getElem_map]) hgl (by rw [List.length_map]; omega) (by rw [List.length_map]; omega) (by rw [hmap]; omega)
    rw [hmap, List.length_map] at k
    exact k
end Go.Proofs.YtokhlmoanlcjmaaDoor
/- The walk of request.value (vary). -/
namespace Go.Proofs.YtokhlmoanlcjmaaDoor
open Go.RowKit

theorem b64_trans {B : Nat} {w w1 w2 : World} (h : Below B w w1) (k : Below w1.heap.size w1 w2) (hs : B ≤ w1.heap.size) : Below B w w2 := h.trans (k.mono hs)

set_option maxRecDepth 100000 in
set_option maxHeartbeats 4000000 in
theorem vvalue_wide (A : Option Addr) (n c : Nat) (xs : List Fld) (name : ByteArray) (w : World) (hr : Rd A n 2 (fldsV xs) w) (hn : n ≤ 1000) (hs : ∀ f ∈ xs, f.1.length ≤ 2000000 ∧ f.2.length ≤ 2000000) (hname : name.size ≤ 2000000) :
    Calls Tryd.prog 54 #[.slice A n c, .string name] w fun e w' => e = .returned (.string ⟨(valueL xs name.data.toList).toArray⟩) ∧ Below w.heap.size w w' := by
  have k0 := values_wide A n c xs name w hr (by omega) (fun f hf => (hs f hf).1) hname
  have hvl := valuesL_le xs name.data.toList
  have hxn := hr.fld
  have hvb : ∀ v ∈ valuesL xs name.data.toList, v.length ≤ 2000000 := by
    intro v hv
    obtain ⟨f, hf, e⟩ := valuesL_mem hv
    rw [← e]; exact (hs f hf).2
  unfold valueL
  have hvn : (valuesL xs name.data.toList).length ≤ 1000 := by omega
  clear hvl hxn hr hs
  generalize valuesL xs name.data.toList = vs at *
  have K0 := Lib.hid k0; have HVB := Lib.hid hvb; clear k0 hvb
  go_enter Tryd.func54, Tryd.ntmps54
  go_wp2_with fail
  refine K0.out.mono ?_
  rintro e w1 ⟨va, vc, rfl, ho1, hb1⟩
  have HV := Lib.hid ho1.rd.2
  have hB1 := Below.refl w1.heap.size w1
  clear ho1
  go_wp2_with fail
  go_loopw [16, 5] (fun i l wr => ∃ k : Nat, k ≤ vs.length ∧ i = .int .i64 k ∧ Hid (OwnS w1.heap.size l (allP (vs.take k)) wr) ∧ Below w1.heap.size w1 wr) (fun i _ _ => vs.length - (intOf i).toNat)
  case atStart => exact ⟨0, Nat.zero_le _, rfl, Lib.hid (OwnS.nil _ _), hB1⟩
  case round =>
    clear hB1
    obtain ⟨k, hk, rfl, HO, hbw⟩ := hrel
    by_cases hlt : k < vs.length
    · obtain ⟨b, o, rfl, hl, c1⟩ := (HV.out.below hbw).str_at (k := k) hlt
      have hv := HVB.out vs[k] (List.getElem_mem _)
      have hal := allP_le (vs.take k)
      rw [List.length_take] at hal
      have hsn := allP_snoc (vs.take k) vs[k]
      rw [← take_snocL vs k hlt] at hsn
      generalize vs[k] = v at *
      have hpl := piecesOf_le v
      have k1 := fun w => split_wide ⟨v.toArray⟩ 44 w (by rw [Lib.size_eq]; exact hv)
      have k2 := fun w => trim_wide ⟨v.toArray⟩ w (by rw [Lib.size_eq]; exact hv)
      simp only at k1 k2
      have hpo : piecesOf v = bif (splitL 44 v).2 == 0 then (splitL 44 v).1 else [trimL v] := rfl
      generalize splitL 44 v = r at *
      generalize trimL v = tv at *
      generalize piecesOf v = ps at *
      obtain ⟨ls, er⟩ := r
      simp only at hpo
      have K1 := Lib.hid k1; have K2 := Lib.hid k2; have HP := Lib.hid hpo; have Hsn := Lib.hid hsn
      clear k1 k2 hpo hsn hv
      go_wp2_with fail
      refine (K1.out _).mono ?_
      rintro e w2 ⟨pa, pc, rfl, ho2, hb2⟩
      have hb12 := b64_trans hbw hb2 hbw.size
      have hwr2 := hb2.size
      have HO2 := Lib.hid ho2; clear ho2
      have HOw := HO.out.below hb2
      have HOW := Lib.hid HOw; have HNEW := Lib.hid HO.out.lt; clear HOw HO
      go_upto_if 26 with (fail)
      go_cut [8] (fun s8 wx => ∃ pa pc, s8 = .slice pa ps.length pc ∧ Hid (Rd pa ps.length 1 (strsV ps) wx ∧ ∀ g o, pa = some ⟨g, o, none⟩ → wr.heap.size ≤ g) ∧ Below w2.heap.size w2 wx)
      case first =>
        cases he : (er == 0)
        · have n1 : (er != 0) = true := by simp [bne, he]
          have hps := HP.out
          rw [he, cond_false] at hps
          have HPS := Lib.hid hps; clear hps HP
          go_wp2_with (go_at_call 64; refine (K2.out _).mono ?_; rintro e w3 ⟨rfl, hb3⟩)
          go_meet
          rw [HPS.out]
          refine ⟨_, _, rfl, Lib.hid ⟨⟨rfl, fun _ => ⟨_, _, rfl, by simp, fun j u hu => ?_⟩⟩, ?_⟩, hb3.alloc hb3.size _⟩
          · rw [Nat.zero_add, World.cell?_alloc_mark]
            simpa [strsV] using hu
          · intro g o e
            cases e
            have := hb3.size
            omega
        · have n1 : (er != 0) = false := by simp [bne, he]
          have hps := HP.out
          rw [he, cond_true] at hps
          have HPS := Lib.hid hps; clear hps HP
          go_wp2
          go_meet
          rw [HPS.out]
          exact ⟨_, _, rfl, Lib.hid ⟨HO2.out.rd.2, own_new HO2.out⟩, Below.refl _ _⟩
      case rest =>
        obtain ⟨qa, qc, rfl, HQ, hb3⟩ := hcut
        have hbc := b64_trans hb12 hb3 (by have := hbw.size; omega)
        have hst : Hid (OwnS w1.heap.size u5 (allP (vs.take k) ++ keepP (ps.take 0)) wc ∧ Sep u5 qa ps.length ∧ Rd qa ps.length 1 (strsV ps) wc) := by
          refine Lib.hid ⟨?_, ?_, HQ.out.1⟩
          · have : keepP (ps.take 0) = [] := rfl
            rw [this, List.append_nil]; exact HOW.out.below hb3
          · intro _ g o e x
            have h1 := (HNEW.out g x).2
            have h2 := HQ.out.2 g o e
            omega
        clear HQ HOW HO2 HNEW HP K1 K2 hb3 hb2 hb12 hwr2
        go_wp2_with fail
        go_loopw [32, 5] (fun j l wi => ∃ m : Nat, m ≤ ps.length ∧ j = .int .i64 m ∧ Hid (OwnS w1.heap.size l (allP (vs.take k) ++ keepP (ps.take m)) wi ∧ Sep l qa ps.length ∧ Rd qa ps.length 1 (strsV ps) wi) ∧ Below w1.heap.size w1 wi) (fun j _ _ => ps.length - (intOf j).toNat)
        case atStart => exact ⟨0, Nat.zero_le _, rfl, hst, hbc⟩
        case round =>
          clear hst hbc
          obtain ⟨m, hm, rfl, HI, hbi⟩ := hrel
          by_cases hlm : m < ps.length
          · obtain ⟨b2, o2, rfl, hl2, c2⟩ := HI.out.2.2.str_at (k := m) hlm
            have hks := keepP_snoc (ps.take m) ps[m]
            rw [← take_snocL ps m hlm] at hks
            have hkl := keepP_le (ps.take m)
            rw [List.length_take] at hkl
            have hcount : (allP (vs.take k) ++ keepP (ps.take m)).length ≤ 1000000000 := by rw [List.length_append]; omega
            generalize ps[m] = p at *
            cases he : p.isEmpty
            · rw [he, if_neg (by decide)] at hks
              have HK := Lib.hid hks; clear hks
              go_wp2_with (at_builtin; refine app_str w1.heap.size p HI.out.1 hbi.size hcount rfl _ _ rfl rfl rfl ?_)
              intro v' w3 hO3 hb4 hfar
              have hbn := hbi.trans hb4
              have HI2 : Hid (OwnS w1.heap.size v' (allP (vs.take k) ++ keepP (ps.take (m + 1))) w3 ∧ Sep v' (some ⟨b2, o2, none⟩) ps.length ∧ Rd (some ⟨b2, o2, none⟩) ps.length 1 (strsV ps) w3) := by
                obtain ⟨h1, h2⟩ := HI.out.2.2.far hfar HI.out.2.1
                refine Lib.hid ⟨?_, h2, h1⟩
                rw [HK.out]; exact hO3
              clear hO3 hb4 hfar HI HK c2
              go_wp2
              go_roundw
              case rel => exact ⟨m + 1, by omega, by go_num, HI2, hbn⟩
              case measure => simp [intOf]; omega
            · rw [he, if_pos rfl] at hks
              have HI2 : Hid (OwnS w1.heap.size u5 (allP (vs.take k) ++ keepP (ps.take (m + 1))) wr ∧ Sep u5 (some ⟨b2, o2, none⟩) ps.length ∧ Rd (some ⟨b2, o2, none⟩) ps.length 1 (strsV ps) wr) := by
                rw [hks]; exact HI
              clear hks HI
              go_wp2
              go_roundw
              case rel => exact ⟨m + 1, by omega, by go_num, HI2, hbi⟩
              case measure => simp [intOf]; omega
          · have hme : m = ps.length := by omega
            subst hme
            have HO2 : Hid (OwnS w1.heap.size u5 (allP (vs.take (k + 1))) wr) := by
              refine Lib.hid ?_
              have := HI.out.1
              rw [List.take_length, ← Hsn.out] at this; exact this
            clear HI Hsn
            go_wp2
            go_roundw
            case rel => exact ⟨k + 1, by omega, by go_num, HO2, hbi⟩
            case measure => simp [intOf]; omega
    · have hke : k = vs.length := by omega
      subst hke
      have ho := HO.out
      rw [List.take_length] at ho
      obtain ⟨la, lc, rfl⟩ := ho.shape
      have HO1 := Lib.hid ho; clear ho HO
      have hal := allP_le vs
      have htot : total (allP vs) ≤ 1000 * 2000000 := Nat.le_trans (total_allP vs) (Nat.le_trans (total_bound 2000000 vs HVB.out) (Nat.mul_le_mul_right _ hvn))
      have k3 := join_any w1.heap.size lc la (allP vs) ⟨#[44, 32]⟩ wr HO1.out (by omega) (by rw [show (⟨#[44, 32]⟩ : ByteArray).size = 2 from rfl]; omega)
      have K3 := Lib.hid k3; clear k3
      go_wp2_with (go_at_call 23; refine K3.out.mono ?_; rintro e w3 ⟨rfl, hb3⟩)
      go_ret
      exact ⟨rfl, (hb1.trans (hbw.mono hb1.size)).trans (hb3.mono (by have := hb1.size; have := hbw.size; omega))⟩
theorem vvalue_any (A : Option Addr) (n c : Nat) (xs : List Fld) (name : ByteArray) (w : World) (hr : Rd A n 2 (fldsV xs) w) (hn : n ≤ 1000) (hs : ∀ f ∈ xs, f.1.length ≤ 1000000 ∧ f.2.length ≤ 1000000) (hname : name.size ≤ 1000000) :
    Calls Tryd.prog 54 #[.slice A n c, .string name] w fun e w' => e = .returned (.string ⟨(valueL xs name.data.toList).toArray⟩) ∧ Below w.heap.size w w' := vvalue_wide A n c xs name w hr hn (fun f hf => ⟨Nat.le_trans (hs f hf).1 (by decide), Nat.le_trans (hs f hf).2 (by decide)⟩) (by omega)
end Go.Proofs.YtokhlmoanlcjmaaDoor
/- The walks of vary.Select, vary.Matches. -/
namespace Go.Proofs.YtokhlmoanlcjmaaDoor
open Go.RowKit

def selectL (names : List (List UInt8)) (xs : List Fld) : List Fld := names.map fun nm => (nm, valueL xs nm)
def matchesL (es xs : List Fld) : Bool := es.all fun f => valueL xs f.1 == f.2

/-- An entry, by value. -/
def entV (st : Int) (re : ByteArray) (mi : Int) (fa : Option Addr) (fn fc : Nat) (bo : ByteArray) (asd gt : Int) (va : Option Addr) (vn vc : Nat) : Value :=
  .agg #[.int .i64 st, .string re, .int .i64 mi, .slice fa fn fc, .string bo, .int .i64 asd, .int .i64 gt, .slice va vn vc]

set_option maxRecDepth 100000 in
set_option maxHeartbeats 4000000 in
theorem matches_wide (st : Int) (re : ByteArray) (mi : Int) (fa : Option Addr) (fn fc : Nat) (bo : ByteArray) (asd gt : Int) (va : Option Addr) (vn vc : Nat) (es : List Fld) (A : Option Addr) (n c : Nat) (xs : List Fld) (w : World)
    (hE : Rd va vn 2 (fldsV es) w) (hvn : vn ≤ 1000000) (hel : ∀ f ∈ es, f.1.length ≤ 1000000)
    (hr : Rd A n 2 (fldsV xs) w) (hn : n ≤ 1000) (hs : ∀ f ∈ xs, f.1.length ≤ 2000000 ∧ f.2.length ≤ 2000000) :
    Calls Tryd.prog 34 #[entV st re mi fa fn fc bo asd gt va vn vc, .slice A n c] w fun e w' => e = .returned (.bool (matchesL es xs)) ∧ Below w.heap.size w w' := by
  obtain rfl := hE.fld
  have hB := (Below.refl w.heap.size w).alloc (Nat.le_refl _) (.cells #[.int .i64 st, .string re, .int .i64 mi, .slice fa fn fc, .string bo, .int .i64 asd, .int .i64 gt, .slice va es.length vc] 33)
  have k1 : ∀ (w' : World) (nm : List UInt8), Below w.heap.size w w' → nm.length ≤ 1000000 → Calls Tryd.prog 54 #[.slice A n c, .string ⟨nm.toArray⟩] w' fun e w2 => e = .returned (.string ⟨(valueL xs nm).toArray⟩) ∧ Below w'.heap.size w' w2 :=
    fun w' nm hb hl => vvalue_wide A n c xs ⟨nm.toArray⟩ w' (hr.below hb) hn hs (by rw [Lib.size_eq]; exact Nat.le_trans hl (by decide))
  have hY : ∀ k (h : k < es.length), (valueL xs (es[k]).1 == (es[k]).2) = false → matchesL es xs = false := by
    intro k h hk
    unfold matchesL
    rw [List.all_eq_false]
    exact ⟨es[k], List.getElem_mem _, by simp [hk]⟩
  have hZ : (∀ k (h : k < es.length), (valueL xs (es[k]).1 == (es[k]).2) = true) → matchesL es xs = true := by
    intro h
    unfold matchesL
    rw [List.all_eq_true]
    intro f hf
    obtain ⟨k, hk, e⟩ := List.mem_iff_getElem.1 hf
    rw [← e]; exact h k hk
  have K1 := Lib.hid k1; have HE := Lib.hid hE; have HL := Lib.hid hel; have HY := Lib.hid hY; have HZ := Lib.hid hZ
  clear k1 hr hs hE hel hY hZ
  generalize matchesL es xs = out at *
  unfold entV
  go_enter Tryd.func34, Tryd.ntmps34
  go_wp2
  go_loopw [13] (fun i wr => ∃ k : Nat, k ≤ es.length ∧ i = .int .i64 k ∧ Hid (∀ j (h : j < es.length), j < k → (valueL xs (es[j]).1 == (es[j]).2) = true) ∧ Below w.heap.size w wr) (fun i _ => es.length - (intOf i).toNat)
  case atStart => exact ⟨0, Nat.zero_le _, rfl, Lib.hid (fun j h hj => absurd hj (by omega)), hB⟩
  case round =>
    clear hB
    obtain ⟨k, hk, rfl, HA, hbw⟩ := hrel
    by_cases hlt : k < es.length
    · obtain ⟨b, o, rfl, hl, c1, c2⟩ := (HE.out.below hbw).fld_at (k := k) hlt
      have hv := HL.out es[k] (List.getElem_mem _)
      have hy := HY.out k hlt
      have hz : (valueL xs (es[k]).1 == (es[k]).2) = true → Hid (∀ j (h : j < es.length), j < k + 1 → (valueL xs (es[j]).1 == (es[j]).2) = true) := by
        intro e
        refine Lib.hid fun j h hj => ?_
        by_cases hjk : j = k
        · subst hjk; exact e
        · exact HA.out j h (by omega)
      generalize es[k] = f at *
      obtain ⟨f1, f2⟩ := f
      simp only at c1 c2 hv hy hz
      have Hy := Lib.hid hy; have Hz := Lib.hid hz; clear hy hz HA
      go_wp2_with fail
      obtain ⟨W, hW⟩ : ∃ W, wr.alloc (.cells #[.string ⟨f1.toArray⟩, .string ⟨f2.toArray⟩] 62) = W := ⟨_, rfl⟩
      have e1 : W.cell? ⟨wr.heap.size, 0, none⟩ = some (.string ⟨f1.toArray⟩) := by rw [← hW]; exact World.cell?_alloc_mark wr _ _ _ 0
      have e2 : W.cell? ⟨wr.heap.size, 1, none⟩ = some (.string ⟨f2.toArray⟩) := by rw [← hW]; exact World.cell?_alloc_mark wr _ _ _ 1
      have e3 : Below w.heap.size w W := by rw [← hW]; exact hbw.alloc hbw.size _
      have e4 : wr.heap.size < W.heap.size := by rw [← hW]; simp
      rw [hW]
      clear hW c1 c2
      cases hq : (valueL xs f1 == f2)
      · have hf := Hy.out hq
        have Hf := Lib.hid hf
        have q2 : (!valueL xs f1 == f2) = true := by rw [hq]; rfl
        clear hf
        go_region_held3 (fun w' => w'.cell? ⟨wr.heap.size, 0, none⟩ = some (.string ⟨f1.toArray⟩) ∧ w'.cell? ⟨wr.heap.size, 1, none⟩ = some (.string ⟨f2.toArray⟩) ∧ Below w.heap.size w w' ∧ wr.heap.size < w'.heap.size) (first | exact ⟨e1, e2, e3, e4⟩ | exact ⟨e1, e2, e3.drew, e4⟩ | exact ⟨d1, d2, d3, d4⟩ | exact ⟨d1, d2, d3.drew, d4⟩) (first | (go_at_call 54; obtain ⟨g1, g2, g3, g4⟩ := ‹_ ∧ _ ∧ Below w.heap.size w _ ∧ _ < _›; refine (K1.out _ f1 g3 hv).mono ?_; rintro e w2 ⟨rfl, hb2⟩; have d1 := (hb2.cell (p := ⟨wr.heap.size, 0, none⟩) g4).trans g1; have d2 := (hb2.cell (p := ⟨wr.heap.size, 1, none⟩) g4).trans g2; have d3 := g3.trans (hb2.mono g3.size); have d4 := Nat.lt_of_lt_of_le g4 hb2.size))
        obtain ⟨g1, g2, g3, g4⟩ := ‹_ ∧ _ ∧ Below w.heap.size w _ ∧ _ < _›
        go_wp2
        go_ret
        rw [Hf.out]
        exact ⟨rfl, g3⟩
      · have hz := Hz.out hq
        have q2 : (!valueL xs f1 == f2) = false := by rw [hq]; rfl
        go_region_held3 (fun w' => w'.cell? ⟨wr.heap.size, 0, none⟩ = some (.string ⟨f1.toArray⟩) ∧ w'.cell? ⟨wr.heap.size, 1, none⟩ = some (.string ⟨f2.toArray⟩) ∧ Below w.heap.size w w' ∧ wr.heap.size < w'.heap.size) (first | exact ⟨e1, e2, e3, e4⟩ | exact ⟨e1, e2, e3.drew, e4⟩ | exact ⟨d1, d2, d3, d4⟩ | exact ⟨d1, d2, d3.drew, d4⟩) (first | (go_at_call 54; obtain ⟨g1, g2, g3, g4⟩ := ‹_ ∧ _ ∧ Below w.heap.size w _ ∧ _ < _›; refine (K1.out _ f1 g3 hv).mono ?_; rintro e w2 ⟨rfl, hb2⟩; have d1 := (hb2.cell (p := ⟨wr.heap.size, 0, none⟩) g4).trans g1; have d2 := (hb2.cell (p := ⟨wr.heap.size, 1, none⟩) g4).trans g2; have d3 := g3.trans (hb2.mono g3.size); have d4 := Nat.lt_of_lt_of_le g4 hb2.size))
        obtain ⟨g1, g2, g3, g4⟩ := ‹_ ∧ _ ∧ Below w.heap.size w _ ∧ _ < _›
        go_wp2
        go_roundw
        case rel => exact ⟨k + 1, by omega, by go_num, hz, g3⟩
        case measure => simp [intOf]; omega
    · have hf := HZ.out (fun j h => HA.out j h (by omega))
      have Hf := Lib.hid hf
      clear hf
      go_wp2
      go_ret
      rw [Hf.out]
      exact ⟨rfl, hbw⟩
theorem matches_any (st : Int) (re : ByteArray) (mi : Int) (fa : Option Addr) (fn fc : Nat) (bo : ByteArray) (asd gt : Int) (va : Option Addr) (vn vc : Nat) (es : List Fld) (A : Option Addr) (n c : Nat) (xs : List Fld) (w : World)
    (hE : Rd va vn 2 (fldsV es) w) (hvn : vn ≤ 1000000) (hel : ∀ f ∈ es, f.1.length ≤ 1000000)
    (hr : Rd A n 2 (fldsV xs) w) (hn : n ≤ 1000) (hs : ∀ f ∈ xs, f.1.length ≤ 1000000 ∧ f.2.length ≤ 1000000) :
    Calls Tryd.prog 34 #[entV st re mi fa fn fc bo asd gt va vn vc, .slice A n c] w fun e w' => e = .returned (.bool (matchesL es xs)) ∧ Below w.heap.size w w' := matches_wide st re mi fa fn fc bo asd gt va vn vc es A n c xs w hE hvn hel hr hn (fun f hf => ⟨Nat.le_trans (hs f hf).1 (by decide), Nat.le_trans (hs f hf).2 (by decide)⟩)
end Go.Proofs.YtokhlmoanlcjmaaDoor
/- Store: the walks of its small functions: size, Size, copied, clone. -/
namespace Go.Proofs.YtokhlmoanlcjmaaDoor
open Go.RowKit
set_option maxRecDepth 100000

set_option maxHeartbeats 4000000 in
theorem size_any (A : Option Addr) (n c : Nat) (xs : List Fld) (w : World) (hr : Rd A n 2 (fldsV xs) w) (hn : n ≤ 1000000) (hs : sumF xs ≤ 1000000000) :
    Calls Tryd.prog 37 #[.slice A n c] w fun e w' => e = .returned (.int .i64 (sumF xs : Nat)) ∧ Below w.heap.size w w' := by
  obtain rfl := hr.fld
  have hsn := sumF_snoc xs
  have hle := sumF_take xs
  have hfull : ∀ k, k = xs.length → sumF (xs.take k) = sumF xs := by rintro k rfl; rw [List.take_length]
  have h00 : sumF (xs.take 0) = 0 := rfl
  have HR := Lib.hid hr; have HSN := Lib.hid hsn; have HLE := Lib.hid hle; have HF := Lib.hid hfull; have H00 := Lib.hid h00
  clear hr hsn hle hfull h00
  go_enter Tryd.func37, Tryd.ntmps37
  go_wp2
  go_loopw [8, 3] (fun i x wr => ∃ (k : Nat) (s : Int), k ≤ xs.length ∧ i = .int .i64 k ∧ x = .int .i64 s ∧ Hid (s = (sumF (xs.take k) : Nat)) ∧ 0 ≤ s ∧ s ≤ 1000000000 ∧ Below w.heap.size w wr) (fun i _ _ => xs.length - (intOf i).toNat)
  case atStart => exact ⟨0, 0, Nat.zero_le _, rfl, rfl, Lib.hid (by rw [H00.out]; rfl), by omega, by omega, Below.refl _ _⟩
  case round =>
    obtain ⟨k, s, hk, rfl, rfl, HE, hs0, hs1, hbw⟩ := hrel
    by_cases hlt : k < xs.length
    · obtain ⟨b, o, rfl, hl, c1, c2⟩ := (HR.out.below (hbw.mono (Nat.le_refl _))).fld_at (k := k) hlt
      have h1 := HSN.out k hlt
      have h2 := HLE.out (k + 1)
      generalize xs[k] = f at *
      obtain ⟨f1, f2⟩ := f
      simp only at c1 c2 h1
      have hz : s + ((f1.length : Int) + (f2.length : Int)) = (sumF (xs.take (k + 1)) : Nat) := by rw [HE.out, h1]; omega
      have hz2 : s + ((f1.length : Int) + (f2.length : Int)) ≤ 1000000000 := by rw [hz]; omega
      have HZ := Lib.hid hz
      clear h1 h2 hz
      have w1 : IntKind.i64.wrap ((f1.length : Int) + (f2.length : Int)) = (f1.length : Int) + (f2.length : Int) := by rw [IntKind.wrap_i64]; omega
      have w2 : IntKind.i64.wrap (s + ((f1.length : Int) + (f2.length : Int))) = s + ((f1.length : Int) + (f2.length : Int)) := by rw [IntKind.wrap_i64]; omega
      go_wp2
      go_roundw
      case rel => exact ⟨k + 1, s + ((f1.length : Int) + (f2.length : Int)), by omega, by go_num, by go_num, HZ, by omega, hz2, hbw.alloc hbw.size _⟩
      case measure => simp [intOf]; omega
    · have hke : k = xs.length := by omega
      have hz := HE.out
      rw [HF.out k hke] at hz
      subst hz
      clear HE
      go_wp2
      go_ret
      exact ⟨rfl, hbw⟩

theorem run_copy_rows {P : Program} (w : World) (dT sT ty elem : TypeId) (size : Nat) (g dLen dCap : Nat) (a : Addr) (sLen sCap : Nat) (cur : Array Value) (t : TypeId) (cs : List Value)
    (hu : P.underlying dT = some (.slice elem)) (hs : (P.info? elem).map (·.size) = some size)
    (hg : w.heap[g]? = some (.cells cur t (0, 0))) (hn : cs.length = Nat.min sLen dLen * size)
    (hsrc : ∀ j v, cs[j]? = some v → w.cell? (a.add j) = some v) (hfit : cs.length ≤ cur.size) (h1 : ∀ v ∈ cs, v.oneCell' = true) :
    (Builtin.copy_ #[dT, sT] ty #[.slice (some ⟨g, 0, none⟩) dLen dCap, .slice (some a) sLen sCap]).run P w =
      .ok (goInt (Nat.min sLen dLen)) (w.setRow g (cs ++ cur.toList.drop cs.length).toArray) := by
  have hl := run_loadCells_list (P := P) w a cs hsrc
  have hst := run_storeCells_at P g 0 t cs 0 cur w hg (by simpa using hfit) h1
  cases hq : P.info? elem with
  | none => simp [hq] at hs
  | some i =>
    have hi : i.size = size := by simpa [hq] using hs
    simp only [Nat.zero_add, List.take_zero, List.nil_append] at hst
    simp [Builtin.copy_, run_underlying hu, Builtin.lenOf, Builtin.firstCells, sizeOf, typeInfo, hq, hi, ← hn, hl, hst]

theorem fldsV_one (xs : List Fld) : ∀ u ∈ fldsV xs, u.oneCell' = true := by
  intro u hu
  unfold fldsV at hu
  obtain ⟨f, _, hf⟩ := List.mem_flatMap.1 hu
  simp [fldV] at hf
  rcases hf with rfl | rfl <;> rfl

set_option maxHeartbeats 4000000 in
theorem copied_any (A : Option Addr) (n c : Nat) (xs : List Fld) (w : World) (hr : Rd A n 2 (fldsV xs) w) (hn : n ≤ 1000000) :
    Calls Tryd.prog 51 #[.slice A n c] w (FieldsPost w xs) := by
  obtain rfl := hr.fld
  cases A with
  | none =>
    have h0 : xs.length = 0 := by
      rcases Nat.eq_zero_or_pos xs.length with h | h
      · exact h
      · obtain ⟨b, o, e, _⟩ := hr.2 h; cases e
    have hx : xs = [] := List.eq_nil_of_length_eq_zero h0
    subst hx
    have he : (binOp .eql 29 (.slice none 0 c) (.slice none 0 0)).run Tryd.prog w = .ok (.bool true) w := by exact Lib.run_eql_slice_nil (h := Tryd.underlying29) ..
    simp only [List.length_nil]
    clear hr
    go_enter Tryd.func51, Tryd.ntmps51
    go_wp2
    go_ret
    exact ⟨none, 0, rfl, OwnF.nil _ _, Below.refl _ _⟩
  | some ad =>
    obtain ⟨i0, hi, hz0, hz1, hz2⟩ := info_parts uFld
    obtain ⟨W1, hmk, hown, hgrow⟩ := run_make_full (P := Tryd.prog) w w.heap.size 29 62 i0 _ 2 Tryd.underlying29 hi hz0 hz1 .i64 .i64 xs.length (by rw [hz2]; omega) (by unfold maxLen; omega) (Nat.le_refl _)
    obtain ⟨hl0, h2⟩ := hown
    rcases h2 with ⟨hv, _⟩ | ⟨g, cap, cur, hv, hg, hh, hcap, hmax, hcs, hcx⟩
    · cases hv
    · injection hv with hv1 hv2 hv3
      injection hv1 with hv1
      injection hv1 with hv1
      subst hv1; subst hv3
      have hb1 : Below w.heap.size w W1 := ⟨hgrow.os, hgrow.tape, hgrow.output, hgrow.size, fun k hk => hgrow.block k hk (by simp)⟩
      have hr1 := hr.below hb1
      have hfl := fldsV_len xs
      have hmin : Nat.min xs.length xs.length = xs.length := Nat.min_self _
      have hcp := fun ty => run_copy_rows (P := Tryd.prog) W1 29 29 ty 62 2 w.heap.size xs.length xs.length ad xs.length c cur 62 (fldsV xs) Tryd.underlying29 (by rw [hi]; simp [hz1]) hh (by rw [hfl, hmin]) (fun j v hj => by
        have hp : 0 < xs.length := by
          rcases Nat.eq_zero_or_pos xs.length with h | h
          · have : xs = [] := List.eq_nil_of_length_eq_zero h
            subst this; cases hj
          · exact h
        obtain ⟨b, o, e, _, hc⟩ := hr1.2 hp
        injection e with e
        subst e
        have e2 : (⟨b, o, none⟩ : Addr).add j = ⟨b, o + j, none⟩ := by unfold Addr.add; split <;> simp_all
        rw [e2]
        exact hc j v hj) (by rw [hfl, hcs]; exact Nat.le_refl _) (fldsV_one xs)
      have hdrop : cur.toList.drop (fldsV xs).length = [] := by
        apply List.drop_eq_nil_of_le
        rw [hfl, Array.length_toList, hcs]
        exact Nat.le_refl _
      rw [hdrop, List.append_nil, hmin] at hcp
      have hfin : (W1.setRow w.heap.size (fldsV xs).toArray).ownsRow w.heap.size 62 2 (.slice (some ⟨w.heap.size, 0, none⟩) xs.length xs.length) xs.length (fldsV xs) :=
        ⟨hfl, Or.inr ⟨w.heap.size, xs.length, (fldsV xs).toArray, rfl, Nat.le_refl _, setRow_heap W1 _ cur _ _ _ hh, Nat.le_refl _, hmax, by simp [hfl], by simp [← hfl]⟩⟩
      have hbf : Below w.heap.size w (W1.setRow w.heap.size (fldsV xs).toArray) := below_setRow hb1 (Nat.le_refl _) _
      have HFIN := Lib.hid (And.intro hfin hbf)
      have he : (binOp .eql 29 (.slice (some ad) xs.length c) (.slice none 0 0)).run Tryd.prog w = .ok (.bool false) w := by exact Lib.run_eql_slice_nil (h := Tryd.underlying29) ..
      clear hfin hbf hcx hmin hcs hh hr1 hb1 hgrow hr hdrop hfl hl0
      go_enter Tryd.func51, Tryd.ntmps51
      go_wp2
      go_ret
      exact ⟨_, _, rfl, HFIN.out.1, HFIN.out.2⟩
end Go.Proofs.YtokhlmoanlcjmaaDoor
/- Blocks of eight cells. -/
namespace Go.Proofs.YtokhlmoanlcjmaaDoor
open Go.RowKit
/-- Eight cells of a block. -/
def Box8 (b : Nat) (v0 v1 v2 v3 v4 v5 v6 v7 : Value) (w : World) : Prop :=
  b < w.heap.size ∧ w.cell? ⟨b, 0, none⟩ = some v0 ∧ w.cell? ⟨b, 1, none⟩ = some v1 ∧ w.cell? ⟨b, 2, none⟩ = some v2 ∧ w.cell? ⟨b, 3, none⟩ = some v3 ∧ w.cell? ⟨b, 4, none⟩ = some v4 ∧ w.cell? ⟨b, 5, none⟩ = some v5 ∧ w.cell? ⟨b, 6, none⟩ = some v6 ∧ w.cell? ⟨b, 7, none⟩ = some v7
theorem Box8.below {b : Nat} {v0 v1 v2 v3 v4 v5 v6 v7 : Value} {w w' : World} (h : Box8 b v0 v1 v2 v3 v4 v5 v6 v7 w) (hb : Below w.heap.size w w') : Box8 b v0 v1 v2 v3 v4 v5 v6 v7 w' := by
  obtain ⟨h0, h1, h2, h3, h4, h5, h6, h7, h8⟩ := h
  exact ⟨Nat.lt_of_lt_of_le h0 hb.size, (hb.cell (p := ⟨b, 0, none⟩) h0).trans h1, (hb.cell (p := ⟨b, 1, none⟩) h0).trans h2, (hb.cell (p := ⟨b, 2, none⟩) h0).trans h3, (hb.cell (p := ⟨b, 3, none⟩) h0).trans h4, (hb.cell (p := ⟨b, 4, none⟩) h0).trans h5, (hb.cell (p := ⟨b, 5, none⟩) h0).trans h6, (hb.cell (p := ⟨b, 6, none⟩) h0).trans h7, (hb.cell (p := ⟨b, 7, none⟩) h0).trans h8⟩
theorem zero8_after {wr w5 : World} {v0 v1 v2 v3 v4 v5 v6 v7 : Value} {T : TypeId} (h : Below ((wr.alloc (.cells #[v0, v1, v2, v3, v4, v5, v6, v7] T)).drew).heap.size (wr.alloc (.cells #[v0, v1, v2, v3, v4, v5, v6, v7] T)).drew w5) :
    (w5.cell? ⟨wr.heap.size, 0, none⟩ = some v0 ∧ w5.cell? ⟨wr.heap.size, 1, none⟩ = some v1 ∧ w5.cell? ⟨wr.heap.size, 2, none⟩ = some v2 ∧ w5.cell? ⟨wr.heap.size, 3, none⟩ = some v3 ∧ w5.cell? ⟨wr.heap.size, 4, none⟩ = some v4 ∧ w5.cell? ⟨wr.heap.size, 5, none⟩ = some v5 ∧ w5.cell? ⟨wr.heap.size, 6, none⟩ = some v6 ∧ w5.cell? ⟨wr.heap.size, 7, none⟩ = some v7) ∧
    (∀ j, w5.frozen? ⟨wr.heap.size, j, none⟩ = false) ∧ w5.heap[wr.heap.size]? = some (.cells #[v0, v1, v2, v3, v4, v5, v6, v7] T (0, 0)) := by
  have hs : wr.heap.size < ((wr.alloc (.cells #[v0, v1, v2, v3, v4, v5, v6, v7] T)).drew).heap.size := by simp
  have hc : ∀ j, w5.cell? ⟨wr.heap.size, j, none⟩ = #[v0, v1, v2, v3, v4, v5, v6, v7][j]? := fun j => (h.cell (p := ⟨wr.heap.size, j, none⟩) hs).trans (World.cell?_alloc_mark wr _ _ _ j)
  refine ⟨⟨hc 0, hc 1, hc 2, hc 3, hc 4, hc 5, hc 6, hc 7⟩, fun j => ?_, (h.block _ hs).trans (heap_new wr _ _ rfl)⟩
  refine (h.frozen (p := ⟨wr.heap.size, j, none⟩) hs).trans ?_
  exact (World.frozen?_alloc_mark wr _ _ _ _ j).trans (by simp)
theorem heap_setN {w : World} {b j : Nat} {v : Value} {cs : Array Value} {T : TypeId} {m : Nat × Nat} (h : w.heap[b]? = some (.cells cs T m)) : (w.setCell ⟨b, j, none⟩ v).heap[b]? = some (.cells (cs.setIfInBounds j v) T m) := by
  simp [World.setCell, Array.getElem?_modify, h]
def set8 (w5 : World) (g : Nat) (v0 v1 v2 v3 v4 v5 v6 v7 : Value) : World := ((((((((w5.setCell ⟨g, 0, none⟩ v0).setCell ⟨g, 1, none⟩ v1).setCell ⟨g, 2, none⟩ v2).setCell ⟨g, 3, none⟩ v3).setCell ⟨g, 4, none⟩ v4).setCell ⟨g, 5, none⟩ v5).setCell ⟨g, 6, none⟩ v6).setCell ⟨g, 7, none⟩ v7)
theorem setCell_grown (w : World) (g j : Nat) (v : Value) : w.grownBy (w.setCell ⟨g, j, none⟩ v) (some g) :=
  ⟨rfl, rfl, rfl, by simp, fun k _ hne => Below.heap_setCell _ _ _ _ (by exact fun e => hne (by rw [e]))⟩
theorem set8_grown (w5 : World) (g : Nat) (v0 v1 v2 v3 v4 v5 v6 v7 : Value) : w5.grownBy (set8 w5 g v0 v1 v2 v3 v4 v5 v6 v7) (some g) := by
  have h0 := setCell_grown w5 g 0 v0
  have h1 := h0.trans (setCell_grown _ g 1 v1)
  have h2 := h1.trans (setCell_grown _ g 2 v2)
  have h3 := h2.trans (setCell_grown _ g 3 v3)
  have h4 := h3.trans (setCell_grown _ g 4 v4)
  have h5 := h4.trans (setCell_grown _ g 5 v5)
  have h6 := h5.trans (setCell_grown _ g 6 v6)
  have h7 := h6.trans (setCell_grown _ g 7 v7)
  unfold set8
  with_reducible exact h7
theorem set8_below {wr w5 : World} {g : Nat} (h : Below g wr w5) (v0 v1 v2 v3 v4 v5 v6 v7 : Value) : Below g wr (set8 w5 g v0 v1 v2 v3 v4 v5 v6 v7) := by
  unfold set8
  exact (((((((h.setCell (Nat.le_refl _) _).setCell (Nat.le_refl _) _).setCell (Nat.le_refl _) _).setCell (Nat.le_refl _) _).setCell (Nat.le_refl _) _).setCell (Nat.le_refl _) _).setCell (Nat.le_refl _) _).setCell (Nat.le_refl _) _
theorem set8_box {w5 : World} {g : Nat} {z0 z1 z2 z3 z4 z5 z6 z7 : Value} {T : TypeId} (h : w5.heap[g]? = some (.cells #[z0, z1, z2, z3, z4, z5, z6, z7] T (0, 0))) (v0 v1 v2 v3 v4 v5 v6 v7 : Value) : Box8 g v0 v1 v2 v3 v4 v5 v6 v7 (set8 w5 g v0 v1 v2 v3 v4 v5 v6 v7) := by
  have h0 := heap_setN (j := 0) (v := v0) h
  have h1 := heap_setN (j := 1) (v := v1) h0
  have h2 := heap_setN (j := 2) (v := v2) h1
  have h3 := heap_setN (j := 3) (v := v3) h2
  have h4 := heap_setN (j := 4) (v := v4) h3
  have h5 := heap_setN (j := 5) (v := v5) h4
  have h6 := heap_setN (j := 6) (v := v6) h5
  have h7 := heap_setN (j := 7) (v := v7) h6
  clear h0 h1 h2 h3 h4 h5 h6
  have e : (((((((((#[z0, z1, z2, z3, z4, z5, z6, z7] : Array Value).setIfInBounds 0 v0).setIfInBounds 1 v1).setIfInBounds 2 v2).setIfInBounds 3 v3).setIfInBounds 4 v4).setIfInBounds 5 v5).setIfInBounds 6 v6).setIfInBounds 7 v7) = #[v0, v1, v2, v3, v4, v5, v6, v7] := by simp only [List.setIfInBounds_toArray, List.set_cons_zero, List.set_cons_succ]
  rw [e] at h7
  have hs : set8 w5 g v0 v1 v2 v3 v4 v5 v6 v7 = set8 w5 g v0 v1 v2 v3 v4 v5 v6 v7 := rfl
  conv at hs => lhs; unfold set8
  rw [hs] at h7
  generalize set8 w5 g v0 v1 v2 v3 v4 v5 v6 v7 = X at *
  have hc : ∀ j, X.cell? ⟨g, j, none⟩ = #[v0, v1, v2, v3, v4, v5, v6, v7][j]? := fun j => (of_heap h7 j).1
  exact ⟨(of_heap h7 0).2.2, hc 0, hc 1, hc 2, hc 3, hc 4, hc 5, hc 6, hc 7⟩
end Go.Proofs.YtokhlmoanlcjmaaDoor
/- Rows of the call's own beside each other: what an append to the one leaves of the other. -/
namespace Go.Proofs.YtokhlmoanlcjmaaDoor
open Go.RowKit
theorem own_grown2 {B : Nat} {e : TypeId} {size : Nat} {v : Value} {n : Nat} {xs : List Value} {w w1 : World} {o : Option Nat} (h : w.ownsRow B e size v n xs) (hg : w.grownBy w1 o) (hne : ∀ g, v.ownBlock = some g → o ≠ some g) : w1.ownsRow B e size v n xs := by
  obtain ⟨h1, h2⟩ := h
  refine ⟨h1, ?_⟩
  rcases h2 with h2 | ⟨g, cap, cur, hv, hgB, hh, r⟩
  · exact Or.inl h2
  · refine Or.inr ⟨g, cap, cur, hv, hgB, ?_, r⟩
    have hgl : g < w.heap.size := by
      rcases Nat.lt_or_ge g w.heap.size with h' | h'
      · exact h'
      · simp [Array.getElem?_eq_none h'] at hh
    rw [hg.block g hgl (fun x => hne g (by rw [hv]; rfl) x.symm)]
    exact hh
theorem own_far2 {B : Nat} {e : TypeId} {size : Nat} {v : Value} {n : Nat} {xs : List Value} {w w1 : World} {u u' : Value} (h : w.ownsRow B e size v n xs) (hf : Far w w1 u u') (hne : ∀ g, v.ownBlock = some g → u.ownBlock ≠ some g) : w1.ownsRow B e size v n xs ∧ ∀ g, v.ownBlock = some g → u'.ownBlock ≠ some g := by
  have hlt := h.lt
  refine ⟨own_grown2 h hf.1 hne, fun g hg => ?_⟩
  rcases hf.2 with h2 | h2
  · rw [h2]; exact hne g hg
  · intro x
    have h3 := h2 _ x
    have h4 := (hlt g hg).2
    omega
end Go.Proofs.YtokhlmoanlcjmaaDoor
/- A named result in memory, alone. -/
namespace Go.Proofs.YtokhlmoanlcjmaaDoor
open Go.RowKit
theorem results_cell_one {fn : Func} {p : Tmp} {ty : TypeId} (h : fn.results = #[.cell p ty]) (tmps : Array Value) (P : Program) (w : World) :
    (results fn tmps).run P w = ((asAddr (tmps.getD p undef)).run P w).andThen fun a w₁ => (loadVar ty a).run P w₁ := by
  simp only [results, h]
  simp [Sem.run_bind, Result.andThen]
  try rfl
end Go.Proofs.YtokhlmoanlcjmaaDoor
/- Store: the walks of Size, clone (printed by wip/tools/st2.py). -/
namespace Go.Proofs.YtokhlmoanlcjmaaDoor
open Go.RowKit
set_option maxRecDepth 100000

theorem own_setc {B g : Nat} {v : Value} {fs : List Fld} {w : World} (j : Nat) (x : Value) (h : OwnF B v fs w) (hne : v.ownBlock ≠ some g) : OwnF B v fs (w.setCell ⟨g, j, none⟩ x) :=
  own_grown2 h (setCell_grown w g j x) (fun k hk e => hne (by rw [hk, ← e]))
def sizeZ (key re bo : ByteArray) (fl vl : List Fld) : Int := 64 + (key.size : Int) + (re.size : Int) + (sumF fl : Nat) + (bo.size : Int) + (sumF vl : Nat)
set_option maxHeartbeats 8000000 in
theorem sizeOf_any (key : ByteArray) (st mi asked got : Int) (re bo : ByteArray) (A V : Option Addr) (n c m d : Nat) (fl vl : List Fld) (w : World) (hr : Rd A n 2 (fldsV fl) w) (hq : Rd V m 2 (fldsV vl) w) (hn : n ≤ 1000000) (hm : m ≤ 1000000) (hs : sumF fl ≤ 1000000000) (ht : sumF vl ≤ 1000000000) (hk : key.size ≤ 140737488355328) (hre : re.size ≤ 140737488355328) (hbo : bo.size ≤ 140737488355328) :
    Calls Tryd.prog 17 #[.string key, entV st re mi A n c bo asked got V m d] w fun e w' => e = .returned (.int .i64 (sizeZ key re bo fl vl)) ∧ Below w.heap.size w w' := by
  unfold sizeZ entV
  have k1 := fun W (hb : Below w.heap.size w W) => size_any A n c fl W (hr.below hb) hn hs
  have k2 := fun W (hb : Below w.heap.size w W) => size_any V m d vl W (hq.below hb) hm ht
  obtain ⟨W1, hW1⟩ : ∃ W1, w.alloc (.cells #[.int .i64 st, .string re, .int .i64 mi, .slice A n c, .string bo, .int .i64 asked, .int .i64 got, .slice V m d] 33) = W1 := ⟨_, rfl⟩
  have b1 : Below w.heap.size w W1 := by rw [← hW1]; exact (Below.refl w.heap.size w).alloc (Nat.le_refl _) _
  have x1 : W1.heap[w.heap.size]? = some (.cells #[.int .i64 st, .string re, .int .i64 mi, .slice A n c, .string bo, .int .i64 asked, .int .i64 got, .slice V m d] 33 (0, 0)) := by rw [← hW1]; exact heap_new w _ _ rfl
  have z1 : w.heap.size < W1.heap.size := by rw [← hW1]; simp
  have kc : ∀ w', Below W1.heap.size W1 w' → w'.cell? ⟨w.heap.size, 1, none⟩ = some (.string re) ∧ w'.cell? ⟨w.heap.size, 3, none⟩ = some (.slice A n c) ∧ w'.cell? ⟨w.heap.size, 4, none⟩ = some (.string bo) ∧ w'.cell? ⟨w.heap.size, 7, none⟩ = some (.slice V m d) ∧ Below W1.heap.size W1 w' := fun w' hb => by
    have x4 := (hb.block w.heap.size z1).trans x1
    exact ⟨(of_heap x4 1).1, (of_heap x4 3).1, (of_heap x4 4).1, (of_heap x4 7).1, hb⟩
  have hd0 : Below W1.heap.size W1 W1.drew := (Below.refl _ _).drew
  have a1 : IntKind.i64.wrap (64 + (key.size : Int)) = 64 + (key.size : Int) := by rw [IntKind.wrap_i64]; omega
  have a2 : IntKind.i64.wrap (64 + (key.size : Int) + (re.size : Int)) = 64 + (key.size : Int) + (re.size : Int) := by rw [IntKind.wrap_i64]; omega
  have a3 : IntKind.i64.wrap (64 + (key.size : Int) + (re.size : Int) + (sumF fl : Nat)) = 64 + (key.size : Int) + (re.size : Int) + (sumF fl : Nat) := by rw [IntKind.wrap_i64]; omega
  have a4 : IntKind.i64.wrap (64 + (key.size : Int) + (re.size : Int) + (sumF fl : Nat) + (bo.size : Int)) = 64 + (key.size : Int) + (re.size : Int) + (sumF fl : Nat) + (bo.size : Int) := by rw [IntKind.wrap_i64]; omega
  have a5 : IntKind.i64.wrap (64 + (key.size : Int) + (re.size : Int) + (sumF fl : Nat) + (bo.size : Int) + (sumF vl : Nat)) = 64 + (key.size : Int) + (re.size : Int) + (sumF fl : Nat) + (bo.size : Int) + (sumF vl : Nat) := by rw [IntKind.wrap_i64]; omega
  have HW1 := Lib.hid hW1; have HB1 := Lib.hid b1; have KC := Lib.hid kc; have K1 := Lib.hid k1; have K2 := Lib.hid k2
  clear hW1 b1 x1 z1 kc k1 k2 hr hq hs ht
  go_enter Tryd.func17, Tryd.ntmps17
  go_upto_region 1 with (fail)
  rw [HW1.out]
  refine wp_region_held_drew (S := (fun w' => w'.cell? ⟨w.heap.size, 1, none⟩ = some (.string re) ∧ w'.cell? ⟨w.heap.size, 3, none⟩ = some (.slice A n c) ∧ w'.cell? ⟨w.heap.size, 4, none⟩ = some (.string bo) ∧ w'.cell? ⟨w.heap.size, 7, none⟩ = some (.slice V m d) ∧ Below W1.heap.size W1 w')) (by kernel_rfl) (KC.out _ hd0) (fun hHeld => ?_)
  refine wpAnyH_take (i := 0) (v := ?_) (by simp only [List.getElem?_toArray, List.getElem?_cons_zero]; exact rfl) (by kernel_rfl) (by kernel_rfl) (by kernel_rfl) (by intro _ _ _ h; exact h) (Or.inl ⟨by rfl, fun W hSw => ?_⟩) hHeld ?_
  rotate_left
  focus ((try dsimp only at hSw); first | (go_simp; done) | (go_simp; with_reducible rfl))
  try simp only [Act.put, List.setIfInBounds_toArray, List.set_cons_zero, List.set_cons_succ]
  refine wpAnyH_take (i := 1) (v := ?_) (by simp only [List.getElem?_toArray, List.getElem?_cons_succ, List.getElem?_cons_zero]; exact rfl) (by kernel_rfl) (by kernel_rfl) (by kernel_rfl) (by intro _ _ _ h; exact h) (Or.inl ⟨by rfl, fun W hSw => ?_⟩) hHeld ?_
  rotate_left
  focus ((try dsimp only at hSw); first | (go_simp; done) | (go_simp; with_reducible rfl))
  try simp only [Act.put, List.setIfInBounds_toArray, List.set_cons_zero, List.set_cons_succ]
  refine wpAnyH_take (i := 2) (v := ?_) (by simp only [List.getElem?_toArray, List.getElem?_cons_succ, List.getElem?_cons_zero]; exact rfl) (by kernel_rfl) (by kernel_rfl) (by kernel_rfl) (by intro _ _ _ h; exact h) (Or.inl ⟨by rfl, fun W hSw => ?_⟩) hHeld ?_
  rotate_left
  focus ((try dsimp only at hSw); first | (go_simp; done) | (go_simp; with_reducible rfl))
  try simp only [Act.put, List.setIfInBounds_toArray, List.set_cons_zero, List.set_cons_succ]
  refine wpAnyH_take (i := 3) (v := ?_) (by simp only [List.getElem?_toArray, List.getElem?_cons_succ, List.getElem?_cons_zero]; exact rfl) (by kernel_rfl) (by kernel_rfl) (by kernel_rfl) (by intro _ _ _ h; exact h) (Or.inl ⟨by rfl, fun W hSw => ?_⟩) hHeld ?_
  rotate_left
  focus ((try dsimp only at hSw); first | (go_simp; done) | (go_simp; with_reducible rfl))
  try simp only [Act.put, List.setIfInBounds_toArray, List.set_cons_zero, List.set_cons_succ]
  refine wpAnyH_take (i := 4) (v := ?_) (by simp only [List.getElem?_toArray, List.getElem?_cons_succ, List.getElem?_cons_zero]; exact rfl) (by kernel_rfl) (by kernel_rfl) (by kernel_rfl) (by intro _ _ _ h; exact h) (Or.inl ⟨by rfl, fun W hSw => ?_⟩) hHeld ?_
  rotate_left
  focus ((try dsimp only at hSw); first | (go_simp; done) | (go_simp; with_reducible rfl))
  try simp only [Act.put, List.setIfInBounds_toArray, List.set_cons_zero, List.set_cons_succ]
  refine wpAnyH_take (i := 5) (v := ?_) (by simp only [List.getElem?_toArray, List.getElem?_cons_succ, List.getElem?_cons_zero]; exact rfl) (by kernel_rfl) (by kernel_rfl) (by kernel_rfl) (by intro _ _ _ h; exact h) (Or.inl ⟨by rfl, fun W hSw => ?_⟩) hHeld ?_
  rotate_left
  focus ((try dsimp only at hSw); first | (go_simp; done) | (go_simp; with_reducible rfl))
  try simp only [Act.put, List.setIfInBounds_toArray, List.set_cons_zero, List.set_cons_succ]
  refine wpAnyH_take (i := 6) (v := ?_) (by simp only [List.getElem?_toArray, List.getElem?_cons_succ, List.getElem?_cons_zero]; exact rfl) (by kernel_rfl) (by kernel_rfl) (by kernel_rfl) (by intro _ _ _ h; exact h) (Or.inl ⟨by rfl, fun W hSw => ?_⟩) hHeld ?_
  rotate_left
  focus ((try dsimp only at hSw); first | (go_simp; done) | (go_simp; with_reducible rfl))
  try simp only [Act.put, List.setIfInBounds_toArray, List.set_cons_zero, List.set_cons_succ]
  refine wpAnyH_take (i := 7) (v := ?_) (by simp only [List.getElem?_toArray, List.getElem?_cons_succ, List.getElem?_cons_zero]; exact rfl) (by kernel_rfl) (by kernel_rfl) (by kernel_rfl) (by intro _ _ _ h; exact h) (Or.inl ⟨by rfl, fun W hSw => ?_⟩) hHeld ?_
  rotate_left
  focus ((try dsimp only at hSw); first | (go_simp; done) | (go_simp; with_reducible rfl))
  try simp only [Act.put, List.setIfInBounds_toArray, List.set_cons_zero, List.set_cons_succ]
  refine wpAnyH_take (i := 8) (v := ?_) (by simp only [List.getElem?_toArray, List.getElem?_cons_succ, List.getElem?_cons_zero]; exact rfl) (by kernel_rfl) (by kernel_rfl) (by kernel_rfl) (by intro _ _ _ h; exact h) (Or.inl ⟨by rfl, fun W hSw => ?_⟩) hHeld ?_
  rotate_left
  focus ((try dsimp only at hSw); first | (go_simp; done) | (go_simp; with_reducible rfl))
  try simp only [Act.put, List.setIfInBounds_toArray, List.set_cons_zero, List.set_cons_succ]
  refine wpAnyH_take (i := 9) (v := ?_) (by simp only [List.getElem?_toArray, List.getElem?_cons_succ, List.getElem?_cons_zero]; exact rfl) (by kernel_rfl) (by kernel_rfl) (by kernel_rfl) (by intro _ _ _ h; exact h) (Or.inl ⟨by rfl, fun W hSw => ?_⟩) hHeld ?_
  rotate_left
  focus ((try dsimp only at hSw); first | (go_simp; done) | (go_simp; with_reducible rfl))
  try simp only [Act.put, List.setIfInBounds_toArray, List.set_cons_zero, List.set_cons_succ]
  refine wpAnyH_take (i := 10) (v := ?_) (by simp only [List.getElem?_toArray, List.getElem?_cons_succ, List.getElem?_cons_zero]; exact rfl) (by kernel_rfl) (by kernel_rfl) (by kernel_rfl) (by intro _ _ _ h; exact h) (Or.inl ⟨by rfl, fun W hSw => ?_⟩) hHeld ?_
  rotate_left
  focus ((try dsimp only at hSw); first | (go_simp; done) | (go_simp; with_reducible rfl))
  try simp only [Act.put, List.setIfInBounds_toArray, List.set_cons_zero, List.set_cons_succ]
  refine wpAnyH_take (i := 13) (v := ?_) (by simp only [List.getElem?_toArray, List.getElem?_cons_succ, List.getElem?_cons_zero]; exact rfl) (by kernel_rfl) (by kernel_rfl) (by kernel_rfl) (by intro _ _ _ h; exact h) (Or.inl ⟨by rfl, fun W hSw => ?_⟩) hHeld ?_
  rotate_left
  focus ((try dsimp only at hSw); first | (go_simp; done) | (go_simp; with_reducible rfl))
  try simp only [Act.put, List.setIfInBounds_toArray, List.set_cons_zero, List.set_cons_succ]
  refine wpAnyH_take (i := 14) (v := ?_) (by simp only [List.getElem?_toArray, List.getElem?_cons_succ, List.getElem?_cons_zero]; exact rfl) (by kernel_rfl) (by kernel_rfl) (by kernel_rfl) (by intro _ _ _ h; exact h) (Or.inl ⟨by rfl, fun W hSw => ?_⟩) hHeld ?_
  rotate_left
  focus ((try dsimp only at hSw); first | (go_simp; done) | (go_simp; with_reducible rfl))
  try simp only [Act.put, List.setIfInBounds_toArray, List.set_cons_zero, List.set_cons_succ]
  refine wpAnyH_take (i := 15) (v := ?_) (by simp only [List.getElem?_toArray, List.getElem?_cons_succ, List.getElem?_cons_zero]; exact rfl) (by kernel_rfl) (by kernel_rfl) (by kernel_rfl) (by intro _ _ _ h; exact h) (Or.inl ⟨by rfl, fun W hSw => ?_⟩) hHeld ?_
  rotate_left
  focus ((try dsimp only at hSw); first | (go_simp; done) | (go_simp; with_reducible rfl))
  try simp only [Act.put, List.setIfInBounds_toArray, List.set_cons_zero, List.set_cons_succ]
  refine wpAnyH_take (i := 16) (v := ?_) (by simp only [List.getElem?_toArray, List.getElem?_cons_succ, List.getElem?_cons_zero]; exact rfl) (by kernel_rfl) (by kernel_rfl) (by kernel_rfl) (by intro _ _ _ h; exact h) (Or.inl ⟨by rfl, fun W hSw => ?_⟩) hHeld ?_
  rotate_left
  focus ((try dsimp only at hSw); first | (go_simp; done) | (go_simp; with_reducible rfl))
  try simp only [Act.put, List.setIfInBounds_toArray, List.set_cons_zero, List.set_cons_succ]
  refine wpAnyH_take (i := 18) (v := ?_) (by simp only [List.getElem?_toArray, List.getElem?_cons_succ, List.getElem?_cons_zero]; exact rfl) (by kernel_rfl) (by kernel_rfl) (by kernel_rfl) (by intro _ _ _ h; exact h) (Or.inl ⟨by rfl, fun W hSw => ?_⟩) hHeld ?_
  rotate_left
  focus ((try dsimp only at hSw); first | (go_simp; done) | (go_simp; with_reducible rfl))
  try simp only [Act.put, List.setIfInBounds_toArray, List.set_cons_zero, List.set_cons_succ]
  refine wpAnyH_take (i := 19) (v := ?_) (by simp only [List.getElem?_toArray, List.getElem?_cons_succ, List.getElem?_cons_zero]; exact rfl) (by kernel_rfl) (by kernel_rfl) (by kernel_rfl) (by intro _ _ _ h; exact h) (Or.inl ⟨by rfl, fun W hSw => ?_⟩) hHeld ?_
  rotate_left
  focus ((try dsimp only at hSw); first | (go_simp; done) | (go_simp; with_reducible rfl))
  try simp only [Act.put, List.setIfInBounds_toArray, List.set_cons_zero, List.set_cons_succ]
  refine wpAnyH_ready (rs := [11]) (by kernel_rfl) (by simp) (AllReadyH.cons (by simp only [List.getElem?_toArray, List.getElem?_cons_succ, List.getElem?_cons_zero]; exact rfl) (fun K hK => ?_) AllReadyH.nil)
  rw [if_pos (by rfl)]
  go_simp
  (with_reducible refine (K1.out _ (bt HB1.out hd0)).mono ?_); rintro e v1 ⟨rfl, hv1⟩; have hd1 := bt hd0 hv1; go_wp2_with fail
  refine hK.out _ _ (KC.out _ hd1) (fun hHeld => ?_)
  clear hK K
  try simp only [Act.put, List.setIfInBounds_toArray, List.set_cons_zero, List.set_cons_succ]
  refine wpAnyH_take (i := 12) (v := ?_) (by simp only [List.getElem?_toArray, List.getElem?_cons_succ, List.getElem?_cons_zero]; exact rfl) (by kernel_rfl) (by kernel_rfl) (by kernel_rfl) (by intro _ _ _ h; exact h) (Or.inl ⟨by rfl, fun W hSw => ?_⟩) hHeld ?_
  rotate_left
  focus ((try dsimp only at hSw); first | (go_simp; done) | (go_simp; with_reducible rfl))
  try simp only [Act.put, List.setIfInBounds_toArray, List.set_cons_zero, List.set_cons_succ]
  refine wpAnyH_take (i := 17) (v := ?_) (by simp only [List.getElem?_toArray, List.getElem?_cons_succ, List.getElem?_cons_zero]; exact rfl) (by kernel_rfl) (by kernel_rfl) (by kernel_rfl) (by intro _ _ _ h; exact h) (Or.inl ⟨by rfl, fun W hSw => ?_⟩) hHeld ?_
  rotate_left
  focus ((try dsimp only at hSw); first | (go_simp; done) | (go_simp; with_reducible rfl))
  try simp only [Act.put, List.setIfInBounds_toArray, List.set_cons_zero, List.set_cons_succ]
  refine wpAnyH_ready (rs := [20]) (by kernel_rfl) (by simp) (AllReadyH.cons (by simp only [List.getElem?_toArray, List.getElem?_cons_succ, List.getElem?_cons_zero]; exact rfl) (fun K hK => ?_) AllReadyH.nil)
  rw [if_pos (by rfl)]
  go_simp
  (with_reducible refine (K2.out _ (bt HB1.out hd1)).mono ?_); rintro e v2 ⟨rfl, hv2⟩; have hd2 := bt hd1 hv2; go_wp2_with fail
  refine hK.out _ _ (KC.out _ hd2) (fun hHeld => ?_)
  clear hK K
  try simp only [Act.put, List.setIfInBounds_toArray, List.set_cons_zero, List.set_cons_succ]
  refine wpAnyH_take (i := 21) (v := ?_) (by simp only [List.getElem?_toArray, List.getElem?_cons_succ, List.getElem?_cons_zero]; exact rfl) (by kernel_rfl) (by kernel_rfl) (by kernel_rfl) (by intro _ _ _ h; exact h) (Or.inl ⟨by rfl, fun W hSw => ?_⟩) hHeld ?_
  rotate_left
  focus ((try dsimp only at hSw); first | (go_simp; done) | (go_simp; with_reducible rfl))
  try simp only [Act.put, List.setIfInBounds_toArray, List.set_cons_zero, List.set_cons_succ]
  refine wpAnyH_take (i := 22) (v := ?_) (by simp only [List.getElem?_toArray, List.getElem?_cons_succ, List.getElem?_cons_zero]; exact rfl) (by kernel_rfl) (by kernel_rfl) (by kernel_rfl) (by intro _ _ _ h; exact h) (Or.inl ⟨by rfl, fun W hSw => ?_⟩) hHeld ?_
  rotate_left
  focus ((try dsimp only at hSw); first | (go_simp; done) | (go_simp; with_reducible rfl))
  try simp only [Act.put, List.setIfInBounds_toArray, List.set_cons_zero, List.set_cons_succ]
  refine wpAnyH_done (by kernel_rfl) ?_ _
  clear hHeld
  go_wp2
  go_ret
  exact ⟨rfl, bt HB1.out hd2⟩
/-- What clone hands back: the same entry, its fields in rows of the call's own. -/
def ClonePost (w : World) (st mi asked got : Int) (re bo : ByteArray) (fl vl : List Fld) (e : Ending) (w' : World) : Prop :=
  ∃ a ac v vc, e = .returned (entV st re mi a fl.length ac bo asked got v vl.length vc) ∧ OwnF w.heap.size (.slice a fl.length ac) fl w' ∧ OwnF w.heap.size (.slice v vl.length vc) vl w' ∧ Below w.heap.size w w'
set_option maxHeartbeats 16000000 in
theorem clone_any (st mi asked got : Int) (re bo : ByteArray) (A V : Option Addr) (n c m d : Nat) (fl vl : List Fld) (w : World) (hr : Rd A n 2 (fldsV fl) w) (hq : Rd V m 2 (fldsV vl) w) (hn : n ≤ 1000000) (hm : m ≤ 1000000) :
    Calls Tryd.prog 30 #[entV st re mi A n c bo asked got V m d] w (ClonePost w st mi asked got re bo fl vl) := by
  unfold entV
  have k1 := fun W (hb : Below w.heap.size w W) => copied_any A n c fl W (hr.below hb) hn
  have k2 := fun W (hb : Below w.heap.size w W) => copied_any V m d vl W (hq.below hb) hm
  obtain ⟨W1, hW1⟩ : ∃ W1, w.alloc (.cells #[.int .i64 st, .string re, .int .i64 mi, .slice A n c, .string bo, .int .i64 asked, .int .i64 got, .slice V m d] 33) = W1 := ⟨_, rfl⟩
  obtain ⟨W2, hW2⟩ : ∃ W2, W1.alloc (.cells #[.int .i64 0, .string ⟨#[]⟩, .int .i64 0, .slice none 0 0, .string ⟨#[]⟩, .int .i64 0, .int .i64 0, .slice none 0 0] 33) = W2 := ⟨_, rfl⟩
  have z1 : W1.heap.size = w.heap.size + 1 := by rw [← hW1]; simp
  have K1 := Lib.hid k1; have K2 := Lib.hid k2; have HW1 := Lib.hid hW1; have HW2 := Lib.hid hW2
  clear k1 k2 hW1 hW2
  go_enter Tryd.func30, Tryd.ntmps30
  go_upto_region 1 with (fail)
  rw [HW1.out, HW2.out]
  have z2 : W2.heap.size = w.heap.size + 2 := by rw [← HW2.out]; simp [z1]
  have b2 : Below w.heap.size w W2 := by
    have b1 : Below w.heap.size w W1 := by rw [← HW1.out]; exact (Below.refl w.heap.size w).alloc (Nat.le_refl _) _
    rw [← HW2.out]; exact b1.alloc b1.size _
  have x1 : W2.heap[w.heap.size]? = some (.cells #[.int .i64 st, .string re, .int .i64 mi, .slice A n c, .string bo, .int .i64 asked, .int .i64 got, .slice V m d] 33 (0, 0)) := by
    have b1 : Below W1.heap.size W1 W2 := by rw [← HW2.out]; exact (Below.refl _ _).alloc (Nat.le_refl _) _
    rw [b1.block _ (by omega), ← HW1.out]; exact heap_new w _ _ rfl
  have x2 : W2.heap[w.heap.size + 1]? = some (.cells #[.int .i64 0, .string ⟨#[]⟩, .int .i64 0, .slice none 0 0, .string ⟨#[]⟩, .int .i64 0, .int .i64 0, .slice none 0 0] 33 (0, 0)) := by
    rw [← HW2.out, ← z1]; exact heap_new W1 _ _ rfl
  have kc : ∀ w', Below W2.heap.size W2 w' → w'.cell? ⟨w.heap.size, 3, none⟩ = some (.slice A n c) ∧ w'.cell? ⟨w.heap.size, 7, none⟩ = some (.slice V m d) ∧ w'.frozen? ⟨w.heap.size, 3, none⟩ = false ∧ w'.frozen? ⟨w.heap.size, 7, none⟩ = false := fun w' hb => by
    have x4 := (hb.block w.heap.size (by omega)).trans x1
    exact ⟨(of_heap x4 3).1, (of_heap x4 7).1, (of_heap x4 3).2.1, (of_heap x4 7).2.1⟩
  have hd : Below W2.heap.size W2 W2.drew := (Below.refl _ _).drew
  have KC := Lib.hid kc; have B2 := Lib.hid b2
  obtain ⟨c3, c7, f3, f7⟩ := kc _ hd
  clear kc b2
  go_region_with (go_at_call 51; (first | (with_reducible refine (K1.out _ (bt B2.out hd)).mono ?_) | (with_reducible refine (K2.out _ (bt B2.out hd)).mono ?_)); rintro e v2 ⟨a2, ac2, rfl, ho2, hb2⟩; have hd := bt hd hb2; obtain ⟨c3, c7, f3, f7⟩ := KC.out _ hd)
  all_goals
    have hd2 := hd
    rename_i v1 a1 ac1 ho1 hb1 hd1 _ _ _ _
    have x3 := (hd2.block w.heap.size (by omega)).trans x1
    have x4 := (hd2.block (w.heap.size + 1) (by omega)).trans x2
    have x5 := heap_setN (j := 7) (v := .slice a2 vl.length ac2) (heap_setN (j := 3) (v := .slice a1 fl.length ac1) x3)
    simp only [List.setIfInBounds_toArray, List.set_cons_zero, List.set_cons_succ] at x5
    have x6 : ((v2.setCell ⟨w.heap.size, 3, none⟩ (.slice a1 fl.length ac1)).setCell ⟨w.heap.size, 7, none⟩ (.slice a2 vl.length ac2)).heap[w.heap.size + 1]? = _ := ((heap_set_ne _ _ _ _ _ (by omega)).trans (heap_set_ne _ _ _ _ _ (by omega))).trans x4
    have ho3 := ho1.below hb2
    have hbw := ((bt B2.out hd2).setCell (p := ⟨w.heap.size, 3, none⟩) (Nat.le_refl _) (.slice a1 fl.length ac1)).setCell (p := ⟨w.heap.size, 7, none⟩) (Nat.le_refl _) (.slice a2 vl.length ac2)
    have q1 : ∀ k, (Value.slice a1 fl.length ac1).ownBlock = some k → W2.heap.size ≤ k := fun k hk => (ho1.lt k hk).1
    have q2 : ∀ k, (Value.slice a2 vl.length ac2).ownBlock = some k → W2.heap.size ≤ k := fun k hk => Nat.le_trans hd1.size (ho2.lt k hk).1
    have hof : OwnF w.heap.size (.slice a1 fl.length ac1) fl ((v2.setCell ⟨w.heap.size, 3, none⟩ (.slice a1 fl.length ac1)).setCell ⟨w.heap.size, 7, none⟩ (.slice a2 vl.length ac2)) := by
      have h := ho3.base (B' := w.heap.size) B2.out.size
      exact own_setc 7 _ (own_setc 3 _ h (fun x => by have := q1 _ x; omega)) (fun x => by have := q1 _ x; omega)
    have hov : OwnF w.heap.size (.slice a2 vl.length ac2) vl ((v2.setCell ⟨w.heap.size, 3, none⟩ (.slice a1 fl.length ac1)).setCell ⟨w.heap.size, 7, none⟩ (.slice a2 vl.length ac2)) := by
      have h := ho2.base (B' := w.heap.size) (Nat.le_trans B2.out.size hd1.size)
      exact own_setc 7 _ (own_setc 3 _ h (fun x => by have := q2 _ x; omega)) (fun x => by have := q2 _ x; omega)
    generalize (v2.setCell ⟨w.heap.size, 3, none⟩ (.slice a1 fl.length ac1)).setCell ⟨w.heap.size, 7, none⟩ (.slice a2 vl.length ac2) = X at *
    have g0 := (of_heap x5 0).1; have g1 := (of_heap x5 1).1; have g2 := (of_heap x5 2).1; have g3 := (of_heap x5 3).1; have g4 := (of_heap x5 4).1; have g5 := (of_heap x5 5).1; have g6 := (of_heap x5 6).1; have g7 := (of_heap x5 7).1
    have k0 := (of_heap x6 0).1; have k1 := (of_heap x6 1).1; have k2 := (of_heap x6 2).1; have k3 := (of_heap x6 3).1; have k4 := (of_heap x6 4).1; have k5 := (of_heap x6 5).1; have k6 := (of_heap x6 6).1; have k7 := (of_heap x6 7).1
    have j0 := (of_heap x6 0).2.1; have j1 := (of_heap x6 1).2.1; have j2 := (of_heap x6 2).2.1; have j3 := (of_heap x6 3).2.1; have j4 := (of_heap x6 4).2.1; have j5 := (of_heap x6 5).2.1; have j6 := (of_heap x6 6).2.1; have j7 := (of_heap x6 7).2.1
    simp only [List.getElem?_toArray, List.getElem?_cons_succ, List.getElem?_cons_zero] at g0 g1 g2 g3 g4 g5 g6 g7 k0 k1 k2 k3 k4 k5 k6 k7
    have HOF := Lib.hid hof; have HOV := Lib.hid hov; have HBW := Lib.hid hbw
    have hne1 : ∀ k, (Value.slice a1 fl.length ac1).ownBlock = some k → w.heap.size + 1 ≠ k := fun k hk => by have := q1 k hk; omega
    have hne2 : ∀ k, (Value.slice a2 vl.length ac2).ownBlock = some k → w.heap.size + 1 ≠ k := fun k hk => by have := q2 k hk; omega
    have HN1 := Lib.hid hne1; have HN2 := Lib.hid hne2
    clear hof hov hbw x3 x4 x5 x6 ho1 ho2 ho3 hb1 hb2 hd hd1 hd2 q1 q2 c3 c7 f3 f7 x1 x2 K1 K2 KC hne1 hne2
    go_wp2_with fail
    refine bodyPost_ret_by (v := entV st re mi a1 fl.length ac1 bo asked got a2 vl.length ac2) ?_ rfl ?_
    · rw [results_cell_one rfl]
      go_simp
      rfl
    · refine ⟨a1, ac1, a2, ac2, rfl, ?_, ?_, ?_⟩
      · exact (own_setc 7 _ (own_setc 6 _ (own_setc 5 _ (own_setc 4 _ (own_setc 3 _ (own_setc 2 _ (own_setc 1 _ (own_setc 0 _ HOF.out (fun x => HN1.out _ x rfl)) (fun x => HN1.out _ x rfl)) (fun x => HN1.out _ x rfl)) (fun x => HN1.out _ x rfl)) (fun x => HN1.out _ x rfl)) (fun x => HN1.out _ x rfl)) (fun x => HN1.out _ x rfl)) (fun x => HN1.out _ x rfl))
      · exact (own_setc 7 _ (own_setc 6 _ (own_setc 5 _ (own_setc 4 _ (own_setc 3 _ (own_setc 2 _ (own_setc 1 _ (own_setc 0 _ HOV.out (fun x => HN2.out _ x rfl)) (fun x => HN2.out _ x rfl)) (fun x => HN2.out _ x rfl)) (fun x => HN2.out _ x rfl)) (fun x => HN2.out _ x rfl)) (fun x => HN2.out _ x rfl)) (fun x => HN2.out _ x rfl)) (fun x => HN2.out _ x rfl))
      · exact ((((((((HBW.out.setCell (p := ⟨w.heap.size + 1, 0, none⟩) (Nat.le_succ _) _).setCell (p := ⟨w.heap.size + 1, 1, none⟩) (Nat.le_succ _) _).setCell (p := ⟨w.heap.size + 1, 2, none⟩) (Nat.le_succ _) _).setCell (p := ⟨w.heap.size + 1, 3, none⟩) (Nat.le_succ _) _).setCell (p := ⟨w.heap.size + 1, 4, none⟩) (Nat.le_succ _) _).setCell (p := ⟨w.heap.size + 1, 5, none⟩) (Nat.le_succ _) _).setCell (p := ⟨w.heap.size + 1, 6, none⟩) (Nat.le_succ _) _).setCell (p := ⟨w.heap.size + 1, 7, none⟩) (Nat.le_succ _) _)
end Go.Proofs.YtokhlmoanlcjmaaDoor
/- strings.Builder's writers at this seat: the copy check, WriteByte, WriteString. The library's own contracts ask a body of the copy check that is not the one here (its last branch is refused by the loader), so they are walked anew with the library's laws on append. -/
namespace Go.Proofs.YtokhlmoanlcjmaaDoor
open Go.RowKit
set_option maxRecDepth 100000

theorem bSize : (Tryd.prog.info? 75).map (·.size) = some 2 := by kernel_rfl
theorem bLies : liesAt Tryd.prog Tryd.prog.depth 75 (2 / Tryd.prog.cellsOf 75) 0 75 1 = true := by kernel_rfl
theorem bByte : (Tryd.prog.info? 5).map (fun i => (i.zero, i.size, i.bytes)) = some (some (.int .u8 0), 1, 1) := by kernel_rfl

set_option maxHeartbeats 1000000 in
theorem copyCheck_used (b : Nat) (w : World) (h0 : w.cell? ⟨b, 0, none⟩ = some (.pointer (some ⟨b, 0, none⟩))) :
    Calls Tryd.prog 55 #[.pointer (some ⟨b, 0, none⟩)] w fun e w' => e = .returned (.tuple #[]) ∧ w = w' := by
  obtain ⟨j, hj, _⟩ := Option.map_eq_some_iff.1 bSize
  go_enter Tryd.func55, Tryd.ntmps55
  go_wp2
  rw [Lib.run_neq_ptr_same w _ Tryd.underlying72 hj]
  go_wp2
  go_end0
  exact ⟨rfl, rfl⟩

set_option maxHeartbeats 1000000 in
theorem copyCheck_fresh (b : Nat) (w : World) (h0 : w.cell? ⟨b, 0, none⟩ = some (.pointer none)) (hsh : w.shape? b = some (75, 2)) (hfz : w.frozen? ⟨b, 0, none⟩ = false) :
    Calls Tryd.prog 55 #[.pointer (some ⟨b, 0, none⟩)] w fun e w' => e = .returned (.tuple #[]) ∧ w.setCell ⟨b, 0, none⟩ (.pointer (some ⟨b, 0, none⟩)) = w' := by
  obtain ⟨j, hj, hjs⟩ := Option.map_eq_some_iff.1 bSize
  go_enter Tryd.func55, Tryd.ntmps55
  go_wp2
  rw [Lib.run_to_unsafe w ⟨b, 0, none⟩ Tryd.underlying72 Tryd.underlying112 hj (by rw [hjs]; decide) hsh (Nat.zero_lt_succ 1)]
  simp only [Result.andThen]
  rw [Oper.upon_value]
  go_wp2
  rw [run_callFunc_extern Tryd.func65 (by kernel_rfl) (by kernel_rfl) (by kernel_rfl) (e := Extern.AbiNoEscape.same) (by kernel_rfl)]
  rw [Lib.run_noEscape]
  simp only [Result.andThen]
  rw [Oper.upon_value]
  go_wp2
  rw [Lib.run_from_unsafe w ⟨b, 0, none⟩ Tryd.underlying112 Tryd.underlying72 hj hsh bLies]
  simp only [Result.andThen]
  rw [Oper.upon_value]
  go_wp2
  go_end0
  exact ⟨rfl, rfl⟩

/-- A builder in block b, the call's own from B on, that holds these bytes. -/
def IsB (B b : Nat) (l : List UInt8) (w : World) : Prop := Lib.IsBuilderF 75 5 B b (Lib.byteCells l) w

theorem copyCheck_any (B b : Nat) (bs : List Value) (w : World) (h : Lib.IsBuilderF 75 5 B b bs w) :
    Calls Tryd.prog 55 #[.pointer (some ⟨b, 0, none⟩)] w fun e w' => e = .returned (.tuple #[]) ∧ Lib.BuilderAtF 75 5 B b (.pointer (some ⟨b, 0, none⟩)) bs w' ∧ Below B w w' ∧ Lib.OthersKept 5 (some b) w w' := by
  rcases h with h | h
  · refine (copyCheck_fresh b w h.cell0 h.shape h.frozen0).mono ?_
    rintro e w' ⟨rfl, rfl⟩
    exact ⟨rfl, h.used _, (Below.refl B w).setCell (p := ⟨b, 0, none⟩) h.1 _, (Lib.OthersKept.refl _ _ w).setCell ⟨b, 0, none⟩ rfl _⟩
  · refine (copyCheck_used b w h.cell0).mono ?_
    rintro e w' ⟨rfl, rfl⟩
    exact ⟨rfl, h, Below.refl B _, Lib.OthersKept.refl _ _ _⟩

theorem IsB.lt {B b : Nat} {l : List UInt8} {w : World} (h : IsB B b l w) : b < w.heap.size := by
  rcases h with h | h <;> exact h.lt


set_option maxHeartbeats 2000000 in
set_option maxRecDepth 100000 in
theorem writeString_any (B b : Nat) (l : List UInt8) (s : ByteArray) (w : World) (h : IsB B b l w) (hlen : l.length + s.size ≤ 140737488355328) (hBw : B ≤ w.heap.size) :
    Calls Tryd.prog 41 #[.pointer (some ⟨b, 0, none⟩), .string s] w fun e w' => e = .returned (.tuple #[.int .i64 s.size, .nilIface]) ∧ IsB B b (l ++ s.data.toList) w' ∧ Below B w w' ∧ Lib.OthersKept 5 (some b) w w' := by
  unfold IsB at *
  have hlb := Lib.byteCells_length l
  have hap : Lib.byteCells (l ++ s.data.toList) = Lib.byteCells l ++ Lib.strCells s := by rw [Lib.byteCells_append]; rfl
  rw [hap]; clear hap
  generalize Lib.byteCells l = bs at *
  have Hlb := Lib.hid hlb; clear hlb
  obtain ⟨i0, hi, hz0, hz1, hz2⟩ := info_parts bByte
  go_enter Tryd.func41, Tryd.ntmps41
  go_wp2_with (go_at_call 55; refine (copyCheck_any B b bs _ h).mono ?_)
  rintro e w1 ⟨rfl, h1, hb1, hk1⟩
  obtain ⟨hB, v, hbk, hown, hne⟩ := h1
  have c0 : w1.cell? ⟨b, 0, none⟩ = some (.pointer (some ⟨b, 0, none⟩)) := by rw [Lib.cell_of_heap hbk]; rfl
  have c1 : w1.cell? ⟨b, 1, none⟩ = some v := by rw [Lib.cell_of_heap hbk]; rfl
  go_wp2_with (at_builtin; refine Lib.wpList_append_own_stringF _ rfl _ _ 73 9 rfl B 5 i0 Tryd.underlying73 Tryd.underlying9 hi hz0 hz1 hz2 _ _ _ rfl hown s rfl ?c3 ?c4 ?c5 ?_)
  case c3 => have := Hlb.out; unfold maxLen; omega
  case c4 => have := Hlb.out; omega
  case c5 => have := hb1.size; omega
  intro v' w2 hown' hgrow _
  have hlt : b < w1.heap.size := by
    rcases Nat.lt_or_ge b w1.heap.size with h' | h'
    · exact h'
    · simp [Array.getElem?_eq_none h'] at hbk
  have hb2 : w2.heap[b]? = some (.cells #[.pointer (some ⟨b, 0, none⟩), v] 75 (0, 0)) := by
    rw [hgrow.block b hlt (fun e => hne e.symm)]
    exact hbk
  have d0 : w2.cell? ⟨b, 0, none⟩ = some (.pointer (some ⟨b, 0, none⟩)) := by rw [Lib.cell_of_heap hb2]; rfl
  have d1 : w2.cell? ⟨b, 1, none⟩ = some v := by rw [Lib.cell_of_heap hb2]; rfl
  have f1 : w2.frozen? ⟨b, 1, none⟩ = false := Lib.frozen_of_heap hb2 1
  obtain ⟨ao, n', cap, rfl⟩ : ∃ ao n' cap, v' = .slice ao n' cap := by
    rcases hown'.2 with ⟨hv, _⟩ | ⟨g, cap, cur, fz, hv, _⟩
    · exact ⟨_, _, _, hv⟩
    · exact ⟨_, _, _, hv⟩
  go_wp2
  go_ret2
  refine ⟨rfl, Or.inr ?_, ?_, (hk1.grown hgrow (Lib.ownsRowF_kind hown)).setCell ⟨b, 1, none⟩ rfl _⟩
  · exact Lib.BuilderAtF.put (T := 75) (e := 5) hB hb2 (bs' := bs ++ Lib.strCells s) (by simpa [Lib.strCells_length] using hown') (by decide)
  · exact (hb1.grown hgrow (by have := hb1.size; omega) (fun k hk => (hown.lt k hk).1)).setCell (p := ⟨b, 1, none⟩) hB _
end Go.Proofs.YtokhlmoanlcjmaaDoor
/- The walks of the document's Lower, Same. -/
namespace Go.Proofs.YtokhlmoanlcjmaaDoor
open Go.RowKit

theorem uByte : (Tryd.prog.info? 5).map (fun i => (i.zero, i.size, i.bytes)) = some (some (.int .u8 0), 1, 1) := by kernel_rfl
/-- A slice of bytes that the call made: it owns these. -/
def OwnB (B : Nat) (v : Value) (l : List UInt8) (w : World) : Prop := w.ownsRow B 5 1 v l.length (l.map fun c => Value.int .u8 c.toNat)
theorem OwnB.conv {B : Nat} {v : Value} {l : List UInt8} {w : World} (h : OwnB B v l w) : (convert 73 9 v).run Tryd.prog w = .ok (.string ⟨l.toArray⟩) w := by
  rcases h.2 with ⟨rfl, h0⟩ | ⟨g, cap, cur, rfl, hg, hb, hnc, hcm, hcs, htake⟩
  · have hl : l = [] := List.eq_nil_of_length_eq_zero h0
    subst hl
    exact run_convert_bytes_nil (P := Tryd.prog) w 73 5 Tryd.underlying73 Tryd.underlying5 0 0 9 Tryd.underlying9
  · have hc := run_convert_bytes_arg (P := Tryd.prog) w 73 5 Tryd.underlying73 Tryd.underlying5 g 0 l.length cap (l.map fun c => (c.toNat : Int)) (by simp) (by
      intro i hi
      have := h.cells (g := g) rfl i (.int .u8 (l[i].toNat : Int)) (by simp [hi])
      rw [show (⟨g, 0, none⟩ : Addr).add i = ⟨g, i, none⟩ from by unfold Addr.add; split <;> simp_all] at this
      rw [Nat.zero_add, this]; simp [List.getD, hi]) 9 Tryd.underlying9
    rw [hc]
    have e : strOfNums (l.map fun c => (c.toNat : Int)) = ⟨l.toArray⟩ := by
      apply str_eq; rw [strOfNums_data, List.map_map]
      show List.map _ l = l
      conv => rhs; rw [← List.map_id l]
      apply List.map_congr_left; intro c _; simp
    rw [e]

end Go.Proofs.YtokhlmoanlcjmaaDoor
/- Bytes appended to a slice that the call made: a string, and new bytes. A builder behind other calls. -/
namespace Go.Proofs.YtokhlmoanlcjmaaDoor
open Go.RowKit

theorem OwnB.shape {B : Nat} {v : Value} {l : List UInt8} {w : World} (h : OwnB B v l w) : ∃ a cap, v = .slice a l.length cap := by
  rcases h.2 with ⟨rfl, h0⟩ | ⟨g, cap, cur, rfl, _⟩
  · exact ⟨none, 0, by rw [h0]⟩
  · exact ⟨_, _, rfl⟩
theorem OwnB.nil (B : Nat) (w : World) : OwnB B (.slice none 0 0) [] w := World.ownsRow_nil _ _ _ _
theorem OwnB.below {B : Nat} {v : Value} {l : List UInt8} {w w1 : World} (h : OwnB B v l w) (hb : Below w.heap.size w w1) : OwnB B v l w1 := by
  obtain ⟨h1, h2⟩ := h
  refine ⟨h1, ?_⟩
  rcases h2 with h2 | ⟨g, cap, cur, hv, hg, hh, r⟩
  · exact Or.inl h2
  · refine Or.inr ⟨g, cap, cur, hv, hg, ?_, r⟩
    have hlt : g < w.heap.size := by
      rcases Nat.lt_or_ge g w.heap.size with h' | h'
      · exact h'
      · simp [Array.getElem?_eq_none h'] at hh
    rw [hb.block g hlt]; exact hh
theorem app_bstr {ops : Array Oper} {rest : List Oper} {o : Oper} {a : Act} {Q : Exit → Act → World → Prop} (B : Nat) (s : ByteArray) {w : World} {v : Value} {l : List UInt8} (hown : OwnB B v l w) (hB : B ≤ w.heap.size) (hn : l.length + s.size ≤ 1000000000)
    (hgd : o.guard = none) (sl x : Operand) (ho : o.op = .call { callee := .builtin .append, args := #[sl, x], argTypes := #[73, 9] })
    (hs : a.eval sl = v) (hx : a.eval x = .string s)
    (hK : ∀ v' w1, OwnB B v' (l ++ s.data.toList) w1 → Below B w w1 → wpList Tryd.prog ops Q rest (a.put o.dst v') w1) :
    wpList Tryd.prog ops Q (o :: rest) a w := by
  obtain ⟨i0, hi, hz0, hz1, hz2⟩ := info_parts uByte
  unfold OwnB at hown
  refine Lib.wpList_append_own_string _ hgd sl x 73 9 ho B 5 i0 Tryd.underlying73 Tryd.underlying9 hi hz0 hz1 hz2 v l.length _ hs hown s hx (by unfold maxLen; omega) (by omega) hB ?_
  intro v' w1 h1 h2 _
  refine hK v' w1 ?_ ((Below.refl B w).grown h2 hB (fun j hj => (hown.lt j hj).1))
  unfold OwnB
  rw [List.length_append, ← Lib.size_eq, List.map_append]
  exact h1
theorem app_bnew {ops : Array Oper} {rest : List Oper} {o : Oper} {a : Act} {Q : Exit → Act → World → Prop} (B : Nat) (ys : List UInt8) (cs : Array Value) (hcs : cs.toList = ys.map fun c => Value.int .u8 c.toNat) {w : World} {v : Value} {l : List UInt8} (hown : OwnB B v l w) (hB : B ≤ w.heap.size) (hn : l.length + ys.length ≤ 1000000000)
    (hgd : o.guard = none) (sl x : Operand) (ho : o.op = .call { callee := .builtin .append, args := #[sl, x], argTypes := #[73, 73] })
    (hs : a.eval sl = v) (hx : a.eval x = .slice (some ⟨w.heap.size, 0, none⟩) ys.length ys.length)
    (hK : ∀ v' w1, OwnB B v' (l ++ ys) w1 → Below B w w1 → wpList Tryd.prog ops Q rest (a.put o.dst v') w1) :
    wpList Tryd.prog ops Q (o :: rest) a (w.alloc (.cells cs 5)) := by
  obtain ⟨i0, hi, hz0, hz1, hz2⟩ := info_parts uByte
  unfold OwnB at hown
  refine wpList_append_own _ hgd sl x 73 ho B 5 i0 (.int .u8 0) 1 1 Tryd.underlying73 hi hz0 hz1 hz2 rfl (by decide) v l.length _ hs (hown.alloc _) ⟨w.heap.size, 0, none⟩ ys.length ys.length (ys.map fun c => Value.int .u8 c.toNat) hx (by simp) ?c1 ?c2 (by unfold maxLen; omega) (by omega) (by simp; omega) ?_
  case c1 =>
    intro j u hj
    have e : (⟨w.heap.size, 0, none⟩ : Addr).add j = ⟨w.heap.size, j, none⟩ := by unfold Addr.add; split <;> simp_all
    rw [e, World.cell?_alloc_mark, ← hj, ← hcs]; simp
  case c2 => intro u hu; obtain ⟨c, _, rfl⟩ := List.mem_map.1 hu; rfl
  intro v' w1 h1 h2 _
  refine hK v' w1 ?_ (((Below.refl B w).alloc hB _).grown h2 (by simp; omega) (fun j hj => (hown.lt j hj).1))
  unfold OwnB
  rw [List.length_append, List.map_append]
  exact h1

theorem IsB.below {B b : Nat} {l : List UInt8} {w w' : World} (h : IsB B b l w) (hb : Below w.heap.size w w') : IsB B b l w' := by
  have key : ∀ p, Lib.BuilderAtF 75 5 B b p (Lib.byteCells l) w → Lib.BuilderAtF 75 5 B b p (Lib.byteCells l) w' := by
    rintro p ⟨hB, v, hbk, hown, hne⟩
    have hl : ∀ (g : Nat) (o : Obj), w.heap[g]? = some o → g < w.heap.size := by
      intro g o hg
      rcases Nat.lt_or_ge g w.heap.size with h' | h'
      · exact h'
      · simp [Array.getElem?_eq_none h'] at hg
    refine ⟨hB, v, by rw [hb.block b (hl _ _ hbk)]; exact hbk, ?_, hne⟩
    obtain ⟨h1, h2⟩ := hown
    refine ⟨h1, ?_⟩
    rcases h2 with h2 | ⟨g, cap, cur, fz, hv, hg, hh, r⟩
    · exact Or.inl h2
    · exact Or.inr ⟨g, cap, cur, fz, hv, hg, by rw [hb.block g (hl _ _ hh)]; exact hh, r⟩
  rcases h with h | h
  · exact Or.inl (key _ h)
  · exact Or.inr (key _ h)
end Go.Proofs.YtokhlmoanlcjmaaDoor
/- Store: the walk of name: what stands for a key and a Vary. -/
namespace Go.Proofs.YtokhlmoanlcjmaaDoor
open Go.RowKit
set_option maxRecDepth 100000

theorem mkS_size (l : List UInt8) : (⟨l.toArray⟩ : ByteArray).size = l.length := by simp [ByteArray.size]
def TabN (w : World) : Prop := Lib.TabIs Tryd.prog w ("internal/strconv.uint64pow10") .u64 Lib.pow10Tab
theorem TabN.on {w w' : World} (h : TabN w) (hb : Below w.heap.size w w') : TabN w' := Lib.tabBelow_of_tabIs h w' hb
theorem below_growN (w : World) (os : Array Obj) : Below w.heap.size w (Sort.grow w os) :=
  ⟨rfl, rfl, rfl, by show w.heap.size ≤ (w.heap ++ os).size; simp, fun k hk => by show (w.heap ++ os)[k]? = _; rw [Array.getElem?_append_left hk]⟩
theorem itoaN (n : Int) (h0 : -9223372036854775808 ≤ n) (h1 : n ≤ 9223372036854775807) (w : World) (ht : TabN w) :
    Calls Tryd.prog 48 #[.int .i64 n] w fun e w' => e = .returned (.string ⟨(Lib.itoa n).toArray⟩) ∧ Below w.heap.size w w' := by
  refine (Tryd.strconv_Itoa n h0 h1 w ht).mono ?_
  rintro e w' ⟨rfl, k, os, rfl⟩
  exact ⟨rfl, (Go.below_drewN (Below.refl _ w) k).trans (below_growN (w.drewN k) os)⟩

/-- A text behind its length. -/
def addL (s : List UInt8) : List UInt8 := Lib.itoa (s.length : Int) ++ 32 :: s
def nameL (key : List UInt8) (xs : List Fld) : List UInt8 := addL key ++ xs.flatMap fun f => addL f.1 ++ addL f.2
theorem nameL_snoc (key : List UInt8) (xs : List Fld) (k : Nat) (h : k < xs.length) : nameL key (xs.take (k + 1)) = (nameL key (xs.take k) ++ addL xs[k].1) ++ addL xs[k].2 := by
  unfold nameL
  rw [List.take_succ_eq_append_getElem h, List.flatMap_append]
  simp
theorem addL_len (s : List UInt8) (h : s.length ≤ 1000000000000) : (addL s).length ≤ s.length + 22 := by
  have := Lib.itoa_length_le (s.length : Int) (by omega) (by omega)
  unfold addL
  rw [List.length_append, List.length_cons]
  omega
theorem nameL_len (key : List UInt8) (xs : List Fld) (hk : key.length ≤ 1000000) (hs : sumF xs ≤ 1000000) : (nameL key xs).length ≤ key.length + 22 + (sumF xs + 44 * xs.length) := by
  have h1 := addL_len key (by omega)
  have h2 : ∀ ys : List Fld, sumF ys ≤ 1000000 → (ys.flatMap fun f => addL f.1 ++ addL f.2).length ≤ sumF ys + 44 * ys.length := by
    intro ys
    induction ys with
    | nil => intro _; simp
    | cons f t ih =>
      intro h
      have e : sumF (f :: t) = (f.1.length + f.2.length) + sumF t := by unfold sumF; rw [List.map_cons, List.sum_cons]
      have a1 := addL_len f.1 (by omega)
      have a2 := addL_len f.2 (by omega)
      have := ih (by omega)
      rw [List.flatMap_cons, List.length_append, List.length_append, List.length_cons]
      omega
  unfold nameL
  rw [List.length_append]
  have := h2 xs hs
  omega

theorem below_others {w w1 : World} (h : Below w.heap.size w w1) (T : TypeId) (b : Option Nat) : Lib.OthersKept T b w w1 := fun k o hk _ _ => by
  rcases Nat.lt_or_ge k w.heap.size with h' | h'
  · exact (h.block k h').trans hk
  · simp [Array.getElem?_eq_none h'] at hk
set_option maxHeartbeats 4000000 in
theorem add_any (B b : Nat) (l : List UInt8) (s : ByteArray) (w : World) (hI : IsB B b l w) (hl : l.length + s.size + 50 ≤ 140737488355328) (hs : s.size ≤ 1000000000) (hB : B ≤ w.heap.size) (ht : TabN w) :
    Calls Tryd.prog 47 #[.string s, .pointer (some ⟨b, 0, none⟩)] w fun e w' => e = .returned (.tuple #[]) ∧ IsB B b (l ++ addL s.data.toList) w' ∧ Below B w w' ∧ Lib.OthersKept 5 (some b) w w' := by
  have k1 := itoaN (s.size : Int) (by omega) (by omega) w ht
  have hil := Lib.itoa_length_le (s.size : Int) (by omega) (by omega)
  have he : addL s.data.toList = Lib.itoa (s.size : Int) ++ 32 :: s.data.toList := by unfold addL; rw [Lib.size_eq]
  rw [he]
  generalize Lib.itoa (s.size : Int) = it at *
  obtain ⟨o, rfl⟩ : ∃ o : ByteArray, it = o.data.toList := ⟨⟨it.toArray⟩, rfl⟩
  simp only [str_of] at k1
  have ho : o.size ≤ 21 := by rw [Lib.size_eq]; exact hil
  have K1 := Lib.hid k1; have HI := Lib.hid hI; have HE := Lib.hid he
  clear k1 hI hil he ht
  have p1 : ¬ (9223372036854775807 : Int) < (o.size : Int) + 1 := by omega
  have p2 : ¬ (9223372036854775807 : Int) < (o.size : Int) + 1 + (s.size : Int) := by omega
  go_enter Tryd.func47, Tryd.ntmps47
  go_wp2_with fail
  (with_reducible refine K1.out.mono ?_)
  rintro e w1 ⟨rfl, hb1⟩
  have k2 := writeString_any B b l (o ++ ⟨#[32]⟩ ++ s) w1 (HI.out.below hb1) (by rw [ByteArray.size_append, ByteArray.size_append]; have : (⟨#[32]⟩ : ByteArray).size = 1 := rfl; omega) (by have := hb1.size; omega)
  have K2 := Lib.hid k2
  clear k2
  go_wp2_with fail
  (with_reducible refine K2.out.mono ?_)
  rintro e w2 ⟨rfl, hI2, hb2, ho2⟩
  go_wp2
  go_end0
  refine ⟨rfl, ?_, (hb1.mono hB).trans hb2, Lib.OthersKept.trans (below_others hb1 _ _) ho2⟩
  have e2 : (o ++ ⟨#[32]⟩ ++ s).data.toList = o.data.toList ++ 32 :: s.data.toList := by simp
  rw [e2] at hI2
  exact hI2
theorem fresh_BS (w : World) : IsB w.heap.size w.heap.size [] (w.alloc (.cells #[.pointer none, .slice none 0 0] 75)) :=
  Lib.IsBuilderF.of (Lib.fresh_isBuilder 75 5 w)
set_option maxHeartbeats 8000000 in
theorem name_any (key : List UInt8) (A : Option Addr) (n c : Nat) (xs : List Fld) (w : World) (hr : Rd A n 2 (fldsV xs) w) (hn : n ≤ 1000000) (hs : sumF xs ≤ 1000000) (hk : key.length ≤ 1000000) (ht : TabN w) :
    Calls Tryd.prog 28 #[.string ⟨key.toArray⟩, .slice A n c] w fun e w' => e = .returned (.string ⟨(nameL key xs).toArray⟩) ∧ Below w.heap.size w w' := by
  obtain rfl := hr.fld
  have hsn := nameL_snoc key xs
  have hlen : ∀ k, (nameL key (xs.take k)).length ≤ 100000000 := by
    intro k
    have h1 := nameL_len key (xs.take k) hk (Nat.le_trans (sumF_take xs k) hs); have h2 := sumF_take xs k
    have h3 : (xs.take k).length ≤ xs.length := by rw [List.length_take]; omega
    omega
  have hS := fun f (hf : f ∈ xs) => Nat.le_trans (sumF_mem hf) hs
  have hT : nameL key (xs.take xs.length) = nameL key xs := by rw [List.take_length]
  have hT0 : nameL key (xs.take 0) = addL key := by unfold nameL; simp
  have k0 := add_any w.heap.size w.heap.size [] ⟨key.toArray⟩ (w.alloc (.cells #[.pointer none, .slice none 0 0] 75)) (fresh_BS w) (by rw [mkS_size]; simp; omega) (by rw [mkS_size]; omega) (by simp) (ht.on ((Below.refl _ w).alloc (Nat.le_refl _) _))
  simp only [List.nil_append] at k0
  have hal := (Below.refl w.heap.size w).alloc (Nat.le_refl _) (.cells #[.pointer none, .slice none 0 0] 75)
  have HT := Lib.hid hT; have HT0 := Lib.hid hT0; have K0 := Lib.hid k0; have HR := Lib.hid hr; have HS := Lib.hid hS; have HSN := Lib.hid hsn; have HL := Lib.hid hlen; have HTB := Lib.hid ht
  clear k0 hr hs hsn hlen hS hT hT0 ht
  generalize nameL key xs = tot at *
  go_enter Tryd.func28, Tryd.ntmps28
  go_wp2_with fail
  (with_reducible refine K0.out.mono ?_)
  rintro e w1 ⟨rfl, hI1, hb1, -⟩
  have hB1 := hal.trans hb1
  have HI1 := Lib.hid hI1
  clear hal hb1 hI1 K0
  go_wp2_with fail
  go_loopw [15] (fun i wr => ∃ k : Nat, k ≤ xs.length ∧ i = .int .i64 k ∧ Below w.heap.size w wr ∧ Hid (IsB w.heap.size w.heap.size (nameL key (xs.take k)) wr)) (fun i _ => xs.length - (intOf i).toNat)
  case atStart => exact ⟨0, Nat.zero_le _, rfl, hB1, by rw [HT0.out]; exact HI1⟩
  case round =>
    clear hB1 HI1 HT0
    obtain ⟨k, hk, rfl, hbw, HB⟩ := hrel
    by_cases hlt : k < xs.length
    · obtain ⟨b, o, rfl, hl, c1, c2⟩ := (HR.out.below hbw).fld_at (k := k) hlt
      have hf := HS.out xs[k] (List.getElem_mem _)
      have hsn := HSN.out k hlt
      generalize xs[k] = f at *
      obtain ⟨f1, f2⟩ := f
      simp only at c1 c2 hf hsn
      have hle := HL.out k
      obtain ⟨W, hW⟩ : ∃ W, wr.alloc (.cells #[.string ⟨f1.toArray⟩, .string ⟨f2.toArray⟩] 62) = W := ⟨_, rfl⟩
      have bW : Below wr.heap.size wr W := by rw [← hW]; exact (Below.refl _ _).alloc (Nat.le_refl _) _
      have hAl := hbw.trans (bW.mono hbw.size)
      have xW : W.heap[wr.heap.size]? = some (.cells #[.string ⟨f1.toArray⟩, .string ⟨f2.toArray⟩] 62 (0, 0)) := by rw [← hW]; exact heap_new wr _ _ rfl
      have k2 := add_any w.heap.size w.heap.size _ ⟨f1.toArray⟩ W (HB.out.below bW) (by rw [mkS_size]; omega) (by rw [mkS_size]; omega) hAl.size (HTB.out.on hAl)
      have K2 := Lib.hid k2; have HSN2 := Lib.hid hsn; have HW := Lib.hid hW; have XW := Lib.hid xW
      have e1 := (of_heap xW 0).1; have e2 := (of_heap xW 1).1; have z1 := (of_heap xW 0).2.2
      clear hsn k2 hW bW xW
      go_wp2_with fail
      rw [HW.out]
      (with_reducible refine K2.out.mono ?_)
      rintro e w2 ⟨rfl, hI2, hb2, ho2⟩
      have hB2 := hAl.trans hb2
      have hle2 : (nameL key (xs.take k) ++ addL f1).length ≤ 100000000 + 1000022 := by
        have := addL_len f1 (by omega)
        rw [List.length_append]; omega
      have hne : w.heap.size < wr.heap.size := HB.out.lt
      have x2 := ho2 _ _ XW.out (by intro x; injection x with x; omega) (by
        intro c fz x
        injection x with _ x _
        exact absurd x (by decide))
      have e3 := (of_heap x2 1).1
      simp only [List.getElem?_toArray, List.getElem?_cons_succ, List.getElem?_cons_zero] at e3
      have k3 := add_any w.heap.size w.heap.size _ ⟨f2.toArray⟩ w2 hI2 (by rw [mkS_size]; omega) (by rw [mkS_size]; omega) hB2.size (HTB.out.on hB2)
      have K3 := Lib.hid k3
      clear k3 hI2 hb2 ho2 x2 e1 e2 K2
      go_wp2_with fail
      (with_reducible refine K3.out.mono ?_)
      rintro e w3 ⟨rfl, hI3, hb3, -⟩
      have hB3 := hB2.trans hb3
      have HI3 : Hid (IsB w.heap.size w.heap.size (nameL key (xs.take (k + 1))) w3) := by rw [HSN2.out]; exact Lib.hid hI3
      clear hI3 hb3 K3
      go_wp2_with fail
      go_roundw
      case rel => exact ⟨k + 1, by omega, by go_num, hB3, HI3⟩
      case measure => simp [intOf]; omega
    · have hke : k = xs.length := by omega
      subst hke
      have hI := HB.out
      rw [HT.out] at hI
      have k5 := Tryd.Builder_String_any_k w.heap.size w.heap.size tot wr hI hbw.size
      have K5 := Lib.hid k5; clear k5 hI
      go_wp2_with fail
      refine K5.out.mono ?_
      rintro e w5 ⟨rfl, -, hb5, -⟩
      go_wp2
      go_ret
      exact ⟨rfl, hbw.trans hb5⟩
end Go.Proofs.YtokhlmoanlcjmaaDoor
/- Store: what it is in memory; the walks of is, Len, Bytes, Keys. -/
namespace Go.Proofs.YtokhlmoanlcjmaaDoor
open Go.RowKit
set_option maxRecDepth 100000

/-- What an entry that is kept is: its rows are its own, its key is its name, it is small. -/
structure GoodE (w : World) (e : Ent) : Prop where
  f : OwnF 0 (.slice e.x.fA e.x.fn e.x.fc) e.x.fl w
  v : OwnF 0 (.slice e.x.vA e.x.vn e.x.vc) e.x.vl w
  key : e.key = ⟨(nameL e.x.key.data.toList e.x.vl).toArray⟩
  kl : e.x.key.size ≤ 1000
  fl : e.x.fl.length ≤ 100 ∧ sumF e.x.fl ≤ 10000
  vl : e.x.vl.length ≤ 100 ∧ sumF e.x.vl ≤ 10000
  num : 0 < e.x.num
theorem own_touch {fp : List Nat} {w w' : World} {B : Nat} {v : Value} {fs : List Fld} (h : OwnF B v fs w) (ht : Touch fp w w') (hk : ∀ b ∈ fp, ∀ cs T z, w.heap[b]? = some (.cells cs T z) → T ≠ 62) : OwnF B v fs w' := by
  refine ⟨h.1, ?_⟩
  rcases h.2 with h2 | ⟨g, cap, cur, hv, hg, hh, r⟩
  · exact Or.inl h2
  · refine Or.inr ⟨g, cap, cur, hv, hg, ?_, r⟩
    have hlt : g < w.heap.size := by
      rcases Nat.lt_or_ge g w.heap.size with h' | h'
      · exact h'
      · simp [Array.getElem?_eq_none h'] at hh
    exact (ht.2.2.2.2 g hlt (fun hm => hk g hm _ _ _ hh rfl)).trans hh
theorem GoodE.touch {fp : List Nat} {w w' : World} {e : Ent} (h : GoodE w e) (ht : Touch fp w w') (hk : ∀ b ∈ fp, ∀ cs T z, w.heap[b]? = some (.cells cs T z) → T ≠ 62) : GoodE w' e :=
  ⟨own_touch h.f ht hk, own_touch h.v ht hk, h.key, h.kl, h.fl, h.vl, h.num⟩
theorem GoodE.below {w w' : World} {e : Ent} (h : GoodE w e) (hb : Below w.heap.size w w') : GoodE w' e :=
  ⟨h.f.below hb, h.v.below hb, h.key, h.kl, h.fl, h.vl, h.num⟩
/-- A store stands here and keeps this. -/
structure StAt (w : World) (sb : Nat) (fp : List Nat) (bl : Nat) (n m : Int) (es : List Ent) (put : Int) : Prop where
  blk : w.heap[sb]? = some (.cells #[ptr bl, .int .i64 put] 57 (0, 0))
  bud : BQI w fp bl n m es
  sep : sb ∉ fp
  good : ∀ e ∈ es, GoodE w e ∧ e.x.num ≤ put
/-- A call turned it to this. -/
def StTo (w w' : World) (sb : Nat) (fp : List Nat) (bl : Nat) (n m : Int) (es : List Ent) (put : Int) : Prop :=
  ∃ fp', StAt w' sb fp' bl n m es put ∧ Touch (sb :: fp) w w' ∧ ∀ b ∈ fp', b ∈ fp ∨ w.heap.size ≤ b
theorem StAt.lt {w : World} {sb : Nat} {fp : List Nat} {bl : Nat} {n m : Int} {es : List Ent} {put : Int} (h : StAt w sb fp bl n m es put) : sb < w.heap.size := (of_heap h.blk 0).2.2
theorem StAt.low {w : World} {sb : Nat} {fp : List Nat} {bl : Nat} {n m : Int} {es : List Ent} {put : Int} (h : StAt w sb fp bl n m es put) : ∀ b ∈ sb :: fp, b < w.heap.size := by
  intro b hb
  rcases List.mem_cons.1 hb with rfl | hb
  · exact h.lt
  · exact h.bud.low b hb
theorem StAt.below {w w' : World} {sb : Nat} {fp : List Nat} {bl : Nat} {n m : Int} {es : List Ent} {put : Int} (h : StAt w sb fp bl n m es put) (hb : Below w.heap.size w w') : StAt w' sb fp bl n m es put :=
  ⟨(hb.block sb h.lt).trans h.blk, h.bud.below hb, h.sep, fun e he => ⟨(h.good e he).1.below hb, (h.good e he).2⟩⟩
theorem StAt.kind {w : World} {sb : Nat} {fp : List Nat} {bl : Nat} {n m : Int} {es : List Ent} {put : Int} (h : StAt w sb fp bl n m es put) : ∀ b ∈ sb :: fp, ∀ cs T z, w.heap[b]? = some (.cells cs T z) → T ≠ 62 := by
  intro b hb cs T z hc
  rcases List.mem_cons.1 hb with rfl | hb
  · rw [h.blk] at hc
    injection hc with hc
    injection hc with _ hc _
    rw [← hc]; decide
  · rcases h.bud.kind b hb cs T z hc with e | e <;> rw [e] <;> decide
theorem StTo.same {w w' : World} {sb : Nat} {fp : List Nat} {bl : Nat} {n m : Int} {es : List Ent} {put : Int} (h : StAt w sb fp bl n m es put) (hb : Below w.heap.size w w') : StTo w w' sb fp bl n m es put :=
  ⟨fp, h.below hb, Touch.of_below hb (Touch.refl _ _), fun _ hb => Or.inl hb⟩
/-- The budget was turned, the store's own block was not. -/
theorem StAt.turn {w w' : World} {sb : Nat} {fp : List Nat} {bl : Nat} {n m : Int} {es es' : List Ent} {put : Int} (h : StAt w sb fp bl n m es put) (hs : StI w w' fp bl n m es') (hsub : ∀ e ∈ es', GoodE w' e ∧ e.x.num ≤ put) : StTo w w' sb fp bl n m es' put := by
  obtain ⟨fp', hb, ht, hf⟩ := hs
  refine ⟨fp', ⟨(ht.2.2.2.2 sb h.lt h.sep).trans h.blk, hb, fun hm => ?_, hsub⟩, ht.mono (fun b hb => Or.inl (List.mem_cons_of_mem _ hb)), hf⟩
  rcases hf sb hm with h' | h'
  · exact h.sep h'
  · have := h.lt; omega
theorem StAt.goodsub {w w' : World} {sb : Nat} {fp fp2 : List Nat} {bl : Nat} {n m : Int} {es es' : List Ent} {put : Int} (h : StAt w sb fp bl n m es put) (ht : Touch fp2 w w') (hfp : ∀ b ∈ fp2, b ∈ sb :: fp) (hsub : ∀ e ∈ es', e ∈ es) : ∀ e ∈ es', GoodE w' e ∧ e.x.num ≤ put :=
  fun e he => ⟨(h.good e (hsub e he)).1.touch ht (fun b hb => h.kind b (hfp b hb)), (h.good e (hsub e he)).2⟩
theorem StTo.trans {w w1 w2 : World} {sb : Nat} {fp fp1 : List Nat} {bl : Nat} {n m : Int} {es : List Ent} {put : Int} (h : Touch (sb :: fp) w w1) (hf : ∀ b ∈ fp1, b ∈ fp ∨ w.heap.size ≤ b) (h2 : StTo w1 w2 sb fp1 bl n m es put) : StTo w w2 sb fp bl n m es put := by
  obtain ⟨fp2, ha, ht, hg⟩ := h2
  refine ⟨fp2, ha, h.trans ht (fun b hb => ?_), fun b hb => ?_⟩
  · rcases List.mem_cons.1 hb with rfl | hb
    · exact Or.inl List.mem_cons_self
    · exact (hf b hb).imp (List.mem_cons_of_mem _) id
  · rcases hg b hb with h' | h'
    · exact hf b h'
    · exact Or.inr (Nat.le_trans h.2.2.2.1 h')

set_option maxHeartbeats 2000000 in
theorem is19_any {w : World} {sb : Nat} {fp : List Nat} {bl : Nat} {n m : Int} {es : List Ent} {put : Int} (h : StAt w sb fp bl n m es put) :
    Calls Tryd.prog 27 #[.pointer (some ⟨sb, 0, none⟩)] w fun e w' => e = .returned (.bool true) ∧ w = w' := by
  have c0 := (of_heap h.blk 0).1
  simp only [List.getElem?_toArray, List.getElem?_cons_zero] at c0
  unfold ptr at c0
  clear h
  go_enter Tryd.func27, Tryd.ntmps27
  go_wp2
  go_ret
  exact ⟨rfl, rfl⟩
set_option maxHeartbeats 2000000 in
theorem len19_any {w : World} {sb : Nat} {fp : List Nat} {bl : Nat} {n m : Int} {es : List Ent} {put : Int} (h : StAt w sb fp bl n m es put) :
    Calls Tryd.prog 19 #[.pointer (some ⟨sb, 0, none⟩)] w fun e w' => e = .returned (.int .i64 es.length) ∧ w = w' := by
  have c0 := (of_heap h.blk 0).1
  simp only [List.getElem?_toArray, List.getElem?_cons_zero] at c0
  unfold ptr at c0
  have K1 := Lib.hid (is19_any h)
  have K2 := Lib.hid (lenI_q h.bud)
  clear h
  go_enter Tryd.func19, Tryd.ntmps19
  go_wp2_with fail
  (with_reducible refine K1.out.mono ?_)
  rintro e w1 ⟨rfl, rfl⟩
  go_wp2_with fail
  (with_reducible refine K2.out.mono ?_)
  rintro e w1 ⟨rfl, rfl⟩
  go_wp2
  go_ret
  exact ⟨rfl, rfl⟩
set_option maxHeartbeats 2000000 in
theorem bytes19_any {w : World} {sb : Nat} {fp : List Nat} {bl : Nat} {n m : Int} {es : List Ent} {put : Int} (h : StAt w sb fp bl n m es put) :
    Calls Tryd.prog 20 #[.pointer (some ⟨sb, 0, none⟩)] w fun e w' => e = .returned (.int .i64 (sumE es)) ∧ w = w' := by
  have c0 := (of_heap h.blk 0).1
  simp only [List.getElem?_toArray, List.getElem?_cons_zero] at c0
  unfold ptr at c0
  have K1 := Lib.hid (is19_any h)
  have K2 := Lib.hid (bytesI_q h.bud)
  clear h
  go_enter Tryd.func20, Tryd.ntmps20
  go_wp2_with fail
  (with_reducible refine K1.out.mono ?_)
  rintro e w1 ⟨rfl, rfl⟩
  go_wp2_with fail
  (with_reducible refine K2.out.mono ?_)
  rintro e w1 ⟨rfl, rfl⟩
  go_wp2
  go_ret
  exact ⟨rfl, rfl⟩
theorem find_mid {p q : List Ent} {e : Ent} (h : ((p ++ e :: q).map (·.key)).Nodup) : findE e.key (p ++ e :: q) = some e := by
  unfold findE
  rw [List.find?_append]
  have hp : p.find? (keyIs e.key) = none := by
    rw [List.find?_eq_none]
    intro x hx hk
    have hk := keyIs_iff.1 hk
    rw [List.map_append, List.map_cons, List.nodup_append] at h
    exact h.2.2 x.key (List.mem_map.2 ⟨x, hx, rfl⟩) e.key (by simp) hk
  rw [hp, List.find?_cons, keyIs_iff.2 rfl]; rfl
theorem find_at {es : List Ent} (hnd : (es.map (·.key)).Nodup) {k : Nat} (hk : k < es.length) : findE es[k].key es = some es[k] := by
  have h := List.take_append_drop k es
  rw [List.drop_eq_getElem_cons hk] at h
  have h2 := find_mid (p := es.take k) (q := es.drop (k + 1)) (e := es[k]) (by rw [h]; exact hnd)
  rw [h] at h2
  exact h2
set_option maxHeartbeats 8000000 in
theorem keys19_any {w : World} {sb : Nat} {fp : List Nat} {bl : Nat} {n m : Int} {es : List Ent} {put : Int} (h : StAt w sb fp bl n m es put) :
    Calls Tryd.prog 18 #[.pointer (some ⟨sb, 0, none⟩)] w (TextsPost w (es.map fun e => e.x.key.data.toList)) := by
  have c0 := (of_heap h.blk 0).1
  have z0 := h.lt
  simp only [List.getElem?_toArray, List.getElem?_cons_zero] at c0
  unfold ptr at c0
  have hlen : es.length ≤ 4096 := by have := h.bud.ends; omega
  have hkm := h.bud.sz
  have hpk := fun (k : Nat) (hk : k < es.length) (W : World) (hb : Below w.heap.size w W) => peekI_q (h.bud.below hb) es[k].key (hkm _ (List.getElem_mem hk)).2
  have hfk := fun (k : Nat) (hk : k < es.length) => find_at h.bud.nd hk
  have hLk : ∀ (k : Nat) (hk : k < es.length), (es.map fun e => e.x.key.data.toList).take (k + 1) = (es.map fun e => e.x.key.data.toList).take k ++ [es[k].x.key.data.toList] := by
    intro k hk
    rw [List.take_succ_eq_append_getElem (by rw [List.length_map]; exact hk), List.getElem_map]
  have hLl : (es.map fun e => e.x.key.data.toList).length = es.length := by rw [List.length_map]
  have hLa : (es.map fun e => e.x.key.data.toList).take es.length = es.map fun e => e.x.key.data.toList := by rw [← hLl, List.take_length]
  have hL0 : (es.map fun e => e.x.key.data.toList).take 0 = [] := rfl
  generalize (es.map fun e => e.x.key.data.toList) = L at *
  have HLK := Lib.hid hLk; have HLL := Lib.hid hLl; have HLA := Lib.hid hLa; have HL0 := Lib.hid hL0
  clear hLk hLl hLa hL0
  have K1 := Lib.hid (is19_any h)
  have K2 := Lib.hid (keysI_q h.bud)
  have KP := Lib.hid hpk; have KF := Lib.hid hfk
  clear h hkm hpk hfk
  go_enter Tryd.func18, Tryd.ntmps18
  go_wp2_with fail
  (with_reducible refine K1.out.mono ?_)
  rintro e w1 ⟨rfl, rfl⟩
  go_wp2_with fail
  (with_reducible refine K2.out.mono ?_)
  rintro e w1 ⟨ka, kc, rfl, hO, hb1⟩
  have hRK := hO.rd.2
  have hkl : (strs (es.map (·.key))).length = es.length := by unfold strs; simp
  have HRK := Lib.hid hRK; have HKL := Lib.hid hkl
  have d0 : w1.cell? ⟨sb, 0, none⟩ = some (.pointer (some ⟨bl, 0, none⟩)) := (hb1.cell (p := ⟨sb, 0, none⟩) z0).trans c0
  clear hO hRK K1 K2
  rw [hkl]
  clear hkl
  go_wp2_with fail
  go_loopw [17, 3] (fun i out wr => ∃ k : Nat, k ≤ es.length ∧ i = .int .i64 k ∧ Hid (OwnS w1.heap.size out (L.take k) wr) ∧ Below w1.heap.size w1 wr) (fun i _ _ => es.length - (intOf i).toNat)
  case atStart => exact ⟨0, Nat.zero_le _, rfl, by rw [HL0.out]; exact Lib.hid (OwnS.nil _ _), Below.refl _ _⟩
  case round =>
    obtain ⟨k, hk, rfl, HO, hbw⟩ := hrel
    by_cases hlt : k < es.length
    · obtain ⟨b, o, rfl, hl, e1⟩ := (HRK.out.below hbw).str_at (k := k) (by rw [HKL.out]; exact hlt)
      have hst : (strs (es.map (·.key)))[k]'(by rw [HKL.out]; exact hlt) = es[k].key.data.toList := by unfold strs; simp
      rw [hst, str_of] at e1
      have d1 := (hbw.cell (p := ⟨sb, 0, none⟩) (Nat.lt_of_lt_of_le z0 hb1.size)).trans d0
      have kp := KP.out k hlt wr (bt hb1 hbw)
      unfold valE hasE at kp
      rw [KF.out k hlt] at kp
      have hsn := HLK.out k hlt
      have hol : (L.take k).length ≤ 1000000000 := by rw [List.length_take, HLL.out]; omega
      generalize es[k] = ex at *
      unfold Hv.val at kp
      have K3 := Lib.hid kp; have HSN := Lib.hid hsn
      clear kp hsn hst
      go_wp2_with fail
      (with_reducible refine K3.out.mono ?_)
      rintro e w3 ⟨rfl, hb3⟩
      have hB3 := bt hb1 (bt hbw hb3)
      have ho3 := HO.out.below hb3
      have hB4 := bt hbw hb3
      clear HO hb3 K3
      obtain ⟨y, hy⟩ : ∃ y : List UInt8, ex.x.key = ⟨y.toArray⟩ := ⟨ex.x.key.data.toList, (str_back ex.x.key).symm⟩
      have hy2 : ex.x.key.data.toList = y := by rw [hy]
      rw [hy2] at HSN
      have HO3 := Lib.hid ho3
      clear ho3
      simp only [hy]
      obtain ⟨W, hW⟩ : ∃ W, w3.alloc (.cells #[.string ⟨y.toArray⟩, .int .i64 ex.x.st, .string ex.x.re, .int .i64 ex.x.mi, .slice ex.x.fA ex.x.fn ex.x.fc, .string ex.x.bo, .int .i64 ex.x.asked, .int .i64 ex.x.got, .slice ex.x.vA ex.x.vn ex.x.vc, .int .i64 ex.x.num] 60) = W := ⟨_, rfl⟩
      have bW : Below w3.heap.size w3 W := by rw [← hW]; exact (Below.refl _ _).alloc (Nat.le_refl _) _
      have xW : W.heap[w3.heap.size]? = some (.cells #[.string ⟨y.toArray⟩, .int .i64 ex.x.st, .string ex.x.re, .int .i64 ex.x.mi, .slice ex.x.fA ex.x.fn ex.x.fc, .string ex.x.bo, .int .i64 ex.x.asked, .int .i64 ex.x.got, .slice ex.x.vA ex.x.vn ex.x.vc, .int .i64 ex.x.num] 60 (0, 0)) := by rw [← hW]; exact heap_new w3 _ _ rfl
      have f0 := (of_heap xW 0).1
      simp only [List.getElem?_toArray, List.getElem?_cons_zero] at f0
      have HB4 := Lib.hid (bt hB4 bW)
      have HO4 := Lib.hid (HO3.out.below bW)
      have HB3 := Lib.hid (bt hB3 bW)
      have HW := Lib.hid hW
      clear hW bW xW HO3 hB3 hB4
      go_upto_region 8 with (fail)
      rw [HW.out]
      go_wp2_with (at_builtin; refine app_str w1.heap.size y HO4.out HB4.out.size hol rfl _ _ rfl rfl rfl ?_)
      intro v' w5 hO5 hb5 hfar
      have HO5 : Hid (OwnS w1.heap.size v' (L.take (k + 1)) w5) := by rw [HSN.out]; exact Lib.hid hO5
      clear hO5
      have hB5 := HB4.out.trans hb5
      go_wp2
      go_roundw
      case rel => exact ⟨k + 1, by omega, by go_num, HO5, hB5⟩
      case measure => simp [intOf]; omega
    · have hke : k = es.length := by omega
      subst hke
      have ho := HO.out
      rw [HLA.out] at ho
      obtain ⟨la, lc, rfl⟩ := ho.shape
      have HO1 := Lib.hid ho
      clear ho HO
      go_wp2
      go_ret
      exact ⟨la, lc, rfl, HO1.out.base hb1.size, bt hb1 hbw⟩
end Go.Proofs.YtokhlmoanlcjmaaDoor
/- Store: the walks of Remove, Put (printed by wip/tools/st5.py). -/
namespace Go.Proofs.YtokhlmoanlcjmaaDoor
open Go.RowKit
set_option maxRecDepth 100000

def nameB (key : List UInt8) (vl : List Fld) : ByteArray := ⟨(nameL key vl).toArray⟩
theorem nameB_size (key : List UInt8) (vl : List Fld) (hk : key.length ≤ 1000) (hv : vl.length ≤ 100) (hs : sumF vl ≤ 10000) : (nameB key vl).size ≤ 100000 := by
  have := nameL_len key vl (by omega) (by omega)
  unfold nameB
  rw [mkS_size]
  omega
theorem small_max {k : Nat} (h : k ≤ 100000) : k ≤ maxLen := by unfold maxLen; omega
set_option maxHeartbeats 16000000 in
theorem remove19_any {w : World} {sb : Nat} {fp : List Nat} {bl : Nat} {nn mm : Int} {es : List Ent} {put : Int} (h : StAt w sb fp bl nn mm es put) (key : List UInt8) (st mi asked got : Int) (re bo : ByteArray) (A V : Option Addr) (n c m d : Nat) (vl : List Fld) (hq : Rd V m 2 (fldsV vl) w) (hk : key.length ≤ 1000) (hm : vl.length ≤ 100) (hs : sumF vl ≤ 10000) (ht : TabN w) :
    Calls Tryd.prog 11 #[.pointer (some ⟨sb, 0, none⟩), .string ⟨key.toArray⟩, entV st re mi A n c bo asked got V m d] w fun e w' => e = .returned (.bool (hasE (nameB key vl) es)) ∧ StTo w w' sb fp bl nn mm (delE (nameB key vl) es) put := by
  have hkn := small_max (nameB_size key vl hk hm hs)
  unfold entV
  obtain ⟨W1, hW1⟩ : ∃ W1, w.alloc (.cells #[.int .i64 st, .string re, .int .i64 mi, .slice A n c, .string bo, .int .i64 asked, .int .i64 got, .slice V m d] 33) = W1 := ⟨_, rfl⟩
  have b1 : Below w.heap.size w W1 := by rw [← hW1]; exact (Below.refl w.heap.size w).alloc (Nat.le_refl _) _
  have x1 : W1.heap[w.heap.size]? = some (.cells #[.int .i64 st, .string re, .int .i64 mi, .slice A n c, .string bo, .int .i64 asked, .int .i64 got, .slice V m d] 33 (0, 0)) := by rw [← hW1]; exact heap_new w _ _ rfl
  have z1 : w.heap.size < W1.heap.size := by rw [← hW1]; simp
  have hl := h.lt
  have kc : ∀ w', Below W1.heap.size W1 w' → w'.cell? ⟨sb, 0, none⟩ = some (.pointer (some ⟨bl, 0, none⟩)) ∧ w'.cell? ⟨w.heap.size, 7, none⟩ = some (.slice V m d) := fun w' hb => by
    have x4 := (hb.block w.heap.size z1).trans x1
    have x5 := ((bt b1 hb).block sb hl).trans h.blk
    exact ⟨(of_heap x5 0).1, (of_heap x4 7).1⟩
  have ki := fun W (hb : Below W1.heap.size W1 W) => is19_any (h.below (bt b1 hb))
  have kn := fun W (hb : Below W1.heap.size W1 W) => name_any key V m d vl W (hq.below (bt b1 hb)) (by have := hq.fld; omega) (by omega) (by omega) (ht.on (bt b1 hb))
  have kd := fun W (hb : Below W1.heap.size W1 W) => dropI_q (h.bud.below (bt b1 hb)) (nameB key vl) hkn
  have kf : ∀ W w', Below W1.heap.size W1 W → StI W w' fp bl nn mm (delE (nameB key vl) es) → StTo w w' sb fp bl nn mm (delE (nameB key vl) es) put ∧ (w'.cell? ⟨sb, 0, none⟩ = some (.pointer (some ⟨bl, 0, none⟩)) ∧ w'.cell? ⟨w.heap.size, 7, none⟩ = some (.slice V m d)) := fun W w' hb hst => by
    have hW := h.below (bt b1 hb)
    have hto := hW.turn hst (hW.goodsub hst.choose_spec.2.1 (fun b hb => List.mem_cons_of_mem _ hb) (fun e he => (List.mem_filter.1 he).1))
    have htc := hst.choose_spec.2.1
    have x4 := (hb.block w.heap.size z1).trans x1
    have x5 := (htc.2.2.2.2 w.heap.size (of_heap x4 0).2.2 (fun hm => by have := h.low _ (List.mem_cons_of_mem _ hm); omega)).trans x4
    have x6 := (htc.2.2.2.2 sb hW.lt hW.sep).trans hW.blk
    exact ⟨StTo.trans (Touch.of_below (bt b1 hb) (Touch.refl _ _)) (fun b hb => Or.inl hb) hto, (of_heap x6 0).1, (of_heap x5 7).1⟩
  have hd0 : Below W1.heap.size W1 W1.drew := (Below.refl _ _).drew
  have HW1 := Lib.hid hW1; have KC := Lib.hid kc; have KI := Lib.hid ki; have KN := Lib.hid kn; have KD := Lib.hid kd; have KF := Lib.hid kf
  clear hW1 b1 x1 z1 kc ki kn kd kf h hq ht hkn hl
  unfold nameB at *
  go_enter Tryd.func11, Tryd.ntmps11
  go_upto_region 1 with (fail)
  rw [HW1.out]
  refine wp_region_held_drew (S := (fun w' => w'.cell? ⟨sb, 0, none⟩ = some (.pointer (some ⟨bl, 0, none⟩)) ∧ w'.cell? ⟨w.heap.size, 7, none⟩ = some (.slice V m d))) (by kernel_rfl) (KC.out _ hd0) (fun hHeld => ?_)
  refine wpAnyH_take (i := 0) (v := ?_) (by simp only [List.getElem?_toArray, List.getElem?_cons_zero]; exact rfl) (by kernel_rfl) (by kernel_rfl) (by kernel_rfl) (by intro _ _ _ h; exact h) (Or.inl ⟨by rfl, fun W hSw => ?_⟩) hHeld ?_
  rotate_left
  focus ((try dsimp only at hSw); first | (go_simp; done) | (go_simp; with_reducible rfl))
  try simp only [Act.put, List.setIfInBounds_toArray, List.set_cons_zero, List.set_cons_succ]
  refine wpAnyH_ready (rs := [1]) (by kernel_rfl) (by simp) (AllReadyH.cons (by simp only [List.getElem?_toArray, List.getElem?_cons_succ, List.getElem?_cons_zero]; exact rfl) (fun K hK => ?_) AllReadyH.nil)
  rw [if_pos (by rfl)]
  go_simp
  (with_reducible refine (KI.out _ hd0).mono ?_); rintro e v1 ⟨rfl, rfl⟩; go_wp2_with fail
  refine hK.out _ _ (KC.out _ hd0) (fun hHeld => ?_)
  clear hK K
  try simp only [Act.put, List.setIfInBounds_toArray, List.set_cons_zero, List.set_cons_succ]
  refine wpAnyH_take (i := 2) (v := ?_) (by simp only [List.getElem?_toArray, List.getElem?_cons_succ, List.getElem?_cons_zero]; exact rfl) (by kernel_rfl) (by kernel_rfl) (by kernel_rfl) (by intro _ _ _ h; exact h) (Or.inl ⟨by rfl, fun W hSw => ?_⟩) hHeld ?_
  rotate_left
  focus ((try dsimp only at hSw); first | (go_simp; done) | (go_simp; with_reducible rfl))
  try simp only [Act.put, List.setIfInBounds_toArray, List.set_cons_zero, List.set_cons_succ]
  refine wpAnyH_take (i := 3) (v := ?_) (by simp only [List.getElem?_toArray, List.getElem?_cons_succ, List.getElem?_cons_zero]; exact rfl) (by kernel_rfl) (by kernel_rfl) (by kernel_rfl) (by intro _ _ _ h; exact h) (Or.inl ⟨by rfl, fun W hSw => ?_⟩) hHeld ?_
  rotate_left
  focus ((try dsimp only at hSw); first | (go_simp; done) | (go_simp; with_reducible rfl))
  try simp only [Act.put, List.setIfInBounds_toArray, List.set_cons_zero, List.set_cons_succ]
  refine wpAnyH_take (i := 4) (v := ?_) (by simp only [List.getElem?_toArray, List.getElem?_cons_succ, List.getElem?_cons_zero]; exact rfl) (by kernel_rfl) (by kernel_rfl) (by kernel_rfl) (by intro _ _ _ h; exact h) (Or.inl ⟨by rfl, fun W hSw => ?_⟩) hHeld ?_
  rotate_left
  focus ((try dsimp only at hSw); first | (go_simp; done) | (go_simp; with_reducible rfl))
  try simp only [Act.put, List.setIfInBounds_toArray, List.set_cons_zero, List.set_cons_succ]
  refine wpAnyH_take (i := 5) (v := ?_) (by simp only [List.getElem?_toArray, List.getElem?_cons_succ, List.getElem?_cons_zero]; exact rfl) (by kernel_rfl) (by kernel_rfl) (by kernel_rfl) (by intro _ _ _ h; exact h) (Or.inl ⟨by rfl, fun W hSw => ?_⟩) hHeld ?_
  rotate_left
  focus ((try dsimp only at hSw); first | (go_simp; done) | (go_simp; with_reducible rfl))
  try simp only [Act.put, List.setIfInBounds_toArray, List.set_cons_zero, List.set_cons_succ]
  refine wpAnyH_take (i := 6) (v := ?_) (by simp only [List.getElem?_toArray, List.getElem?_cons_succ, List.getElem?_cons_zero]; exact rfl) (by kernel_rfl) (by kernel_rfl) (by kernel_rfl) (by intro _ _ _ h; exact h) (Or.inl ⟨by rfl, fun W hSw => ?_⟩) hHeld ?_
  rotate_left
  focus ((try dsimp only at hSw); first | (go_simp; done) | (go_simp; with_reducible rfl))
  try simp only [Act.put, List.setIfInBounds_toArray, List.set_cons_zero, List.set_cons_succ]
  refine wpAnyH_take (i := 7) (v := ?_) (by simp only [List.getElem?_toArray, List.getElem?_cons_succ, List.getElem?_cons_zero]; exact rfl) (by kernel_rfl) (by kernel_rfl) (by kernel_rfl) (by intro _ _ _ h; exact h) (Or.inl ⟨by rfl, fun W hSw => ?_⟩) hHeld ?_
  rotate_left
  focus ((try dsimp only at hSw); first | (go_simp; done) | (go_simp; with_reducible rfl))
  try simp only [Act.put, List.setIfInBounds_toArray, List.set_cons_zero, List.set_cons_succ]
  refine wpAnyH_take (i := 8) (v := ?_) (by simp only [List.getElem?_toArray, List.getElem?_cons_succ, List.getElem?_cons_zero]; exact rfl) (by kernel_rfl) (by kernel_rfl) (by kernel_rfl) (by intro _ _ _ h; exact h) (Or.inl ⟨by rfl, fun W hSw => ?_⟩) hHeld ?_
  rotate_left
  focus ((try dsimp only at hSw); first | (go_simp; done) | (go_simp; with_reducible rfl))
  try simp only [Act.put, List.setIfInBounds_toArray, List.set_cons_zero, List.set_cons_succ]
  refine wpAnyH_take (i := 9) (v := ?_) (by simp only [List.getElem?_toArray, List.getElem?_cons_succ, List.getElem?_cons_zero]; exact rfl) (by kernel_rfl) (by kernel_rfl) (by kernel_rfl) (by intro _ _ _ h; exact h) (Or.inl ⟨by rfl, fun W hSw => ?_⟩) hHeld ?_
  rotate_left
  focus ((try dsimp only at hSw); first | (go_simp; done) | (go_simp; with_reducible rfl))
  try simp only [Act.put, List.setIfInBounds_toArray, List.set_cons_zero, List.set_cons_succ]
  refine wpAnyH_ready (rs := [10]) (by kernel_rfl) (by simp) (AllReadyH.cons (by simp only [List.getElem?_toArray, List.getElem?_cons_succ, List.getElem?_cons_zero]; exact rfl) (fun K hK => ?_) AllReadyH.nil)
  rw [if_pos (by rfl)]
  go_simp
  (with_reducible refine (KN.out _ hd0).mono ?_); rintro e v2 ⟨rfl, hv2⟩; have hd2 := bt hd0 hv2; go_wp2_with fail
  refine hK.out _ _ (KC.out _ hd2) (fun hHeld => ?_)
  clear hK K
  try simp only [Act.put, List.setIfInBounds_toArray, List.set_cons_zero, List.set_cons_succ]
  refine wpAnyH_ready (rs := [11]) (by kernel_rfl) (by simp) (AllReadyH.cons (by simp only [List.getElem?_toArray, List.getElem?_cons_succ, List.getElem?_cons_zero]; exact rfl) (fun K hK => ?_) AllReadyH.nil)
  rw [if_pos (by rfl)]
  go_simp
  (with_reducible refine (KD.out _ hd2).mono ?_); rintro e v3 ⟨rfl, hst⟩; have kf := KF.out _ _ hd2 hst; go_wp2_with fail
  refine hK.out _ _ (kf.2) (fun hHeld => ?_)
  clear hK K
  try simp only [Act.put, List.setIfInBounds_toArray, List.set_cons_zero, List.set_cons_succ]
  refine wpAnyH_take (i := 12) (v := ?_) (by simp only [List.getElem?_toArray, List.getElem?_cons_succ, List.getElem?_cons_zero]; exact rfl) (by kernel_rfl) (by kernel_rfl) (by kernel_rfl) (by intro _ _ _ h; exact h) (Or.inl ⟨by rfl, fun W hSw => ?_⟩) hHeld ?_
  rotate_left
  focus ((try dsimp only at hSw); first | (go_simp; done) | (go_simp; with_reducible rfl))
  try simp only [Act.put, List.setIfInBounds_toArray, List.set_cons_zero, List.set_cons_succ]
  refine wpAnyH_take (i := 13) (v := ?_) (by simp only [List.getElem?_toArray, List.getElem?_cons_succ, List.getElem?_cons_zero]; exact rfl) (by kernel_rfl) (by kernel_rfl) (by kernel_rfl) (by intro _ _ _ h; exact h) (Or.inl ⟨by rfl, fun W hSw => ?_⟩) hHeld ?_
  rotate_left
  focus ((try dsimp only at hSw); first | (go_simp; done) | (go_simp; with_reducible rfl))
  try simp only [Act.put, List.setIfInBounds_toArray, List.set_cons_zero, List.set_cons_succ]
  refine wpAnyH_done (by kernel_rfl) ?_ _
  clear hHeld
  go_wp2
  go_ret
  exact ⟨rfl, kf.1⟩
theorem evE_sub (n m : Int) : ∀ (es : List Ent), (evE n m es).2.Sublist es
  | [] => List.Sublist.refl _
  | e :: t => by
    rw [evE]
    split
    · exact (evE_sub n m t).trans (List.sublist_cons_self _ _)
    · exact List.Sublist.refl _
theorem putE_mem {n m : Int} {k : ByteArray} {s : Int} {x : Hv} {es : List Ent} {e : Ent} (h : e ∈ (putE n m k s x es).2) : e ∈ es ∨ e = ⟨k, max 0 s, x⟩ := by
  unfold putE at h
  split at h
  · exact Or.inl (List.mem_filter.1 h).1
  · rcases List.mem_append.1 ((evE_sub _ _ _).subset h) with h | h
    · exact Or.inl (List.mem_filter.1 h).1
    · exact Or.inr (List.mem_singleton.1 h)
theorem StTo.then {w w1 w2 : World} {sb : Nat} {fp : List Nat} {bl : Nat} {n m : Int} {es : List Ent} {put : Int} (h : StTo w w1 sb fp bl n m es put) (hb : Below w1.heap.size w1 w2) : StTo w w2 sb fp bl n m es put := by
  obtain ⟨fp', ha, ht, hf⟩ := h
  exact ⟨fp', ha.below hb, ht.trans (Touch.of_below hb (Touch.refl [] _)) (fun b hb => by cases hb), hf⟩
theorem StAt.inc {w : World} {sb : Nat} {fp : List Nat} {bl : Nat} {n m : Int} {es : List Ent} {put put' : Int} (h : StAt w sb fp bl n m es put) (hp : put ≤ put') : StAt (w.setCell ⟨sb, 1, none⟩ (.int .i64 put')) sb fp bl n m es put' ∧ Touch (sb :: fp) w (w.setCell ⟨sb, 1, none⟩ (.int .i64 put')) := by
  have ht : Touch [sb] w (w.setCell ⟨sb, 1, none⟩ (.int .i64 put')) := (Touch.refl _ _).setCell sb 1 _ (by simp)
  refine ⟨⟨?_, h.bud.keep ht (fun b hb x => h.sep (by rw [← List.mem_singleton.1 x]; exact hb)), h.sep, fun e he => ⟨(h.good e he).1.touch ht (fun b hb => h.kind b (by rw [List.mem_singleton.1 hb]; exact List.mem_cons_self)), by have := (h.good e he).2; omega⟩⟩, (Touch.refl _ _).setCell sb 1 _ List.mem_cons_self⟩
  have := h.blk
  simp [World.setCell, Array.getElem?_modify, this]
set_option maxHeartbeats 32000000 in
theorem put19_any {w : World} {sb : Nat} {fp : List Nat} {bl : Nat} {nn mm : Int} {es : List Ent} {put : Int} (h : StAt w sb fp bl nn mm es put) (key : List UInt8) (st mi asked got : Int) (re bo : ByteArray) (A V : Option Addr) (n c m d : Nat) (fl vl : List Fld) (hr : ∀ W, Touch (sb :: fp) w W → Rd A n 2 (fldsV fl) W) (hq : ∀ W, Touch (sb :: fp) w W → Rd V m 2 (fldsV vl) W) (hk : key.length ≤ 1000) (hn : fl.length ≤ 100) (hm : vl.length ≤ 100) (hs : sumF fl ≤ 10000) (hs2 : sumF vl ≤ 10000) (hre : re.size ≤ 10000) (hbo : bo.size ≤ 10000) (hp : 0 ≤ put ∧ put ≤ 1000) (ht : ∀ W, Touch (sb :: fp) w W → TabN W) :
    Calls Tryd.prog 10 #[.pointer (some ⟨sb, 0, none⟩), .string ⟨key.toArray⟩, entV st re mi A n c bo asked got V m d] w fun e w' => ∃ a ac v vc, e = .returned (.bool (hasE (nameB key vl) (putE nn mm (nameB key vl) (sizeZ ⟨key.toArray⟩ re bo fl vl) ⟨⟨key.toArray⟩, st, re, mi, a, fl.length, ac, bo, asked, got, v, vl.length, vc, put + 1, fl, vl⟩ es).2)) ∧ StTo w w' sb fp bl nn mm (putE nn mm (nameB key vl) (sizeZ ⟨key.toArray⟩ re bo fl vl) ⟨⟨key.toArray⟩, st, re, mi, a, fl.length, ac, bo, asked, got, v, vl.length, vc, put + 1, fl, vl⟩ es).2 (put + 1) := by
  have hkn := small_max (nameB_size key vl hk hm hs2)
  unfold entV
  obtain ⟨W1, hW1⟩ : ∃ W1, w.alloc (.cells #[.int .i64 st, .string re, .int .i64 mi, .slice A n c, .string bo, .int .i64 asked, .int .i64 got, .slice V m d] 33) = W1 := ⟨_, rfl⟩
  have b1 : Below w.heap.size w W1 := by rw [← hW1]; exact (Below.refl w.heap.size w).alloc (Nat.le_refl _) _
  have x1 : W1.heap[w.heap.size]? = some (.cells #[.int .i64 st, .string re, .int .i64 mi, .slice A n c, .string bo, .int .i64 asked, .int .i64 got, .slice V m d] 33 (0, 0)) := by rw [← hW1]; exact heap_new w _ _ rfl
  have z1 : w.heap.size < W1.heap.size := by rw [← hW1]; simp
  have hl := h.lt
  have h1 := h.below b1
  obtain ⟨h2, t2⟩ := h1.inc (put' := put + 1) (by omega)
  obtain ⟨W2, hW2⟩ : ∃ W2, W1.setCell ⟨sb, 1, none⟩ (.int .i64 (put + 1)) = W2 := ⟨_, rfl⟩
  rw [hW2] at h2 t2
  have t02 : Touch (sb :: fp) w W2 := Touch.of_below b1 t2
  have z2 : w.heap.size < W2.heap.size := Nat.lt_of_lt_of_le z1 t2.2.2.2.1
  have x2 : W2.heap[w.heap.size]? = some (.cells #[.int .i64 st, .string re, .int .i64 mi, .slice A n c, .string bo, .int .i64 asked, .int .i64 got, .slice V m d] 33 (0, 0)) := (t2.2.2.2.2 _ z1 (fun hm => by have := h.low _ hm; omega)).trans x1
  have kc : ∀ w', Below W2.heap.size W2 w' → w'.cell? ⟨sb, 0, none⟩ = some (.pointer (some ⟨bl, 0, none⟩)) ∧ w'.cell? ⟨sb, 1, none⟩ = some (.int .i64 (put + 1)) ∧ w'.cell? ⟨w.heap.size, 0, none⟩ = some (.int .i64 st) ∧ w'.cell? ⟨w.heap.size, 1, none⟩ = some (.string re) ∧ w'.cell? ⟨w.heap.size, 2, none⟩ = some (.int .i64 mi) ∧ w'.cell? ⟨w.heap.size, 3, none⟩ = some (.slice A n c) ∧ w'.cell? ⟨w.heap.size, 4, none⟩ = some (.string bo) ∧ w'.cell? ⟨w.heap.size, 5, none⟩ = some (.int .i64 asked) ∧ w'.cell? ⟨w.heap.size, 6, none⟩ = some (.int .i64 got) ∧ w'.cell? ⟨w.heap.size, 7, none⟩ = some (.slice V m d) := fun w' hb => by
    have x4 := (hb.block w.heap.size z2).trans x2
    have x5 := (hb.block sb h2.lt).trans h2.blk
    exact ⟨(of_heap x5 0).1, (of_heap x5 1).1, (of_heap x4 0).1, (of_heap x4 1).1, (of_heap x4 2).1, (of_heap x4 3).1, (of_heap x4 4).1, (of_heap x4 5).1, (of_heap x4 6).1, (of_heap x4 7).1⟩
  have tk : ∀ W, Below W2.heap.size W2 W → Touch (sb :: fp) w W := fun W hb => t02.trans (Touch.of_below hb (Touch.refl (sb :: fp) _)) (fun b hb => Or.inl hb)
  have ki := is19_any h1
  have kn := fun W (hb : Below W2.heap.size W2 W) => name_any key V m d vl W (hq W (tk W hb)) (by have := (hq W (tk W hb)).fld; omega) (by omega) (by omega) (ht W (tk W hb))
  have ks := fun W (hb : Below W2.heap.size W2 W) => sizeOf_any ⟨key.toArray⟩ st mi asked got re bo A V n c m d fl vl W (hr W (tk W hb)) (hq W (tk W hb)) (by have := (hr W (tk W hb)).fld; omega) (by have := (hq W (tk W hb)).fld; omega) (by omega) (by omega) (by rw [mkS_size]; omega) (by omega) (by omega)
  have kl := fun W (hb : Below W2.heap.size W2 W) => clone_any st mi asked got re bo A V n c m d fl vl W (hr W (tk W hb)) (hq W (tk W hb)) (by have := (hr W (tk W hb)).fld; omega) (by have := (hq W (tk W hb)).fld; omega)
  have kp : ∀ W (a : Option Addr) (ac : Nat) (v : Option Addr) (vc : Nat), Below W2.heap.size W2 W → _ := fun W a ac v vc hb => putI_q (h2.bud.below hb) (nameB key vl) hkn (sizeZ ⟨key.toArray⟩ re bo fl vl) ⟨⟨key.toArray⟩, st, re, mi, a, fl.length, ac, bo, asked, got, v, vl.length, vc, put + 1, fl, vl⟩
  have kpk := fun W fp' es' (hb : BQI W fp' bl nn mm es') => peekI_q hb (nameB key vl) hkn
  have kf : ∀ W w' (a : Option Addr) (ac : Nat) (v : Option Addr) (vc : Nat) (fp' : List Nat), Below W2.heap.size W2 W → OwnF 0 (.slice a fl.length ac) fl W → OwnF 0 (.slice v vl.length vc) vl W → BQI w' fp' bl nn mm (putE nn mm (nameB key vl) (sizeZ ⟨key.toArray⟩ re bo fl vl) ⟨⟨key.toArray⟩, st, re, mi, a, fl.length, ac, bo, asked, got, v, vl.length, vc, put + 1, fl, vl⟩ es).2 → Touch fp W w' → (∀ b ∈ fp', b ∈ fp ∨ W.heap.size ≤ b) →
      (w'.cell? ⟨sb, 0, none⟩ = some (.pointer (some ⟨bl, 0, none⟩)) ∧ w'.cell? ⟨sb, 1, none⟩ = some (.int .i64 (put + 1)) ∧ w'.cell? ⟨w.heap.size, 0, none⟩ = some (.int .i64 st) ∧ w'.cell? ⟨w.heap.size, 1, none⟩ = some (.string re) ∧ w'.cell? ⟨w.heap.size, 2, none⟩ = some (.int .i64 mi) ∧ w'.cell? ⟨w.heap.size, 3, none⟩ = some (.slice A n c) ∧ w'.cell? ⟨w.heap.size, 4, none⟩ = some (.string bo) ∧ w'.cell? ⟨w.heap.size, 5, none⟩ = some (.int .i64 asked) ∧ w'.cell? ⟨w.heap.size, 6, none⟩ = some (.int .i64 got) ∧ w'.cell? ⟨w.heap.size, 7, none⟩ = some (.slice V m d)) ∧ StTo w w' sb fp bl nn mm (putE nn mm (nameB key vl) (sizeZ ⟨key.toArray⟩ re bo fl vl) ⟨⟨key.toArray⟩, st, re, mi, a, fl.length, ac, bo, asked, got, v, vl.length, vc, put + 1, fl, vl⟩ es).2 (put + 1) := fun W w' a ac v vc fp' hb hof hov hbq htc hff => by
    have hW := h2.below hb
    have hkd : ∀ b ∈ fp, ∀ cs T z, W.heap[b]? = some (.cells cs T z) → T ≠ 62 := fun b hb => hW.kind b (List.mem_cons_of_mem _ hb)
    have hgood : ∀ e ∈ (putE nn mm (nameB key vl) (sizeZ ⟨key.toArray⟩ re bo fl vl) ⟨⟨key.toArray⟩, st, re, mi, a, fl.length, ac, bo, asked, got, v, vl.length, vc, put + 1, fl, vl⟩ es).2, GoodE w' e ∧ e.x.num ≤ put + 1 := fun e he => by
      rcases putE_mem he with he | rfl
      · exact ⟨(hW.good e he).1.touch htc hkd, (hW.good e he).2⟩
      · exact ⟨⟨own_touch hof htc hkd, own_touch hov htc hkd, rfl, by rw [mkS_size]; exact hk, ⟨hn, hs⟩, ⟨hm, hs2⟩, by show 0 < put + 1; omega⟩, Int.le_refl _⟩
    have hto := hW.turn ⟨fp', hbq, htc, hff⟩ hgood
    have x4 := (hb.block w.heap.size z2).trans x2
    have x5 := (htc.2.2.2.2 w.heap.size (of_heap x4 0).2.2 (fun hm => by have := h.low _ (List.mem_cons_of_mem _ hm); omega)).trans x4
    have x6 := (htc.2.2.2.2 sb hW.lt hW.sep).trans hW.blk
    exact ⟨⟨(of_heap x6 0).1, (of_heap x6 1).1, (of_heap x5 0).1, (of_heap x5 1).1, (of_heap x5 2).1, (of_heap x5 3).1, (of_heap x5 4).1, (of_heap x5 5).1, (of_heap x5 6).1, (of_heap x5 7).1⟩, StTo.trans (tk W hb) (fun b hb => Or.inl hb) hto⟩
  have y0 := (of_heap h1.blk 0).1; have y1 := (of_heap h1.blk 1).1; have y2 := (of_heap h1.blk 1).2.1
  simp only [List.getElem?_toArray, List.getElem?_cons_succ, List.getElem?_cons_zero] at y0 y1 y2
  have a1 : IntKind.i64.wrap (put + 1) = put + 1 := by rw [IntKind.wrap_i64]; omega
  unfold entV at ks kl
  unfold Hv.val at kpk
  have HW1 := Lib.hid hW1; have HW2 := Lib.hid hW2; have KC := Lib.hid kc; have KI := Lib.hid ki; have KN := Lib.hid kn; have KS := Lib.hid ks; have KL := Lib.hid kl; have KPK := Lib.hid kpk; have KF := Lib.hid kf
  unfold Hv.val at kp
  simp only at kp
  have KP := Lib.hid kp
  clear hW1 hW2 b1 x1 z1 kc ki kn ks kl kp kf h hq hr ht hkn hl h1 h2 t2 t02 z2 x2 tk kpk
  unfold nameB ptr at *
  go_enter Tryd.func10, Tryd.ntmps10
  go_upto_region 1 with (fail)
  rw [HW1.out]
  go_wp2_with fail
  (with_reducible refine KI.out.mono ?_)
  rintro e w1 ⟨rfl, rfl⟩
  go_upto_region 4 with (fail)
  rw [HW2.out]
  have hd2 : Below W2.heap.size W2 W2 := Below.refl _ _
  clear y0 y1 y2 HW1 HW2 KI
  obtain ⟨y0, y1, g0, g1, g2, g3, g4, g5, g6, g7⟩ := KC.out _ hd2
  go_wp2_with fail
  (with_reducible refine (KN.out _ hd2).mono ?_)
  rintro e w3 ⟨rfl, hv3⟩
  have hd4 : Below W2.heap.size W2 w3.drew := (bt hd2 hv3).drew
  clear hd2 hv3 KN y0 y1 g0 g1 g2 g3 g4 g5 g6 g7
  go_upto_region 5 with (fail)
  refine wp_region_held_drew (S := (fun w' => w'.cell? ⟨sb, 0, none⟩ = some (.pointer (some ⟨bl, 0, none⟩)) ∧ w'.cell? ⟨sb, 1, none⟩ = some (.int .i64 (put + 1)) ∧ w'.cell? ⟨w.heap.size, 0, none⟩ = some (.int .i64 st) ∧ w'.cell? ⟨w.heap.size, 1, none⟩ = some (.string re) ∧ w'.cell? ⟨w.heap.size, 2, none⟩ = some (.int .i64 mi) ∧ w'.cell? ⟨w.heap.size, 3, none⟩ = some (.slice A n c) ∧ w'.cell? ⟨w.heap.size, 4, none⟩ = some (.string bo) ∧ w'.cell? ⟨w.heap.size, 5, none⟩ = some (.int .i64 asked) ∧ w'.cell? ⟨w.heap.size, 6, none⟩ = some (.int .i64 got) ∧ w'.cell? ⟨w.heap.size, 7, none⟩ = some (.slice V m d))) (by kernel_rfl) (KC.out _ hd4) (fun hHeld => ?_)
  refine wpAnyH_take (i := 0) (v := ?_) (by simp only [List.getElem?_toArray, List.getElem?_cons_zero]; exact rfl) (by kernel_rfl) (by kernel_rfl) (by kernel_rfl) (by intro _ _ _ h; exact h) (Or.inl ⟨by rfl, fun W hSw => ?_⟩) hHeld ?_
  rotate_left
  focus ((try dsimp only at hSw); first | (go_simp; done) | (go_simp; with_reducible rfl))
  try simp only [Act.put, List.setIfInBounds_toArray, List.set_cons_zero, List.set_cons_succ]
  refine wpAnyH_take (i := 1) (v := ?_) (by simp only [List.getElem?_toArray, List.getElem?_cons_succ, List.getElem?_cons_zero]; exact rfl) (by kernel_rfl) (by kernel_rfl) (by kernel_rfl) (by intro _ _ _ h; exact h) (Or.inl ⟨by rfl, fun W hSw => ?_⟩) hHeld ?_
  rotate_left
  focus ((try dsimp only at hSw); first | (go_simp; done) | (go_simp; with_reducible rfl))
  try simp only [Act.put, List.setIfInBounds_toArray, List.set_cons_zero, List.set_cons_succ]
  refine wpAnyH_take (i := 2) (v := ?_) (by simp only [List.getElem?_toArray, List.getElem?_cons_succ, List.getElem?_cons_zero]; exact rfl) (by kernel_rfl) (by kernel_rfl) (by kernel_rfl) (by intro _ _ _ h; exact h) (Or.inl ⟨by rfl, fun W hSw => ?_⟩) hHeld ?_
  rotate_left
  focus ((try dsimp only at hSw); first | (go_simp; done) | (go_simp; with_reducible rfl))
  try simp only [Act.put, List.setIfInBounds_toArray, List.set_cons_zero, List.set_cons_succ]
  refine wpAnyH_take (i := 3) (v := ?_) (by simp only [List.getElem?_toArray, List.getElem?_cons_succ, List.getElem?_cons_zero]; exact rfl) (by kernel_rfl) (by kernel_rfl) (by kernel_rfl) (by intro _ _ _ h; exact h) (Or.inl ⟨by rfl, fun W hSw => ?_⟩) hHeld ?_
  rotate_left
  focus ((try dsimp only at hSw); first | (go_simp; done) | (go_simp; with_reducible rfl))
  try simp only [Act.put, List.setIfInBounds_toArray, List.set_cons_zero, List.set_cons_succ]
  refine wpAnyH_take (i := 4) (v := ?_) (by simp only [List.getElem?_toArray, List.getElem?_cons_succ, List.getElem?_cons_zero]; exact rfl) (by kernel_rfl) (by kernel_rfl) (by kernel_rfl) (by intro _ _ _ h; exact h) (Or.inl ⟨by rfl, fun W hSw => ?_⟩) hHeld ?_
  rotate_left
  focus ((try dsimp only at hSw); first | (go_simp; done) | (go_simp; with_reducible rfl))
  try simp only [Act.put, List.setIfInBounds_toArray, List.set_cons_zero, List.set_cons_succ]
  refine wpAnyH_take (i := 5) (v := ?_) (by simp only [List.getElem?_toArray, List.getElem?_cons_succ, List.getElem?_cons_zero]; exact rfl) (by kernel_rfl) (by kernel_rfl) (by kernel_rfl) (by intro _ _ _ h; exact h) (Or.inl ⟨by rfl, fun W hSw => ?_⟩) hHeld ?_
  rotate_left
  focus ((try dsimp only at hSw); first | (go_simp; done) | (go_simp; with_reducible rfl))
  try simp only [Act.put, List.setIfInBounds_toArray, List.set_cons_zero, List.set_cons_succ]
  refine wpAnyH_take (i := 6) (v := ?_) (by simp only [List.getElem?_toArray, List.getElem?_cons_succ, List.getElem?_cons_zero]; exact rfl) (by kernel_rfl) (by kernel_rfl) (by kernel_rfl) (by intro _ _ _ h; exact h) (Or.inl ⟨by rfl, fun W hSw => ?_⟩) hHeld ?_
  rotate_left
  focus ((try dsimp only at hSw); first | (go_simp; done) | (go_simp; with_reducible rfl))
  try simp only [Act.put, List.setIfInBounds_toArray, List.set_cons_zero, List.set_cons_succ]
  refine wpAnyH_take (i := 8) (v := ?_) (by simp only [List.getElem?_toArray, List.getElem?_cons_succ, List.getElem?_cons_zero]; exact rfl) (by kernel_rfl) (by kernel_rfl) (by kernel_rfl) (by intro _ _ _ h; exact h) (Or.inl ⟨by rfl, fun W hSw => ?_⟩) hHeld ?_
  rotate_left
  focus ((try dsimp only at hSw); first | (go_simp; done) | (go_simp; with_reducible rfl))
  try simp only [Act.put, List.setIfInBounds_toArray, List.set_cons_zero, List.set_cons_succ]
  refine wpAnyH_take (i := 9) (v := ?_) (by simp only [List.getElem?_toArray, List.getElem?_cons_succ, List.getElem?_cons_zero]; exact rfl) (by kernel_rfl) (by kernel_rfl) (by kernel_rfl) (by intro _ _ _ h; exact h) (Or.inl ⟨by rfl, fun W hSw => ?_⟩) hHeld ?_
  rotate_left
  focus ((try dsimp only at hSw); first | (go_simp; done) | (go_simp; with_reducible rfl))
  try simp only [Act.put, List.setIfInBounds_toArray, List.set_cons_zero, List.set_cons_succ]
  refine wpAnyH_take (i := 11) (v := ?_) (by simp only [List.getElem?_toArray, List.getElem?_cons_succ, List.getElem?_cons_zero]; exact rfl) (by kernel_rfl) (by kernel_rfl) (by kernel_rfl) (by intro _ _ _ h; exact h) (Or.inl ⟨by rfl, fun W hSw => ?_⟩) hHeld ?_
  rotate_left
  focus ((try dsimp only at hSw); first | (go_simp; done) | (go_simp; with_reducible rfl))
  try simp only [Act.put, List.setIfInBounds_toArray, List.set_cons_zero, List.set_cons_succ]
  refine wpAnyH_take (i := 12) (v := ?_) (by simp only [List.getElem?_toArray, List.getElem?_cons_succ, List.getElem?_cons_zero]; exact rfl) (by kernel_rfl) (by kernel_rfl) (by kernel_rfl) (by intro _ _ _ h; exact h) (Or.inl ⟨by rfl, fun W hSw => ?_⟩) hHeld ?_
  rotate_left
  focus ((try dsimp only at hSw); first | (go_simp; done) | (go_simp; with_reducible rfl))
  try simp only [Act.put, List.setIfInBounds_toArray, List.set_cons_zero, List.set_cons_succ]
  refine wpAnyH_take (i := 13) (v := ?_) (by simp only [List.getElem?_toArray, List.getElem?_cons_succ, List.getElem?_cons_zero]; exact rfl) (by kernel_rfl) (by kernel_rfl) (by kernel_rfl) (by intro _ _ _ h; exact h) (Or.inl ⟨by rfl, fun W hSw => ?_⟩) hHeld ?_
  rotate_left
  focus ((try dsimp only at hSw); first | (go_simp; done) | (go_simp; with_reducible rfl))
  try simp only [Act.put, List.setIfInBounds_toArray, List.set_cons_zero, List.set_cons_succ]
  refine wpAnyH_take (i := 14) (v := ?_) (by simp only [List.getElem?_toArray, List.getElem?_cons_succ, List.getElem?_cons_zero]; exact rfl) (by kernel_rfl) (by kernel_rfl) (by kernel_rfl) (by intro _ _ _ h; exact h) (Or.inl ⟨by rfl, fun W hSw => ?_⟩) hHeld ?_
  rotate_left
  focus ((try dsimp only at hSw); first | (go_simp; done) | (go_simp; with_reducible rfl))
  try simp only [Act.put, List.setIfInBounds_toArray, List.set_cons_zero, List.set_cons_succ]
  refine wpAnyH_ready (rs := [7]) (by kernel_rfl) (by simp) (AllReadyH.cons (by simp only [List.getElem?_toArray, List.getElem?_cons_succ, List.getElem?_cons_zero]; exact rfl) (fun K hK => ?_) AllReadyH.nil)
  rw [if_pos (by rfl)]
  go_simp
  (with_reducible refine (KS.out _ hd4).mono ?_); rintro e v5 ⟨rfl, hv5⟩; have hd5 := bt hd4 hv5; go_wp2_with fail
  refine hK.out _ _ (KC.out _ hd5) (fun hHeld => ?_)
  clear hK K
  try simp only [Act.put, List.setIfInBounds_toArray, List.set_cons_zero, List.set_cons_succ]
  refine wpAnyH_ready (rs := [10]) (by kernel_rfl) (by simp) (AllReadyH.cons (by simp only [List.getElem?_toArray, List.getElem?_cons_succ, List.getElem?_cons_zero]; exact rfl) (fun K hK => ?_) AllReadyH.nil)
  rw [if_pos (by rfl)]
  go_simp
  (with_reducible refine (KL.out _ hd5).mono ?_); rintro e v6 ⟨a, ac, v, vc, rfl, hof, hov, hv6⟩; have hd6 := bt hd5 hv6; unfold entV; go_wp2_with fail
  refine hK.out _ _ (KC.out _ hd6) (fun hHeld => ?_)
  clear hK K
  try simp only [Act.put, List.setIfInBounds_toArray, List.set_cons_zero, List.set_cons_succ]
  refine wpAnyH_take (i := 15) (v := ?_) (by simp only [List.getElem?_toArray, List.getElem?_cons_succ, List.getElem?_cons_zero]; exact rfl) (by kernel_rfl) (by kernel_rfl) (by kernel_rfl) (by intro _ _ _ h; exact h) (Or.inl ⟨by rfl, fun W hSw => ?_⟩) hHeld ?_
  rotate_left
  focus ((try dsimp only at hSw); first | (go_simp; done) | (go_simp; with_reducible rfl))
  try simp only [Act.put, List.setIfInBounds_toArray, List.set_cons_zero, List.set_cons_succ]
  refine wpAnyH_ready (rs := [16]) (by kernel_rfl) (by simp) (AllReadyH.cons (by simp only [List.getElem?_toArray, List.getElem?_cons_succ, List.getElem?_cons_zero]; exact rfl) (fun K hK => ?_) AllReadyH.nil)
  rw [if_pos (by rfl)]
  go_simp
  (with_reducible refine (KP.out _ a ac v vc hd6).mono ?_); rintro e v7 ⟨ra, rc, fp7, rfl, -, hq7, ht7, hf7, -⟩; have kf := KF.out _ _ a ac v vc fp7 hd6 (hof.base (Nat.zero_le _)) (hov.base (Nat.zero_le _)) hq7 ht7 hf7; go_wp2_with fail
  refine hK.out _ _ (kf.1) (fun hHeld => ?_)
  clear hK K
  try simp only [Act.put, List.setIfInBounds_toArray, List.set_cons_zero, List.set_cons_succ]
  refine wpAnyH_done (by kernel_rfl) ?_ _
  clear hHeld
  obtain ⟨⟨y0, y1, g0, g1, g2, g3, g4, g5, g6, g7⟩, hto⟩ := kf
  have k8 := KPK.out _ _ _ hq7
  have K8 := Lib.hid k8; have HTO := Lib.hid hto
  clear k8 hto KPK KF KP KL KS KC hof hov hq7 ht7 hf7 y1 g0 g1 g2 g3 g4 g5 g6 g7 hd4 hd5 hd6 hv5 hv6
  go_wp2_with fail
  (with_reducible refine K8.out.mono ?_)
  rintro e v8 ⟨rfl, hv8⟩
  go_wp2
  go_ret
  exact ⟨a, ac, v, vc, rfl, HTO.out.then (hv8.alloc hv8.size _)⟩
end Go.Proofs.YtokhlmoanlcjmaaDoor
/- Store: the walk of Find (printed by wip/tools/st6.py). -/
namespace Go.Proofs.YtokhlmoanlcjmaaDoor
open Go.RowKit
set_option maxRecDepth 100000

def boxO : Option Ent → Hv
  | none => zeI.x
  | some e => e.x
def stepB (kk : List UInt8) (xs : List Fld) (b : Option Ent) (e : Ent) : Option Ent :=
  if (e.x.key.data.toList == kk) && (decide ((boxO b).num < e.x.num) && matchesL e.x.vl xs) then some e else b
def bestL (kk : List UInt8) (xs : List Fld) (es : List Ent) : Option Ent := es.foldl (stepB kk xs) none
theorem bestL_snoc (kk : List UInt8) (xs : List Fld) (es : List Ent) (k : Nat) (h : k < es.length) : bestL kk xs (es.take (k + 1)) = stepB kk xs (bestL kk xs (es.take k)) es[k] := by
  unfold bestL
  rw [List.take_succ_eq_append_getElem h, List.foldl_append]
  rfl
theorem bestL_mem (kk : List UInt8) (xs : List Fld) (es : List Ent) {b : Ent} (h : bestL kk xs es = some b) : b ∈ es ∧ b.x.key.data.toList = kk ∧ matchesL b.x.vl xs = true := by
  have : ∀ (l : List Ent) (b0 : Option Ent), l.foldl (stepB kk xs) b0 = some b → b0 = some b ∨ (b ∈ l ∧ b.x.key.data.toList = kk ∧ matchesL b.x.vl xs = true) := by
    intro l
    induction l with
    | nil => intro b0 h; exact Or.inl h
    | cons e t ih =>
      intro b0 h
      rcases ih _ h with h2 | h2
      · unfold stepB at h2
        split at h2
        · rename_i hc
          injection h2 with h2
          subst h2
          simp only [Bool.and_eq_true, beq_iff_eq] at hc
          exact Or.inr ⟨List.mem_cons_self, hc.1, hc.2.2⟩
        · exact Or.inl h2
      · exact Or.inr ⟨List.mem_cons_of_mem _ h2.1, h2.2⟩
  rcases this es none h with h | h
  · cases h
  · exact h
theorem StAt.keep {w w' : World} {sb : Nat} {fp fp2 : List Nat} {bl : Nat} {n m : Int} {es : List Ent} {put : Int} (h : StAt w sb fp bl n m es put) (ht : Touch fp2 w w') (hs : ∀ b ∈ sb :: fp, b ∉ fp2) (hk : ∀ b ∈ fp2, ∀ cs T z, w.heap[b]? = some (.cells cs T z) → T ≠ 62) : StAt w' sb fp bl n m es put :=
  ⟨(ht.2.2.2.2 sb h.lt (hs sb List.mem_cons_self)).trans h.blk, h.bud.keep ht (fun b hb => hs b (List.mem_cons_of_mem _ hb)), h.sep, fun e he => ⟨(h.good e he).1.touch ht hk, (h.good e he).2⟩⟩
theorem Touch.inTen {w w' : World} {g : Nat} (h : Touch [g] w w') (v0 v1 v2 v3 v4 v5 v6 v7 v8 v9 : Value) : Touch [g] w (Go.Proofs.YtokhlmoanlcjmaaDoor.setTen w' g v0 v1 v2 v3 v4 v5 v6 v7 v8 v9) := by
  have h1 := setTen_below (Below.refl g w') (Nat.le_refl g) v0 v1 v2 v3 v4 v5 v6 v7 v8 v9
  exact ⟨h1.os.trans h.1, h1.tape.trans h.2.1, h1.output.trans h.2.2.1, Nat.le_trans h.2.2.2.1 h1.size, fun b hb hn => (setTen_other (fun x => hn (by rw [x]; simp)) _ _ _ _ _ _ _ _ _ _).trans (h.2.2.2.2 b hb hn)⟩
/-- What is stored into a block that is none of the store's. -/
theorem StTo.side {w0 w w' : World} {sb : Nat} {fp : List Nat} {bl : Nat} {n m : Int} {es : List Ent} {put : Int} (h : StTo w0 w sb fp bl n m es put) (hlow : ∀ b ∈ sb :: fp, b < w0.heap.size) {g : Nat} {cs : Array Value} (hg : w0.heap.size ≤ g) (hx : w.heap[g]? = some (.cells cs 33 (0, 0))) (ht : Touch [g] w w') : StTo w0 w' sb fp bl n m es put := by
  obtain ⟨fp', ha, ht0, hf⟩ := h
  refine ⟨fp', ha.keep ht (fun b hb hm => ?_) (fun b hb cs T z hc => ?_), ht0.trans ht (fun b hb => Or.inr (by rw [List.mem_singleton.1 hb]; exact hg)), hf⟩
  · have hm := List.mem_singleton.1 hm
    subst hm
    rcases List.mem_cons.1 hb with rfl | hb
    · have := hlow _ List.mem_cons_self; omega
    · rcases ha.bud.kind _ hb _ _ _ hx with e | e <;> exact absurd e (by decide)
  · rw [List.mem_singleton.1 hb, hx] at hc
    injection hc with hc
    injection hc with _ hc _
    rw [← hc]; decide
theorem getE_mem {k : ByteArray} {es : List Ent} {e : Ent} (h : e ∈ getE k es) : e ∈ es := by
  unfold getE at h
  split at h
  · exact h
  · rename_i x hx
    rcases List.mem_append.1 h with h | h
    · exact (List.mem_filter.1 h).1
    · rw [List.mem_singleton.1 h]; exact List.mem_of_find?_eq_some hx
/-- What Find hands back, and what it leaves. -/
def FindPost (w : World) (sb : Nat) (fp : List Nat) (bl : Nat) (nn mm : Int) (es : List Ent) (put : Int) (bo : Option Ent) (e : Ending) (w' : World) : Prop :=
  match bo with
  | none => e = .returned (.tuple #[entV 0 ⟨#[]⟩ 0 none 0 0 ⟨#[]⟩ 0 0 none 0 0, .bool false]) ∧ StTo w w' sb fp bl nn mm es put
  | some b => ∃ a ac v vc, e = .returned (.tuple #[entV b.x.st b.x.re b.x.mi a b.x.fl.length ac b.x.bo b.x.asked b.x.got v b.x.vl.length vc, .bool true]) ∧ OwnF w.heap.size (.slice a b.x.fl.length ac) b.x.fl w' ∧ OwnF w.heap.size (.slice v b.x.vl.length vc) b.x.vl w' ∧ StTo w w' sb fp bl nn mm (getE b.key es) put
set_option maxHeartbeats 32000000 in
theorem find19_wide {w : World} {sb : Nat} {fp : List Nat} {bl : Nat} {nn mm : Int} {es : List Ent} {put : Int} (h : StAt w sb fp bl nn mm es put) (kk : List UInt8) (A : Option Addr) (n c : Nat) (xs : List Fld) (hr : Rd A n 2 (fldsV xs) w) (hn : n ≤ 100) (hs : ∀ f ∈ xs, f.1.length ≤ 2000000 ∧ f.2.length ≤ 2000000) (hk : kk.length ≤ 1000) (ht : ∀ W, Below w.heap.size w W → TabN W) :
    Calls Tryd.prog 13 #[.pointer (some ⟨sb, 0, none⟩), .string ⟨kk.toArray⟩, .slice A n c] w (FindPost w sb fp bl nn mm es put (bestL kk xs es)) := by
  have hl := h.lt
  have hlow := h.low
  have hlen : es.length ≤ 4096 := by have := h.bud.ends; omega
  obtain ⟨W1, hW1⟩ : ∃ W1, w.alloc (.cells #[.int .i64 0, .string ⟨#[]⟩, .int .i64 0, .slice none 0 0, .string ⟨#[]⟩, .int .i64 0, .int .i64 0, .slice none 0 0] 33) = W1 := ⟨_, rfl⟩
  obtain ⟨W2, hW2⟩ : ∃ W2, W1.alloc (.cells #[.string ⟨#[]⟩, .int .i64 0, .string ⟨#[]⟩, .int .i64 0, .slice none 0 0, .string ⟨#[]⟩, .int .i64 0, .int .i64 0, .slice none 0 0, .int .i64 0] 60) = W2 := ⟨_, rfl⟩
  have b1 : Below w.heap.size w W1 := by rw [← hW1]; exact (Below.refl w.heap.size w).alloc (Nat.le_refl _) _
  have z1 : W1.heap.size = w.heap.size + 1 := by rw [← hW1]; simp
  have b2 : Below w.heap.size w W2 := by rw [← hW2]; exact b1.alloc b1.size _
  have z2 : W2.heap.size = w.heap.size + 2 := by rw [← hW2]; simp [z1]
  have x1 : W2.heap[w.heap.size]? = some (.cells #[.int .i64 0, .string ⟨#[]⟩, .int .i64 0, .slice none 0 0, .string ⟨#[]⟩, .int .i64 0, .int .i64 0, .slice none 0 0] 33 (0, 0)) := by
    have b12 : Below W1.heap.size W1 W2 := by rw [← hW2]; exact (Below.refl _ _).alloc (Nat.le_refl _) _
    rw [b12.block _ (by omega), ← hW1]; exact heap_new w _ _ rfl
  have x2 : Box10 W2 (w.heap.size + 1) 60 zeI.x := by
    unfold Box10
    rw [← hW2, ← z1]; exact heap_new W1 _ _ rfl
  have h1 := h.below b1
  have h2 := h.below b2
  have ki := is19_any h1
  have kk2 := keysI_q h2.bud
  have y0 := (of_heap h2.blk 0).1
  simp only [List.getElem?_toArray, List.getElem?_cons_zero] at y0
  have HH := Lib.hid h2; have HR := Lib.hid hr; have HW1 := Lib.hid hW1; have HW2 := Lib.hid hW2; have KI := Lib.hid ki; have KK := Lib.hid kk2; have X1 := Lib.hid x1; have X2 := Lib.hid x2; have B2 := Lib.hid b2; have HLOW := Lib.hid hlow; have HTB := Lib.hid ht; have HS := Lib.hid hs
  clear h h1 h2 hr ki kk2 x1 x2 b1 b2 hW1 hW2 hlow ht hs
  unfold ptr at *
  go_enter Tryd.func13, Tryd.ntmps13
  go_upto_region 1 with (fail)
  rw [HW1.out]
  go_wp2_with fail
  (with_reducible refine KI.out.mono ?_)
  rintro e w1 ⟨rfl, rfl⟩
  go_upto_region 4 with (fail)
  rw [HW2.out]
  go_wp2_with fail
  (with_reducible refine KK.out.mono ?_)
  rintro e w3 ⟨ka, kc, rfl, hO, hb3⟩
  have hkl : (strs (es.map (·.key))).length = es.length := by unfold strs; simp
  have HKL := Lib.hid hkl
  rw [hkl] at hO ⊢
  clear hkl KI KK HW1 HW2 y0
  have h3 := HH.out.below hb3
  have x3 := X2.out.below hb3
  have x13 := (hb3.block w.heap.size (by omega)).trans X1.out
  have z3 := hb3.size
  have H3 := Lib.hid h3; have X3 := Lib.hid x3; have X13 := Lib.hid x13; have HO := Lib.hid hO
  have hne : ∀ b ∈ sb :: fp, b ∉ [w.heap.size + 1] := fun b hb hm => by have := HLOW.out b hb; have := List.mem_singleton.1 hm; omega
  have hkd : ∀ b ∈ [w.heap.size + 1], ∀ cs T z, w3.heap[b]? = some (.cells cs T z) → T ≠ 62 := fun b hb cs T z hc => by
    have hb := List.mem_singleton.1 hb
    subst hb
    have := x3
    unfold Box10 at this
    rw [this] at hc
    injection hc with hc
    injection hc with _ hc _
    rw [← hc]; decide
  have kst : ∀ W, Touch [w.heap.size + 1] w3 W → StAt W sb fp bl nn mm es put := fun W ht => h3.keep ht hne hkd
  have kpk : ∀ (k : Nat) (hk : k < es.length) (W : World), Touch [w.heap.size + 1] w3 W → _ := fun k hk W ht => peekI_q (kst W ht).bud es[k].key ((kst W ht).bud.sz _ (List.getElem_mem hk)).2
  have kfk := fun (k : Nat) (hk : k < es.length) => find_at h3.bud.nd hk
  have kro : ∀ W, Touch [w.heap.size + 1] w3 W → Rd ka es.length 1 (strsV (strs (es.map (·.key)))) W := fun W ht => by
    have := (hO.touch ht (fun b hb => Or.inl (by have := List.mem_singleton.1 hb; omega))).rd.2
    rw [HKL.out] at this
    exact this
  have kbw : ∀ W, Touch [w.heap.size + 1] w3 W → Below w.heap.size w W := fun W ht => (bt B2.out hb3).trans (ht.below (fun b hb => by have := List.mem_singleton.1 hb; omega) (by omega))
  have kmt : ∀ (k : Nat) (hk : k < es.length) (W : World), Touch [w.heap.size + 1] w3 W → _ := fun k hk W ht => matches_wide es[k].x.st es[k].x.re es[k].x.mi es[k].x.fA es[k].x.fn es[k].x.fc es[k].x.bo es[k].x.asked es[k].x.got es[k].x.vA es[k].x.vn es[k].x.vc es[k].x.vl A n c xs W (by
    have hg := ((kst W ht).good _ (List.getElem_mem hk)).1.v
    obtain ⟨e1, e2⟩ := hg.rd
    rw [e1]; exact e2) (by have hg := ((kst W ht).good _ (List.getElem_mem hk)).1; have := hg.v.rd.1; have := hg.vl.1; omega) (fun f hf => by have hg := ((kst W ht).good _ (List.getElem_mem hk)).1.vl.2; have := sumF_mem hf; omega) (HR.out.below (kbw W ht)) (by omega) (fun f hf => by have := HS.out f hf; omega)
  have hsn := bestL_snoc kk xs es
  have hfull : bestL kk xs (es.take es.length) = bestL kk xs es := by rw [List.take_length]
  have hb0 : bestL kk xs (es.take 0) = none := rfl
  have y3 := (of_heap h3.blk 0).1
  have l3 := h3.lt
  simp only [List.getElem?_toArray, List.getElem?_cons_zero] at y3
  have KST := Lib.hid kst; have KPK := Lib.hid kpk; have KFK := Lib.hid kfk; have KRO := Lib.hid kro; have KBW := Lib.hid kbw; have KMT := Lib.hid kmt; have HSN := Lib.hid hsn; have HFULL := Lib.hid hfull; have HB0 := Lib.hid hb0
  clear kst kpk kfk kro kbw kmt hsn hfull hb0 hO h3 x3 x13 hne hkd hb3
  generalize hbl : bestL kk xs es = bst at *
  unfold ptr at *
  go_wp2_with fail
  go_loopw [25, 9] (fun i fo wr => ∃ k : Nat, k ≤ es.length ∧ i = .int .i64 k ∧ fo = .bool (bestL kk xs (es.take k)).isSome ∧ Touch [w.heap.size + 1] w3 wr ∧ Hid (Box10 wr (w.heap.size + 1) 60 (boxO (bestL kk xs (es.take k))))) (fun i _ _ => es.length - (intOf i).toNat)
  case atStart => exact ⟨0, Nat.zero_le _, rfl, by rw [HB0.out]; rfl, Touch.refl _ _, by rw [HB0.out]; exact X3⟩
  case round =>
    obtain ⟨k, hkk, rfl, rfl, htw, HBX⟩ := hrel
    by_cases hlt : k < es.length
    · obtain ⟨b, o, rfl, hlb, e1⟩ := (KRO.out wr htw).str_at (k := k) (by rw [HKL.out]; exact hlt)
      have hst : (strs (es.map (·.key)))[k]'(by rw [HKL.out]; exact hlt) = es[k].key.data.toList := by unfold strs; simp
      rw [hst, str_of] at e1
      have y4 : wr.cell? ⟨sb, 0, none⟩ = some (.pointer (some ⟨bl, 0, none⟩)) := (World.cell?_of_block (a := ⟨sb, 0, none⟩) (htw.2.2.2.2 sb l3 (fun hm => by have := List.mem_singleton.1 hm; omega))).trans y3
      have kp := KPK.out k hlt wr htw
      unfold valE hasE at kp
      rw [KFK.out k hlt] at kp
      have km := KMT.out k hlt
      have hs2 := HSN.out k hlt
      unfold stepB at hs2
      obtain ⟨y, hy⟩ : ∃ y : List UInt8, es[k].x.key = ⟨y.toArray⟩ := ⟨es[k].x.key.data.toList, (str_back es[k].x.key).symm⟩
      have hy2 : es[k].x.key.data.toList = y := by rw [hy]
      rw [hy2] at hs2
      generalize es[k] = ex at *
      unfold Hv.val at kp
      rw [hy] at kp
      unfold entV at km
      have KPx := Lib.hid kp; have KM := Lib.hid km; have HS2 := Lib.hid hs2
      clear kp km hs2 hst
      generalize hb0 : bestL kk xs (es.take k) = b0 at *
      have HB0 := Lib.hid hb0
      clear hb0
      go_wp2_with fail
      (with_reducible refine KPx.out.mono ?_)
      rintro e w5 ⟨rfl, hb5⟩
      obtain ⟨W6, hW6⟩ : ∃ W6, w5.alloc (.cells #[.string ⟨y.toArray⟩, .int .i64 ex.x.st, .string ex.x.re, .int .i64 ex.x.mi, .slice ex.x.fA ex.x.fn ex.x.fc, .string ex.x.bo, .int .i64 ex.x.asked, .int .i64 ex.x.got, .slice ex.x.vA ex.x.vn ex.x.vc, .int .i64 ex.x.num] 60) = W6 := ⟨_, rfl⟩
      have b6 : Below wr.heap.size wr W6 := by rw [← hW6]; exact hb5.alloc hb5.size _
      have xg : Box10 W6 w5.heap.size 60 ex.x := by unfold Box10; rw [hy, ← hW6]; exact heap_new w5 _ _ rfl
      have t6 : Touch [w.heap.size + 1] w3 W6 := htw.trans (Touch.of_below b6 (Touch.refl [] _)) (fun b hb => by cases hb)
      have xb := HBX.out.below b6
      have hgr : w.heap.size + 1 < w5.heap.size := by have := hb5.size; have := HBX.out.lt; omega
      have XG := Lib.hid xg; have XB := Lib.hid xb; have HW6 := Lib.hid hW6
      clear hW6 hb5 HBX KPx htw xg xb b6
      obtain ⟨⟨g0, g1, g2, g3, g4, g5, g6, g7, g8, g9⟩, _, gl⟩ := XG.out.ten
      obtain ⟨⟨j0, j1, j2, j3, j4, j5, j6, j7, j8, j9⟩, ⟨q0, q1, q2, q3, q4, q5, q6, q7, q8, q9⟩, jl⟩ := XB.out.ten
      rw [hy] at g0
      generalize hbx : boxO b0 = bx at *
      go_upto_region 8 with (fail)
      rw [HW6.out]
      cases hc1 : (y == kk)
      · have hz : bestL kk xs (es.take (k + 1)) = b0 := by rw [HS2.out, hc1]; rfl
        go_wp2
        go_roundw
        case rel => exact ⟨k + 1, by omega, by go_num, by rw [hz], t6, by rw [hz, hbx]; exact XB⟩
        case measure => simp [intOf]; omega
      · by_cases hnm : bx.num < ex.x.num
        · have t1 : decide (ex.x.num > bx.num) = true := by simpa using hnm
          have km := KM.out W6 t6
          have KM2 := Lib.hid km
          clear km KM
          cases hmt : matchesL ex.x.vl xs
          · rw [hmt] at KM2
            have hz : bestL kk xs (es.take (k + 1)) = b0 := by rw [HS2.out, hc1, hmt, Bool.and_false]; rfl
            go_wp2_with fail
            (with_reducible refine KM2.out.mono ?_)
            rintro e w7 ⟨rfl, hb7⟩
            go_wp2
            go_roundw
            case rel => exact ⟨k + 1, by omega, by go_num, by rw [hz], t6.trans (Touch.of_below hb7 (Touch.refl [] _)) (fun b hb => by cases hb), by rw [hz, hbx]; exact Lib.hid (XB.out.below hb7)⟩
            case measure => simp [intOf]; omega
          · rw [hmt] at KM2
            have hz : bestL kk xs (es.take (k + 1)) = some ex := by
              rw [HS2.out, hc1, hmt, decide_eq_true hnm]; rfl
            go_wp2_with fail
            (with_reducible refine KM2.out.mono ?_)
            rintro e w7 ⟨rfl, hb7⟩
            have xg7 := XG.out.below hb7
            have xb7 := XB.out.below hb7
            have t7 := t6.trans (Touch.of_below hb7 (Touch.refl [] _)) (fun b hb => by cases hb)
            have XB7 := Lib.hid xb7
            clear g0 g1 g2 g3 g4 g5 g6 g7 g8 g9 j0 j1 j2 j3 j4 j5 j6 j7 j8 j9 q0 q1 q2 q3 q4 q5 q6 q7 q8 q9 gl jl hb7 t6
            obtain ⟨⟨g0, g1, g2, g3, g4, g5, g6, g7, g8, g9⟩, _, gl⟩ := xg7.ten
            obtain ⟨⟨j0, j1, j2, j3, j4, j5, j6, j7, j8, j9⟩, ⟨q0, q1, q2, q3, q4, q5, q6, q7, q8, q9⟩, jl⟩ := xb7.ten
            clear xg7 xb7
            go_wp2_with fail
            go_roundw
            case rel =>
              have hq := setTen_box XB7.out ex.x
              have htq := t7.inTen (.string ex.x.key) (.int .i64 ex.x.st) (.string ex.x.re) (.int .i64 ex.x.mi) (.slice ex.x.fA ex.x.fn ex.x.fc) (.string ex.x.bo) (.int .i64 ex.x.asked) (.int .i64 ex.x.got) (.slice ex.x.vA ex.x.vn ex.x.vc) (.int .i64 ex.x.num)
              rw [hy] at hq htq
              unfold setTen at hq htq
              exact ⟨k + 1, by omega, by go_num, by rw [hz]; rfl, htq, by rw [hz]; exact Lib.hid hq⟩
            case measure => simp [intOf]; omega
        · have t1 : decide (ex.x.num > bx.num) = false := by simpa using hnm
          have hz : bestL kk xs (es.take (k + 1)) = b0 := by rw [HS2.out, hc1, decide_eq_false hnm]; rfl
          go_wp2
          go_roundw
          case rel => exact ⟨k + 1, by omega, by go_num, by rw [hz], t6, by rw [hz, hbx]; exact XB⟩
          case measure => simp [intOf]; omega
    · have hke : k = es.length := by omega
      subst hke
      rw [HFULL.out] at HBX ⊢
      have xr0 := (htw.2.2.2.2 w.heap.size (by omega) (by simp)).trans X13.out
      have hsa := KST.out wr htw
      have hbw := KBW.out wr htw
      cases bst with
      | none =>
        have hto : StTo w wr sb fp bl nn mm es put := ⟨fp, hsa, Touch.of_below hbw (Touch.refl _ _), fun b hb => Or.inl hb⟩
        have hto := hto.side HLOW.out (Nat.le_refl _) xr0 (((((((((Touch.refl [w.heap.size] wr).setCell w.heap.size 0 (.int .i64 0) (by simp)).setCell w.heap.size 1 (.string ⟨#[]⟩) (by simp)).setCell w.heap.size 2 (.int .i64 0) (by simp)).setCell w.heap.size 3 (.slice none 0 0) (by simp)).setCell w.heap.size 4 (.string ⟨#[]⟩) (by simp)).setCell w.heap.size 5 (.int .i64 0) (by simp)).setCell w.heap.size 6 (.int .i64 0) (by simp)).setCell w.heap.size 7 (.slice none 0 0) (by simp))
        have k0 := (of_heap xr0 0).1; have k1 := (of_heap xr0 1).1; have k2 := (of_heap xr0 2).1; have k3 := (of_heap xr0 3).1; have k4 := (of_heap xr0 4).1; have k5 := (of_heap xr0 5).1; have k6 := (of_heap xr0 6).1; have k7 := (of_heap xr0 7).1
        have j0 := (of_heap xr0 0).2.1; have j1 := (of_heap xr0 1).2.1; have j2 := (of_heap xr0 2).2.1; have j3 := (of_heap xr0 3).2.1; have j4 := (of_heap xr0 4).2.1; have j5 := (of_heap xr0 5).2.1; have j6 := (of_heap xr0 6).2.1; have j7 := (of_heap xr0 7).2.1
        simp only [List.getElem?_toArray, List.getElem?_cons_succ, List.getElem?_cons_zero] at k0 k1 k2 k3 k4 k5 k6 k7
        have HTO := Lib.hid hto
        clear hto xr0 hsa hbw KST KPK KFK KRO KMT KBW
        go_wp2_with fail
        refine bodyPost_ret_by (v := .tuple #[entV 0 ⟨#[]⟩ 0 none 0 0 ⟨#[]⟩ 0 0 none 0 0, .bool false]) ?_ rfl ?_
        · rw [results_cell_tmp rfl]
          go_simp
          rfl
        · exact ⟨rfl, HTO.out⟩
      | some b =>
        obtain ⟨hbm, hbk, hbmt⟩ := bestL_mem kk xs es hbl
        have hgd := (hsa.good b hbm).1
        have hbs := (hsa.bud.sz b hbm).2
        have xb8 := HBX.out.ten
        have kc : ∀ w', Below wr.heap.size wr w' → w'.cell? ⟨sb, 0, none⟩ = some (.pointer (some ⟨bl, 0, none⟩)) ∧ w'.cell? ⟨w.heap.size + 1, 8, none⟩ = some (.slice b.x.vA b.x.vn b.x.vc) := fun w' hb => by
          have x4 := (HBX.out.below hb).ten
          have x5 := (hsa.below hb).blk
          exact ⟨(of_heap x5 0).1, x4.1.2.2.2.2.2.2.2.2.1⟩
        have kn := fun W (hb : Below wr.heap.size wr W) => name_any kk b.x.vA b.x.vn b.x.vc b.x.vl W (by
          have hg := hgd.v.below hb
          obtain ⟨e1, e2⟩ := hg.rd
          rw [e1]; exact e2) (by have := hgd.v.rd.1; have := hgd.vl.1; omega) (by have := hgd.vl.2; omega) (by omega) (HTB.out _ (bt hbw hb))
        have hkey : (⟨(nameL kk b.x.vl).toArray⟩ : ByteArray) = b.key := by rw [hgd.key, hbk]
        rw [hkey] at kn
        have kg := fun W (hb : Below wr.heap.size wr W) => getI_q (hsa.bud.below hb) b.key hbs
        have kf : ∀ W w', Below wr.heap.size wr W → StI W w' fp bl nn mm (getE b.key es) → (w'.cell? ⟨sb, 0, none⟩ = some (.pointer (some ⟨bl, 0, none⟩)) ∧ w'.cell? ⟨w.heap.size + 1, 8, none⟩ = some (.slice b.x.vA b.x.vn b.x.vc)) ∧ StTo w w' sb fp bl nn mm (getE b.key es) put ∧ Box10 w' (w.heap.size + 1) 60 b.x ∧ GoodE w' b ∧ w.heap.size + 1 < w'.heap.size ∧ w'.heap[w.heap.size]? = some (.cells #[.int .i64 0, .string ⟨#[]⟩, .int .i64 0, .slice none 0 0, .string ⟨#[]⟩, .int .i64 0, .int .i64 0, .slice none 0 0] 33 (0, 0)) := fun W w' hb hst => by
          have hW := hsa.below hb
          have htc := hst.choose_spec.2.1
          have hto := hW.turn hst (hW.goodsub htc (fun b hb => List.mem_cons_of_mem _ hb) (fun e he => getE_mem he))
          have x4 := HBX.out.below hb
          have x5 : Box10 w' (w.heap.size + 1) 60 b.x := x4.of (htc.2.2.2.2 _ x4.lt (fun hm => by have := HLOW.out _ (List.mem_cons_of_mem _ hm); omega))
          have x6 := (htc.2.2.2.2 sb hW.lt hW.sep).trans hW.blk
          have x7 := (hb.block w.heap.size (by have := HBX.out.lt; omega)).trans xr0
          have x8 := (htc.2.2.2.2 w.heap.size (of_heap x7 0).2.2 (fun hm => by have := HLOW.out _ (List.mem_cons_of_mem _ hm); omega)).trans x7
          exact ⟨⟨(of_heap x6 0).1, x5.ten.1.2.2.2.2.2.2.2.2.1⟩, StTo.trans (Touch.of_below (bt hbw hb) (Touch.refl _ _)) (fun b hb => Or.inl hb) hto, x5, (hgd.below hb).touch htc (fun b hb => hW.kind b (List.mem_cons_of_mem _ hb)), x5.lt, x8⟩
        have hd0 : Below wr.heap.size wr wr.drew := (Below.refl _ _).drew
        have KC := Lib.hid kc; have KN := Lib.hid kn; have KG := Lib.hid kg; have KF := Lib.hid kf
        clear kc kn kg kf hsa hbw hgd xr0 xb8 HBX hkey KST KPK KFK KRO KMT KBW H3 X3 X13 HO HTB
        go_upto_region 13 with (fail)
        refine wp_region_held_drew (S := (fun w' => w'.cell? ⟨sb, 0, none⟩ = some (.pointer (some ⟨bl, 0, none⟩)) ∧ w'.cell? ⟨w.heap.size + 1, 8, none⟩ = some (.slice b.x.vA b.x.vn b.x.vc))) (by kernel_rfl) (KC.out _ hd0) (fun hHeld => ?_)
        refine wpAnyH_take (i := 0) (v := ?_) (by simp only [List.getElem?_toArray, List.getElem?_cons_zero]; exact rfl) (by kernel_rfl) (by kernel_rfl) (by kernel_rfl) (by intro _ _ _ h; exact h) (Or.inl ⟨by rfl, fun W hSw => ?_⟩) hHeld ?_
        rotate_left
        focus ((try dsimp only at hSw); first | (go_simp; done) | (go_simp; with_reducible rfl))
        try simp only [Act.put, List.setIfInBounds_toArray, List.set_cons_zero, List.set_cons_succ]
        refine wpAnyH_take (i := 1) (v := ?_) (by simp only [List.getElem?_toArray, List.getElem?_cons_succ, List.getElem?_cons_zero]; exact rfl) (by kernel_rfl) (by kernel_rfl) (by kernel_rfl) (by intro _ _ _ h; exact h) (Or.inl ⟨by rfl, fun W hSw => ?_⟩) hHeld ?_
        rotate_left
        focus ((try dsimp only at hSw); first | (go_simp; done) | (go_simp; with_reducible rfl))
        try simp only [Act.put, List.setIfInBounds_toArray, List.set_cons_zero, List.set_cons_succ]
        refine wpAnyH_take (i := 2) (v := ?_) (by simp only [List.getElem?_toArray, List.getElem?_cons_succ, List.getElem?_cons_zero]; exact rfl) (by kernel_rfl) (by kernel_rfl) (by kernel_rfl) (by intro _ _ _ h; exact h) (Or.inl ⟨by rfl, fun W hSw => ?_⟩) hHeld ?_
        rotate_left
        focus ((try dsimp only at hSw); first | (go_simp; done) | (go_simp; with_reducible rfl))
        try simp only [Act.put, List.setIfInBounds_toArray, List.set_cons_zero, List.set_cons_succ]
        refine wpAnyH_take (i := 3) (v := ?_) (by simp only [List.getElem?_toArray, List.getElem?_cons_succ, List.getElem?_cons_zero]; exact rfl) (by kernel_rfl) (by kernel_rfl) (by kernel_rfl) (by intro _ _ _ h; exact h) (Or.inl ⟨by rfl, fun W hSw => ?_⟩) hHeld ?_
        rotate_left
        focus ((try dsimp only at hSw); first | (go_simp; done) | (go_simp; with_reducible rfl))
        try simp only [Act.put, List.setIfInBounds_toArray, List.set_cons_zero, List.set_cons_succ]
        refine wpAnyH_take (i := 4) (v := ?_) (by simp only [List.getElem?_toArray, List.getElem?_cons_succ, List.getElem?_cons_zero]; exact rfl) (by kernel_rfl) (by kernel_rfl) (by kernel_rfl) (by intro _ _ _ h; exact h) (Or.inl ⟨by rfl, fun W hSw => ?_⟩) hHeld ?_
        rotate_left
        focus ((try dsimp only at hSw); first | (go_simp; done) | (go_simp; with_reducible rfl))
        try simp only [Act.put, List.setIfInBounds_toArray, List.set_cons_zero, List.set_cons_succ]
        refine wpAnyH_take (i := 5) (v := ?_) (by simp only [List.getElem?_toArray, List.getElem?_cons_succ, List.getElem?_cons_zero]; exact rfl) (by kernel_rfl) (by kernel_rfl) (by kernel_rfl) (by intro _ _ _ h; exact h) (Or.inl ⟨by rfl, fun W hSw => ?_⟩) hHeld ?_
        rotate_left
        focus ((try dsimp only at hSw); first | (go_simp; done) | (go_simp; with_reducible rfl))
        try simp only [Act.put, List.setIfInBounds_toArray, List.set_cons_zero, List.set_cons_succ]
        refine wpAnyH_take (i := 6) (v := ?_) (by simp only [List.getElem?_toArray, List.getElem?_cons_succ, List.getElem?_cons_zero]; exact rfl) (by kernel_rfl) (by kernel_rfl) (by kernel_rfl) (by intro _ _ _ h; exact h) (Or.inl ⟨by rfl, fun W hSw => ?_⟩) hHeld ?_
        rotate_left
        focus ((try dsimp only at hSw); first | (go_simp; done) | (go_simp; with_reducible rfl))
        try simp only [Act.put, List.setIfInBounds_toArray, List.set_cons_zero, List.set_cons_succ]
        refine wpAnyH_take (i := 7) (v := ?_) (by simp only [List.getElem?_toArray, List.getElem?_cons_succ, List.getElem?_cons_zero]; exact rfl) (by kernel_rfl) (by kernel_rfl) (by kernel_rfl) (by intro _ _ _ h; exact h) (Or.inl ⟨by rfl, fun W hSw => ?_⟩) hHeld ?_
        rotate_left
        focus ((try dsimp only at hSw); first | (go_simp; done) | (go_simp; with_reducible rfl))
        try simp only [Act.put, List.setIfInBounds_toArray, List.set_cons_zero, List.set_cons_succ]
        refine wpAnyH_ready (rs := [8]) (by kernel_rfl) (by simp) (AllReadyH.cons (by simp only [List.getElem?_toArray, List.getElem?_cons_succ, List.getElem?_cons_zero]; exact rfl) (fun K hK => ?_) AllReadyH.nil)
        rw [if_pos (by rfl)]
        go_simp
        (with_reducible refine (KN.out _ hd0).mono ?_); rintro e v2 ⟨rfl, hv2⟩; have hd2 := bt hd0 hv2; go_wp2_with fail
        refine hK.out _ _ (KC.out _ hd2) (fun hHeld => ?_)
        clear hK K
        try simp only [Act.put, List.setIfInBounds_toArray, List.set_cons_zero, List.set_cons_succ]
        refine wpAnyH_ready (rs := [9]) (by kernel_rfl) (by simp) (AllReadyH.cons (by simp only [List.getElem?_toArray, List.getElem?_cons_succ, List.getElem?_cons_zero]; exact rfl) (fun K hK => ?_) AllReadyH.nil)
        rw [if_pos (by rfl)]
        go_simp
        (with_reducible refine (KG.out _ hd2).mono ?_); rintro e v3 ⟨rfl, hst⟩; have kf := KF.out _ _ hd2 hst; go_wp2_with fail
        refine hK.out _ _ (kf.1) (fun hHeld => ?_)
        clear hK K
        try simp only [Act.put, List.setIfInBounds_toArray, List.set_cons_zero, List.set_cons_succ]
        refine wpAnyH_done (by kernel_rfl) ?_ _
        clear hHeld
        obtain ⟨-, hto, hbx, hgd, hlt8, xr8⟩ := kf
        obtain ⟨⟨g0, g1, g2, g3, g4, g5, g6, g7, g8, g9⟩, _, gl⟩ := hbx.ten
        have kcl := clone_any b.x.st b.x.mi b.x.asked b.x.got b.x.re b.x.bo b.x.fA b.x.vA b.x.fn b.x.fc b.x.vn b.x.vc b.x.fl b.x.vl v3 (by
          obtain ⟨e1, e2⟩ := hgd.f.rd
          rw [e1]; exact e2) (by
          obtain ⟨e1, e2⟩ := hgd.v.rd
          rw [e1]; exact e2) (by have := hgd.f.rd.1; have := hgd.fl.1; omega) (by have := hgd.v.rd.1; have := hgd.vl.1; omega)
        have hsz3 : w.heap.size ≤ v3.heap.size := by omega
        unfold entV at kcl
        have KCL := Lib.hid kcl; have HTO := Lib.hid hto; have XR8 := Lib.hid xr8
        clear kcl hto hbx hgd xr8 KC KN KG KF
        go_wp2_with fail
        (with_reducible refine KCL.out.mono ?_)
        rintro e w8 ⟨a8, ac8, v8, vc8, rfl, hof, hov, hb8⟩
        unfold entV
        have xr9 := (hb8.block w.heap.size (by omega)).trans XR8.out
        have hto9 := (HTO.out.then hb8).side HLOW.out (Nat.le_refl _) xr9 (((((((((Touch.refl [w.heap.size] w8).setCell w.heap.size 0 (.int .i64 b.x.st) (by simp)).setCell w.heap.size 1 (.string b.x.re) (by simp)).setCell w.heap.size 2 (.int .i64 b.x.mi) (by simp)).setCell w.heap.size 3 (.slice a8 b.x.fl.length ac8) (by simp)).setCell w.heap.size 4 (.string b.x.bo) (by simp)).setCell w.heap.size 5 (.int .i64 b.x.asked) (by simp)).setCell w.heap.size 6 (.int .i64 b.x.got) (by simp)).setCell w.heap.size 7 (.slice v8 b.x.vl.length vc8) (by simp))
        have q1 : ∀ k, (Value.slice a8 b.x.fl.length ac8).ownBlock = some k → w.heap.size ≠ k := fun k hk => by have := (hof.lt k hk).1; omega
        have q2 : ∀ k, (Value.slice v8 b.x.vl.length vc8).ownBlock = some k → w.heap.size ≠ k := fun k hk => by have := (hov.lt k hk).1; omega
        have hof9 := (own_setc 7 (.slice v8 b.x.vl.length vc8) (own_setc 6 (.int .i64 b.x.got) (own_setc 5 (.int .i64 b.x.asked) (own_setc 4 (.string b.x.bo) (own_setc 3 (.slice a8 b.x.fl.length ac8) (own_setc 2 (.int .i64 b.x.mi) (own_setc 1 (.string b.x.re) (own_setc 0 (.int .i64 b.x.st) (hof.base hsz3) (fun x => q1 _ x rfl)) (fun x => q1 _ x rfl)) (fun x => q1 _ x rfl)) (fun x => q1 _ x rfl)) (fun x => q1 _ x rfl)) (fun x => q1 _ x rfl)) (fun x => q1 _ x rfl)) (fun x => q1 _ x rfl))
        have hov9 := (own_setc 7 (.slice v8 b.x.vl.length vc8) (own_setc 6 (.int .i64 b.x.got) (own_setc 5 (.int .i64 b.x.asked) (own_setc 4 (.string b.x.bo) (own_setc 3 (.slice a8 b.x.fl.length ac8) (own_setc 2 (.int .i64 b.x.mi) (own_setc 1 (.string b.x.re) (own_setc 0 (.int .i64 b.x.st) (hov.base hsz3) (fun x => q2 _ x rfl)) (fun x => q2 _ x rfl)) (fun x => q2 _ x rfl)) (fun x => q2 _ x rfl)) (fun x => q2 _ x rfl)) (fun x => q2 _ x rfl)) (fun x => q2 _ x rfl)) (fun x => q2 _ x rfl))
        have k0 := (of_heap xr9 0).1; have k1 := (of_heap xr9 1).1; have k2 := (of_heap xr9 2).1; have k3 := (of_heap xr9 3).1; have k4 := (of_heap xr9 4).1; have k5 := (of_heap xr9 5).1; have k6 := (of_heap xr9 6).1; have k7 := (of_heap xr9 7).1
        have j0 := (of_heap xr9 0).2.1; have j1 := (of_heap xr9 1).2.1; have j2 := (of_heap xr9 2).2.1; have j3 := (of_heap xr9 3).2.1; have j4 := (of_heap xr9 4).2.1; have j5 := (of_heap xr9 5).2.1; have j6 := (of_heap xr9 6).2.1; have j7 := (of_heap xr9 7).2.1
        simp only [List.getElem?_toArray, List.getElem?_cons_succ, List.getElem?_cons_zero] at k0 k1 k2 k3 k4 k5 k6 k7
        have HF9 := Lib.hid (And.intro hof9 (And.intro hov9 hto9))
        clear hof9 hov9 hto9 q1 q2 xr9 hof hov hb8 g0 g1 g2 g3 g4 g5 g6 g7 g8 g9 gl
        go_wp2_with fail
        refine bodyPost_ret_by (v := .tuple #[entV b.x.st b.x.re b.x.mi a8 b.x.fl.length ac8 b.x.bo b.x.asked b.x.got v8 b.x.vl.length vc8, .bool true]) ?_ rfl ?_
        · rw [results_cell_tmp rfl]
          go_simp
          rfl
        · exact ⟨a8, ac8, v8, vc8, rfl, HF9.out.1, HF9.out.2.1, HF9.out.2.2⟩
theorem find19_any {w : World} {sb : Nat} {fp : List Nat} {bl : Nat} {nn mm : Int} {es : List Ent} {put : Int} (h : StAt w sb fp bl nn mm es put) (kk : List UInt8) (A : Option Addr) (n c : Nat) (xs : List Fld) (hr : Rd A n 2 (fldsV xs) w) (hn : n ≤ 100) (hs : ∀ f ∈ xs, f.1.length ≤ 10000 ∧ f.2.length ≤ 10000) (hk : kk.length ≤ 1000) (ht : ∀ W, Below w.heap.size w W → TabN W) :
    Calls Tryd.prog 13 #[.pointer (some ⟨sb, 0, none⟩), .string ⟨kk.toArray⟩, .slice A n c] w (FindPost w sb fp bl nn mm es put (bestL kk xs es)) := find19_wide h kk A n c xs hr hn (fun f hf => ⟨Nat.le_trans (hs f hf).1 (by decide), Nat.le_trans (hs f hf).2 (by decide)⟩) hk ht
end Go.Proofs.YtokhlmoanlcjmaaDoor
