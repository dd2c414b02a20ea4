/- Joined out of the texts Kit, Spec1, Rd, FieldSpec, Own, Lower, Same, Values, Trim, SplitSpec, StaysSpec, Join, SumF, Get, DateSpec, DirSpec, TickSpec, SurSpec, FreshSpec, EntV, ResOne, MaxL, Cut, Build, Quote, Token, Said, Split, KpRow, OwnD, Each, DList, RTok, RLow, QuoteR (wip/tools/merge.py). -/
import Derived.Test.YtgmmjhcklhajiaaGreatDoorRows
import Derived.WalkKit
import Derived.WalkSpells
import Derived.WalkLawsBesides
import Derived.Deep.DeepCutAuto
import Derived.Deep.QuietTactic
import Derived.BigQuiet
import Derived.Lib.Hide
import Derived.Lib.Strings
import Derived.Lib.Join
import Derived.Maps.AppendAt
import Derived.Test.YtgmmjhcklhajiaaGreatDoorShelf
import Derived.Lib.SlBytesRow
import Derived.Lib.IndexLaws
import Derived.Shelf.Strings.SlTrimAscii
import Derived.Lib.IndexMore
import Derived.Lib.Index
import Derived.Lib.ItoaNum
import Derived.Laws.ResultCell
import Derived.Lib.FrozenHead2
import Derived.Lib.OthersKept
import Derived.Shelf.Strings.BuilderK
import Derived.RangeFuncWrites
import Derived.Laws.Entries
import Derived.RangeFuncNested
import Derived.RangeFuncBound
import Derived.RangeFuncCalls
import Derived.RangeFuncLeaves
import Derived.RangeFuncBox
import Derived.Shelf.Abstract
import Derived.Shelf.RegionOpen
import Derived.OwnWalkIn
import Derived.TacticsInMore
import Derived.LoopNIn
import Derived.LoopIn
import Derived.Laws.BytesArg
/- Small lemmas that all walks of this seat use. -/
namespace Go.Proofs.YtgmmjhcklhajiaaGreatDoor
open Go.RowKit

/-- One call behind the other: nothing that was there at the first has turned. -/
theorem bt {w w1 w2 : World} (h : Below w.heap.size w w1) (k : Below w1.heap.size w1 w2) : Below w.heap.size w w2 := h.trans (k.mono h.size)
theorem ret_int {k : IntKind} {a b : Int} (h : a = b) : Ending.returned (.int k a) = .returned (.int k b) := by rw [h]

/-! Bytes of a string, from the front and to the end. -/
theorem take_snoc (s : ByteArray) (k : Nat) (h : k < s.size) : s.data.toList.take (k + 1) = s.data.toList.take k ++ [s[k]] := by
  rw [List.take_succ_eq_append_getElem (by simpa using h)]; rfl
theorem drop_cons (s : ByteArray) (k : Nat) (h : k < s.size) : s.data.toList.drop k = s[k] :: s.data.toList.drop (k + 1) := by
  rw [List.drop_eq_getElem_cons (by simpa using h)]; rfl
theorem take_all (s : ByteArray) (k : Nat) (h : s.size ≤ k) : s.data.toList.take k = s.data.toList := List.take_of_length_le (by simpa using h)
theorem drop_all (s : ByteArray) (k : Nat) (h : s.size ≤ k) : s.data.toList.drop k = [] := List.drop_eq_nil_of_le (by simpa using h)
theorem all_snoc (p : UInt8 → Bool) (s : ByteArray) (k : Nat) (h : k < s.size) :
    (s.data.toList.take (k + 1)).all p = ((s.data.toList.take k).all p && p s[k]) := by
  rw [take_snoc s k h, List.all_append]; simp
theorem all_bad (p : UInt8 → Bool) (s : ByteArray) (k : Nat) (h : k < s.size) (hb : p s[k] = false) : s.data.toList.all p = false := by
  rw [List.all_eq_false]
  exact ⟨s[k], by show s.data[k] ∈ _; simp, by simp [hb]⟩
theorem str_of (s : ByteArray) : (⟨s.data.toList.toArray⟩ : ByteArray) = s := Lib.mk_data s
theorem str_eq (s t : ByteArray) (h : s.data.toList = t.data.toList) : s = t := by rw [← str_of s, ← str_of t, h]
theorem app_list (o t : ByteArray) : (o ++ t).data.toList = o.data.toList ++ t.data.toList := by simp
theorem ext_one (s : ByteArray) (k : Nat) (h : k < s.size) : (s.extract k (k + 1)).data.toList = [s[k]] := by
  rw [Lib.extract_data, drop_cons s k h]; simp
theorem str_list {o : ByteArray} {l : List UInt8} (h : o.data.toList = l) : o = ⟨l.toArray⟩ := by rw [← h, str_of]
theorem beq_cast (a b : Nat) : (a == b) = ((a : Int) == (b : Int)) := by rw [Bool.eq_iff_iff]; simp only [beq_iff_eq]; omega
theorem mk_at (t : ByteArray) (l : List UInt8) (ht : t = ⟨l.toArray⟩) (j : Nat) (h : j < t.size) (h' : j < l.length) : t[j] = l[j] := by
  subst ht; show (l.toArray)[j] = _; simp
theorem at_list (s : ByteArray) (j : Nat) (h : j < s.size) : s[j] = s.data.toList[j]'(by simpa using h) := by show s.data[j] = _; simp
theorem ne_of_pos (s : ByteArray) (h : 0 < s.size) : s.data.toList.isEmpty = false := by
  cases hq : s.data.toList with
  | nil => rw [Lib.size_eq, hq] at h; exact absurd h (by simp)
  | cons _ _ => rfl
theorem nil_of_zero (s : ByteArray) (h : ¬ 0 < s.size) : s.data.toList = [] := by
  apply List.eq_nil_of_length_eq_zero; rw [← Lib.size_eq]; omega
theorem heap_new (w : World) (o : Obj) (n : Nat) (h : w.heap.size = n) : (w.alloc o).heap[n]? = some o := by
  subst h; show (w.heap.push o)[w.heap.size]? = _; simp
theorem empty_eq : (ByteArray.empty : ByteArray) = ⟨#[]⟩ := rfl
theorem u8_lt (c : UInt8) : (c.toNat : Int) < 256 := by have := c.toNat_lt; omega
end Go.Proofs.YtgmmjhcklhajiaaGreatDoor
/- What the functions of layer 1 compute, as plain functions on lists of bytes; no program in sight. -/
namespace Go.Proofs.YtgmmjhcklhajiaaGreatDoor

/-- may a byte be in a quoted text? -/
def plainb (c : UInt8) : Bool := c.toNat == 9 || (decide (32 ≤ c.toNat) && c.toNat != 127)
def esc (c : UInt8) : List UInt8 := bif c.toNat == 34 || c.toNat == 92 then [92, c] else [c]
theorem esc_le (c : UInt8) : (esc c).length ≤ 2 := by unfold esc; cases (c.toNat == 34 || c.toNat == 92) <;> simp
theorem flat_le (l : List UInt8) : (l.flatMap esc).length ≤ 2 * l.length := by
  induction l with
  | nil => simp
  | cons x r ih => have := esc_le x; rw [List.flatMap_cons, List.length_append, List.length_cons]; omega
def quoted (s : ByteArray) : List UInt8 := 34 :: (s.data.toList.flatMap esc ++ [34])
def two (l : Option (List UInt8)) : Value := match l with
  | some l => .tuple #[.string ⟨l.toArray⟩, .int .i64 0]
  | none => .tuple #[.string ⟨#[]⟩, .int .i64 4]
/-- Quote. -/
def quoteO (s : ByteArray) : Option (List UInt8) := bif s.data.toList.all plainb then some (quoted s) else none

/-- What the pieces say, byte by byte: the flag tells whether a byte 92 stands ahead. -/
def unq : Bool → List UInt8 → Option (List UInt8)
  | b, [] => bif b then none else some []
  | b, c :: r =>
    bif !plainb c || (c.toNat == 34 && !b) then none
    else bif c.toNat == 92 && !b then unq true r
    else (unq false r).map (c :: ·)
/-- Unquote: the program's way: both ends first, then what is between them. -/
def unqP (l : List UInt8) : Option (List UInt8) :=
  bif decide (2 ≤ l.length) && (l.head?.getD 0).toNat == 34 && (l.getLast?.getD 0).toNat == 34 then unq false (l.drop 1).dropLast else none
/-- Unquote: the document's way: piece by piece up to the closing mark. -/
def unqD : List UInt8 → Option (List UInt8)
  | [] => none
  | [c] => bif c.toNat == 34 then some [] else none
  | c :: d :: r =>
    bif c.toNat == 34 then none
    else bif c.toNat == 92 then (bif plainb d then (unqD r).map (d :: ·) else none)
    else (bif plainb c then (unqD (d :: r)).map (c :: ·) else none)
def unqR (l : List UInt8) : Option (List UInt8) := match l with
  | [] => none
  | c :: r => bif c.toNat == 34 then unqD r else none

/-- Both ways agree. -/
theorem unqD_eq : ∀ (n : Nat) (l : List UInt8), l.length ≤ n → unqD l = bif decide (1 ≤ l.length) && (l.getLast?.getD 0).toNat == 34 then unq false l.dropLast else none
  | _, [], _ => rfl
  | _, [c], _ => by by_cases h : c.toNat = 34 <;> simp [unqD, h, unq]
  | 0, c :: d :: r, h => by simp at h
  | n + 1, c :: d :: r, h => by
    have ih1 := unqD_eq n (d :: r) (by simp at *; omega)
    have ih2 := unqD_eq n r (by simp at *; omega)
    have hl : (c :: d :: r).getLast? = (d :: r).getLast? := by simp [List.getLast?_cons_cons]
    have hd : (c :: d :: r).dropLast = c :: (d :: r).dropLast := by simp
    rw [hl, hd, unqD]
    cases h34 : (c.toNat == 34)
    · cases h92 : (c.toNat == 92)
      · rw [ih1]
        cases hp : plainb c <;> cases hq : (((d :: r).getLast?.getD 0).toNat == 34)
        all_goals simp [unq, h34, h92, hp]
      · have hc : plainb c = true := by simp at h92; simp [plainb, h92]
        cases r with
        | nil =>
          cases hp : plainb d <;> cases hq : (d.toNat == 34)
          all_goals simp [h92, h34, unq, unqD, hc, hq]
        | cons e r =>
          have hl2 : (d :: e :: r).getLast? = (e :: r).getLast? := by simp [List.getLast?_cons_cons]
          have hd2 : (d :: e :: r).dropLast = d :: (e :: r).dropLast := by simp
          rw [hl2, hd2, ih2]
          cases hp : plainb d <;> cases hq : (((e :: r).getLast?.getD 0).toNat == 34)
          all_goals simp [h92, h34, unq, hc, hp]
    · have h92 : (c.toNat == 92) = false := by simp at h34; simp [h34]
      have hc : plainb c = true := by simp at h34; simp [plainb, h34]
      simp [unq, h34, h92, hc]
theorem unqP_eq (l : List UInt8) : unqP l = unqR l := by
  cases l with
  | nil => rfl
  | cons c r =>
    unfold unqR unqP
    simp only [List.drop_one, List.tail_cons]
    rw [unqD_eq r.length r (Nat.le_refl _)]
    cases r with
    | nil => simp
    | cons d r =>
      have hl : (c :: d :: r).getLast? = (d :: r).getLast? := by simp [List.getLast?_cons_cons]
      rw [hl]
      cases h : (c.toNat == 34) <;> cases hq : (((d :: r).getLast?.getD 0).toNat == 34)
      all_goals simp [h]

/-- Lower. -/
def lowb (c : UInt8) : UInt8 := bif decide (65 ≤ c.toNat) && decide (c.toNat ≤ 90) then c + 32 else c
def lowerL (l : List UInt8) : List UInt8 := l.map lowb
/-- a token's byte -/
def markL : List UInt8 := [33, 35, 36, 37, 38, 39, 42, 43, 45, 46, 94, 95, 96, 124, 126]
def letterb (c : UInt8) : Bool := (decide (97 ≤ c.toNat) && decide (c.toNat ≤ 122)) || (decide (65 ≤ c.toNat) && decide (c.toNat ≤ 90)) || (decide (48 ≤ c.toNat) && decide (c.toNat ≤ 57))
def wordb (c : UInt8) : Bool := letterb c || markL.contains c
def tokenL (l : List UInt8) : Bool := l.all wordb && !l.isEmpty
end Go.Proofs.YtgmmjhcklhajiaaGreatDoor
/- What a slice that is read holds, wherever it came from: plain words on memory; lists of texts and of fields. -/
namespace Go.Proofs.YtgmmjhcklhajiaaGreatDoor
open Go.RowKit

/-- n elements, 'size' cells each, lie behind A. -/
def Rd (A : Option Addr) (n size : Nat) (xs : List Value) (w : World) : Prop :=
  xs.length = n * size ∧ (0 < n → ∃ b o, A = some ⟨b, o, none⟩ ∧ b < w.heap.size ∧ ∀ j u, xs[j]? = some u → w.cell? ⟨b, o + j, none⟩ = some u)
theorem Rd.nil {A : Option Addr} {size : Nat} {w : World} : Rd A 0 size [] w := ⟨by simp, fun h => absurd h (by omega)⟩
theorem Rd.below {A : Option Addr} {n size : Nat} {xs : List Value} {w w' : World} (h : Rd A n size xs w) (hb : Below w.heap.size w w') : Rd A n size xs w' := by
  refine ⟨h.1, fun hn => ?_⟩
  obtain ⟨b, o, e, hl, hc⟩ := h.2 hn
  exact ⟨b, o, e, by have := hb.size; omega, fun j u hu => (hb.cell (p := ⟨b, o + j, none⟩) hl).trans (hc j u hu)⟩
theorem Rd.of_own {B : Nat} {e : TypeId} {size : Nat} {a : Option Addr} {m n cap : Nat} {xs : List Value} {w : World} (h : w.ownsRow B e size (.slice a m cap) n xs) : m = n ∧ Rd a n size xs w := by
  obtain ⟨h1, h2⟩ := h
  rcases h2 with ⟨hv, h0⟩ | ⟨g, cp, cur, hv, hg, hh, hn, hm, hs, hx⟩
  · cases hv; exact ⟨h0.symm, h1, fun hn => by omega⟩
  · cases hv
    refine ⟨rfl, h1, fun _ => ⟨g, 0, rfl, ?_, fun j u hu => ?_⟩⟩
    · rcases Nat.lt_or_ge g w.heap.size with h' | h'
      · exact h'
      · simp [Array.getElem?_eq_none h'] at hh
    · have hj : j < m * size := by
        have := (List.getElem?_eq_some_iff.1 hu).1; omega
      have h3 : cur[j]? = some u := by
        rw [← hu, ← hx, List.getElem?_take_of_lt hj, Array.getElem?_toList]
      rw [Nat.zero_add]
      simp only [World.cell?, hh]
      exact h3

/-- Texts as values. -/
def strsV (ls : List (List UInt8)) : List Value := ls.map fun l => Value.string ⟨l.toArray⟩
theorem Rd.str {A : Option Addr} {n : Nat} {ls : List (List UInt8)} {w : World} (h : Rd A n 1 (strsV ls) w) : n = ls.length := by
  have := h.1; unfold strsV at this; simpa using this.symm
theorem Rd.str_at {A : Option Addr} {n k : Nat} {ls : List (List UInt8)} {w : World} (h : Rd A n 1 (strsV ls) w) (hk : k < ls.length) :
    ∃ b o, A = some ⟨b, o, none⟩ ∧ b < w.heap.size ∧ w.cell? ⟨b, o + k, none⟩ = some (.string ⟨(ls[k]).toArray⟩) := by
  obtain ⟨b, o, e, hl, hc⟩ := h.2 (by rw [h.str]; omega)
  exact ⟨b, o, e, hl, hc k _ (by simp [strsV, hk])⟩

/-- A header field. -/
abbrev Fld := List UInt8 × List UInt8
def fldV (f : Fld) : List Value := [.string ⟨f.1.toArray⟩, .string ⟨f.2.toArray⟩]
def fldsV (xs : List Fld) : List Value := xs.flatMap fldV
theorem fldsV_len (xs : List Fld) : (fldsV xs).length = xs.length * 2 := by
  unfold fldsV
  induction xs with
  | nil => rfl
  | cons x r ih => rw [List.flatMap_cons, List.length_append, ih, List.length_cons]; show 2 + _ = _; omega
theorem fldsV_at : ∀ (xs : List Fld) (k : Nat) (hk : k < xs.length), (fldsV xs)[k * 2]? = some (.string ⟨(xs[k]).1.toArray⟩) ∧ (fldsV xs)[k * 2 + 1]? = some (.string ⟨(xs[k]).2.toArray⟩)
  | [], k, hk => by simp at hk
  | x :: r, 0, _ => by unfold fldsV; simp [fldV]
  | x :: r, k + 1, hk => by
    have ih := fldsV_at r k (by simpa using hk)
    unfold fldsV at ih ⊢
    rw [List.flatMap_cons, show (k + 1) * 2 = k * 2 + 2 from by omega]
    have e : ∀ j, (fldV x ++ r.flatMap fldV)[j + 2]? = (r.flatMap fldV)[j]? := fun j => by rw [List.getElem?_append_right (by show 2 ≤ _; omega)]; rfl
    rw [show k * 2 + 2 + 1 = (k * 2 + 1) + 2 from by omega, e, e]
    simpa using ih
theorem Rd.fld {A : Option Addr} {n : Nat} {xs : List Fld} {w : World} (h : Rd A n 2 (fldsV xs) w) : n = xs.length := by
  have := h.1; rw [fldsV_len] at this; omega
theorem Rd.fld_at {A : Option Addr} {n k : Nat} {xs : List Fld} {w : World} (h : Rd A n 2 (fldsV xs) w) (hk : k < xs.length) :
    ∃ b o, A = some ⟨b, o, none⟩ ∧ b < w.heap.size ∧ w.cell? ⟨b, o + k * 2, none⟩ = some (.string ⟨(xs[k]).1.toArray⟩) ∧ w.cell? ⟨b, o + k * 2 + 1, none⟩ = some (.string ⟨(xs[k]).2.toArray⟩) := by
  obtain ⟨b, o, e, hl, hc⟩ := h.2 (by rw [h.fld]; omega)
  have := fldsV_at xs k hk
  exact ⟨b, o, e, hl, hc _ _ this.1, hc _ _ this.2⟩
end Go.Proofs.YtgmmjhcklhajiaaGreatDoor
/- Fields of a name: plain. -/
namespace Go.Proofs.YtgmmjhcklhajiaaGreatDoor

def valuesL (xs : List Fld) (name : List UInt8) : List (List UInt8) := (xs.filter fun f => lowerL f.1 == lowerL name).map (·.2)
theorem valuesL_le (xs : List Fld) (name : List UInt8) : (valuesL xs name).length ≤ xs.length := by
  unfold valuesL; rw [List.length_map]; exact List.length_filter_le _ _
theorem valuesL_snoc (xs : List Fld) (f : Fld) (name : List UInt8) : valuesL (xs ++ [f]) name = if lowerL f.1 == lowerL name then valuesL xs name ++ [f.2] else valuesL xs name := by
  unfold valuesL
  rw [List.filter_append]
  cases h : (lowerL f.1 == lowerL name) <;> simp [h]
theorem take_snocL {α : Type} (xs : List α) (k : Nat) (h : k < xs.length) : xs.take (k + 1) = xs.take k ++ [xs[k]] := List.take_succ_eq_append_getElem h
end Go.Proofs.YtgmmjhcklhajiaaGreatDoor
/- Texts in a slice that the call made; blocks of one cell. -/
namespace Go.Proofs.YtgmmjhcklhajiaaGreatDoor
open Go.RowKit

theorem uStr : (Tryz.prog.info? 9).map (fun i => (i.zero, i.size, i.bytes)) = some (some (.string ByteArray.empty), 1, 16) := by kernel_rfl
/-- A slice of texts that the call made. -/
def OwnS (B : Nat) (v : Value) (ls : List (List UInt8)) (w : World) : Prop := w.ownsRow B 9 1 v ls.length (ls.map fun l => Value.string ⟨l.toArray⟩)
theorem OwnS.shape {B : Nat} {v : Value} {ls : List (List UInt8)} {w : World} (h : OwnS B v ls w) : ∃ a cap, v = .slice a ls.length cap := by
  rcases h.2 with ⟨rfl, h0⟩ | ⟨g, cap, cur, rfl, _⟩
  · exact ⟨none, 0, by rw [h0]⟩
  · exact ⟨_, _, rfl⟩

theorem own_below {B : Nat} {e : TypeId} {size : Nat} {v : Value} {n : Nat} {xs : List Value} {w w1 : World} (h : w.ownsRow B e size v n xs) (hb : Below w.heap.size w w1) : w1.ownsRow B e size v n xs := by
  obtain ⟨h1, h2⟩ := h
  refine ⟨h1, ?_⟩
  rcases h2 with h2 | ⟨g, cap, cur, hv, hg, hh, r⟩
  · exact Or.inl h2
  · refine Or.inr ⟨g, cap, cur, hv, hg, ?_, r⟩
    have hlt : g < w.heap.size := by
      rcases Nat.lt_or_ge g w.heap.size with h' | h'
      · exact h'
      · simp [Array.getElem?_eq_none h'] at hh
    rw [hb.block g hlt]; exact hh
theorem OwnS.below {B : Nat} {v : Value} {ls : List (List UInt8)} {w w1 : World} (h : OwnS B v ls w) (hb : Below w.heap.size w w1) : OwnS B v ls w1 := own_below h hb
theorem of_heap {w : World} {b : Nat} {cs : Array Value} {T : TypeId} (h : w.heap[b]? = some (.cells cs T (0, 0))) (j : Nat) : w.cell? ⟨b, j, none⟩ = cs[j]? ∧ w.frozen? ⟨b, j, none⟩ = false ∧ b < w.heap.size := by
  refine ⟨by simp [World.cell?, h], by simp [World.frozen?, h], ?_⟩
  rcases Nat.lt_or_ge b w.heap.size with h' | h'
  · exact h'
  · simp [Array.getElem?_eq_none h'] at h
theorem heap_set {w : World} {b : Nat} {v u : Value} {T : TypeId} (h : w.heap[b]? = some (.cells #[u] T (0, 0))) : (w.setCell ⟨b, 0, none⟩ v).heap[b]? = some (.cells #[v] T (0, 0)) := by
  simp [World.setCell, Array.getElem?_modify, h]

theorem heap_set2 {w : World} {b c : Nat} {v u x : Value} {T : TypeId} (hne : c ≠ b) (h : w.heap[b]? = some (.cells #[u] T (0, 0))) : ((w.setCell ⟨b, 0, none⟩ v).setCell ⟨c, 0, none⟩ x).heap[b]? = some (.cells #[v] T (0, 0)) := by
  rw [Below.heap_setCell _ _ _ _ (by show b ≠ c; omega)]; exact heap_set h
theorem OwnS.cell {B n cap : Nat} {a : Option Addr} {ls : List (List UInt8)} {w : World} (h : OwnS B (.slice a n cap) ls w) (j : Nat) (hj : j < ls.length) :
    ∃ g, a = some ⟨g, 0, none⟩ ∧ w.cell? ⟨g, j, none⟩ = some (.string ⟨ls[j].toArray⟩) ∧ w.frozen? ⟨g, j, none⟩ = false := by
  rcases h.2 with ⟨_, h0⟩ | ⟨g, cp, cur, hv, hg, hh, hn, hc, hs, hx⟩
  · omega
  · cases hv
    refine ⟨g, rfl, ?_, by simp [World.frozen?, hh]⟩
    have h1 : cur[j]? = (cur.toList.take (ls.length * 1))[j]? := by
      rw [List.getElem?_take_of_lt (by omega), Array.getElem?_toList]
    have h2 : cur[j]? = some (.string ⟨ls[j].toArray⟩) := by
      rw [h1, hx, List.getElem?_map, List.getElem?_eq_getElem hj]; rfl
    simp only [World.cell?, hh]
    exact h2
theorem OwnS.base {B B' : Nat} {v : Value} {ls : List (List UInt8)} {w : World} (h : OwnS B v ls w) (hB : B' ≤ B) : OwnS B' v ls w := by
  refine ⟨h.1, ?_⟩
  rcases h.2 with h | ⟨g, cp, cur, hv, hg, r⟩
  · exact Or.inl h
  · exact Or.inr ⟨g, cp, cur, hv, by omega, r⟩
theorem OwnS.room {B n cap : Nat} {a : Option Addr} {ls : List (List UInt8)} {w : World} (h : OwnS B (.slice a n cap) ls w) : n = ls.length ∧ n ≤ cap ∧ (0 < n → ∃ g, a = some ⟨g, 0, none⟩ ∧ g < w.heap.size) := by
  rcases h.2 with ⟨hv, h0⟩ | ⟨g, cp, cur, hv, hg, hh, hn, hc, hs, hx⟩
  · cases hv; exact ⟨by omega, by omega, fun h => by omega⟩
  · cases hv
    refine ⟨rfl, hn, fun _ => ⟨g, rfl, ?_⟩⟩
    rcases Nat.lt_or_ge g w.heap.size with h' | h'
    · exact h'
    · simp [Array.getElem?_eq_none h'] at hh

/-! One element more at the end of a row that the call made. -/
/-- What an append leaves alone, and where the new row lies. -/
def Far (w w1 : World) (v v' : Value) : Prop := w.grownBy w1 v.ownBlock ∧ (v'.ownBlock = v.ownBlock ∨ ∀ g, v'.ownBlock = some g → w.heap.size ≤ g)
theorem wp_app_one {P : Program} {o : Oper} {a : Act} {K : Act → World → Prop} {Q : Exit → Act → World → Prop} (s x : Operand) (T E : TypeId)
    (ho : o.op = .call { callee := .builtin .append, args := #[s, x], argTypes := #[T, T] }) {z : Value} {size bytes : Nat} (ht : P.underlying T = some (.slice E)) (hinf : (P.info? E).map (fun i => (i.zero, i.size, i.bytes)) = some (some z, size, bytes))
    (hzs : z.cells.size = size) (hsz : 0 < size) (hbs : bytes ≤ 1000) {w wx : World} (B g : Nat) {v : Value} {n : Nat} {xs : List Value} (news : List Value) (hl : news.length = size) (h1 : ∀ u ∈ news, u.oneCell' = true)
    (hs : a.eval s = v) (hx : a.eval x = .slice (some ⟨g, 0, none⟩) 1 1) (hown : wx.ownsRow B E size v n xs) (hB : B ≤ w.heap.size) (hn : n ≤ 1000000000)
    (hc : ∀ j : Nat, wx.cell? ⟨g, j, none⟩ = news[j]?) (hwx : Below w.heap.size w wx)
    (hK : ∀ v' w1, w1.ownsRow B E size v' (n + 1) (xs ++ news) → Below B w w1 → Far wx w1 v v' → K (a.put o.dst v') w1) :
    o.wp P a wx K Q := by
  obtain ⟨i0, hi, hz0, hz1, hz2⟩ := info_parts hinf
  have hby : (n + 1) * bytes ≤ 1000000001 * 1000 := Nat.mul_le_mul (by omega) hbs
  have hsz2 := hwx.size
  obtain ⟨v', w', hr, h2, h3, _, h5⟩ := run_append_own_at (P := P) wx B T o.type E i0 z size bytes ht hi hz0 hz1 hz2 hzs hsz v n xs hown ⟨g, 0, none⟩ 1 1 news (by omega) (by
    intro j u hj
    have e : (⟨g, 0, none⟩ : Addr).add j = ⟨g, j, none⟩ := by
      unfold Addr.add; split <;> simp_all
    rw [e, hc, hj]) h1 (by unfold maxLen; omega) (by omega) (by omega)
  unfold Oper.wp execOp
  simp only [ho, resolve, invoke, builtin, Sem.run_bind, Sem.run_pure, Result.andThen_ok, List.map_toArray, List.map_cons, List.map_nil, hs, hx, hr]
  refine hK _ _ h2 ?_ ⟨h3, ?_⟩
  · exact (hwx.mono hB).grown h3 (by omega) (fun k hk => (hown.lt k hk).1)
  · rcases h5 with h | h
    · exact Or.inl h
    · refine Or.inr fun g hg => ?_
      rw [h] at hg
      have := Option.some.inj hg
      omega
theorem far_alloc {w w1 : World} {o : Obj} {v v' : Value} (h : Far (w.alloc o) w1 v v') : Far w w1 v v' := by
  obtain ⟨hgrow, hwhere⟩ := h
  have h0 := World.grownBy_alloc w o v.ownBlock
  refine ⟨⟨hgrow.os.trans h0.os, hgrow.tape.trans h0.tape, hgrow.output.trans h0.output, Nat.le_trans h0.size hgrow.size, fun k hk hne => (hgrow.block k (Nat.lt_of_lt_of_le hk h0.size) hne).trans (h0.block k hk hne)⟩, ?_⟩
  rcases hwhere with h | h
  · exact Or.inl h
  · exact Or.inr fun g hg => Nat.le_trans h0.size (h g hg)
theorem app_one {P : Program} {ops : Array Oper} {rest : List Oper} {o : Oper} {a : Act} {Q : Exit → Act → World → Prop} (hgd : o.guard = none) (s x : Operand) (T E : TypeId)
    (ho : o.op = .call { callee := .builtin .append, args := #[s, x], argTypes := #[T, T] }) {z : Value} {size bytes : Nat} (ht : P.underlying T = some (.slice E)) (hinf : (P.info? E).map (fun i => (i.zero, i.size, i.bytes)) = some (some z, size, bytes))
    (hzs : z.cells.size = size) (hsz : 0 < size) (hbs : bytes ≤ 1000) {w : World} (B : Nat) {v : Value} {n : Nat} {xs : List Value} (news : List Value) (hl : news.length = size) (h1 : ∀ u ∈ news, u.oneCell' = true)
    (hs : a.eval s = v) (hx : a.eval x = .slice (some ⟨w.heap.size, 0, none⟩) 1 1) (hown : w.ownsRow B E size v n xs) (hB : B ≤ w.heap.size) (hn : n ≤ 1000000000)
    (hK : ∀ v' w1, w1.ownsRow B E size v' (n + 1) (xs ++ news) → Below B w w1 → Far w w1 v v' → wpList P ops Q rest (a.put o.dst v') w1) :
    wpList P ops Q (o :: rest) a (w.alloc (.cells news.toArray E)) :=
  wpList_plain hgd fun _ hK' => wp_app_one s x T E ho ht hinf hzs hsz hbs B w.heap.size news hl h1 hs hx (hown.alloc _) hB hn (fun j => by rw [World.cell?_alloc_mark]; simp) ((Below.refl _ w).alloc (Nat.le_refl _) _)
    fun v' w1 h2 h3 h4 => hK' _ _ (hK v' w1 h2 h3 (far_alloc h4))
/-- The same in a region that draws its order: the block lies behind a draw. -/
theorem step_app_one {P : Program} {ops : Array Oper} {o : Oper} {a : Act} {K : Act → World → Prop} {Q : Exit → Act → World → Prop} {G : Prop} (hgd : o.guard = none) (s x : Operand) (T E : TypeId)
    (ho : o.op = .call { callee := .builtin .append, args := #[s, x], argTypes := #[T, T] }) {z : Value} {size bytes : Nat} (ht : P.underlying T = some (.slice E)) (hinf : (P.info? E).map (fun i => (i.zero, i.size, i.bytes)) = some (some z, size, bytes))
    (hzs : z.cells.size = size) (hsz : 0 < size) (hbs : bytes ≤ 1000) {w : World} (B : Nat) {v : Value} {n : Nat} {xs : List Value} (news : List Value) (hl : news.length = size) (h1 : ∀ u ∈ news, u.oneCell' = true)
    (hs : a.eval s = v) (hx : a.eval x = .slice (some ⟨w.heap.size, 0, none⟩) 1 1) (hown : w.ownsRow B E size v n xs) (hB : B ≤ w.heap.size) (hn : n ≤ 1000000000)
    (hK : ∀ v' w1, w1.ownsRow B E size v' (n + 1) (xs ++ news) → Below B w w1 → Far w w1 v v' → K (a.put o.dst v') w1) :
    if Region.wanted o (yielded ops a.tmps) = true then Oper.wp P o a (w.alloc (.cells news.toArray E)) K Q else G := by
  have hw : Region.wanted o (yielded ops a.tmps) = true := by simp [Region.wanted, hgd]
  rw [if_pos hw]
  exact wp_app_one s x T E ho ht hinf hzs hsz hbs B w.heap.size news hl h1 hs hx (hown.alloc _) hB hn (fun j => by rw [World.cell?_alloc_mark]; simp) ((Below.refl _ w).alloc (Nat.le_refl _) _)
    fun v' w1 h2 h3 h4 => hK v' w1 h2 h3 (far_alloc h4)
theorem app_str {ops : Array Oper} {rest : List Oper} {o : Oper} {a : Act} {Q : Exit → Act → World → Prop} (B : Nat) (y : List UInt8) {w : World} {v : Value} {ls : List (List UInt8)} (hown : OwnS B v ls w) (hB : B ≤ w.heap.size) (hn : ls.length ≤ 1000000000)
    (hgd : o.guard = none) (s x : Operand) (ho : o.op = .call { callee := .builtin .append, args := #[s, x], argTypes := #[57, 57] })
    (hs : a.eval s = v) (hx : a.eval x = .slice (some ⟨w.heap.size, 0, none⟩) 1 1)
    (hK : ∀ v' w1, OwnS B v' (ls ++ [y]) w1 → Below B w w1 → Far w w1 v v' → wpList Tryz.prog ops Q rest (a.put o.dst v') w1) :
    wpList Tryz.prog ops Q (o :: rest) a (w.alloc (.cells #[.string ⟨y.toArray⟩] 9)) := by
  refine app_one (z := .string ByteArray.empty) (bytes := 16) (n := ls.length) hgd s x 57 9 ho Tryz.underlying57 uStr rfl (by decide) (by decide) B [.string ⟨y.toArray⟩] rfl (by intro u hu; simp at hu; subst hu; rfl) hs hx hown hB hn ?_
  intro v' w1 h1 h2 h3
  refine hK v' w1 ?_ h2 h3
  show World.ownsRow _ _ _ _ _ _ _
  rw [List.length_append, List.length_singleton, List.map_append]
  exact h1
theorem OwnS.drew {B : Nat} {v : Value} {ls : List (List UInt8)} {w : World} (h : OwnS B v ls w) : OwnS B v ls w.drew := h
theorem OwnS.nil (B : Nat) (w : World) : OwnS B (.slice none 0 0) [] w := World.ownsRow_nil _ _ _ _
/-- Texts that are handed back in a slice of the call's own. -/
def TextsPost (w : World) (ls : List (List UInt8)) (e : Ending) (w' : World) : Prop :=
  ∃ a cap, e = .returned (.slice a ls.length cap) ∧ OwnS w.heap.size (.slice a ls.length cap) ls w' ∧ Below w.heap.size w w'
theorem OwnS.rd {B m cap : Nat} {a : Option Addr} {ls : List (List UInt8)} {w : World} (h : OwnS B (.slice a m cap) ls w) : m = ls.length ∧ Rd a ls.length 1 (strsV ls) w := Rd.of_own h
/-- v's row is none of those that lie behind A. -/
def Sep (v : Value) (A : Option Addr) (n : Nat) : Prop := 0 < n → ∀ g o, A = some ⟨g, o, none⟩ → v.ownBlock ≠ some g
theorem Rd.far {A : Option Addr} {n size : Nat} {xs : List Value} {w w1 : World} {v v' : Value} (h : Rd A n size xs w) (hf : Far w w1 v v') (hs : Sep v A n) : Rd A n size xs w1 ∧ Sep v' A n := by
  refine ⟨⟨h.1, fun hn => ?_⟩, fun hn g o e => ?_⟩
  · obtain ⟨b, o, e, hl, hc⟩ := h.2 hn
    have hb := hf.1.block b hl (fun x => hs hn b o e x.symm)
    exact ⟨b, o, e, Nat.lt_of_lt_of_le hl hf.1.size, fun j u hu => (World.cell?_of_block (a := ⟨b, o + j, none⟩) hb).trans (hc j u hu)⟩
  · obtain ⟨b, o', e', hl, _⟩ := h.2 hn
    rw [e'] at e
    cases e
    rcases hf.2 with h2 | h2
    · rw [h2]; exact hs hn _ _ e'
    · intro x; have := h2 _ x; omega
/-- What lies in new blocks is none of an elder row. -/
theorem Sep.new {v : Value} {B n : Nat} {e : TypeId} {m size : Nat} {xs : List Value} {w : World} {A : Option Addr} (h : w.ownsRow B e size v m xs) (ha : ∀ g o, A = some ⟨g, o, none⟩ → w.heap.size ≤ g) : Sep v A n := by
  intro _ g o e x
  have := (h.lt g x).2
  have := ha g o e
  omega
theorem own_new {B : Nat} {e : TypeId} {size : Nat} {a : Option Addr} {m n cap : Nat} {xs : List Value} {w : World} (h : w.ownsRow B e size (.slice a m cap) n xs) : ∀ g o, a = some ⟨g, o, none⟩ → B ≤ g := by
  intro g o e
  exact (h.lt g (by rw [e]; rfl)).1
end Go.Proofs.YtgmmjhcklhajiaaGreatDoor
/- The walk of text.Lower. -/
namespace Go.Proofs.YtgmmjhcklhajiaaGreatDoor
open Go.RowKit

/-- The bytes with the first k made small. -/
def lowTo (s : ByteArray) (k : Nat) : ByteArray := ⟨((s.data.toList.take k).map lowb ++ s.data.toList.drop k).toArray⟩
theorem lowTo_size (s : ByteArray) (k : Nat) : (lowTo s k).size = s.size := by
  unfold lowTo; rw [Lib.size_eq, Lib.size_eq]; simp only [List.length_append, List.length_map, List.length_take, List.length_drop]; omega
theorem lowTo_zero (s : ByteArray) : lowTo s 0 = s := by unfold lowTo; simp
theorem lowTo_end (s : ByteArray) : lowTo s s.size = ⟨(lowerL s.data.toList).toArray⟩ := by
  unfold lowTo lowerL; rw [take_all s _ (Nat.le_refl _), drop_all s _ (Nat.le_refl _), List.append_nil]
theorem lowTo_at (s : ByteArray) (k j : Nat) (h : j < s.size) (h' : j < (lowTo s k).size) : (lowTo s k)[j] = if j < k then lowb s[j] else s[j] := by
  have hl : j < ((s.data.toList.take k).map lowb ++ s.data.toList.drop k).length := by
    rw [List.length_append, List.length_map, List.length_take, List.length_drop, ← Lib.size_eq]; omega
  rw [mk_at (lowTo s k) _ rfl j h' hl, at_list s j h]
  by_cases hk : j < k
  · rw [if_pos hk, List.getElem_append_left (by rw [List.length_map, List.length_take, ← Lib.size_eq]; omega)]
    simp only [List.getElem_map, List.getElem_take]
  · rw [if_neg hk, List.getElem_append_right (by rw [List.length_map, List.length_take, ← Lib.size_eq]; omega)]
    simp only [List.getElem_drop]; congr 1
    rw [List.length_map, List.length_take, ← Lib.size_eq]; omega

/-- A row of bytes in block b that may be written. -/
structure RowAt (b : Nat) (s : ByteArray) (w : World) : Prop where
  cells : Lib.Bytes w b 0 s
  free : ∀ i, i < s.size → w.frozen? ⟨b, i, none⟩ = false

theorem RowAt.fresh (s : ByteArray) (cap : Nat) (w : World) :
    RowAt w.heap.size s (w.alloc (.cells (bytesRow s cap) 5 ((bytesRow s cap).size, (bytesRow s cap).size + 1))) := by
  refine ⟨fun i h => ?_, fun i h => ?_⟩
  · rw [Nat.zero_add, World.cell?_alloc_mark, bytesRow_at s cap i h]; rfl
  · rw [World.frozen?_alloc_mark]
    have : s.size ≤ (bytesRow s cap).size := by unfold bytesRow; simp
    simp; omega
theorem RowAt.drew {b : Nat} {s : ByteArray} {w : World} (h : RowAt b s w) : RowAt b s w.drew := ⟨fun i hi => h.cells i hi, fun i hi => h.free i hi⟩
theorem RowAt.same {b k : Nat} {s : ByteArray} {w : World} (h : RowAt b (lowTo s k) w) (hk : k < s.size) (e : lowb s[k] = s[k]) : RowAt b (lowTo s (k + 1)) w := by
  refine ⟨fun i hi => ?_, fun i hi => h.free i (by rw [lowTo_size] at *; exact hi)⟩
  have hi2 : i < s.size := by rw [lowTo_size] at hi; exact hi
  rw [h.cells i (by rw [lowTo_size]; exact hi2), lowTo_at s k i hi2, lowTo_at s (k + 1) i hi2]
  by_cases h1 : i < k
  · rw [if_pos h1, if_pos (by omega)]
  · rw [if_neg h1]
    by_cases h2 : i = k
    · subst h2; rw [if_pos (by omega), e]
    · rw [if_neg (by omega)]
theorem RowAt.put {b k : Nat} {s : ByteArray} {w : World} (h : RowAt b (lowTo s k) w) (hk : k < s.size) {n : Int} (e : ((lowb s[k]).toNat : Int) = n) : RowAt b (lowTo s (k + 1)) (w.setCell ⟨b, k, none⟩ (.int .u8 n)) := by
  refine ⟨fun i hi => ?_, fun i hi => ?_⟩
  · have hi2 : i < s.size := by rw [lowTo_size] at hi; exact hi
    have hc := h.cells i (by rw [lowTo_size]; exact hi2)
    rw [Nat.zero_add] at hc ⊢
    rw [lowTo_at s (k + 1) i hi2]
    by_cases h2 : i = k
    · subst h2
      rw [World.cell?_setCell_same _ _ _ hc, if_pos (by omega), e]
    · rw [World.cell?_setCell_other _ _ _ _ (by intro e; cases e; exact h2 rfl), hc, lowTo_at s k i hi2]
      by_cases h1 : i < k
      · rw [if_pos h1, if_pos (by omega)]
      · rw [if_neg h1, if_neg (by omega)]
  · rw [World.frozen?_setCell]; exact h.free i (by rw [lowTo_size] at *; exact hi)
theorem RowAt.at {b k : Nat} {s : ByteArray} {w : World} (h : RowAt b (lowTo s k) w) (hk : k < s.size) : w.cell? ⟨b, k, none⟩ = some (.int .u8 s[k].toNat) := by
  have hc := h.cells k (by rw [lowTo_size]; exact hk)
  rw [Nat.zero_add] at hc
  rw [hc, lowTo_at s k k hk, if_neg (by omega)]

theorem lowb_no (c : UInt8) (h : (decide (65 ≤ (c.toNat : Int)) && decide ((c.toNat : Int) ≤ 90)) = false) : lowb c = c := by
  have : (decide (65 ≤ c.toNat) && decide (c.toNat ≤ 90)) = false := by rw [← h, Bool.eq_iff_iff]; simp; omega
  unfold lowb; rw [this]; rfl
theorem lowb_yes (c : UInt8) (h1 : decide (65 ≤ (c.toNat : Int)) = true) (h2 : decide ((c.toNat : Int) ≤ 90) = true) : ((lowb c).toNat : Int) = (c.toNat : Int) + 32 := by
  have : (decide (65 ≤ c.toNat) && decide (c.toNat ≤ 90)) = true := by simp at *; omega
  unfold lowb; rw [this, cond_true]
  have : c.toNat ≤ 90 := by simp at h2; omega
  rw [UInt8.toNat_add]; simp; omega

set_option maxRecDepth 100000 in
set_option maxHeartbeats 2000000 in
theorem lower_wide (s : ByteArray) (w : World) (hs : s.size ≤ 140737488351232) :
    Calls Tryz.prog 107 #[.string s] w fun e w' => e = .returned (.string ⟨(lowerL s.data.toList).toArray⟩) ∧ Below w.heap.size w w' := by
  have hcv := run_bytes_of_string (P := Tryz.prog) w 9 125 5 s Tryz.underlying9 Tryz.underlying125 Tryz.underlying5
  have hfr := RowAt.fresh s (grownCap w s.size 0 5) w
  have hbl : Below w.heap.size w (w.alloc (.cells (bytesRow s (grownCap w s.size 0 5)) 5 ((bytesRow s (grownCap w s.size 0 5)).size, (bytesRow s (grownCap w s.size 0 5)).size + 1))) := (Below.refl _ w).alloc (Nat.le_refl _) _
  generalize grownCap w s.size 0 5 = cap at *
  generalize Obj.cells (bytesRow s cap) 5 ((bytesRow s cap).size, (bytesRow s cap).size + 1) = row at *
  have HF := Lib.hid hfr; have HL := Lib.hid hbl; clear hfr hbl
  go_enter Tryz.func107, Tryz.ntmps107
  go_wp2
  clear hcv
  go_loopw [9] (fun i wr => ∃ k : Nat, k ≤ s.size ∧ i = .int .i64 k ∧ RowAt w.heap.size (lowTo s k) wr ∧ Below w.heap.size w wr) (fun i _ => s.size - (intOf i).toNat)
  case atStart => exact ⟨0, Nat.zero_le _, rfl, by rw [lowTo_zero]; exact HF.out.drew, HL.out.drew⟩
  case round =>
    obtain ⟨k, hk, rfl, hR, hbw⟩ := hrel
    have HR := Lib.hid hR; clear hR
    by_cases hlt : k < s.size
    · have hc := HR.out.at hlt
      have hz := HR.out.free k (by rw [lowTo_size]; exact hlt)
      have hu := u8_lt s[k]
      cases c1 : decide (65 ≤ (s[k].toNat : Int)) <;> cases c2 : decide ((s[k].toNat : Int) ≤ 90)
      · exfalso; simp at c1 c2; omega
      · have hl := lowb_no s[k] (by rw [c1, c2]; rfl)
        have Hl := Lib.hid hl; clear hl
        go_wp2
        go_roundw
        case rel => exact ⟨k + 1, by omega, by go_num, HR.out.same hlt Hl.out, hbw⟩
        case measure => simp [intOf]; omega
      · have hl := lowb_no s[k] (by rw [c1, c2]; rfl)
        have Hl := Lib.hid hl; clear hl
        go_wp2
        go_roundw
        case rel => exact ⟨k + 1, by omega, by go_num, HR.out.same hlt Hl.out, hbw⟩
        case measure => simp [intOf]; omega
      · have hl := lowb_yes s[k] c1 c2
        have Hl := Lib.hid hl; clear hl
        have hu2 : (s[k].toNat : Int) ≤ 90 := by simp at c2; omega
        go_wp2
        go_roundw
        case rel => exact ⟨k + 1, by omega, by go_num, HR.out.put hlt Hl.out, hbw.setCell (Nat.le_refl _) _⟩
        case measure => simp [intOf]; omega
    · have hke : k = s.size := by omega
      have hb := Lib.run_convert_whole (P := Tryz.prog) wr 125 5 9 Tryz.underlying125 Tryz.underlying5 Tryz.underlying9 w.heap.size 0 (lowTo s k) HR.out.cells cap
      rw [lowTo_size] at hb
      have hfin : lowTo s k = ⟨(lowerL s.data.toList).toArray⟩ := by rw [hke, lowTo_end]
      have Hf := Lib.hid hfin; clear hfin
      generalize lowTo s k = t at *
      have Hke := Lib.hid hke; clear hke
      go_wp2
      go_ret
      exact ⟨by rw [← Hf.out]; rfl, hbw⟩
theorem lower_any (s : ByteArray) (w : World) (hs : s.size ≤ 1000000) :
    Calls Tryz.prog 107 #[.string s] w fun e w' => e = .returned (.string ⟨(lowerL s.data.toList).toArray⟩) ∧ Below w.heap.size w w' := lower_wide s w (by omega)
end Go.Proofs.YtgmmjhcklhajiaaGreatDoor
/- The walk of text.Same. -/
namespace Go.Proofs.YtgmmjhcklhajiaaGreatDoor
open Go.RowKit

set_option maxHeartbeats 1000000 in
theorem tsame_wide (a b : ByteArray) (w : World) (ha : a.size ≤ 140737488351232) (hb : b.size ≤ 140737488351232) :
    Calls Tryz.prog 87 #[.string a, .string b] w fun e w' => e = .returned (.bool (lowerL a.data.toList == lowerL b.data.toList)) ∧ Below w.heap.size w w' := by
  have hB := Below.refl w.heap.size w
  have k1 := fun w => lower_wide a w ha
  have k2 := fun w => lower_wide b w hb
  have t1 : ((⟨(lowerL a.data.toList).toArray⟩ : ByteArray).toList == (⟨(lowerL b.data.toList).toArray⟩ : ByteArray).toList) = (lowerL a.data.toList == lowerL b.data.toList) := by rw [Lib.toList_data, Lib.toList_data]
  generalize lowerL a.data.toList = x at *
  generalize lowerL b.data.toList = y at *
  have K1 := Lib.hid k1; have K2 := Lib.hid k2; have T1 := Lib.hid t1; clear k1 k2 t1
  go_enter Tryz.func87, Tryz.ntmps87
  go_wp2_with fail
  refine (K1.out _).mono ?_
  rintro e w1 ⟨rfl, hb1⟩
  go_wp2_with fail
  refine (K2.out _).mono ?_
  rintro e w2 ⟨rfl, hb2⟩
  go_wp2
  go_ret
  exact ⟨by rw [← T1.out]; rfl, bt hb1 hb2⟩
theorem tsame_any (a b : ByteArray) (w : World) (ha : a.size ≤ 1000000) (hb : b.size ≤ 1000000) :
    Calls Tryz.prog 87 #[.string a, .string b] w fun e w' => e = .returned (.bool (lowerL a.data.toList == lowerL b.data.toList)) ∧ Below w.heap.size w w' := tsame_wide a b w (by omega) (by omega)
end Go.Proofs.YtgmmjhcklhajiaaGreatDoor
/- The walk of fields.Values. -/
namespace Go.Proofs.YtgmmjhcklhajiaaGreatDoor
open Go.RowKit

set_option maxRecDepth 100000 in
set_option maxHeartbeats 2000000 in
theorem values_any (A : Option Addr) (n c : Nat) (xs : List Fld) (name : ByteArray) (w : World) (hr : Rd A n 2 (fldsV xs) w) (hn : n ≤ 1000000) (hs : ∀ f ∈ xs, f.1.length ≤ 1000000) (hname : name.size ≤ 1000000) :
    Calls Tryz.prog 38 #[.slice A n c, .string name] w (TextsPost w (valuesL xs name.data.toList)) := by
  have hB := Below.refl w.heap.size w
  obtain rfl := hr.fld
  have HR := Lib.hid hr; have HS := Lib.hid hs; clear hr hs
  go_enter Tryz.func38, Tryz.ntmps38
  go_wp2
  go_loopw [9, 4] (fun i out wr => ∃ k : Nat, k ≤ xs.length ∧ i = .int .i64 k ∧ Hid (OwnS w.heap.size out (valuesL (xs.take k) name.data.toList) wr) ∧ Below w.heap.size w wr) (fun i _ _ => xs.length - (intOf i).toNat)
  case atStart => exact ⟨0, Nat.zero_le _, rfl, Lib.hid (OwnS.nil _ _), hB⟩
  case round =>
    clear hB
    obtain ⟨k, hk, rfl, HO, hbw⟩ := hrel
    by_cases hlt : k < xs.length
    · obtain ⟨b, o, rfl, hl, c1, c2⟩ := (HR.out.below hbw).fld_at (k := k) (by omega)
      have hf1 := HS.out xs[k] (List.getElem_mem _)
      have hsn := valuesL_snoc (xs.take k) xs[k] name.data.toList
      rw [← take_snocL xs k (by omega)] at hsn
      have k1 := fun w => tsame_any ⟨(xs[k]).1.toArray⟩ name w (by rw [Lib.size_eq]; exact hf1) hname
      have hvl := valuesL_le (xs.take k) name.data.toList
      rw [List.length_take] at hvl
      generalize xs[k] = f at *
      obtain ⟨f1, f2⟩ := f
      simp only at c1 c2 k1 hsn
      have Hsn := Lib.hid hsn; have K1 := Lib.hid k1; clear hsn k1 hf1
      cases hq : (lowerL f1 == lowerL name.data.toList)
      · have hnx := Hsn.out
        rw [hq, if_neg (by decide)] at hnx
        have HN : Hid (OwnS w.heap.size u4 (valuesL (xs.take (k + 1)) name.data.toList) wr) := by rw [hnx]; exact HO
        have Hq := Lib.hid hq; clear hnx hq Hsn
        go_wp2_with (go_at_call 87; refine (K1.out _).mono ?_; rintro e w1 ⟨rfl, hb1⟩; rw [Hq.out])
        have hb2 : Below w.heap.size w w1 := (hbw.alloc hbw.size _).trans (hb1.mono (by have := hbw.size; simp; omega))
        go_roundw
        case rel => exact ⟨k + 1, by omega, by go_num, Lib.hid ((HN.out.below ((Below.refl _ wr).alloc (Nat.le_refl _) _)).below hb1), hb2⟩
        case measure => simp [intOf]; omega
      · have hnx := Hsn.out
        rw [hq, if_pos rfl] at hnx
        have Hnx := Lib.hid hnx
        have Hq := Lib.hid hq; clear hnx hq Hsn
        go_wp2_with fail
        refine (K1.out _).mono ?_
        rintro e w1 ⟨rfl, hb1⟩
        rw [Hq.out]
        have d2 := hb1.cell (p := ⟨wr.heap.size, 1, none⟩) (by simp)
        simp [go_sem] at d2
        have hb2 : Below w.heap.size w w1 := (hbw.alloc hbw.size _).trans (hb1.mono (by have := hbw.size; simp; omega))
        have hO1 := (HO.out.below ((Below.refl _ wr).alloc (Nat.le_refl _) _)).below hb1
        have HO1 := Lib.hid hO1; clear hO1 HO
        go_wp2_with (at_builtin; refine app_str w.heap.size f2 HO1.out hb2.size (by omega) rfl _ _ rfl rfl rfl ?_)
        intro v' w2 hO2 hb3 _
        have hb4 := hb2.trans hb3
        have HO2 : Hid (OwnS w.heap.size v' (valuesL (xs.take (k + 1)) name.data.toList) w2) := by rw [Hnx.out]; exact Lib.hid hO2
        clear hO2 hb3 hb2 hb1 d2
        go_wp2
        go_roundw
        case rel => exact ⟨k + 1, by omega, by go_num, HO2, hb4⟩
        case measure => simp [intOf]; omega
    · have hke : k = xs.length := by omega
      subst hke
      have ho := HO.out
      rw [List.take_length] at ho
      obtain ⟨a, cap, rfl⟩ := ho.shape
      have HO1 := Lib.hid ho; clear ho HO
      go_wp2
      go_ret
      exact ⟨a, cap, rfl, HO1.out, hbw⟩
end Go.Proofs.YtgmmjhcklhajiaaGreatDoor
/- The walk of text.Trim. -/
namespace Go.Proofs.YtgmmjhcklhajiaaGreatDoor
open Go.RowKit

def blanks : List UInt8 := [32, 9]
def trimL (l : List UInt8) : List UInt8 := Lib.trimS l blanks
theorem trimL_le (l : List UInt8) : (trimL l).length ≤ l.length := by
  have h1 : ∀ m : List UInt8, (Lib.trimLeftS m blanks).length ≤ m.length := fun m => (List.dropWhile_sublist _).length_le
  have h2 : ∀ m : List UInt8, (Lib.trimRightS m blanks).length ≤ m.length := fun m => by
    unfold Lib.trimRightS; rw [List.length_reverse]
    exact Nat.le_trans (List.dropWhile_sublist _).length_le (by rw [List.length_reverse]; exact Nat.le_refl _)
  exact Nat.le_trans (h1 _) (h2 _)

set_option maxHeartbeats 1000000 in
theorem trim_any (s : ByteArray) (w : World) (hs : s.size ≤ 1000000) :
    Calls Tryz.prog 157 #[.string s] w fun e w' => e = .returned (.string ⟨(trimL s.data.toList).toArray⟩) ∧ Below w.heap.size w w' := by
  have hcon := Any.strings_Trim_laid Tryz.lays160 (by kernel_rfl) s ⟨#[32, 9]⟩ w (by omega) (by decide) (ascii_of_all (by decide))
  have HC := Lib.hid hcon; clear hcon
  go_enter Tryz.func157, Tryz.ntmps157
  go_wp2_with (go_at_call 198; refine HC.out.mono ?_; rintro e w' ⟨rfl, hb⟩)
  go_ret
  exact ⟨rfl, hb⟩
end Go.Proofs.YtgmmjhcklhajiaaGreatDoor
/- What text.Split computes, and the document's way: plain functions on lists of bytes. -/
namespace Go.Proofs.YtgmmjhcklhajiaaGreatDoor

def addP (ls : List (List UInt8)) (p : List UInt8) : List (List UInt8) := bif p.isEmpty then ls else ls ++ [p]
theorem addP_le (ls : List (List UInt8)) (p : List UInt8) : (addP ls p).length ≤ ls.length + 1 := by
  unfold addP; cases p.isEmpty <;> simp
def splP (sep : UInt8) : Bool → Bool → List UInt8 → List (List UInt8) → List UInt8 → Option (List (List UInt8))
  | o, _, cur, ls, [] => bif o then none else some (addP ls (trimL cur))
  | o, b, cur, ls, c :: r =>
    bif b then splP sep o false (cur ++ [c]) ls r
    else bif o && c.toNat == 92 then splP sep o true (cur ++ [c]) ls r
    else bif c.toNat == 34 then splP sep (!o) false (cur ++ [c]) ls r
    else bif c.toNat == sep.toNat && !o then splP sep o false [] (addP ls (trimL cur)) r
    else splP sep o false (cur ++ [c]) ls r
/-- The pieces and the error's number. -/
def splitE (t : Option (List (List UInt8))) : List (List UInt8) × Int := match t with
  | none => ([], 4)
  | some ls => bif decide (64 < ls.length) then ([], 3) else (ls, 0)
def splitL (sep : UInt8) (l : List UInt8) : List (List UInt8) × Int :=
  bif sep.toNat == 34 || sep.toNat == 92 then ([], 2) else splitE (splP sep false false [] [] l)

/-- The document's way: which bytes stand in quotes; is one open at the end? -/
def fl : Bool → Bool → List UInt8 → List Bool
  | _, _, [] => []
  | o, b, c :: r => (o || c.toNat == 34) :: (bif b then fl o false r else bif o && c.toNat == 92 then fl o true r else bif c.toNat == 34 then fl (!o) false r else fl o false r)
def en : Bool → Bool → List UInt8 → Bool
  | o, _, [] => o
  | o, b, c :: r => bif b then en o false r else bif o && c.toNat == 92 then en o true r else bif c.toNat == 34 then en (!o) false r else en o false r
def spR (sep : UInt8) : List UInt8 → List (List UInt8) → List UInt8 → List Bool → List (List UInt8)
  | cur, ls, c :: r, f :: fs => bif (c.toNat != sep.toNat) || f then spR sep (cur ++ [c]) ls r fs else spR sep [] (addP ls (trimL cur)) r fs
  | cur, ls, _, _ => addP ls (trimL cur)
theorem fl_length : ∀ (l : List UInt8) (o b : Bool), (fl o b l).length = l.length
  | [], _, _ => rfl
  | c :: r, o, b => by
    simp only [fl, List.length_cons]
    congr 1
    cases b <;> cases (o && c.toNat == 92) <;> cases (c.toNat == 34) <;> simp [fl_length r]
theorem spl_eq (sep : UInt8) (hs : (sep.toNat == 34) = false) : ∀ (l : List UInt8) (o b : Bool) (cur : List UInt8) (ls : List (List UInt8)), (b = true → o = true) →
    splP sep o b cur ls l = bif en o b l then none else some (spR sep cur ls l (fl o b l))
  | [], o, b, cur, ls, _ => by simp [splP, en, spR]
  | c :: r, o, b, cur, ls, h => by
    have hne : (c.toNat == 34) = true → (c.toNat != sep.toNat) = true := by
      intro e; simp at e hs ⊢; omega
    have i1 := spl_eq sep hs r
    cases b
    · cases o
      · cases h34 : (c.toNat == 34)
        · cases hc : (c.toNat == sep.toNat)
          · have : (c.toNat != sep.toNat) = true := by simp [bne, hc]
            simp [splP, en, spR, fl, h34, hc, this, i1]
          · have : (c.toNat != sep.toNat) = false := by simp [bne, hc]
            simp [splP, en, spR, fl, h34, hc, this, i1]
        · simp [splP, en, spR, fl, h34, i1]
      · cases h92 : (c.toNat == 92)
        · cases h34 : (c.toNat == 34)
          · simp [splP, en, spR, fl, h34, h92, i1]
          · simp [splP, en, spR, fl, h34, h92, i1]
        · simp [splP, en, spR, fl, h92, i1]
    · have ho := h rfl
      subst ho
      simp [splP, en, spR, fl, i1]
theorem spl_count (sep : UInt8) : ∀ (l : List UInt8) (o b : Bool) (cur : List UInt8) (ls ps : List (List UInt8)), splP sep o b cur ls l = some ps → ps.length ≤ ls.length + l.length + 1
  | [], o, b, cur, ls, ps, h => by
    cases o
    · simp [splP] at h; subst h; have := addP_le ls (trimL cur); simp; omega
    · simp [splP] at h
  | c :: r, o, b, cur, ls, ps, h => by
    have ih := spl_count sep r
    have ha := addP_le ls (trimL cur)
    rw [splP] at h
    rw [List.length_cons]
    cases b
    · simp only [cond_false] at h
      cases hx : (o && c.toNat == 92) <;> rw [hx] at h <;> simp only [cond_true, cond_false] at h
      · cases h34 : (c.toNat == 34) <;> rw [h34] at h <;> simp only [cond_true, cond_false] at h
        · cases hy : (c.toNat == sep.toNat && !o) <;> rw [hy] at h <;> simp only [cond_true, cond_false] at h
          · have := ih _ _ _ _ _ h; omega
          · have := ih _ _ _ _ _ h; omega
        · have := ih _ _ _ _ _ h; omega
      · have := ih _ _ _ _ _ h; omega
    · simp only [cond_true] at h
      have := ih _ _ _ _ _ h; omega
end Go.Proofs.YtgmmjhcklhajiaaGreatDoor
/- What TextStays and TextKnown want of the plain functions. -/
namespace Go.Proofs.YtgmmjhcklhajiaaGreatDoor

theorem lowb_twice (c : UInt8) : lowb (lowb c) = lowb c := by
  by_cases h : (decide (65 ≤ c.toNat) && decide (c.toNat ≤ 90)) = true
  · have h1 : lowb c = c + 32 := by unfold lowb; rw [h]; rfl
    have h2 : (c + 32).toNat = c.toNat + 32 := by
      simp at h; rw [UInt8.toNat_add]; simp; omega
    have h3 : (decide (65 ≤ (c + 32).toNat) && decide ((c + 32).toNat ≤ 90)) = false := by simp at h ⊢; omega
    rw [h1]; unfold lowb; rw [h3]; rfl
  · have h' : (decide (65 ≤ c.toNat) && decide (c.toNat ≤ 90)) = false := by simpa using h
    have h1 : lowb c = c := by unfold lowb; rw [h']; rfl
    rw [h1, h1]
theorem lower_twice (l : List UInt8) : lowerL (lowerL l) = lowerL l := by
  unfold lowerL; rw [List.map_map]; apply List.map_congr_left; intro c _; exact lowb_twice c
theorem lower_length (l : List UInt8) : (lowerL l).length = l.length := by unfold lowerL; simp

theorem dw_idem (p : UInt8 → Bool) : ∀ l : List UInt8, (l.dropWhile p).dropWhile p = l.dropWhile p
  | [] => rfl
  | c :: r => by
    cases h : p c
    · rw [List.dropWhile_cons_of_neg (by simp [h]), List.dropWhile_cons_of_neg (by simp [h])]
    · rw [List.dropWhile_cons_of_pos h]; exact dw_idem p r
theorem dw_suffix (p : UInt8 → Bool) (l : List UInt8) : ∃ a, l = a ++ l.dropWhile p := ⟨l.takeWhile p, (List.takeWhile_append_dropWhile).symm⟩
theorem dw_none (p : UInt8 → Bool) (l : List UInt8) (h : ∀ c ∈ l, p c = false) : l.dropWhile p = l := by
  cases l with
  | nil => rfl
  | cons c r => rw [List.dropWhile_cons_of_neg (by simp [h c (by simp)])]
theorem trim_twice (l : List UInt8) : trimL (trimL l) = trimL l := by
  unfold trimL Lib.trimS Lib.trimLeftS Lib.trimRightS
  generalize (fun x => blanks.contains x) = p
  obtain ⟨a, ha⟩ := dw_suffix p (l.reverse.dropWhile p).reverse
  have hr : (l.reverse.dropWhile p).dropWhile p = l.reverse.dropWhile p := dw_idem _ _
  generalize l.reverse.dropWhile p = r at *
  have ht := dw_idem p r.reverse
  generalize r.reverse.dropWhile p = t at *
  have h1 : t.reverse.dropWhile p = t.reverse := by
    have h2 : r = t.reverse ++ a.reverse := by rw [← List.reverse_reverse r, ha]; simp
    cases h3 : t.reverse with
    | nil => rfl
    | cons x y =>
      rw [h3] at h2
      rw [h2] at hr
      cases hx : p x
      · rw [List.dropWhile_cons_of_neg (by simp [hx])]
      · exfalso
        rw [List.cons_append, List.dropWhile_cons_of_pos hx] at hr
        have := congrArg List.length hr
        have h4 : ((y ++ a.reverse).dropWhile p).length ≤ (y ++ a.reverse).length := (List.dropWhile_sublist p).length_le
        rw [List.length_cons] at this
        omega
  rw [h1, List.reverse_reverse, ht]
theorem trim_infix (l : List UInt8) : ∃ a b, l = a ++ (trimL l ++ b) := by
  unfold trimL Lib.trimS Lib.trimLeftS Lib.trimRightS
  generalize (fun x => blanks.contains x) = p
  obtain ⟨b, hb⟩ := dw_suffix p l.reverse
  obtain ⟨a, ha⟩ := dw_suffix p (l.reverse.dropWhile p).reverse
  refine ⟨a, b.reverse, ?_⟩
  rw [← List.append_assoc, ← ha, ← List.reverse_append, ← hb, List.reverse_reverse]
theorem contains_of (l t a b : List UInt8) (h : l = a ++ (t ++ b)) : Lib.contains l t = true := by
  unfold Lib.contains
  rcases Lib.index_spec l t with ⟨_, h2⟩ | ⟨i, h1, _⟩
  · exfalso
    have := h2 a.length (by rw [h]; simp)
    unfold Lib.occAt at this
    rw [h, List.drop_left] at this
    have h3 : t.isPrefixOf (t ++ b) = true := by rw [List.isPrefixOf_iff_prefix]; exact List.prefix_append _ _
    rw [h3] at this; cases this
  · rw [h1]; simp
theorem contains_trim (l : List UInt8) : Lib.contains l (trimL l) = true := by
  obtain ⟨a, b, h⟩ := trim_infix l
  exact contains_of _ _ _ _ h

theorem word_not {c : UInt8} (h : wordb c = true) : blanks.contains c = false ∧ (c.toNat == 34) = false ∧ (c.toNat == 92) = false := by
  have h0 : ∀ d : UInt8, wordb d = true → (blanks.contains d = false ∧ (d.toNat == 34) = false ∧ (d.toNat == 92) = false) := by
    intro d hd
    refine ⟨?_, ?_, ?_⟩
    · cases hb : blanks.contains d
      · rfl
      · have : d = 32 ∨ d = 9 := by simpa [blanks] using hb
        rcases this with e | e <;> subst e <;> exact absurd hd (by decide)
    · cases hb : (d.toNat == 34)
      · rfl
      · have : d = 34 := by rw [← UInt8.toNat_inj]; simpa using hb
        subst this; exact absurd hd (by decide)
    · cases hb : (d.toNat == 92)
      · rfl
      · have : d = 92 := by rw [← UInt8.toNat_inj]; simpa using hb
        subst this; exact absurd hd (by decide)
  exact h0 c h
theorem token_all {l : List UInt8} (h : tokenL l = true) : (∀ c ∈ l, wordb c = true) ∧ l.isEmpty = false := by
  unfold tokenL at h
  rw [Bool.and_eq_true] at h
  refine ⟨fun c hc => List.all_eq_true.1 h.1 c hc, ?_⟩
  cases hl : l.isEmpty
  · rfl
  · rw [hl] at h; exact absurd h.2 (by decide)
theorem trim_word (l : List UInt8) (h : ∀ c ∈ l, wordb c = true) : trimL l = l := by
  unfold trimL Lib.trimS Lib.trimLeftS Lib.trimRightS
  have h1 : l.reverse.dropWhile (fun x => blanks.contains x) = l.reverse := dw_none _ _ (fun c hc => (word_not (h c (by simpa using hc))).1)
  rw [h1, List.reverse_reverse]
  exact dw_none _ _ (fun c hc => (word_not (h c hc)).1)
theorem trim_token {l : List UInt8} (h : tokenL l = true) : trimL l = l := trim_word l (token_all h).1
theorem unqP_token {l : List UInt8} (h : tokenL l = true) : unqP l = none := by
  cases l with
  | nil => rfl
  | cons c r =>
    have hc := word_not ((token_all h).1 c (by simp))
    have : ((c :: r).head?.getD 0).toNat = c.toNat := rfl
    unfold unqP
    rw [this, hc.2.1]; simp
theorem spl_word (sep : UInt8) : ∀ (l cur : List UInt8), (∀ c ∈ l, wordb c = true) → (∀ c ∈ l, (c.toNat == sep.toNat) = false) → splP sep false false cur [] l = some (addP [] (trimL (cur ++ l)))
  | [], cur, _, _ => by simp [splP]
  | c :: r, cur, h1, h2 => by
    have hc := word_not (h1 c (by simp))
    have hs := h2 c (by simp)
    rw [splP, hc.2.1, hs]
    simp only [cond_false, Bool.false_and]
    rw [spl_word sep r (cur ++ [c]) (fun x hx => h1 x (by simp [hx])) (fun x hx => h2 x (by simp [hx]))]
    simp
theorem split_token {l : List UInt8} {sep : UInt8} (h : tokenL l = true) (hs : ∀ c ∈ l, (c.toNat == sep.toNat) = false) (h1 : (sep.toNat == 34) = false) (h2 : (sep.toNat == 92) = false) : splitL sep l = ([l], 0) := by
  have ht := token_all h
  unfold splitL
  rw [h1, h2, spl_word sep l [] ht.1 hs, List.nil_append, trim_token h]
  unfold addP; rw [ht.2]; rfl

/-- What 'pieces' hands back. -/
def piecesL (sep : UInt8) (l : List UInt8) : List UInt8 :=
  bif (splitL sep l).2 == 0 then Lib.join (splitL sep l).1 [124] else [101, 114, 114, 111, 114, 32, 48 + UInt8.ofNat (splitL sep l).2.toNat]
theorem pieces_token {l : List UInt8} {sep : UInt8} (h : tokenL l = true) (hs : ∀ c ∈ l, (c.toNat == sep.toNat) = false) (h1 : (sep.toNat == 34) = false) (h2 : (sep.toNat == 92) = false) : piecesL sep l = l := by
  unfold piecesL; rw [split_token h hs h1 h2]; exact Lib.join_one _ _
theorem split_err (sep : UInt8) (l : List UInt8) : 0 ≤ (splitL sep l).2 ∧ (splitL sep l).2 ≤ 4 := by
  unfold splitL
  cases (sep.toNat == 34 || sep.toNat == 92)
  · cases splP sep false false [] [] l with
    | none => simp [splitE]
    | some ls =>
      simp only [splitE, cond_false]
      cases h : decide (64 < ls.length) <;> simp
  · simp
/-- The pieces together are no longer than the text. -/
def total (ls : List (List UInt8)) : Nat := (ls.map List.length).sum
theorem total_addP (ls : List (List UInt8)) (p : List UInt8) : total (addP ls p) = total ls + p.length := by
  unfold addP total
  cases h : p.isEmpty
  · simp
  · simp at h; simp [h]
theorem spl_total (sep : UInt8) : ∀ (l : List UInt8) (o b : Bool) (cur : List UInt8) (ls ps : List (List UInt8)), splP sep o b cur ls l = some ps → total ps ≤ total ls + cur.length + l.length
  | [], o, b, cur, ls, ps, h => by
    cases o
    · simp [splP] at h; subst h; have := trimL_le cur; rw [total_addP]; simp; omega
    · simp [splP] at h
  | c :: r, o, b, cur, ls, ps, h => by
    have ih := spl_total sep r
    have ha := total_addP ls (trimL cur)
    have hb := trimL_le cur
    rw [splP] at h
    rw [List.length_cons]
    cases b
    · simp only [cond_false] at h
      cases hx : (o && c.toNat == 92) <;> rw [hx] at h <;> simp only [cond_true, cond_false] at h
      · cases h34 : (c.toNat == 34) <;> rw [h34] at h <;> simp only [cond_true, cond_false] at h
        · cases hy : (c.toNat == sep.toNat && !o) <;> rw [hy] at h <;> simp only [cond_true, cond_false] at h
          · have := ih _ _ _ _ _ h; simp at this; omega
          · have := ih _ _ _ _ _ h; simp at this; omega
        · have := ih _ _ _ _ _ h; simp at this; omega
      · have := ih _ _ _ _ _ h; simp at this; omega
    · simp only [cond_true] at h
      have := ih _ _ _ _ _ h; simp at this; omega
theorem split_total (sep : UInt8) (l : List UInt8) : total (splitL sep l).1 ≤ l.length := by
  unfold splitL
  cases (sep.toNat == 34 || sep.toNat == 92)
  · cases h : splP sep false false [] [] l with
    | none => simp [splitE, total]
    | some ls =>
      have h1 := spl_total sep l _ _ _ _ _ h
      simp only [splitE, cond_false]
      cases h : decide (64 < ls.length)
      · simpa [total] using h1
      · simp [total]
  · simp [total]
theorem join_le (sep : List UInt8) : ∀ ls : List (List UInt8), (Lib.join ls sep).length ≤ total ls + ls.length * sep.length
  | [] => by simp [Lib.join_nil]
  | [x] => by rw [Lib.join_one]; simp [total]
  | x :: y :: r => by
    have ih := join_le sep (y :: r)
    rw [Lib.join_cons] at ih ⊢
    unfold total at *
    simp [Lib.joinTail, Nat.add_mul] at ih ⊢
    omega
theorem total_mem {ls : List (List UInt8)} {x : List UInt8} (h : x ∈ ls) : x.length ≤ total ls := by
  unfold total
  induction ls with
  | nil => cases h
  | cons y r ih =>
    rw [List.map_cons, List.sum_cons]
    rcases List.mem_cons.1 h with rfl | h
    · omega
    · have := ih h; omega
end Go.Proofs.YtgmmjhcklhajiaaGreatDoor
/- strings.Join over a slice that the call made. -/
namespace Go.Proofs.YtgmmjhcklhajiaaGreatDoor
open Go.RowKit

theorem join_any (B cap : Nat) (a : Option Addr) (ls : List (List UInt8)) (sep : ByteArray) (w : World) (h : OwnS B (.slice a ls.length cap) ls w) (h1 : ls.length ≤ 1000000) (h2 : total ls + ls.length * sep.size ≤ 100000000000) :
    Calls Tryz.prog 114 #[.slice a ls.length cap, .string sep] w fun e w' => e = .returned (.string ⟨(Lib.join ls sep.data.toList).toArray⟩) ∧ Below w.heap.size w w' := by
  obtain ⟨_, hcap, hg⟩ := h.room
  cases ls with
  | nil =>
    refine (Tryz.strings_Join_none a cap sep w).mono ?_
    rintro e w' ⟨rfl, rfl⟩
    exact ⟨rfl, Below.refl _ _⟩
  | cons x r =>
    obtain ⟨g, rfl, hgl⟩ := hg (by simp)
    have hmap : ((x :: r).map fun l => (⟨l.toArray⟩ : ByteArray)).map (·.data.toList) = x :: r := by
      rw [List.map_map]; have : ((fun b : ByteArray => b.data.toList) ∘ fun l : List UInt8 => (⟨l.toArray⟩ : ByteArray)) = id := by funext l; simp
      rw [this, List.map_id]
    have hj := join_le sep.data.toList (x :: r)
    rw [← Lib.size_eq] at hj
    have k := Tryz.strings_Join g 0 cap ((x :: r).map fun l => (⟨l.toArray⟩ : ByteArray)) sep w (by
      intro j y hy
      obtain ⟨hj1, hj2⟩ := List.getElem?_eq_some_iff.1 hy
      have hj3 : j < (x :: r).length := by simpa using hj1
      obtain ⟨g', e, hc, _⟩ := h.cell j hj3
      cases e
      rw [Nat.zero_add, hc, ← hj2, List.getElem_map]) hgl (by rw [List.length_map]; omega) (by rw [List.length_map]; omega) (by rw [hmap]; omega)
    rw [hmap, List.length_map] at k
    exact k
end Go.Proofs.YtgmmjhcklhajiaaGreatDoor
/- All that fields hold: plain. -/
namespace Go.Proofs.YtgmmjhcklhajiaaGreatDoor
open Go.RowKit

/-- All that the fields hold. -/
def sumF (xs : List Fld) : Nat := (xs.map fun f => f.1.length + f.2.length).sum
theorem sumF_mem {xs : List Fld} {f : Fld} (h : f ∈ xs) : f.1.length + f.2.length ≤ sumF xs := by
  unfold sumF
  induction xs with
  | nil => cases h
  | cons x r ih =>
    rw [List.map_cons, List.sum_cons]
    rcases List.mem_cons.1 h with rfl | h
    · omega
    · have := ih h; omega
theorem sumF_take (xs : List Fld) (k : Nat) : sumF (xs.take k) ≤ sumF xs := by
  unfold sumF
  conv => rhs; rw [← List.take_append_drop k xs, List.map_append, List.sum_append]
  omega
theorem sumF_snoc (xs : List Fld) (k : Nat) (h : k < xs.length) : sumF (xs.take (k + 1)) = sumF (xs.take k) + (xs[k].1.length + xs[k].2.length) := by
  unfold sumF; rw [List.take_succ_eq_append_getElem h, List.map_append, List.sum_append]; rfl
end Go.Proofs.YtgmmjhcklhajiaaGreatDoor
/- The walk of fields.Get. -/
namespace Go.Proofs.YtgmmjhcklhajiaaGreatDoor
open Go.RowKit
set_option maxRecDepth 100000

theorem total_values (xs : List Fld) (name : List UInt8) : total (valuesL xs name) ≤ sumF xs := by
  unfold valuesL total sumF
  induction xs with
  | nil => simp
  | cons x r ih =>
    rw [List.filter_cons, List.map_cons, List.sum_cons]
    by_cases h : (lowerL x.1 == lowerL name) = true
    · rw [if_pos h, List.map_cons, List.map_cons, List.sum_cons]; omega
    · rw [if_neg h]; omega
/-- What a name has. -/
def getL (xs : List Fld) (name : List UInt8) : List UInt8 × Bool := (Lib.join (valuesL xs name) [44, 32], decide (0 < (valuesL xs name).length))
def getV (r : List UInt8 × Bool) : Value := .tuple #[.string ⟨r.1.toArray⟩, .bool r.2]
theorem getL_le (xs : List Fld) (name : List UInt8) : (getL xs name).1.length ≤ sumF xs + 2 * xs.length := by
  have h1 := join_le [44, 32] (valuesL xs name)
  have h2 := total_values xs name
  have h3 := valuesL_le xs name
  have h4 : ([44, 32] : List UInt8).length = 2 := rfl
  unfold getL
  rw [h4] at h1
  simp only; omega

set_option maxHeartbeats 2000000 in
theorem get_any (A : Option Addr) (n c : Nat) (xs : List Fld) (name : ByteArray) (w : World) (hr : Rd A n 2 (fldsV xs) w) (hn : n ≤ 1000000) (hs : sumF xs ≤ 1000000) (hname : name.size ≤ 1000000) :
    Calls Tryz.prog 53 #[.slice A n c, .string name] w fun e w' => e = .returned (getV (getL xs name.data.toList)) ∧ Below w.heap.size w w' := by
  have hxn := hr.fld
  have k1 := values_any A n c xs name w hr hn (fun f hf => by have := sumF_mem hf; omega) hname
  have hv := total_values xs name.data.toList
  have hvl := valuesL_le xs name.data.toList
  unfold getL getV
  simp only
  generalize valuesL xs name.data.toList = ls at *
  obtain ⟨J, hJ⟩ : ∃ J, (⟨(Lib.join ls [44, 32]).toArray⟩ : ByteArray) = J := ⟨_, rfl⟩
  rw [hJ]
  have hdec : decide (0 < ls.length) = decide ((ls.length : Int) > 0) := by rw [decide_eq_decide]; omega
  have k2 := fun (a : Option Addr) (c : Nat) (w1 : World) (h : OwnS w.heap.size (.slice a ls.length c) ls w1) => join_any w.heap.size c a ls ⟨#[44, 32]⟩ w1 h (by omega) (by rw [show (⟨#[44, 32]⟩ : ByteArray).size = 2 from rfl]; omega)
  rw [show (⟨#[44, 32]⟩ : ByteArray).data.toList = [44, 32] from rfl, hJ] at k2
  rw [hdec]
  clear hdec hJ
  have K1 := Lib.hid k1; have K2 := Lib.hid k2; clear k1 k2 hv hs hn hname hr hxn hvl
  go_enter Tryz.func53, Tryz.ntmps53
  go_wp2_with fail
  refine K1.out.mono ?_
  rintro e w1 ⟨a1, c1, rfl, ho1, hb1⟩
  have K3 := Lib.hid (K2.out a1 c1 w1 ho1)
  clear K1 K2 ho1
  go_wp2_with fail
  refine K3.out.mono ?_
  rintro e w2 ⟨rfl, hb2⟩
  go_wp2
  go_ret2
  refine ⟨?_, bt hb1 hb2⟩
  simp
end Go.Proofs.YtgmmjhcklhajiaaGreatDoor
/- Dates: what date.Parse and date.Put compute, in plain words; no program in sight. -/
namespace Go.Proofs.YtgmmjhcklhajiaaGreatDoor

def dg (c : UInt8) : Bool := decide (48 ≤ c.toNat) && decide (c.toNat ≤ 57)
def dnum : List UInt8 → Int → Int
  | [], a => a
  | c :: r, a => dnum r (10 * a + ((c.toNat : Int) - 48))
/-- So many digits off a text. -/
def dnumL (s : List UInt8) (n : Nat) : Int × List UInt8 × Bool :=
  bif decide (s.length < n) then (0, [], false) else bif (s.take n).all dg then (dnum (s.take n) 0, s.drop n, true) else (0, [], false)
/-- One of some names off a text. -/
def dname (s : List UInt8) (n : Nat) : List (List UInt8) → Nat → Int × List UInt8 × Bool
  | [], _ => (0, [], false)
  | x :: r, i =>
    bif Lib.hasPrefix s (bif decide (0 < n) then x.take n else x) then ((i : Int), s.drop (bif decide (0 < n) then x.take n else x).length, true) else dname s n r (i + 1)
def ddays : List (List UInt8) := [[84, 104, 117, 114, 115, 100, 97, 121], [70, 114, 105, 100, 97, 121], [83, 97, 116, 117, 114, 100, 97, 121], [83, 117, 110, 100, 97, 121], [77, 111, 110, 100, 97, 121], [84, 117, 101, 115, 100, 97, 121], [87, 101, 100, 110, 101, 115, 100, 97, 121]]
def dmonths : List UInt8 := [74, 97, 110, 70, 101, 98, 77, 97, 114, 65, 112, 114, 77, 97, 121, 74, 117, 110, 74, 117, 108, 65, 117, 103, 83, 101, 112, 79, 99, 116, 78, 111, 118, 68, 101, 99]
def dleap (y : Int) : Bool := y % 4 == 0 && y % 100 != 0 || y % 400 == 0
def dlong (y m : Int) : Int := if m = 2 then (if dleap y = true then 29 else 28) else if m = 4 ∨ m = 6 ∨ m = 9 ∨ m = 11 then 30 else 31
def dahead (y : Int) : Int := 365 * (y - 1970) + (y - 1) / 4 - (y - 1) / 100 + (y - 1) / 400 - 492 + 19 - 4
theorem dahead_up (y : Int) : dahead y + 365 ≤ dahead (y + 1) ∧ dahead (y + 1) ≤ dahead y + 366 := by
  unfold dahead; omega
theorem dahead_ge (y : Int) (h : 1970 ≤ y) : 365 * (y - 1970) ≤ dahead y ∧ dahead y ≤ 366 * (y - 1970) := by
  unfold dahead; omega
/-- The year of a day. -/
def dyear : Nat → Int → Int → Int
  | 0, _, y => y
  | f + 1, d, y => if dahead (y + 1) ≤ d then dyear f d (y + 1) else y
theorem dyear_go (d : Int) : ∀ (f : Nat) (y : Int), 1970 ≤ y → d < 365 * (y - 1970) + 365 * f → ∀ g, f ≤ g → dyear g d y = dyear f d y
  | 0, y, hy, h, g, _ => by
    have := dahead_ge (y + 1) (by omega)
    cases g with
    | zero => rfl
    | succ g =>
      show dyear (g + 1) d y = y
      have hn : ¬ dahead (y + 1) ≤ d := by omega
      unfold dyear
      rw [if_neg hn]
  | f + 1, y, hy, h, g, hg => by
    cases g with
    | zero => omega
    | succ g =>
      rw [dyear, dyear]
      split
      · exact dyear_go d f (y + 1) (by omega) (by omega) g (by omega)
      · rfl
/-- Its year, and how many days of it are ahead. -/
def dyearO (d : Int) : Int × Int := (dyear 9000 d (1970 + d / 366), d - dahead (dyear 9000 d (1970 + d / 366)))
/-- A date's numbers. -/
structure Mom where
  wd : Int
  day : Int
  month : Int
  year : Int
  hour : Int
  minute : Int
  second : Int
  two : Bool
def mom0 : Mom := ⟨0, 0, 0, 0, 0, 0, 0, false⟩
def Mom.cs (m : Mom) : List Value := [.int .i64 m.wd, .int .i64 m.day, .int .i64 m.month, .int .i64 m.year, .int .i64 m.hour, .int .i64 m.minute, .int .i64 m.second, .bool m.two]
/-- A piece of a form off a text. -/
def dtake (m : Mom) (c : Nat) (s : List UInt8) : Mom × List UInt8 × Bool :=
  if c = 119 then ({ m with wd := (dname s 3 ddays 0).1 }, (dname s 3 ddays 0).2)
  else if c = 87 then ({ m with wd := (dname s 0 ddays 0).1 }, (dname s 0 ddays 0).2)
  else if c = 68 then ({ m with day := (dnumL s 2).1 }, (dnumL s 2).2)
  else if c = 69 then (if Lib.hasPrefix s [32] = true then ({ m with day := (dnumL (s.drop 1) 1).1 }, (dnumL (s.drop 1) 1).2) else ({ m with day := (dnumL s 2).1 }, (dnumL s 2).2))
  else if c = 109 then
    (if s.length < 3 ∨ Lib.index dmonths (s.take 3) < 0 ∨ Lib.index dmonths (s.take 3) % 3 ≠ 0 then (m, [], false) else ({ m with month := Lib.index dmonths (s.take 3) / 3 + 1 }, s.drop 3, true))
  else if c = 89 then ({ m with year := (dnumL s 4).1 }, (dnumL s 4).2)
  else if c = 121 then ({ m with year := (dnumL s 2).1, two := true }, (dnumL s 2).2)
  else if c = 72 then ({ m with hour := (dnumL s 2).1 }, (dnumL s 2).2)
  else if c = 73 then ({ m with minute := (dnumL s 2).1 }, (dnumL s 2).2)
  else if c = 83 then ({ m with second := (dnumL s 2).1 }, (dnumL s 2).2)
  else if Lib.hasPrefix s [UInt8.ofNat c] = true then (m, s.drop 1, true) else (m, s, false)
/-- The forms. -/
def dform0 : List UInt8 := [119, 44, 32, 68, 32, 109, 32, 89, 32, 72, 58, 73, 58, 83, 32, 71, 77, 84]
def dform1 : List UInt8 := [87, 44, 32, 68, 45, 109, 45, 121, 32, 72, 58, 73, 58, 83, 32, 71, 77, 84]
def dform2 : List UInt8 := [119, 32, 109, 32, 69, 32, 72, 58, 73, 58, 83, 32, 89]
/-- All pieces of a form off a text. -/
def dpieces : List UInt8 → Mom → List UInt8 → Option (Mom × List UInt8)
  | [], m, s => some (m, s)
  | c :: r, m, s => bif (dtake m c.toNat s).2.2 then dpieces r (dtake m c.toNat s).1 (dtake m c.toNat s).2.1 else none
def dnow (now : Int) : Int := (max 0 (min now 253402300799)) / 86400
def dyr (m : Mom) (now : Int) : Int := if m.two = true then ((dyearO (dnow now)).1 + 50) - ((dyearO (dnow now)).1 + 50 - m.year) % 100 else m.year
/-- Days of the months ahead. -/
def dmons (y : Int) : Nat → Int
  | 0 => 0
  | k + 1 => dmons y k + dlong y (k + 1)
/-- The tick of a date. -/
def dtick (m : Mom) (now : Int) : Int × Bool :=
  if dyr m now < 1970 ∨ dyr m now > 9999 ∨ m.day < 1 ∨ m.day > dlong (dyr m now) m.month ∨ m.hour > 23 ∨ m.minute > 59 ∨ m.second > 59 then (0, false)
  else if (dahead (dyr m now) + m.day - 1 + dmons (dyr m now) (m.month.toNat - 1)) % 7 ≠ m.wd then (0, false)
  else ((dahead (dyr m now) + m.day - 1 + dmons (dyr m now) (m.month.toNat - 1)) * 86400 + m.hour * 3600 + m.minute * 60 + m.second, true)
def dparse (s : List UInt8) (now : Int) : List (List UInt8) → Int × Int
  | [] => (0, 4)
  | f :: r => match dpieces f mom0 s with
    | some (m, []) => if (dtick m now).2 = true then ((dtick m now).1, 0) else dparse s now r
    | _ => dparse s now r
/-- A date's tick. -/
def dateP (s : List UInt8) (now : Int) : Int × Int := dparse s now [dform0, dform1, dform2]
theorem t1 : dateP [84, 104, 117, 44, 32, 48, 49, 32, 74, 97, 110, 32, 49, 57, 55, 48, 32, 48, 48, 58, 48, 50, 58, 48, 48, 32, 71, 77, 84] 110 = (120, 0) := by decide +kernel
end Go.Proofs.YtgmmjhcklhajiaaGreatDoor
/- Directives: the plain law. -/
namespace Go.Proofs.YtgmmjhcklhajiaaGreatDoor
open Go.RowKit

/-- A directive: its name, its value, has it one, whom it is for. -/
structure Dir where
  name : List UInt8
  value : List UInt8
  has : Bool
  for_ : List UInt8
deriving DecidableEq
def dirV (d : Dir) : List Value := [.string ⟨d.name.toArray⟩, .string ⟨d.value.toArray⟩, .bool d.has, .string ⟨d.for_.toArray⟩]
def dirsV (xs : List Dir) : List Value := xs.flatMap dirV
theorem dirsV_len (xs : List Dir) : (dirsV xs).length = xs.length * 4 := by
  unfold dirsV
  induction xs with
  | nil => rfl
  | cons x r ih => rw [List.flatMap_cons, List.length_append, ih, List.length_cons]; show 4 + _ = _; omega
theorem dirsV_at : ∀ (xs : List Dir) (k : Nat) (hk : k < xs.length), (dirsV xs)[k * 4]? = some (.string ⟨(xs[k]).name.toArray⟩) ∧ (dirsV xs)[k * 4 + 1]? = some (.string ⟨(xs[k]).value.toArray⟩) ∧ (dirsV xs)[k * 4 + 2]? = some (.bool (xs[k]).has) ∧ (dirsV xs)[k * 4 + 3]? = some (.string ⟨(xs[k]).for_.toArray⟩)
  | [], k, hk => by simp at hk
  | x :: r, 0, _ => by unfold dirsV; simp [dirV]
  | x :: r, k + 1, hk => by
    have ih := dirsV_at r k (by simpa using hk)
    unfold dirsV at ih ⊢
    rw [List.flatMap_cons, show (k + 1) * 4 = k * 4 + 4 from by omega]
    have e : ∀ j, (dirV x ++ r.flatMap dirV)[j + 4]? = (r.flatMap dirV)[j]? := fun j => by rw [List.getElem?_append_right (by show 4 ≤ _; omega)]; rfl
    rw [show k * 4 + 4 + 1 = (k * 4 + 1) + 4 from by omega, show k * 4 + 4 + 2 = (k * 4 + 2) + 4 from by omega, show k * 4 + 4 + 3 = (k * 4 + 3) + 4 from by omega, e, e, e, e]
    simpa using ih
theorem Rd.dir {A : Option Addr} {n : Nat} {xs : List Dir} {w : World} (h : Rd A n 4 (dirsV xs) w) : n = xs.length := by
  have := h.1; rw [dirsV_len] at this; omega
theorem Rd.dir_at {A : Option Addr} {n k : Nat} {xs : List Dir} {w : World} (h : Rd A n 4 (dirsV xs) w) (hk : k < xs.length) :
    ∃ b o, A = some ⟨b, o, none⟩ ∧ b < w.heap.size ∧ w.cell? ⟨b, o + k * 4, none⟩ = some (.string ⟨(xs[k]).name.toArray⟩) ∧ w.cell? ⟨b, o + k * 4 + 1, none⟩ = some (.string ⟨(xs[k]).value.toArray⟩) ∧ w.cell? ⟨b, o + k * 4 + 2, none⟩ = some (.bool (xs[k]).has) ∧ w.cell? ⟨b, o + k * 4 + 3, none⟩ = some (.string ⟨(xs[k]).for_.toArray⟩) := by
  obtain ⟨b, o, e, hl, hc⟩ := h.2 (by rw [h.dir]; omega)
  have := dirsV_at xs k hk
  exact ⟨b, o, e, hl, hc _ _ this.1, hc _ _ this.2.1, hc _ _ this.2.2.1, hc _ _ this.2.2.2⟩

/-- What a piece says. -/
def saidO (p : List UInt8) : Option Dir :=
  bif !tokenL (Lib.cut p [61]).1 then none
  else bif (Lib.cut p [61]).2.2 && !tokenL (Lib.cut p [61]).2.1 then (unqP (Lib.cut p [61]).2.1).map fun s => ⟨lowerL (Lib.cut p [61]).1, s, true, []⟩
  else some ⟨lowerL (Lib.cut p [61]).1, (Lib.cut p [61]).2.1, (Lib.cut p [61]).2.2, []⟩
def noStore : List UInt8 := [110, 111, 45, 115, 116, 111, 114, 101]
/-- The pieces of a value. -/
def pcsL (v : List UInt8) : List (List UInt8) := bif (splitL 44 v).2 == 0 then (splitL 44 v).1 else [noStore]
def dirsOf (v : List UInt8) : List Dir := (pcsL v).filterMap saidO
def dlistL (vs : List (List UInt8)) : List Dir := vs.flatMap dirsOf
def findO (xs : List Dir) (nm : List UInt8) : Option Dir := xs.find? fun d => lowerL d.name == lowerL nm
end Go.Proofs.YtgmmjhcklhajiaaGreatDoor
/- What the functions of layer 2 compute, as plain functions on numbers; no program in sight. -/
namespace Go.Proofs.YtgmmjhcklhajiaaGreatDoor

/-- The delta of a number. -/
def bnd (n : Int) : Int := if n < 0 then 0 else if 2147483648 < n then 2147483648 else n
theorem bnd_neg {n : Int} (h : n < 0) : bnd n = 0 := by unfold bnd; rw [if_pos h]
theorem bnd_big {n : Int} (h : 2147483648 < n) : bnd n = 2147483648 := by unfold bnd; rw [if_neg (by omega), if_pos h]
theorem bnd_in {n : Int} (h : 0 ≤ n) (k : n ≤ 2147483648) : bnd n = n := by unfold bnd; rw [if_neg (by omega), if_neg (by omega)]
theorem bnd_lo (n : Int) : 0 ≤ bnd n := by unfold bnd; split; (· omega); split <;> omega
theorem bnd_hi (n : Int) : bnd n ≤ 2147483648 := by unfold bnd; split; (· omega); split <;> omega
theorem bnd_bnd (n : Int) : bnd (bnd n) = bnd n := bnd_in (bnd_lo n) (bnd_hi n)
def addB (a b : Int) : Int := bnd (bnd a + bnd b)
def subB (a b : Int) : Int := bnd (bnd a - bnd b)
def since (a b : Int) : Int := bnd (b - a)

/-- digits -/
def dgt (c : UInt8) : Bool := decide (48 ≤ c.toNat) && decide (c.toNat ≤ 57)
def vfrom (a : Nat) (l : List UInt8) : Nat := l.foldl (fun a c => 10 * a + (c.toNat - 48)) a
def val (l : List UInt8) : Nat := vfrom 0 l
theorem vfrom_eq : ∀ (l : List UInt8) (a : Nat), vfrom a l = a * 10 ^ l.length + vfrom 0 l
  | [], a => by simp [vfrom]
  | c :: r, a => by
    have h1 := vfrom_eq r (10 * a + (c.toNat - 48))
    have h2 := vfrom_eq r (10 * 0 + (c.toNat - 48))
    show vfrom (10 * a + (c.toNat - 48)) r = _ + vfrom (10 * 0 + (c.toNat - 48)) r
    rw [h1, h2, List.length_cons, Nat.pow_succ, Nat.add_mul, Nat.mul_zero, Nat.zero_add]
    rw [show a * (10 ^ r.length * 10) = 10 * a * 10 ^ r.length from by rw [Nat.mul_comm 10 a, Nat.mul_assoc, Nat.mul_comm 10]]
    omega
theorem val_snoc (l : List UInt8) (c : UInt8) : val (l ++ [c]) = 10 * val l + (c.toNat - 48) := by unfold val vfrom; simp
theorem val_cons (c : UInt8) (l : List UInt8) : val (c :: l) = (c.toNat - 48) * 10 ^ l.length + val l := by
  show vfrom (10 * 0 + (c.toNat - 48)) l = _
  rw [vfrom_eq]; simp [val]
theorem val_zeros : ∀ (z l : List UInt8), (∀ c ∈ z, c.toNat = 48) → val (z ++ l) = val l
  | [], l, _ => rfl
  | c :: z, l, h => by
    have h0 := h c (by simp)
    rw [List.cons_append, val_cons, h0, val_zeros z l (fun d hd => h d (by simp [hd]))]; simp
theorem val_lt : ∀ (l : List UInt8), l.all dgt = true → val l < 10 ^ l.length
  | [], _ => by simp [val, vfrom]
  | c :: r, h => by
    rw [List.all_cons, Bool.and_eq_true] at h
    have ih := val_lt r h.2
    have hc : c.toNat - 48 ≤ 9 := by have := h.1; simp [dgt] at this; omega
    rw [val_cons, List.length_cons, Nat.pow_succ]
    have : (c.toNat - 48) * 10 ^ r.length ≤ 9 * 10 ^ r.length := Nat.mul_le_mul_right _ hc
    omega
theorem val_ge (c : UInt8) (r : List UInt8) (h : 49 ≤ c.toNat) : 10 ^ r.length ≤ val (c :: r) := by
  rw [val_cons]
  have : 1 * 10 ^ r.length ≤ (c.toNat - 48) * 10 ^ r.length := Nat.mul_le_mul_right _ (by omega)
  omega
theorem bnd_step (v d : Nat) : bnd (10 * bnd (v : Int) + (d : Int)) = bnd ((10 * v + d : Nat) : Int) := by
  unfold bnd; split <;> split <;> split <;> (try split) <;> omega
def deltaOk (l : List UInt8) : Bool := !l.isEmpty && l.all dgt
def deltaV (l : List UInt8) : Value := bif deltaOk l then .tuple #[.int .i64 (bnd (val l)), .bool true] else .tuple #[.int .i64 0, .bool false]
theorem delta_bad (s : ByteArray) (k : Nat) (h : k < s.size) (hb : dgt s[k] = false) : deltaV s.data.toList = .tuple #[.int .i64 0, .bool false] := by
  unfold deltaV deltaOk; rw [all_bad dgt s k h hb, Bool.and_false]; rfl

/-- Behind the noughts ahead: more than ten digits are above the greatest delta. -/
theorem val_split (l : List UInt8) (f : Nat) (h : ∀ c ∈ l.take f, c.toNat = 48) : val l = val (l.drop f) := by
  conv => lhs; rw [← List.take_append_drop f l]
  exact val_zeros _ _ h
theorem all_drop (l : List UInt8) (f : Nat) (h : l.all dgt = true) : (l.drop f).all dgt = true := by
  rw [List.all_eq_true] at *
  exact fun x hx => h x (List.mem_of_mem_drop hx)
theorem delta_long (s : ByteArray) (f : Nat) (hf : f < s.size) (hall : s.data.toList.all dgt = true) (hz : ∀ c ∈ s.data.toList.take f, c.toNat = 48) (hn : ¬ s[f].toNat = 48) (hl : 10 < s.size - f) :
    deltaV s.data.toList = .tuple #[.int .i64 2147483648, .bool true] := by
  have hd := drop_cons s f hf
  have h1 := all_drop _ f hall
  rw [hd, List.all_cons, Bool.and_eq_true] at h1
  have h49 : 49 ≤ s[f].toNat := by have := h1.1; simp [dgt] at this; omega
  have hg := val_ge s[f] (s.data.toList.drop (f + 1)) h49
  rw [← hd, ← val_split _ _ hz, List.length_drop, ← Lib.size_eq] at hg
  have hp : 10 ^ 10 ≤ 10 ^ (s.size - (f + 1)) := Nat.pow_le_pow_right (by decide) (by omega)
  have hb : bnd (val s.data.toList) = 2147483648 := bnd_big (by have : (10 : Nat) ^ 10 = 10000000000 := rfl; omega)
  have hne := ne_of_pos s (by omega)
  unfold deltaV deltaOk; rw [hall, hne, hb]; rfl
theorem delta_short (s : ByteArray) (f : Nat) (h0 : 0 < s.size) (hall : s.data.toList.all dgt = true) (hz : ∀ c ∈ s.data.toList.take f, c.toNat = 48) :
    deltaV s.data.toList = .tuple #[.int .i64 (bnd (val (s.data.toList.drop f))), .bool true] := by
  have hne := ne_of_pos s (by omega)
  unfold deltaV deltaOk; rw [hall, hne, ← val_split _ _ hz]; rfl

/-- the decimal digits denote the number. -/
theorem dec_all (u : Nat) : (Lib.decDigits u).all dgt = true ∧ val (Lib.decDigits u) = u ∧ Lib.decDigits u ≠ [] := by
  induction u using Nat.strongRecOn with
  | _ u ih =>
    have hd : ∀ d : Nat, d < 10 → (UInt8.ofNat (48 + d)).toNat = 48 + d := fun d hd => by simp; omega
    by_cases h : u < 10
    · rw [Lib.decDigits, dif_pos h]
      have := hd u h
      refine ⟨?_, ?_, by simp⟩
      · rw [List.all_cons, List.all_nil, Bool.and_true]; unfold dgt; rw [this]; simp; omega
      · rw [val_cons, this]; simp [val, vfrom]
    · rw [Lib.decDigits, dif_neg h]
      obtain ⟨i1, i2, _⟩ := ih (u / 10) (by omega)
      have := hd (u % 10) (by omega)
      refine ⟨?_, ?_, by simp⟩
      · rw [List.all_append, i1, List.all_cons, List.all_nil, Bool.and_true, Bool.true_and]; unfold dgt; rw [this]; simp; omega
      · rw [val_snoc, i2, this]; omega
def putS (n : Int) : ByteArray := ⟨(Lib.decDigits (bnd n).toNat).toArray⟩
theorem delta_put (n : Int) : deltaV (putS n).data.toList = .tuple #[.int .i64 (bnd n), .bool true] := by
  obtain ⟨h1, h2, h3⟩ := dec_all (bnd n).toNat
  have e : (putS n).data.toList = Lib.decDigits (bnd n).toNat := rfl
  have hn : (Lib.decDigits (bnd n).toNat).isEmpty = false := by cases hq : Lib.decDigits (bnd n).toNat with | nil => exact absurd hq h3 | cons _ _ => rfl
  unfold deltaV deltaOk; rw [e, h1, h2, hn]
  have := bnd_lo n
  rw [Int.toNat_of_nonneg this, bnd_bnd]; rfl
end Go.Proofs.YtgmmjhcklhajiaaGreatDoor
/- What surctl computes, as plain functions; pieces of pieces. -/
namespace Go.Proofs.YtgmmjhcklhajiaaGreatDoor

/-! Bytes that hold no separator outside quotes. -/
def stepQ (c : UInt8) (s : Bool × Bool) (x : UInt8) : Option (Bool × Bool) :=
  bif s.2 then some (s.1, false) else bif s.1 && x.toNat == 92 then some (s.1, true) else bif x.toNat == 34 then some (!s.1, false) else bif x.toNat == c.toNat && !s.1 then none else some (s.1, false)
def runQ (c : UInt8) : Bool × Bool → List UInt8 → Option (Bool × Bool)
  | s, [] => some s
  | s, x :: r => match stepQ c s x with
    | none => none
    | some t => runQ c t r
theorem runQ_app (c : UInt8) : ∀ (a b : List UInt8) (s : Bool × Bool), runQ c s (a ++ b) = (runQ c s a).bind fun t => runQ c t b
  | [], b, s => rfl
  | x :: r, b, s => by
    rw [List.cons_append, runQ, runQ]
    cases stepQ c s x with
    | none => rfl
    | some t => exact runQ_app c r b t
theorem step_inv {c x : UInt8} {s t : Bool × Bool} (h : stepQ c s x = some t) : t.2 = true → t.1 = true := by
  obtain ⟨o, b⟩ := s
  unfold stepQ at h
  cases b <;> cases o <;> simp only [cond_true, cond_false, Bool.false_and, Bool.true_and, Bool.not_true, Bool.not_false, Bool.and_true, Bool.and_false] at h
  · cases h34 : (x.toNat == 34) <;> rw [h34] at h <;> simp only [cond_true, cond_false] at h
    · cases hc : (x.toNat == c.toNat) <;> rw [hc] at h <;> simp at h
      subst h; simp
    · injection h with h; subst h; simp
  · cases h92 : (x.toNat == 92) <;> rw [h92] at h <;> simp only [cond_true, cond_false] at h
    · cases h34 : (x.toNat == 34) <;> rw [h34] at h <;> simp only [cond_true, cond_false] at h
      · injection h with h; subst h; simp
      · injection h with h; subst h; simp
    · injection h with h; subst h; simp
  · injection h with h; subst h; simp
  · injection h with h; subst h; simp
theorem run_inv (c : UInt8) : ∀ (l : List UInt8) (s t : Bool × Bool), (s.2 = true → s.1 = true) → runQ c s l = some t → t.2 = true → t.1 = true
  | [], s, t, hs, h => by rw [runQ] at h; injection h with h; subst h; exact hs
  | x :: r, s, t, hs, h => by
    rw [runQ] at h
    cases hq : stepQ c s x with
    | none => rw [hq] at h; cases h
    | some u => rw [hq] at h; exact run_inv c r u t (step_inv hq) h
def solid (c : UInt8) (p : List UInt8) : Prop := runQ c (false, false) p = some (false, false)
theorem blank_step {c x : UInt8} (hx : blanks.contains x = true) (hc : blanks.contains c = false) (o b : Bool) : stepQ c (o, b) x = some (o, false) := by
  have hne : (x.toNat == c.toNat) = false := by
    cases h : (x.toNat == c.toNat)
    · rfl
    · have : x = c := by rw [← UInt8.toNat_inj]; simpa using h
      subst this; rw [hx] at hc; cases hc
  have : x = 32 ∨ x = 9 := by simpa [blanks] using hx
  have h2 : (x.toNat == 92) = false ∧ (x.toNat == 34) = false := by rcases this with e | e <;> subst e <;> exact ⟨rfl, rfl⟩
  unfold stepQ
  rw [hne, h2.1, h2.2]
  cases b <;> cases o <;> rfl
theorem blanks_run {c : UInt8} (hc : blanks.contains c = false) : ∀ (g : List UInt8) (o b : Bool), (∀ x ∈ g, blanks.contains x = true) → ∃ b', runQ c (o, b) g = some (o, b')
  | [], o, b, _ => ⟨b, rfl⟩
  | x :: r, o, b, h => by
    rw [runQ, blank_step (h x (by simp)) hc]
    exact blanks_run hc r o false (fun y hy => h y (by simp [hy]))
theorem blanks_run0 {c : UInt8} (hc : blanks.contains c = false) (g : List UInt8) (h : ∀ x ∈ g, blanks.contains x = true) : runQ c (false, false) g = some (false, false) := by
  obtain ⟨b', hb⟩ := blanks_run hc g false false h
  have := run_inv c g _ _ (by simp) hb
  cases b'
  · exact hb
  · exact absurd (this rfl) (by simp)
theorem trim_parts (l : List UInt8) : ∃ a b, l = a ++ (trimL l ++ b) ∧ (∀ x ∈ a, blanks.contains x = true) ∧ ∀ x ∈ b, blanks.contains x = true := by
  unfold trimL Lib.trimS Lib.trimLeftS Lib.trimRightS
  let p : UInt8 → Bool := fun c => blanks.contains c
  have key : ∀ m : List UInt8, m = m.takeWhile p ++ m.dropWhile p ∧ ∀ x ∈ m.takeWhile p, blanks.contains x = true := fun m =>
    ⟨(List.takeWhile_append_dropWhile).symm, fun x hx => by
      have := List.all_takeWhile (p := p) (l := m)
      rw [List.all_eq_true] at this
      exact this x hx⟩
  obtain ⟨e1, h1⟩ := key l.reverse
  obtain ⟨e2, h2⟩ := key (l.reverse.dropWhile p).reverse
  refine ⟨_, (l.reverse.takeWhile p).reverse, ?_, h2, fun x hx => h1 x (by simpa using hx)⟩
  rw [← List.append_assoc]
  have e3 : (l.reverse.dropWhile p).reverse ++ (l.reverse.takeWhile p).reverse = l := by rw [← List.reverse_append, ← e1, List.reverse_reverse]
  conv => lhs; rw [← e3, e2]
theorem solid_trim {c : UInt8} (hc : blanks.contains c = false) {l : List UInt8} (h : solid c l) : solid c (trimL l) := by
  obtain ⟨a, b, e, ha, hb⟩ := trim_parts l
  unfold solid at *
  rw [e, runQ_app, blanks_run0 hc a ha, Option.bind_some, runQ_app] at h
  cases hq : runQ c (false, false) (trimL l) with
  | none => rw [hq] at h; cases h
  | some t =>
    rw [hq, Option.bind_some] at h
    obtain ⟨o, b0⟩ := t
    obtain ⟨b', hb'⟩ := blanks_run hc b o b0 hb
    rw [hb'] at h
    have ho : o = false := by injection h with h; exact (Prod.mk.inj h).1
    subst ho
    have := run_inv c _ _ _ (by simp) hq
    cases b0
    · rfl
    · exact absurd (this rfl) (by simp)
theorem addP_mem {ls : List (List UInt8)} {p q : List UInt8} (h : q ∈ addP ls p) : q ∈ ls ∨ (q = p ∧ p ≠ []) := by
  unfold addP at h
  cases p with
  | nil => exact Or.inl h
  | cons x r =>
    rw [show (x :: r).isEmpty = false from rfl, cond_false, List.mem_append, List.mem_singleton] at h
    rcases h with h | h
    · exact Or.inl h
    · exact Or.inr ⟨h, by simp⟩
def good1 (c : UInt8) (p : List UInt8) : Prop := solid c p ∧ trimL p = p ∧ p ≠ []
theorem good_addP {c : UInt8} (hc : blanks.contains c = false) {ls : List (List UInt8)} {cur : List UInt8} (hls : ∀ p ∈ ls, good1 c p) (h : solid c cur) : ∀ p ∈ addP ls (trimL cur), good1 c p := by
  intro p hp
  rcases addP_mem hp with hp | ⟨rfl, hne⟩
  · exact hls p hp
  · exact ⟨solid_trim hc h, trim_twice _, hne⟩
theorem pieces_good (c sep : UInt8) (hc : blanks.contains c = false) : ∀ (l : List UInt8) (o b : Bool) (cur : List UInt8) (ls ps : List (List UInt8)), (b = true → o = true) → runQ c (false, false) cur = some (o, b) → (∀ p ∈ ls, good1 c p) → (c = sep ∨ (runQ c (o, b) l).isSome = true) → splP sep o b cur ls l = some ps → ∀ p ∈ ps, good1 c p
  | [], o, b, cur, ls, ps, hi, hr, hls, _, h => by
    rw [splP] at h
    cases o
    · simp only [cond_false, Option.some.injEq] at h
      subst h
      have hb : b = false := by cases b with | false => rfl | true => exact absurd (hi rfl) (by simp)
      subst hb
      exact good_addP hc hls hr
    · simp at h
  | x :: r, o, b, cur, ls, ps, hi, hr, hls, hd, h => by
    have ih := pieces_good c sep hc r
    have next : ∀ o' b', stepQ c (o, b) x = some (o', b') → splP sep o' b' (cur ++ [x]) ls r = some ps → ∀ p ∈ ps, good1 c p := by
      intro o' b' hst hsp
      refine ih o' b' (cur ++ [x]) ls ps (step_inv hst) ?_ hls ?_ hsp
      · rw [runQ_app, hr, Option.bind_some, runQ, hst]; rfl
      · rcases hd with hd | hd
        · exact Or.inl hd
        · rw [runQ, hst] at hd; exact Or.inr hd
    rw [splP] at h
    cases b
    · simp only [cond_false] at h
      cases h92 : (o && x.toNat == 92) <;> rw [h92] at h <;> simp only [cond_true, cond_false] at h
      · cases h34 : (x.toNat == 34) <;> rw [h34] at h <;> simp only [cond_true, cond_false] at h
        · cases hs : (x.toNat == sep.toNat && !o) <;> rw [hs] at h <;> simp only [cond_true, cond_false] at h
          · -- an ordinary byte
            rcases hd with hd | hd
            · subst hd
              exact next o false (by unfold stepQ; simp only [cond_false, h92, h34, hs]) h
            · cases hst : stepQ c (o, false) x with
              | none => rw [runQ, hst] at hd; cases hd
              | some t =>
                have ht : t = (o, false) := by
                  unfold stepQ at hst
                  simp only [cond_false, h92, h34] at hst
                  cases hq : (x.toNat == c.toNat && !o) <;> rw [hq] at hst <;> simp at hst
                  exact hst.symm
                subst ht
                exact next o false hst h
          · -- a separator
            have ho : o = false := by simp at hs; exact hs.2
            subst ho
            refine ih false false [] (addP ls (trimL cur)) ps (by simp) rfl (good_addP hc hls hr) ?_ h
            rcases hd with hd | hd
            · exact Or.inl hd
            · cases hst : stepQ c (false, false) x with
              | none => rw [runQ, hst] at hd; cases hd
              | some t =>
                have ht : t = (false, false) := by
                  unfold stepQ at hst
                  simp only [cond_false, Bool.false_and, h34, Bool.not_false, Bool.and_true] at hst
                  cases hq : (x.toNat == c.toNat) <;> rw [hq] at hst <;> simp at hst
                  exact hst.symm
                subst ht
                rw [runQ, hst] at hd
                exact Or.inr hd
        · exact next (!o) false (by unfold stepQ; simp only [cond_false, h92, h34, cond_true]) h
      · have ho : o = true := by simp at h92; exact h92.1
        subst ho
        simp only [Bool.true_and] at h92
        exact next true true (by unfold stepQ; simp only [cond_false, Bool.true_and, h92, cond_true]) h
    · have ho := hi rfl
      subst ho
      simp only [cond_true] at h
      exact next true false rfl h
theorem spl_solid (sep : UInt8) : ∀ (p : List UInt8) (o b b' : Bool) (cur : List UInt8) (ls : List (List UInt8)), runQ sep (o, b) p = some (false, b') → splP sep o b cur ls p = some (addP ls (trimL (cur ++ p)))
  | [], o, b, b', cur, ls, h => by
    rw [runQ] at h
    injection h with h
    obtain ⟨rfl, rfl⟩ := Prod.mk.inj h
    rw [splP, cond_false, List.append_nil]
  | x :: r, o, b, b', cur, ls, h => by
    have ih := spl_solid sep r
    have e : cur ++ x :: r = (cur ++ [x]) ++ r := by simp
    rw [runQ] at h
    rw [splP, e]
    cases b
    · cases h92 : (o && x.toNat == 92)
      · cases h34 : (x.toNat == 34)
        · cases hs : (x.toNat == sep.toNat && !o)
          · have hst : stepQ sep (o, false) x = some (o, false) := by unfold stepQ; simp only [cond_false, h92, h34, hs]
            rw [hst] at h
            simp only [cond_false]
            exact ih _ _ _ _ _ h
          · have hst : stepQ sep (o, false) x = none := by unfold stepQ; simp only [cond_false, h92, h34, hs, cond_true]
            rw [hst] at h; cases h
        · have hst : stepQ sep (o, false) x = some (!o, false) := by unfold stepQ; simp only [cond_false, h92, h34, cond_true]
          rw [hst] at h
          simp only [cond_false, cond_true]
          exact ih _ _ _ _ _ h
      · have hst : stepQ sep (o, false) x = some (o, true) := by unfold stepQ; simp only [cond_false, h92, cond_true]
        rw [hst] at h
        simp only [cond_false, cond_true]
        exact ih _ _ _ _ _ h
    · have hst : stepQ sep (o, true) x = some (o, false) := by unfold stepQ; simp only [cond_true]
      rw [hst] at h
      simp only [cond_true]
      exact ih _ _ _ _ _ h
theorem split_ok {sep : UInt8} {l : List UInt8} (h : (splitL sep l).2 = 0) : splP sep false false [] [] l = some (splitL sep l).1 := by
  unfold splitL at *
  cases hq : (sep.toNat == 34 || sep.toNat == 92) <;> rw [hq] at h
  · simp only [cond_false] at *
    unfold splitE at *
    cases hs : splP sep false false [] [] l with
    | none => rw [hs] at h; cases h
    | some ls =>
      rw [hs] at h
      simp only at *
      cases hd : decide (64 < ls.length) <;> rw [hd] at h
      · rfl
      · cases h
  · cases h
theorem split_good {sep : UInt8} (hc : blanks.contains sep = false) {l : List UInt8} (h : (splitL sep l).2 = 0) : ∀ p ∈ (splitL sep l).1, good1 sep p :=
  pieces_good sep sep hc l false false [] [] _ (by simp) rfl (by simp) (Or.inl rfl) (split_ok h)
theorem split_good2 {c sep : UInt8} (hc : blanks.contains c = false) {l : List UInt8} (hl : solid c l) (h : (splitL sep l).2 = 0) : ∀ p ∈ (splitL sep l).1, good1 c p :=
  pieces_good c sep hc l false false [] [] _ (by simp) rfl (by simp) (Or.inr (by unfold solid at hl; rw [hl]; rfl)) (split_ok h)
theorem split_one {sep : UInt8} (h1 : (sep.toNat == 34) = false) (h2 : (sep.toNat == 92) = false) {p : List UInt8} (h : good1 sep p) : splitL sep p = ([p], 0) := by
  unfold splitL
  rw [h1, h2, show (false || false) = false from rfl, cond_false, spl_solid sep p false false false [] [] h.1, List.nil_append, h.2.1]
  have : addP [] p = [p] := by
    cases hp : p with
    | nil => exact absurd hp h.2.2
    | cons x r => rfl
  rw [this]; rfl

/-! What is told. -/
def neverD : Dir := ⟨noStore, [], false, []⟩
def oneOf (l : List Dir) (f : List UInt8) : List Dir := match l with
  | [d] => [⟨d.name, d.value, d.has, bif f.isEmpty then d.for_ else f⟩]
  | _ => []
/-- What a piece says: the program's way. -/
def saidS (p : List UInt8) : List Dir :=
  bif (splitL 59 p).2 != 0 then [neverD] else match (splitL 59 p).1 with
  | [a] => oneOf (dlistL [a]) []
  | [a, b] => bif tokenL b then oneOf (dlistL [a]) b else []
  | _ => []
/-- .. and the document's. -/
def sayS (p : List UInt8) : List Dir :=
  bif (splitL 59 p).2 != 0 then [neverD] else match (splitL 59 p).1 with
  | [a] => oneOf (saidO a).toList []
  | [a, b] => bif tokenL b then oneOf (saidO a).toList b else []
  | _ => []
theorem dlist_good1 {a : List UInt8} (h : good1 44 a) : dlistL [a] = (saidO a).toList := by
  unfold dlistL dirsOf pcsL
  rw [List.flatMap_cons, List.flatMap_nil, List.append_nil, split_one rfl rfl h]
  show List.filterMap saidO [a] = _
  rw [List.filterMap_cons]
  cases saidO a <;> rfl
theorem said_say {v p : List UInt8} (hv : (splitL 44 v).2 = 0) (hp : p ∈ (splitL 44 v).1) : saidS p = sayS p := by
  have h1 := split_good (sep := 44) (by decide) hv p hp
  unfold saidS sayS
  cases hz : ((splitL 59 p).2 != 0)
  · have hz' : (splitL 59 p).2 = 0 := by simpa [bne] using hz
    have h2 := split_good2 (c := 44) (by decide) h1.1 hz'
    simp only [cond_false]
    cases hps : (splitL 59 p).1 with
    | nil => rfl
    | cons a r =>
      rw [hps] at h2
      have ha := dlist_good1 (h2 a (by simp))
      cases r with
      | nil => simp only [ha]
      | cons b r2 =>
        cases r2 with
        | nil => simp only [ha]
        | cons _ _ => rfl
  · rfl
def slistL (vs : List (List UInt8)) : List Dir := vs.flatMap fun v => bif (splitL 44 v).2 == 0 then (splitL 44 v).1.flatMap sayS else [neverD]
def ownB (dev : List UInt8) (d : Dir) : Bool := !dev.isEmpty && d.for_ == dev
def mineB (l : List Dir) (dev : List UInt8) (d : Dir) : Bool := ownB dev d || (d.for_.isEmpty && !l.any fun x => ownB dev x && x.name == d.name)
def mineL (l : List Dir) (dev : List UInt8) : List Dir := l.filter (mineB l dev)

/-- What a device is told. -/
structure Ctl where
  noStore : Bool
  noRemote : Bool
  esi : Bool
  hasAge : Bool
  age : Int
  extra : Int
deriving DecidableEq
def firstV (l : List Dir) (nm : List UInt8) : Option (List UInt8) := (l.find? fun d => d.name == nm).map Dir.value
def wordP (w : List UInt8) : List UInt8 → List UInt8 → Bool
  | cur, [] => cur == w
  | cur, c :: r => bif blanks.contains c then (cur == w) || wordP w [] r else wordP w (cur ++ [c]) r
def sESI : List UInt8 := [69, 83, 73, 47, 49, 46, 48]
def sRemote : List UInt8 := [110, 111, 45, 115, 116, 111, 114, 101, 45, 114, 101, 109, 111, 116, 101]
def sContent : List UInt8 := [99, 111, 110, 116, 101, 110, 116]
def sMaxAge : List UInt8 := [109, 97, 120, 45, 97, 103, 101]
def agesL (v : List UInt8) : Int × Int := bif deltaOk (Lib.cut v [43]).1 && (deltaOk (Lib.cut v [43]).2.1 == (Lib.cut v [43]).2.2) then (bnd (val (Lib.cut v [43]).1), bif deltaOk (Lib.cut v [43]).2.1 then bnd (val (Lib.cut v [43]).2.1) else 0) else (0, 0)
def ctlL (l : List Dir) : Ctl :=
  ⟨(firstV l noStore).isSome, (firstV l sRemote).isSome, match firstV l sContent with | some v => wordP sESI [] v | none => false, (firstV l sMaxAge).isSome, match firstV l sMaxAge with | some v => (agesL v).1 | none => 0, match firstV l sMaxAge with | some v => (agesL v).2 | none => 0⟩
def ofL (vs : List (List UInt8)) (dev : List UInt8) : Ctl := ctlL (mineL (slistL vs) dev)
end Go.Proofs.YtgmmjhcklhajiaaGreatDoor
/- How long a reply that is kept is fresh: the plain law. -/
namespace Go.Proofs.YtgmmjhcklhajiaaGreatDoor
open Go.RowKit

def fDate : List UInt8 := [100, 97, 116, 101]
def fAge : List UInt8 := [97, 103, 101]
def fExp : List UInt8 := [101, 120, 112, 105, 114, 101, 115]
def fCC : List UInt8 := [99, 97, 99, 104, 101, 45, 99, 111, 110, 116, 114, 111, 108]
def fSC : List UInt8 := [115, 117, 114, 114, 111, 103, 97, 116, 101, 45, 99, 111, 110, 116, 114, 111, 108]
def fNoCache : List UInt8 := [110, 111, 45, 99, 97, 99, 104, 101]
def fSMax : List UInt8 := [115, 45, 109, 97, 120, 97, 103, 101]
/-- What the surrogate's own field says. -/
def ctlF (xs : List Fld) (dev : List UInt8) : Ctl := ofL (valuesL xs fSC) dev
def whenF (xs : List Fld) (nm : List UInt8) (got : Int) : Int × Bool := bif (getL xs nm).2 then ((dateP (getL xs nm).1 got).1, (dateP (getL xs nm).1 got).2 == 0) else (0, false)
def numF (s : List UInt8) : Int := bif deltaOk s then bnd (val s) else 0
/-- What a directive says. -/
def ruleF (none : Bool) (nm : List UInt8) (xs : List Fld) : Int × Bool :=
  match findO (dlistL (valuesL xs fCC)) nm with
  | some d => (bif none then 0 else numF d.value, true)
  | Option.none => (0, false)
def surF (xs : List Fld) (dev : List UInt8) : Int × Bool := (bnd (ctlF xs dev).age, (ctlF xs dev).hasAge)
def expF (xs : List Fld) (got : Int) : Int × Bool :=
  bif (getL xs fExp).2 then (bif (whenF xs fExp got).2 then (since (bif (whenF xs fDate got).2 then (whenF xs fDate got).1 else got) (whenF xs fExp got).1, true) else (0, true)) else (0, false)
/-- The first rule that tells. -/
def lifeR : List (Int × Bool) → Int
  | [] => 0
  | r :: l => bif r.2 then r.1 else lifeR l
def lifeF (xs : List Fld) (got : Int) (dev : List UInt8) : Int := lifeR [surF xs dev, ruleF true fNoCache xs, ruleF false fSMax xs, ruleF false sMaxAge xs, expF xs got]
def ageF (xs : List Fld) (asked got now : Int) : Int :=
  addB (max (bif (whenF xs fDate got).2 then since (whenF xs fDate got).1 got else 0) (addB (numF (getL xs fAge).1) (since asked got))) (since got now)
def freshF (xs : List Fld) (asked got now : Int) (dev : List UInt8) : Bool := decide (ageF xs asked got now < lifeF xs got dev)
def extraF (xs : List Fld) (dev : List UInt8) : Int := (ctlF xs dev).extra
theorem valuesL_sum {xs : List Fld} {nm v : List UInt8} (h : v ∈ valuesL xs nm) : v.length ≤ sumF xs := by
  obtain ⟨f, hf, rfl⟩ := List.mem_map.1 h
  have := sumF_mem (List.mem_filter.1 hf).1
  omega
theorem addB_lo (a b : Int) : 0 ≤ addB a b := bnd_lo _
theorem addB_hi (a b : Int) : addB a b ≤ 2147483648 := bnd_hi _
theorem numF_lo (s : List UInt8) : 0 ≤ numF s := by unfold numF; cases deltaOk s <;> simp [bnd_lo]
theorem numF_hi (s : List UInt8) : numF s ≤ 2147483648 := by unfold numF; cases deltaOk s <;> simp [bnd_hi]
theorem since_lo (a b : Int) : 0 ≤ since a b := bnd_lo _
theorem since_hi (a b : Int) : since a b ≤ 2147483648 := bnd_hi _
theorem numF_tuple (s : List UInt8) : deltaV s = .tuple #[.int .i64 (numF s), .bool (deltaOk s)] := by unfold deltaV numF; cases deltaOk s <;> rfl
end Go.Proofs.YtgmmjhcklhajiaaGreatDoor
/- An entry, by value. -/
namespace Go.Proofs.YtgmmjhcklhajiaaGreatDoor
open Go.RowKit
/-- An entry, by value. -/
def entV (st : Int) (re : ByteArray) (mi : Int) (A : Option Addr) (n c : Nat) (bo : ByteArray) (asked got : Int) (V : Option Addr) (m d : Nat) : Value := .agg #[.int .i64 st, .string re, .int .i64 mi, .slice A n c, .string bo, .int .i64 asked, .int .i64 got, .slice V m d]
end Go.Proofs.YtgmmjhcklhajiaaGreatDoor
/- A named result in memory, alone. -/
namespace Go.Proofs.YtgmmjhcklhajiaaGreatDoor
open Go.RowKit
theorem results_cell_one {fn : Func} {p : Tmp} {ty : TypeId} (h : fn.results = #[.cell p ty]) (tmps : Array Value) (P : Program) (w : World) :
    (results fn tmps).run P w = ((asAddr (tmps.getD p undef)).run P w).andThen fun a w₁ => (loadVar ty a).run P w₁ := by
  simp only [results, h]
  simp [Sem.run_bind, Result.andThen]
  try rfl
end Go.Proofs.YtgmmjhcklhajiaaGreatDoor
/- The library's own mark. -/
namespace Go.Proofs.YtgmmjhcklhajiaaGreatDoor
open Go.RowKit
set_option maxRecDepth 100000

/-- The library's own mark holds a number. -/
def MaxL (w : World) : Prop := 3 < w.heap.size ∧ ∃ m, w.cell? ⟨3, 0, none⟩ = some (.int .i64 m)
theorem MaxL.of {w : World} (h : ∃ m, w.cell? ⟨3, 0, none⟩ = some (.int .i64 m)) : MaxL w := by
  obtain ⟨m, h⟩ := h
  exact ⟨World.block_lt_of_cell? w _ h, m, h⟩
theorem MaxL.below {w w' : World} (h : MaxL w) (hb : Below w.heap.size w w') : MaxL w' := by
  obtain ⟨h0, m, h⟩ := h
  exact ⟨Nat.lt_of_lt_of_le h0 hb.size, m, (hb.cell (p := ⟨_, 0, none⟩) h0).trans h⟩
end Go.Proofs.YtgmmjhcklhajiaaGreatDoor
/- strings.Cut. -/
namespace Go.Proofs.YtgmmjhcklhajiaaGreatDoor
open Go.RowKit
set_option maxRecDepth 100000

theorem cut_any (s sep : ByteArray) (w : World) (h : MaxL w) (hs : s.size ≤ 1000000) :
    Calls Tryz.prog 180 #[.string s, .string sep] w fun e w' => e = .returned (.tuple #[.string ⟨(Lib.cut s.data.toList sep.data.toList).1.toArray⟩, .string ⟨(Lib.cut s.data.toList sep.data.toList).2.1.toArray⟩, .bool (Lib.cut s.data.toList sep.data.toList).2.2]) ∧ Below w.heap.size w w' := by
  obtain ⟨_, m, hm⟩ := h
  refine (Tryz.strings_Cut s sep m w (by omega) hm).mono ?_
  rintro e w' ⟨rfl, n, rfl⟩
  exact ⟨rfl, Go.below_drewN (Below.refl _ _) _⟩

end Go.Proofs.YtgmmjhcklhajiaaGreatDoor
/- strings.Builder's writers at this seat: the copy check, WriteByte, WriteString. The library's own contracts ask a body of the copy check that is not the one here (its last branch is refused by the loader), so they are walked anew with the library's laws on append. -/
namespace Go.Proofs.YtgmmjhcklhajiaaGreatDoor
open Go.RowKit
set_option maxRecDepth 100000

theorem bSize : (Tryz.prog.info? 127).map (·.size) = some 2 := by kernel_rfl
theorem bLies : liesAt Tryz.prog Tryz.prog.depth 127 (2 / Tryz.prog.cellsOf 127) 0 127 1 = true := by kernel_rfl
theorem bByte : (Tryz.prog.info? 5).map (fun i => (i.zero, i.size, i.bytes)) = some (some (.int .u8 0), 1, 1) := by kernel_rfl

set_option maxHeartbeats 1000000 in
theorem copyCheck_used (b : Nat) (w : World) (h0 : w.cell? ⟨b, 0, none⟩ = some (.pointer (some ⟨b, 0, none⟩))) :
    Calls Tryz.prog 155 #[.pointer (some ⟨b, 0, none⟩)] w fun e w' => e = .returned (.tuple #[]) ∧ w = w' := by
  obtain ⟨j, hj, _⟩ := Option.map_eq_some_iff.1 bSize
  go_enter Tryz.func155, Tryz.ntmps155
  go_wp2
  rw [Lib.run_neq_ptr_same w _ Tryz.underlying124 hj]
  go_wp2
  go_end0
  exact ⟨rfl, rfl⟩

set_option maxHeartbeats 1000000 in
theorem copyCheck_fresh (b : Nat) (w : World) (h0 : w.cell? ⟨b, 0, none⟩ = some (.pointer none)) (hsh : w.shape? b = some (127, 2)) (hfz : w.frozen? ⟨b, 0, none⟩ = false) :
    Calls Tryz.prog 155 #[.pointer (some ⟨b, 0, none⟩)] w fun e w' => e = .returned (.tuple #[]) ∧ w.setCell ⟨b, 0, none⟩ (.pointer (some ⟨b, 0, none⟩)) = w' := by
  obtain ⟨j, hj, hjs⟩ := Option.map_eq_some_iff.1 bSize
  go_enter Tryz.func155, Tryz.ntmps155
  go_wp2
  rw [Lib.run_to_unsafe w ⟨b, 0, none⟩ Tryz.underlying124 Tryz.underlying210 hj (by rw [hjs]; decide) hsh (Nat.zero_lt_succ 1)]
  simp only [Result.andThen]
  rw [Oper.upon_value]
  go_wp2
  rw [run_callFunc_extern Tryz.func197 (by kernel_rfl) (by kernel_rfl) (by kernel_rfl) (e := Extern.AbiNoEscape.same) (by kernel_rfl)]
  rw [Lib.run_noEscape]
  simp only [Result.andThen]
  rw [Oper.upon_value]
  go_wp2
  rw [Lib.run_from_unsafe w ⟨b, 0, none⟩ Tryz.underlying210 Tryz.underlying124 hj hsh bLies]
  simp only [Result.andThen]
  rw [Oper.upon_value]
  go_wp2
  go_end0
  exact ⟨rfl, rfl⟩

/-- A builder in block b, the call's own from B on, that holds these bytes. -/
def IsB (B b : Nat) (l : List UInt8) (w : World) : Prop := Lib.IsBuilderF 127 5 B b (Lib.byteCells l) w

theorem copyCheck_any (B b : Nat) (bs : List Value) (w : World) (h : Lib.IsBuilderF 127 5 B b bs w) :
    Calls Tryz.prog 155 #[.pointer (some ⟨b, 0, none⟩)] w fun e w' => e = .returned (.tuple #[]) ∧ Lib.BuilderAtF 127 5 B b (.pointer (some ⟨b, 0, none⟩)) bs w' ∧ Below B w w' ∧ Lib.OthersKept 5 (some b) w w' := by
  rcases h with h | h
  · refine (copyCheck_fresh b w h.cell0 h.shape h.frozen0).mono ?_
    rintro e w' ⟨rfl, rfl⟩
    exact ⟨rfl, h.used _, (Below.refl B w).setCell (p := ⟨b, 0, none⟩) h.1 _, (Lib.OthersKept.refl _ _ w).setCell ⟨b, 0, none⟩ rfl _⟩
  · refine (copyCheck_used b w h.cell0).mono ?_
    rintro e w' ⟨rfl, rfl⟩
    exact ⟨rfl, h, Below.refl B _, Lib.OthersKept.refl _ _ _⟩

theorem IsB.lt {B b : Nat} {l : List UInt8} {w : World} (h : IsB B b l w) : b < w.heap.size := by
  rcases h with h | h <;> exact h.lt

set_option maxHeartbeats 2000000 in
set_option maxRecDepth 100000 in
theorem writeByte_any (B b : Nat) (l : List UInt8) (c : UInt8) (w : World) (h : IsB B b l w) (hlen : l.length + 1 ≤ 140737488355328) (hBw : B ≤ w.heap.size) :
    Calls Tryz.prog 223 #[.pointer (some ⟨b, 0, none⟩), .int .u8 c.toNat] w fun e w' => e = .returned .nilIface ∧ IsB B b (l ++ [c]) w' ∧ Below B w w' ∧ Lib.OthersKept 5 (some b) w w' := by
  unfold IsB at *
  have hlb := Lib.byteCells_length l
  have hap : Lib.byteCells (l ++ [c]) = Lib.byteCells l ++ [.int .u8 c.toNat] := by rw [Lib.byteCells_append]; rfl
  rw [hap]; clear hap
  generalize Lib.byteCells l = bs at *
  obtain ⟨n, hn⟩ : ∃ n : Int, n = c.toNat := ⟨_, rfl⟩
  rw [← hn]; clear hn
  have Hlb := Lib.hid hlb; clear hlb
  obtain ⟨i0, hi, hz0, hz1, hz2⟩ := info_parts bByte
  go_enter Tryz.func223, Tryz.ntmps223
  go_wp2_with (go_at_call 155; refine (copyCheck_any B b bs _ h).mono ?_)
  rintro e w1 ⟨rfl, h1, hb1, hk1⟩
  obtain ⟨hB, v, hbk, hown, hne⟩ := h1
  have c0 : w1.cell? ⟨b, 0, none⟩ = some (.pointer (some ⟨b, 0, none⟩)) := by rw [Lib.cell_of_heap hbk]; rfl
  have c1 : w1.cell? ⟨b, 1, none⟩ = some v := by rw [Lib.cell_of_heap hbk]; rfl
  go_wp2_with (at_builtin; refine wpList_append_ownF _ rfl _ _ 125 rfl B 5 i0 (.int .u8 0) 1 1 Tryz.underlying125 hi hz0 hz1 hz2 rfl (by decide) _ _ _ rfl (hown.alloc _) ⟨w1.heap.size, 0, none⟩ 1 1 [.int .u8 n] rfl rfl ?c1 ?c2 ?c3 ?c4 ?c5 ?_)
  case c1 =>
    intro j u hj
    match j, hj with
    | 0, hj => simp at hj; subst hj; simp [Addr.add]
  case c2 => intro u hu; simp at hu; subst hu; rfl
  case c3 => have := Hlb.out; unfold maxLen; omega
  case c4 => have := Hlb.out; omega
  case c5 => have := hb1.size; simp; omega
  intro v' w2 hown' hgrow _
  have hlt : b < w1.heap.size := by
    rcases Nat.lt_or_ge b w1.heap.size with h' | h'
    · exact h'
    · simp [Array.getElem?_eq_none h'] at hbk
  have hb2 : w2.heap[b]? = some (.cells #[.pointer (some ⟨b, 0, none⟩), v] 127 (0, 0)) := by
    rw [hgrow.block b (by simp; omega) (fun e => hne e.symm), Lib.alloc_old w1 _ b hlt]
    exact hbk
  have d0 : w2.cell? ⟨b, 0, none⟩ = some (.pointer (some ⟨b, 0, none⟩)) := by rw [Lib.cell_of_heap hb2]; rfl
  have d1 : w2.cell? ⟨b, 1, none⟩ = some v := by rw [Lib.cell_of_heap hb2]; rfl
  have f1 : w2.frozen? ⟨b, 1, none⟩ = false := Lib.frozen_of_heap hb2 1
  obtain ⟨g, cap, rfl⟩ : ∃ g cap, v' = .slice (some ⟨g, 0, none⟩) (bs.length + 1) cap := by
    rcases hown'.2 with ⟨_, h0⟩ | ⟨g, cap, cur, fz, hv, _⟩
    · omega
    · exact ⟨g, cap, hv⟩
  go_wp2
  go_ret
  refine ⟨rfl, Or.inr ?_, ?_, ((hk1.alloc _).grown hgrow (Lib.ownsRowF_kind (hown.alloc _))).setCell ⟨b, 1, none⟩ rfl _⟩
  · exact Lib.BuilderAtF.put (T := 127) (e := 5) hB hb2 (bs' := bs ++ [.int .u8 n]) (by simpa using hown') (by decide)
  · exact ((hb1.alloc (by have := hb1.size; omega) _).grown hgrow (by have := hb1.size; simp; omega) (fun k hk => (hown.lt k hk).1)).setCell (p := ⟨b, 1, none⟩) hB _

set_option maxHeartbeats 2000000 in
set_option maxRecDepth 100000 in
theorem writeString_any (B b : Nat) (l : List UInt8) (s : ByteArray) (w : World) (h : IsB B b l w) (hlen : l.length + s.size ≤ 140737488355328) (hBw : B ≤ w.heap.size) :
    Calls Tryz.prog 103 #[.pointer (some ⟨b, 0, none⟩), .string s] w fun e w' => e = .returned (.tuple #[.int .i64 s.size, .nilIface]) ∧ IsB B b (l ++ s.data.toList) w' ∧ Below B w w' ∧ Lib.OthersKept 5 (some b) w w' := by
  unfold IsB at *
  have hlb := Lib.byteCells_length l
  have hap : Lib.byteCells (l ++ s.data.toList) = Lib.byteCells l ++ Lib.strCells s := by rw [Lib.byteCells_append]; rfl
  rw [hap]; clear hap
  generalize Lib.byteCells l = bs at *
  have Hlb := Lib.hid hlb; clear hlb
  obtain ⟨i0, hi, hz0, hz1, hz2⟩ := info_parts bByte
  go_enter Tryz.func103, Tryz.ntmps103
  go_wp2_with (go_at_call 155; refine (copyCheck_any B b bs _ h).mono ?_)
  rintro e w1 ⟨rfl, h1, hb1, hk1⟩
  obtain ⟨hB, v, hbk, hown, hne⟩ := h1
  have c0 : w1.cell? ⟨b, 0, none⟩ = some (.pointer (some ⟨b, 0, none⟩)) := by rw [Lib.cell_of_heap hbk]; rfl
  have c1 : w1.cell? ⟨b, 1, none⟩ = some v := by rw [Lib.cell_of_heap hbk]; rfl
  go_wp2_with (at_builtin; refine Lib.wpList_append_own_stringF _ rfl _ _ 125 9 rfl B 5 i0 Tryz.underlying125 Tryz.underlying9 hi hz0 hz1 hz2 _ _ _ rfl hown s rfl ?c3 ?c4 ?c5 ?_)
  case c3 => have := Hlb.out; unfold maxLen; omega
  case c4 => have := Hlb.out; omega
  case c5 => have := hb1.size; omega
  intro v' w2 hown' hgrow _
  have hlt : b < w1.heap.size := by
    rcases Nat.lt_or_ge b w1.heap.size with h' | h'
    · exact h'
    · simp [Array.getElem?_eq_none h'] at hbk
  have hb2 : w2.heap[b]? = some (.cells #[.pointer (some ⟨b, 0, none⟩), v] 127 (0, 0)) := by
    rw [hgrow.block b hlt (fun e => hne e.symm)]
    exact hbk
  have d0 : w2.cell? ⟨b, 0, none⟩ = some (.pointer (some ⟨b, 0, none⟩)) := by rw [Lib.cell_of_heap hb2]; rfl
  have d1 : w2.cell? ⟨b, 1, none⟩ = some v := by rw [Lib.cell_of_heap hb2]; rfl
  have f1 : w2.frozen? ⟨b, 1, none⟩ = false := Lib.frozen_of_heap hb2 1
  obtain ⟨ao, n', cap, rfl⟩ : ∃ ao n' cap, v' = .slice ao n' cap := by
    rcases hown'.2 with ⟨hv, _⟩ | ⟨g, cap, cur, fz, hv, _⟩
    · exact ⟨_, _, _, hv⟩
    · exact ⟨_, _, _, hv⟩
  go_wp2
  go_ret2
  refine ⟨rfl, Or.inr ?_, ?_, (hk1.grown hgrow (Lib.ownsRowF_kind hown)).setCell ⟨b, 1, none⟩ rfl _⟩
  · exact Lib.BuilderAtF.put (T := 127) (e := 5) hB hb2 (bs' := bs ++ Lib.strCells s) (by simpa [Lib.strCells_length] using hown') (by decide)
  · exact (hb1.grown hgrow (by have := hb1.size; omega) (fun k hk => (hown.lt k hk).1)).setCell (p := ⟨b, 1, none⟩) hB _
end Go.Proofs.YtgmmjhcklhajiaaGreatDoor
/- The walks of text.Quote and text.Unquote, and of the document's. -/
namespace Go.Proofs.YtgmmjhcklhajiaaGreatDoor
open Go.RowKit

theorem plain_any (c : UInt8) (w : World) :
    Calls Tryz.prog 222 #[.int .u8 c.toNat] w fun e w' => e = .returned (.bool (plainb c)) ∧ w = w' := by
  have hlt := c.toNat_lt
  have hp : plainb c = (((c.toNat : Int) == 9) || (decide (32 ≤ (c.toNat : Int)) && ((c.toNat : Int) != 127))) := by
    unfold plainb; rw [Bool.eq_iff_iff]; simp; omega
  rw [hp]
  clear hp
  generalize c.toNat = n at *
  cases h1 : ((n : Int) == 9) <;> cases h2 : decide (32 ≤ (n : Int)) <;> cases h3 : ((n : Int) != 127)
  all_goals
    go_enter Tryz.func222, Tryz.ntmps222
    go_wp2
    go_ret
    exact ⟨rfl, rfl⟩

theorem esc_eq (c : UInt8) : esc c = bif ((c.toNat : Int) == 34) || ((c.toNat : Int) == 92) then [92, c] else [c] := by
  unfold esc
  have h1 : (c.toNat == 34) = ((c.toNat : Int) == 34) := by rw [Bool.eq_iff_iff]; simp; omega
  have h2 : (c.toNat == 92) = ((c.toNat : Int) == 92) := by rw [Bool.eq_iff_iff]; simp; omega
  rw [h1, h2]
theorem flat_snoc (s : ByteArray) (k : Nat) (h : k < s.size) : (s.data.toList.take (k + 1)).flatMap esc = (s.data.toList.take k).flatMap esc ++ esc s[k] := by
  rw [take_snoc s k h]; simp
theorem fresh_B (w : World) : IsB w.heap.size w.heap.size [] (w.alloc (.cells #[.pointer none, .slice none 0 0] 127)) :=
  Lib.IsBuilderF.of (Lib.fresh_isBuilder 127 5 w)

def mid (s : ByteArray) : ByteArray := s.extract 1 (s.size - 1)
theorem mid_list (s : ByteArray) : (mid s).data.toList = (s.data.toList.drop 1).dropLast := by
  unfold mid; rw [Lib.extract_data, List.dropLast_eq_take, List.length_drop, ← Lib.size_eq]
theorem mid_size (s : ByteArray) : (mid s).size = s.size - 2 := by unfold mid; simp [ByteArray.size_extract]; omega
theorem mid_at (s : ByteArray) (k : Nat) (h : k < (mid s).size) (h' : k + 1 < s.size) : (mid s)[k] = s[k + 1] := by
  have key : ∀ (t : ByteArray) (_ : t = s.extract 1 (s.size - 1)) (hk : k < t.size), t[k] = s[k + 1] := by
    intro t ht hk; subst ht; simp [ByteArray.getElem_extract, Nat.add_comm]
  exact key _ rfl h
theorem ends_ok (s : ByteArray) (h : 2 ≤ s.size) (h0 : s[0].toNat = 34) (h1 : s[s.size - 1].toNat = 34) : unqP s.data.toList = unq false (mid s).data.toList := by
  have e1 : s.data.toList.head? = some s[0] := by rw [List.head?_eq_getElem?, List.getElem?_eq_getElem (by simpa using (by omega : 0 < s.size))]; rfl
  have e2 : s.data.toList.getLast? = some s[s.size - 1] := by
    rw [List.getLast?_eq_getElem?, ← Lib.size_eq, List.getElem?_eq_getElem (by simpa using (by omega : s.size - 1 < s.size))]; rfl
  unfold unqP; rw [e1, e2, mid_list, ← Lib.size_eq]; simp [h, h0, h1]
theorem ends_short (s : ByteArray) (h : s.size < 2) : unqP s.data.toList = none := by
  unfold unqP; rw [← Lib.size_eq]; have : decide (2 ≤ s.size) = false := by simp; omega
  rw [this]; rfl
theorem ends_first (s : ByteArray) (h : 2 ≤ s.size) (h0 : ¬ s[0].toNat = 34) : unqP s.data.toList = none := by
  have e1 : s.data.toList.head? = some s[0] := by rw [List.head?_eq_getElem?, List.getElem?_eq_getElem (by simpa using (by omega : 0 < s.size))]; rfl
  have e2 : (s[0].toNat == 34) = false := by simpa using h0
  unfold unqP; rw [e1]; simp only [Option.getD_some, e2, Bool.and_false, Bool.false_and, cond_false]
theorem ends_last (s : ByteArray) (h : 2 ≤ s.size) (h1 : ¬ s[s.size - 1].toNat = 34) : unqP s.data.toList = none := by
  have e2 : s.data.toList.getLast? = some s[s.size - 1] := by
    rw [List.getLast?_eq_getElem?, ← Lib.size_eq, List.getElem?_eq_getElem (by simpa using (by omega : s.size - 1 < s.size))]; rfl
  have e3 : (s[s.size - 1].toNat == 34) = false := by simpa using h1
  unfold unqP; rw [e2]; simp only [Option.getD_some, e3, Bool.and_false, cond_false]

set_option maxRecDepth 100000 in
set_option maxHeartbeats 2000000 in
theorem unquote_any (s : ByteArray) (w : World) (hs : s.size ≤ 1000000) :
    Calls Tryz.prog 202 #[.string s] w fun e w' => e = .returned (two (unqP s.data.toList)) ∧ Below w.heap.size w w' := by
  by_cases h2 : 2 ≤ s.size
  · by_cases h0 : s[0].toNat = 34
    · by_cases h1 : s[s.size - 1].toNat = 34
      · rw [ends_ok s h2 h0 h1]
        have hms := mid_size s
        have d0 : ((s[0].toNat : Int) != 34) = false := by simp; omega
        have d1 : ((s[s.size - 1].toNat : Int) != 34) = false := by simp; omega
        have d2 : decide ((s.size : Int) < 2) = false := by simp; omega
        clear h0 h1
        obtain ⟨m, hm⟩ : ∃ m, mid s = m := ⟨_, rfl⟩
        have hat : ∀ k (h : k < m.size) (h' : k + 1 < s.size), m[k] = s[k + 1] := by intro k h h'; subst hm; exact mid_at s k h h'
        rw [hm] at hms ⊢
        obtain ⟨out, ho⟩ : ∃ o, unq false m.data.toList = o := ⟨_, rfl⟩
        rw [ho]
        have HO := Lib.hid ho; have HA := Lib.hid hat; have HM := Lib.hid hms
        clear ho hat hm hms
        go_enter Tryz.func202, Tryz.ntmps202
        go_wp2
        clear d0 d1 d2
        go_loopw [27, 5] (fun i b wr => ∃ (k : Nat) (bh : Bool) (acc : List UInt8), k ≤ s.size - 2 ∧ i = .int .i64 k ∧ b = .bool bh ∧ Hid (out = (unq bh (m.data.toList.drop k)).map (acc ++ ·)) ∧ acc.length ≤ k ∧ IsB w.heap.size w.heap.size acc wr ∧ Below w.heap.size w wr) (fun i _ _ => s.size - 2 - (intOf i).toNat)
        case atStart => exact ⟨0, false, [], Nat.zero_le _, rfl, rfl, by have := HO.out; show _ = _; rw [List.drop_zero, this]; simp, by simp, fresh_B w, (Below.refl _ w).alloc (Nat.le_refl _) _⟩
        case round =>
          obtain ⟨k, bh, acc, hk, rfl, rfl, Hout, hacc, hI, hbw⟩ := hrel
          by_cases hlt : k < s.size - 2
          · have hkm : k < m.size := by have := HM.out; omega
            have hc := HA.out k hkm (by omega)
            have hd := drop_cons m k hkm
            rw [hc] at hd
            have Hd := Lib.hid hd; clear hd hc hkm
            have hk1 : k + 1 < s.size := by omega
            cases hp : plainb s[k + 1]
            · have hf : out = none := by rw [Hout.out, Hd.out, unq, hp]; rfl
              have Hf := Lib.hid hf; have Hp := Lib.hid hp; clear hf hp
              go_wp2_with (go_at_call 222; refine (plain_any _ _).mono ?_; rintro e w2 ⟨rfl, rfl⟩; rw [Hp.out])
              go_ret2
              exact ⟨by rw [Hf.out]; rfl, hbw⟩
            · cases c1 : ((s[k + 1].toNat : Int) == 34) <;> cases c2 : ((s[k + 1].toNat : Int) == 92)
              all_goals have d1 : (s[k + 1].toNat == 34) = _ := (beq_cast _ 34).trans c1
              all_goals have d2 : (s[k + 1].toNat == 92) = _ := (beq_cast _ 92).trans c2
              all_goals have D1 := Lib.hid d1
              all_goals have D2 := Lib.hid d2
              all_goals clear d1 d2
              · cases bh
                · have hf : out = (unq false (m.data.toList.drop (k + 1))).map ((acc ++ [s[k + 1]]) ++ ·) := by rw [Hout.out, Hd.out, unq, hp, D1.out, D2.out]; simp [Function.comp_def]
                  have Hf := Lib.hid hf; have Hp := Lib.hid hp; clear hf hp
                  go_wp2_with (go_at_call 222; refine (plain_any _ _).mono ?_; rintro e w2 ⟨rfl, rfl⟩; rw [Hp.out])
                  refine (writeByte_any w.heap.size w.heap.size _ s[k + 1] _ hI (by omega) hbw.size).mono ?_
                  rintro e w3 ⟨rfl, hI3, b3, -⟩
                  go_wp2
                  go_roundw
                  case rel => exact ⟨k + 1, false, _, by omega, by go_num, rfl, Hf, by rw [List.length_append, List.length_singleton]; omega, hI3, hbw.trans b3⟩
                  case measure => simp [intOf]; omega
                · have hf : out = (unq false (m.data.toList.drop (k + 1))).map ((acc ++ [s[k + 1]]) ++ ·) := by rw [Hout.out, Hd.out, unq, hp, D1.out, D2.out]; simp [Function.comp_def]
                  have Hf := Lib.hid hf; have Hp := Lib.hid hp; clear hf hp
                  go_wp2_with (go_at_call 222; refine (plain_any _ _).mono ?_; rintro e w2 ⟨rfl, rfl⟩; rw [Hp.out])
                  refine (writeByte_any w.heap.size w.heap.size _ s[k + 1] _ hI (by omega) hbw.size).mono ?_
                  rintro e w3 ⟨rfl, hI3, b3, -⟩
                  go_wp2
                  go_roundw
                  case rel => exact ⟨k + 1, false, _, by omega, by go_num, rfl, Hf, by rw [List.length_append, List.length_singleton]; omega, hI3, hbw.trans b3⟩
                  case measure => simp [intOf]; omega
              · cases bh
                · have hf : out = (unq true (m.data.toList.drop (k + 1))).map (acc ++ ·) := by rw [Hout.out, Hd.out, unq, hp, D1.out, D2.out]; rfl
                  have Hf := Lib.hid hf; have Hp := Lib.hid hp; clear hf hp
                  go_wp2_with (go_at_call 222; refine (plain_any _ _).mono ?_; rintro e w2 ⟨rfl, rfl⟩; rw [Hp.out])
                  go_roundw
                  case rel => exact ⟨k + 1, true, acc, by omega, by go_num, rfl, Hf, by omega, hI, hbw⟩
                  case measure => simp [intOf]; omega
                · have hf : out = (unq false (m.data.toList.drop (k + 1))).map ((acc ++ [s[k + 1]]) ++ ·) := by rw [Hout.out, Hd.out, unq, hp, D1.out, D2.out]; simp [Function.comp_def]
                  have Hf := Lib.hid hf; have Hp := Lib.hid hp; clear hf hp
                  go_wp2_with (go_at_call 222; refine (plain_any _ _).mono ?_; rintro e w2 ⟨rfl, rfl⟩; rw [Hp.out])
                  refine (writeByte_any w.heap.size w.heap.size _ s[k + 1] _ hI (by omega) hbw.size).mono ?_
                  rintro e w3 ⟨rfl, hI3, b3, -⟩
                  go_wp2
                  go_roundw
                  case rel => exact ⟨k + 1, false, _, by omega, by go_num, rfl, Hf, by rw [List.length_append, List.length_singleton]; omega, hI3, hbw.trans b3⟩
                  case measure => simp [intOf]; omega
              · cases bh
                · have hf : out = none := by rw [Hout.out, Hd.out, unq, hp, D1.out]; rfl
                  have Hf := Lib.hid hf; have Hp := Lib.hid hp; clear hf hp
                  go_wp2_with (go_at_call 222; refine (plain_any _ _).mono ?_; rintro e w2 ⟨rfl, rfl⟩; rw [Hp.out])
                  go_ret2
                  exact ⟨by rw [Hf.out]; rfl, hbw⟩
                · have hf : out = (unq false (m.data.toList.drop (k + 1))).map ((acc ++ [s[k + 1]]) ++ ·) := by rw [Hout.out, Hd.out, unq, hp, D1.out, D2.out]; simp [Function.comp_def]
                  have Hf := Lib.hid hf; have Hp := Lib.hid hp; clear hf hp
                  go_wp2_with (go_at_call 222; refine (plain_any _ _).mono ?_; rintro e w2 ⟨rfl, rfl⟩; rw [Hp.out])
                  refine (writeByte_any w.heap.size w.heap.size _ s[k + 1] _ hI (by omega) hbw.size).mono ?_
                  rintro e w3 ⟨rfl, hI3, b3, -⟩
                  go_wp2
                  go_roundw
                  case rel => exact ⟨k + 1, false, _, by omega, by go_num, rfl, Hf, by rw [List.length_append, List.length_singleton]; omega, hI3, hbw.trans b3⟩
                  case measure => simp [intOf]; omega
              · exfalso; simp at c1 c2; omega
          · have hf : out = bif bh then none else some acc := by
              rw [Hout.out, drop_all m k (by have := HM.out; omega), unq]; cases bh <;> simp
            have Hf := Lib.hid hf; clear hf
            cases bh
            · go_wp2_with (go_at_call 105; refine (Tryz.Builder_String_any_k w.heap.size w.heap.size _ _ hI hbw.size).mono ?_; rintro e w3 ⟨rfl, _, b3, _⟩)
              go_ret2
              exact ⟨by rw [Hf.out]; rfl, hbw.trans b3⟩
            · go_wp2
              go_ret2
              exact ⟨by rw [Hf.out]; rfl, hbw⟩
      · rw [ends_last s h2 h1]
        have d1 : ((s[s.size - 1].toNat : Int) != 34) = true := by simp; omega
        have d0 : ((s[0].toNat : Int) != 34) = false := by simp; omega
        have d2 : decide ((s.size : Int) < 2) = false := by simp; omega
        clear h0 h1
        go_enter Tryz.func202, Tryz.ntmps202
        go_wp2
        go_ret2
        exact ⟨rfl, Below.refl _ _⟩
    · rw [ends_first s h2 h0]
      have d0 : ((s[0].toNat : Int) != 34) = true := by simp; omega
      have d2 : decide ((s.size : Int) < 2) = false := by simp; omega
      clear h0
      go_enter Tryz.func202, Tryz.ntmps202
      go_wp2
      go_ret2
      exact ⟨rfl, Below.refl _ _⟩
  · rw [ends_short s (by omega)]
    have d2 : decide ((s.size : Int) < 2) = true := by simp; omega
    clear h2
    go_enter Tryz.func202, Tryz.ntmps202
    go_wp2
    go_ret2
    exact ⟨rfl, Below.refl _ _⟩
end Go.Proofs.YtgmmjhcklhajiaaGreatDoor
/- The walks of text.word, text.Token. -/
namespace Go.Proofs.YtgmmjhcklhajiaaGreatDoor
open Go.RowKit

theorem mark_ix (c : UInt8) : decide (0 ≤ Lib.indexByte markL c) = markL.contains c := by
  have key : ∀ (l : List UInt8), decide (0 ≤ Lib.indexByte l c) = l.contains c := by
    intro l
    rw [Bool.eq_iff_iff]
    simp only [decide_eq_true_eq, List.contains_iff_mem]
    constructor
    · intro h
      obtain ⟨o, ho⟩ := Int.eq_ofNat_of_zero_le h
      exact List.mem_of_getElem? (Lib.indexByte_some ho).1
    · intro h
      obtain ⟨k, hk⟩ := List.mem_iff_getElem?.1 h
      have h1 := Lib.indexByte_ge l c
      have h2 : Lib.indexByte l c ≠ -1 := fun e => Lib.indexByte_none e k hk
      omega
  exact key markL
def letterI (n : Int) : Bool := (decide (97 ≤ n) && decide (n ≤ 122)) || (decide (65 ≤ n) && decide (n ≤ 90)) || (decide (48 ≤ n) && decide (n ≤ 57))
theorem letter_eq (c : UInt8) : letterb c = letterI c.toNat := by
  unfold letterb letterI; rw [Bool.eq_iff_iff]; simp; omega

set_option maxHeartbeats 2000000 in
theorem word_any (c : UInt8) (w : World) :
    Calls Tryz.prog 158 #[.int .u8 c.toNat] w fun e w' => e = .returned (.bool (wordb c)) ∧ w = w' := by
  have hi := Tryz.strings_IndexByte ⟨markL.toArray⟩ (c.toNat : Int)
  rw [show (c.toNat : Int).toNat.toUInt8 = c from by simp] at hi
  rw [show (⟨markL.toArray⟩ : ByteArray).data.toList = markL from rfl] at hi
  have hm := mark_ix c
  have hw : wordb c = (letterI c.toNat || markL.contains c) := by unfold wordb; rw [letter_eq]
  have hu := c.toNat_lt
  generalize Lib.indexByte markL c = ix at *
  generalize c.toNat = n at *
  generalize markL.contains c = mm at *
  rw [hw]
  have HI := Lib.hid hi
  clear hi hw
  unfold letterI
  cases h1 : decide (97 ≤ (n : Int)) <;> cases h2 : decide ((n : Int) ≤ 122)
  · exfalso; simp at h1 h2; omega
  · cases h3 : decide (65 ≤ (n : Int)) <;> cases h4 : decide ((n : Int) ≤ 90)
    · exfalso; simp at h3 h4; omega
    · cases h5 : decide (48 ≤ (n : Int)) <;> cases h6 : decide ((n : Int) ≤ 57)
      · exfalso; simp at h5 h6; omega
      all_goals
        go_enter Tryz.func158, Tryz.ntmps158
        go_wp2_with (go_at_call 199; refine (HI.out _).mono ?_; rintro e w' ⟨rfl, rfl⟩)
        go_ret
        first | exact ⟨by rw [← hm]; rfl, rfl⟩ | exact ⟨rfl, rfl⟩
    · have h5 : decide (48 ≤ (n : Int)) = true := by simp at h3 ⊢; omega
      have h6 : decide ((n : Int) ≤ 57) = false := by simp at h3 ⊢; omega
      rw [h5, h6]
      go_enter Tryz.func158, Tryz.ntmps158
      go_wp2_with (go_at_call 199; refine (HI.out _).mono ?_; rintro e w' ⟨rfl, rfl⟩)
      go_ret
      first | exact ⟨by rw [← hm]; rfl, rfl⟩ | exact ⟨rfl, rfl⟩
    · go_enter Tryz.func158, Tryz.ntmps158
      go_wp2_with (go_at_call 199; refine (HI.out _).mono ?_; rintro e w' ⟨rfl, rfl⟩)
      go_ret
      first | exact ⟨by rw [← hm]; rfl, rfl⟩ | exact ⟨rfl, rfl⟩
  · have h3 : decide (65 ≤ (n : Int)) = true := by simp at h1 ⊢; omega
    have h4 : decide ((n : Int) ≤ 90) = false := by simp at h1 ⊢; omega
    have h5 : decide (48 ≤ (n : Int)) = true := by simp at h1 ⊢; omega
    have h6 : decide ((n : Int) ≤ 57) = false := by simp at h1 ⊢; omega
    rw [h3, h4, h5, h6]
    go_enter Tryz.func158, Tryz.ntmps158
    go_wp2_with (go_at_call 199; refine (HI.out _).mono ?_; rintro e w' ⟨rfl, rfl⟩)
    go_ret
    first | exact ⟨by rw [← hm]; rfl, rfl⟩ | exact ⟨rfl, rfl⟩
  · go_enter Tryz.func158, Tryz.ntmps158
    go_wp2_with (go_at_call 199; refine (HI.out _).mono ?_; rintro e w' ⟨rfl, rfl⟩)
    go_ret
    first | exact ⟨by rw [← hm]; rfl, rfl⟩ | exact ⟨rfl, rfl⟩

set_option maxHeartbeats 2000000 in
theorem token_any (s : ByteArray) (w : World) (hs : s.size ≤ 1000000) :
    Calls Tryz.prog 108 #[.string s] w fun e w' => e = .returned (.bool (tokenL s.data.toList)) ∧ w = w' := by
  have hB : ∀ k (h : k < s.size), wordb s[k] = false → tokenL s.data.toList = false := by
    intro k h hk; unfold tokenL; rw [all_bad wordb s k h hk]; rfl
  have hQ : ∀ k, (s.data.toList.take k).all wordb = true → s.size ≤ k → tokenL s.data.toList = !s.data.toList.isEmpty := by
    intro k h hk; rw [take_all s k hk] at h; unfold tokenL; rw [h]; rfl
  have HB := Lib.hid hB; have HQ := Lib.hid hQ
  clear hB hQ
  generalize tokenL s.data.toList = out at *
  go_enter Tryz.func108, Tryz.ntmps108
  go_wp2
  go_loop [6] (fun i => ∃ k : Nat, k ≤ s.size ∧ i = .int .i64 k ∧ Hid ((s.data.toList.take k).all wordb = true)) (fun i => s.size - (intOf i).toNat)
  case atStart => exact ⟨0, Nat.zero_le _, rfl, by show _ = _; simp⟩
  case round =>
    obtain ⟨k, hk, rfl, Hall⟩ := hrel
    by_cases hlt : k < s.size
    · cases hp : wordb s[k]
      · have hf := HB.out k hlt hp
        have Hf := Lib.hid hf; have Hp := Lib.hid hp; clear hf hp
        go_wp2_with (go_at_call 158; refine (word_any _ _).mono ?_; rintro e w2 ⟨rfl, rfl⟩; rw [Hp.out])
        go_ret
        exact ⟨by rw [Hf.out]; rfl, rfl⟩
      · have hn : (s.data.toList.take (k + 1)).all wordb = true := by rw [all_snoc wordb s k hlt, Hall.out, hp]; rfl
        have Hn := Lib.hid hn; have Hp := Lib.hid hp; clear hn hp
        go_wp2_with (go_at_call 158; refine (word_any _ _).mono ?_; rintro e w2 ⟨rfl, rfl⟩; rw [Hp.out])
        go_round
        case rel => exact ⟨k + 1, by omega, by go_num, Hn⟩
        case measure => simp [intOf]; omega
    · have hf := HQ.out k Hall.out (by omega)
      have Hf := Lib.hid hf; clear hf
      go_wp2
      go_ret
      exact ⟨by rw [Hf.out]; simp [Lib.toList_data], rfl⟩
end Go.Proofs.YtgmmjhcklhajiaaGreatDoor
/- The walk of directive.said. -/
namespace Go.Proofs.YtgmmjhcklhajiaaGreatDoor
open Go.RowKit
set_option maxRecDepth 100000

theorem cut_lens (s sep : List UInt8) : (Lib.cut s sep).1.length ≤ s.length ∧ (Lib.cut s sep).2.1.length ≤ s.length := by
  unfold Lib.cut
  by_cases h0 : 0 ≤ Lib.index s sep
  · rw [if_pos h0]; simp; omega
  · rw [if_neg h0]; simp
def saidV : Option Dir → Value
  | none => .tuple #[.agg #[.string ⟨#[]⟩, .string ⟨#[]⟩, .bool false, .string ⟨#[]⟩], .bool false]
  | some d => .tuple #[.agg #[.string ⟨d.name.toArray⟩, .string ⟨d.value.toArray⟩, .bool d.has, .string ⟨d.for_.toArray⟩], .bool true]
set_option maxHeartbeats 8000000 in
theorem said_any (s : ByteArray) (w : World) (hM : MaxL w) (hs : s.size ≤ 1000000) :
    Calls Tryz.prog 169 #[.string s] w fun e w' => e = .returned (saidV (saidO s.data.toList)) ∧ Below w.heap.size w w' := by
  obtain ⟨W0, hW0⟩ : ∃ W0, w.alloc (.cells #[.string ⟨#[]⟩, .string ⟨#[]⟩, .bool false, .string ⟨#[]⟩] 90) = W0 := ⟨_, rfl⟩
  have hB0 : Below w.heap.size w W0 := by rw [← hW0]; exact (Below.refl w.heap.size w).alloc (Nat.le_refl _) _
  have z0 : w.heap.size < W0.heap.size := by rw [← hW0]; simp
  have hc : ∀ j, W0.cell? ⟨w.heap.size, j, none⟩ = #[Value.string ⟨#[]⟩, .string ⟨#[]⟩, .bool false, .string ⟨#[]⟩][j]? := fun j => by rw [← hW0]; exact World.cell?_alloc_mark w _ _ _ j
  have hf : ∀ j, W0.frozen? ⟨w.heap.size, j, none⟩ = false := fun j => by rw [← hW0]; exact World.frozen?_alloc_at _ _ _ _ rfl
  have kc : ∀ w', Below W0.heap.size W0 w' → Below w.heap.size w w' ∧ w'.cell? ⟨w.heap.size, 0, none⟩ = some (.string ⟨#[]⟩) ∧ w'.cell? ⟨w.heap.size, 1, none⟩ = some (.string ⟨#[]⟩) ∧ w'.cell? ⟨w.heap.size, 2, none⟩ = some (.bool false) ∧ w'.cell? ⟨w.heap.size, 3, none⟩ = some (.string ⟨#[]⟩) ∧ w'.frozen? ⟨w.heap.size, 0, none⟩ = false ∧ w'.frozen? ⟨w.heap.size, 1, none⟩ = false ∧ w'.frozen? ⟨w.heap.size, 2, none⟩ = false ∧ w'.frozen? ⟨w.heap.size, 3, none⟩ = false ∧ w.heap.size < w'.heap.size :=
    fun w' h => ⟨hB0.trans (h.mono hB0.size), (h.cell (p := ⟨w.heap.size, 0, none⟩) z0).trans (hc 0), (h.cell (p := ⟨w.heap.size, 1, none⟩) z0).trans (hc 1), (h.cell (p := ⟨w.heap.size, 2, none⟩) z0).trans (hc 2), (h.cell (p := ⟨w.heap.size, 3, none⟩) z0).trans (hc 3), (h.frozen (p := ⟨w.heap.size, 0, none⟩) z0).trans (hf 0), (h.frozen (p := ⟨w.heap.size, 1, none⟩) z0).trans (hf 1), (h.frozen (p := ⟨w.heap.size, 2, none⟩) z0).trans (hf 2), (h.frozen (p := ⟨w.heap.size, 3, none⟩) z0).trans (hf 3), Nat.lt_of_lt_of_le z0 h.size⟩
  have k1 := cut_any s ⟨#[61]⟩ W0 (hM.below hB0) hs
  rw [show (⟨#[61]⟩ : ByteArray).data.toList = [61] from rfl] at k1
  have hl := cut_lens s.data.toList [61]
  rw [← Lib.size_eq] at hl
  have ho : saidO s.data.toList = bif !tokenL (Lib.cut s.data.toList [61]).1 then none
    else bif (Lib.cut s.data.toList [61]).2.2 && !tokenL (Lib.cut s.data.toList [61]).2.1 then (unqP (Lib.cut s.data.toList [61]).2.1).map fun s2 => ⟨lowerL (Lib.cut s.data.toList [61]).1, s2, true, []⟩
    else some ⟨lowerL (Lib.cut s.data.toList [61]).1, (Lib.cut s.data.toList [61]).2.1, (Lib.cut s.data.toList [61]).2.2, []⟩ := rfl
  generalize Lib.cut s.data.toList [61] = c at *
  obtain ⟨nm, v, has⟩ := c
  obtain ⟨nm, rfl⟩ : ∃ o : ByteArray, nm = o.data.toList := ⟨⟨nm.toArray⟩, rfl⟩
  obtain ⟨v, rfl⟩ : ∃ o : ByteArray, v = o.data.toList := ⟨⟨v.toArray⟩, rfl⟩
  simp only [str_of, ← Lib.size_eq] at k1 hl ho
  obtain ⟨hl1, hl2⟩ := hl
  have k2 := fun w => token_any nm w (by omega)
  have k3 := fun w => token_any v w (by omega)
  have k4 := fun w => lower_any nm w (by omega)
  have k5 := fun w => unquote_any v w (by omega)
  obtain ⟨ln, hln⟩ : ∃ ln : ByteArray, ⟨(lowerL nm.data.toList).toArray⟩ = ln := ⟨_, rfl⟩
  rw [hln] at k4
  have hV : saidV (saidO s.data.toList) = bif !tokenL nm.data.toList then .tuple #[.agg #[.string ⟨#[]⟩, .string ⟨#[]⟩, .bool false, .string ⟨#[]⟩], .bool false] else bif has && !tokenL v.data.toList then (match unqP v.data.toList with | none => .tuple #[.agg #[.string ⟨#[]⟩, .string ⟨#[]⟩, .bool false, .string ⟨#[]⟩], .bool false] | some s2 => .tuple #[.agg #[.string ln, .string ⟨s2.toArray⟩, .bool true, .string ⟨#[]⟩], .bool true]) else .tuple #[.agg #[.string ln, .string v, .bool has, .string ⟨#[]⟩], .bool true] := by
    rw [ho, ← hln]
    cases tokenL nm.data.toList
    · rfl
    · cases has <;> cases tokenL v.data.toList <;> simp only [Bool.not_true, Bool.not_false, cond_true, cond_false, Bool.and_true, Bool.and_false, saidV, str_of]
      cases unqP v.data.toList <;> rfl
  generalize saidV (saidO s.data.toList) = out at *
  generalize tokenL nm.data.toList = tn at *
  generalize tokenL v.data.toList = tv at *
  generalize unqP v.data.toList = uq at *
  have K1 := Lib.hid k1; have K2 := Lib.hid k2; have K3 := Lib.hid k3; have K4 := Lib.hid k4; have K5 := Lib.hid k5; have KC := Lib.hid kc; have HW0 := Lib.hid hW0
  clear k1 k2 k3 k4 k5 kc hc hf hW0 ho hln hl1 hl2
  cases tn
  · have HO := Lib.hid (show out = _ from hV); clear hV
    simp only [Bool.not_false, cond_true] at HO
    go_enter Tryz.func169, Tryz.ntmps169
    go_wp2_with fail
    rw [HW0.out]
    refine K1.out.mono ?_
    rintro e w1 ⟨rfl, hb1⟩
    go_wp2_with fail
    refine (K2.out _).mono ?_
    rintro e w2 ⟨rfl, rfl⟩
    have ho := HO.out
    subst ho
    clear HO
    obtain ⟨hBw, g0, g1, g2, g3, q0, q1, q2, q3, glt⟩ := KC.out _ hb1
    clear KC
    go_wp2_with fail
    refine bodyPost_ret_by (v := .tuple #[.agg #[.string ⟨#[]⟩, .string ⟨#[]⟩, .bool false, .string ⟨#[]⟩], .bool false]) ?_ rfl ?_
    · rw [results_cell_tmp rfl]
      go_simp
    · exact ⟨rfl, (((hBw.setCell (p := ⟨w.heap.size, 0, none⟩) (Nat.le_refl _) _).setCell (p := ⟨w.heap.size, 1, none⟩) (Nat.le_refl _) _).setCell (p := ⟨w.heap.size, 2, none⟩) (Nat.le_refl _) _).setCell (p := ⟨w.heap.size, 3, none⟩) (Nat.le_refl _) _⟩
  · simp only [Bool.not_true, cond_false] at hV
    cases has
    · simp only [Bool.false_and, cond_false] at hV
      have HO := Lib.hid hV; clear hV
      go_enter Tryz.func169, Tryz.ntmps169
      go_wp2_with fail
      rw [HW0.out]
      refine K1.out.mono ?_
      rintro e w1 ⟨rfl, hb1⟩
      go_wp2_with fail
      refine (K2.out _).mono ?_
      rintro e w2 ⟨rfl, rfl⟩
      have ho := HO.out
      subst ho
      clear HO
      go_wp2_with fail
      refine (K4.out _).mono ?_
      rintro e w9 ⟨rfl, hb9⟩
      have hB9 := bt hb1 hb9
      obtain ⟨hBw, g0, g1, g2, g3, q0, q1, q2, q3, glt⟩ := KC.out _ hB9
      clear KC
      go_wp2_with fail
      refine bodyPost_ret_by (v := .tuple #[.agg #[.string ln, .string v, .bool false, .string ⟨#[]⟩], .bool true]) ?_ rfl ?_
      · rw [results_cell_tmp rfl]
        go_simp
      · exact ⟨rfl, (((hBw.setCell (p := ⟨w.heap.size, 0, none⟩) (Nat.le_refl _) _).setCell (p := ⟨w.heap.size, 1, none⟩) (Nat.le_refl _) _).setCell (p := ⟨w.heap.size, 2, none⟩) (Nat.le_refl _) _).setCell (p := ⟨w.heap.size, 3, none⟩) (Nat.le_refl _) _⟩
    · cases tv
      · simp only [Bool.not_false, Bool.and_true, cond_true] at hV
        cases uq with
        | none =>
          have HO := Lib.hid hV; clear hV
          simp only at HO
          have K6 : Hid (∀ w, Calls Tryz.prog 202 #[.string v] w fun e w' => e = .returned (.tuple #[.string ⟨#[]⟩, .int .i64 4]) ∧ Below w.heap.size w w') := K5
          go_enter Tryz.func169, Tryz.ntmps169
          go_wp2_with fail
          rw [HW0.out]
          refine K1.out.mono ?_
          rintro e w1 ⟨rfl, hb1⟩
          go_wp2_with fail
          refine (K2.out _).mono ?_
          rintro e w2 ⟨rfl, rfl⟩
          go_wp2_with fail
          refine (K3.out _).mono ?_
          rintro e w3 ⟨rfl, rfl⟩
          go_wp2_with fail
          refine (K6.out _).mono ?_
          rintro e w4 ⟨rfl, hb4⟩
          have hB4 := bt hb1 hb4
          have ho := HO.out
          subst ho
          clear HO
          obtain ⟨hBw, g0, g1, g2, g3, q0, q1, q2, q3, glt⟩ := KC.out _ hB4
          clear KC
          go_wp2_with fail
          refine bodyPost_ret_by (v := .tuple #[.agg #[.string ⟨#[]⟩, .string ⟨#[]⟩, .bool false, .string ⟨#[]⟩], .bool false]) ?_ rfl ?_
          · rw [results_cell_tmp rfl]
            go_simp
          · exact ⟨rfl, (((hBw.setCell (p := ⟨w.heap.size, 0, none⟩) (Nat.le_refl _) _).setCell (p := ⟨w.heap.size, 1, none⟩) (Nat.le_refl _) _).setCell (p := ⟨w.heap.size, 2, none⟩) (Nat.le_refl _) _).setCell (p := ⟨w.heap.size, 3, none⟩) (Nat.le_refl _) _⟩
        | some s2 =>
          have HO := Lib.hid hV; clear hV
          simp only at HO
          have K6 : Hid (∀ w, Calls Tryz.prog 202 #[.string v] w fun e w' => e = .returned (.tuple #[.string ⟨s2.toArray⟩, .int .i64 0]) ∧ Below w.heap.size w w') := K5
          go_enter Tryz.func169, Tryz.ntmps169
          go_wp2_with fail
          rw [HW0.out]
          refine K1.out.mono ?_
          rintro e w1 ⟨rfl, hb1⟩
          go_wp2_with fail
          refine (K2.out _).mono ?_
          rintro e w2 ⟨rfl, rfl⟩
          go_wp2_with fail
          refine (K3.out _).mono ?_
          rintro e w3 ⟨rfl, rfl⟩
          go_wp2_with fail
          refine (K6.out _).mono ?_
          rintro e w4 ⟨rfl, hb4⟩
          have hB4 := bt hb1 hb4
          have ho := HO.out
          subst ho
          clear HO
          go_wp2_with fail
          refine (K4.out _).mono ?_
          rintro e w9 ⟨rfl, hb9⟩
          have hB9 := bt hB4 hb9
          obtain ⟨hBw, g0, g1, g2, g3, q0, q1, q2, q3, glt⟩ := KC.out _ hB9
          clear KC
          go_wp2_with fail
          refine bodyPost_ret_by (v := .tuple #[.agg #[.string ln, .string ⟨s2.toArray⟩, .bool true, .string ⟨#[]⟩], .bool true]) ?_ rfl ?_
          · rw [results_cell_tmp rfl]
            go_simp
          · exact ⟨rfl, (((hBw.setCell (p := ⟨w.heap.size, 0, none⟩) (Nat.le_refl _) _).setCell (p := ⟨w.heap.size, 1, none⟩) (Nat.le_refl _) _).setCell (p := ⟨w.heap.size, 2, none⟩) (Nat.le_refl _) _).setCell (p := ⟨w.heap.size, 3, none⟩) (Nat.le_refl _) _⟩
      · simp only [Bool.not_true, Bool.and_false, cond_false] at hV
        have HO := Lib.hid hV; clear hV
        go_enter Tryz.func169, Tryz.ntmps169
        go_wp2_with fail
        rw [HW0.out]
        refine K1.out.mono ?_
        rintro e w1 ⟨rfl, hb1⟩
        go_wp2_with fail
        refine (K2.out _).mono ?_
        rintro e w2 ⟨rfl, rfl⟩
        go_wp2_with fail
        refine (K3.out _).mono ?_
        rintro e w3 ⟨rfl, rfl⟩
        have ho := HO.out
        subst ho
        clear HO
        go_wp2_with fail
        refine (K4.out _).mono ?_
        rintro e w9 ⟨rfl, hb9⟩
        have hB9 := bt hb1 hb9
        obtain ⟨hBw, g0, g1, g2, g3, q0, q1, q2, q3, glt⟩ := KC.out _ hB9
        clear KC
        go_wp2_with fail
        refine bodyPost_ret_by (v := .tuple #[.agg #[.string ln, .string v, .bool true, .string ⟨#[]⟩], .bool true]) ?_ rfl ?_
        · rw [results_cell_tmp rfl]
          go_simp
        · exact ⟨rfl, (((hBw.setCell (p := ⟨w.heap.size, 0, none⟩) (Nat.le_refl _) _).setCell (p := ⟨w.heap.size, 1, none⟩) (Nat.le_refl _) _).setCell (p := ⟨w.heap.size, 2, none⟩) (Nat.le_refl _) _).setCell (p := ⟨w.heap.size, 3, none⟩) (Nat.le_refl _) _⟩
end Go.Proofs.YtgmmjhcklhajiaaGreatDoor
/- The walk of text.Split: its closure first. -/
namespace Go.Proofs.YtgmmjhcklhajiaaGreatDoor
open Go.RowKit

/-- What the closure stands on: the text, where the piece began, and the pieces so far. -/
structure TakeSt (B : Nat) (s : ByteArray) (f : Nat) (ls : List (List UInt8)) (w : World) : Prop where
  text : w.heap[B]? = some (.cells #[.string s] 9 (0, 0))
  list : ∃ v, w.heap[B + 1]? = some (.cells #[v] 57 (0, 0)) ∧ OwnS (B + 3) v ls w
  start : w.heap[B + 2]? = some (.cells #[.int .i64 f] 3 (0, 0))

def pieceOf (s : ByteArray) (f t : Nat) : List UInt8 := trimL ((s.data.toList.drop f).take (t - f))

set_option maxRecDepth 100000 in
set_option maxHeartbeats 2000000 in
theorem take_any (B : Nat) (s : ByteArray) (f t : Nat) (ls : List (List UInt8)) (w : World) (h : TakeSt B s f ls w) (hft : f ≤ t) (ht : t ≤ s.size) (hs : s.size ≤ 1000000) (hn : ls.length ≤ 1000001) :
    Calls Tryz.prog 156 #[.int .i64 t, .pointer (some ⟨B, 0, none⟩), .pointer (some ⟨B + 2, 0, none⟩), .pointer (some ⟨B + 1, 0, none⟩)] w
      fun e w' => e = .returned (.tuple #[]) ∧ TakeSt B s (t + 1) (addP ls (pieceOf s f t)) w' ∧ Below B w w' := by
  obtain ⟨h1, ⟨v, h2, hown⟩, h3⟩ := h
  obtain ⟨c1, z1, l1⟩ := of_heap h1 0
  obtain ⟨c2, z2, l2⟩ := of_heap h2 0
  obtain ⟨c3, z3, l3⟩ := of_heap h3 0
  simp at c1 c2 c3
  have hex : (s.extract f t).data.toList = (s.data.toList.drop f).take (t - f) := Lib.extract_data s f t
  have hexs : (s.extract f t).size ≤ 1000000 := by rw [ByteArray.size_extract]; omega
  have k1 := fun w => trim_any (s.extract f t) w hexs
  rw [hex] at k1
  have hp : trimL ((s.data.toList.drop f).take (t - f)) = pieceOf s f t := rfl
  rw [hp] at k1
  have hpl : (pieceOf s f t).length ≤ 1000000 := by
    have h1 := trimL_le ((s.data.toList.drop f).take (t - f))
    rw [hp] at h1
    have h2 : ((s.data.toList.drop f).take (t - f)).length ≤ s.data.toList.length := by rw [List.length_take, List.length_drop]; omega
    rw [← Lib.size_eq] at h2; omega
  generalize pieceOf s f t = p at *
  have K1 := Lib.hid k1; have HO := Lib.hid hown; have H1 := Lib.hid h1; have H2 := Lib.hid h2; have H3 := Lib.hid h3
  clear k1 hown h1 h2 h3 hex hp
  obtain ⟨i0, hi, hz0, hz1, hz2⟩ := info_parts uStr
  cases he : p.isEmpty
  · have hadd : addP ls p = ls ++ [p] := by unfold addP; rw [he]; rfl
    have HA := Lib.hid hadd; clear hadd
    go_enter Tryz.func156, Tryz.ntmps156
    go_wp2_with (first | (go_at_call 157; refine (K1.out _).mono ?_; rintro e w1 ⟨rfl, hb1⟩; have d2 := (hb1.cell (p := ⟨B + 1, 0, none⟩) l2).trans c2; have d3 := (hb1.cell (p := ⟨B + 2, 0, none⟩) l3).trans c3; have y2 := (hb1.frozen (p := ⟨B + 1, 0, none⟩) l2).trans z2; have y3 := (hb1.frozen (p := ⟨B + 2, 0, none⟩) l3).trans z3; have HO1 := Lib.hid (own_below HO.out hb1)) | (at_builtin; refine wpList_append_own _ rfl _ _ 57 rfl (B + 3) 9 i0 (.string ByteArray.empty) 1 16 Tryz.underlying57 hi hz0 hz1 hz2 rfl (by decide) _ _ _ rfl (HO1.out.alloc _) ⟨w1.heap.size, 0, none⟩ 1 1 [.string ⟨p.toArray⟩] rfl rfl ?c1 ?c2 ?c3 ?c4 ?c5 ?_))
    case c1 =>
      intro j u hj
      match j, hj with
      | 0, hj => simp at hj; subst hj; simp [Addr.add]
    case c2 => intro u hu; simp at hu; subst hu; rfl
    case c3 => unfold maxLen; omega
    case c4 => omega
    case c5 => have := hb1.size; simp; omega
    intro v' w2 hown' hgrow _
    have hkeep : ∀ b, b < B + 3 → b < w.heap.size → w2.heap[b]? = w.heap[b]? := by
      intro b hb3 hbw
      have h1 := hb1.size
      rw [hgrow.block b (by simp; omega) (fun e => by have := (HO1.out.lt b e.symm).1; omega), Below.heap_alloc _ _ _ (by omega), hb1.block b hbw]
    have q1 := (hkeep B (by omega) l1).trans H1.out
    have q2 := (hkeep (B + 1) (by omega) l2).trans H2.out
    have q3 := (hkeep (B + 2) (by omega) l3).trans H3.out
    obtain ⟨e2, f2, _⟩ := of_heap q2 0
    obtain ⟨e3, f3, _⟩ := of_heap q3 0
    simp at e2 e3
    obtain ⟨g, cap, rfl⟩ : ∃ g cap, v' = .slice (some ⟨g, 0, none⟩) (ls.length + 1) cap := by
      rcases hown'.2 with ⟨_, h0⟩ | ⟨g, cap, cur, hv, _⟩
      · omega
      · exact ⟨g, cap, hv⟩
    have hbelow : Below B w w2 := ((hb1.mono (by omega)).alloc (by have := hb1.size; omega) _).grown hgrow (by have := hb1.size; simp; omega) (fun k hk => by have := (HO1.out.lt k hk).1; omega)
    have HQ1 := Lib.hid q1; have HQ2 := Lib.hid q2; have HQ3 := Lib.hid q3; have HN := Lib.hid hown'; have HB := Lib.hid hbelow
    clear q1 q2 q3 hown' hkeep hgrow hbelow hb1 d2 d3 y2 y3 c1 c2 c3
    go_wp2
    go_end0
    refine ⟨rfl, ⟨?_, ⟨_, heap_set2 (by omega) HQ2.out, ?_⟩, ?_⟩, (HB.out.setCell (p := ⟨B + 1, 0, none⟩) (by show B ≤ B + 1; omega) _).setCell (p := ⟨B + 2, 0, none⟩) (by show B ≤ B + 2; omega) _⟩
    · rw [Below.heap_setCell _ _ _ _ (by show B ≠ B + 2; omega), Below.heap_setCell _ _ _ _ (by show B ≠ B + 1; omega)]; exact HQ1.out
    · rw [HA.out]
      refine ownsRow_setCell_below (ownsRow_setCell_below ?_ (by show B + 1 < B + 3; omega) _) (by show B + 2 < B + 3; omega) _
      rw [List.length_append, List.length_singleton, List.map_append]; exact HN.out
    · exact heap_set (by rw [Below.heap_setCell _ _ _ _ (by show B + 2 ≠ B + 1; omega)]; exact HQ3.out)
  · have hadd : addP ls p = ls := by unfold addP; rw [he]; rfl
    have HA := Lib.hid hadd; clear hadd
    go_enter Tryz.func156, Tryz.ntmps156
    go_wp2_with (go_at_call 157; refine (K1.out _).mono ?_; rintro e w1 ⟨rfl, hb1⟩; have d3 := (hb1.cell (p := ⟨B + 2, 0, none⟩) l3).trans c3; have y3 := (hb1.frozen (p := ⟨B + 2, 0, none⟩) l3).trans z3)
    go_end0
    refine ⟨rfl, ⟨?_, ⟨v, ?_, ?_⟩, ?_⟩, (hb1.mono (by omega)).setCell (p := ⟨B + 2, 0, none⟩) (by show B ≤ B + 2; omega) _⟩
    · rw [Below.heap_setCell _ _ _ _ (by show B ≠ B + 2; omega), hb1.block B l1]; exact H1.out
    · rw [Below.heap_setCell _ _ _ _ (by show B + 1 ≠ B + 2; omega), hb1.block (B + 1) l2]; exact H2.out
    · rw [HA.out]; exact ownsRow_setCell_below (own_below HO.out hb1) (by show B + 2 < B + 3; omega) _
    · exact heap_set (by rw [hb1.block (B + 2) l3]; exact H3.out)

def seg (s : ByteArray) (f k : Nat) : List UInt8 := (s.data.toList.drop f).take (k - f)
theorem seg_snoc (s : ByteArray) (f k : Nat) (hf : f ≤ k) (h : k < s.size) : seg s f (k + 1) = seg s f k ++ [s[k]] := by
  unfold seg
  rw [show k + 1 - f = (k - f) + 1 from by omega, List.take_succ_eq_append_getElem (by rw [List.length_drop, ← Lib.size_eq]; omega)]
  congr 2
  rw [List.getElem_drop, at_list s k h]; congr 1; omega
theorem seg_self (s : ByteArray) (k : Nat) : seg s k k = [] := by unfold seg; rw [Nat.sub_self]; rfl
/-- One step of the scan, by what the byte is. -/
theorem spl_step (sep : UInt8) (o b : Bool) (cur : List UInt8) (ls : List (List UInt8)) (c : UInt8) (r : List UInt8) (x92 x34 xs : Bool) (h1 : ((c.toNat : Int) == 92) = x92) (h2 : ((c.toNat : Int) == 34) = x34) (h3 : ((c.toNat : Int) == (sep.toNat : Int)) = xs) :
    splP sep o b cur ls (c :: r) = bif b then splP sep o false (cur ++ [c]) ls r
    else bif o && x92 then splP sep o true (cur ++ [c]) ls r
    else bif x34 then splP sep (!o) false (cur ++ [c]) ls r
    else bif xs && !o then splP sep o false [] (addP ls (trimL cur)) r
    else splP sep o false (cur ++ [c]) ls r := by
  have e1 := (beq_cast c.toNat 92).trans h1
  have e2 := (beq_cast c.toNat 34).trans h2
  have e3 := (beq_cast c.toNat sep.toNat).trans h3
  rw [splP, e1, e2, e3]

/-- What Split hands back. -/
def SplitPost (w : World) (r : List (List UInt8) × Int) (e : Ending) (w' : World) : Prop :=
  ∃ a cap, e = .returned (.tuple #[.slice a r.1.length cap, .int .i64 r.2]) ∧ OwnS w.heap.size (.slice a r.1.length cap) r.1 w' ∧ Below w.heap.size w w'
theorem SplitPost.none {w w' : World} {n : Int} (h : Below w.heap.size w w') : SplitPost w ([], n) (.returned (.tuple #[.slice none 0 0, .int .i64 n])) w' :=
  ⟨Option.none, 0, rfl, World.ownsRow_nil _ _ _ _, h⟩

set_option maxRecDepth 100000 in
set_option maxHeartbeats 4000000 in
theorem split_any (s : ByteArray) (sep : UInt8) (w : World) (hs : s.size ≤ 1000000) :
    Calls Tryz.prog 106 #[.string s, .int .u8 sep.toNat] w (SplitPost w (splitL sep s.data.toList)) := by
  cases q1 : ((sep.toNat : Int) == 34)
  · cases q2 : ((sep.toNat : Int) == 92)
    · have hsp : splitL sep s.data.toList = splitE (splP sep false false [] [] s.data.toList) := by
        unfold splitL; rw [(beq_cast sep.toNat 34).trans q1, (beq_cast sep.toNat 92).trans q2]; rfl
      rw [hsp]; clear hsp
      obtain ⟨tot, htot⟩ : ∃ t, splP sep false false [] [] s.data.toList = t := ⟨_, rfl⟩
      rw [htot]
      have hcnt : ∀ ps, tot = some ps → ps.length ≤ 1000001 := by
        intro ps e
        have := spl_count sep s.data.toList false false [] [] ps (htot.trans e)
        rw [← Lib.size_eq] at this; simp at this; omega
      have HT := Lib.hid htot; have HC := Lib.hid hcnt; clear htot hcnt
      have hB3 : Below w.heap.size w (((w.alloc (.cells #[.string s] 9)).alloc (.cells #[.slice none 0 0] 57)).alloc (.cells #[.int .i64 0] 3)) := (((Below.refl _ w).alloc (Nat.le_refl _) _).alloc (by simp) _).alloc (by simp; omega) _
      have hst : TakeSt w.heap.size s 0 [] (((w.alloc (.cells #[.string s] 9)).alloc (.cells #[.slice none 0 0] 57)).alloc (.cells #[.int .i64 0] 3)) := by
        refine ⟨?_, ⟨.slice none 0 0, ?_, World.ownsRow_nil _ _ _ _⟩, ?_⟩
        · rw [Below.heap_alloc _ _ _ (by simp; omega), Below.heap_alloc _ _ _ (by simp)]; exact heap_new _ _ _ rfl
        · rw [Below.heap_alloc _ _ _ (by simp)]; exact heap_new _ _ _ (by simp)
        · exact heap_new _ _ _ (by simp)
      have HB3 := Lib.hid hB3; have HST := Lib.hid hst; clear hB3 hst
      go_enter Tryz.func106, Tryz.ntmps106
      go_wp2
      go_loopw [22, 8, 9] (fun i o b wr => ∃ (k : Nat) (oo bb : Bool) (f : Nat) (ls : List (List UInt8)), k ≤ s.size ∧ i = .int .i64 k ∧ o = .bool oo ∧ b = .bool bb ∧ f ≤ k ∧ (bb = true → oo = true) ∧ ls.length ≤ k ∧ TakeSt w.heap.size s f ls wr ∧ Below w.heap.size w wr ∧ Hid (splP sep oo bb (seg s f k) ls (s.data.toList.drop k) = tot)) (fun i _ _ _ => s.size - (intOf i).toNat)
      case atStart => exact ⟨0, false, false, 0, [], Nat.zero_le _, rfl, rfl, rfl, Nat.le_refl _, (fun h => absurd h (by decide)), by simp, HST.out, HB3.out, by show _ = _; rw [seg_self]; exact HT.out⟩
      case round =>
        clear HB3 HST
        obtain ⟨k, oo, bb, f, ls, hk, rfl, rfl, rfl, hfk, hbo, hls, hst, hbw, Htot⟩ := hrel
        obtain ⟨ct, _, lt⟩ := of_heap hst.text 0
        simp at ct
        have HST := Lib.hid hst; clear hst
        have Hbo := Lib.hid hbo; clear hbo
        by_cases hlt : k < s.size
        · have hd := drop_cons s k hlt
          have hsg := seg_snoc s f k hfk hlt
          cases x92 : ((s[k].toNat : Int) == 92) <;> cases x34 : ((s[k].toNat : Int) == 34) <;> cases xs : ((s[k].toNat : Int) == (sep.toNat : Int))
          all_goals
            have hstep := Htot.out
            rw [hd, spl_step sep oo bb _ ls s[k] _ _ _ _ x92 x34 xs, ← hsg] at hstep
          all_goals clear hd hsg
          all_goals try (exfalso; simp at x92 x34 xs q1 q2; omega; done)
          all_goals cases bb <;> cases oo
          all_goals try (exact absurd (Hbo.out rfl) (by decide))
          all_goals simp only [cond_true, cond_false, Bool.and_true, Bool.and_false, Bool.not_true, Bool.not_false] at hstep
          all_goals first
            | (with_reducible (have HN0 : splP sep _ _ (seg s f (k + 1)) ls (List.drop (k + 1) s.data.toList) = tot := hstep)
               have HN := Lib.hid HN0
               clear HN0 hstep
               go_wp2
               go_roundw
               case rel => exact ⟨k + 1, _, _, f, ls, by omega, by go_num, rfl, rfl, by omega, (fun h => by first | rfl | exact absurd h (by decide)), by omega, HST.out, hbw, HN⟩
               case measure => simp [intOf]; omega)
            | (have hp : trimL (seg s f k) = pieceOf s f k := rfl
               rw [hp, ← seg_self s (k + 1)] at hstep
               have HN := Lib.hid hstep
               clear hstep hp
               have hal := addP_le ls (pieceOf s f k)
               go_wp2_with (go_at_call 156; refine (take_any w.heap.size s f k ls _ HST.out hfk (by omega) hs (by omega)).mono ?_; rintro e w2 ⟨rfl, hst2, hb2⟩)
               have HST2 := Lib.hid hst2; clear hst2
               go_wp2
               go_roundw
               case rel => exact ⟨k + 1, _, _, k + 1, addP ls (pieceOf s f k), by omega, by go_num, rfl, rfl, by omega, (fun h => by first | rfl | exact absurd h (by decide)), by omega, HST2.out, hbw.trans hb2, HN⟩
               case measure => simp [intOf]; omega)
        · have hke : k = s.size := by omega
          subst hke
          have hend := Htot.out
          rw [drop_all s s.size (Nat.le_refl _)] at hend
          cases oo
          · have hp : trimL (seg s f s.size) = pieceOf s f s.size := rfl
            simp only [splP, cond_false, hp] at hend
            subst hend
            have hcn := HC.out _ rfl
            have Hcn := Lib.hid hcn; clear hcn
            clear HT Htot
            have hal := addP_le ls (pieceOf s f s.size)
            go_wp2_with fail
            refine (take_any w.heap.size s f s.size ls _ HST.out hfk (Nat.le_refl _) hs (by omega)).mono ?_
            rintro e w2 ⟨rfl, hst2, hb2⟩
            generalize addP ls (pieceOf s f s.size) = ps at *
            obtain ⟨h1, ⟨v, h2, hown⟩, h3⟩ := hst2
            obtain ⟨a, cap, rfl⟩ := hown.shape
            obtain ⟨c2, _, l2⟩ := of_heap h2 0
            simp at c2
            have hB := hbw.trans hb2
            have HO := Lib.hid hown
            clear hown h1 h2 h3 hb2
            cases hlen : decide (64 < ps.length)
            · have hse : splitE (some ps) = (ps, 0) := by unfold splitE; simp only [hlen, cond_false]
              have HSE := Lib.hid hse
              have t1 : decide ((64 : Int) < (ps.length : Int)) = false := by simp at hlen ⊢; omega
              clear hlen hse
              go_wp2
              go_ret2
              rw [HSE.out]
              exact ⟨a, cap, rfl, ⟨HO.out.1, by
                rcases HO.out.2 with h | ⟨g, cp, cur, hv, hg, r⟩
                · exact Or.inl h
                · exact Or.inr ⟨g, cp, cur, hv, by omega, r⟩⟩, hB⟩
            · have hse : splitE (some ps) = ([], 3) := by unfold splitE; simp only [hlen, cond_true]
              have HSE := Lib.hid hse
              have t1 : decide ((64 : Int) < (ps.length : Int)) = true := by simp at hlen ⊢; omega
              clear hlen hse
              go_wp2
              go_ret2
              rw [HSE.out]
              exact SplitPost.none hB
          · simp only [splP, cond_true] at hend
            subst hend
            clear HT Htot HC
            go_wp2
            go_ret2
            exact SplitPost.none hbw
    · have hsp : splitL sep s.data.toList = ([], 2) := by unfold splitL; rw [(beq_cast sep.toNat 34).trans q1, (beq_cast sep.toNat 92).trans q2]; rfl
      rw [hsp]; clear hsp
      go_enter Tryz.func106, Tryz.ntmps106
      go_wp2
      go_ret2
      exact SplitPost.none ((Below.refl _ w).alloc (Nat.le_refl _) _)
  · have hsp : splitL sep s.data.toList = ([], 2) := by unfold splitL; rw [(beq_cast sep.toNat 34).trans q1]; rfl
    rw [hsp]; clear hsp
    go_enter Tryz.func106, Tryz.ntmps106
    go_wp2
    go_ret2
    exact SplitPost.none ((Below.refl _ w).alloc (Nat.le_refl _) _)
end Go.Proofs.YtgmmjhcklhajiaaGreatDoor
/- What a round keeps that writes one cell and the row that it leads to. -/
namespace Go.Proofs.YtgmmjhcklhajiaaGreatDoor
open Go.RowKit

/-- The cell at L leads to block g. -/
def rowOf (L : Nat) (w : World) (g : Nat) : Prop := ∃ v, w.cell? ⟨L, 0, none⟩ = some v ∧ v.ownBlock = some g
/-- All blocks of cells lie as they lay, but for L and its row; a new row lies in new memory. -/
def KpRow (L : Nat) (w w' : World) : Prop :=
  w.heap.size ≤ w'.heap.size ∧ (∀ b cur e fz, w.heap[b]? = some (.cells cur e fz) → b ≠ L → ¬ rowOf L w b → w'.heap[b]? = some (.cells cur e fz)) ∧
  (∀ g, rowOf L w' g → rowOf L w g ∨ (w.heap.size ≤ g ∧ g < w'.heap.size))
theorem heap_lt {w : World} {b : Nat} {o : Obj} (h : w.heap[b]? = some o) : b < w.heap.size := by
  rcases Nat.lt_or_ge b w.heap.size with h' | h'
  · exact h'
  · simp [Array.getElem?_eq_none h'] at h
theorem KpRow.trans {L : Nat} {a b c : World} (h : KpRow L a b) (k : KpRow L b c) : KpRow L a c := by
  refine ⟨Nat.le_trans h.1 k.1, fun i cur e fz hi hL hr => ?_, fun g hg => ?_⟩
  · have h1 := h.2.1 i cur e fz hi hL hr
    refine k.2.1 i cur e fz h1 hL (fun hr2 => ?_)
    rcases h.2.2 i hr2 with h3 | h3
    · exact hr h3
    · have := heap_lt hi; omega
  · rcases k.2.2 g hg with h3 | h3
    · rcases h.2.2 g h3 with h4 | h4
      · exact Or.inl h4
      · exact Or.inr ⟨h4.1, Nat.lt_of_lt_of_le h4.2 k.1⟩
    · exact Or.inr ⟨Nat.le_trans h.1 h3.1, h3.2⟩
theorem rowOf_below {L g : Nat} {w w' : World} (hb : Below w.heap.size w w') (hL : L < w.heap.size) : rowOf L w' g ↔ rowOf L w g := by
  unfold rowOf
  rw [hb.cell (p := ⟨L, 0, none⟩) hL]
/-- The row that L leads to lies beyond n, in the heap. -/
def RowIn (n L : Nat) (w : World) : Prop := ∀ g, rowOf L w g → n ≤ g ∧ g < w.heap.size
theorem RowIn.kp {n L : Nat} {w w' : World} (h : RowIn n L w) (k : KpRow L w w') (hn : n ≤ w.heap.size) : RowIn n L w' := by
  intro g hg
  rcases k.2.2 g hg with h1 | h1
  · exact ⟨(h g h1).1, Nat.lt_of_lt_of_le (h g h1).2 k.1⟩
  · exact ⟨Nat.le_trans hn h1.1, h1.2⟩
theorem RowIn.below {n L : Nat} {w w' : World} (h : RowIn n L w) (hb : Below w.heap.size w w') (hL : L < w.heap.size) : RowIn n L w' := by
  intro g hg
  have := h g ((rowOf_below hb hL).1 hg)
  exact ⟨this.1, Nat.lt_of_lt_of_le this.2 hb.size⟩
/-- What lies in a block of cells that is neither L nor its row is read as it was. -/
theorem KpRow.own {L B : Nat} {e : TypeId} {size n : Nat} {v : Value} {xs : List Value} {w w' : World} (k : KpRow L w w') (h : w.ownsRow B e size v n xs) (hL : L < B) (hr : ∀ g, v.ownBlock = some g → ¬ rowOf L w g) : w'.ownsRow B e size v n xs := by
  obtain ⟨h1, h2⟩ := h
  refine ⟨h1, ?_⟩
  rcases h2 with h2 | ⟨g, cap, cur, hv, hg, hh, r⟩
  · exact Or.inl h2
  · exact Or.inr ⟨g, cap, cur, hv, hg, k.2.1 g cur e (0, 0) hh (by omega) (hr g (by rw [hv]; rfl)), r⟩
theorem KpRow.cell {L b j : Nat} {u : Value} {w w' : World} (k : KpRow L w w') (h : w.cell? ⟨b, j, none⟩ = some u) (hL : b ≠ L) (hr : ¬ rowOf L w b) : w'.cell? ⟨b, j, none⟩ = some u := by
  cases ho : w.heap[b]? with
  | none => simp [World.cell?, ho] at h
  | some o =>
    cases o with
    | cells cur e fz =>
      have h2 := k.2.1 b cur e fz ho hL hr
      simp only [World.cell?, ho] at h
      simp only [World.cell?, h2]
      exact h
    | _ => simp [World.cell?, ho] at h
theorem KpRow.rd {L : Nat} {A : Option Addr} {n size : Nat} {xs : List Value} {w w' : World} (k : KpRow L w w') (h : Rd A n size xs w) (hr : 0 < n → ∀ b o, A = some ⟨b, o, none⟩ → b ≠ L ∧ ¬ rowOf L w b) : Rd A n size xs w' := by
  refine ⟨h.1, fun hn => ?_⟩
  obtain ⟨b, o, e, hl, hc⟩ := h.2 hn
  obtain ⟨h1, h2⟩ := hr hn b o e
  exact ⟨b, o, e, Nat.lt_of_lt_of_le hl k.1, fun j u hu => k.cell (hc j u hu) h1 h2⟩
/-- A turn of what is no cells, beyond L, is kept by KpRow. -/
theorem KpRow.putObj {L l : Nat} {o : Obj} {w : World} (o' : Obj) (hl : w.heap[l]? = some o) (ho : o.isCells = false) (hL : L < l) : KpRow L w (w.putObj l o') := by
  have hne : ∀ b, b ≠ l → (w.putObj l o').heap[b]? = w.heap[b]? := fun b hb => World.putObj_heap_other (fun e => hb (by rw [e]))
  refine ⟨by simp, fun b cur e fz hb _ _ => ?_, fun g hg => Or.inl ?_⟩
  · rw [hne b (fun e2 => by subst e2; rw [hb] at hl; cases hl; cases ho)]
    exact hb
  · obtain ⟨v, hv, hvo⟩ := hg
    refine ⟨v, ?_, hvo⟩
    simp only [World.cell?, hne L (by omega)] at hv
    simp only [World.cell?]
    exact hv
/-- An append to the row, and the store of what came of it. -/
theorem KpRow.stored {L : Nat} {v v' : Value} {w w1 : World} (hf : Far w w1 v v') (hc : w.cell? ⟨L, 0, none⟩ = some v) (hv' : ∀ g, v'.ownBlock = some g → g < w1.heap.size) (hL : L < w.heap.size) (hne : v.ownBlock ≠ some L) :
    KpRow L w (w1.setCell ⟨L, 0, none⟩ v') := by
  obtain ⟨hg, hw⟩ := hf
  have hcell1 : w1.cell? ⟨L, 0, none⟩ = some v := by
    have hb := hg.block L hL (fun e => hne e.symm)
    simp only [World.cell?, hb]
    simpa only [World.cell?] using hc
  refine ⟨by simp; exact hg.size, fun b cur e fz hb hbL hr => ?_, fun g hgr => ?_⟩
  · rw [Below.heap_setCell _ _ _ _ hbL, hg.block b (heap_lt hb) (fun e2 => hr ⟨v, hc, e2.symm⟩)]
    exact hb
  · obtain ⟨u, hu, huo⟩ := hgr
    have hu2 : u = v' := by
      have := World.cell?_setCell_same' w1 ⟨L, 0, none⟩ v' (by rw [hcell1]; rfl)
      rw [this] at hu
      exact (Option.some.inj hu).symm
    subst hu2
    rcases hw with h | h
    · exact Or.inl ⟨v, hc, by rw [← h]; exact huo⟩
    · exact Or.inr ⟨h g huo, by simp; exact hv' g huo⟩
/-- The cells below n, but L's block, are read as they were. -/
def KeepC (n L : Nat) (w w' : World) : Prop := ∀ b j u, b < n → b ≠ L → w.cell? ⟨b, j, none⟩ = some u → w'.cell? ⟨b, j, none⟩ = some u
theorem KeepC.refl (n L : Nat) (w : World) : KeepC n L w w := fun _ _ _ _ _ h => h
theorem KeepC.below {n L : Nat} {w0 w w' : World} (h : KeepC n L w0 w) (hb : Below w.heap.size w w') (hn : n ≤ w.heap.size) : KeepC n L w0 w' :=
  fun b j u h1 h2 h3 => (hb.cell (p := ⟨b, j, none⟩) (by show b < _; omega)).trans (h b j u h1 h2 h3)
theorem KeepC.kp {n L : Nat} {w0 w w' : World} (h : KeepC n L w0 w) (k : KpRow L w w') (hr : RowIn n L w) : KeepC n L w0 w' :=
  fun b j u h1 h2 h3 => k.cell (h b j u h1 h2 h3) h2 (fun hx => by have := (hr b hx).1; omega)
theorem Rd.keepC {n L : Nat} {w w' : World} {A : Option Addr} {m size : Nat} {xs : List Value} (h : Rd A m size xs w) (k : KeepC n L w w') (hs : n ≤ w'.heap.size) (hA : 0 < m → ∀ b o, A = some ⟨b, o, none⟩ → b < n ∧ b ≠ L) : Rd A m size xs w' := by
  refine ⟨h.1, fun hm => ?_⟩
  obtain ⟨b, o, e, hl, hc⟩ := h.2 hm
  obtain ⟨h1, h2⟩ := hA hm b o e
  exact ⟨b, o, e, by omega, fun j u hu => k b _ u h1 h2 (hc j u hu)⟩
/-- Texts in a block of an iterator's own, apart from L and its row. -/
def Apart (L : Nat) (A : Option Addr) (m : Nat) (w : World) : Prop := 0 < m → ∀ b o, A = some ⟨b, o, none⟩ → b < w.heap.size ∧ b ≠ L ∧ ¬ rowOf L w b
theorem Apart.kp {L : Nat} {A : Option Addr} {m : Nat} {w w' : World} (h : Apart L A m w) (k : KpRow L w w') : Apart L A m w' := by
  intro hm b o e
  obtain ⟨h1, h2, h3⟩ := h hm b o e
  refine ⟨Nat.lt_of_lt_of_le h1 k.1, h2, fun hx => ?_⟩
  rcases k.2.2 b hx with h4 | h4
  · exact h3 h4
  · omega
theorem Apart.below {L : Nat} {A : Option Addr} {m : Nat} {w w' : World} (h : Apart L A m w) (hb : Below w.heap.size w w') (hL : L < w.heap.size) : Apart L A m w' := by
  intro hm b o e
  obtain ⟨h1, h2, h3⟩ := h hm b o e
  exact ⟨Nat.lt_of_lt_of_le h1 hb.size, h2, fun hx => h3 ((rowOf_below hb hL).1 hx)⟩
/-- What lies in new memory stands apart. -/
theorem Apart.new {n L : Nat} {A : Option Addr} {m size : Nat} {xs : List Value} {w w' : World} (hb : Below w.heap.size w w') (hr : RowIn n L w) (hL : L < w.heap.size) (hd : Rd A m size xs w') (hA : ∀ b o, A = some ⟨b, o, none⟩ → w.heap.size ≤ b) : Apart L A m w' := by
  intro hm b o e
  obtain ⟨b', o', e', hl, _⟩ := hd.2 hm
  rw [e] at e'
  cases e'
  have h1 := hA b o e
  refine ⟨hl, by omega, fun hx => ?_⟩
  have := hr b ((rowOf_below hb hL).1 hx)
  omega
theorem KpRow.of_below {L : Nat} {w w' : World} (h : Below w.heap.size w w') (hL : L < w.heap.size) : KpRow L w w' := by
  refine ⟨h.size, fun b cur e fz hb _ _ => ?_, fun g hg => Or.inl ((rowOf_below h hL).1 hg)⟩
  rw [h.block b (heap_lt hb)]; exact hb
theorem KpRow.alloc (L : Nat) (w : World) (o : Obj) (hL : L < w.heap.size) : KpRow L w (w.alloc o) := KpRow.of_below ((Below.refl w.heap.size w).alloc (Nat.le_refl _) o) hL
theorem below_grown {w w' : World} (h : Below w.heap.size w w') : w.grownBy w' none := ⟨h.os, h.tape, h.output, h.size, fun k hk _ => h.block k hk⟩
end Go.Proofs.YtgmmjhcklhajiaaGreatDoor
/- Directives in a slice that the call made. -/
namespace Go.Proofs.YtgmmjhcklhajiaaGreatDoor
open Go.RowKit
set_option maxRecDepth 100000

theorem uDir : (Tryz.prog.info? 90).map (fun i => (i.zero, i.size, i.bytes)) = some (some (.agg #[.string ByteArray.empty, .string ByteArray.empty, .bool false, .string ByteArray.empty]), 4, 56) := by kernel_rfl
def OwnD (B : Nat) (v : Value) (ds : List Dir) (w : World) : Prop := w.ownsRow B 90 4 v ds.length (dirsV ds)
theorem OwnD.shape {B : Nat} {v : Value} {ds : List Dir} {w : World} (h : OwnD B v ds w) : ∃ a cap, v = .slice a ds.length cap := by
  rcases h.2 with ⟨rfl, h0⟩ | ⟨g, cap, cur, rfl, _⟩
  · exact ⟨none, 0, by rw [h0]⟩
  · exact ⟨_, _, rfl⟩
theorem OwnD.below {B : Nat} {v : Value} {ds : List Dir} {w w1 : World} (h : OwnD B v ds w) (hb : Below w.heap.size w w1) : OwnD B v ds w1 := own_below h hb
theorem OwnD.nil (B : Nat) (w : World) : OwnD B (.slice none 0 0) [] w := World.ownsRow_nil _ _ _ _
theorem OwnD.rd {B m cap : Nat} {a : Option Addr} {ds : List Dir} {w : World} (h : OwnD B (.slice a m cap) ds w) : m = ds.length ∧ Rd a ds.length 4 (dirsV ds) w := Rd.of_own h
theorem OwnD.base {B B' : Nat} {v : Value} {ds : List Dir} {w : World} (h : OwnD B v ds w) (hB : B' ≤ B) : OwnD B' v ds w := by
  refine ⟨h.1, ?_⟩
  rcases h.2 with h | ⟨g, cp, cur, hv, hg, r⟩
  · exact Or.inl h
  · exact Or.inr ⟨g, cp, cur, hv, by omega, r⟩
theorem dirV_one (d : Dir) : ∀ u ∈ dirV d, u.oneCell' = true := by
  intro u hu
  simp [dirV] at hu
  rcases hu with rfl | rfl | rfl | rfl <;> rfl
theorem dirsV_snoc (ds : List Dir) (d : Dir) : dirsV (ds ++ [d]) = dirsV ds ++ dirV d := by unfold dirsV; simp
theorem app_dir {ops : Array Oper} {rest : List Oper} {o : Oper} {a : Act} {Q : Exit → Act → World → Prop} (B : Nat) (d : Dir) {w : World} {v : Value} {ds : List Dir} (hown : OwnD B v ds w) (hB : B ≤ w.heap.size) (hn : ds.length ≤ 1000000000)
    (hgd : o.guard = none) (s x : Operand) (ho : o.op = .call { callee := .builtin .append, args := #[s, x], argTypes := #[87, 87] })
    (hs : a.eval s = v) (hx : a.eval x = .slice (some ⟨w.heap.size, 0, none⟩) 1 1)
    (hK : ∀ v' w1, OwnD B v' (ds ++ [d]) w1 → Below B w w1 → Far w w1 v v' → wpList Tryz.prog ops Q rest (a.put o.dst v') w1) :
    wpList Tryz.prog ops Q (o :: rest) a (w.alloc (.cells #[.string ⟨d.name.toArray⟩, .string ⟨d.value.toArray⟩, .bool d.has, .string ⟨d.for_.toArray⟩] 90)) := by
  refine app_one (z := .agg #[.string ByteArray.empty, .string ByteArray.empty, .bool false, .string ByteArray.empty]) (bytes := 56) (n := ds.length) hgd s x 87 90 ho Tryz.underlying87 uDir rfl (by decide) (by decide) B (dirV d) rfl (dirV_one d) hs hx hown hB hn ?_
  intro v' w1 h1 h2 h3
  refine hK v' w1 ?_ h2 h3
  show World.ownsRow _ _ _ _ _ _ _
  rw [List.length_append, List.length_singleton, dirsV_snoc]
  exact h1
/-- Directives that are handed back in a slice of the call's own. -/
def DirsPost (w : World) (ds : List Dir) (e : Ending) (w' : World) : Prop :=
  ∃ a cap, e = .returned (.slice a ds.length cap) ∧ OwnD w.heap.size (.slice a ds.length cap) ds w' ∧ Below w.heap.size w w'
end Go.Proofs.YtgmmjhcklhajiaaGreatDoor
/- The iterator of directive.each: for every loop body that writes one row. -/
namespace Go.Proofs.YtgmmjhcklhajiaaGreatDoor
open Go.RowKit Go.Shelf
set_option maxRecDepth 100000
attribute [local go_sem] Oper.semAt_some

def dirA (d : Dir) : Value := .agg #[.string ⟨d.name.toArray⟩, .string ⟨d.value.toArray⟩, .bool d.has, .string ⟨d.for_.toArray⟩]
theorem dlist_snoc (vs : List (List UInt8)) (k : Nat) (h : k < vs.length) : dlistL (vs.take (k + 1)) = dlistL (vs.take k) ++ (pcsL vs[k]).filterMap saidO := by
  unfold dlistL; rw [List.take_succ_eq_append_getElem h, List.flatMap_append]; simp [dirsOf]
theorem fm_snoc (ps : List (List UInt8)) (m : Nat) (h : m < ps.length) : (ps.take (m + 1)).filterMap saidO = (ps.take m).filterMap saidO ++ (saidO ps[m]).toList := by
  rw [List.take_succ_eq_append_getElem h, List.filterMap_append]
  cases hs : saidO ps[m] <;> simp [hs]

theorem Rd.newS1 (w : World) (l : List UInt8) (T : TypeId) : Rd (some ⟨w.heap.size, 0, none⟩) 1 1 (strsV [l]) (w.alloc (.cells #[.string ⟨l.toArray⟩] T)) := by
  refine ⟨rfl, fun _ => ⟨w.heap.size, 0, rfl, by simp, fun j u hu => ?_⟩⟩
  rw [Nat.zero_add, World.cell?_alloc_mark]
  match j, hu with
  | 0, hu => exact hu
  | j + 1, hu => simp [strsV] at hu
theorem split_few44 (l : List UInt8) : (splitL 44 l).1.length ≤ 64 := by
  unfold splitL
  cases ((44 : UInt8).toNat == 34 || (44 : UInt8).toNat == 92)
  · cases splP 44 false false [] [] l with
    | none => simp [splitE]
    | some ls =>
      simp only [splitE, cond_false]
      cases h : decide (64 < ls.length)
      · simp at h ⊢; exact h
      · simp
  · simp
set_option maxHeartbeats 16000000 in
theorem each1_in (L Bs : Nat) (A : Option Addr) (n c : Nat) (vs : List (List UInt8)) (w : World) (hM : MaxL w) (hL : L < w.heap.size) (hML : 3 ≠ L) (hBs : Bs < w.heap.size) (hbox : w.cell? ⟨Bs, 0, none⟩ = some (.slice A n c)) (hr : Rd A n 1 (strsV vs) w)
    (hA : 0 < n → ∀ b o, A = some ⟨b, o, none⟩ → b < w.heap.size ∧ b ≠ L) (hrow : RowIn w.heap.size L w) (hn : n ≤ 1000000) (hl : ∀ v ∈ vs, v.length ≤ 1000000) (d : Nat) (hd : 1 ≤ d) (l : Nat) (J Jx : List Dir → World → Prop) (W : World) (hW : Below w.heap.size w W) (hJa : AbidesFrom W.heap.size J)
    (hY : ∀ pre x W1, J pre W1 → pre.length < 64 * vs.length → YieldAt Fence.wide (d - 1) Tryz.prog l #[dirA x] W1 fun e W' =>
      (e = .returned (.bool true) ∧ J (pre ++ [x]) W' ∧ KpRow L W1 W') ∨ (e = .returned (.bool false) ∧ Jx (pre ++ [x]) W'))
    (h0 : J [] W) :
    CallsIn Fence.wide d Tryz.prog 168 #[.func (.yield l) #[] #[], .pointer (some ⟨Bs, 0, none⟩)] W fun e W' => (∃ v, e = .returned v) ∧ ((∃ ys, ys = dlistL vs ∧ J ys W') ∨ (∃ pre, True ∧ Jx pre W')) := by
  obtain rfl := hr.str
  have hb0 : W.cell? ⟨Bs, 0, none⟩ = some (.slice A vs.length c) := (hW.cell (p := ⟨Bs, 0, none⟩) hBs).trans hbox
  have hk0 : KeepC w.heap.size L w W := (KeepC.refl _ _ w).below hW (Nat.le_refl _)
  have hr0 : RowIn w.heap.size L W := hrow.below hW hL
  have hJb : ∀ pre W1 W2, J pre W1 → Below W1.heap.size W1 W2 → J pre W2 := fun pre W1 W2 h1 h2 => hJa pre W1 W2 none h1 (below_grown h2) (fun r e => by cases e)
  have HM := Lib.hid hM; have HR := Lib.hid hr; have HA := Lib.hid hA; have HL := Lib.hid hl; have HY := Lib.hid hY; have HJB := Lib.hid hJb; have HK0 := Lib.hid hk0; have HR0 := Lib.hid hr0
  clear hM hr hA hl hY hJb hk0 hr0 hJa hrow
  refine callsIn_of_wp Tryz.func168 rfl trivial ?_ rfl
  simp only [Tryz.ntmps168, List.size_toArray, List.length_cons, List.length_nil, Nat.reduceAdd, Nat.reduceSub, Array.replicate_succ, Array.replicate_zero, List.push_toArray, List.append_toArray, List.nil_append, List.cons_append]
  gi_wp2
  gi_loopw [13] (fun i wr => ∃ (k : Nat) (pre : List Dir), k ≤ vs.length ∧ i = .int .i64 k ∧ Hid (pre = dlistL (vs.take k)) ∧ pre.length ≤ 64 * k ∧ J pre wr ∧ Hid (KeepC w.heap.size L w wr) ∧ Hid (RowIn w.heap.size L wr) ∧ w.heap.size ≤ wr.heap.size) (fun i _ => vs.length - (intOf i).toNat)
  case atStart => exact ⟨0, [], Nat.zero_le _, rfl, Lib.hid rfl, by simp, h0, HK0, HR0, hW.size⟩
  case round =>
    clear HK0 HR0 h0
    obtain ⟨k, pre, hk, rfl, HPre, hpl, hJs, HK, HRow, hsz⟩ := hrel
    have hLs : L < wr.heap.size := by omega
    by_cases hlt : k < vs.length
    · have hrd := HR.out.keepC HK.out hsz HA.out
      obtain ⟨b, o, rfl, hlb, c1⟩ := hrd.str_at (k := k) hlt
      have hv := HL.out vs[k] (List.getElem_mem _)
      have hsn := dlist_snoc vs k hlt
      generalize vs[k] = v at *
      have k2 := split_any ⟨v.toArray⟩ 44 wr (by rw [Lib.size_eq]; exact hv)
      simp only at k2
      have hfew : (splitL 44 v).1.length ≤ 64 := split_few44 v
      have hpt := split_total 44 v
      have hpc : pcsL v = bif (splitL 44 v).2 == 0 then (splitL 44 v).1 else [noStore] := rfl
      generalize pcsL v = ps0 at *
      generalize splitL 44 v = r at *
      obtain ⟨ps, er⟩ := r
      simp only at hfew hpt hpc
      have K2 := Lib.hid k2
      cases hz : (er == 0)
      · rw [hz, cond_false] at hpc
        subst hpc
        have n0 : (er != 0) = true := by simp [bne, hz]
        have HSN := Lib.hid hsn
        have HPL : Hid (∀ p ∈ [noStore], p.length ≤ 1000000) := Lib.hid (by intro p hp; simp at hp; subst hp; decide)
        clear hsn k2 hrd hz hpt hfew hv
        gi_wp2_with (refine ⟨trivial, ?_⟩; gi_at_call 106; refine (callsIn_wide.2 K2.out).mono ?_; rintro e w3 ⟨a3', c3', rfl, ho3, hb3⟩; simp only)
        have h4 := hb3.alloc hb3.size (.cells #[.string ⟨#[110, 111, 45, 115, 116, 111, 114, 101]⟩] 9)
        have hrd4 : Rd (some ⟨w3.heap.size, 0, none⟩) 1 1 (strsV [noStore]) (w3.alloc (.cells #[.string ⟨#[110, 111, 45, 115, 116, 111, 114, 101]⟩] 9)) := Rd.newS1 w3 noStore 9
        have HP3 := Lib.hid (And.intro hrd4 (Apart.new h4 HRow.out hLs hrd4 (fun b o e => by cases e; exact hb3.size)))
        have hJ3 := HJB.out pre _ _ hJs h4
        have HK3 := Lib.hid (HK.out.below h4 hsz)
        have HR3 := Lib.hid (HRow.out.below h4 hLs)
        have hs3 := Nat.le_trans hsz h4.size
        clear ho3 hb3 hrd4 K2 c1 HK HRow hJs h4
        generalize (w3.alloc (.cells #[.string ⟨#[110, 111, 45, 115, 116, 111, 114, 101]⟩] 9)) = w4 at *
        generalize w3.heap.size = g3 at *
        obtain ⟨wo, hwo⟩ : ∃ wo : World, wo = wr := ⟨_, rfl⟩
        clear hLs hsz
        subst hwo
        gi_loopw [27] (fun j wi => ∃ (m : Nat) (pre : List Dir), m ≤ 1 ∧ j = .int .i64 m ∧ Hid (pre = dlistL (vs.take k) ++ ([noStore].take m).filterMap saidO) ∧ pre.length ≤ 64 * k + m ∧ J pre wi ∧ Hid (KeepC w.heap.size L w wi) ∧ Hid (RowIn w.heap.size L wi) ∧ w.heap.size ≤ wi.heap.size ∧ Hid (Rd (some ⟨g3, 0, none⟩) 1 1 (strsV [noStore]) wi ∧ Apart L (some ⟨g3, 0, none⟩) 1 wi)) (fun j _ => 1 - (intOf j).toNat)
        case atStart => exact ⟨0, pre, Nat.zero_le _, rfl, by show _ = _; rw [HPre.out]; simp, by omega, hJ3, HK3, HR3, hs3, HP3⟩
        case round =>
          clear HK3 HR3 HP3 hJ3 hs3 HPre hpl
          obtain ⟨m, pre, hm, rfl, HPre, hpl, hJs, HK, HRow, hsz, HP⟩ := hrel
          have hLs : L < wr.heap.size := by omega
          by_cases hlm : m < 1
          · obtain ⟨b2, o2, hab, hl2, c2⟩ := HP.out.1.str_at (k := m) hlm
            have hpp := HPL.out (([noStore] : List (List UInt8))[m]'hlm) (List.getElem_mem _)
            have hfm := fm_snoc [noStore] m hlm
            have hM1 : MaxL wr := by
              obtain ⟨g1, mm, g2⟩ := HM.out
              exact ⟨by omega, mm, HK.out _ 0 _ g1 hML g2⟩
            generalize (([noStore] : List (List UInt8))[m]'hlm) = p at *
            have k1 := said_any ⟨p.toArray⟩ wr hM1 (by rw [Lib.size_eq]; exact hpp)
            simp only at k1
            clear hM1
            cases hab
            rw [Nat.zero_add] at c2
            cases hs : saidO p with
            | none =>
              rw [hs] at k1 hfm
              unfold saidV at k1
              have hnx : pre = dlistL (vs.take k) ++ ([noStore].take (m + 1)).filterMap saidO := by rw [HPre.out, hfm]; simp
              have HNX := Lib.hid hnx; have K1 := Lib.hid k1
              clear hnx k1 hfm hs HPre
              gi_wp2_with (refine ⟨trivial, ?_⟩; gi_at_call 169; refine (callsIn_wide.2 K1.out).mono ?_; rintro e w5 ⟨rfl, hb5⟩)
              have h6 := hb5.alloc hb5.size (.cells #[.string ⟨#[]⟩, .string ⟨#[]⟩, .bool false, .string ⟨#[]⟩] 90)
              have hJ6 := HJB.out pre _ _ hJs h6
              have HK6 := Lib.hid (HK.out.below h6 hsz)
              have HR6 := Lib.hid (HRow.out.below h6 hLs)
              have HP6 := Lib.hid (And.intro (HP.out.1.below h6) (HP.out.2.below h6 hLs))
              have hs6 := Nat.le_trans hsz h6.size
              clear HK HRow HP c2 K1
              refine ⟨fun _ h => (by cases h), ?_⟩
              gi_wp2
              go_roundw
              case rel => exact ⟨m + 1, pre, by omega, by go_num, HNX, by omega, hJ6, HK6, HR6, hs6, HP6⟩
              case measure => simp [intOf]; omega
            | some dd =>
              rw [hs] at k1 hfm
              have hnx : pre ++ [dd] = dlistL (vs.take k) ++ ([noStore].take (m + 1)).filterMap saidO := by rw [HPre.out, hfm]; simp
              have k2 : Calls Tryz.prog 169 #[.string ⟨p.toArray⟩] wr fun e w' => e = .returned (.tuple #[.agg #[.string ⟨dd.name.toArray⟩, .string ⟨dd.value.toArray⟩, .bool dd.has, .string ⟨dd.for_.toArray⟩], .bool true]) ∧ Below wr.heap.size wr w' := k1
              have HNX := Lib.hid hnx; have K1 := Lib.hid k2
              have hlt64 : pre.length < 64 * vs.length := by omega
              have hy0 := fun W h => HY.out pre dd W h hlt64
              have HY0 := Lib.hid hy0
              clear hnx k1 k2 hfm hs HPre hy0
              obtain ⟨dn, dv, dh, df⟩ := dd
              unfold dirA at HY0
              simp only at K1
              gi_wp2_with (refine ⟨trivial, ?_⟩; gi_at_call 169; refine (callsIn_wide.2 K1.out).mono ?_; rintro e w5 ⟨rfl, hb5⟩; have h6 := hb5.alloc hb5.size (.cells #[.string ⟨dn.toArray⟩, .string ⟨dv.toArray⟩, .bool dh, .string ⟨df.toArray⟩] 90); obtain ⟨fn, tmps, assign, body, hy, hR⟩ := HY0.out _ (HJB.out pre _ _ hJs h6); dsimp only at hy)
              have HK6 := Lib.hid (HK.out.below h6 hsz)
              have HR6 := Lib.hid (HRow.out.below h6 hLs)
              have HP6 := Lib.hid (And.intro (HP.out.1.below h6) (HP.out.2.below h6 hLs))
              have hs6 := Nat.le_trans hsz h6.size
              refine hR.mono ?_
              rintro e W7 (⟨rfl, hJ7, hk7⟩ | ⟨rfl, hJx7⟩)
              · have HK7 := Lib.hid (HK6.out.kp hk7 HR6.out)
                have HR7 := Lib.hid (HR6.out.kp hk7 hs6)
                have HP7 := Lib.hid (And.intro (hk7.rd HP6.out.1 (fun h b o e => (HP6.out.2 h b o e).2)) (HP6.out.2.kp hk7))
                have hs7 := Nat.le_trans hs6 hk7.1
                clear HK HRow HP c2 K1 HK6 HR6 HP6 hR hy
                gi_wp2
                go_roundw
                case rel => exact ⟨m + 1, pre ++ [⟨dn, dv, dh, df⟩], by omega, by go_num, HNX, by simp; omega, hJ7, HK7, HR7, hs7, HP7⟩
                case measure => simp [intOf]; omega
              · gi_wp2
                refine bodyPost_ret (results_none rfl _ _ _) rfl ?_
                exact ⟨⟨_, rfl⟩, .inr ⟨_, trivial, hJx7⟩⟩
          · have hme : m = 1 := by omega
            subst hme
            have hnx : pre = dlistL (vs.take (k + 1)) := by rw [HSN.out, HPre.out]; rfl
            have HNX := Lib.hid hnx
            clear hnx HP HPL HPre
            gi_wp2
            go_roundw
            case rel => exact ⟨k + 1, pre, by omega, by go_num, HNX, by omega, hJs, HK, HRow, hsz⟩
            case measure => simp [intOf]; omega
      · rw [hz, cond_true] at hpc
        subst hpc
        have n0 : (er != 0) = false := by simp [bne, hz]
        have HSN := Lib.hid hsn
        have HPL : Hid (∀ p ∈ ps0, p.length ≤ 1000000) := Lib.hid (by intro p hp; have := total_mem hp; omega)
        clear hsn k2 hrd hz hpt hv
        gi_wp2_with (refine ⟨trivial, ?_⟩; gi_at_call 106; refine (callsIn_wide.2 K2.out).mono ?_; rintro e w3 ⟨a3, c3, rfl, ho3, hb3⟩; simp only)
        have hrd4 := ho3.rd.2
        have HP3 := Lib.hid (And.intro hrd4 (Apart.new hb3 HRow.out hLs hrd4 (own_new ho3)))
        have hJ3 := HJB.out pre _ _ hJs hb3
        have HK3 := Lib.hid (HK.out.below hb3 hsz)
        have HR3 := Lib.hid (HRow.out.below hb3 hLs)
        have hs3 := Nat.le_trans hsz hb3.size
        clear ho3 hrd4 K2 c1 HK HRow hJs hb3
        obtain ⟨wo, hwo⟩ : ∃ wo : World, wo = wr := ⟨_, rfl⟩
        clear hLs hsz
        subst hwo
        gi_loopw [27] (fun j wi => ∃ (m : Nat) (pre : List Dir), m ≤ ps0.length ∧ j = .int .i64 m ∧ Hid (pre = dlistL (vs.take k) ++ (ps0.take m).filterMap saidO) ∧ pre.length ≤ 64 * k + m ∧ J pre wi ∧ Hid (KeepC w.heap.size L w wi) ∧ Hid (RowIn w.heap.size L wi) ∧ w.heap.size ≤ wi.heap.size ∧ Hid (Rd a3 ps0.length 1 (strsV ps0) wi ∧ Apart L a3 ps0.length wi)) (fun j _ => ps0.length - (intOf j).toNat)
        case atStart => exact ⟨0, pre, Nat.zero_le _, rfl, by show _ = _; rw [HPre.out]; simp, by omega, hJ3, HK3, HR3, hs3, HP3⟩
        case round =>
          clear HK3 HR3 HP3 hJ3 hs3 HPre hpl
          obtain ⟨m, pre, hm, rfl, HPre, hpl, hJs, HK, HRow, hsz, HP⟩ := hrel
          have hLs : L < wr.heap.size := by omega
          by_cases hlm : m < ps0.length
          · obtain ⟨b2, o2, hab, hl2, c2⟩ := HP.out.1.str_at (k := m) hlm
            have hpp := HPL.out ps0[m] (List.getElem_mem _)
            have hfm := fm_snoc ps0 m hlm
            have hM1 : MaxL wr := by
              obtain ⟨g1, mm, g2⟩ := HM.out
              exact ⟨by omega, mm, HK.out _ 0 _ g1 hML g2⟩
            generalize ps0[m] = p at *
            have k1 := said_any ⟨p.toArray⟩ wr hM1 (by rw [Lib.size_eq]; exact hpp)
            simp only at k1
            clear hM1
            subst hab
            cases hs : saidO p with
            | none =>
              rw [hs] at k1 hfm
              unfold saidV at k1
              have hnx : pre = dlistL (vs.take k) ++ (ps0.take (m + 1)).filterMap saidO := by rw [HPre.out, hfm]; simp
              have HNX := Lib.hid hnx; have K1 := Lib.hid k1
              clear hnx k1 hfm hs HPre
              gi_wp2_with (refine ⟨trivial, ?_⟩; gi_at_call 169; refine (callsIn_wide.2 K1.out).mono ?_; rintro e w5 ⟨rfl, hb5⟩)
              have h6 := hb5.alloc hb5.size (.cells #[.string ⟨#[]⟩, .string ⟨#[]⟩, .bool false, .string ⟨#[]⟩] 90)
              have hJ6 := HJB.out pre _ _ hJs h6
              have HK6 := Lib.hid (HK.out.below h6 hsz)
              have HR6 := Lib.hid (HRow.out.below h6 hLs)
              have HP6 := Lib.hid (And.intro (HP.out.1.below h6) (HP.out.2.below h6 hLs))
              have hs6 := Nat.le_trans hsz h6.size
              clear HK HRow HP c2 K1
              refine ⟨fun _ h => (by cases h), ?_⟩
              gi_wp2
              go_roundw
              case rel => exact ⟨m + 1, pre, by omega, by go_num, HNX, by omega, hJ6, HK6, HR6, hs6, HP6⟩
              case measure => simp [intOf]; omega
            | some dd =>
              rw [hs] at k1 hfm
              have hnx : pre ++ [dd] = dlistL (vs.take k) ++ (ps0.take (m + 1)).filterMap saidO := by rw [HPre.out, hfm]; simp
              have k2 : Calls Tryz.prog 169 #[.string ⟨p.toArray⟩] wr fun e w' => e = .returned (.tuple #[.agg #[.string ⟨dd.name.toArray⟩, .string ⟨dd.value.toArray⟩, .bool dd.has, .string ⟨dd.for_.toArray⟩], .bool true]) ∧ Below wr.heap.size wr w' := k1
              have HNX := Lib.hid hnx; have K1 := Lib.hid k2
              have hlt64 : pre.length < 64 * vs.length := by omega
              have hy0 := fun W h => HY.out pre dd W h hlt64
              have HY0 := Lib.hid hy0
              clear hnx k1 k2 hfm hs HPre hy0
              obtain ⟨dn, dv, dh, df⟩ := dd
              unfold dirA at HY0
              simp only at K1
              gi_wp2_with (refine ⟨trivial, ?_⟩; gi_at_call 169; refine (callsIn_wide.2 K1.out).mono ?_; rintro e w5 ⟨rfl, hb5⟩; have h6 := hb5.alloc hb5.size (.cells #[.string ⟨dn.toArray⟩, .string ⟨dv.toArray⟩, .bool dh, .string ⟨df.toArray⟩] 90); obtain ⟨fn, tmps, assign, body, hy, hR⟩ := HY0.out _ (HJB.out pre _ _ hJs h6); dsimp only at hy)
              have HK6 := Lib.hid (HK.out.below h6 hsz)
              have HR6 := Lib.hid (HRow.out.below h6 hLs)
              have HP6 := Lib.hid (And.intro (HP.out.1.below h6) (HP.out.2.below h6 hLs))
              have hs6 := Nat.le_trans hsz h6.size
              refine hR.mono ?_
              rintro e W7 (⟨rfl, hJ7, hk7⟩ | ⟨rfl, hJx7⟩)
              · have HK7 := Lib.hid (HK6.out.kp hk7 HR6.out)
                have HR7 := Lib.hid (HR6.out.kp hk7 hs6)
                have HP7 := Lib.hid (And.intro (hk7.rd HP6.out.1 (fun h b o e => (HP6.out.2 h b o e).2)) (HP6.out.2.kp hk7))
                have hs7 := Nat.le_trans hs6 hk7.1
                clear HK HRow HP c2 K1 HK6 HR6 HP6 hR hy
                gi_wp2
                go_roundw
                case rel => exact ⟨m + 1, pre ++ [⟨dn, dv, dh, df⟩], by omega, by go_num, HNX, by simp; omega, hJ7, HK7, HR7, hs7, HP7⟩
                case measure => simp [intOf]; omega
              · gi_wp2
                refine bodyPost_ret (results_none rfl _ _ _) rfl ?_
                exact ⟨⟨_, rfl⟩, .inr ⟨_, trivial, hJx7⟩⟩
          · have hme : m = ps0.length := by omega
            subst hme
            have hnx : pre = dlistL (vs.take (k + 1)) := by rw [HSN.out, HPre.out]; rw [List.take_length]
            have HNX := Lib.hid hnx
            clear hnx HP HPL HPre
            gi_wp2
            go_roundw
            case rel => exact ⟨k + 1, pre, by omega, by go_num, HNX, by omega, hJs, HK, HRow, hsz⟩
            case measure => simp [intOf]; omega
    · have hke : k = vs.length := by omega
      subst hke
      have hnx : pre = dlistL vs := by rw [HPre.out, List.take_length]
      clear HK HRow HPre
      gi_wp2
      go_end0
      exact ⟨⟨_, rfl⟩, .inl ⟨pre, hnx, hJs⟩⟩
end Go.Proofs.YtgmmjhcklhajiaaGreatDoor
/- The walk of directive.List. -/
namespace Go.Proofs.YtgmmjhcklhajiaaGreatDoor
open Go.RowKit Go.Shelf
set_option maxRecDepth 100000
attribute [local go_sem] Oper.semAt_some

theorem app_dirIn {F : Fence} {m : Nat} {ops : Array Oper} {rest : List Oper} {o : Oper} {a : Act} {Q : Exit → Act → World → Prop} (B : Nat) (d : Dir) {w : World} {v : Value} {ds : List Dir} (hown : OwnD B v ds w) (hB : B ≤ w.heap.size) (hn : ds.length ≤ 1000000000)
    (hgd : o.guard = none) (s x : Operand) (ho : o.op = .call { callee := .builtin .append, args := #[s, x], argTypes := #[87, 87] })
    (hs : a.eval s = v) (hx : a.eval x = .slice (some ⟨w.heap.size, 0, none⟩) 1 1)
    (hK : ∀ v' w1, OwnD B v' (ds ++ [d]) w1 → Below B w w1 → Far w w1 v v' → wpListIn F m Tryz.prog ops Q rest (a.put o.dst v') w1) :
    wpListIn F m Tryz.prog ops Q (o :: rest) a (w.alloc (.cells #[.string ⟨d.name.toArray⟩, .string ⟨d.value.toArray⟩, .bool d.has, .string ⟨d.for_.toArray⟩] 90)) := by
  obtain ⟨i0, hi, hz0, hz1, hz2⟩ := info_parts uDir
  refine wpListIn_plain hgd fun K hK' => ?_
  obtain ⟨v', w', hrun, h2, h3, _, h5⟩ := run_append_own_at (P := Tryz.prog) (w.alloc (.cells #[.string ⟨d.name.toArray⟩, .string ⟨d.value.toArray⟩, .bool d.has, .string ⟨d.for_.toArray⟩] 90)) B 87 o.type 90 i0 (.agg #[.string ByteArray.empty, .string ByteArray.empty, .bool false, .string ByteArray.empty]) 4 56 Tryz.underlying87 hi hz0 hz1 hz2 rfl (by decide) v ds.length (dirsV ds) (World.ownsRow.alloc hown _) ⟨w.heap.size, 0, none⟩ 1 1 (dirV d) rfl (by
    intro j u hj
    have e : (⟨w.heap.size, 0, none⟩ : Addr).add j = ⟨w.heap.size, j, none⟩ := by unfold Addr.add; split <;> simp_all
    rw [e, World.cell?_alloc_mark, ← hj]; simp [dirV]) (dirV_one d) (by unfold maxLen; omega) (by omega) (by simp; omega)
  have hfar : Far w w' v v' := far_alloc (o := .cells #[.string ⟨d.name.toArray⟩, .string ⟨d.value.toArray⟩, .bool d.has, .string ⟨d.for_.toArray⟩] 90) ⟨h3, by
    rcases h5 with h | h
    · exact Or.inl h
    · refine Or.inr fun g hg => ?_
      rw [h] at hg
      have := Option.some.inj hg
      omega⟩
  unfold Oper.wpIn
  refine ⟨?_, ?_⟩
  · simp [Oper.about, ho, resolve, Target.leads, Sem.run_pure]
  · rw [Oper.semAt_plain F _ _ (by rw [ho]; intro c hc'; cases hc')]
    simp [execOp, ho, resolve, invoke, builtin, hs, hx, hrun, Result.andThen]
    refine hK' _ _ (hK v' w' ?_ ((Below.refl B w).grown hfar.1 hB (fun k hk => (World.ownsRow.lt hown k hk).1)) hfar)
    unfold OwnD
    rw [List.length_append, dirsV_snoc]
    exact h2

theorem each_any (A : Option Addr) (n c : Nat) (w : World) :
    Calls Tryz.prog 126 #[.slice A n c] w fun e w' => e = .returned (.func (.func 168) #[] #[.pointer (some ⟨w.heap.size, 0, none⟩)]) ∧ w' = w.alloc (.cells #[.slice A n c] 57) := by
  go_enter Tryz.func126, Tryz.ntmps126
  go_wp2
  go_ret
  exact ⟨rfl, rfl⟩

/-- What lies between two rounds: the box, the row that it leads to. -/
def DI (w : World) (pre : List Dir) (W : World) : Prop := ∃ v, W.heap[w.heap.size]? = some (.cells #[v] 87 (0, 0)) ∧ OwnD (w.heap.size + 2) v pre W ∧ Below w.heap.size w W ∧ w.heap.size + 2 ≤ W.heap.size
theorem DI.own {w : World} {B : Nat} (hB : w.heap.size ≤ B) : OwnFrom B (DI w) := by
  rintro pre W W' row ⟨v, h1, h2, h3, h4⟩ hg hr
  have hne : ∀ (b : Nat) (cur : Array Value) (e : TypeId) (fz : Nat × Nat), W.heap[b]? = some (.cells cur e fz) → W'.heap[b]? = some (.cells cur e fz) := by
    intro b cur e fz hb
    rw [hg.block b (heap_lt hb) (fun x => by
      obtain ⟨_, o, ho, hc⟩ := hr b x.symm
      rw [hb] at ho; cases ho; cases hc)]
    exact hb
  refine ⟨v, hne _ _ _ _ h1, ?_, h3.trans ((Below.refl w.heap.size W).grown hg h3.size (fun k hk => ?_)), Nat.le_trans h4 hg.size⟩
  · obtain ⟨g1, g2⟩ := h2
    refine ⟨g1, ?_⟩
    rcases g2 with g2 | ⟨g, cap, cur, hv, hgg, hh, r⟩
    · exact Or.inl g2
    · exact Or.inr ⟨g, cap, cur, hv, hgg, hne _ _ _ _ hh, r⟩
  · exact Nat.le_trans hB (hr k hk).1

set_option maxHeartbeats 8000000 in
theorem dlist_any (A : Option Addr) (n c : Nat) (vs : List (List UInt8)) (w : World) (hM : MaxL w) (hr : Rd A n 1 (strsV vs) w) (hn : n ≤ 10000) (hl : ∀ v ∈ vs, v.length ≤ 1000000) :
    Calls Tryz.prog 71 #[.slice A n c] w (DirsPost w (dlistL vs)) := by
  refine (callsIn_wide (n := 6)).1 ?_
  refine callsIn_of_wp_marks Tryz.func71 rfl trivial ?_ rfl
  simp only [Tryz.ntmps71, List.size_toArray, List.length_cons, List.length_nil, Nat.reduceAdd, Nat.reduceSub, Array.replicate_succ, Array.replicate_zero, List.push_toArray, List.append_toArray, List.nil_append, List.cons_append]
  obtain rfl := hr.str
  obtain ⟨W2, hW2⟩ : ∃ W2, (w.alloc (.cells #[.slice none 0 0] 87)).alloc (.cells #[.slice A vs.length c] 57) = W2 := ⟨_, rfl⟩
  have hB2 : Below w.heap.size w W2 := by rw [← hW2]; exact ((Below.refl _ w).alloc (Nat.le_refl _) _).alloc (by simp) _
  have z2 : W2.heap.size = w.heap.size + 2 := by rw [← hW2]; simp
  have hbox : W2.cell? ⟨w.heap.size + 1, 0, none⟩ = some (.slice A vs.length c) := by
    rw [← hW2]
    have := World.cell?_alloc_mark (w.alloc (.cells #[.slice none 0 0] 87)) #[.slice A vs.length c] 57 (0, 0) 0
    rw [World.size_alloc] at this
    exact this
  have hL2 : W2.heap[w.heap.size]? = some (.cells #[.slice none 0 0] 87 (0, 0)) := by
    rw [← hW2]
    exact (Below.heap_alloc _ _ _ (by simp)).trans (World.alloc_heap_new w _)
  have hLc : W2.cell? ⟨w.heap.size, 0, none⟩ = some (.slice none 0 0) := (of_heap hL2 0).1
  have hrow : RowIn W2.heap.size w.heap.size W2 := by
    rintro g ⟨v, hv, hg⟩
    rw [hLc] at hv
    cases hv
    cases hg
  have hAA : 0 < vs.length → ∀ b o, A = some ⟨b, o, none⟩ → b < W2.heap.size ∧ b ≠ w.heap.size := by
    intro h b o e
    obtain ⟨b', o', e', hl', _⟩ := hr.2 h
    rw [e] at e'
    cases e'
    exact ⟨by omega, by omega⟩
  have hseq : SeqStopsK Fence.wide (6 - 1) Tryz.prog 168 #[.pointer (some ⟨w.heap.size + 1, 0, none⟩)] (fun d : Dir => #[dirA d]) (KpRow w.heap.size) (fun ys => ys = dlistL vs) (fun _ => True) (64 * vs.length) W2 :=
    fun l J Jx W hW hJ _ hY h0 => each1_in w.heap.size (w.heap.size + 1) A vs.length c vs W2 (hM.below hB2) (by omega) (Nat.ne_of_lt hM.1) (by omega) hbox (hr.below hB2) hAA hrow (by omega) hl 5 (by decide) l J Jx W hW hJ hY h0
  have HSEQ := Lib.hid hseq; have HW2 := Lib.hid hW2; have HL2 := Lib.hid hL2
  clear hseq hbox hrow hAA hr hl hM hLc hW2 hL2
  gi_wp2_with (refine ⟨trivial, ?_⟩; gi_at_call 126; refine (callsIn_wide.2 (each_any _ _ _ _)).mono ?_; rintro e w' ⟨rfl, rfl⟩)
  rw [HW2.out]
  refine wpIn_rangeFunc_ownH rfl (by decide) (gf := 168) (lb := #[.pointer (some ⟨w.heap.size + 1, 0, none⟩)]) rfl trivial (enters_of Tryz.func168 (by kernel_rfl) rfl)
    HSEQ.out KpRow.trans (fun W l o o' h1 h2 h3 _ => KpRow.putObj o' h2 h3 (by omega)) (Below.refl _ _) (fun _ => rfl)
    (DI w) (fun _ _ _ => False) (DI.own (by omega)) (fun _ _ _ _ _ hs _ _ => hs) ⟨_, HL2.out, OwnD.nil _ _, hB2, by omega⟩
    (fun x a' W => ∃ Bx, w.heap.size + 1 < Bx ∧ W.heap[Bx]? = some (.cells #[.string ⟨x.name.toArray⟩, .string ⟨x.value.toArray⟩, .bool x.has, .string ⟨x.for_.toArray⟩] 90 (0, 0)) ∧ a' = { tmps := #[.slice A vs.length c, undef, .slice none 0 0, .pointer (some ⟨w.heap.size, 0, none⟩), .pointer (some ⟨Bx, 0, none⟩), .slice A vs.length c, .func (.func 168) #[] #[.pointer (some ⟨w.heap.size + 1, 0, none⟩)], dirA x, undef, undef, undef, undef, undef], defers := [] })
    (fun x a' _ X Y row hs hg hr => by
      obtain ⟨Bx, h1, h2, h3⟩ := hs
      refine ⟨Bx, h1, ?_, h3⟩
      rw [hg.block Bx (heap_lt h2) (fun e => by
        obtain ⟨_, o, ho, hc⟩ := hr Bx e.symm
        rw [h2] at ho; cases ho; cases hc)]
      exact h2)
    ?assign ?body ?done ?stop
  case assign =>
    rintro l pre x W K ⟨v, h1, h2, h3, h4⟩ hK
    obtain ⟨dn, dv, dh, df⟩ := x
    unfold dirA at *
    gi_wp2
    have hal := (Below.refl W.heap.size W).alloc (Nat.le_refl _) (.cells #[.string ⟨dn.toArray⟩, .string ⟨dv.toArray⟩, .bool dh, .string ⟨df.toArray⟩] 90)
    refine hK _ _ ((KeepsOthers.alloc _ _).from _) (KpRow.alloc _ W _ (heap_lt h1)) ⟨v, (hal.block _ (heap_lt h1)).trans h1, h2.below hal, h3.trans (hal.mono h3.size), by simp; omega⟩ ⟨W.heap.size, by omega, World.alloc_heap_new W _, rfl⟩
  case body =>
    rintro l pre x a' W hl _ ⟨v, h1, h2, h3, h4⟩ ⟨Bx, hBx, bX, rfl⟩ hlt
    obtain ⟨dn, dv, dh, df⟩ := x
    unfold dirA
    obtain ⟨e0, e1, _⟩ := of_heap h1 0
    have e0' : W.cell? ⟨w.heap.size, 0, none⟩ = some v := e0
    have x0 := (of_heap bX 0).1
    have x1 := (of_heap bX 1).1
    have x2 := (of_heap bX 2).1
    have x3 := (of_heap bX 3).1
    have y0 : W.cell? ⟨Bx, 0, none⟩ = some (.string ⟨dn.toArray⟩) := x0
    have y1 : W.cell? ⟨Bx, 1, none⟩ = some (.string ⟨dv.toArray⟩) := x1
    have y2 : W.cell? ⟨Bx, 2, none⟩ = some (.bool dh) := x2
    have y3 : W.cell? ⟨Bx, 3, none⟩ = some (.string ⟨df.toArray⟩) := x3
    have hpl : pre.length ≤ 1000000000 := by omega
    obtain ⟨va, vc, rfl⟩ := h2.shape
    have HO := Lib.hid h2; have H1 := Lib.hid h1; have H3 := Lib.hid h3
    clear x0 x1 x2 x3 e0 h1 h2 h3 bX
    gi_wp2_with (gi_at_builtin; refine app_dirIn (w.heap.size + 2) ⟨dn, dv, dh, df⟩ HO.out h4 hpl rfl _ _ rfl rfl rfl ?_; intro v' w1 hO' hb' hfar'; obtain ⟨va', vc', rfl⟩ := hO'.shape; have t0 := (hb'.cell (p := ⟨w.heap.size, 0, none⟩) (by show w.heap.size < _; omega)).trans e0'; have t1 := (hb'.frozen (p := ⟨w.heap.size, 0, none⟩) (by show w.heap.size < _; omega)).trans e1)
    have hll : (pre ++ [(⟨dn, dv, dh, df⟩ : Dir)]).length = pre.length + 1 := by simp
    rw [hll] at hO' hfar'
    clear hll
    have hne : (Value.slice va pre.length vc).ownBlock ≠ some w.heap.size := fun h => by
      have := (World.ownsRow.lt HO.out _ h).1; omega
    have hkp := KpRow.stored hfar' e0' (fun g hg => (World.ownsRow.lt hO' g hg).2) (by omega) hne
    have hko : KeepsFrom W2.heap.size W (w1.setCell ⟨w.heap.size, 0, none⟩ (.slice va' (pre.length + 1) vc')) := by
      refine (KeepsOthers.trans (KeepsOthers.of_grownBy hfar'.1 (fun j o hj ho => ?_)) (KeepsOthers.setCell w1 ⟨w.heap.size, 0, none⟩ _)).from _
      rcases HO.out.2 with ⟨hv, _⟩ | ⟨g, cp, cur, hv, _, hh, _⟩
      · rw [hv] at hj; cases hj
      · rw [hv] at hj; cases hj
        rw [hh] at ho; cases ho; rfl
    have h1' : (w1.setCell ⟨w.heap.size, 0, none⟩ (.slice va' (pre.length + 1) vc')).heap[w.heap.size]? = some (.cells #[.slice va' (pre.length + 1) vc'] 87 (0, 0)) := heap_set ((hb'.block _ (by omega)).trans H1.out)
    have h2' : OwnD (w.heap.size + 2) (.slice va' (pre.length + 1) vc') (pre ++ [(⟨dn, dv, dh, df⟩ : Dir)]) (w1.setCell ⟨w.heap.size, 0, none⟩ (.slice va' (pre.length + 1) vc')) := ownsRow_setCell_below (a := ⟨w.heap.size, 0, none⟩) hO' (by show w.heap.size < w.heap.size + 2; omega) _
    have h3' := (H3.out.trans (hb'.mono (by omega))).setCell (p := ⟨w.heap.size, 0, none⟩) (Nat.le_refl _) (.slice va' (pre.length + 1) vc')
    have h4' : w.heap.size + 2 ≤ (w1.setCell ⟨w.heap.size, 0, none⟩ (.slice va' (pre.length + 1) vc')).heap.size := by have := hb'.size; simp; omega
    exact ⟨hko, hkp, _, h1', h2', h3', h4'⟩
  case done =>
    rintro D ys W hD rfl ⟨v, h1, h2, h3, h4⟩ hK
    obtain ⟨va, vc, rfl⟩ := h2.shape
    have e0 : W.cell? ⟨w.heap.size, 0, none⟩ = some (.slice va (dlistL vs).length vc) := (of_heap h1 0).1
    gi_wp2
    refine ⟨by simp, .inl ⟨_, _, rfl, run_takeDeferred hK, ?_⟩⟩
    exact ⟨_, results_tmp rfl _ _ _, va, vc, rfl, OwnD.base (ownsRow_putObj h2 _ hK rfl) (by omega), h3.trans (belowK_b (w := w) (Nat.le_refl _) W D _ _ (by omega) hK rfl rfl)⟩
  case stop =>
    rintro D c pre W _ _ h _
    exact h.elim
end Go.Proofs.YtgmmjhcklhajiaaGreatDoor
/- The walks of the document's Letter, In, Token. -/
namespace Go.Proofs.YtgmmjhcklhajiaaGreatDoor
open Go.RowKit

set_option maxHeartbeats 1000000 in
theorem rletter_any (c : UInt8) (w : World) :
    Calls Tryz.prog 162 #[.int .u8 c.toNat] w fun e w' => e = .returned (.bool (letterb c)) ∧ w = w' := by
  rw [letter_eq]
  have hu := c.toNat_lt
  generalize c.toNat = n at *
  unfold letterI
  cases h3 : decide (65 ≤ (n : Int)) <;> cases h4 : decide ((n : Int) ≤ 90) <;> cases h1 : decide (97 ≤ (n : Int)) <;> cases h2 : decide ((n : Int) ≤ 122) <;> cases h5 : decide (48 ≤ (n : Int)) <;> cases h6 : decide ((n : Int) ≤ 57)
  all_goals first | (exfalso; simp at h1 h2 h3 h4 h5 h6; omega; done) | skip
  all_goals
    go_enter Tryz.func162, Tryz.ntmps162
    go_wp2
    go_ret
    exact ⟨rfl, rfl⟩

set_option maxHeartbeats 1000000 in
theorem rin_any (c : UInt8) (s : ByteArray) (w : World) (hs : s.size ≤ 1000000) :
    Calls Tryz.prog 163 #[.int .u8 c.toNat, .string s] w fun e w' => e = .returned (.bool (s.data.toList.contains c)) ∧ w = w' := by
  have hY : ∀ k (h : k < s.size), s[k] = c → s.data.toList.contains c = true := by
    intro k h e; rw [List.contains_iff_mem, ← e]; show s.data[k] ∈ _; simp
  have hN : ∀ k, s.size ≤ k → (s.data.toList.take k).contains c = false → s.data.toList.contains c = false := by
    intro k h e; rwa [take_all s k h] at e
  have hS : ∀ k (h : k < s.size), (s.data.toList.take k).contains c = false → ¬ s[k] = c → (s.data.toList.take (k + 1)).contains c = false := by
    intro k h e n
    rw [take_snoc s k h, List.contains_eq_mem] at *
    simp at *; exact ⟨e, fun x => n x.symm⟩
  have HY := Lib.hid hY; have HN := Lib.hid hN; have HS := Lib.hid hS; clear hY hN hS
  generalize s.data.toList.contains c = out at *
  go_enter Tryz.func163, Tryz.ntmps163
  go_wp2
  go_loop [5] (fun i => ∃ k : Nat, k ≤ s.size ∧ i = .int .i64 k ∧ Hid ((s.data.toList.take k).contains c = false)) (fun i => s.size - (intOf i).toNat)
  case atStart => exact ⟨0, Nat.zero_le _, rfl, by show _ = _; simp⟩
  case round =>
    obtain ⟨k, hk, rfl, Hall⟩ := hrel
    by_cases hlt : k < s.size
    · by_cases hc : s[k] = c
      · have hf := HY.out k hlt hc
        have t1 : ((s[k].toNat : Int) == (c.toNat : Int)) = true := by rw [hc]; simp
        have Hf := Lib.hid hf; clear hf hc
        go_wp2
        go_ret
        exact ⟨by rw [Hf.out]; rfl, rfl⟩
      · have hf := HS.out k hlt Hall.out hc
        have t1 : ((s[k].toNat : Int) == (c.toNat : Int)) = false := by
          rw [beq_eq_false_iff_ne]; intro e; exact hc (UInt8.toNat_inj.1 (by omega))
        have Hf := Lib.hid hf; clear hf hc
        go_wp2
        go_round
        case rel => exact ⟨k + 1, by omega, by go_num, Hf⟩
        case measure => simp [intOf]; omega
    · have hf := HN.out k (by omega) Hall.out
      have Hf := Lib.hid hf; clear hf
      go_wp2
      go_ret
      exact ⟨by rw [Hf.out]; rfl, rfl⟩

set_option maxHeartbeats 1000000 in
theorem rtoken_any (s : ByteArray) (w : World) (hs : s.size ≤ 1000000) :
    Calls Tryz.prog 111 #[.string s] w fun e w' => e = .returned (.bool (tokenL s.data.toList)) ∧ w = w' := by
  have hB : ∀ k (h : k < s.size), wordb s[k] = false → tokenL s.data.toList = false := by
    intro k h hk; unfold tokenL; rw [all_bad wordb s k h hk]; rfl
  have hQ : ∀ k, (s.data.toList.take k).all wordb = true → s.size ≤ k → tokenL s.data.toList = !s.data.toList.isEmpty := by
    intro k h hk; rw [take_all s k hk] at h; unfold tokenL; rw [h]; rfl
  have hm : ∀ (c : UInt8) (w : World), Calls Tryz.prog 163 #[.int .u8 c.toNat, .string ⟨#[33, 35, 36, 37, 38, 39, 42, 43, 45, 46, 94, 95, 96, 124, 126]⟩] w fun e w' => e = .returned (.bool (markL.contains c)) ∧ w = w' := fun c w => rin_any c ⟨#[33, 35, 36, 37, 38, 39, 42, 43, 45, 46, 94, 95, 96, 124, 126]⟩ w (by decide)
  have HB := Lib.hid hB; have HQ := Lib.hid hQ; have HM := Lib.hid hm
  clear hB hQ hm
  by_cases h0 : 0 < s.size
  all_goals
    have h0' := h0
    generalize tokenL s.data.toList = out at *
    go_enter Tryz.func111, Tryz.ntmps111
    go_wp2
    go_loop [3] (fun i => ∃ k : Nat, k ≤ s.size ∧ i = .int .i64 k ∧ Hid ((s.data.toList.take k).all wordb = true)) (fun i => s.size - (intOf i).toNat)
    case atStart => exact ⟨0, Nat.zero_le _, rfl, by show _ = _; simp⟩
    case round =>
      obtain ⟨k, hk, rfl, Hall⟩ := hrel
      by_cases hlt : k < s.size
      · have hw : wordb s[k] = (letterb s[k] || markL.contains s[k]) := rfl
        cases c1 : letterb s[k] <;> cases c2 : markL.contains s[k]
        all_goals rw [c1, c2] at hw
        · have hf := HB.out k hlt hw
          have Hf := Lib.hid hf; have C1 := Lib.hid c1; have C2 := Lib.hid c2; clear hf hw c1 c2
          go_wp2_with (first | (go_at_call 162; refine (rletter_any _ _).mono ?_; rintro e w2 ⟨rfl, rfl⟩; rw [C1.out]) | (go_at_call 163; refine (HM.out _ _).mono ?_; rintro e w2 ⟨rfl, rfl⟩; rw [C2.out]))
          go_ret
          exact ⟨by rw [Hf.out]; rfl, rfl⟩
        all_goals
          have hn : (s.data.toList.take (k + 1)).all wordb = true := by rw [all_snoc wordb s k hlt, Hall.out, hw]; rfl
          have Hn := Lib.hid hn; have C1 := Lib.hid c1; have C2 := Lib.hid c2; clear hn hw c1 c2
          go_wp2_with (first | (go_at_call 162; refine (rletter_any _ _).mono ?_; rintro e w2 ⟨rfl, rfl⟩; rw [C1.out]) | (go_at_call 163; refine (HM.out _ _).mono ?_; rintro e w2 ⟨rfl, rfl⟩; rw [C2.out]))
          go_round
          case rel => exact ⟨k + 1, by omega, by go_num, Hn⟩
          case measure => simp [intOf]; omega
      · have hf := HQ.out k Hall.out (by omega)
        have he : s.data.toList.isEmpty = !decide (0 < s.size) := by
          by_cases g : 0 < s.size
          · rw [ne_of_pos s g]; simp [g]
          · rw [nil_of_zero s g]; simp [g]
        rw [he] at hf
        have Hf := Lib.hid hf; clear hf he
        go_wp2
        go_ret
        exact ⟨by rw [Hf.out]; simp [h0'], rfl⟩
end Go.Proofs.YtgmmjhcklhajiaaGreatDoor
/- The walks of the document's Lower, Same. -/
namespace Go.Proofs.YtgmmjhcklhajiaaGreatDoor
open Go.RowKit

theorem uByte : (Tryz.prog.info? 5).map (fun i => (i.zero, i.size, i.bytes)) = some (some (.int .u8 0), 1, 1) := by kernel_rfl
/-- A slice of bytes that the call made: it owns these. -/
def OwnB (B : Nat) (v : Value) (l : List UInt8) (w : World) : Prop := w.ownsRow B 5 1 v l.length (l.map fun c => Value.int .u8 c.toNat)
theorem OwnB.conv {B : Nat} {v : Value} {l : List UInt8} {w : World} (h : OwnB B v l w) : (convert 125 9 v).run Tryz.prog w = .ok (.string ⟨l.toArray⟩) w := by
  rcases h.2 with ⟨rfl, h0⟩ | ⟨g, cap, cur, rfl, hg, hb, hnc, hcm, hcs, htake⟩
  · have hl : l = [] := List.eq_nil_of_length_eq_zero h0
    subst hl
    exact run_convert_bytes_nil (P := Tryz.prog) w 125 5 Tryz.underlying125 Tryz.underlying5 0 0 9 Tryz.underlying9
  · have hc := run_convert_bytes_arg (P := Tryz.prog) w 125 5 Tryz.underlying125 Tryz.underlying5 g 0 l.length cap (l.map fun c => (c.toNat : Int)) (by simp) (by
      intro i hi
      have := h.cells (g := g) rfl i (.int .u8 (l[i].toNat : Int)) (by simp [hi])
      rw [show (⟨g, 0, none⟩ : Addr).add i = ⟨g, i, none⟩ from by unfold Addr.add; split <;> simp_all] at this
      rw [Nat.zero_add, this]; simp [List.getD, hi]) 9 Tryz.underlying9
    rw [hc]
    have e : strOfNums (l.map fun c => (c.toNat : Int)) = ⟨l.toArray⟩ := by
      apply str_eq; rw [strOfNums_data, List.map_map]
      show List.map _ l = l
      conv => rhs; rw [← List.map_id l]
      apply List.map_congr_left; intro c _; simp
    rw [e]

set_option maxRecDepth 100000 in
set_option maxHeartbeats 2000000 in
theorem rlower_wide (s : ByteArray) (w : World) (hs : s.size ≤ 140737488351232) :
    Calls Tryz.prog 113 #[.string s] w fun e w' => e = .returned (.string ⟨(lowerL s.data.toList).toArray⟩) ∧ Below w.heap.size w w' := by
  obtain ⟨i0, hi, hz0, hz1, hz2⟩ := info_parts uByte
  go_enter Tryz.func113, Tryz.ntmps113
  go_wp2
  go_loopw [4, 3] (fun i b wr => ∃ k : Nat, k ≤ s.size ∧ i = .int .i64 k ∧ OwnB w.heap.size b (lowerL (s.data.toList.take k)) wr ∧ Below w.heap.size w wr) (fun i _ _ => s.size - (intOf i).toNat)
  case atStart => exact ⟨0, Nat.zero_le _, rfl, World.ownsRow_nil _ _ _ _, Below.refl _ _⟩
  case round =>
    obtain ⟨k, hk, rfl, hO, hbw⟩ := hrel
    have HO := Lib.hid hO; clear hO
    by_cases hlt : k < s.size
    · have hu := u8_lt s[k]
      obtain ⟨n, hn, hn0, hn255⟩ : ∃ n : Int, ((lowb s[k]).toNat : Int) = n ∧ 0 ≤ n ∧ n < 256 := ⟨_, rfl, by omega, u8_lt _⟩
      have hnext : lowerL (s.data.toList.take (k + 1)) = lowerL (s.data.toList.take k) ++ [lowb s[k]] := by
        rw [take_snoc s k hlt]; unfold lowerL; simp
      have hlen : (lowerL (s.data.toList.take k)).length < 140737488351232 := by unfold lowerL; rw [List.length_map, List.length_take, ← Lib.size_eq]; omega
      have HN := Lib.hid hnext; have Hn := Lib.hid hn; clear hnext hn
      have hown := HO.out
      unfold OwnB at hown
      have HW := Lib.hid hown; clear hown
      have key : ∀ (v' : Value) (w1 : World), w1.ownsRow w.heap.size 5 1 v' ((lowerL (s.data.toList.take k)).length + 1) ((lowerL (s.data.toList.take k)).map (fun c => Value.int .u8 c.toNat) ++ [.int .u8 n]) → OwnB w.heap.size v' (lowerL (s.data.toList.take (k + 1))) w1 := by
        intro v' w1 h; unfold OwnB; rw [HN.out, List.length_append, List.length_singleton, List.map_append]; rw [← Hn.out] at h; exact h
      have HK := Lib.hid key; clear key
      cases c1 : decide (65 ≤ (s[k].toNat : Int)) <;> cases c2 : decide ((s[k].toNat : Int) ≤ 90)
      · exfalso; simp at c1 c2; omega
      · have e : n = (s[k].toNat : Int) := by rw [← Hn.out, lowb_no s[k] (by rw [c1, c2]; rfl)]
        subst e
        go_wp2_with (at_builtin; refine wpList_append_own _ rfl _ _ 125 rfl w.heap.size 5 i0 (.int .u8 0) 1 1 Tryz.underlying125 hi hz0 hz1 hz2 rfl (by decide) _ _ _ rfl (HW.out.alloc _) ⟨wr.heap.size, 0, none⟩ 1 1 [.int .u8 (s[k].toNat : Int)] rfl rfl ?c1 ?c2 ?c3 ?c4 ?c5 ?_)
        case c1 =>
          intro j u hj
          match j, hj with
          | 0, hj => simp at hj; subst hj; simp [Addr.add]
        case c2 => intro u hu; simp at hu; subst hu; rfl
        case c3 => unfold maxLen; omega
        case c4 => omega
        case c5 => have := hbw.size; simp; omega
        intro v' w1 hown' hgrow _
        have hO2 := HK.out v' w1 hown'
        have hb2 : Below w.heap.size w w1 := (hbw.alloc hbw.size _).grown hgrow (by have := hbw.size; simp; omega) (fun j hj => (HW.out.lt j hj).1)
        have HO2 := Lib.hid hO2; clear hO2 hown' hgrow
        go_wp2
        go_roundw
        case rel => exact ⟨k + 1, by omega, by go_num, HO2.out, hb2⟩
        case measure => simp [intOf]; omega
      · have e : n = (s[k].toNat : Int) := by rw [← Hn.out, lowb_no s[k] (by rw [c1, c2]; rfl)]
        subst e
        go_wp2_with (at_builtin; refine wpList_append_own _ rfl _ _ 125 rfl w.heap.size 5 i0 (.int .u8 0) 1 1 Tryz.underlying125 hi hz0 hz1 hz2 rfl (by decide) _ _ _ rfl (HW.out.alloc _) ⟨wr.heap.size, 0, none⟩ 1 1 [.int .u8 (s[k].toNat : Int)] rfl rfl ?c1 ?c2 ?c3 ?c4 ?c5 ?_)
        case c1 =>
          intro j u hj
          match j, hj with
          | 0, hj => simp at hj; subst hj; simp [Addr.add]
        case c2 => intro u hu; simp at hu; subst hu; rfl
        case c3 => unfold maxLen; omega
        case c4 => omega
        case c5 => have := hbw.size; simp; omega
        intro v' w1 hown' hgrow _
        have hO2 := HK.out v' w1 hown'
        have hb2 : Below w.heap.size w w1 := (hbw.alloc hbw.size _).grown hgrow (by have := hbw.size; simp; omega) (fun j hj => (HW.out.lt j hj).1)
        have HO2 := Lib.hid hO2; clear hO2 hown' hgrow
        go_wp2
        go_roundw
        case rel => exact ⟨k + 1, by omega, by go_num, HO2.out, hb2⟩
        case measure => simp [intOf]; omega
      · have e : n = (s[k].toNat : Int) + 32 := by rw [← Hn.out, lowb_yes s[k] c1 c2]
        subst e
        go_wp2_with (at_builtin; refine wpList_append_own _ rfl _ _ 125 rfl w.heap.size 5 i0 (.int .u8 0) 1 1 Tryz.underlying125 hi hz0 hz1 hz2 rfl (by decide) _ _ _ rfl (HW.out.alloc _) ⟨wr.heap.size, 0, none⟩ 1 1 [.int .u8 ((s[k].toNat : Int) + 32)] rfl rfl ?c1 ?c2 ?c3 ?c4 ?c5 ?_)
        case c1 =>
          intro j u hj
          match j, hj with
          | 0, hj => simp at hj; subst hj; simp [Addr.add]
        case c2 => intro u hu; simp at hu; subst hu; rfl
        case c3 => unfold maxLen; omega
        case c4 => omega
        case c5 => have := hbw.size; simp; omega
        intro v' w1 hown' hgrow _
        have hO2 := HK.out v' w1 hown'
        have hb2 : Below w.heap.size w w1 := (hbw.alloc hbw.size _).grown hgrow (by have := hbw.size; simp; omega) (fun j hj => (HW.out.lt j hj).1)
        have HO2 := Lib.hid hO2; clear hO2 hown' hgrow
        go_wp2
        go_roundw
        case rel => exact ⟨k + 1, by omega, by go_num, HO2.out, hb2⟩
        case measure => simp [intOf]; omega
    · have hc := HO.out.conv
      have hke : s.data.toList.take k = s.data.toList := take_all s k (by omega)
      rw [hke] at hc
      go_wp2
      go_ret
      exact ⟨rfl, hbw⟩
theorem rlower_any (s : ByteArray) (w : World) (hs : s.size ≤ 1000000) :
    Calls Tryz.prog 113 #[.string s] w fun e w' => e = .returned (.string ⟨(lowerL s.data.toList).toArray⟩) ∧ Below w.heap.size w w' := rlower_wide s w (by omega)
end Go.Proofs.YtgmmjhcklhajiaaGreatDoor
/- The walks of the document's Quote and Unquote. -/
namespace Go.Proofs.YtgmmjhcklhajiaaGreatDoor
open Go.RowKit

theorem may_any (c : UInt8) (w : World) :
    Calls Tryz.prog 201 #[.int .u8 c.toNat] w fun e w' => e = .returned (.bool (plainb c)) ∧ w = w' := by
  have hlt := c.toNat_lt
  have hp : plainb c = (((c.toNat : Int) == 9) || ((decide (32 ≤ (c.toNat : Int)) && decide ((c.toNat : Int) ≤ 126)) || decide (128 ≤ (c.toNat : Int)))) := by
    unfold plainb; rw [Bool.eq_iff_iff]; simp; omega
  rw [hp]
  clear hp
  generalize c.toNat = n at *
  cases h1 : ((n : Int) == 9) <;> cases h2 : decide (32 ≤ (n : Int)) <;> cases h3 : decide ((n : Int) ≤ 126) <;> cases h4 : decide (128 ≤ (n : Int))
  all_goals
    go_enter Tryz.func201, Tryz.ntmps201
    go_wp2
    go_ret
    exact ⟨rfl, rfl⟩

theorem unqD_34 (c : UInt8) (r : List UInt8) (h : (c.toNat == 34) = true) : unqD (c :: r) = bif r.isEmpty then some [] else none := by
  cases r <;> simp [unqD, h]
theorem unqD_no (c : UInt8) (r : List UInt8) (h : (c.toNat == 34) = false) (h2 : (c.toNat == 92) = false) (hp : plainb c = false) : unqD (c :: r) = none := by
  cases r <;> simp [unqD, h, h2, hp]
theorem unqD_yes (c : UInt8) (r : List UInt8) (h : (c.toNat == 34) = false) (h2 : (c.toNat == 92) = false) (hp : plainb c = true) : unqD (c :: r) = (unqD r).map (c :: ·) := by
  cases r <;> simp [unqD, h, h2, hp]
theorem unqD_92 (c d : UInt8) (r : List UInt8) (h : (c.toNat == 34) = false) (h2 : (c.toNat == 92) = true) : unqD (c :: d :: r) = bif plainb d then (unqD r).map (d :: ·) else none := by
  simp [unqD, h, h2]
theorem unqR_first (s : ByteArray) (h : 0 < s.size) : unqR s.data.toList = bif (s[0].toNat == 34) then unqD (s.data.toList.drop 1) else none := by
  have := drop_cons s 0 h
  rw [List.drop_zero] at this
  rw [this]; simp [unqR]

set_option maxRecDepth 100000 in
set_option maxHeartbeats 2000000 in
theorem runquote_any (s : ByteArray) (w : World) (hs : s.size ≤ 1000000) :
    Calls Tryz.prog 166 #[.string s] w fun e w' => e = .returned (two (unqR s.data.toList)) ∧ w = w' := by
  by_cases hz : 0 < s.size
  · rw [unqR_first s hz]
    have hn : ((s.size : Int) == 0) = false := by rw [beq_eq_false_iff_ne]; omega
    cases h0 : (s[0].toNat == 34)
    · have d0 : ((s[0].toNat : Int) != 34) = true := by simp at h0; simp; omega
      clear h0
      go_enter Tryz.func166, Tryz.ntmps166
      go_wp2
      go_ret2
      exact ⟨rfl, rfl⟩
    · have d0 : ((s[0].toNat : Int) != 34) = false := by simp at h0; simp; omega
      clear h0
      rw [cond_true]
      obtain ⟨out, ho⟩ : ∃ o, unqD (s.data.toList.drop 1) = o := ⟨_, rfl⟩
      rw [ho]
      have HO := Lib.hid ho; clear ho
      go_enter Tryz.func166, Tryz.ntmps166
      go_wp2
      clear d0 hn
      go_loop [5, 4] (fun i o => ∃ (k : Nat) (b : ByteArray), 1 ≤ k ∧ k ≤ s.size ∧ i = .int .i64 k ∧ o = .string b ∧ b.size ≤ k ∧ Hid (out = (unqD (s.data.toList.drop k)).map (b.data.toList ++ ·))) (fun i _ => s.size - (intOf i).toNat)
      case atStart => exact ⟨1, _, Nat.le_refl _, hz, rfl, rfl, by decide, by have := HO.out; show _ = _; rw [this]; simp⟩
      case round =>
        obtain ⟨k, b, hk1, hk, rfl, rfl, hbs, Hout⟩ := hrel
        by_cases hlt : k < s.size
        · have hd := drop_cons s k hlt
          have Hd := Lib.hid hd; clear hd
          cases c1 : ((s[k].toNat : Int) == 34)
          · have d1 := (beq_cast _ 34).trans c1
            have D1 := Lib.hid d1; clear d1
            cases c2 : ((s[k].toNat : Int) == 92)
            · have d2 := (beq_cast _ 92).trans c2
              have D2 := Lib.hid d2; clear d2
              have hke : ((k : Int) == s.size) = false := by simp; omega
              cases hp : plainb s[k]
              · have hf : out = none := by rw [Hout.out, Hd.out, unqD_no _ _ D1.out D2.out hp]; rfl
                have Hf := Lib.hid hf; have Hp := Lib.hid hp; clear hf hp
                go_wp2_with (go_at_call 201; refine (may_any _ _).mono ?_; rintro e w2 ⟨rfl, rfl⟩; rw [Hp.out])
                go_ret2
                exact ⟨by rw [Hf.out]; rfl, rfl⟩
              · have hx := ext_one s k hlt
                have hxs : (s.extract k (k + 1)).size = 1 := by rw [Lib.size_eq, hx]; rfl
                have hf : out = (unqD (s.data.toList.drop (k + 1))).map ((b ++ s.extract k (k + 1)).data.toList ++ ·) := by rw [Hout.out, Hd.out, unqD_yes _ _ D1.out D2.out hp, app_list, hx]; simp [Function.comp_def]
                have Hf := Lib.hid hf; have Hp := Lib.hid hp; clear hf hp hx
                go_wp2_with (go_at_call 201; refine (may_any _ _).mono ?_; rintro e w2 ⟨rfl, rfl⟩; rw [Hp.out])
                go_round
                case rel => exact ⟨k + 1, _, by omega, by omega, by go_num, rfl, by rw [ByteArray.size_append, hxs]; omega, Hf⟩
                case measure => simp [intOf]; omega
            · have d2 := (beq_cast _ 92).trans c2
              have D2 := Lib.hid d2; clear d2
              by_cases hlt2 : k + 1 < s.size
              · have hd2 := drop_cons s (k + 1) hlt2
                have hke : ((k : Int) + 1 == s.size) = false := by simp; omega
                cases hp : plainb s[k + 1]
                · have hf : out = none := by rw [Hout.out, Hd.out, hd2, unqD_92 _ _ _ D1.out D2.out, hp]; rfl
                  have Hf := Lib.hid hf; have Hp := Lib.hid hp; clear hf hp hd2
                  go_wp2_with (go_at_call 201; refine (may_any _ _).mono ?_; rintro e w2 ⟨rfl, rfl⟩; rw [Hp.out])
                  go_ret2
                  exact ⟨by rw [Hf.out]; rfl, rfl⟩
                · have hx := ext_one s (k + 1) hlt2
                  have hxs : (s.extract (k + 1) (k + 1 + 1)).size = 1 := by rw [Lib.size_eq, hx]; rfl
                  have hf : out = (unqD (s.data.toList.drop (k + 1 + 1))).map ((b ++ s.extract (k + 1) (k + 1 + 1)).data.toList ++ ·) := by rw [Hout.out, Hd.out, hd2, unqD_92 _ _ _ D1.out D2.out, hp, app_list, hx]; simp [Function.comp_def]
                  have Hf := Lib.hid hf; have Hp := Lib.hid hp; clear hf hp hx hd2
                  go_wp2_with (go_at_call 201; refine (may_any _ _).mono ?_; rintro e w2 ⟨rfl, rfl⟩; rw [Hp.out])
                  go_round
                  case rel => exact ⟨k + 1 + 1, _, by omega, by omega, by go_num, rfl, by rw [ByteArray.size_append, hxs]; omega, Hf⟩
                  case measure => simp [intOf]; omega
              · have hke : ((k : Int) + 1 == s.size) = true := by simp; omega
                have hf : out = none := by
                  rw [Hout.out, Hd.out, drop_all s (k + 1) (by omega)]; simp [unqD, D1.out]
                have Hf := Lib.hid hf; clear hf
                go_wp2
                go_ret2
                exact ⟨by rw [Hf.out]; rfl, rfl⟩
          · have d1 := (beq_cast _ 34).trans c1
            have D1 := Lib.hid d1; clear d1
            by_cases hlt2 : k + 1 < s.size
            · have hke : ((k : Int) + 1 == s.size) = false := by simp; omega
              have hf : out = none := by
                rw [Hout.out, Hd.out, unqD_34 _ _ D1.out, drop_cons s (k + 1) hlt2]; rfl
              have Hf := Lib.hid hf; clear hf
              go_wp2
              go_ret2
              exact ⟨by rw [Hf.out]; rfl, rfl⟩
            · have hke : ((k : Int) + 1 == s.size) = true := by simp; omega
              have hf : out = some b.data.toList := by
                rw [Hout.out, Hd.out, unqD_34 _ _ D1.out, drop_all s (k + 1) (by omega)]; simp
              have Hf := Lib.hid hf; clear hf
              go_wp2
              go_ret2
              exact ⟨by rw [Hf.out]; unfold two; simp only [str_of]; rfl, rfl⟩
        · have hf : out = none := by rw [Hout.out, drop_all s k (by omega)]; rfl
          have Hf := Lib.hid hf; clear hf
          go_wp2
          go_ret2
          exact ⟨by rw [Hf.out]; rfl, rfl⟩
  · have he : s.data.toList = [] := by apply List.eq_nil_of_length_eq_zero; rw [← Lib.size_eq]; omega
    rw [he]
    have hn : ((s.size : Int) == 0) = true := by rw [beq_iff_eq]; omega
    clear he
    go_enter Tryz.func166, Tryz.ntmps166
    go_wp2
    go_ret2
    exact ⟨rfl, rfl⟩
end Go.Proofs.YtgmmjhcklhajiaaGreatDoor
