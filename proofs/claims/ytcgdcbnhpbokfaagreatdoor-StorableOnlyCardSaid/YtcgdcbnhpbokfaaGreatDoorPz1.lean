/- Joined out of the texts Kit, Tk, Spec1, Rd, FieldSpec, Own, Lower, Same, Values, Trim, SplitSpec, StaysSpec, Join, SumF, Get, DateSpec, DirSpec, TickSpec, SurSpec, FreshSpec, OwnF, Beside, Kept, RLow, Del04, Set04, SetsSpec, SplitFew, HopSpec, WithSpec, FreshLaw, VarySpec, NamesSpec, EtagA, StorSpec, EntV, ResOne, MaxL, Cut, Build, Quote, Token, Said, Split, KpRow, OwnD, Each (wip/tools/dce.py). -/
import Derived.Test.YtcgdcbnhpbokfaaGreatDoorRows
import Derived.WalkKit
import Derived.WalkSpells
import Derived.WalkLawsBesides
import Derived.Deep.DeepCutAuto
import Derived.Deep.QuietTactic
import Derived.BigQuiet
import Derived.Lib.Hide
import Derived.Lib.Strings
import Derived.Deep.RegionHeld3
import Derived.Lib.Join
import Derived.Maps.AppendAt
import Derived.Test.YtcgdcbnhpbokfaaGreatDoorShelf
import Derived.Lib.SlBytesRow
import Derived.Lib.IndexLaws
import Derived.Shelf.Strings.SlTrimAscii
import Derived.Lib.IndexMore
import Derived.Lib.Index
import Derived.Lib.ItoaNum
import Derived.Laws.BytesArg
import Derived.Laws.OwnMore
import Derived.Laws.ResultCell
import Derived.Lib.FrozenHead2
import Derived.Lib.OthersKept
import Derived.Shelf.Strings.BuilderK
import Derived.RangeFuncWrites
import Derived.Laws.Entries
import Derived.RangeFuncNested
import Derived.RangeFuncBound
import Derived.RangeFuncCalls
import Derived.RangeFuncLeaves
import Derived.RangeFuncBox
import Derived.Shelf.Abstract
import Derived.Shelf.RegionOpen
import Derived.OwnWalkIn
import Derived.TacticsInMore
import Derived.LoopNIn
import Derived.LoopIn
/- Small lemmas that all walks of this seat use. -/
namespace Go.Proofs.YtcgdcbnhpbokfaaGreatDoor
open Go.RowKit

/-- One call behind the other: nothing that was there at the first has turned. -/
theorem bt {w w1 w2 : World} (h : Below w.heap.size w w1) (k : Below w1.heap.size w1 w2) : Below w.heap.size w w2 := h.trans (k.mono h.size)
theorem ret_int {k : IntKind} {a b : Int} (h : a = b) : Ending.returned (.int k a) = .returned (.int k b) := by rw [h]

/-! Bytes of a string, from the front and to the end. -/
theorem take_snoc (s : ByteArray) (k : Nat) (h : k < s.size) : s.data.toList.take (k + 1) = s.data.toList.take k ++ [s[k]] := by
  rw [List.take_succ_eq_append_getElem (by simpa using h)]; rfl
theorem drop_cons (s : ByteArray) (k : Nat) (h : k < s.size) : s.data.toList.drop k = s[k] :: s.data.toList.drop (k + 1) := by
  rw [List.drop_eq_getElem_cons (by simpa using h)]; rfl
theorem take_all (s : ByteArray) (k : Nat) (h : s.size ≤ k) : s.data.toList.take k = s.data.toList := List.take_of_length_le (by simpa using h)
theorem drop_all (s : ByteArray) (k : Nat) (h : s.size ≤ k) : s.data.toList.drop k = [] := List.drop_eq_nil_of_le (by simpa using h)
theorem all_snoc (p : UInt8 → Bool) (s : ByteArray) (k : Nat) (h : k < s.size) :
    (s.data.toList.take (k + 1)).all p = ((s.data.toList.take k).all p && p s[k]) := by
  rw [take_snoc s k h, List.all_append]; simp
theorem all_bad (p : UInt8 → Bool) (s : ByteArray) (k : Nat) (h : k < s.size) (hb : p s[k] = false) : s.data.toList.all p = false := by
  rw [List.all_eq_false]
  exact ⟨s[k], by show s.data[k] ∈ _; simp, by simp [hb]⟩
theorem str_of (s : ByteArray) : (⟨s.data.toList.toArray⟩ : ByteArray) = s := Lib.mk_data s
theorem str_eq (s t : ByteArray) (h : s.data.toList = t.data.toList) : s = t := by rw [← str_of s, ← str_of t, h]
theorem app_list (o t : ByteArray) : (o ++ t).data.toList = o.data.toList ++ t.data.toList := by simp
theorem ext_one (s : ByteArray) (k : Nat) (h : k < s.size) : (s.extract k (k + 1)).data.toList = [s[k]] := by
  rw [Lib.extract_data, drop_cons s k h]; simp
theorem str_list {o : ByteArray} {l : List UInt8} (h : o.data.toList = l) : o = ⟨l.toArray⟩ := by rw [← h, str_of]
theorem beq_cast (a b : Nat) : (a == b) = ((a : Int) == (b : Int)) := by rw [Bool.eq_iff_iff]; simp only [beq_iff_eq]; omega
theorem mk_at (t : ByteArray) (l : List UInt8) (ht : t = ⟨l.toArray⟩) (j : Nat) (h : j < t.size) (h' : j < l.length) : t[j] = l[j] := by
  subst ht; show (l.toArray)[j] = _; simp
theorem at_list (s : ByteArray) (j : Nat) (h : j < s.size) : s[j] = s.data.toList[j]'(by simpa using h) := by show s.data[j] = _; simp
theorem ne_of_pos (s : ByteArray) (h : 0 < s.size) : s.data.toList.isEmpty = false := by
  cases hq : s.data.toList with
  | nil => rw [Lib.size_eq, hq] at h; exact absurd h (by simp)
  | cons _ _ => rfl
theorem nil_of_zero (s : ByteArray) (h : ¬ 0 < s.size) : s.data.toList = [] := by
  apply List.eq_nil_of_length_eq_zero; rw [← Lib.size_eq]; omega
theorem heap_new (w : World) (o : Obj) (n : Nat) (h : w.heap.size = n) : (w.alloc o).heap[n]? = some o := by
  subst h; show (w.heap.push o)[w.heap.size]? = _; simp
theorem u8_lt (c : UInt8) : (c.toNat : Int) < 256 := by have := c.toNat_lt; omega
end Go.Proofs.YtcgdcbnhpbokfaaGreatDoor
/- The moves of a walk through a region that draws its order, with their side conditions found by themselves. -/
namespace Go.Proofs.YtcgdcbnhpbokfaaGreatDoor

theorem ps1 {α : Type} (l : List α) (i : Nat) (a : α) : l.toArray.setIfInBounds i a = (l.set i a).toArray := List.setIfInBounds_toArray l i a
theorem ps2 {α : Type} (x : α) (l : List α) (b : α) : (x :: l).set 0 b = b :: l := List.set_cons_zero
theorem ps3 {α : Type} (x : α) (l : List α) (i : Nat) (b : α) : (x :: l).set (i + 1) b = x :: l.set i b := List.set_cons_succ
theorem tkS {P : Program} {md : Region.Mode} {ops : Array Oper} {Q : Exit → Act → World → Prop} {S : World → Prop} (i : Nat) {oi : Oper} {v : Value} {fuel : Nat} {listed : Array Bool} {a : Act} {w : World} (hS : S w)
    (h : wpAnyH P md ops Q S fuel (listed.setIfInBounds i true) (a.put oi.dst v) w)
    (hi : ops[i]? = some oi := by simp only [List.getElem?_toArray, List.getElem?_cons_succ, List.getElem?_cons_zero]; exact rfl)
    (hs : Region.noSelect ops = true := by kernel_rfl) (hf : Region.free md ops listed i = true := by kernel_rfl) (hr : (Region.ready md ops listed).contains i = true := by kernel_rfl)
    (hQ : ∀ c a w, Q (.panic c) (a.put oi.dst v) w → Q (.panic c) a w := by intro _ _ _ h; exact h)
    (hw : Region.wanted oi (yielded ops a.tmps) = true := by rfl)
    (hy : ∀ w, S w → (execOp a.eval oi).run P w = .ok (.value v) w := by intro W hSw; (try dsimp only at hSw); first | (go_simp; done) | (go_simp; with_reducible rfl)) : wpAnyH P md ops Q S (fuel + 1) listed a w :=
  wpAnyH_take hi hs hf hr hQ (Or.inl ⟨hw, hy⟩) hS h
theorem tkO {P : Program} {md : Region.Mode} {ops : Array Oper} {Q : Exit → Act → World → Prop} {S : World → Prop} (i : Nat) {oi : Oper} {fuel : Nat} {listed : Array Bool} {a : Act} {w : World} (hS : S w)
    (h : wpAnyH P md ops Q S fuel (listed.setIfInBounds i true) (a.put oi.dst undef) w)
    (hi : ops[i]? = some oi := by simp only [List.getElem?_toArray, List.getElem?_cons_succ, List.getElem?_cons_zero]; exact rfl)
    (hs : Region.noSelect ops = true := by kernel_rfl) (hf : Region.free md ops listed i = true := by kernel_rfl) (hr : (Region.ready md ops listed).contains i = true := by kernel_rfl)
    (hQ : ∀ c a w, Q (.panic c) (a.put oi.dst undef) w → Q (.panic c) a w := by intro _ _ _ h; exact h)
    (hw : Region.wanted oi (yielded ops a.tmps) = false := by rfl) : wpAnyH P md ops Q S (fuel + 1) listed a w :=
  wpAnyH_take hi hs hf hr hQ (Or.inr ⟨hw, rfl⟩) hS h
end Go.Proofs.YtcgdcbnhpbokfaaGreatDoor
/- What the functions of layer 1 compute, as plain functions on lists of bytes; no program in sight. -/
namespace Go.Proofs.YtcgdcbnhpbokfaaGreatDoor

/-- may a byte be in a quoted text? -/
def plainb (c : UInt8) : Bool := c.toNat == 9 || (decide (32 ≤ c.toNat) && c.toNat != 127)
def esc (c : UInt8) : List UInt8 := bif c.toNat == 34 || c.toNat == 92 then [92, c] else [c]
def quoted (s : ByteArray) : List UInt8 := 34 :: (s.data.toList.flatMap esc ++ [34])
def two (l : Option (List UInt8)) : Value := match l with
  | some l => .tuple #[.string ⟨l.toArray⟩, .int .i64 0]
  | none => .tuple #[.string ⟨#[]⟩, .int .i64 4]
/-- Quote. -/
def quoteO (s : ByteArray) : Option (List UInt8) := bif s.data.toList.all plainb then some (quoted s) else none

/-- What the pieces say, byte by byte: the flag tells whether a byte 92 stands ahead. -/
def unq : Bool → List UInt8 → Option (List UInt8)
  | b, [] => bif b then none else some []
  | b, c :: r =>
    bif !plainb c || (c.toNat == 34 && !b) then none
    else bif c.toNat == 92 && !b then unq true r
    else (unq false r).map (c :: ·)
/-- Unquote: the program's way: both ends first, then what is between them. -/
def unqP (l : List UInt8) : Option (List UInt8) :=
  bif decide (2 ≤ l.length) && (l.head?.getD 0).toNat == 34 && (l.getLast?.getD 0).toNat == 34 then unq false (l.drop 1).dropLast else none
/-- Unquote: the document's way: piece by piece up to the closing mark. -/
def unqD : List UInt8 → Option (List UInt8)
  | [] => none
  | [c] => bif c.toNat == 34 then some [] else none
  | c :: d :: r =>
    bif c.toNat == 34 then none
    else bif c.toNat == 92 then (bif plainb d then (unqD r).map (d :: ·) else none)
    else (bif plainb c then (unqD (d :: r)).map (c :: ·) else none)
def unqR (l : List UInt8) : Option (List UInt8) := match l with
  | [] => none
  | c :: r => bif c.toNat == 34 then unqD r else none

/-- Both ways agree. -/
theorem unqD_eq : ∀ (n : Nat) (l : List UInt8), l.length ≤ n → unqD l = bif decide (1 ≤ l.length) && (l.getLast?.getD 0).toNat == 34 then unq false l.dropLast else none
  | _, [], _ => rfl
  | _, [c], _ => by by_cases h : c.toNat = 34 <;> simp [unqD, h, unq]
  | 0, c :: d :: r, h => by simp at h
  | n + 1, c :: d :: r, h => by
    have ih1 := unqD_eq n (d :: r) (by simp at *; omega)
    have ih2 := unqD_eq n r (by simp at *; omega)
    have hl : (c :: d :: r).getLast? = (d :: r).getLast? := by simp [List.getLast?_cons_cons]
    have hd : (c :: d :: r).dropLast = c :: (d :: r).dropLast := by simp
    rw [hl, hd, unqD]
    cases h34 : (c.toNat == 34)
    · cases h92 : (c.toNat == 92)
      · rw [ih1]
        cases hp : plainb c <;> cases hq : (((d :: r).getLast?.getD 0).toNat == 34)
        all_goals simp [unq, h34, h92, hp]
      · have hc : plainb c = true := by simp at h92; simp [plainb, h92]
        cases r with
        | nil =>
          cases hp : plainb d <;> cases hq : (d.toNat == 34)
          all_goals simp [h92, h34, unq, unqD, hc, hq]
        | cons e r =>
          have hl2 : (d :: e :: r).getLast? = (e :: r).getLast? := by simp [List.getLast?_cons_cons]
          have hd2 : (d :: e :: r).dropLast = d :: (e :: r).dropLast := by simp
          rw [hl2, hd2, ih2]
          cases hp : plainb d <;> cases hq : (((e :: r).getLast?.getD 0).toNat == 34)
          all_goals simp [h92, h34, unq, hc, hp]
    · have h92 : (c.toNat == 92) = false := by simp at h34; simp [h34]
      have hc : plainb c = true := by simp at h34; simp [plainb, h34]
      simp [unq, h34, h92, hc]
theorem unqP_eq (l : List UInt8) : unqP l = unqR l := by
  cases l with
  | nil => rfl
  | cons c r =>
    unfold unqR unqP
    simp only [List.drop_one, List.tail_cons]
    rw [unqD_eq r.length r (Nat.le_refl _)]
    cases r with
    | nil => simp
    | cons d r =>
      have hl : (c :: d :: r).getLast? = (d :: r).getLast? := by simp [List.getLast?_cons_cons]
      rw [hl]
      cases h : (c.toNat == 34) <;> cases hq : (((d :: r).getLast?.getD 0).toNat == 34)
      all_goals simp [h]

/-- Lower. -/
def lowb (c : UInt8) : UInt8 := bif decide (65 ≤ c.toNat) && decide (c.toNat ≤ 90) then c + 32 else c
def lowerL (l : List UInt8) : List UInt8 := l.map lowb
/-- a token's byte -/
def markL : List UInt8 := [33, 35, 36, 37, 38, 39, 42, 43, 45, 46, 94, 95, 96, 124, 126]
def letterb (c : UInt8) : Bool := (decide (97 ≤ c.toNat) && decide (c.toNat ≤ 122)) || (decide (65 ≤ c.toNat) && decide (c.toNat ≤ 90)) || (decide (48 ≤ c.toNat) && decide (c.toNat ≤ 57))
def wordb (c : UInt8) : Bool := letterb c || markL.contains c
def tokenL (l : List UInt8) : Bool := l.all wordb && !l.isEmpty
end Go.Proofs.YtcgdcbnhpbokfaaGreatDoor
/- What a slice that is read holds, wherever it came from: plain words on memory; lists of texts and of fields. -/
namespace Go.Proofs.YtcgdcbnhpbokfaaGreatDoor
open Go.RowKit

/-- n elements, 'size' cells each, lie behind A. -/
def Rd (A : Option Addr) (n size : Nat) (xs : List Value) (w : World) : Prop :=
  xs.length = n * size ∧ (0 < n → ∃ b o, A = some ⟨b, o, none⟩ ∧ b < w.heap.size ∧ ∀ j u, xs[j]? = some u → w.cell? ⟨b, o + j, none⟩ = some u)
theorem Rd.nil {A : Option Addr} {size : Nat} {w : World} : Rd A 0 size [] w := ⟨by simp, fun h => absurd h (by omega)⟩
theorem Rd.below {A : Option Addr} {n size : Nat} {xs : List Value} {w w' : World} (h : Rd A n size xs w) (hb : Below w.heap.size w w') : Rd A n size xs w' := by
  refine ⟨h.1, fun hn => ?_⟩
  obtain ⟨b, o, e, hl, hc⟩ := h.2 hn
  exact ⟨b, o, e, by have := hb.size; omega, fun j u hu => (hb.cell (p := ⟨b, o + j, none⟩) hl).trans (hc j u hu)⟩
theorem Rd.of_own {B : Nat} {e : TypeId} {size : Nat} {a : Option Addr} {m n cap : Nat} {xs : List Value} {w : World} (h : w.ownsRow B e size (.slice a m cap) n xs) : m = n ∧ Rd a n size xs w := by
  obtain ⟨h1, h2⟩ := h
  rcases h2 with ⟨hv, h0⟩ | ⟨g, cp, cur, hv, hg, hh, hn, hm, hs, hx⟩
  · cases hv; exact ⟨h0.symm, h1, fun hn => by omega⟩
  · cases hv
    refine ⟨rfl, h1, fun _ => ⟨g, 0, rfl, ?_, fun j u hu => ?_⟩⟩
    · rcases Nat.lt_or_ge g w.heap.size with h' | h'
      · exact h'
      · simp [Array.getElem?_eq_none h'] at hh
    · have hj : j < m * size := by
        have := (List.getElem?_eq_some_iff.1 hu).1; omega
      have h3 : cur[j]? = some u := by
        rw [← hu, ← hx, List.getElem?_take_of_lt hj, Array.getElem?_toList]
      rw [Nat.zero_add]
      simp only [World.cell?, hh]
      exact h3

/-- Texts as values. -/
def strsV (ls : List (List UInt8)) : List Value := ls.map fun l => Value.string ⟨l.toArray⟩
theorem Rd.str {A : Option Addr} {n : Nat} {ls : List (List UInt8)} {w : World} (h : Rd A n 1 (strsV ls) w) : n = ls.length := by
  have := h.1; unfold strsV at this; simpa using this.symm
theorem Rd.str_at {A : Option Addr} {n k : Nat} {ls : List (List UInt8)} {w : World} (h : Rd A n 1 (strsV ls) w) (hk : k < ls.length) :
    ∃ b o, A = some ⟨b, o, none⟩ ∧ b < w.heap.size ∧ w.cell? ⟨b, o + k, none⟩ = some (.string ⟨(ls[k]).toArray⟩) := by
  obtain ⟨b, o, e, hl, hc⟩ := h.2 (by rw [h.str]; omega)
  exact ⟨b, o, e, hl, hc k _ (by simp [strsV, hk])⟩

/-- A header field. -/
abbrev Fld := List UInt8 × List UInt8
def fldV (f : Fld) : List Value := [.string ⟨f.1.toArray⟩, .string ⟨f.2.toArray⟩]
def fldsV (xs : List Fld) : List Value := xs.flatMap fldV
theorem fldsV_len (xs : List Fld) : (fldsV xs).length = xs.length * 2 := by
  unfold fldsV
  induction xs with
  | nil => rfl
  | cons x r ih => rw [List.flatMap_cons, List.length_append, ih, List.length_cons]; show 2 + _ = _; omega
theorem fldsV_at : ∀ (xs : List Fld) (k : Nat) (hk : k < xs.length), (fldsV xs)[k * 2]? = some (.string ⟨(xs[k]).1.toArray⟩) ∧ (fldsV xs)[k * 2 + 1]? = some (.string ⟨(xs[k]).2.toArray⟩)
  | [], k, hk => by simp at hk
  | x :: r, 0, _ => by unfold fldsV; simp [fldV]
  | x :: r, k + 1, hk => by
    have ih := fldsV_at r k (by simpa using hk)
    unfold fldsV at ih ⊢
    rw [List.flatMap_cons, show (k + 1) * 2 = k * 2 + 2 from by omega]
    have e : ∀ j, (fldV x ++ r.flatMap fldV)[j + 2]? = (r.flatMap fldV)[j]? := fun j => by rw [List.getElem?_append_right (by show 2 ≤ _; omega)]; rfl
    rw [show k * 2 + 2 + 1 = (k * 2 + 1) + 2 from by omega, e, e]
    simpa using ih
theorem Rd.fld {A : Option Addr} {n : Nat} {xs : List Fld} {w : World} (h : Rd A n 2 (fldsV xs) w) : n = xs.length := by
  have := h.1; rw [fldsV_len] at this; omega
theorem Rd.fld_at {A : Option Addr} {n k : Nat} {xs : List Fld} {w : World} (h : Rd A n 2 (fldsV xs) w) (hk : k < xs.length) :
    ∃ b o, A = some ⟨b, o, none⟩ ∧ b < w.heap.size ∧ w.cell? ⟨b, o + k * 2, none⟩ = some (.string ⟨(xs[k]).1.toArray⟩) ∧ w.cell? ⟨b, o + k * 2 + 1, none⟩ = some (.string ⟨(xs[k]).2.toArray⟩) := by
  obtain ⟨b, o, e, hl, hc⟩ := h.2 (by rw [h.fld]; omega)
  have := fldsV_at xs k hk
  exact ⟨b, o, e, hl, hc _ _ this.1, hc _ _ this.2⟩
end Go.Proofs.YtcgdcbnhpbokfaaGreatDoor
/- Fields of a name: plain. -/
namespace Go.Proofs.YtcgdcbnhpbokfaaGreatDoor

def valuesL (xs : List Fld) (name : List UInt8) : List (List UInt8) := (xs.filter fun f => lowerL f.1 == lowerL name).map (·.2)
theorem valuesL_le (xs : List Fld) (name : List UInt8) : (valuesL xs name).length ≤ xs.length := by
  unfold valuesL; rw [List.length_map]; exact List.length_filter_le _ _
theorem valuesL_snoc (xs : List Fld) (f : Fld) (name : List UInt8) : valuesL (xs ++ [f]) name = if lowerL f.1 == lowerL name then valuesL xs name ++ [f.2] else valuesL xs name := by
  unfold valuesL
  rw [List.filter_append]
  cases h : (lowerL f.1 == lowerL name) <;> simp [h]
theorem take_snocL {α : Type} (xs : List α) (k : Nat) (h : k < xs.length) : xs.take (k + 1) = xs.take k ++ [xs[k]] := List.take_succ_eq_append_getElem h
end Go.Proofs.YtcgdcbnhpbokfaaGreatDoor
/- Texts in a slice that the call made; blocks of one cell. -/
namespace Go.Proofs.YtcgdcbnhpbokfaaGreatDoor
open Go.RowKit

theorem uStr : (Tryz.prog.info? 9).map (fun i => (i.zero, i.size, i.bytes)) = some (some (.string ByteArray.empty), 1, 16) := by kernel_rfl
/-- A slice of texts that the call made. -/
def OwnS (B : Nat) (v : Value) (ls : List (List UInt8)) (w : World) : Prop := w.ownsRow B 9 1 v ls.length (ls.map fun l => Value.string ⟨l.toArray⟩)
theorem OwnS.shape {B : Nat} {v : Value} {ls : List (List UInt8)} {w : World} (h : OwnS B v ls w) : ∃ a cap, v = .slice a ls.length cap := by
  rcases h.2 with ⟨rfl, h0⟩ | ⟨g, cap, cur, rfl, _⟩
  · exact ⟨none, 0, by rw [h0]⟩
  · exact ⟨_, _, rfl⟩

theorem own_below {B : Nat} {e : TypeId} {size : Nat} {v : Value} {n : Nat} {xs : List Value} {w w1 : World} (h : w.ownsRow B e size v n xs) (hb : Below w.heap.size w w1) : w1.ownsRow B e size v n xs := by
  obtain ⟨h1, h2⟩ := h
  refine ⟨h1, ?_⟩
  rcases h2 with h2 | ⟨g, cap, cur, hv, hg, hh, r⟩
  · exact Or.inl h2
  · refine Or.inr ⟨g, cap, cur, hv, hg, ?_, r⟩
    have hlt : g < w.heap.size := by
      rcases Nat.lt_or_ge g w.heap.size with h' | h'
      · exact h'
      · simp [Array.getElem?_eq_none h'] at hh
    rw [hb.block g hlt]; exact hh
theorem OwnS.below {B : Nat} {v : Value} {ls : List (List UInt8)} {w w1 : World} (h : OwnS B v ls w) (hb : Below w.heap.size w w1) : OwnS B v ls w1 := own_below h hb
theorem of_heap {w : World} {b : Nat} {cs : Array Value} {T : TypeId} (h : w.heap[b]? = some (.cells cs T (0, 0))) (j : Nat) : w.cell? ⟨b, j, none⟩ = cs[j]? ∧ w.frozen? ⟨b, j, none⟩ = false ∧ b < w.heap.size := by
  refine ⟨by simp [World.cell?, h], by simp [World.frozen?, h], ?_⟩
  rcases Nat.lt_or_ge b w.heap.size with h' | h'
  · exact h'
  · simp [Array.getElem?_eq_none h'] at h
theorem heap_set {w : World} {b : Nat} {v u : Value} {T : TypeId} (h : w.heap[b]? = some (.cells #[u] T (0, 0))) : (w.setCell ⟨b, 0, none⟩ v).heap[b]? = some (.cells #[v] T (0, 0)) := by
  simp [World.setCell, Array.getElem?_modify, h]

theorem heap_set2 {w : World} {b c : Nat} {v u x : Value} {T : TypeId} (hne : c ≠ b) (h : w.heap[b]? = some (.cells #[u] T (0, 0))) : ((w.setCell ⟨b, 0, none⟩ v).setCell ⟨c, 0, none⟩ x).heap[b]? = some (.cells #[v] T (0, 0)) := by
  rw [Below.heap_setCell _ _ _ _ (by show b ≠ c; omega)]; exact heap_set h
theorem OwnS.cell {B n cap : Nat} {a : Option Addr} {ls : List (List UInt8)} {w : World} (h : OwnS B (.slice a n cap) ls w) (j : Nat) (hj : j < ls.length) :
    ∃ g, a = some ⟨g, 0, none⟩ ∧ w.cell? ⟨g, j, none⟩ = some (.string ⟨ls[j].toArray⟩) ∧ w.frozen? ⟨g, j, none⟩ = false := by
  rcases h.2 with ⟨_, h0⟩ | ⟨g, cp, cur, hv, hg, hh, hn, hc, hs, hx⟩
  · omega
  · cases hv
    refine ⟨g, rfl, ?_, by simp [World.frozen?, hh]⟩
    have h1 : cur[j]? = (cur.toList.take (ls.length * 1))[j]? := by
      rw [List.getElem?_take_of_lt (by omega), Array.getElem?_toList]
    have h2 : cur[j]? = some (.string ⟨ls[j].toArray⟩) := by
      rw [h1, hx, List.getElem?_map, List.getElem?_eq_getElem hj]; rfl
    simp only [World.cell?, hh]
    exact h2
theorem OwnS.base {B B' : Nat} {v : Value} {ls : List (List UInt8)} {w : World} (h : OwnS B v ls w) (hB : B' ≤ B) : OwnS B' v ls w := by
  refine ⟨h.1, ?_⟩
  rcases h.2 with h | ⟨g, cp, cur, hv, hg, r⟩
  · exact Or.inl h
  · exact Or.inr ⟨g, cp, cur, hv, by omega, r⟩
theorem OwnS.room {B n cap : Nat} {a : Option Addr} {ls : List (List UInt8)} {w : World} (h : OwnS B (.slice a n cap) ls w) : n = ls.length ∧ n ≤ cap ∧ (0 < n → ∃ g, a = some ⟨g, 0, none⟩ ∧ g < w.heap.size) := by
  rcases h.2 with ⟨hv, h0⟩ | ⟨g, cp, cur, hv, hg, hh, hn, hc, hs, hx⟩
  · cases hv; exact ⟨by omega, by omega, fun h => by omega⟩
  · cases hv
    refine ⟨rfl, hn, fun _ => ⟨g, rfl, ?_⟩⟩
    rcases Nat.lt_or_ge g w.heap.size with h' | h'
    · exact h'
    · simp [Array.getElem?_eq_none h'] at hh

/-! One element more at the end of a row that the call made. -/
/-- What an append leaves alone, and where the new row lies. -/
def Far (w w1 : World) (v v' : Value) : Prop := w.grownBy w1 v.ownBlock ∧ (v'.ownBlock = v.ownBlock ∨ ∀ g, v'.ownBlock = some g → w.heap.size ≤ g)
theorem wp_app_one {P : Program} {o : Oper} {a : Act} {K : Act → World → Prop} {Q : Exit → Act → World → Prop} (s x : Operand) (T E : TypeId)
    (ho : o.op = .call { callee := .builtin .append, args := #[s, x], argTypes := #[T, T] }) {z : Value} {size bytes : Nat} (ht : P.underlying T = some (.slice E)) (hinf : (P.info? E).map (fun i => (i.zero, i.size, i.bytes)) = some (some z, size, bytes))
    (hzs : z.cells.size = size) (hsz : 0 < size) (hbs : bytes ≤ 1000) {w wx : World} (B g : Nat) {v : Value} {n : Nat} {xs : List Value} (news : List Value) (hl : news.length = size) (h1 : ∀ u ∈ news, u.oneCell' = true)
    (hs : a.eval s = v) (hx : a.eval x = .slice (some ⟨g, 0, none⟩) 1 1) (hown : wx.ownsRow B E size v n xs) (hB : B ≤ w.heap.size) (hn : n ≤ 1000000000)
    (hc : ∀ j : Nat, wx.cell? ⟨g, j, none⟩ = news[j]?) (hwx : Below w.heap.size w wx)
    (hK : ∀ v' w1, w1.ownsRow B E size v' (n + 1) (xs ++ news) → Below B w w1 → Far wx w1 v v' → K (a.put o.dst v') w1) :
    o.wp P a wx K Q := by
  obtain ⟨i0, hi, hz0, hz1, hz2⟩ := info_parts hinf
  have hby : (n + 1) * bytes ≤ 1000000001 * 1000 := Nat.mul_le_mul (by omega) hbs
  have hsz2 := hwx.size
  obtain ⟨v', w', hr, h2, h3, _, h5⟩ := run_append_own_at (P := P) wx B T o.type E i0 z size bytes ht hi hz0 hz1 hz2 hzs hsz v n xs hown ⟨g, 0, none⟩ 1 1 news (by omega) (by
    intro j u hj
    have e : (⟨g, 0, none⟩ : Addr).add j = ⟨g, j, none⟩ := by
      unfold Addr.add; split <;> simp_all
    rw [e, hc, hj]) h1 (by unfold maxLen; omega) (by omega) (by omega)
  unfold Oper.wp execOp
  simp only [ho, resolve, invoke, builtin, Sem.run_bind, Sem.run_pure, Result.andThen_ok, List.map_toArray, List.map_cons, List.map_nil, hs, hx, hr]
  refine hK _ _ h2 ?_ ⟨h3, ?_⟩
  · exact (hwx.mono hB).grown h3 (by omega) (fun k hk => (hown.lt k hk).1)
  · rcases h5 with h | h
    · exact Or.inl h
    · refine Or.inr fun g hg => ?_
      rw [h] at hg
      have := Option.some.inj hg
      omega
theorem far_alloc {w w1 : World} {o : Obj} {v v' : Value} (h : Far (w.alloc o) w1 v v') : Far w w1 v v' := by
  obtain ⟨hgrow, hwhere⟩ := h
  have h0 := World.grownBy_alloc w o v.ownBlock
  refine ⟨⟨hgrow.os.trans h0.os, hgrow.tape.trans h0.tape, hgrow.output.trans h0.output, Nat.le_trans h0.size hgrow.size, fun k hk hne => (hgrow.block k (Nat.lt_of_lt_of_le hk h0.size) hne).trans (h0.block k hk hne)⟩, ?_⟩
  rcases hwhere with h | h
  · exact Or.inl h
  · exact Or.inr fun g hg => Nat.le_trans h0.size (h g hg)
theorem app_one {P : Program} {ops : Array Oper} {rest : List Oper} {o : Oper} {a : Act} {Q : Exit → Act → World → Prop} (hgd : o.guard = none) (s x : Operand) (T E : TypeId)
    (ho : o.op = .call { callee := .builtin .append, args := #[s, x], argTypes := #[T, T] }) {z : Value} {size bytes : Nat} (ht : P.underlying T = some (.slice E)) (hinf : (P.info? E).map (fun i => (i.zero, i.size, i.bytes)) = some (some z, size, bytes))
    (hzs : z.cells.size = size) (hsz : 0 < size) (hbs : bytes ≤ 1000) {w : World} (B : Nat) {v : Value} {n : Nat} {xs : List Value} (news : List Value) (hl : news.length = size) (h1 : ∀ u ∈ news, u.oneCell' = true)
    (hs : a.eval s = v) (hx : a.eval x = .slice (some ⟨w.heap.size, 0, none⟩) 1 1) (hown : w.ownsRow B E size v n xs) (hB : B ≤ w.heap.size) (hn : n ≤ 1000000000)
    (hK : ∀ v' w1, w1.ownsRow B E size v' (n + 1) (xs ++ news) → Below B w w1 → Far w w1 v v' → wpList P ops Q rest (a.put o.dst v') w1) :
    wpList P ops Q (o :: rest) a (w.alloc (.cells news.toArray E)) :=
  wpList_plain hgd fun _ hK' => wp_app_one s x T E ho ht hinf hzs hsz hbs B w.heap.size news hl h1 hs hx (hown.alloc _) hB hn (fun j => by rw [World.cell?_alloc_mark]; simp) ((Below.refl _ w).alloc (Nat.le_refl _) _)
    fun v' w1 h2 h3 h4 => hK' _ _ (hK v' w1 h2 h3 (far_alloc h4))
/-- The same in a region that draws its order: the block lies behind a draw. -/
theorem step_app_one {P : Program} {ops : Array Oper} {o : Oper} {a : Act} {K : Act → World → Prop} {Q : Exit → Act → World → Prop} {G : Prop} (hgd : o.guard = none) (s x : Operand) (T E : TypeId)
    (ho : o.op = .call { callee := .builtin .append, args := #[s, x], argTypes := #[T, T] }) {z : Value} {size bytes : Nat} (ht : P.underlying T = some (.slice E)) (hinf : (P.info? E).map (fun i => (i.zero, i.size, i.bytes)) = some (some z, size, bytes))
    (hzs : z.cells.size = size) (hsz : 0 < size) (hbs : bytes ≤ 1000) {w : World} (B : Nat) {v : Value} {n : Nat} {xs : List Value} (news : List Value) (hl : news.length = size) (h1 : ∀ u ∈ news, u.oneCell' = true)
    (hs : a.eval s = v) (hx : a.eval x = .slice (some ⟨w.heap.size, 0, none⟩) 1 1) (hown : w.ownsRow B E size v n xs) (hB : B ≤ w.heap.size) (hn : n ≤ 1000000000)
    (hK : ∀ v' w1, w1.ownsRow B E size v' (n + 1) (xs ++ news) → Below B w w1 → Far w w1 v v' → K (a.put o.dst v') w1) :
    if Region.wanted o (yielded ops a.tmps) = true then Oper.wp P o a (w.alloc (.cells news.toArray E)) K Q else G := by
  have hw : Region.wanted o (yielded ops a.tmps) = true := by simp [Region.wanted, hgd]
  rw [if_pos hw]
  exact wp_app_one s x T E ho ht hinf hzs hsz hbs B w.heap.size news hl h1 hs hx (hown.alloc _) hB hn (fun j => by rw [World.cell?_alloc_mark]; simp) ((Below.refl _ w).alloc (Nat.le_refl _) _)
    fun v' w1 h2 h3 h4 => hK v' w1 h2 h3 (far_alloc h4)
theorem app_str {ops : Array Oper} {rest : List Oper} {o : Oper} {a : Act} {Q : Exit → Act → World → Prop} (B : Nat) (y : List UInt8) {w : World} {v : Value} {ls : List (List UInt8)} (hown : OwnS B v ls w) (hB : B ≤ w.heap.size) (hn : ls.length ≤ 1000000000)
    (hgd : o.guard = none) (s x : Operand) (ho : o.op = .call { callee := .builtin .append, args := #[s, x], argTypes := #[46, 46] })
    (hs : a.eval s = v) (hx : a.eval x = .slice (some ⟨w.heap.size, 0, none⟩) 1 1)
    (hK : ∀ v' w1, OwnS B v' (ls ++ [y]) w1 → Below B w w1 → Far w w1 v v' → wpList Tryz.prog ops Q rest (a.put o.dst v') w1) :
    wpList Tryz.prog ops Q (o :: rest) a (w.alloc (.cells #[.string ⟨y.toArray⟩] 9)) := by
  refine app_one (z := .string ByteArray.empty) (bytes := 16) (n := ls.length) hgd s x 46 9 ho Tryz.underlying46 uStr rfl (by decide) (by decide) B [.string ⟨y.toArray⟩] rfl (by intro u hu; simp at hu; subst hu; rfl) hs hx hown hB hn ?_
  intro v' w1 h1 h2 h3
  refine hK v' w1 ?_ h2 h3
  show World.ownsRow _ _ _ _ _ _ _
  rw [List.length_append, List.length_singleton, List.map_append]
  exact h1
theorem OwnS.drew {B : Nat} {v : Value} {ls : List (List UInt8)} {w : World} (h : OwnS B v ls w) : OwnS B v ls w.drew := h
theorem OwnS.nil (B : Nat) (w : World) : OwnS B (.slice none 0 0) [] w := World.ownsRow_nil _ _ _ _
/-- Texts that are handed back in a slice of the call's own. -/
def TextsPost (w : World) (ls : List (List UInt8)) (e : Ending) (w' : World) : Prop :=
  ∃ a cap, e = .returned (.slice a ls.length cap) ∧ OwnS w.heap.size (.slice a ls.length cap) ls w' ∧ Below w.heap.size w w'
theorem OwnS.rd {B m cap : Nat} {a : Option Addr} {ls : List (List UInt8)} {w : World} (h : OwnS B (.slice a m cap) ls w) : m = ls.length ∧ Rd a ls.length 1 (strsV ls) w := Rd.of_own h
/-- v's row is none of those that lie behind A. -/
def Sep (v : Value) (A : Option Addr) (n : Nat) : Prop := 0 < n → ∀ g o, A = some ⟨g, o, none⟩ → v.ownBlock ≠ some g
theorem Rd.far {A : Option Addr} {n size : Nat} {xs : List Value} {w w1 : World} {v v' : Value} (h : Rd A n size xs w) (hf : Far w w1 v v') (hs : Sep v A n) : Rd A n size xs w1 ∧ Sep v' A n := by
  refine ⟨⟨h.1, fun hn => ?_⟩, fun hn g o e => ?_⟩
  · obtain ⟨b, o, e, hl, hc⟩ := h.2 hn
    have hb := hf.1.block b hl (fun x => hs hn b o e x.symm)
    exact ⟨b, o, e, Nat.lt_of_lt_of_le hl hf.1.size, fun j u hu => (World.cell?_of_block (a := ⟨b, o + j, none⟩) hb).trans (hc j u hu)⟩
  · obtain ⟨b, o', e', hl, _⟩ := h.2 hn
    rw [e'] at e
    cases e
    rcases hf.2 with h2 | h2
    · rw [h2]; exact hs hn _ _ e'
    · intro x; have := h2 _ x; omega
/-- What lies in new blocks is none of an elder row. -/
theorem Sep.new {v : Value} {B n : Nat} {e : TypeId} {m size : Nat} {xs : List Value} {w : World} {A : Option Addr} (h : w.ownsRow B e size v m xs) (ha : ∀ g o, A = some ⟨g, o, none⟩ → w.heap.size ≤ g) : Sep v A n := by
  intro _ g o e x
  have := (h.lt g x).2
  have := ha g o e
  omega
theorem own_new {B : Nat} {e : TypeId} {size : Nat} {a : Option Addr} {m n cap : Nat} {xs : List Value} {w : World} (h : w.ownsRow B e size (.slice a m cap) n xs) : ∀ g o, a = some ⟨g, o, none⟩ → B ≤ g := by
  intro g o e
  exact (h.lt g (by rw [e]; rfl)).1
end Go.Proofs.YtcgdcbnhpbokfaaGreatDoor
/- The walk of text.Lower. -/
namespace Go.Proofs.YtcgdcbnhpbokfaaGreatDoor
open Go.RowKit

/-- The bytes with the first k made small. -/
def lowTo (s : ByteArray) (k : Nat) : ByteArray := ⟨((s.data.toList.take k).map lowb ++ s.data.toList.drop k).toArray⟩
theorem lowTo_size (s : ByteArray) (k : Nat) : (lowTo s k).size = s.size := by
  unfold lowTo; rw [Lib.size_eq, Lib.size_eq]; simp only [List.length_append, List.length_map, List.length_take, List.length_drop]; omega
theorem lowTo_zero (s : ByteArray) : lowTo s 0 = s := by unfold lowTo; simp
theorem lowTo_end (s : ByteArray) : lowTo s s.size = ⟨(lowerL s.data.toList).toArray⟩ := by
  unfold lowTo lowerL; rw [take_all s _ (Nat.le_refl _), drop_all s _ (Nat.le_refl _), List.append_nil]
theorem lowTo_at (s : ByteArray) (k j : Nat) (h : j < s.size) (h' : j < (lowTo s k).size) : (lowTo s k)[j] = if j < k then lowb s[j] else s[j] := by
  have hl : j < ((s.data.toList.take k).map lowb ++ s.data.toList.drop k).length := by
    rw [List.length_append, List.length_map, List.length_take, List.length_drop, ← Lib.size_eq]; omega
  rw [mk_at (lowTo s k) _ rfl j h' hl, at_list s j h]
  by_cases hk : j < k
  · rw [if_pos hk, List.getElem_append_left (by rw [List.length_map, List.length_take, ← Lib.size_eq]; omega)]
    simp only [List.getElem_map, List.getElem_take]
  · rw [if_neg hk, List.getElem_append_right (by rw [List.length_map, List.length_take, ← Lib.size_eq]; omega)]
    simp only [List.getElem_drop]; congr 1
    rw [List.length_map, List.length_take, ← Lib.size_eq]; omega

/-- A row of bytes in block b that may be written. -/
structure RowAt (b : Nat) (s : ByteArray) (w : World) : Prop where
  cells : Lib.Bytes w b 0 s
  free : ∀ i, i < s.size → w.frozen? ⟨b, i, none⟩ = false

theorem RowAt.fresh (s : ByteArray) (cap : Nat) (w : World) :
    RowAt w.heap.size s (w.alloc (.cells (bytesRow s cap) 5 ((bytesRow s cap).size, (bytesRow s cap).size + 1))) := by
  refine ⟨fun i h => ?_, fun i h => ?_⟩
  · rw [Nat.zero_add, World.cell?_alloc_mark, bytesRow_at s cap i h]; rfl
  · rw [World.frozen?_alloc_mark]
    have : s.size ≤ (bytesRow s cap).size := by unfold bytesRow; simp
    simp; omega
theorem RowAt.drew {b : Nat} {s : ByteArray} {w : World} (h : RowAt b s w) : RowAt b s w.drew := ⟨fun i hi => h.cells i hi, fun i hi => h.free i hi⟩
theorem RowAt.same {b k : Nat} {s : ByteArray} {w : World} (h : RowAt b (lowTo s k) w) (hk : k < s.size) (e : lowb s[k] = s[k]) : RowAt b (lowTo s (k + 1)) w := by
  refine ⟨fun i hi => ?_, fun i hi => h.free i (by rw [lowTo_size] at *; exact hi)⟩
  have hi2 : i < s.size := by rw [lowTo_size] at hi; exact hi
  rw [h.cells i (by rw [lowTo_size]; exact hi2), lowTo_at s k i hi2, lowTo_at s (k + 1) i hi2]
  by_cases h1 : i < k
  · rw [if_pos h1, if_pos (by omega)]
  · rw [if_neg h1]
    by_cases h2 : i = k
    · subst h2; rw [if_pos (by omega), e]
    · rw [if_neg (by omega)]
theorem RowAt.put {b k : Nat} {s : ByteArray} {w : World} (h : RowAt b (lowTo s k) w) (hk : k < s.size) {n : Int} (e : ((lowb s[k]).toNat : Int) = n) : RowAt b (lowTo s (k + 1)) (w.setCell ⟨b, k, none⟩ (.int .u8 n)) := by
  refine ⟨fun i hi => ?_, fun i hi => ?_⟩
  · have hi2 : i < s.size := by rw [lowTo_size] at hi; exact hi
    have hc := h.cells i (by rw [lowTo_size]; exact hi2)
    rw [Nat.zero_add] at hc ⊢
    rw [lowTo_at s (k + 1) i hi2]
    by_cases h2 : i = k
    · subst h2
      rw [World.cell?_setCell_same _ _ _ hc, if_pos (by omega), e]
    · rw [World.cell?_setCell_other _ _ _ _ (by intro e; cases e; exact h2 rfl), hc, lowTo_at s k i hi2]
      by_cases h1 : i < k
      · rw [if_pos h1, if_pos (by omega)]
      · rw [if_neg h1, if_neg (by omega)]
  · rw [World.frozen?_setCell]; exact h.free i (by rw [lowTo_size] at *; exact hi)
theorem RowAt.at {b k : Nat} {s : ByteArray} {w : World} (h : RowAt b (lowTo s k) w) (hk : k < s.size) : w.cell? ⟨b, k, none⟩ = some (.int .u8 s[k].toNat) := by
  have hc := h.cells k (by rw [lowTo_size]; exact hk)
  rw [Nat.zero_add] at hc
  rw [hc, lowTo_at s k k hk, if_neg (by omega)]

theorem lowb_no (c : UInt8) (h : (decide (65 ≤ (c.toNat : Int)) && decide ((c.toNat : Int) ≤ 90)) = false) : lowb c = c := by
  have : (decide (65 ≤ c.toNat) && decide (c.toNat ≤ 90)) = false := by rw [← h, Bool.eq_iff_iff]; simp; omega
  unfold lowb; rw [this]; rfl
theorem lowb_yes (c : UInt8) (h1 : decide (65 ≤ (c.toNat : Int)) = true) (h2 : decide ((c.toNat : Int) ≤ 90) = true) : ((lowb c).toNat : Int) = (c.toNat : Int) + 32 := by
  have : (decide (65 ≤ c.toNat) && decide (c.toNat ≤ 90)) = true := by simp at *; omega
  unfold lowb; rw [this, cond_true]
  have : c.toNat ≤ 90 := by simp at h2; omega
  rw [UInt8.toNat_add]; simp; omega

set_option maxRecDepth 100000 in
set_option maxHeartbeats 2000000 in
theorem lower_wide (s : ByteArray) (w : World) (hs : s.size ≤ 140737488351232) :
    Calls Tryz.prog 131 #[.string s] w fun e w' => e = .returned (.string ⟨(lowerL s.data.toList).toArray⟩) ∧ Below w.heap.size w w' := by
  have hcv := run_bytes_of_string (P := Tryz.prog) w 9 157 5 s Tryz.underlying9 Tryz.underlying157 Tryz.underlying5
  have hfr := RowAt.fresh s (grownCap w s.size 0 5) w
  have hbl : Below w.heap.size w (w.alloc (.cells (bytesRow s (grownCap w s.size 0 5)) 5 ((bytesRow s (grownCap w s.size 0 5)).size, (bytesRow s (grownCap w s.size 0 5)).size + 1))) := (Below.refl _ w).alloc (Nat.le_refl _) _
  generalize grownCap w s.size 0 5 = cap at *
  generalize Obj.cells (bytesRow s cap) 5 ((bytesRow s cap).size, (bytesRow s cap).size + 1) = row at *
  have HF := Lib.hid hfr; have HL := Lib.hid hbl; clear hfr hbl
  go_enter Tryz.func131, Tryz.ntmps131
  go_wp2
  clear hcv
  go_loopw [9] (fun i wr => ∃ k : Nat, k ≤ s.size ∧ i = .int .i64 k ∧ RowAt w.heap.size (lowTo s k) wr ∧ Below w.heap.size w wr) (fun i _ => s.size - (intOf i).toNat)
  case atStart => exact ⟨0, Nat.zero_le _, rfl, by rw [lowTo_zero]; exact HF.out.drew, HL.out.drew⟩
  case round =>
    obtain ⟨k, hk, rfl, hR, hbw⟩ := hrel
    have HR := Lib.hid hR; clear hR
    by_cases hlt : k < s.size
    · have hc := HR.out.at hlt
      have hz := HR.out.free k (by rw [lowTo_size]; exact hlt)
      have hu := u8_lt s[k]
      cases c1 : decide (65 ≤ (s[k].toNat : Int)) <;> cases c2 : decide ((s[k].toNat : Int) ≤ 90)
      · exfalso; simp at c1 c2; omega
      · have hl := lowb_no s[k] (by rw [c1, c2]; rfl)
        have Hl := Lib.hid hl; clear hl
        go_wp2
        go_roundw
        case rel => exact ⟨k + 1, by omega, by go_num, HR.out.same hlt Hl.out, hbw⟩
        case measure => simp [intOf]; omega
      · have hl := lowb_no s[k] (by rw [c1, c2]; rfl)
        have Hl := Lib.hid hl; clear hl
        go_wp2
        go_roundw
        case rel => exact ⟨k + 1, by omega, by go_num, HR.out.same hlt Hl.out, hbw⟩
        case measure => simp [intOf]; omega
      · have hl := lowb_yes s[k] c1 c2
        have Hl := Lib.hid hl; clear hl
        have hu2 : (s[k].toNat : Int) ≤ 90 := by simp at c2; omega
        go_wp2
        go_roundw
        case rel => exact ⟨k + 1, by omega, by go_num, HR.out.put hlt Hl.out, hbw.setCell (Nat.le_refl _) _⟩
        case measure => simp [intOf]; omega
    · have hke : k = s.size := by omega
      have hb := Lib.run_convert_whole (P := Tryz.prog) wr 157 5 9 Tryz.underlying157 Tryz.underlying5 Tryz.underlying9 w.heap.size 0 (lowTo s k) HR.out.cells cap
      rw [lowTo_size] at hb
      have hfin : lowTo s k = ⟨(lowerL s.data.toList).toArray⟩ := by rw [hke, lowTo_end]
      have Hf := Lib.hid hfin; clear hfin
      generalize lowTo s k = t at *
      have Hke := Lib.hid hke; clear hke
      go_wp2
      go_ret
      exact ⟨by rw [← Hf.out]; rfl, hbw⟩
theorem lower_any (s : ByteArray) (w : World) (hs : s.size ≤ 1000000) :
    Calls Tryz.prog 131 #[.string s] w fun e w' => e = .returned (.string ⟨(lowerL s.data.toList).toArray⟩) ∧ Below w.heap.size w w' := lower_wide s w (by omega)
end Go.Proofs.YtcgdcbnhpbokfaaGreatDoor
/- The walk of text.Same. -/
namespace Go.Proofs.YtcgdcbnhpbokfaaGreatDoor
open Go.RowKit

set_option maxHeartbeats 1000000 in
theorem tsame_wide (a b : ByteArray) (w : World) (ha : a.size ≤ 140737488351232) (hb : b.size ≤ 140737488351232) :
    Calls Tryz.prog 79 #[.string a, .string b] w fun e w' => e = .returned (.bool (lowerL a.data.toList == lowerL b.data.toList)) ∧ Below w.heap.size w w' := by
  have hB := Below.refl w.heap.size w
  have k1 := fun w => lower_wide a w ha
  have k2 := fun w => lower_wide b w hb
  have t1 : ((⟨(lowerL a.data.toList).toArray⟩ : ByteArray).toList == (⟨(lowerL b.data.toList).toArray⟩ : ByteArray).toList) = (lowerL a.data.toList == lowerL b.data.toList) := by rw [Lib.toList_data, Lib.toList_data]
  generalize lowerL a.data.toList = x at *
  generalize lowerL b.data.toList = y at *
  have K1 := Lib.hid k1; have K2 := Lib.hid k2; have T1 := Lib.hid t1; clear k1 k2 t1
  go_enter Tryz.func79, Tryz.ntmps79
  go_wp2_with fail
  refine (K1.out _).mono ?_
  rintro e w1 ⟨rfl, hb1⟩
  go_wp2_with fail
  refine (K2.out _).mono ?_
  rintro e w2 ⟨rfl, hb2⟩
  go_wp2
  go_ret
  exact ⟨by rw [← T1.out]; rfl, bt hb1 hb2⟩
theorem tsame_any (a b : ByteArray) (w : World) (ha : a.size ≤ 1000000) (hb : b.size ≤ 1000000) :
    Calls Tryz.prog 79 #[.string a, .string b] w fun e w' => e = .returned (.bool (lowerL a.data.toList == lowerL b.data.toList)) ∧ Below w.heap.size w w' := tsame_wide a b w (by omega) (by omega)
end Go.Proofs.YtcgdcbnhpbokfaaGreatDoor
/- The walk of fields.Values. -/
namespace Go.Proofs.YtcgdcbnhpbokfaaGreatDoor
open Go.RowKit

set_option maxRecDepth 100000 in
set_option maxHeartbeats 2000000 in
theorem values_any (A : Option Addr) (n c : Nat) (xs : List Fld) (name : ByteArray) (w : World) (hr : Rd A n 2 (fldsV xs) w) (hn : n ≤ 1000000) (hs : ∀ f ∈ xs, f.1.length ≤ 1000000) (hname : name.size ≤ 1000000) :
    Calls Tryz.prog 28 #[.slice A n c, .string name] w (TextsPost w (valuesL xs name.data.toList)) := by
  have hB := Below.refl w.heap.size w
  obtain rfl := hr.fld
  have HR := Lib.hid hr; have HS := Lib.hid hs; clear hr hs
  go_enter Tryz.func28, Tryz.ntmps28
  go_wp2
  go_loopw [9, 4] (fun i out wr => ∃ k : Nat, k ≤ xs.length ∧ i = .int .i64 k ∧ Hid (OwnS w.heap.size out (valuesL (xs.take k) name.data.toList) wr) ∧ Below w.heap.size w wr) (fun i _ _ => xs.length - (intOf i).toNat)
  case atStart => exact ⟨0, Nat.zero_le _, rfl, Lib.hid (OwnS.nil _ _), hB⟩
  case round =>
    clear hB
    obtain ⟨k, hk, rfl, HO, hbw⟩ := hrel
    by_cases hlt : k < xs.length
    · obtain ⟨b, o, rfl, hl, c1, c2⟩ := (HR.out.below hbw).fld_at (k := k) (by omega)
      have hf1 := HS.out xs[k] (List.getElem_mem _)
      have hsn := valuesL_snoc (xs.take k) xs[k] name.data.toList
      rw [← take_snocL xs k (by omega)] at hsn
      have k1 := fun w => tsame_any ⟨(xs[k]).1.toArray⟩ name w (by rw [Lib.size_eq]; exact hf1) hname
      have hvl := valuesL_le (xs.take k) name.data.toList
      rw [List.length_take] at hvl
      generalize xs[k] = f at *
      obtain ⟨f1, f2⟩ := f
      simp only at c1 c2 k1 hsn
      have Hsn := Lib.hid hsn; have K1 := Lib.hid k1; clear hsn k1 hf1
      cases hq : (lowerL f1 == lowerL name.data.toList)
      · have hnx := Hsn.out
        rw [hq, if_neg (by decide)] at hnx
        have HN : Hid (OwnS w.heap.size u4 (valuesL (xs.take (k + 1)) name.data.toList) wr) := by rw [hnx]; exact HO
        have Hq := Lib.hid hq; clear hnx hq Hsn
        go_wp2_with (go_at_call 79; refine (K1.out _).mono ?_; rintro e w1 ⟨rfl, hb1⟩; rw [Hq.out])
        have hb2 : Below w.heap.size w w1 := (hbw.alloc hbw.size _).trans (hb1.mono (by have := hbw.size; simp; omega))
        go_roundw
        case rel => exact ⟨k + 1, by omega, by go_num, Lib.hid ((HN.out.below ((Below.refl _ wr).alloc (Nat.le_refl _) _)).below hb1), hb2⟩
        case measure => simp [intOf]; omega
      · have hnx := Hsn.out
        rw [hq, if_pos rfl] at hnx
        have Hnx := Lib.hid hnx
        have Hq := Lib.hid hq; clear hnx hq Hsn
        go_wp2_with fail
        refine (K1.out _).mono ?_
        rintro e w1 ⟨rfl, hb1⟩
        rw [Hq.out]
        have d2 := hb1.cell (p := ⟨wr.heap.size, 1, none⟩) (by simp)
        simp [go_sem] at d2
        have hb2 : Below w.heap.size w w1 := (hbw.alloc hbw.size _).trans (hb1.mono (by have := hbw.size; simp; omega))
        have hO1 := (HO.out.below ((Below.refl _ wr).alloc (Nat.le_refl _) _)).below hb1
        have HO1 := Lib.hid hO1; clear hO1 HO
        go_wp2_with (at_builtin; refine app_str w.heap.size f2 HO1.out hb2.size (by omega) rfl _ _ rfl rfl rfl ?_)
        intro v' w2 hO2 hb3 _
        have hb4 := hb2.trans hb3
        have HO2 : Hid (OwnS w.heap.size v' (valuesL (xs.take (k + 1)) name.data.toList) w2) := by rw [Hnx.out]; exact Lib.hid hO2
        clear hO2 hb3 hb2 hb1 d2
        go_wp2
        go_roundw
        case rel => exact ⟨k + 1, by omega, by go_num, HO2, hb4⟩
        case measure => simp [intOf]; omega
    · have hke : k = xs.length := by omega
      subst hke
      have ho := HO.out
      rw [List.take_length] at ho
      obtain ⟨a, cap, rfl⟩ := ho.shape
      have HO1 := Lib.hid ho; clear ho HO
      go_wp2
      go_ret
      exact ⟨a, cap, rfl, HO1.out, hbw⟩
end Go.Proofs.YtcgdcbnhpbokfaaGreatDoor
/- The walk of text.Trim. -/
namespace Go.Proofs.YtcgdcbnhpbokfaaGreatDoor
open Go.RowKit

def blanks : List UInt8 := [32, 9]
def trimL (l : List UInt8) : List UInt8 := Lib.trimS l blanks
theorem trimL_le (l : List UInt8) : (trimL l).length ≤ l.length := by
  have h1 : ∀ m : List UInt8, (Lib.trimLeftS m blanks).length ≤ m.length := fun m => (List.dropWhile_sublist _).length_le
  have h2 : ∀ m : List UInt8, (Lib.trimRightS m blanks).length ≤ m.length := fun m => by
    unfold Lib.trimRightS; rw [List.length_reverse]
    exact Nat.le_trans (List.dropWhile_sublist _).length_le (by rw [List.length_reverse]; exact Nat.le_refl _)
  exact Nat.le_trans (h1 _) (h2 _)

set_option maxHeartbeats 1000000 in
theorem trim_any (s : ByteArray) (w : World) (hs : s.size ≤ 1000000) :
    Calls Tryz.prog 143 #[.string s] w fun e w' => e = .returned (.string ⟨(trimL s.data.toList).toArray⟩) ∧ Below w.heap.size w w' := by
  have hcon := Any.strings_Trim_laid Tryz.lays160 (by kernel_rfl) s ⟨#[32, 9]⟩ w (by omega) (by decide) (ascii_of_all (by decide))
  have HC := Lib.hid hcon; clear hcon
  go_enter Tryz.func143, Tryz.ntmps143
  go_wp2_with (go_at_call 182; refine HC.out.mono ?_; rintro e w' ⟨rfl, hb⟩)
  go_ret
  exact ⟨rfl, hb⟩
end Go.Proofs.YtcgdcbnhpbokfaaGreatDoor
/- What text.Split computes, and the document's way: plain functions on lists of bytes. -/
namespace Go.Proofs.YtcgdcbnhpbokfaaGreatDoor

def addP (ls : List (List UInt8)) (p : List UInt8) : List (List UInt8) := bif p.isEmpty then ls else ls ++ [p]
theorem addP_le (ls : List (List UInt8)) (p : List UInt8) : (addP ls p).length ≤ ls.length + 1 := by
  unfold addP; cases p.isEmpty <;> simp
def splP (sep : UInt8) : Bool → Bool → List UInt8 → List (List UInt8) → List UInt8 → Option (List (List UInt8))
  | o, _, cur, ls, [] => bif o then none else some (addP ls (trimL cur))
  | o, b, cur, ls, c :: r =>
    bif b then splP sep o false (cur ++ [c]) ls r
    else bif o && c.toNat == 92 then splP sep o true (cur ++ [c]) ls r
    else bif c.toNat == 34 then splP sep (!o) false (cur ++ [c]) ls r
    else bif c.toNat == sep.toNat && !o then splP sep o false [] (addP ls (trimL cur)) r
    else splP sep o false (cur ++ [c]) ls r
/-- The pieces and the error's number. -/
def splitE (t : Option (List (List UInt8))) : List (List UInt8) × Int := match t with
  | none => ([], 4)
  | some ls => bif decide (64 < ls.length) then ([], 3) else (ls, 0)
def splitL (sep : UInt8) (l : List UInt8) : List (List UInt8) × Int :=
  bif sep.toNat == 34 || sep.toNat == 92 then ([], 2) else splitE (splP sep false false [] [] l)

/-- The document's way: which bytes stand in quotes; is one open at the end? -/
def fl : Bool → Bool → List UInt8 → List Bool
  | _, _, [] => []
  | o, b, c :: r => (o || c.toNat == 34) :: (bif b then fl o false r else bif o && c.toNat == 92 then fl o true r else bif c.toNat == 34 then fl (!o) false r else fl o false r)
def en : Bool → Bool → List UInt8 → Bool
  | o, _, [] => o
  | o, b, c :: r => bif b then en o false r else bif o && c.toNat == 92 then en o true r else bif c.toNat == 34 then en (!o) false r else en o false r
def spR (sep : UInt8) : List UInt8 → List (List UInt8) → List UInt8 → List Bool → List (List UInt8)
  | cur, ls, c :: r, f :: fs => bif (c.toNat != sep.toNat) || f then spR sep (cur ++ [c]) ls r fs else spR sep [] (addP ls (trimL cur)) r fs
  | cur, ls, _, _ => addP ls (trimL cur)
theorem fl_length : ∀ (l : List UInt8) (o b : Bool), (fl o b l).length = l.length
  | [], _, _ => rfl
  | c :: r, o, b => by
    simp only [fl, List.length_cons]
    congr 1
    cases b <;> cases (o && c.toNat == 92) <;> cases (c.toNat == 34) <;> simp [fl_length r]
theorem spl_eq (sep : UInt8) (hs : (sep.toNat == 34) = false) : ∀ (l : List UInt8) (o b : Bool) (cur : List UInt8) (ls : List (List UInt8)), (b = true → o = true) →
    splP sep o b cur ls l = bif en o b l then none else some (spR sep cur ls l (fl o b l))
  | [], o, b, cur, ls, _ => by simp [splP, en, spR]
  | c :: r, o, b, cur, ls, h => by
    have hne : (c.toNat == 34) = true → (c.toNat != sep.toNat) = true := by
      intro e; simp at e hs ⊢; omega
    have i1 := spl_eq sep hs r
    cases b
    · cases o
      · cases h34 : (c.toNat == 34)
        · cases hc : (c.toNat == sep.toNat)
          · have : (c.toNat != sep.toNat) = true := by simp [bne, hc]
            simp [splP, en, spR, fl, h34, hc, this, i1]
          · have : (c.toNat != sep.toNat) = false := by simp [bne, hc]
            simp [splP, en, spR, fl, h34, hc, this, i1]
        · simp [splP, en, spR, fl, h34, i1]
      · cases h92 : (c.toNat == 92)
        · cases h34 : (c.toNat == 34)
          · simp [splP, en, spR, fl, h34, h92, i1]
          · simp [splP, en, spR, fl, h34, h92, i1]
        · simp [splP, en, spR, fl, h92, i1]
    · have ho := h rfl
      subst ho
      simp [splP, en, spR, fl, i1]
theorem spl_count (sep : UInt8) : ∀ (l : List UInt8) (o b : Bool) (cur : List UInt8) (ls ps : List (List UInt8)), splP sep o b cur ls l = some ps → ps.length ≤ ls.length + l.length + 1
  | [], o, b, cur, ls, ps, h => by
    cases o
    · simp [splP] at h; subst h; have := addP_le ls (trimL cur); simp; omega
    · simp [splP] at h
  | c :: r, o, b, cur, ls, ps, h => by
    have ih := spl_count sep r
    have ha := addP_le ls (trimL cur)
    rw [splP] at h
    rw [List.length_cons]
    cases b
    · simp only [cond_false] at h
      cases hx : (o && c.toNat == 92) <;> rw [hx] at h <;> simp only [cond_true, cond_false] at h
      · cases h34 : (c.toNat == 34) <;> rw [h34] at h <;> simp only [cond_true, cond_false] at h
        · cases hy : (c.toNat == sep.toNat && !o) <;> rw [hy] at h <;> simp only [cond_true, cond_false] at h
          · have := ih _ _ _ _ _ h; omega
          · have := ih _ _ _ _ _ h; omega
        · have := ih _ _ _ _ _ h; omega
      · have := ih _ _ _ _ _ h; omega
    · simp only [cond_true] at h
      have := ih _ _ _ _ _ h; omega
end Go.Proofs.YtcgdcbnhpbokfaaGreatDoor
/- What TextStays and TextKnown want of the plain functions. -/
namespace Go.Proofs.YtcgdcbnhpbokfaaGreatDoor

theorem lowb_twice (c : UInt8) : lowb (lowb c) = lowb c := by
  by_cases h : (decide (65 ≤ c.toNat) && decide (c.toNat ≤ 90)) = true
  · have h1 : lowb c = c + 32 := by unfold lowb; rw [h]; rfl
    have h2 : (c + 32).toNat = c.toNat + 32 := by
      simp at h; rw [UInt8.toNat_add]; simp; omega
    have h3 : (decide (65 ≤ (c + 32).toNat) && decide ((c + 32).toNat ≤ 90)) = false := by simp at h ⊢; omega
    rw [h1]; unfold lowb; rw [h3]; rfl
  · have h' : (decide (65 ≤ c.toNat) && decide (c.toNat ≤ 90)) = false := by simpa using h
    have h1 : lowb c = c := by unfold lowb; rw [h']; rfl
    rw [h1, h1]
theorem lower_twice (l : List UInt8) : lowerL (lowerL l) = lowerL l := by
  unfold lowerL; rw [List.map_map]; apply List.map_congr_left; intro c _; exact lowb_twice c
theorem lower_length (l : List UInt8) : (lowerL l).length = l.length := by unfold lowerL; simp

theorem dw_idem (p : UInt8 → Bool) : ∀ l : List UInt8, (l.dropWhile p).dropWhile p = l.dropWhile p
  | [] => rfl
  | c :: r => by
    cases h : p c
    · rw [List.dropWhile_cons_of_neg (by simp [h]), List.dropWhile_cons_of_neg (by simp [h])]
    · rw [List.dropWhile_cons_of_pos h]; exact dw_idem p r
theorem dw_suffix (p : UInt8 → Bool) (l : List UInt8) : ∃ a, l = a ++ l.dropWhile p := ⟨l.takeWhile p, (List.takeWhile_append_dropWhile).symm⟩
theorem trim_twice (l : List UInt8) : trimL (trimL l) = trimL l := by
  unfold trimL Lib.trimS Lib.trimLeftS Lib.trimRightS
  generalize (fun x => blanks.contains x) = p
  obtain ⟨a, ha⟩ := dw_suffix p (l.reverse.dropWhile p).reverse
  have hr : (l.reverse.dropWhile p).dropWhile p = l.reverse.dropWhile p := dw_idem _ _
  generalize l.reverse.dropWhile p = r at *
  have ht := dw_idem p r.reverse
  generalize r.reverse.dropWhile p = t at *
  have h1 : t.reverse.dropWhile p = t.reverse := by
    have h2 : r = t.reverse ++ a.reverse := by rw [← List.reverse_reverse r, ha]; simp
    cases h3 : t.reverse with
    | nil => rfl
    | cons x y =>
      rw [h3] at h2
      rw [h2] at hr
      cases hx : p x
      · rw [List.dropWhile_cons_of_neg (by simp [hx])]
      · exfalso
        rw [List.cons_append, List.dropWhile_cons_of_pos hx] at hr
        have := congrArg List.length hr
        have h4 : ((y ++ a.reverse).dropWhile p).length ≤ (y ++ a.reverse).length := (List.dropWhile_sublist p).length_le
        rw [List.length_cons] at this
        omega
  rw [h1, List.reverse_reverse, ht]
theorem token_all {l : List UInt8} (h : tokenL l = true) : (∀ c ∈ l, wordb c = true) ∧ l.isEmpty = false := by
  unfold tokenL at h
  rw [Bool.and_eq_true] at h
  refine ⟨fun c hc => List.all_eq_true.1 h.1 c hc, ?_⟩
  cases hl : l.isEmpty
  · rfl
  · rw [hl] at h; exact absurd h.2 (by decide)
/-- What 'pieces' hands back. -/
def piecesL (sep : UInt8) (l : List UInt8) : List UInt8 :=
  bif (splitL sep l).2 == 0 then Lib.join (splitL sep l).1 [124] else [101, 114, 114, 111, 114, 32, 48 + UInt8.ofNat (splitL sep l).2.toNat]
/-- The pieces together are no longer than the text. -/
def total (ls : List (List UInt8)) : Nat := (ls.map List.length).sum
theorem total_addP (ls : List (List UInt8)) (p : List UInt8) : total (addP ls p) = total ls + p.length := by
  unfold addP total
  cases h : p.isEmpty
  · simp
  · simp at h; simp [h]
theorem spl_total (sep : UInt8) : ∀ (l : List UInt8) (o b : Bool) (cur : List UInt8) (ls ps : List (List UInt8)), splP sep o b cur ls l = some ps → total ps ≤ total ls + cur.length + l.length
  | [], o, b, cur, ls, ps, h => by
    cases o
    · simp [splP] at h; subst h; have := trimL_le cur; rw [total_addP]; simp; omega
    · simp [splP] at h
  | c :: r, o, b, cur, ls, ps, h => by
    have ih := spl_total sep r
    have ha := total_addP ls (trimL cur)
    have hb := trimL_le cur
    rw [splP] at h
    rw [List.length_cons]
    cases b
    · simp only [cond_false] at h
      cases hx : (o && c.toNat == 92) <;> rw [hx] at h <;> simp only [cond_true, cond_false] at h
      · cases h34 : (c.toNat == 34) <;> rw [h34] at h <;> simp only [cond_true, cond_false] at h
        · cases hy : (c.toNat == sep.toNat && !o) <;> rw [hy] at h <;> simp only [cond_true, cond_false] at h
          · have := ih _ _ _ _ _ h; simp at this; omega
          · have := ih _ _ _ _ _ h; simp at this; omega
        · have := ih _ _ _ _ _ h; simp at this; omega
      · have := ih _ _ _ _ _ h; simp at this; omega
    · simp only [cond_true] at h
      have := ih _ _ _ _ _ h; simp at this; omega
theorem split_total (sep : UInt8) (l : List UInt8) : total (splitL sep l).1 ≤ l.length := by
  unfold splitL
  cases (sep.toNat == 34 || sep.toNat == 92)
  · cases h : splP sep false false [] [] l with
    | none => simp [splitE, total]
    | some ls =>
      have h1 := spl_total sep l _ _ _ _ _ h
      simp only [splitE, cond_false]
      cases h : decide (64 < ls.length)
      · simpa [total] using h1
      · simp [total]
  · simp [total]
theorem join_le (sep : List UInt8) : ∀ ls : List (List UInt8), (Lib.join ls sep).length ≤ total ls + ls.length * sep.length
  | [] => by simp [Lib.join_nil]
  | [x] => by rw [Lib.join_one]; simp [total]
  | x :: y :: r => by
    have ih := join_le sep (y :: r)
    rw [Lib.join_cons] at ih ⊢
    unfold total at *
    simp [Lib.joinTail, Nat.add_mul] at ih ⊢
    omega
theorem total_mem {ls : List (List UInt8)} {x : List UInt8} (h : x ∈ ls) : x.length ≤ total ls := by
  unfold total
  induction ls with
  | nil => cases h
  | cons y r ih =>
    rw [List.map_cons, List.sum_cons]
    rcases List.mem_cons.1 h with rfl | h
    · omega
    · have := ih h; omega
end Go.Proofs.YtcgdcbnhpbokfaaGreatDoor
/- strings.Join over a slice that the call made. -/
namespace Go.Proofs.YtcgdcbnhpbokfaaGreatDoor
open Go.RowKit

theorem join_any (B cap : Nat) (a : Option Addr) (ls : List (List UInt8)) (sep : ByteArray) (w : World) (h : OwnS B (.slice a ls.length cap) ls w) (h1 : ls.length ≤ 1000000) (h2 : total ls + ls.length * sep.size ≤ 100000000000) :
    Calls Tryz.prog 91 #[.slice a ls.length cap, .string sep] w fun e w' => e = .returned (.string ⟨(Lib.join ls sep.data.toList).toArray⟩) ∧ Below w.heap.size w w' := by
  obtain ⟨_, hcap, hg⟩ := h.room
  cases ls with
  | nil =>
    refine (Tryz.strings_Join_none a cap sep w).mono ?_
    rintro e w' ⟨rfl, rfl⟩
    exact ⟨rfl, Below.refl _ _⟩
  | cons x r =>
    obtain ⟨g, rfl, hgl⟩ := hg (by simp)
    have hmap : ((x :: r).map fun l => (⟨l.toArray⟩ : ByteArray)).map (·.data.toList) = x :: r := by
      rw [List.map_map]; have : ((fun b : ByteArray => b.data.toList) ∘ fun l : List UInt8 => (⟨l.toArray⟩ : ByteArray)) = id := by funext l; simp
      rw [this, List.map_id]
    have hj := join_le sep.data.toList (x :: r)
    rw [← Lib.size_eq] at hj
    have k := Tryz.strings_Join g 0 cap ((x :: r).map fun l => (⟨l.toArray⟩ : ByteArray)) sep w (by
      intro j y hy
      obtain ⟨hj1, hj2⟩ := List.getElem?_eq_some_iff.1 hy
      have hj3 : j < (x :: r).length := by simpa using hj1
      obtain ⟨g', e, hc, _⟩ := h.cell j hj3
      cases e
      rw [Nat.zero_add, hc, ← hj2, List.getElem_map]) hgl (by rw [List.length_map]; omega) (by rw [List.length_map]; omega) (by rw [hmap]; omega)
    rw [hmap, List.length_map] at k
    exact k
end Go.Proofs.YtcgdcbnhpbokfaaGreatDoor
/- All that fields hold: plain. -/
namespace Go.Proofs.YtcgdcbnhpbokfaaGreatDoor
open Go.RowKit

/-- All that the fields hold. -/
def sumF (xs : List Fld) : Nat := (xs.map fun f => f.1.length + f.2.length).sum
theorem sumF_mem {xs : List Fld} {f : Fld} (h : f ∈ xs) : f.1.length + f.2.length ≤ sumF xs := by
  unfold sumF
  induction xs with
  | nil => cases h
  | cons x r ih =>
    rw [List.map_cons, List.sum_cons]
    rcases List.mem_cons.1 h with rfl | h
    · omega
    · have := ih h; omega
theorem sumF_take (xs : List Fld) (k : Nat) : sumF (xs.take k) ≤ sumF xs := by
  unfold sumF
  conv => rhs; rw [← List.take_append_drop k xs, List.map_append, List.sum_append]
  omega
theorem sumF_snoc (xs : List Fld) (k : Nat) (h : k < xs.length) : sumF (xs.take (k + 1)) = sumF (xs.take k) + (xs[k].1.length + xs[k].2.length) := by
  unfold sumF; rw [List.take_succ_eq_append_getElem h, List.map_append, List.sum_append]; rfl
end Go.Proofs.YtcgdcbnhpbokfaaGreatDoor
/- The walk of fields.Get. -/
namespace Go.Proofs.YtcgdcbnhpbokfaaGreatDoor
open Go.RowKit
set_option maxRecDepth 100000

theorem total_values (xs : List Fld) (name : List UInt8) : total (valuesL xs name) ≤ sumF xs := by
  unfold valuesL total sumF
  induction xs with
  | nil => simp
  | cons x r ih =>
    rw [List.filter_cons, List.map_cons, List.sum_cons]
    by_cases h : (lowerL x.1 == lowerL name) = true
    · rw [if_pos h, List.map_cons, List.map_cons, List.sum_cons]; omega
    · rw [if_neg h]; omega
/-- What a name has. -/
def getL (xs : List Fld) (name : List UInt8) : List UInt8 × Bool := (Lib.join (valuesL xs name) [44, 32], decide (0 < (valuesL xs name).length))
def getV (r : List UInt8 × Bool) : Value := .tuple #[.string ⟨r.1.toArray⟩, .bool r.2]
theorem getL_le (xs : List Fld) (name : List UInt8) : (getL xs name).1.length ≤ sumF xs + 2 * xs.length := by
  have h1 := join_le [44, 32] (valuesL xs name)
  have h2 := total_values xs name
  have h3 := valuesL_le xs name
  have h4 : ([44, 32] : List UInt8).length = 2 := rfl
  unfold getL
  rw [h4] at h1
  simp only; omega

set_option maxHeartbeats 2000000 in
theorem get_any (A : Option Addr) (n c : Nat) (xs : List Fld) (name : ByteArray) (w : World) (hr : Rd A n 2 (fldsV xs) w) (hn : n ≤ 1000000) (hs : sumF xs ≤ 1000000) (hname : name.size ≤ 1000000) :
    Calls Tryz.prog 37 #[.slice A n c, .string name] w fun e w' => e = .returned (getV (getL xs name.data.toList)) ∧ Below w.heap.size w w' := by
  have hxn := hr.fld
  have k1 := values_any A n c xs name w hr hn (fun f hf => by have := sumF_mem hf; omega) hname
  have hv := total_values xs name.data.toList
  have hvl := valuesL_le xs name.data.toList
  unfold getL getV
  simp only
  generalize valuesL xs name.data.toList = ls at *
  obtain ⟨J, hJ⟩ : ∃ J, (⟨(Lib.join ls [44, 32]).toArray⟩ : ByteArray) = J := ⟨_, rfl⟩
  rw [hJ]
  have hdec : decide (0 < ls.length) = decide ((ls.length : Int) > 0) := by rw [decide_eq_decide]; omega
  have k2 := fun (a : Option Addr) (c : Nat) (w1 : World) (h : OwnS w.heap.size (.slice a ls.length c) ls w1) => join_any w.heap.size c a ls ⟨#[44, 32]⟩ w1 h (by omega) (by rw [show (⟨#[44, 32]⟩ : ByteArray).size = 2 from rfl]; omega)
  rw [show (⟨#[44, 32]⟩ : ByteArray).data.toList = [44, 32] from rfl, hJ] at k2
  rw [hdec]
  clear hdec hJ
  have K1 := Lib.hid k1; have K2 := Lib.hid k2; clear k1 k2 hv hs hn hname hr hxn hvl
  go_enter Tryz.func37, Tryz.ntmps37
  go_wp2_with fail
  refine K1.out.mono ?_
  rintro e w1 ⟨a1, c1, rfl, ho1, hb1⟩
  have K3 := Lib.hid (K2.out a1 c1 w1 ho1)
  clear K1 K2 ho1
  go_wp2_with fail
  refine K3.out.mono ?_
  rintro e w2 ⟨rfl, hb2⟩
  go_wp2
  go_ret2
  refine ⟨?_, bt hb1 hb2⟩
  simp
end Go.Proofs.YtcgdcbnhpbokfaaGreatDoor
/- Dates: what date.Parse and date.Put compute, in plain words; no program in sight. -/
namespace Go.Proofs.YtcgdcbnhpbokfaaGreatDoor

def dg (c : UInt8) : Bool := decide (48 ≤ c.toNat) && decide (c.toNat ≤ 57)
def dnum : List UInt8 → Int → Int
  | [], a => a
  | c :: r, a => dnum r (10 * a + ((c.toNat : Int) - 48))
/-- So many digits off a text. -/
def dnumL (s : List UInt8) (n : Nat) : Int × List UInt8 × Bool :=
  bif decide (s.length < n) then (0, [], false) else bif (s.take n).all dg then (dnum (s.take n) 0, s.drop n, true) else (0, [], false)
/-- One of some names off a text. -/
def dname (s : List UInt8) (n : Nat) : List (List UInt8) → Nat → Int × List UInt8 × Bool
  | [], _ => (0, [], false)
  | x :: r, i =>
    bif Lib.hasPrefix s (bif decide (0 < n) then x.take n else x) then ((i : Int), s.drop (bif decide (0 < n) then x.take n else x).length, true) else dname s n r (i + 1)
def ddays : List (List UInt8) := [[84, 104, 117, 114, 115, 100, 97, 121], [70, 114, 105, 100, 97, 121], [83, 97, 116, 117, 114, 100, 97, 121], [83, 117, 110, 100, 97, 121], [77, 111, 110, 100, 97, 121], [84, 117, 101, 115, 100, 97, 121], [87, 101, 100, 110, 101, 115, 100, 97, 121]]
def dmonths : List UInt8 := [74, 97, 110, 70, 101, 98, 77, 97, 114, 65, 112, 114, 77, 97, 121, 74, 117, 110, 74, 117, 108, 65, 117, 103, 83, 101, 112, 79, 99, 116, 78, 111, 118, 68, 101, 99]
def dleap (y : Int) : Bool := y % 4 == 0 && y % 100 != 0 || y % 400 == 0
def dlong (y m : Int) : Int := if m = 2 then (if dleap y = true then 29 else 28) else if m = 4 ∨ m = 6 ∨ m = 9 ∨ m = 11 then 30 else 31
def dahead (y : Int) : Int := 365 * (y - 1970) + (y - 1) / 4 - (y - 1) / 100 + (y - 1) / 400 - 492 + 19 - 4
theorem dahead_ge (y : Int) (h : 1970 ≤ y) : 365 * (y - 1970) ≤ dahead y ∧ dahead y ≤ 366 * (y - 1970) := by
  unfold dahead; omega
/-- The year of a day. -/
def dyear : Nat → Int → Int → Int
  | 0, _, y => y
  | f + 1, d, y => if dahead (y + 1) ≤ d then dyear f d (y + 1) else y
/-- Its year, and how many days of it are ahead. -/
def dyearO (d : Int) : Int × Int := (dyear 9000 d (1970 + d / 366), d - dahead (dyear 9000 d (1970 + d / 366)))
/-- A date's numbers. -/
structure Mom where
  wd : Int
  day : Int
  month : Int
  year : Int
  hour : Int
  minute : Int
  second : Int
  two : Bool
def mom0 : Mom := ⟨0, 0, 0, 0, 0, 0, 0, false⟩
def Mom.cs (m : Mom) : List Value := [.int .i64 m.wd, .int .i64 m.day, .int .i64 m.month, .int .i64 m.year, .int .i64 m.hour, .int .i64 m.minute, .int .i64 m.second, .bool m.two]
/-- A piece of a form off a text. -/
def dtake (m : Mom) (c : Nat) (s : List UInt8) : Mom × List UInt8 × Bool :=
  if c = 119 then ({ m with wd := (dname s 3 ddays 0).1 }, (dname s 3 ddays 0).2)
  else if c = 87 then ({ m with wd := (dname s 0 ddays 0).1 }, (dname s 0 ddays 0).2)
  else if c = 68 then ({ m with day := (dnumL s 2).1 }, (dnumL s 2).2)
  else if c = 69 then (if Lib.hasPrefix s [32] = true then ({ m with day := (dnumL (s.drop 1) 1).1 }, (dnumL (s.drop 1) 1).2) else ({ m with day := (dnumL s 2).1 }, (dnumL s 2).2))
  else if c = 109 then
    (if s.length < 3 ∨ Lib.index dmonths (s.take 3) < 0 ∨ Lib.index dmonths (s.take 3) % 3 ≠ 0 then (m, [], false) else ({ m with month := Lib.index dmonths (s.take 3) / 3 + 1 }, s.drop 3, true))
  else if c = 89 then ({ m with year := (dnumL s 4).1 }, (dnumL s 4).2)
  else if c = 121 then ({ m with year := (dnumL s 2).1, two := true }, (dnumL s 2).2)
  else if c = 72 then ({ m with hour := (dnumL s 2).1 }, (dnumL s 2).2)
  else if c = 73 then ({ m with minute := (dnumL s 2).1 }, (dnumL s 2).2)
  else if c = 83 then ({ m with second := (dnumL s 2).1 }, (dnumL s 2).2)
  else if Lib.hasPrefix s [UInt8.ofNat c] = true then (m, s.drop 1, true) else (m, s, false)
/-- The forms. -/
def dform0 : List UInt8 := [119, 44, 32, 68, 32, 109, 32, 89, 32, 72, 58, 73, 58, 83, 32, 71, 77, 84]
def dform1 : List UInt8 := [87, 44, 32, 68, 45, 109, 45, 121, 32, 72, 58, 73, 58, 83, 32, 71, 77, 84]
def dform2 : List UInt8 := [119, 32, 109, 32, 69, 32, 72, 58, 73, 58, 83, 32, 89]
/-- All pieces of a form off a text. -/
def dpieces : List UInt8 → Mom → List UInt8 → Option (Mom × List UInt8)
  | [], m, s => some (m, s)
  | c :: r, m, s => bif (dtake m c.toNat s).2.2 then dpieces r (dtake m c.toNat s).1 (dtake m c.toNat s).2.1 else none
def dnow (now : Int) : Int := (max 0 (min now 253402300799)) / 86400
def dyr (m : Mom) (now : Int) : Int := if m.two = true then ((dyearO (dnow now)).1 + 50) - ((dyearO (dnow now)).1 + 50 - m.year) % 100 else m.year
/-- Days of the months ahead. -/
def dmons (y : Int) : Nat → Int
  | 0 => 0
  | k + 1 => dmons y k + dlong y (k + 1)
/-- The tick of a date. -/
def dtick (m : Mom) (now : Int) : Int × Bool :=
  if dyr m now < 1970 ∨ dyr m now > 9999 ∨ m.day < 1 ∨ m.day > dlong (dyr m now) m.month ∨ m.hour > 23 ∨ m.minute > 59 ∨ m.second > 59 then (0, false)
  else if (dahead (dyr m now) + m.day - 1 + dmons (dyr m now) (m.month.toNat - 1)) % 7 ≠ m.wd then (0, false)
  else ((dahead (dyr m now) + m.day - 1 + dmons (dyr m now) (m.month.toNat - 1)) * 86400 + m.hour * 3600 + m.minute * 60 + m.second, true)
def dparse (s : List UInt8) (now : Int) : List (List UInt8) → Int × Int
  | [] => (0, 4)
  | f :: r => match dpieces f mom0 s with
    | some (m, []) => if (dtick m now).2 = true then ((dtick m now).1, 0) else dparse s now r
    | _ => dparse s now r
/-- A date's tick. -/
def dateP (s : List UInt8) (now : Int) : Int × Int := dparse s now [dform0, dform1, dform2]
theorem t1 : dateP [84, 104, 117, 44, 32, 48, 49, 32, 74, 97, 110, 32, 49, 57, 55, 48, 32, 48, 48, 58, 48, 50, 58, 48, 48, 32, 71, 77, 84] 110 = (120, 0) := by decide +kernel
end Go.Proofs.YtcgdcbnhpbokfaaGreatDoor
/- Directives: the plain law. -/
namespace Go.Proofs.YtcgdcbnhpbokfaaGreatDoor
open Go.RowKit

/-- A directive: its name, its value, has it one, whom it is for. -/
structure Dir where
  name : List UInt8
  value : List UInt8
  has : Bool
  for_ : List UInt8
deriving DecidableEq
def dirV (d : Dir) : List Value := [.string ⟨d.name.toArray⟩, .string ⟨d.value.toArray⟩, .bool d.has, .string ⟨d.for_.toArray⟩]
def dirsV (xs : List Dir) : List Value := xs.flatMap dirV
theorem dirsV_len (xs : List Dir) : (dirsV xs).length = xs.length * 4 := by
  unfold dirsV
  induction xs with
  | nil => rfl
  | cons x r ih => rw [List.flatMap_cons, List.length_append, ih, List.length_cons]; show 4 + _ = _; omega
theorem dirsV_at : ∀ (xs : List Dir) (k : Nat) (hk : k < xs.length), (dirsV xs)[k * 4]? = some (.string ⟨(xs[k]).name.toArray⟩) ∧ (dirsV xs)[k * 4 + 1]? = some (.string ⟨(xs[k]).value.toArray⟩) ∧ (dirsV xs)[k * 4 + 2]? = some (.bool (xs[k]).has) ∧ (dirsV xs)[k * 4 + 3]? = some (.string ⟨(xs[k]).for_.toArray⟩)
  | [], k, hk => by simp at hk
  | x :: r, 0, _ => by unfold dirsV; simp [dirV]
  | x :: r, k + 1, hk => by
    have ih := dirsV_at r k (by simpa using hk)
    unfold dirsV at ih ⊢
    rw [List.flatMap_cons, show (k + 1) * 4 = k * 4 + 4 from by omega]
    have e : ∀ j, (dirV x ++ r.flatMap dirV)[j + 4]? = (r.flatMap dirV)[j]? := fun j => by rw [List.getElem?_append_right (by show 4 ≤ _; omega)]; rfl
    rw [show k * 4 + 4 + 1 = (k * 4 + 1) + 4 from by omega, show k * 4 + 4 + 2 = (k * 4 + 2) + 4 from by omega, show k * 4 + 4 + 3 = (k * 4 + 3) + 4 from by omega, e, e, e, e]
    simpa using ih
theorem Rd.dir {A : Option Addr} {n : Nat} {xs : List Dir} {w : World} (h : Rd A n 4 (dirsV xs) w) : n = xs.length := by
  have := h.1; rw [dirsV_len] at this; omega
theorem Rd.dir_at {A : Option Addr} {n k : Nat} {xs : List Dir} {w : World} (h : Rd A n 4 (dirsV xs) w) (hk : k < xs.length) :
    ∃ b o, A = some ⟨b, o, none⟩ ∧ b < w.heap.size ∧ w.cell? ⟨b, o + k * 4, none⟩ = some (.string ⟨(xs[k]).name.toArray⟩) ∧ w.cell? ⟨b, o + k * 4 + 1, none⟩ = some (.string ⟨(xs[k]).value.toArray⟩) ∧ w.cell? ⟨b, o + k * 4 + 2, none⟩ = some (.bool (xs[k]).has) ∧ w.cell? ⟨b, o + k * 4 + 3, none⟩ = some (.string ⟨(xs[k]).for_.toArray⟩) := by
  obtain ⟨b, o, e, hl, hc⟩ := h.2 (by rw [h.dir]; omega)
  have := dirsV_at xs k hk
  exact ⟨b, o, e, hl, hc _ _ this.1, hc _ _ this.2.1, hc _ _ this.2.2.1, hc _ _ this.2.2.2⟩

/-- What a piece says. -/
def saidO (p : List UInt8) : Option Dir :=
  bif !tokenL (Lib.cut p [61]).1 then none
  else bif (Lib.cut p [61]).2.2 && !tokenL (Lib.cut p [61]).2.1 then (unqP (Lib.cut p [61]).2.1).map fun s => ⟨lowerL (Lib.cut p [61]).1, s, true, []⟩
  else some ⟨lowerL (Lib.cut p [61]).1, (Lib.cut p [61]).2.1, (Lib.cut p [61]).2.2, []⟩
def noStore : List UInt8 := [110, 111, 45, 115, 116, 111, 114, 101]
/-- The pieces of a value. -/
def pcsL (v : List UInt8) : List (List UInt8) := bif (splitL 44 v).2 == 0 then (splitL 44 v).1 else [noStore]
def dirsOf (v : List UInt8) : List Dir := (pcsL v).filterMap saidO
def dlistL (vs : List (List UInt8)) : List Dir := vs.flatMap dirsOf
def findO (xs : List Dir) (nm : List UInt8) : Option Dir := xs.find? fun d => lowerL d.name == lowerL nm
end Go.Proofs.YtcgdcbnhpbokfaaGreatDoor
/- What the functions of layer 2 compute, as plain functions on numbers; no program in sight. -/
namespace Go.Proofs.YtcgdcbnhpbokfaaGreatDoor

/-- The delta of a number. -/
def bnd (n : Int) : Int := if n < 0 then 0 else if 2147483648 < n then 2147483648 else n
theorem bnd_neg {n : Int} (h : n < 0) : bnd n = 0 := by unfold bnd; rw [if_pos h]
theorem bnd_big {n : Int} (h : 2147483648 < n) : bnd n = 2147483648 := by unfold bnd; rw [if_neg (by omega), if_pos h]
theorem bnd_in {n : Int} (h : 0 ≤ n) (k : n ≤ 2147483648) : bnd n = n := by unfold bnd; rw [if_neg (by omega), if_neg (by omega)]
theorem bnd_lo (n : Int) : 0 ≤ bnd n := by unfold bnd; split; (· omega); split <;> omega
theorem bnd_hi (n : Int) : bnd n ≤ 2147483648 := by unfold bnd; split; (· omega); split <;> omega
theorem bnd_bnd (n : Int) : bnd (bnd n) = bnd n := bnd_in (bnd_lo n) (bnd_hi n)
def addB (a b : Int) : Int := bnd (bnd a + bnd b)
def subB (a b : Int) : Int := bnd (bnd a - bnd b)
def since (a b : Int) : Int := bnd (b - a)

/-- digits -/
def dgt (c : UInt8) : Bool := decide (48 ≤ c.toNat) && decide (c.toNat ≤ 57)
def vfrom (a : Nat) (l : List UInt8) : Nat := l.foldl (fun a c => 10 * a + (c.toNat - 48)) a
def val (l : List UInt8) : Nat := vfrom 0 l
theorem vfrom_eq : ∀ (l : List UInt8) (a : Nat), vfrom a l = a * 10 ^ l.length + vfrom 0 l
  | [], a => by simp [vfrom]
  | c :: r, a => by
    have h1 := vfrom_eq r (10 * a + (c.toNat - 48))
    have h2 := vfrom_eq r (10 * 0 + (c.toNat - 48))
    show vfrom (10 * a + (c.toNat - 48)) r = _ + vfrom (10 * 0 + (c.toNat - 48)) r
    rw [h1, h2, List.length_cons, Nat.pow_succ, Nat.add_mul, Nat.mul_zero, Nat.zero_add]
    rw [show a * (10 ^ r.length * 10) = 10 * a * 10 ^ r.length from by rw [Nat.mul_comm 10 a, Nat.mul_assoc, Nat.mul_comm 10]]
    omega
theorem val_snoc (l : List UInt8) (c : UInt8) : val (l ++ [c]) = 10 * val l + (c.toNat - 48) := by unfold val vfrom; simp
theorem val_cons (c : UInt8) (l : List UInt8) : val (c :: l) = (c.toNat - 48) * 10 ^ l.length + val l := by
  show vfrom (10 * 0 + (c.toNat - 48)) l = _
  rw [vfrom_eq]; simp [val]
theorem val_zeros : ∀ (z l : List UInt8), (∀ c ∈ z, c.toNat = 48) → val (z ++ l) = val l
  | [], l, _ => rfl
  | c :: z, l, h => by
    have h0 := h c (by simp)
    rw [List.cons_append, val_cons, h0, val_zeros z l (fun d hd => h d (by simp [hd]))]; simp
theorem val_lt : ∀ (l : List UInt8), l.all dgt = true → val l < 10 ^ l.length
  | [], _ => by simp [val, vfrom]
  | c :: r, h => by
    rw [List.all_cons, Bool.and_eq_true] at h
    have ih := val_lt r h.2
    have hc : c.toNat - 48 ≤ 9 := by have := h.1; simp [dgt] at this; omega
    rw [val_cons, List.length_cons, Nat.pow_succ]
    have : (c.toNat - 48) * 10 ^ r.length ≤ 9 * 10 ^ r.length := Nat.mul_le_mul_right _ hc
    omega
theorem val_ge (c : UInt8) (r : List UInt8) (h : 49 ≤ c.toNat) : 10 ^ r.length ≤ val (c :: r) := by
  rw [val_cons]
  have : 1 * 10 ^ r.length ≤ (c.toNat - 48) * 10 ^ r.length := Nat.mul_le_mul_right _ (by omega)
  omega
theorem bnd_step (v d : Nat) : bnd (10 * bnd (v : Int) + (d : Int)) = bnd ((10 * v + d : Nat) : Int) := by
  unfold bnd; split <;> split <;> split <;> (try split) <;> omega
def deltaOk (l : List UInt8) : Bool := !l.isEmpty && l.all dgt
def deltaV (l : List UInt8) : Value := bif deltaOk l then .tuple #[.int .i64 (bnd (val l)), .bool true] else .tuple #[.int .i64 0, .bool false]
theorem delta_bad (s : ByteArray) (k : Nat) (h : k < s.size) (hb : dgt s[k] = false) : deltaV s.data.toList = .tuple #[.int .i64 0, .bool false] := by
  unfold deltaV deltaOk; rw [all_bad dgt s k h hb, Bool.and_false]; rfl

/-- Behind the noughts ahead: more than ten digits are above the greatest delta. -/
theorem val_split (l : List UInt8) (f : Nat) (h : ∀ c ∈ l.take f, c.toNat = 48) : val l = val (l.drop f) := by
  conv => lhs; rw [← List.take_append_drop f l]
  exact val_zeros _ _ h
theorem all_drop (l : List UInt8) (f : Nat) (h : l.all dgt = true) : (l.drop f).all dgt = true := by
  rw [List.all_eq_true] at *
  exact fun x hx => h x (List.mem_of_mem_drop hx)
theorem delta_long (s : ByteArray) (f : Nat) (hf : f < s.size) (hall : s.data.toList.all dgt = true) (hz : ∀ c ∈ s.data.toList.take f, c.toNat = 48) (hn : ¬ s[f].toNat = 48) (hl : 10 < s.size - f) :
    deltaV s.data.toList = .tuple #[.int .i64 2147483648, .bool true] := by
  have hd := drop_cons s f hf
  have h1 := all_drop _ f hall
  rw [hd, List.all_cons, Bool.and_eq_true] at h1
  have h49 : 49 ≤ s[f].toNat := by have := h1.1; simp [dgt] at this; omega
  have hg := val_ge s[f] (s.data.toList.drop (f + 1)) h49
  rw [← hd, ← val_split _ _ hz, List.length_drop, ← Lib.size_eq] at hg
  have hp : 10 ^ 10 ≤ 10 ^ (s.size - (f + 1)) := Nat.pow_le_pow_right (by decide) (by omega)
  have hb : bnd (val s.data.toList) = 2147483648 := bnd_big (by have : (10 : Nat) ^ 10 = 10000000000 := rfl; omega)
  have hne := ne_of_pos s (by omega)
  unfold deltaV deltaOk; rw [hall, hne, hb]; rfl
theorem delta_short (s : ByteArray) (f : Nat) (h0 : 0 < s.size) (hall : s.data.toList.all dgt = true) (hz : ∀ c ∈ s.data.toList.take f, c.toNat = 48) :
    deltaV s.data.toList = .tuple #[.int .i64 (bnd (val (s.data.toList.drop f))), .bool true] := by
  have hne := ne_of_pos s (by omega)
  unfold deltaV deltaOk; rw [hall, hne, ← val_split _ _ hz]; rfl

def putS (n : Int) : ByteArray := ⟨(Lib.decDigits (bnd n).toNat).toArray⟩
end Go.Proofs.YtcgdcbnhpbokfaaGreatDoor
/- What surctl computes, as plain functions; pieces of pieces. -/
namespace Go.Proofs.YtcgdcbnhpbokfaaGreatDoor

/-! Bytes that hold no separator outside quotes. -/
def stepQ (c : UInt8) (s : Bool × Bool) (x : UInt8) : Option (Bool × Bool) :=
  bif s.2 then some (s.1, false) else bif s.1 && x.toNat == 92 then some (s.1, true) else bif x.toNat == 34 then some (!s.1, false) else bif x.toNat == c.toNat && !s.1 then none else some (s.1, false)
def runQ (c : UInt8) : Bool × Bool → List UInt8 → Option (Bool × Bool)
  | s, [] => some s
  | s, x :: r => match stepQ c s x with
    | none => none
    | some t => runQ c t r
theorem runQ_app (c : UInt8) : ∀ (a b : List UInt8) (s : Bool × Bool), runQ c s (a ++ b) = (runQ c s a).bind fun t => runQ c t b
  | [], b, s => rfl
  | x :: r, b, s => by
    rw [List.cons_append, runQ, runQ]
    cases stepQ c s x with
    | none => rfl
    | some t => exact runQ_app c r b t
theorem step_inv {c x : UInt8} {s t : Bool × Bool} (h : stepQ c s x = some t) : t.2 = true → t.1 = true := by
  obtain ⟨o, b⟩ := s
  unfold stepQ at h
  cases b <;> cases o <;> simp only [cond_true, cond_false, Bool.false_and, Bool.true_and, Bool.not_true, Bool.not_false, Bool.and_true, Bool.and_false] at h
  · cases h34 : (x.toNat == 34) <;> rw [h34] at h <;> simp only [cond_true, cond_false] at h
    · cases hc : (x.toNat == c.toNat) <;> rw [hc] at h <;> simp at h
      subst h; simp
    · injection h with h; subst h; simp
  · cases h92 : (x.toNat == 92) <;> rw [h92] at h <;> simp only [cond_true, cond_false] at h
    · cases h34 : (x.toNat == 34) <;> rw [h34] at h <;> simp only [cond_true, cond_false] at h
      · injection h with h; subst h; simp
      · injection h with h; subst h; simp
    · injection h with h; subst h; simp
  · injection h with h; subst h; simp
  · injection h with h; subst h; simp
theorem run_inv (c : UInt8) : ∀ (l : List UInt8) (s t : Bool × Bool), (s.2 = true → s.1 = true) → runQ c s l = some t → t.2 = true → t.1 = true
  | [], s, t, hs, h => by rw [runQ] at h; injection h with h; subst h; exact hs
  | x :: r, s, t, hs, h => by
    rw [runQ] at h
    cases hq : stepQ c s x with
    | none => rw [hq] at h; cases h
    | some u => rw [hq] at h; exact run_inv c r u t (step_inv hq) h
def solid (c : UInt8) (p : List UInt8) : Prop := runQ c (false, false) p = some (false, false)
theorem blank_step {c x : UInt8} (hx : blanks.contains x = true) (hc : blanks.contains c = false) (o b : Bool) : stepQ c (o, b) x = some (o, false) := by
  have hne : (x.toNat == c.toNat) = false := by
    cases h : (x.toNat == c.toNat)
    · rfl
    · have : x = c := by rw [← UInt8.toNat_inj]; simpa using h
      subst this; rw [hx] at hc; cases hc
  have : x = 32 ∨ x = 9 := by simpa [blanks] using hx
  have h2 : (x.toNat == 92) = false ∧ (x.toNat == 34) = false := by rcases this with e | e <;> subst e <;> exact ⟨rfl, rfl⟩
  unfold stepQ
  rw [hne, h2.1, h2.2]
  cases b <;> cases o <;> rfl
theorem blanks_run {c : UInt8} (hc : blanks.contains c = false) : ∀ (g : List UInt8) (o b : Bool), (∀ x ∈ g, blanks.contains x = true) → ∃ b', runQ c (o, b) g = some (o, b')
  | [], o, b, _ => ⟨b, rfl⟩
  | x :: r, o, b, h => by
    rw [runQ, blank_step (h x (by simp)) hc]
    exact blanks_run hc r o false (fun y hy => h y (by simp [hy]))
theorem blanks_run0 {c : UInt8} (hc : blanks.contains c = false) (g : List UInt8) (h : ∀ x ∈ g, blanks.contains x = true) : runQ c (false, false) g = some (false, false) := by
  obtain ⟨b', hb⟩ := blanks_run hc g false false h
  have := run_inv c g _ _ (by simp) hb
  cases b'
  · exact hb
  · exact absurd (this rfl) (by simp)
theorem trim_parts (l : List UInt8) : ∃ a b, l = a ++ (trimL l ++ b) ∧ (∀ x ∈ a, blanks.contains x = true) ∧ ∀ x ∈ b, blanks.contains x = true := by
  unfold trimL Lib.trimS Lib.trimLeftS Lib.trimRightS
  let p : UInt8 → Bool := fun c => blanks.contains c
  have key : ∀ m : List UInt8, m = m.takeWhile p ++ m.dropWhile p ∧ ∀ x ∈ m.takeWhile p, blanks.contains x = true := fun m =>
    ⟨(List.takeWhile_append_dropWhile).symm, fun x hx => by
      have := List.all_takeWhile (p := p) (l := m)
      rw [List.all_eq_true] at this
      exact this x hx⟩
  obtain ⟨e1, h1⟩ := key l.reverse
  obtain ⟨e2, h2⟩ := key (l.reverse.dropWhile p).reverse
  refine ⟨_, (l.reverse.takeWhile p).reverse, ?_, h2, fun x hx => h1 x (by simpa using hx)⟩
  rw [← List.append_assoc]
  have e3 : (l.reverse.dropWhile p).reverse ++ (l.reverse.takeWhile p).reverse = l := by rw [← List.reverse_append, ← e1, List.reverse_reverse]
  conv => lhs; rw [← e3, e2]
theorem solid_trim {c : UInt8} (hc : blanks.contains c = false) {l : List UInt8} (h : solid c l) : solid c (trimL l) := by
  obtain ⟨a, b, e, ha, hb⟩ := trim_parts l
  unfold solid at *
  rw [e, runQ_app, blanks_run0 hc a ha, Option.bind_some, runQ_app] at h
  cases hq : runQ c (false, false) (trimL l) with
  | none => rw [hq] at h; cases h
  | some t =>
    rw [hq, Option.bind_some] at h
    obtain ⟨o, b0⟩ := t
    obtain ⟨b', hb'⟩ := blanks_run hc b o b0 hb
    rw [hb'] at h
    have ho : o = false := by injection h with h; exact (Prod.mk.inj h).1
    subst ho
    have := run_inv c _ _ _ (by simp) hq
    cases b0
    · rfl
    · exact absurd (this rfl) (by simp)
theorem addP_mem {ls : List (List UInt8)} {p q : List UInt8} (h : q ∈ addP ls p) : q ∈ ls ∨ (q = p ∧ p ≠ []) := by
  unfold addP at h
  cases p with
  | nil => exact Or.inl h
  | cons x r =>
    rw [show (x :: r).isEmpty = false from rfl, cond_false, List.mem_append, List.mem_singleton] at h
    rcases h with h | h
    · exact Or.inl h
    · exact Or.inr ⟨h, by simp⟩
def good1 (c : UInt8) (p : List UInt8) : Prop := solid c p ∧ trimL p = p ∧ p ≠ []
theorem good_addP {c : UInt8} (hc : blanks.contains c = false) {ls : List (List UInt8)} {cur : List UInt8} (hls : ∀ p ∈ ls, good1 c p) (h : solid c cur) : ∀ p ∈ addP ls (trimL cur), good1 c p := by
  intro p hp
  rcases addP_mem hp with hp | ⟨rfl, hne⟩
  · exact hls p hp
  · exact ⟨solid_trim hc h, trim_twice _, hne⟩
theorem pieces_good (c sep : UInt8) (hc : blanks.contains c = false) : ∀ (l : List UInt8) (o b : Bool) (cur : List UInt8) (ls ps : List (List UInt8)), (b = true → o = true) → runQ c (false, false) cur = some (o, b) → (∀ p ∈ ls, good1 c p) → (c = sep ∨ (runQ c (o, b) l).isSome = true) → splP sep o b cur ls l = some ps → ∀ p ∈ ps, good1 c p
  | [], o, b, cur, ls, ps, hi, hr, hls, _, h => by
    rw [splP] at h
    cases o
    · simp only [cond_false, Option.some.injEq] at h
      subst h
      have hb : b = false := by cases b with | false => rfl | true => exact absurd (hi rfl) (by simp)
      subst hb
      exact good_addP hc hls hr
    · simp at h
  | x :: r, o, b, cur, ls, ps, hi, hr, hls, hd, h => by
    have ih := pieces_good c sep hc r
    have next : ∀ o' b', stepQ c (o, b) x = some (o', b') → splP sep o' b' (cur ++ [x]) ls r = some ps → ∀ p ∈ ps, good1 c p := by
      intro o' b' hst hsp
      refine ih o' b' (cur ++ [x]) ls ps (step_inv hst) ?_ hls ?_ hsp
      · rw [runQ_app, hr, Option.bind_some, runQ, hst]; rfl
      · rcases hd with hd | hd
        · exact Or.inl hd
        · rw [runQ, hst] at hd; exact Or.inr hd
    rw [splP] at h
    cases b
    · simp only [cond_false] at h
      cases h92 : (o && x.toNat == 92) <;> rw [h92] at h <;> simp only [cond_true, cond_false] at h
      · cases h34 : (x.toNat == 34) <;> rw [h34] at h <;> simp only [cond_true, cond_false] at h
        · cases hs : (x.toNat == sep.toNat && !o) <;> rw [hs] at h <;> simp only [cond_true, cond_false] at h
          · -- an ordinary byte
            rcases hd with hd | hd
            · subst hd
              exact next o false (by unfold stepQ; simp only [cond_false, h92, h34, hs]) h
            · cases hst : stepQ c (o, false) x with
              | none => rw [runQ, hst] at hd; cases hd
              | some t =>
                have ht : t = (o, false) := by
                  unfold stepQ at hst
                  simp only [cond_false, h92, h34] at hst
                  cases hq : (x.toNat == c.toNat && !o) <;> rw [hq] at hst <;> simp at hst
                  exact hst.symm
                subst ht
                exact next o false hst h
          · -- a separator
            have ho : o = false := by simp at hs; exact hs.2
            subst ho
            refine ih false false [] (addP ls (trimL cur)) ps (by simp) rfl (good_addP hc hls hr) ?_ h
            rcases hd with hd | hd
            · exact Or.inl hd
            · cases hst : stepQ c (false, false) x with
              | none => rw [runQ, hst] at hd; cases hd
              | some t =>
                have ht : t = (false, false) := by
                  unfold stepQ at hst
                  simp only [cond_false, Bool.false_and, h34, Bool.not_false, Bool.and_true] at hst
                  cases hq : (x.toNat == c.toNat) <;> rw [hq] at hst <;> simp at hst
                  exact hst.symm
                subst ht
                rw [runQ, hst] at hd
                exact Or.inr hd
        · exact next (!o) false (by unfold stepQ; simp only [cond_false, h92, h34, cond_true]) h
      · have ho : o = true := by simp at h92; exact h92.1
        subst ho
        simp only [Bool.true_and] at h92
        exact next true true (by unfold stepQ; simp only [cond_false, Bool.true_and, h92, cond_true]) h
    · have ho := hi rfl
      subst ho
      simp only [cond_true] at h
      exact next true false rfl h
theorem spl_solid (sep : UInt8) : ∀ (p : List UInt8) (o b b' : Bool) (cur : List UInt8) (ls : List (List UInt8)), runQ sep (o, b) p = some (false, b') → splP sep o b cur ls p = some (addP ls (trimL (cur ++ p)))
  | [], o, b, b', cur, ls, h => by
    rw [runQ] at h
    injection h with h
    obtain ⟨rfl, rfl⟩ := Prod.mk.inj h
    rw [splP, cond_false, List.append_nil]
  | x :: r, o, b, b', cur, ls, h => by
    have ih := spl_solid sep r
    have e : cur ++ x :: r = (cur ++ [x]) ++ r := by simp
    rw [runQ] at h
    rw [splP, e]
    cases b
    · cases h92 : (o && x.toNat == 92)
      · cases h34 : (x.toNat == 34)
        · cases hs : (x.toNat == sep.toNat && !o)
          · have hst : stepQ sep (o, false) x = some (o, false) := by unfold stepQ; simp only [cond_false, h92, h34, hs]
            rw [hst] at h
            simp only [cond_false]
            exact ih _ _ _ _ _ h
          · have hst : stepQ sep (o, false) x = none := by unfold stepQ; simp only [cond_false, h92, h34, hs, cond_true]
            rw [hst] at h; cases h
        · have hst : stepQ sep (o, false) x = some (!o, false) := by unfold stepQ; simp only [cond_false, h92, h34, cond_true]
          rw [hst] at h
          simp only [cond_false, cond_true]
          exact ih _ _ _ _ _ h
      · have hst : stepQ sep (o, false) x = some (o, true) := by unfold stepQ; simp only [cond_false, h92, cond_true]
        rw [hst] at h
        simp only [cond_false, cond_true]
        exact ih _ _ _ _ _ h
    · have hst : stepQ sep (o, true) x = some (o, false) := by unfold stepQ; simp only [cond_true]
      rw [hst] at h
      simp only [cond_true]
      exact ih _ _ _ _ _ h
theorem split_ok {sep : UInt8} {l : List UInt8} (h : (splitL sep l).2 = 0) : splP sep false false [] [] l = some (splitL sep l).1 := by
  unfold splitL at *
  cases hq : (sep.toNat == 34 || sep.toNat == 92) <;> rw [hq] at h
  · simp only [cond_false] at *
    unfold splitE at *
    cases hs : splP sep false false [] [] l with
    | none => rw [hs] at h; cases h
    | some ls =>
      rw [hs] at h
      simp only at *
      cases hd : decide (64 < ls.length) <;> rw [hd] at h
      · rfl
      · cases h
  · cases h
theorem split_good {sep : UInt8} (hc : blanks.contains sep = false) {l : List UInt8} (h : (splitL sep l).2 = 0) : ∀ p ∈ (splitL sep l).1, good1 sep p :=
  pieces_good sep sep hc l false false [] [] _ (by simp) rfl (by simp) (Or.inl rfl) (split_ok h)
theorem split_good2 {c sep : UInt8} (hc : blanks.contains c = false) {l : List UInt8} (hl : solid c l) (h : (splitL sep l).2 = 0) : ∀ p ∈ (splitL sep l).1, good1 c p :=
  pieces_good c sep hc l false false [] [] _ (by simp) rfl (by simp) (Or.inr (by unfold solid at hl; rw [hl]; rfl)) (split_ok h)
theorem split_one {sep : UInt8} (h1 : (sep.toNat == 34) = false) (h2 : (sep.toNat == 92) = false) {p : List UInt8} (h : good1 sep p) : splitL sep p = ([p], 0) := by
  unfold splitL
  rw [h1, h2, show (false || false) = false from rfl, cond_false, spl_solid sep p false false false [] [] h.1, List.nil_append, h.2.1]
  have : addP [] p = [p] := by
    cases hp : p with
    | nil => exact absurd hp h.2.2
    | cons x r => rfl
  rw [this]; rfl

/-! What is told. -/
def neverD : Dir := ⟨noStore, [], false, []⟩
def oneOf (l : List Dir) (f : List UInt8) : List Dir := match l with
  | [d] => [⟨d.name, d.value, d.has, bif f.isEmpty then d.for_ else f⟩]
  | _ => []
/-- What a piece says: the program's way. -/
def saidS (p : List UInt8) : List Dir :=
  bif (splitL 59 p).2 != 0 then [neverD] else match (splitL 59 p).1 with
  | [a] => oneOf (dlistL [a]) []
  | [a, b] => bif tokenL b then oneOf (dlistL [a]) b else []
  | _ => []
/-- .. and the document's. -/
def sayS (p : List UInt8) : List Dir :=
  bif (splitL 59 p).2 != 0 then [neverD] else match (splitL 59 p).1 with
  | [a] => oneOf (saidO a).toList []
  | [a, b] => bif tokenL b then oneOf (saidO a).toList b else []
  | _ => []
theorem dlist_good1 {a : List UInt8} (h : good1 44 a) : dlistL [a] = (saidO a).toList := by
  unfold dlistL dirsOf pcsL
  rw [List.flatMap_cons, List.flatMap_nil, List.append_nil, split_one rfl rfl h]
  show List.filterMap saidO [a] = _
  rw [List.filterMap_cons]
  cases saidO a <;> rfl
theorem said_say {v p : List UInt8} (hv : (splitL 44 v).2 = 0) (hp : p ∈ (splitL 44 v).1) : saidS p = sayS p := by
  have h1 := split_good (sep := 44) (by decide) hv p hp
  unfold saidS sayS
  cases hz : ((splitL 59 p).2 != 0)
  · have hz' : (splitL 59 p).2 = 0 := by simpa [bne] using hz
    have h2 := split_good2 (c := 44) (by decide) h1.1 hz'
    simp only [cond_false]
    cases hps : (splitL 59 p).1 with
    | nil => rfl
    | cons a r =>
      rw [hps] at h2
      have ha := dlist_good1 (h2 a (by simp))
      cases r with
      | nil => simp only [ha]
      | cons b r2 =>
        cases r2 with
        | nil => simp only [ha]
        | cons _ _ => rfl
  · rfl
def slistL (vs : List (List UInt8)) : List Dir := vs.flatMap fun v => bif (splitL 44 v).2 == 0 then (splitL 44 v).1.flatMap sayS else [neverD]
def ownB (dev : List UInt8) (d : Dir) : Bool := !dev.isEmpty && d.for_ == dev
def mineB (l : List Dir) (dev : List UInt8) (d : Dir) : Bool := ownB dev d || (d.for_.isEmpty && !l.any fun x => ownB dev x && x.name == d.name)
def mineL (l : List Dir) (dev : List UInt8) : List Dir := l.filter (mineB l dev)

/-- What a device is told. -/
structure Ctl where
  noStore : Bool
  noRemote : Bool
  esi : Bool
  hasAge : Bool
  age : Int
  extra : Int
deriving DecidableEq
def firstV (l : List Dir) (nm : List UInt8) : Option (List UInt8) := (l.find? fun d => d.name == nm).map Dir.value
def wordP (w : List UInt8) : List UInt8 → List UInt8 → Bool
  | cur, [] => cur == w
  | cur, c :: r => bif blanks.contains c then (cur == w) || wordP w [] r else wordP w (cur ++ [c]) r
def sESI : List UInt8 := [69, 83, 73, 47, 49, 46, 48]
def sRemote : List UInt8 := [110, 111, 45, 115, 116, 111, 114, 101, 45, 114, 101, 109, 111, 116, 101]
def sContent : List UInt8 := [99, 111, 110, 116, 101, 110, 116]
def sMaxAge : List UInt8 := [109, 97, 120, 45, 97, 103, 101]
def agesL (v : List UInt8) : Int × Int := bif deltaOk (Lib.cut v [43]).1 && (deltaOk (Lib.cut v [43]).2.1 == (Lib.cut v [43]).2.2) then (bnd (val (Lib.cut v [43]).1), bif deltaOk (Lib.cut v [43]).2.1 then bnd (val (Lib.cut v [43]).2.1) else 0) else (0, 0)
def ctlL (l : List Dir) : Ctl :=
  ⟨(firstV l noStore).isSome, (firstV l sRemote).isSome, match firstV l sContent with | some v => wordP sESI [] v | none => false, (firstV l sMaxAge).isSome, match firstV l sMaxAge with | some v => (agesL v).1 | none => 0, match firstV l sMaxAge with | some v => (agesL v).2 | none => 0⟩
def ofL (vs : List (List UInt8)) (dev : List UInt8) : Ctl := ctlL (mineL (slistL vs) dev)
end Go.Proofs.YtcgdcbnhpbokfaaGreatDoor
/- How long a reply that is kept is fresh: the plain law. -/
namespace Go.Proofs.YtcgdcbnhpbokfaaGreatDoor
open Go.RowKit

def fDate : List UInt8 := [100, 97, 116, 101]
def fAge : List UInt8 := [97, 103, 101]
def fExp : List UInt8 := [101, 120, 112, 105, 114, 101, 115]
def fCC : List UInt8 := [99, 97, 99, 104, 101, 45, 99, 111, 110, 116, 114, 111, 108]
def fSC : List UInt8 := [115, 117, 114, 114, 111, 103, 97, 116, 101, 45, 99, 111, 110, 116, 114, 111, 108]
def fNoCache : List UInt8 := [110, 111, 45, 99, 97, 99, 104, 101]
def fSMax : List UInt8 := [115, 45, 109, 97, 120, 97, 103, 101]
/-- What the surrogate's own field says. -/
def ctlF (xs : List Fld) (dev : List UInt8) : Ctl := ofL (valuesL xs fSC) dev
def whenF (xs : List Fld) (nm : List UInt8) (got : Int) : Int × Bool := bif (getL xs nm).2 then ((dateP (getL xs nm).1 got).1, (dateP (getL xs nm).1 got).2 == 0) else (0, false)
def numF (s : List UInt8) : Int := bif deltaOk s then bnd (val s) else 0
/-- What a directive says. -/
def ruleF (none : Bool) (nm : List UInt8) (xs : List Fld) : Int × Bool :=
  match findO (dlistL (valuesL xs fCC)) nm with
  | some d => (bif none then 0 else numF d.value, true)
  | Option.none => (0, false)
def surF (xs : List Fld) (dev : List UInt8) : Int × Bool := (bnd (ctlF xs dev).age, (ctlF xs dev).hasAge)
def expF (xs : List Fld) (got : Int) : Int × Bool :=
  bif (getL xs fExp).2 then (bif (whenF xs fExp got).2 then (since (bif (whenF xs fDate got).2 then (whenF xs fDate got).1 else got) (whenF xs fExp got).1, true) else (0, true)) else (0, false)
/-- The first rule that tells. -/
def lifeR : List (Int × Bool) → Int
  | [] => 0
  | r :: l => bif r.2 then r.1 else lifeR l
def lifeF (xs : List Fld) (got : Int) (dev : List UInt8) : Int := lifeR [surF xs dev, ruleF true fNoCache xs, ruleF false fSMax xs, ruleF false sMaxAge xs, expF xs got]
def ageF (xs : List Fld) (asked got now : Int) : Int :=
  addB (max (bif (whenF xs fDate got).2 then since (whenF xs fDate got).1 got else 0) (addB (numF (getL xs fAge).1) (since asked got))) (since got now)
def freshF (xs : List Fld) (asked got now : Int) (dev : List UInt8) : Bool := decide (ageF xs asked got now < lifeF xs got dev)
def extraF (xs : List Fld) (dev : List UInt8) : Int := (ctlF xs dev).extra
theorem valuesL_sum {xs : List Fld} {nm v : List UInt8} (h : v ∈ valuesL xs nm) : v.length ≤ sumF xs := by
  obtain ⟨f, hf, rfl⟩ := List.mem_map.1 h
  have := sumF_mem (List.mem_filter.1 hf).1
  omega
theorem addB_lo (a b : Int) : 0 ≤ addB a b := bnd_lo _
theorem addB_hi (a b : Int) : addB a b ≤ 2147483648 := bnd_hi _
theorem since_lo (a b : Int) : 0 ≤ since a b := bnd_lo _
theorem since_hi (a b : Int) : since a b ≤ 2147483648 := bnd_hi _
theorem numF_tuple (s : List UInt8) : deltaV s = .tuple #[.int .i64 (numF s), .bool (deltaOk s)] := by unfold deltaV numF; cases deltaOk s <;> rfl
end Go.Proofs.YtcgdcbnhpbokfaaGreatDoor
/- Fields in a slice that the call made. -/
namespace Go.Proofs.YtcgdcbnhpbokfaaGreatDoor
open Go.RowKit

theorem uFld : (Tryz.prog.info? 44).map (fun i => (i.zero, i.size, i.bytes)) = some (some (.agg #[.string ByteArray.empty, .string ByteArray.empty]), 2, 32) := by kernel_rfl
def OwnF (B : Nat) (v : Value) (fs : List Fld) (w : World) : Prop := w.ownsRow B 44 2 v fs.length (fldsV fs)
theorem OwnF.shape {B : Nat} {v : Value} {fs : List Fld} {w : World} (h : OwnF B v fs w) : ∃ a cap, v = .slice a fs.length cap := by
  rcases h.2 with ⟨rfl, h0⟩ | ⟨g, cap, cur, rfl, _⟩
  · exact ⟨none, 0, by rw [h0]⟩
  · exact ⟨_, _, rfl⟩
theorem OwnF.below {B : Nat} {v : Value} {fs : List Fld} {w w1 : World} (h : OwnF B v fs w) (hb : Below w.heap.size w w1) : OwnF B v fs w1 := own_below h hb
theorem OwnF.drew {B : Nat} {v : Value} {fs : List Fld} {w : World} (h : OwnF B v fs w) : OwnF B v fs w.drew := h
theorem OwnF.nil (B : Nat) (w : World) : OwnF B (.slice none 0 0) [] w := World.ownsRow_nil _ _ _ _
theorem OwnF.rd {B m cap : Nat} {a : Option Addr} {fs : List Fld} {w : World} (h : OwnF B (.slice a m cap) fs w) : m = fs.length ∧ Rd a fs.length 2 (fldsV fs) w := Rd.of_own h
theorem OwnF.base {B B' : Nat} {v : Value} {fs : List Fld} {w : World} (h : OwnF B v fs w) (hB : B' ≤ B) : OwnF B' v fs w := by
  refine ⟨h.1, ?_⟩
  rcases h.2 with h | ⟨g, cp, cur, hv, hg, r⟩
  · exact Or.inl h
  · exact Or.inr ⟨g, cp, cur, hv, by omega, r⟩
theorem app_fld {ops : Array Oper} {rest : List Oper} {o : Oper} {a : Act} {Q : Exit → Act → World → Prop} (B : Nat) (y : Fld) {w : World} {v : Value} {fs : List Fld} (hown : OwnF B v fs w) (hB : B ≤ w.heap.size) (hn : fs.length ≤ 1000000000)
    (hgd : o.guard = none) (s x : Operand) (ho : o.op = .call { callee := .builtin .append, args := #[s, x], argTypes := #[22, 22] })
    (hs : a.eval s = v) (hx : a.eval x = .slice (some ⟨w.heap.size, 0, none⟩) 1 1)
    (hK : ∀ v' w1, OwnF B v' (fs ++ [y]) w1 → Below B w w1 → Far w w1 v v' → wpList Tryz.prog ops Q rest (a.put o.dst v') w1) :
    wpList Tryz.prog ops Q (o :: rest) a (w.alloc (.cells #[.string ⟨y.1.toArray⟩, .string ⟨y.2.toArray⟩] 44)) := by
  refine app_one (z := .agg #[.string ByteArray.empty, .string ByteArray.empty]) (bytes := 32) (n := fs.length) hgd s x 22 44 ho Tryz.underlying22 uFld rfl (by decide) (by decide) B (fldV y) rfl (by intro u hu; simp [fldV] at hu; rcases hu with rfl | rfl <;> rfl) hs hx hown hB hn ?_
  intro v' w1 h1 h2 h3
  refine hK v' w1 ?_ h2 h3
  show World.ownsRow _ _ _ _ _ _ _
  rw [List.length_append, List.length_singleton]
  have : fldsV (fs ++ [y]) = fldsV fs ++ fldV y := by unfold fldsV; simp
  rw [this]
  exact h1
theorem step_fld {ops : Array Oper} {o : Oper} {a : Act} {K : Act → World → Prop} {Q : Exit → Act → World → Prop} {G : Prop} (B : Nat) (y : Fld) {w : World} {v : Value} {fs : List Fld} (hown : OwnF B v fs w) (hB : B ≤ w.heap.size) (hn : fs.length ≤ 1000000000)
    (hgd : o.guard = none) (s x : Operand) (ho : o.op = .call { callee := .builtin .append, args := #[s, x], argTypes := #[22, 22] })
    (hs : a.eval s = v) (hx : a.eval x = .slice (some ⟨w.heap.size, 0, none⟩) 1 1)
    (hK : ∀ v' w1, OwnF B v' (fs ++ [y]) w1 → Below B w w1 → Far w w1 v v' → K (a.put o.dst v') w1) :
    if Region.wanted o (yielded ops a.tmps) = true then Oper.wp Tryz.prog o a (w.alloc (.cells #[.string ⟨y.1.toArray⟩, .string ⟨y.2.toArray⟩] 44)) K Q else G := by
  refine step_app_one (z := .agg #[.string ByteArray.empty, .string ByteArray.empty]) (bytes := 32) (n := fs.length) hgd s x 22 44 ho Tryz.underlying22 uFld rfl (by decide) (by decide) B (fldV y) rfl (by intro u hu; simp [fldV] at hu; rcases hu with rfl | rfl <;> rfl) hs hx hown hB hn ?_
  intro v' w1 h1 h2 h3
  refine hK v' w1 ?_ h2 h3
  show World.ownsRow _ _ _ _ _ _ _
  rw [List.length_append, List.length_singleton]
  have : fldsV (fs ++ [y]) = fldsV fs ++ fldV y := by unfold fldsV; simp
  rw [this]
  exact h1
/-- Fields that are handed back in a slice of the call's own. -/
def FieldsPost (w : World) (fs : List Fld) (e : Ending) (w' : World) : Prop :=
  ∃ a cap, e = .returned (.slice a fs.length cap) ∧ OwnF w.heap.size (.slice a fs.length cap) fs w' ∧ Below w.heap.size w w'
end Go.Proofs.YtcgdcbnhpbokfaaGreatDoor
/- Nothing turned but for one block. -/
namespace Go.Proofs.YtcgdcbnhpbokfaaGreatDoor
open Go.RowKit

/-- Nothing that was there turned, but for one block. -/
def Beside (T : Nat) (w w' : World) : Prop := Below T w w' ∧ ∀ b, b < w.heap.size → b ≠ T → w'.heap[b]? = w.heap[b]?
theorem Beside.of {T : Nat} {w w' : World} (h : Below w.heap.size w w') (hT : T ≤ w.heap.size) : Beside T w w' := ⟨h.mono hT, fun _ hb _ => h.block _ hb⟩
theorem Beside.trans {T : Nat} {a b c : World} (h : Beside T a b) (k : Beside T b c) : Beside T a c :=
  ⟨h.1.trans k.1, fun i hi hne => (k.2 i (Nat.lt_of_lt_of_le hi h.1.size) hne).trans (h.2 i hi hne)⟩
theorem Beside.cell {T : Nat} {w w' : World} (h : Beside T w w') {b : Nat} (j : Nat) (hb : b < w.heap.size) (hne : b ≠ T) : w'.cell? ⟨b, j, none⟩ = w.cell? ⟨b, j, none⟩ := by
  simp only [World.cell?, h.2 b hb hne]
theorem Beside.setCell (T j : Nat) (w : World) (v : Value) : Beside T w (w.setCell ⟨T, j, none⟩ v) :=
  ⟨(Below.refl T w).setCell (Nat.le_refl _) _, fun _ _ hne => Below.heap_setCell _ _ _ _ hne⟩
theorem own_beside {B T : Nat} {e : TypeId} {size : Nat} {v : Value} {n : Nat} {xs : List Value} {w w1 : World} (h : w.ownsRow B e size v n xs) (hb : Beside T w w1) (hT : T < B) : w1.ownsRow B e size v n xs := by
  obtain ⟨h1, h2⟩ := h
  refine ⟨h1, ?_⟩
  rcases h2 with h2 | ⟨g, cap, cur, hv, hg, hh, r⟩
  · exact Or.inl h2
  · refine Or.inr ⟨g, cap, cur, hv, hg, ?_, r⟩
    have hlt : g < w.heap.size := by
      rcases Nat.lt_or_ge g w.heap.size with h' | h'
      · exact h'
      · simp [Array.getElem?_eq_none h'] at hh
    rw [hb.2 g hlt (by omega)]; exact hh
theorem Beside.size {T : Nat} {w w' : World} (h : Beside T w w') : w.heap.size ≤ w'.heap.size := by
  exact h.1.size
end Go.Proofs.YtcgdcbnhpbokfaaGreatDoor
/- The walks of fields.kept and slices.ContainsFunc, over any closure (printed by wip/tools/kept.py). -/
namespace Go.Proofs.YtcgdcbnhpbokfaaGreatDoor
open Go.RowKit
set_option maxRecDepth 100000

theorem OwnF.beside {B T : Nat} {v : Value} {fs : List Fld} {w w1 : World} (h : OwnF B v fs w) (hb : Beside T w w1) (hT : T < B) : OwnF B v fs w1 := own_beside h hb hT
theorem steps_len {fs : Nat → List Fld} {xs : List Fld} {p : Nat → Bool} (h0 : fs 0 = []) (hf : ∀ k (h : k < xs.length), fs (k + 1) = bif p k then fs k ++ [xs[k]] else fs k) : ∀ k, k ≤ xs.length → (fs k).length ≤ k
  | 0, _ => by rw [h0]; simp
  | k + 1, h => by
    have ih := steps_len h0 hf k (by omega)
    rw [hf k (by omega)]
    cases p k
    · rw [cond_false]; omega
    · rw [cond_true, List.length_append, List.length_singleton]; omega

set_option maxHeartbeats 4000000 in
theorem keptDel_any (p1 : Value) (T : Nat) (ws : World) (A : Option Addr) (n c : Nat) (xs : List Fld) (w : World) (hr : Rd A n 2 (fldsV xs) ws) (hn : n ≤ 1000000) (hws : Below ws.heap.size ws w) (hT : ws.heap.size ≤ T) (hTw : T < w.heap.size) (Inv : Nat → World → Prop) (p : Nat → Bool) (fs : Nat → List Fld) (h0 : fs 0 = []) (hf : ∀ k (h : k < xs.length), fs (k + 1) = bif p k then fs k ++ [xs[k]] else fs k) (hI : Inv 0 w)
    (hst : ∀ k W W', Inv k W → Below w.heap.size W W' → Inv k W')
    (hc : ∀ k (h : k < xs.length) W, Inv k W → w.heap.size ≤ W.heap.size → Calls Tryz.prog 81 #[.agg #[.string ⟨(xs[k]).1.toArray⟩, .string ⟨(xs[k]).2.toArray⟩], p1] W fun e W' => e = .returned (.bool (p k)) ∧ Inv (k + 1) W' ∧ Beside T W W') :
    Calls Tryz.prog 80 #[.slice A n c, .func (.func 81) #[] #[p1]] w fun e w' => ∃ a cap, e = .returned (.slice a (fs xs.length).length cap) ∧ OwnF w.heap.size (.slice a (fs xs.length).length cap) (fs xs.length) w' ∧ Below T w w' ∧ Inv xs.length w' := by
  obtain rfl := hr.fld
  have hlen := steps_len h0 hf
  have H0 := Lib.hid h0; have HF := Lib.hid hf; have HST := Lib.hid hst; have HC := Lib.hid hc; have HR := Lib.hid hr; have HI := Lib.hid hI; have HL := Lib.hid hlen
  have HWS := Lib.hid hws
  clear h0 hf hst hc hr hI hlen hws
  go_enter Tryz.func80, Tryz.ntmps80
  go_wp2
  go_loopw [9, 4] (fun i out wr => ∃ k : Nat, k ≤ xs.length ∧ i = .int .i64 k ∧ Hid (OwnF w.heap.size out (fs k) wr) ∧ Below T w wr ∧ Hid (Inv k wr)) (fun i _ _ => xs.length - (intOf i).toNat)
  case atStart => exact ⟨0, Nat.zero_le _, rfl, by rw [H0.out]; exact Lib.hid (OwnF.nil _ _), Below.refl _ _, HI⟩
  case round =>
    clear HI H0
    obtain ⟨k, hk, rfl, HO, hbw, HI⟩ := hrel
    obtain ⟨oa, oc, rfl⟩ := HO.out.shape
    have hsz := hbw.size
    by_cases hlt : k < xs.length
    · obtain ⟨b, o, rfl, hl, c1, c2⟩ := (HR.out.below (HWS.out.trans (hbw.mono hT))).fld_at (k := k) hlt
      have hnx := HF.out k hlt
      have hll := HL.out k hk
      have k1 := fun W h => HC.out k hlt W (HST.out k wr W HI.out h)
      generalize xs[k] = f at *
      obtain ⟨f1, f2⟩ := f
      simp only at c1 c2 k1
      have hAl : Below w.heap.size wr (wr.alloc (.cells #[.string ⟨f1.toArray⟩, .string ⟨f2.toArray⟩] 44)) := ((Below.refl wr.heap.size wr).alloc (Nat.le_refl _) _).mono hsz
      have hO1 := HO.out.below ((Below.refl wr.heap.size wr).alloc (Nat.le_refl _) (.cells #[.string ⟨f1.toArray⟩, .string ⟨f2.toArray⟩] 44))
      have HO1 := Lib.hid hO1
      have hfl : (fs k).length ≤ 1000000000 := by omega
      generalize fs k = fk at *
      have K1 := Lib.hid (k1 _ hAl (by simp; omega)); have HNX := Lib.hid hnx
      clear k1 hnx HO hO1 HI HF HC HL
      cases hp : p k
      · rw [hp] at HNX K1
        go_wp2_with fail
        refine K1.out.mono ?_
        rintro e w1 ⟨rfl, hI1, hb1⟩
        have hB1 := (hbw.trans (hAl.mono (by omega))).trans hb1.1
        have HO2 := Lib.hid (HO1.out.beside hb1 hTw); have HI1 := Lib.hid hI1
        clear hI1 hb1 hAl K1
        go_wp2
        go_roundw
        case rel => exact ⟨k + 1, by omega, by go_num, by rw [HNX.out]; exact HO2, hB1, HI1⟩
        case measure => simp [intOf]; omega
      · rw [hp] at HNX K1
        go_wp2_with fail
        refine K1.out.mono ?_
        rintro e w1 ⟨rfl, hI1, hb1⟩
        have hB1 := (hbw.trans (hAl.mono (by omega))).trans hb1.1
        have d0 : w1.cell? ⟨wr.heap.size, 0, none⟩ = some (.string ⟨f1.toArray⟩) := (hb1.cell 0 (by simp) (by omega)).trans (World.cell?_alloc_mark wr _ _ _ 0)
        have d1 : w1.cell? ⟨wr.heap.size, 1, none⟩ = some (.string ⟨f2.toArray⟩) := (hb1.cell 1 (by simp) (by omega)).trans (World.cell?_alloc_mark wr _ _ _ 1)
        have HO2 := Lib.hid (HO1.out.beside hb1 hTw); have HI1 := Lib.hid hI1
        have hs1 := hb1.1.size
        have hs2 : w.heap.size ≤ w1.heap.size := by simp at hs1; omega
        clear hI1 hb1 hAl K1 HO1 hs1
        go_wp2_with (at_builtin; refine app_fld w.heap.size (f1, f2) HO2.out hs2 hfl rfl _ _ rfl rfl rfl ?_)
        intro v' w2 hO3 hb2 _
        have HO3 : Hid (OwnF w.heap.size v' (fs (k + 1)) w2) := by rw [HNX.out]; exact Lib.hid hO3
        have HI2 := Lib.hid (HST.out (k + 1) w1 w2 HI1.out hb2)
        have hB2 := hB1.trans (hb2.mono (by omega))
        clear hO3 hb2 HI1 d0 d1 HNX
        go_wp2
        go_roundw
        case rel => exact ⟨k + 1, by omega, by go_num, HO3, hB2, HI2⟩
        case measure => simp [intOf]; omega
    · have hke : k = xs.length := by omega
      subst hke
      clear HF HC HST HL
      go_wp2
      go_ret
      exact ⟨oa, oc, rfl, HO.out, hbw, HI.out⟩

/-- Where the first one stands of which something is so; below nought: nowhere. -/
def AnyPost (q : List UInt8 → Bool) (ls : List (List UInt8)) (w : World) (e : Ending) (w' : World) : Prop := ∃ i : Int, e = .returned (.int .i64 i) ∧ decide (0 ≤ i) = ls.any q ∧ Below w.heap.size w w'
set_option maxHeartbeats 4000000 in
theorem indexDel_any (p1 : Value) (q : List UInt8 → Bool) (A : Option Addr) (n c : Nat) (ls : List (List UInt8)) (w : World) (hr : Rd A n 1 (strsV ls) w) (hn : n ≤ 1000000)
    (hc : ∀ l ∈ ls, ∀ W, Below w.heap.size w W → Calls Tryz.prog 82 #[.string ⟨l.toArray⟩, p1] W fun e W' => e = .returned (.bool (q l)) ∧ Below W.heap.size W W') :
    Calls Tryz.prog 95 #[.slice A n c, .func (.func 82) #[] #[p1]] w (AnyPost q ls w) := by
  obtain rfl := hr.str
  have hB := Below.refl w.heap.size w
  have HR := Lib.hid hr; have HC := Lib.hid hc; clear hr hc
  go_enter Tryz.func95, Tryz.ntmps95
  go_wp2
  go_loopw [8] (fun i wr => ∃ k : Nat, k ≤ ls.length ∧ i = .int .i64 k ∧ Hid ((ls.take k).any q = false) ∧ Below w.heap.size w wr) (fun i _ => ls.length - (intOf i).toNat)
  case atStart => exact ⟨0, Nat.zero_le _, rfl, Lib.hid rfl, hB⟩
  case round =>
    clear hB
    obtain ⟨k, hk, rfl, HA, hbw⟩ := hrel
    by_cases hlt : k < ls.length
    · obtain ⟨b, o, rfl, hl, c1⟩ := (HR.out.below hbw).str_at (k := k) hlt
      have k1 := HC.out ls[k] (List.getElem_mem _) wr hbw
      have hbad : q ls[k] = true → Hid (decide ((0 : Int) ≤ (k : Int)) = ls.any q) := by
        intro h
        refine Lib.hid ?_
        have : ls.any q = true := by rw [List.any_eq_true]; exact ⟨ls[k], List.getElem_mem _, h⟩
        rw [this]; simp
      have hgood : q ls[k] = false → Hid ((ls.take (k + 1)).any q = false) := by
        intro h
        refine Lib.hid ?_
        rw [List.take_succ_eq_append_getElem hlt, List.any_append, HA.out]
        simp [h]
      generalize ls[k] = p at *
      have HBAD := Lib.hid hbad; have HGOOD := Lib.hid hgood; clear hbad hgood HA
      cases hq : q p
      · rw [hq] at k1
        have hf := HGOOD.out hq
        have K1 := Lib.hid k1; clear k1 hq
        go_wp2_with fail
        refine K1.out.mono ?_
        rintro e w1 ⟨rfl, hb1⟩
        go_wp2
        go_roundw
        case rel => exact ⟨k + 1, by omega, by go_num, hf, bt hbw hb1⟩
        case measure => simp [intOf]; omega
      · rw [hq] at k1
        have hf := HBAD.out hq
        have K1 := Lib.hid k1; clear k1 hq
        go_wp2_with fail
        refine K1.out.mono ?_
        rintro e w1 ⟨rfl, hb1⟩
        go_wp2
        go_ret
        exact ⟨k, rfl, hf.out, bt hbw hb1⟩
    · have hke : k = ls.length := by omega
      subst hke
      have ha := HA.out
      rw [List.take_length] at ha
      have HA2 := Lib.hid ha; clear ha HA
      go_wp2
      go_ret
      exact ⟨-1, rfl, by rw [HA2.out]; rfl, hbw⟩
set_option maxHeartbeats 1000000 in
theorem containsDel_any (p1 : Value) (q : List UInt8 → Bool) (A : Option Addr) (n c : Nat) (ls : List (List UInt8)) (w : World) (hr : Rd A n 1 (strsV ls) w) (hn : n ≤ 1000000)
    (hc : ∀ l ∈ ls, ∀ W, Below w.heap.size w W → Calls Tryz.prog 82 #[.string ⟨l.toArray⟩, p1] W fun e W' => e = .returned (.bool (q l)) ∧ Below W.heap.size W W') :
    Calls Tryz.prog 39 #[.slice A n c, .func (.func 82) #[] #[p1]] w fun e w' => e = .returned (.bool (ls.any q)) ∧ Below w.heap.size w w' := by
  have k1 := indexDel_any p1 q A n c ls w hr hn hc
  have K1 := Lib.hid k1; clear k1 hc
  go_enter Tryz.func39, Tryz.ntmps39
  go_wp2_with fail
  refine K1.out.mono ?_
  rintro e w1 ⟨i, rfl, hi, hb1⟩
  have HI := Lib.hid hi; clear hi
  go_wp2
  go_ret
  exact ⟨by rw [← HI.out]; rfl, hb1⟩
end Go.Proofs.YtcgdcbnhpbokfaaGreatDoor
/- The walks of the document's Lower, Same. -/
namespace Go.Proofs.YtcgdcbnhpbokfaaGreatDoor
open Go.RowKit

theorem uByte : (Tryz.prog.info? 5).map (fun i => (i.zero, i.size, i.bytes)) = some (some (.int .u8 0), 1, 1) := by kernel_rfl
/-- A slice of bytes that the call made: it owns these. -/
def OwnB (B : Nat) (v : Value) (l : List UInt8) (w : World) : Prop := w.ownsRow B 5 1 v l.length (l.map fun c => Value.int .u8 c.toNat)
theorem OwnB.conv {B : Nat} {v : Value} {l : List UInt8} {w : World} (h : OwnB B v l w) : (convert 157 9 v).run Tryz.prog w = .ok (.string ⟨l.toArray⟩) w := by
  rcases h.2 with ⟨rfl, h0⟩ | ⟨g, cap, cur, rfl, hg, hb, hnc, hcm, hcs, htake⟩
  · have hl : l = [] := List.eq_nil_of_length_eq_zero h0
    subst hl
    exact run_convert_bytes_nil (P := Tryz.prog) w 157 5 Tryz.underlying157 Tryz.underlying5 0 0 9 Tryz.underlying9
  · have hc := run_convert_bytes_arg (P := Tryz.prog) w 157 5 Tryz.underlying157 Tryz.underlying5 g 0 l.length cap (l.map fun c => (c.toNat : Int)) (by simp) (by
      intro i hi
      have := h.cells (g := g) rfl i (.int .u8 (l[i].toNat : Int)) (by simp [hi])
      rw [show (⟨g, 0, none⟩ : Addr).add i = ⟨g, i, none⟩ from by unfold Addr.add; split <;> simp_all] at this
      rw [Nat.zero_add, this]; simp [List.getD, hi]) 9 Tryz.underlying9
    rw [hc]
    have e : strOfNums (l.map fun c => (c.toNat : Int)) = ⟨l.toArray⟩ := by
      apply str_eq; rw [strOfNums_data, List.map_map]
      show List.map _ l = l
      conv => rhs; rw [← List.map_id l]
      apply List.map_congr_left; intro c _; simp
    rw [e]

set_option maxRecDepth 100000 in
set_option maxHeartbeats 2000000 in
theorem rlower_wide (s : ByteArray) (w : World) (hs : s.size ≤ 140737488351232) :
    Calls Tryz.prog 116 #[.string s] w fun e w' => e = .returned (.string ⟨(lowerL s.data.toList).toArray⟩) ∧ Below w.heap.size w w' := by
  obtain ⟨i0, hi, hz0, hz1, hz2⟩ := info_parts uByte
  go_enter Tryz.func116, Tryz.ntmps116
  go_wp2
  go_loopw [4, 3] (fun i b wr => ∃ k : Nat, k ≤ s.size ∧ i = .int .i64 k ∧ OwnB w.heap.size b (lowerL (s.data.toList.take k)) wr ∧ Below w.heap.size w wr) (fun i _ _ => s.size - (intOf i).toNat)
  case atStart => exact ⟨0, Nat.zero_le _, rfl, World.ownsRow_nil _ _ _ _, Below.refl _ _⟩
  case round =>
    obtain ⟨k, hk, rfl, hO, hbw⟩ := hrel
    have HO := Lib.hid hO; clear hO
    by_cases hlt : k < s.size
    · have hu := u8_lt s[k]
      obtain ⟨n, hn, hn0, hn255⟩ : ∃ n : Int, ((lowb s[k]).toNat : Int) = n ∧ 0 ≤ n ∧ n < 256 := ⟨_, rfl, by omega, u8_lt _⟩
      have hnext : lowerL (s.data.toList.take (k + 1)) = lowerL (s.data.toList.take k) ++ [lowb s[k]] := by
        rw [take_snoc s k hlt]; unfold lowerL; simp
      have hlen : (lowerL (s.data.toList.take k)).length < 140737488351232 := by unfold lowerL; rw [List.length_map, List.length_take, ← Lib.size_eq]; omega
      have HN := Lib.hid hnext; have Hn := Lib.hid hn; clear hnext hn
      have hown := HO.out
      unfold OwnB at hown
      have HW := Lib.hid hown; clear hown
      have key : ∀ (v' : Value) (w1 : World), w1.ownsRow w.heap.size 5 1 v' ((lowerL (s.data.toList.take k)).length + 1) ((lowerL (s.data.toList.take k)).map (fun c => Value.int .u8 c.toNat) ++ [.int .u8 n]) → OwnB w.heap.size v' (lowerL (s.data.toList.take (k + 1))) w1 := by
        intro v' w1 h; unfold OwnB; rw [HN.out, List.length_append, List.length_singleton, List.map_append]; rw [← Hn.out] at h; exact h
      have HK := Lib.hid key; clear key
      cases c1 : decide (65 ≤ (s[k].toNat : Int)) <;> cases c2 : decide ((s[k].toNat : Int) ≤ 90)
      · exfalso; simp at c1 c2; omega
      · have e : n = (s[k].toNat : Int) := by rw [← Hn.out, lowb_no s[k] (by rw [c1, c2]; rfl)]
        subst e
        go_wp2_with (at_builtin; refine wpList_append_own _ rfl _ _ 157 rfl w.heap.size 5 i0 (.int .u8 0) 1 1 Tryz.underlying157 hi hz0 hz1 hz2 rfl (by decide) _ _ _ rfl (HW.out.alloc _) ⟨wr.heap.size, 0, none⟩ 1 1 [.int .u8 (s[k].toNat : Int)] rfl rfl ?c1 ?c2 ?c3 ?c4 ?c5 ?_)
        case c1 =>
          intro j u hj
          match j, hj with
          | 0, hj => simp at hj; subst hj; simp [Addr.add]
        case c2 => intro u hu; simp at hu; subst hu; rfl
        case c3 => unfold maxLen; omega
        case c4 => omega
        case c5 => have := hbw.size; simp; omega
        intro v' w1 hown' hgrow _
        have hO2 := HK.out v' w1 hown'
        have hb2 : Below w.heap.size w w1 := (hbw.alloc hbw.size _).grown hgrow (by have := hbw.size; simp; omega) (fun j hj => (HW.out.lt j hj).1)
        have HO2 := Lib.hid hO2; clear hO2 hown' hgrow
        go_wp2
        go_roundw
        case rel => exact ⟨k + 1, by omega, by go_num, HO2.out, hb2⟩
        case measure => simp [intOf]; omega
      · have e : n = (s[k].toNat : Int) := by rw [← Hn.out, lowb_no s[k] (by rw [c1, c2]; rfl)]
        subst e
        go_wp2_with (at_builtin; refine wpList_append_own _ rfl _ _ 157 rfl w.heap.size 5 i0 (.int .u8 0) 1 1 Tryz.underlying157 hi hz0 hz1 hz2 rfl (by decide) _ _ _ rfl (HW.out.alloc _) ⟨wr.heap.size, 0, none⟩ 1 1 [.int .u8 (s[k].toNat : Int)] rfl rfl ?c1 ?c2 ?c3 ?c4 ?c5 ?_)
        case c1 =>
          intro j u hj
          match j, hj with
          | 0, hj => simp at hj; subst hj; simp [Addr.add]
        case c2 => intro u hu; simp at hu; subst hu; rfl
        case c3 => unfold maxLen; omega
        case c4 => omega
        case c5 => have := hbw.size; simp; omega
        intro v' w1 hown' hgrow _
        have hO2 := HK.out v' w1 hown'
        have hb2 : Below w.heap.size w w1 := (hbw.alloc hbw.size _).grown hgrow (by have := hbw.size; simp; omega) (fun j hj => (HW.out.lt j hj).1)
        have HO2 := Lib.hid hO2; clear hO2 hown' hgrow
        go_wp2
        go_roundw
        case rel => exact ⟨k + 1, by omega, by go_num, HO2.out, hb2⟩
        case measure => simp [intOf]; omega
      · have e : n = (s[k].toNat : Int) + 32 := by rw [← Hn.out, lowb_yes s[k] c1 c2]
        subst e
        go_wp2_with (at_builtin; refine wpList_append_own _ rfl _ _ 157 rfl w.heap.size 5 i0 (.int .u8 0) 1 1 Tryz.underlying157 hi hz0 hz1 hz2 rfl (by decide) _ _ _ rfl (HW.out.alloc _) ⟨wr.heap.size, 0, none⟩ 1 1 [.int .u8 ((s[k].toNat : Int) + 32)] rfl rfl ?c1 ?c2 ?c3 ?c4 ?c5 ?_)
        case c1 =>
          intro j u hj
          match j, hj with
          | 0, hj => simp at hj; subst hj; simp [Addr.add]
        case c2 => intro u hu; simp at hu; subst hu; rfl
        case c3 => unfold maxLen; omega
        case c4 => omega
        case c5 => have := hbw.size; simp; omega
        intro v' w1 hown' hgrow _
        have hO2 := HK.out v' w1 hown'
        have hb2 : Below w.heap.size w w1 := (hbw.alloc hbw.size _).grown hgrow (by have := hbw.size; simp; omega) (fun j hj => (HW.out.lt j hj).1)
        have HO2 := Lib.hid hO2; clear hO2 hown' hgrow
        go_wp2
        go_roundw
        case rel => exact ⟨k + 1, by omega, by go_num, HO2.out, hb2⟩
        case measure => simp [intOf]; omega
    · have hc := HO.out.conv
      have hke : s.data.toList.take k = s.data.toList := take_all s k (by omega)
      rw [hke] at hc
      go_wp2
      go_ret
      exact ⟨rfl, hbw⟩
theorem rlower_any (s : ByteArray) (w : World) (hs : s.size ≤ 1000000) :
    Calls Tryz.prog 116 #[.string s] w fun e w' => e = .returned (.string ⟨(lowerL s.data.toList).toArray⟩) ∧ Below w.heap.size w w' := rlower_wide s w (by omega)
end Go.Proofs.YtcgdcbnhpbokfaaGreatDoor
/- Names taken out: the plain law, and both walks. -/
namespace Go.Proofs.YtcgdcbnhpbokfaaGreatDoor
open Go.RowKit
set_option maxRecDepth 100000

def hasL (names : List (List UInt8)) (nm : List UInt8) : Bool := names.any fun n => lowerL n == lowerL nm
def delL (xs : List Fld) (names : List (List UInt8)) : List Fld := xs.filter fun f => !hasL names f.1
theorem delL_le (xs : List Fld) (names : List (List UInt8)) : (delL xs names).length ≤ xs.length := List.length_filter_le _ _
/-- Is the element at a place one of which something is so? -/
def atP (q : Fld → Bool) (xs : List Fld) (k : Nat) : Bool := match xs[k]? with | some f => q f | none => false
theorem atP_at (q : Fld → Bool) (xs : List Fld) (k : Nat) (h : k < xs.length) : atP q xs k = q xs[k] := by
  unfold atP; rw [List.getElem?_eq_getElem h]

theorem delff_any (l : List UInt8) (b : Nat) (f1 : List UInt8) (w : World) (h : w.cell? ⟨b, 0, none⟩ = some (.string ⟨f1.toArray⟩)) (h1 : l.length ≤ 1000000) (h2 : f1.length ≤ 1000000) :
    Calls Tryz.prog 82 #[.string ⟨l.toArray⟩, .pointer (some ⟨b, 0, none⟩)] w fun e w' => e = .returned (.bool (lowerL l == lowerL f1)) ∧ Below w.heap.size w w' := by
  have k1 := tsame_any ⟨l.toArray⟩ ⟨f1.toArray⟩ w (by rw [Lib.size_eq]; exact h1) (by rw [Lib.size_eq]; exact h2)
  simp only at k1
  generalize (lowerL l == lowerL f1) = out at *
  have K1 := Lib.hid k1; clear k1
  go_enter Tryz.func82, Tryz.ntmps82
  go_wp2_with fail
  refine K1.out.mono ?_
  rintro e w1 ⟨rfl, hb1⟩
  go_wp2
  go_ret
  exact ⟨rfl, hb1⟩

set_option maxHeartbeats 2000000 in
theorem delf_any (f : Fld) (nb : Nat) (N : Option Addr) (nn nc : Nat) (names : List (List UInt8)) (w : World) (h : w.cell? ⟨nb, 0, none⟩ = some (.slice N nn nc)) (hnb : nb < w.heap.size) (hr : Rd N nn 1 (strsV names) w) (hn : nn ≤ 1000000) (hl : ∀ l ∈ names, l.length ≤ 1000000) (hf : f.1.length ≤ 1000000) :
    Calls Tryz.prog 81 #[.agg #[.string ⟨f.1.toArray⟩, .string ⟨f.2.toArray⟩], .pointer (some ⟨nb, 0, none⟩)] w fun e w' => e = .returned (.bool (!hasL names f.1)) ∧ Below w.heap.size w w' := by
  obtain ⟨f1, f2⟩ := f
  simp only at hf ⊢
  have hAl := (Below.refl w.heap.size w).alloc (Nat.le_refl _) (.cells #[.string ⟨f1.toArray⟩, .string ⟨f2.toArray⟩] 44)
  have k1 := containsDel_any (.pointer (some ⟨w.heap.size, 0, none⟩)) (fun l => lowerL l == lowerL f1) N nn nc names (w.alloc (.cells #[.string ⟨f1.toArray⟩, .string ⟨f2.toArray⟩] 44)) (hr.below hAl) hn (by
    intro l hl' W hW
    exact delff_any l w.heap.size f1 W ((hW.cell (p := ⟨w.heap.size, 0, none⟩) (by simp)).trans (World.cell?_alloc_mark w _ _ _ 0)) (hl l hl') hf)
  have he : (names.any fun l => lowerL l == lowerL f1) = hasL names f1 := rfl
  rw [he] at k1
  generalize hasL names f1 = out at *
  have c0 : (w.alloc (.cells #[.string ⟨f1.toArray⟩, .string ⟨f2.toArray⟩] 44)).cell? ⟨nb, 0, none⟩ = some (.slice N nn nc) := (hAl.cell (p := ⟨nb, 0, none⟩) hnb).trans h
  have K1 := Lib.hid k1; clear k1 he hr hl
  go_enter Tryz.func81, Tryz.ntmps81
  go_wp2_with fail
  refine K1.out.mono ?_
  rintro e w1 ⟨rfl, hb1⟩
  go_wp2
  go_ret
  exact ⟨rfl, hAl.trans (hb1.mono (by simp))⟩

set_option maxHeartbeats 2000000 in
theorem del_any (A : Option Addr) (n c : Nat) (xs : List Fld) (N : Option Addr) (nn nc : Nat) (names : List (List UInt8)) (w : World) (hr : Rd A n 2 (fldsV xs) w) (hn : n ≤ 1000000) (hs : ∀ f ∈ xs, f.1.length ≤ 1000000)
    (hR : Rd N nn 1 (strsV names) w) (hnn : nn ≤ 1000000) (hl : ∀ l ∈ names, l.length ≤ 1000000) :
    Calls Tryz.prog 29 #[.slice A n c, .slice N nn nc] w (FieldsPost w (delL xs names)) := by
  have hAl := (Below.refl w.heap.size w).alloc (Nat.le_refl _) (.cells #[.slice N nn nc] 46)
  have hlast : (xs.take xs.length).filter (fun f => !hasL names f.1) = delL xs names := by rw [List.take_length]; rfl
  have k1 := keptDel_any (.pointer (some ⟨w.heap.size, 0, none⟩)) w.heap.size w A n c xs (w.alloc (.cells #[.slice N nn nc] 46)) hr hn hAl (Nat.le_refl _) (by simp)
    (fun _ W => Below w.heap.size w W ∧ W.cell? ⟨w.heap.size, 0, none⟩ = some (.slice N nn nc) ∧ w.heap.size < W.heap.size) (atP (fun f => !hasL names f.1) xs) (fun k => (xs.take k).filter fun f => !hasL names f.1) rfl
    (by
      intro k hk
      rw [atP_at _ _ _ hk, List.take_succ_eq_append_getElem hk, List.filter_append]
      cases hq : (!hasL names xs[k].1) <;> simp [hq])
    ⟨hAl, World.cell?_alloc_mark w _ _ _ 0, by simp⟩
    (by
      rintro k W W' ⟨h1, h2, h3⟩ hb
      exact ⟨h1.trans (hb.mono (by simp)), (hb.cell (p := ⟨w.heap.size, 0, none⟩) (by simp)).trans h2, Nat.lt_of_lt_of_le h3 hb.size⟩)
    (by
      rintro k hk W ⟨h1, h2, h3⟩ hsz
      rw [atP_at _ _ _ hk]
      refine (delf_any xs[k] w.heap.size N nn nc names W h2 h3 (hR.below h1) hnn hl (hs _ (List.getElem_mem _))).mono ?_
      rintro e W' ⟨rfl, hb⟩
      exact ⟨rfl, ⟨h1.trans (hb.mono h1.size), (hb.cell (p := ⟨w.heap.size, 0, none⟩) h3).trans h2, Nat.lt_of_lt_of_le h3 hb.size⟩, Beside.of hb (by omega)⟩)
  simp only [hlast] at k1
  generalize delL xs names = fs at *
  have K1 := Lib.hid k1; clear k1 hr hs hR hl hlast hn hnn
  go_enter Tryz.func29, Tryz.ntmps29
  go_wp2_with fail
  refine K1.out.mono ?_
  rintro e w1 ⟨a1, c1, rfl, ho1, hb1, -⟩
  have HO1 := Lib.hid (ho1.base (B' := w.heap.size) (by simp)); clear ho1
  go_wp2
  go_ret
  exact ⟨a1, c1, rfl, HO1.out, hAl.trans hb1⟩

/-! The document's. -/
end Go.Proofs.YtcgdcbnhpbokfaaGreatDoor
/- A name set: the plain law, and both walks. -/
namespace Go.Proofs.YtcgdcbnhpbokfaaGreatDoor
open Go.RowKit
set_option maxRecDepth 100000

def sameN (nm : List UInt8) (f : Fld) : Bool := lowerL f.1 == lowerL nm
def setP (nm v : List UInt8) : Bool → List Fld → List Fld
  | _, [] => []
  | th, f :: r => bif sameN nm f then (bif th then setP nm v true r else (f.1, v) :: setP nm v true r) else f :: setP nm v th r
def keepN (nm : List UInt8) : Bool → List Fld → List Fld
  | _, [] => []
  | th, f :: r => bif sameN nm f then (bif th then keepN nm true r else f :: keepN nm true r) else f :: keepN nm th r
def setL (xs : List Fld) (nm v : List UInt8) : List Fld := setP nm v false xs ++ (bif xs.any (sameN nm) then [] else [(nm, v)])
def updF (nm v : List UInt8) (f : Fld) : Fld := bif sameN nm f then (f.1, v) else f

/-! Fields in a row of the call's own: read, and their values written. -/
theorem OwnF.at {B n cap : Nat} {a : Option Addr} {fs : List Fld} {w : World} (h : OwnF B (.slice a n cap) fs w) {k : Nat} (hk : k < fs.length) :
    ∃ g, a = some ⟨g, 0, none⟩ ∧ n = fs.length ∧ B ≤ g ∧ g < w.heap.size ∧ w.cell? ⟨g, k * 2, none⟩ = some (.string ⟨(fs[k]).1.toArray⟩) ∧ w.cell? ⟨g, k * 2 + 1, none⟩ = some (.string ⟨(fs[k]).2.toArray⟩) ∧ w.frozen? ⟨g, k * 2 + 1, none⟩ = false := by
  obtain ⟨hn, hr⟩ := h.rd
  obtain ⟨b, o, e, hl, c1, c2⟩ := hr.fld_at hk
  rcases h.2 with ⟨hv, h0⟩ | ⟨g, cp, cur, hv, hg, hh, _⟩
  · omega
  · cases hv
    cases e
    rw [Nat.zero_add] at c1 c2
    exact ⟨b, rfl, hn, hg, hl, c1, c2, by simp [World.frozen?, hh]⟩
theorem fldsV_set : ∀ (fs : List Fld) (k : Nat) (hk : k < fs.length) (v : List UInt8), fldsV (fs.set k ((fs[k]).1, v)) = (fldsV fs).set (k * 2 + 1) (.string ⟨v.toArray⟩)
  | [], k, hk, _ => by simp at hk
  | x :: r, 0, _, v => by simp [fldsV, fldV]
  | x :: r, k + 1, hk, v => by
    have ih := fldsV_set r k (by simpa using hk) v
    have e : ∀ l : List Fld, fldsV (x :: l) = (.string ⟨x.1.toArray⟩) :: (.string ⟨x.2.toArray⟩) :: fldsV l := fun _ => rfl
    rw [List.set_cons_succ, e, e, show (k + 1) * 2 + 1 = (k * 2 + 1) + 1 + 1 from by omega, List.set_cons_succ, List.set_cons_succ, ← ih]
    rfl
theorem OwnF.stored {B n cap g : Nat} {fs : List Fld} {w : World} (h : OwnF B (.slice (some ⟨g, 0, none⟩) n cap) fs w) {k : Nat} (hk : k < fs.length) (v : List UInt8) :
    OwnF B (.slice (some ⟨g, 0, none⟩) n cap) (fs.set k ((fs[k]).1, v)) (w.setCell ⟨g, k * 2 + 1, none⟩ (.string ⟨v.toArray⟩)) := by
  have hn := h.rd.1
  subst hn
  unfold OwnF at *
  rw [List.length_set, fldsV_set fs k hk v]
  exact (h.stored (k * 2 + 1) _).1
def updK (nm v : List UInt8) (ks : List Fld) (k : Nat) : List Fld := (ks.take k).map (updF nm v) ++ ks.drop k
def pickP (nm : List UInt8) (xs : List Fld) (k : Nat) : Bool := match xs[k]? with | some f => bif sameN nm f then !(xs.take k).any (sameN nm) else true | none => false
end Go.Proofs.YtcgdcbnhpbokfaaGreatDoor
/- What a name has behind setting it and taking it out: the plain law. -/
namespace Go.Proofs.YtcgdcbnhpbokfaaGreatDoor
open Go.RowKit

end Go.Proofs.YtcgdcbnhpbokfaaGreatDoor
/- A split's pieces are few; an error leaves none. -/
namespace Go.Proofs.YtcgdcbnhpbokfaaGreatDoor
open Go.RowKit

theorem split_few (sep : UInt8) (l : List UInt8) : (splitL sep l).1.length ≤ 64 := by
  unfold splitL
  cases (sep.toNat == 34 || sep.toNat == 92)
  · cases splP sep false false [] [] l with
    | none => simp [splitE]
    | some ls =>
      simp only [splitE, cond_false]
      cases h : decide (64 < ls.length)
      · simp at h ⊢; exact h
      · simp
  · simp
theorem split_bad (sep : UInt8) (l : List UInt8) : (splitL sep l).2 = 0 ∨ (splitL sep l).1 = [] := by
  unfold splitL
  cases (sep.toNat == 34 || sep.toNat == 92)
  · cases splP sep false false [] [] l with
    | none => right; rfl
    | some ls =>
      simp only [splitE, cond_false]
      cases h : decide (64 < ls.length)
      · left; rfl
      · right; rfl
  · right; rfl
end Go.Proofs.YtcgdcbnhpbokfaaGreatDoor
/- The names that go no further: the plain law. -/
namespace Go.Proofs.YtcgdcbnhpbokfaaGreatDoor
open Go.RowKit

def connW : List UInt8 := [99, 111, 110, 110, 101, 99, 116, 105, 111, 110]
def hop9 : List (List UInt8) := [[99, 111, 110, 110, 101, 99, 116, 105, 111, 110], [107, 101, 101, 112, 45, 97, 108, 105, 118, 101], [112, 114, 111, 120, 121, 45, 99, 111, 110, 110, 101, 99, 116, 105, 111, 110], [116, 101], [116, 114, 97, 105, 108, 101, 114], [116, 114, 97, 110, 115, 102, 101, 114, 45, 101, 110, 99, 111, 100, 105, 110, 103], [117, 112, 103, 114, 97, 100, 101], [112, 114, 111, 120, 121, 45, 97, 117, 116, 104, 101, 110, 116, 105, 99, 97, 116, 101], [112, 114, 111, 120, 121, 45, 97, 117, 116, 104, 111, 114, 105, 122, 97, 116, 105, 111, 110]]
def hopP (acc : List (List UInt8)) (p : List UInt8) : List (List UInt8) := bif tokenL (lowerL p) && !acc.contains (lowerL p) then acc ++ [lowerL p] else acc
def hopV (acc : List (List UInt8)) (v : List UInt8) : List (List UInt8) := (splitL 44 v).1.foldl hopP acc
def hopVs (acc : List (List UInt8)) (vs : List (List UInt8)) : List (List UInt8) := vs.foldl hopV acc
def hopL (xs : List Fld) : List (List UInt8) := hopVs hop9 (valuesL xs connW)
def cleanL (xs : List Fld) : List Fld := delL xs (hopL xs)

def Low (acc : List (List UInt8)) : Prop := ∀ a ∈ acc, lowerL a = a
theorem Low.step {acc : List (List UInt8)} (h : Low acc) (p : List UInt8) : Low (hopP acc p) := by
  unfold hopP
  cases (tokenL (lowerL p) && !acc.contains (lowerL p))
  · exact h
  · intro a ha
    rcases List.mem_append.1 ha with h1 | h1
    · exact h a h1
    · rw [List.mem_singleton.1 h1]; exact lower_twice p
end Go.Proofs.YtcgdcbnhpbokfaaGreatDoor
/- What a 304 makes of an entry: the plain law. -/
namespace Go.Proofs.YtcgdcbnhpbokfaaGreatDoor
open Go.RowKit

def own5 : List (List UInt8) := [[99, 111, 110, 116, 101, 110, 116, 45, 108, 101, 110, 103, 116, 104], [99, 111, 110, 116, 101, 110, 116, 45, 101, 110, 99, 111, 100, 105, 110, 103], [99, 111, 110, 116, 101, 110, 116, 45, 116, 121, 112, 101], [99, 111, 110, 116, 101, 110, 116, 45, 114, 97, 110, 103, 101], [118, 97, 114, 121]]
def dated2 : List (List UInt8) := [[97, 103, 101], [100, 97, 116, 101]]
/-- What a 304 brings. -/
def bringsL (rep : List Fld) : List Fld := delL rep (hopL rep ++ own5)
/-- The fields of an entry that is made new. -/
def withL (xs rep : List Fld) : List Fld := delL xs (dated2 ++ (bringsL rep).map (·.1)) ++ bringsL rep
theorem hasL_mem {ns : List (List UInt8)} {x nm : List UInt8} (h : x ∈ ns) (e : lowerL x = lowerL nm) : hasL ns nm = true := by
  unfold hasL; rw [List.any_eq_true]; exact ⟨x, h, by rw [e]; simp⟩
theorem valuesL_app (xs ys : List Fld) (nm : List UInt8) : valuesL (xs ++ ys) nm = valuesL xs nm ++ valuesL ys nm := by unfold valuesL; rw [List.filter_append, List.map_append]
end Go.Proofs.YtcgdcbnhpbokfaaGreatDoor
/- How long a reply is fresh: the laws, in plain words; no program in sight. -/
namespace Go.Proofs.YtcgdcbnhpbokfaaGreatDoor
open Go.RowKit

/-- How old it was when it was got. -/
def baseF (xs : List Fld) (asked got : Int) : Int := max (bif (whenF xs fDate got).2 then since (whenF xs fDate got).1 got else 0) (addB (numF (getL xs fAge).1) (since asked got))
/-! Fields of a name in the place of others. -/
def withoutL (xs : List Fld) (nm : List UInt8) (vals : List (List UInt8)) : List Fld := (xs.filter fun f => !(lowerL f.1 == lowerL nm)) ++ vals.map fun v => (nm, v)
/-! What 'max-age=' and a number say. -/
def maxAgeT (n : Int) : List UInt8 := sMaxAge ++ 61 :: Lib.decDigits (bnd n).toNat
theorem mine_one (d : Dir) (dev : List UInt8) (h : d.for_ = []) : mineL [d] dev = [d] := by
  have hown : ownB dev d = false := by
    unfold ownB
    rw [h]
    cases dev with
    | nil => rfl
    | cons _ _ => rfl
  unfold mineL
  rw [List.filter_cons]
  have : mineB [d] dev d = true := by
    unfold mineB
    rw [hown, h]
    simp [hown]
  rw [this]
  rfl
end Go.Proofs.YtcgdcbnhpbokfaaGreatDoor
/- What a name has in a request, by which names a reply varies: plain. -/
namespace Go.Proofs.YtcgdcbnhpbokfaaGreatDoor

def piecesOf (v : List UInt8) : List (List UInt8) := bif (splitL 44 v).2 == 0 then (splitL 44 v).1 else [trimL v]
def keepP (ps : List (List UInt8)) : List (List UInt8) := ps.filter fun p => !p.isEmpty
def allP (vs : List (List UInt8)) : List (List UInt8) := vs.flatMap fun v => keepP (piecesOf v)
def cs : List UInt8 := [44, 32]
/-- request.value. -/
def valueL (xs : List Fld) (name : List UInt8) : List UInt8 := Lib.join (allP (valuesL xs name)) cs

theorem splitL_le' (sep : UInt8) (l : List UInt8) : (splitL sep l).1.length ≤ 64 := by
  unfold splitL
  cases (sep.toNat == 34 || sep.toNat == 92)
  · cases splP sep false false [] [] l with
    | none => simp [splitE]
    | some ls =>
      simp only [splitE, cond_false]
      cases h : decide (64 < ls.length)
      · simp at h ⊢; exact h
      · simp
  · simp
theorem valuesL_mem {xs : List Fld} {name v : List UInt8} (h : v ∈ valuesL xs name) : ∃ f ∈ xs, f.2 = v := by
  unfold valuesL at h
  obtain ⟨f, hf, e⟩ := List.mem_map.1 h
  exact ⟨f, (List.mem_filter.1 hf).1, e⟩

end Go.Proofs.YtcgdcbnhpbokfaaGreatDoor
/- By which names a reply varies: plain. -/
namespace Go.Proofs.YtcgdcbnhpbokfaaGreatDoor

def nameOk (nm : List UInt8) : Bool := tokenL nm && !(nm == [42])
def addN (acc : List (List UInt8)) (nm : List UInt8) : List (List UInt8) := bif acc.contains nm then acc else acc ++ [nm]
def namesPs : List (List UInt8) → List (List UInt8) → Option (List (List UInt8))
  | acc, [] => some acc
  | acc, p :: r => bif nameOk (lowerL p) then namesPs (addN acc (lowerL p)) r else none
def namesVs : List (List UInt8) → List (List UInt8) → Option (List (List UInt8))
  | acc, [] => some acc
  | acc, v :: r => bif (splitL 44 v).2 == 0 then (match namesPs acc (splitL 44 v).1 with | none => none | some a => namesVs a r) else none
def varyW : List UInt8 := [118, 97, 114, 121]
/-- vary.Names. -/
def namesO (xs : List Fld) : Option (List (List UInt8)) := namesVs [] (valuesL xs varyW)
def optL (o : Option (List (List UInt8))) : List (List UInt8) := o.getD []

theorem addN_le (acc : List (List UInt8)) (nm : List UInt8) : (addN acc nm).length ≤ acc.length + 1 := by
  unfold addN; cases acc.contains nm <;> simp
theorem drop_consL {α : Type} (xs : List α) (k : Nat) (h : k < xs.length) : xs.drop k = xs[k] :: xs.drop (k + 1) := List.drop_eq_getElem_cons h
/-- What has been met: a count of each name, nought for those that are not there. -/
def Count (f : List UInt8 → Int) (acc : List (List UInt8)) (n : Nat) : Prop := (∀ x, 0 ≤ f x ∧ f x ≤ n) ∧ ∀ x, f x = 0 ↔ acc.contains x = false
theorem Count.start : Count (fun _ => 0) [] 0 := ⟨fun _ => ⟨Int.le_refl _, by show (0 : Int) ≤ _; omega⟩, fun x => by simp⟩
def bump (f : List UInt8 → Int) (nm : List UInt8) : List UInt8 → Int := fun x => if x = nm then f nm + 1 else f x
theorem Count.step {f : List UInt8 → Int} {acc : List (List UInt8)} {n : Nat} (h : Count f acc n) (nm : List UInt8) : Count (bump f nm) (addN acc nm) (n + 1) := by
  refine ⟨fun x => ?_, fun x => ?_⟩
  · unfold bump
    have h1 := h.1 x
    have h2 := h.1 nm
    split
    · constructor <;> omega
    · constructor <;> omega
  · unfold bump addN
    have h1 := h.1 nm
    have h2 := h.2 x
    have h3 := h.2 nm
    by_cases e : x = nm
    · subst e
      rw [if_pos rfl]
      cases hc : acc.contains x
      · simp; omega
      · simp at hc
        simp [hc]; omega
    · rw [if_neg e, h2]
      cases hc : acc.contains nm
      · simp [e]
      · simp
end Go.Proofs.YtcgdcbnhpbokfaaGreatDoor
/- The walks of strings.CutPrefix and etag.read. -/
namespace Go.Proofs.YtcgdcbnhpbokfaaGreatDoor
open Go.RowKit

set_option maxHeartbeats 400000 in
theorem hp (s p : ByteArray) (w : World) :
    Calls Tryz.prog 204 #[.string s, .string p] w fun e w' => e = .returned (.bool (Lib.hasPrefix s.data.toList p.data.toList)) ∧ w = w' := by
  have H := Lib.hasPrefix_raw s p
  by_cases h1 : p.size ≤ s.size
  · have H2 := Lib.hid H; clear H
    go_enter Tryz.func204, Tryz.ntmps204
    go_wp2
    go_ret
    exact ⟨by rw [← H2.out]; simp [h1], rfl⟩
  · have H2 := Lib.hid H; clear H
    go_enter Tryz.func204, Tryz.ntmps204
    go_wp2
    go_ret
    exact ⟨by rw [← H2.out]; simp [h1], rfl⟩

/-- strings.CutPrefix. -/
def cutP (s p : ByteArray) : ByteArray := if Lib.hasPrefix s.data.toList p.data.toList then s.extract p.size s.size else s
theorem cutP_le (s p : ByteArray) : (cutP s p).size ≤ s.size := by
  unfold cutP; split <;> simp [ByteArray.size_extract]

set_option maxHeartbeats 400000 in
theorem cp (s p : ByteArray) (w : World) :
    Calls Tryz.prog 144 #[.string s, .string p] w fun e w' => e = .returned (.tuple #[.string (cutP s p), .bool (Lib.hasPrefix s.data.toList p.data.toList)]) ∧ w = w' := by
  by_cases h : Lib.hasPrefix s.data.toList p.data.toList = true
  · have hle : p.size ≤ s.size := by
      have := Lib.hasPrefix_raw s p; rw [h] at this; simp at this; exact this.1
    have hc : cutP s p = s.extract p.size s.size := by unfold cutP; rw [if_pos h]
    have Hc := Lib.hid hc; clear hc
    have H := Lib.hid h; clear h

    go_enter Tryz.func144, Tryz.ntmps144
    go_wp2_with (first | (go_at_call 204; refine (hp s p _).mono ?_; rintro e w' ⟨rfl, rfl⟩; rw [H.out]) | go_in)
    go_ret2
    exact ⟨by rw [Hc.out, H.out]; rfl, rfl⟩
  · have h' : Lib.hasPrefix s.data.toList p.data.toList = false := by simpa using h
    have hc : cutP s p = s := by unfold cutP; rw [if_neg h]
    have Hc := Lib.hid hc; clear hc h
    have H := Lib.hid h'; clear h'
    go_enter Tryz.func144, Tryz.ntmps144
    go_wp2_with (first | (go_at_call 204; refine (hp s p _).mono ?_; rintro e w' ⟨rfl, rfl⟩; rw [H.out]) | go_in)
    go_ret2
    exact ⟨by rw [Hc.out, H.out]; rfl, rfl⟩

/-! plain -/
def okb (c : UInt8) : Bool := !(decide (c.toNat ≤ 32) || c.toNat == 34 || c.toNat == 127)
/-- the tag between the quotes -/
def inner (t : ByteArray) : ByteArray := t.extract 1 (t.size - 1)
def tagged (t : ByteArray) : Bool :=
  if h : 2 ≤ t.size then t[0].toNat == 34 && t[t.size - 1].toNat == 34 && (inner t).data.toList.all okb else false
def empt : ByteArray := ⟨#[]⟩
structure Ent where
  weak : Bool
  right : Bool
  tag : ByteArray
def ent (s : ByteArray) : Ent :=
  if tagged (cutP s ⟨#[87, 47]⟩) then ⟨Lib.hasPrefix s.data.toList [87, 47], true, inner (cutP s ⟨#[87, 47]⟩)⟩ else ⟨false, false, empt⟩
def Ent.val (x : Ent) : Value := .agg #[.bool x.weak, .bool x.right, .string x.tag]

set_option linter.unusedVariables false in
set_option maxHeartbeats 1000000 in
theorem rd (s : ByteArray) (w : World) (hs : s.size ≤ 8000) :
    Calls Tryz.prog 94 #[.string s] w fun e w' => e = .returned (ent s).val ∧ Below w.heap.size w w' := by
  have hle := cutP_le s ⟨#[87, 47]⟩
  obtain ⟨E, hE⟩ : ∃ E, E = ent s := ⟨_, rfl⟩
  have HE := Lib.hid hE
  rw [← hE]; clear hE
  unfold ent at HE
  rw [show Lib.hasPrefix s.data.toList [87, 47] = Lib.hasPrefix s.data.toList (⟨#[87, 47]⟩ : ByteArray).data.toList from rfl] at HE
  go_enter Tryz.func94, Tryz.ntmps94
  go_upto_region 2 with (first | (go_at_call 144; refine (cp s _ _).mono ?_; rintro e w' ⟨rfl, rfl⟩) )
  generalize cutP s ⟨#[87, 47]⟩ = t at *
  generalize Lib.hasPrefix _ _ = b at *
  have ht : t.size ≤ 8000 := by omega
  clear hle
  by_cases h2 : 2 ≤ t.size
  · by_cases h0 : t[0].toNat = 34
    · by_cases h1 : t[t.size - 1].toNat = 34
      · have hx : (inner t).size = t.size - 2 := by unfold inner; simp [ByteArray.size_extract]; omega
        have Hx := Lib.hid hx
        have e1 : t.size - 1 - 1 = t.size - 2 := by omega
        have d0 : ((t[0].toNat : Int) != 34) = false := by simp; omega
        have d1 : ((t[t.size - 1].toNat : Int) != 34) = false := by simp; omega
        have d2 : decide ((t.size : Int) < 2) = false := by simp; omega
        go_wp2
        clear d0 d1 d2
        have ei : t.extract 1 (t.size - 1) = inner t := rfl
        simp only [ei, ← Hx.out]
        have ht2 : t.size = (inner t).size + 2 := by omega
        have hI : ∀ k, k ≤ (inner t).size → ((inner t).data.toList.take k).all okb = true → k = (inner t).size → tagged t = true := by
          intro k _ hk e
          unfold tagged
          rw [dif_pos h2, h0, h1, ← take_all (inner t) k (by omega), hk]; rfl
        have hB : ∀ k (h : k < (inner t).size), okb (inner t)[k] = false → tagged t = false := by
          intro k h hk
          unfold tagged
          rw [dif_pos h2, all_bad okb (inner t) k h hk]; simp
        have HI := Lib.hid hI; have HB := Lib.hid hB
        clear hI hB hx e1 ht2 Hx ei h0 h1
        have hn : (inner t).size ≤ 8000 := by unfold inner; simp [ByteArray.size_extract]; omega
        clear ht h2 hs
        generalize inner t = g at *
        go_loop [37] (fun i => ∃ k : Nat, k ≤ g.size ∧ i = .int .i64 k ∧ (g.data.toList.take k).all okb = true) (fun i => g.size - (intOf i).toNat)
        case atStart => exact ⟨0, Nat.zero_le _, rfl, by simp⟩
        case round =>
          obtain ⟨k, hk, rfl, hall⟩ := hrel
          have Hall := Lib.hid hall; clear hall
          by_cases hlt : k < g.size
          · by_cases hb : okb g[k] = true
            · have c1 : decide ((g[k].toNat : Int) ≤ 32) = false := by simp [okb] at hb; simp; omega
              have c2 : ((g[k].toNat : Int) == 34) = false := by simp [okb] at hb; simp; omega
              have c3 : ((g[k].toNat : Int) == 127) = false := by simp [okb] at hb; simp; omega
              have Hb := Lib.hid hb; clear hb
              go_wp2
              go_round
              case rel => exact ⟨k + 1, by omega, by go_num, by rw [all_snoc okb g k hlt, Hall.out, Hb.out]; rfl⟩
              case measure => simp [intOf]; omega
            · have hf := HB.out k hlt (by simpa using hb)
              have Hf := Lib.hid hf; clear hf
              have hb' : decide ((g[k].toNat : Int) ≤ 32) = true ∨ (decide ((g[k].toNat : Int) ≤ 32) = false ∧ ((g[k].toNat : Int) == 34) = true) ∨ (decide ((g[k].toNat : Int) ≤ 32) = false ∧ ((g[k].toNat : Int) == 34) = false ∧ ((g[k].toNat : Int) == 127) = true) := by simp [okb] at hb; simp; omega
              clear hb
              rcases hb' with c1 | ⟨c1, c2⟩ | ⟨c1, c2, c3⟩
              all_goals
                go_wp2
                refine bodyPost_ret (v := (⟨false, false, empt⟩ : Ent).val) (by simp [results, Tryz.results94, go_sem]; rfl) rfl ⟨?_, (Below.refl _ _).alloc (Nat.le_refl _) _⟩
                rw [HE.out, Hf.out]; rfl
          · have hf := HI.out k hk Hall.out (by omega)
            have Hf := Lib.hid hf; clear hf
            go_wp2
            refine bodyPost_ret (v := (⟨b, true, g⟩ : Ent).val) (by simp [results, Tryz.results94, go_sem]; rfl) rfl ⟨?_, (Below.refl _ _).alloc (Nat.le_refl _) _⟩
            rw [HE.out, Hf.out]; rfl
      · have hf : tagged t = false := by unfold tagged; rw [dif_pos h2]; simp [h1]
        have d0 : ((t[0].toNat : Int) != 34) = false := by simp; omega
        have d1 : ((t[t.size - 1].toNat : Int) != 34) = true := by simp; omega
        have d2 : decide ((t.size : Int) < 2) = false := by simp; omega
        clear h0 h1
        have Hf := Lib.hid hf; clear hf
        go_wp2
        refine bodyPost_ret (v := (⟨false, false, empt⟩ : Ent).val) (by simp [results, Tryz.results94, go_sem]; rfl) rfl ⟨?_, (Below.refl _ _).alloc (Nat.le_refl _) _⟩
        rw [HE.out, Hf.out]; rfl
    · have hf : tagged t = false := by unfold tagged; rw [dif_pos h2]; simp [h0]
      have d0 : ((t[0].toNat : Int) != 34) = true := by simp; omega
      have d2 : decide ((t.size : Int) < 2) = false := by simp; omega
      clear h0
      have Hf := Lib.hid hf; clear hf
      go_wp2
      refine bodyPost_ret (v := (⟨false, false, empt⟩ : Ent).val) (by simp [results, Tryz.results94, go_sem]; rfl) rfl ⟨?_, (Below.refl _ _).alloc (Nat.le_refl _) _⟩
      rw [HE.out, Hf.out]; rfl
  · have hf : tagged t = false := by unfold tagged; rw [dif_neg h2]
    have Hf := Lib.hid hf; clear hf
    go_wp2
    refine bodyPost_ret (v := (⟨false, false, empt⟩ : Ent).val) (by simp [results, Tryz.results94, go_sem]; rfl) rfl ⟨?_, (Below.refl _ _).alloc (Nat.le_refl _) _⟩
    rw [HE.out, Hf.out]; rfl

end Go.Proofs.YtcgdcbnhpbokfaaGreatDoor
/- Which replies may be kept, in plain words; no program in sight. -/
namespace Go.Proofs.YtcgdcbnhpbokfaaGreatDoor
open Go.RowKit

def mGET : List UInt8 := [71, 69, 84]
def sPriv : List UInt8 := [112, 114, 105, 118, 97, 116, 101]
def sPub : List UInt8 := [112, 117, 98, 108, 105, 99]
def sMust : List UInt8 := [109, 117, 115, 116, 45, 114, 101, 118, 97, 108, 105, 100, 97, 116, 101]
def fAuth : List UInt8 := [97, 117, 116, 104, 111, 114, 105, 122, 97, 116, 105, 111, 110]
def fETag : List UInt8 := [101, 116, 97, 103]
def fLast : List UInt8 := [108, 97, 115, 116, 45, 109, 111, 100, 105, 102, 105, 101, 100]
def hasD (l : List Dir) (names : List (List UInt8)) : Bool := names.any fun n => (findO l n).isSome
def validF (xs : List Fld) (got : Int) : Bool := (ent ⟨(getL xs fETag).1.toArray⟩).right || ((dateP (getL xs fLast).1 got).2 == 0)
def okSt (st : Int) : Bool := st == 200 || st == 301 || st == 404 || st == 410
def ccD (xs : List Fld) : List Dir := dlistL (valuesL xs fCC)
def cond3 (qs xs : List Fld) (dev : List UInt8) : Bool := !hasD (ccD qs) [noStore] && !hasD (ccD xs) [noStore, sPriv] && !(ctlF xs dev).noStore
def cond5 (qs xs : List Fld) (dev : List UInt8) : Bool := !(getL qs fAuth).2 || hasD (ccD xs) [sPub, fSMax, sMust] || (ctlF xs dev).hasAge
def cond6 (xs : List Fld) (got : Int) (dev : List UInt8) : Bool := decide (0 < lifeF xs got dev) || validF xs got
/-- May a reply be kept? -/
def mayF (m : List UInt8) (qs : List Fld) (st : Int) (xs : List Fld) (got : Int) (dev : List UInt8) : Bool :=
  (m == mGET) && (okSt st && (cond3 qs xs dev && ((namesO xs).isSome && (cond5 qs xs dev && cond6 xs got dev))))

theorem may_get {m : List UInt8} {qs xs : List Fld} {st got : Int} {dev : List UInt8} (h : mayF m qs st xs got dev = true) : m = mGET := by
  unfold mayF at h
  rw [Bool.and_eq_true] at h
  exact beq_iff_eq.1 h.1
theorem may_not {m : List UInt8} (qs xs : List Fld) (st got : Int) (dev : List UInt8) (h : (m == mGET) = false) : mayF m qs st xs got dev = false := by unfold mayF; rw [h, Bool.false_and]
theorem may_cond3 (m : List UInt8) {qs xs : List Fld} (st got : Int) {dev : List UInt8} (h : cond3 qs xs dev = false) : mayF m qs st xs got dev = false := by unfold mayF; rw [h]; simp
theorem may_alone {m : List UInt8} {qs xs : List Fld} {st got : Int} {dev : List UInt8} (h : mayF m qs st xs got dev = true) : mayF m [] st xs got dev = true := by
  unfold mayF at *
  simp only [Bool.and_eq_true] at *
  obtain ⟨h1, h2, h3, h4, h5, h6⟩ := h
  refine ⟨h1, h2, ?_, h4, rfl, h6⟩
  unfold cond3 at *
  simp only [Bool.and_eq_true] at *
  exact ⟨⟨rfl, h3.1.2⟩, h3.2⟩
def counts7 : List (List UInt8) := [fCC, fSC, varyW, fETag, fLast, fExp, fDate]
theorem may_fields (m : List UInt8) (qs : List Fld) (st got : Int) (dev : List UInt8) {xs ys : List Fld} (h : ∀ nm ∈ counts7, valuesL ys nm = valuesL xs nm) : mayF m qs st ys got dev = mayF m qs st xs got dev := by
  have h1 : valuesL ys fCC = valuesL xs fCC := h _ (by simp [counts7])
  have h2 : valuesL ys fSC = valuesL xs fSC := h _ (by simp [counts7])
  have h3 : valuesL ys varyW = valuesL xs varyW := h _ (by simp [counts7])
  have h4 : getL ys fETag = getL xs fETag := by unfold getL; rw [h fETag (by simp [counts7])]
  have h5 : getL ys fLast = getL xs fLast := by unfold getL; rw [h fLast (by simp [counts7])]
  have h6 : getL ys fExp = getL xs fExp := by unfold getL; rw [h fExp (by simp [counts7])]
  have h7 : getL ys fDate = getL xs fDate := by unfold getL; rw [h fDate (by simp [counts7])]
  have hc : ctlF ys dev = ctlF xs dev := by unfold ctlF; rw [h2]
  have hd : ccD ys = ccD xs := by unfold ccD; rw [h1]
  have hl : lifeF ys got dev = lifeF xs got dev := by
    unfold lifeF surF ruleF expF whenF
    rw [hc, h1, h6, h7]
  unfold mayF cond3 cond5 cond6 validF namesO
  rw [hc, hd, hl, h3, h4, h5]
theorem values_snoc (xs : List Fld) (f : Fld) (nm : List UInt8) : valuesL (xs ++ [f]) nm = valuesL xs nm ++ (bif lowerL f.1 == lowerL nm then [f.2] else []) := by
  rw [valuesL_app]
  congr 1
  unfold valuesL
  rw [List.filter_cons]
  cases (lowerL f.1 == lowerL nm) <;> rfl
theorem dlist_last (vs : List (List UInt8)) (v : List UInt8) : dlistL (vs ++ [v]) = dlistL vs ++ dirsOf v := by unfold dlistL; simp
theorem find_app {a b : List Dir} {n : List UInt8} (h : (findO b n).isSome = true) : (findO (a ++ b) n).isSome = true := by
  unfold findO at *
  rw [List.find?_append]
  cases List.find? (fun d => lowerL d.name == lowerL n) a with
  | none => exact h
  | some _ => rfl
theorem has_app {a b : List Dir} {ns : List (List UInt8)} (h : hasD b ns = true) : hasD (a ++ b) ns = true := by
  unfold hasD at *
  rw [List.any_eq_true] at *
  obtain ⟨n, hn, hf⟩ := h
  exact ⟨n, hn, find_app hf⟩
def vNoStore : Fld := ([67, 97, 99, 104, 101, 45, 67, 111, 110, 116, 114, 111, 108], noStore)
def vPrivate : Fld := ([67, 97, 99, 104, 101, 45, 67, 111, 110, 116, 114, 111, 108], [112, 114, 105, 118, 97, 116, 101, 61, 34, 120, 34])
def vSurNo : Fld := ([83, 117, 114, 114, 111, 103, 97, 116, 101, 45, 67, 111, 110, 116, 114, 111, 108], noStore)
def vVary : Fld := ([86, 97, 114, 121], [42])
theorem cc_snoc (xs : List Fld) (f : Fld) (h : (lowerL f.1 == lowerL fCC) = true) : ccD (xs ++ [f]) = ccD xs ++ dirsOf f.2 := by
  unfold ccD
  rw [values_snoc, h, cond_true, dlist_last]
theorem never0 (m : List UInt8) (qs xs : List Fld) (st got : Int) (dev : List UInt8) : mayF m qs st (xs ++ [vNoStore]) got dev = false := by
  apply may_cond3
  unfold cond3
  rw [cc_snoc xs vNoStore (by decide), has_app (b := dirsOf vNoStore.2) (by decide +kernel)]
  simp
theorem never1 (m : List UInt8) (qs xs : List Fld) (st got : Int) (dev : List UInt8) : mayF m qs st (xs ++ [vPrivate]) got dev = false := by
  apply may_cond3
  unfold cond3
  rw [cc_snoc xs vPrivate (by decide), has_app (b := dirsOf vPrivate.2) (by decide +kernel)]
  simp
theorem asked0 (m : List UInt8) (qs xs : List Fld) (st got : Int) (dev : List UInt8) : mayF m (qs ++ [vNoStore]) st xs got dev = false := by
  apply may_cond3
  unfold cond3
  rw [cc_snoc qs vNoStore (by decide), has_app (b := dirsOf vNoStore.2) (by decide +kernel)]
  simp
theorem first_mem {l : List Dir} {nm : List UInt8} {d : Dir} (h : d ∈ l) (hn : d.name = nm) : (firstV l nm).isSome = true := by
  unfold firstV
  rw [Option.isSome_map, List.find?_isSome]
  exact ⟨d, h, by simp [hn]⟩
theorem never2 (m : List UInt8) (qs xs : List Fld) (st got : Int) (dev : List UInt8) (h : dev = [] ∨ valuesL xs fSC = []) : mayF m qs st (xs ++ [vSurNo]) got dev = false := by
  have hn : (ctlF (xs ++ [vSurNo]) dev).noStore = true := by
    unfold ctlF
    rw [values_snoc]
    have e : (lowerL vSurNo.1 == lowerL fSC) = true := by decide
    rw [e, cond_true]
    have hs : slistL [vSurNo.2] = [neverD] := by decide +kernel
    have happ : slistL (valuesL xs fSC ++ [vSurNo.2]) = slistL (valuesL xs fSC) ++ [neverD] := by
      rw [← hs]; unfold slistL; rw [List.flatMap_append]
    show (firstV (mineL (slistL (valuesL xs fSC ++ [vSurNo.2])) dev) noStore).isSome = true
    rw [happ]
    refine first_mem (d := neverD) ?_ rfl
    rcases h with rfl | h
    · unfold mineL
      rw [List.mem_filter]
      refine ⟨by simp, ?_⟩
      have hown : ∀ x : Dir, ownB [] x = false := fun x => rfl
      unfold mineB
      simp only [hown, Bool.false_or, Bool.false_and]
      have : ∀ l : List Dir, (l.any fun _ => false) = false := by intro l; induction l <;> simp_all
      rw [this]; rfl
    · rw [h]
      have : slistL [] = [] := rfl
      rw [this, List.nil_append, mine_one _ _ rfl]
      simp
  apply may_cond3
  unfold cond3
  rw [hn]; simp
theorem names_star : ∀ (vs acc : List (List UInt8)), namesVs acc (vs ++ [[42]]) = none
  | [], acc => by
    have h : splitL 44 [42] = ([[42]], 0) := by decide +kernel
    rw [List.nil_append, namesVs, h]
    have h2 : nameOk (lowerL [42]) = false := by decide
    simp only [namesPs, h2, cond_false, beq_self_eq_true, cond_true]
  | v :: r, acc => by
    rw [List.cons_append, namesVs]
    cases ((splitL 44 v).2 == 0)
    · rfl
    · simp only [cond_true]
      cases namesPs acc (splitL 44 v).1 with
      | none => rfl
      | some a => exact names_star r a
theorem never3 (m : List UInt8) (qs xs : List Fld) (st got : Int) (dev : List UInt8) : mayF m qs st (xs ++ [vVary]) got dev = false := by
  have h : namesO (xs ++ [vVary]) = none := by
    unfold namesO
    rw [values_snoc]
    have e : (lowerL vVary.1 == lowerL varyW) = true := by decide
    rw [e, cond_true]
    exact names_star _ _
  unfold mayF
  rw [h]; simp
theorem may_other (m : List UInt8) (qs xs : List Fld) (st got : Int) (dev : List UInt8) (f : Fld) (h : hasL counts7 f.1 = false) : mayF m qs st (xs ++ [f]) got dev = mayF m qs st xs got dev := by
  apply may_fields
  intro nm hm
  rw [values_snoc]
  have e : (lowerL f.1 == lowerL nm) = false := by
    cases hq : (lowerL f.1 == lowerL nm)
    · rfl
    · rw [hasL_mem hm (beq_iff_eq.1 hq).symm] at h; cases h
  rw [e, cond_false, List.append_nil]
end Go.Proofs.YtcgdcbnhpbokfaaGreatDoor
/- An entry, by value. -/
namespace Go.Proofs.YtcgdcbnhpbokfaaGreatDoor
open Go.RowKit
/-- An entry, by value. -/
def entV (st : Int) (re : ByteArray) (mi : Int) (A : Option Addr) (n c : Nat) (bo : ByteArray) (asked got : Int) (V : Option Addr) (m d : Nat) : Value := .agg #[.int .i64 st, .string re, .int .i64 mi, .slice A n c, .string bo, .int .i64 asked, .int .i64 got, .slice V m d]
end Go.Proofs.YtcgdcbnhpbokfaaGreatDoor
/- A named result in memory, alone. -/
namespace Go.Proofs.YtcgdcbnhpbokfaaGreatDoor
open Go.RowKit
theorem results_cell_one {fn : Func} {p : Tmp} {ty : TypeId} (h : fn.results = #[.cell p ty]) (tmps : Array Value) (P : Program) (w : World) :
    (results fn tmps).run P w = ((asAddr (tmps.getD p undef)).run P w).andThen fun a w₁ => (loadVar ty a).run P w₁ := by
  simp only [results, h]
  simp [Sem.run_bind, Result.andThen]
  try rfl
end Go.Proofs.YtcgdcbnhpbokfaaGreatDoor
/- The library's own mark. -/
namespace Go.Proofs.YtcgdcbnhpbokfaaGreatDoor
open Go.RowKit
set_option maxRecDepth 100000

/-- The library's own mark holds a number. -/
def MaxL (w : World) : Prop := 2 < w.heap.size ∧ ∃ m, w.cell? ⟨2, 0, none⟩ = some (.int .i64 m)
theorem MaxL.of {w : World} (h : ∃ m, w.cell? ⟨2, 0, none⟩ = some (.int .i64 m)) : MaxL w := by
  obtain ⟨m, h⟩ := h
  exact ⟨World.block_lt_of_cell? w _ h, m, h⟩
theorem MaxL.below {w w' : World} (h : MaxL w) (hb : Below w.heap.size w w') : MaxL w' := by
  obtain ⟨h0, m, h⟩ := h
  exact ⟨Nat.lt_of_lt_of_le h0 hb.size, m, (hb.cell (p := ⟨_, 0, none⟩) h0).trans h⟩
end Go.Proofs.YtcgdcbnhpbokfaaGreatDoor
/- strings.Cut. -/
namespace Go.Proofs.YtcgdcbnhpbokfaaGreatDoor
open Go.RowKit
set_option maxRecDepth 100000

theorem cut_any (s sep : ByteArray) (w : World) (h : MaxL w) (hs : s.size ≤ 1000000) :
    Calls Tryz.prog 175 #[.string s, .string sep] w fun e w' => e = .returned (.tuple #[.string ⟨(Lib.cut s.data.toList sep.data.toList).1.toArray⟩, .string ⟨(Lib.cut s.data.toList sep.data.toList).2.1.toArray⟩, .bool (Lib.cut s.data.toList sep.data.toList).2.2]) ∧ Below w.heap.size w w' := by
  obtain ⟨_, m, hm⟩ := h
  refine (Tryz.strings_Cut s sep m w (by omega) hm).mono ?_
  rintro e w' ⟨rfl, n, rfl⟩
  exact ⟨rfl, Go.below_drewN (Below.refl _ _) _⟩

end Go.Proofs.YtcgdcbnhpbokfaaGreatDoor
/- strings.Builder's writers at this seat: the copy check, WriteByte, WriteString. The library's own contracts ask a body of the copy check that is not the one here (its last branch is refused by the loader), so they are walked anew with the library's laws on append. -/
namespace Go.Proofs.YtcgdcbnhpbokfaaGreatDoor
open Go.RowKit
set_option maxRecDepth 100000

theorem bSize : (Tryz.prog.info? 160).map (·.size) = some 2 := by kernel_rfl
theorem bLies : liesAt Tryz.prog Tryz.prog.depth 160 (2 / Tryz.prog.cellsOf 160) 0 160 1 = true := by kernel_rfl
theorem bByte : (Tryz.prog.info? 5).map (fun i => (i.zero, i.size, i.bytes)) = some (some (.int .u8 0), 1, 1) := by kernel_rfl

set_option maxHeartbeats 1000000 in
theorem copyCheck_used (b : Nat) (w : World) (h0 : w.cell? ⟨b, 0, none⟩ = some (.pointer (some ⟨b, 0, none⟩))) :
    Calls Tryz.prog 180 #[.pointer (some ⟨b, 0, none⟩)] w fun e w' => e = .returned (.tuple #[]) ∧ w = w' := by
  obtain ⟨j, hj, _⟩ := Option.map_eq_some_iff.1 bSize
  go_enter Tryz.func180, Tryz.ntmps180
  go_wp2
  rw [Lib.run_neq_ptr_same w _ Tryz.underlying158 hj]
  go_wp2
  go_end0
  exact ⟨rfl, rfl⟩

set_option maxHeartbeats 1000000 in
theorem copyCheck_fresh (b : Nat) (w : World) (h0 : w.cell? ⟨b, 0, none⟩ = some (.pointer none)) (hsh : w.shape? b = some (160, 2)) (hfz : w.frozen? ⟨b, 0, none⟩ = false) :
    Calls Tryz.prog 180 #[.pointer (some ⟨b, 0, none⟩)] w fun e w' => e = .returned (.tuple #[]) ∧ w.setCell ⟨b, 0, none⟩ (.pointer (some ⟨b, 0, none⟩)) = w' := by
  obtain ⟨j, hj, hjs⟩ := Option.map_eq_some_iff.1 bSize
  go_enter Tryz.func180, Tryz.ntmps180
  go_wp2
  rw [Lib.run_to_unsafe w ⟨b, 0, none⟩ Tryz.underlying158 Tryz.underlying217 hj (by rw [hjs]; decide) hsh (Nat.zero_lt_succ 1)]
  simp only [Result.andThen]
  rw [Oper.upon_value]
  go_wp2
  rw [run_callFunc_extern Tryz.func195 (by kernel_rfl) (by kernel_rfl) (by kernel_rfl) (e := Extern.AbiNoEscape.same) (by kernel_rfl)]
  rw [Lib.run_noEscape]
  simp only [Result.andThen]
  rw [Oper.upon_value]
  go_wp2
  rw [Lib.run_from_unsafe w ⟨b, 0, none⟩ Tryz.underlying217 Tryz.underlying158 hj hsh bLies]
  simp only [Result.andThen]
  rw [Oper.upon_value]
  go_wp2
  go_end0
  exact ⟨rfl, rfl⟩

/-- A builder in block b, the call's own from B on, that holds these bytes. -/
def IsB (B b : Nat) (l : List UInt8) (w : World) : Prop := Lib.IsBuilderF 160 5 B b (Lib.byteCells l) w

theorem copyCheck_any (B b : Nat) (bs : List Value) (w : World) (h : Lib.IsBuilderF 160 5 B b bs w) :
    Calls Tryz.prog 180 #[.pointer (some ⟨b, 0, none⟩)] w fun e w' => e = .returned (.tuple #[]) ∧ Lib.BuilderAtF 160 5 B b (.pointer (some ⟨b, 0, none⟩)) bs w' ∧ Below B w w' ∧ Lib.OthersKept 5 (some b) w w' := by
  rcases h with h | h
  · refine (copyCheck_fresh b w h.cell0 h.shape h.frozen0).mono ?_
    rintro e w' ⟨rfl, rfl⟩
    exact ⟨rfl, h.used _, (Below.refl B w).setCell (p := ⟨b, 0, none⟩) h.1 _, (Lib.OthersKept.refl _ _ w).setCell ⟨b, 0, none⟩ rfl _⟩
  · refine (copyCheck_used b w h.cell0).mono ?_
    rintro e w' ⟨rfl, rfl⟩
    exact ⟨rfl, h, Below.refl B _, Lib.OthersKept.refl _ _ _⟩

theorem IsB.lt {B b : Nat} {l : List UInt8} {w : World} (h : IsB B b l w) : b < w.heap.size := by
  rcases h with h | h <;> exact h.lt

set_option maxHeartbeats 2000000 in
set_option maxRecDepth 100000 in
theorem writeByte_any (B b : Nat) (l : List UInt8) (c : UInt8) (w : World) (h : IsB B b l w) (hlen : l.length + 1 ≤ 140737488355328) (hBw : B ≤ w.heap.size) :
    Calls Tryz.prog 207 #[.pointer (some ⟨b, 0, none⟩), .int .u8 c.toNat] w fun e w' => e = .returned .nilIface ∧ IsB B b (l ++ [c]) w' ∧ Below B w w' ∧ Lib.OthersKept 5 (some b) w w' := by
  unfold IsB at *
  have hlb := Lib.byteCells_length l
  have hap : Lib.byteCells (l ++ [c]) = Lib.byteCells l ++ [.int .u8 c.toNat] := by rw [Lib.byteCells_append]; rfl
  rw [hap]; clear hap
  generalize Lib.byteCells l = bs at *
  obtain ⟨n, hn⟩ : ∃ n : Int, n = c.toNat := ⟨_, rfl⟩
  rw [← hn]; clear hn
  have Hlb := Lib.hid hlb; clear hlb
  obtain ⟨i0, hi, hz0, hz1, hz2⟩ := info_parts bByte
  go_enter Tryz.func207, Tryz.ntmps207
  go_wp2_with (go_at_call 180; refine (copyCheck_any B b bs _ h).mono ?_)
  rintro e w1 ⟨rfl, h1, hb1, hk1⟩
  obtain ⟨hB, v, hbk, hown, hne⟩ := h1
  have c0 : w1.cell? ⟨b, 0, none⟩ = some (.pointer (some ⟨b, 0, none⟩)) := by rw [Lib.cell_of_heap hbk]; rfl
  have c1 : w1.cell? ⟨b, 1, none⟩ = some v := by rw [Lib.cell_of_heap hbk]; rfl
  go_wp2_with (at_builtin; refine wpList_append_ownF _ rfl _ _ 157 rfl B 5 i0 (.int .u8 0) 1 1 Tryz.underlying157 hi hz0 hz1 hz2 rfl (by decide) _ _ _ rfl (hown.alloc _) ⟨w1.heap.size, 0, none⟩ 1 1 [.int .u8 n] rfl rfl ?c1 ?c2 ?c3 ?c4 ?c5 ?_)
  case c1 =>
    intro j u hj
    match j, hj with
    | 0, hj => simp at hj; subst hj; simp [Addr.add]
  case c2 => intro u hu; simp at hu; subst hu; rfl
  case c3 => have := Hlb.out; unfold maxLen; omega
  case c4 => have := Hlb.out; omega
  case c5 => have := hb1.size; simp; omega
  intro v' w2 hown' hgrow _
  have hlt : b < w1.heap.size := by
    rcases Nat.lt_or_ge b w1.heap.size with h' | h'
    · exact h'
    · simp [Array.getElem?_eq_none h'] at hbk
  have hb2 : w2.heap[b]? = some (.cells #[.pointer (some ⟨b, 0, none⟩), v] 160 (0, 0)) := by
    rw [hgrow.block b (by simp; omega) (fun e => hne e.symm), Lib.alloc_old w1 _ b hlt]
    exact hbk
  have d0 : w2.cell? ⟨b, 0, none⟩ = some (.pointer (some ⟨b, 0, none⟩)) := by rw [Lib.cell_of_heap hb2]; rfl
  have d1 : w2.cell? ⟨b, 1, none⟩ = some v := by rw [Lib.cell_of_heap hb2]; rfl
  have f1 : w2.frozen? ⟨b, 1, none⟩ = false := Lib.frozen_of_heap hb2 1
  obtain ⟨g, cap, rfl⟩ : ∃ g cap, v' = .slice (some ⟨g, 0, none⟩) (bs.length + 1) cap := by
    rcases hown'.2 with ⟨_, h0⟩ | ⟨g, cap, cur, fz, hv, _⟩
    · omega
    · exact ⟨g, cap, hv⟩
  go_wp2
  go_ret
  refine ⟨rfl, Or.inr ?_, ?_, ((hk1.alloc _).grown hgrow (Lib.ownsRowF_kind (hown.alloc _))).setCell ⟨b, 1, none⟩ rfl _⟩
  · exact Lib.BuilderAtF.put (T := 160) (e := 5) hB hb2 (bs' := bs ++ [.int .u8 n]) (by simpa using hown') (by decide)
  · exact ((hb1.alloc (by have := hb1.size; omega) _).grown hgrow (by have := hb1.size; simp; omega) (fun k hk => (hown.lt k hk).1)).setCell (p := ⟨b, 1, none⟩) hB _

end Go.Proofs.YtcgdcbnhpbokfaaGreatDoor
/- The walks of text.Quote and text.Unquote, and of the document's. -/
namespace Go.Proofs.YtcgdcbnhpbokfaaGreatDoor
open Go.RowKit

theorem plain_any (c : UInt8) (w : World) :
    Calls Tryz.prog 206 #[.int .u8 c.toNat] w fun e w' => e = .returned (.bool (plainb c)) ∧ w = w' := by
  have hlt := c.toNat_lt
  have hp : plainb c = (((c.toNat : Int) == 9) || (decide (32 ≤ (c.toNat : Int)) && ((c.toNat : Int) != 127))) := by
    unfold plainb; rw [Bool.eq_iff_iff]; simp; omega
  rw [hp]
  clear hp
  generalize c.toNat = n at *
  cases h1 : ((n : Int) == 9) <;> cases h2 : decide (32 ≤ (n : Int)) <;> cases h3 : ((n : Int) != 127)
  all_goals
    go_enter Tryz.func206, Tryz.ntmps206
    go_wp2
    go_ret
    exact ⟨rfl, rfl⟩

theorem fresh_B (w : World) : IsB w.heap.size w.heap.size [] (w.alloc (.cells #[.pointer none, .slice none 0 0] 160)) :=
  Lib.IsBuilderF.of (Lib.fresh_isBuilder 160 5 w)

def mid (s : ByteArray) : ByteArray := s.extract 1 (s.size - 1)
theorem mid_list (s : ByteArray) : (mid s).data.toList = (s.data.toList.drop 1).dropLast := by
  unfold mid; rw [Lib.extract_data, List.dropLast_eq_take, List.length_drop, ← Lib.size_eq]
theorem mid_size (s : ByteArray) : (mid s).size = s.size - 2 := by unfold mid; simp [ByteArray.size_extract]; omega
theorem mid_at (s : ByteArray) (k : Nat) (h : k < (mid s).size) (h' : k + 1 < s.size) : (mid s)[k] = s[k + 1] := by
  have key : ∀ (t : ByteArray) (_ : t = s.extract 1 (s.size - 1)) (hk : k < t.size), t[k] = s[k + 1] := by
    intro t ht hk; subst ht; simp [ByteArray.getElem_extract, Nat.add_comm]
  exact key _ rfl h
theorem ends_ok (s : ByteArray) (h : 2 ≤ s.size) (h0 : s[0].toNat = 34) (h1 : s[s.size - 1].toNat = 34) : unqP s.data.toList = unq false (mid s).data.toList := by
  have e1 : s.data.toList.head? = some s[0] := by rw [List.head?_eq_getElem?, List.getElem?_eq_getElem (by simpa using (by omega : 0 < s.size))]; rfl
  have e2 : s.data.toList.getLast? = some s[s.size - 1] := by
    rw [List.getLast?_eq_getElem?, ← Lib.size_eq, List.getElem?_eq_getElem (by simpa using (by omega : s.size - 1 < s.size))]; rfl
  unfold unqP; rw [e1, e2, mid_list, ← Lib.size_eq]; simp [h, h0, h1]
theorem ends_short (s : ByteArray) (h : s.size < 2) : unqP s.data.toList = none := by
  unfold unqP; rw [← Lib.size_eq]; have : decide (2 ≤ s.size) = false := by simp; omega
  rw [this]; rfl
theorem ends_first (s : ByteArray) (h : 2 ≤ s.size) (h0 : ¬ s[0].toNat = 34) : unqP s.data.toList = none := by
  have e1 : s.data.toList.head? = some s[0] := by rw [List.head?_eq_getElem?, List.getElem?_eq_getElem (by simpa using (by omega : 0 < s.size))]; rfl
  have e2 : (s[0].toNat == 34) = false := by simpa using h0
  unfold unqP; rw [e1]; simp only [Option.getD_some, e2, Bool.and_false, Bool.false_and, cond_false]
theorem ends_last (s : ByteArray) (h : 2 ≤ s.size) (h1 : ¬ s[s.size - 1].toNat = 34) : unqP s.data.toList = none := by
  have e2 : s.data.toList.getLast? = some s[s.size - 1] := by
    rw [List.getLast?_eq_getElem?, ← Lib.size_eq, List.getElem?_eq_getElem (by simpa using (by omega : s.size - 1 < s.size))]; rfl
  have e3 : (s[s.size - 1].toNat == 34) = false := by simpa using h1
  unfold unqP; rw [e2]; simp only [Option.getD_some, e3, Bool.and_false, cond_false]

set_option maxRecDepth 100000 in
set_option maxHeartbeats 2000000 in
theorem unquote_any (s : ByteArray) (w : World) (hs : s.size ≤ 1000000) :
    Calls Tryz.prog 189 #[.string s] w fun e w' => e = .returned (two (unqP s.data.toList)) ∧ Below w.heap.size w w' := by
  by_cases h2 : 2 ≤ s.size
  · by_cases h0 : s[0].toNat = 34
    · by_cases h1 : s[s.size - 1].toNat = 34
      · rw [ends_ok s h2 h0 h1]
        have hms := mid_size s
        have d0 : ((s[0].toNat : Int) != 34) = false := by simp; omega
        have d1 : ((s[s.size - 1].toNat : Int) != 34) = false := by simp; omega
        have d2 : decide ((s.size : Int) < 2) = false := by simp; omega
        clear h0 h1
        obtain ⟨m, hm⟩ : ∃ m, mid s = m := ⟨_, rfl⟩
        have hat : ∀ k (h : k < m.size) (h' : k + 1 < s.size), m[k] = s[k + 1] := by intro k h h'; subst hm; exact mid_at s k h h'
        rw [hm] at hms ⊢
        obtain ⟨out, ho⟩ : ∃ o, unq false m.data.toList = o := ⟨_, rfl⟩
        rw [ho]
        have HO := Lib.hid ho; have HA := Lib.hid hat; have HM := Lib.hid hms
        clear ho hat hm hms
        go_enter Tryz.func189, Tryz.ntmps189
        go_wp2
        clear d0 d1 d2
        go_loopw [27, 5] (fun i b wr => ∃ (k : Nat) (bh : Bool) (acc : List UInt8), k ≤ s.size - 2 ∧ i = .int .i64 k ∧ b = .bool bh ∧ Hid (out = (unq bh (m.data.toList.drop k)).map (acc ++ ·)) ∧ acc.length ≤ k ∧ IsB w.heap.size w.heap.size acc wr ∧ Below w.heap.size w wr) (fun i _ _ => s.size - 2 - (intOf i).toNat)
        case atStart => exact ⟨0, false, [], Nat.zero_le _, rfl, rfl, by have := HO.out; show _ = _; rw [List.drop_zero, this]; simp, by simp, fresh_B w, (Below.refl _ w).alloc (Nat.le_refl _) _⟩
        case round =>
          obtain ⟨k, bh, acc, hk, rfl, rfl, Hout, hacc, hI, hbw⟩ := hrel
          by_cases hlt : k < s.size - 2
          · have hkm : k < m.size := by have := HM.out; omega
            have hc := HA.out k hkm (by omega)
            have hd := drop_cons m k hkm
            rw [hc] at hd
            have Hd := Lib.hid hd; clear hd hc hkm
            have hk1 : k + 1 < s.size := by omega
            cases hp : plainb s[k + 1]
            · have hf : out = none := by rw [Hout.out, Hd.out, unq, hp]; rfl
              have Hf := Lib.hid hf; have Hp := Lib.hid hp; clear hf hp
              go_wp2_with (go_at_call 206; refine (plain_any _ _).mono ?_; rintro e w2 ⟨rfl, rfl⟩; rw [Hp.out])
              go_ret2
              exact ⟨by rw [Hf.out]; rfl, hbw⟩
            · cases c1 : ((s[k + 1].toNat : Int) == 34) <;> cases c2 : ((s[k + 1].toNat : Int) == 92)
              all_goals have d1 : (s[k + 1].toNat == 34) = _ := (beq_cast _ 34).trans c1
              all_goals have d2 : (s[k + 1].toNat == 92) = _ := (beq_cast _ 92).trans c2
              all_goals have D1 := Lib.hid d1
              all_goals have D2 := Lib.hid d2
              all_goals clear d1 d2
              · cases bh
                · have hf : out = (unq false (m.data.toList.drop (k + 1))).map ((acc ++ [s[k + 1]]) ++ ·) := by rw [Hout.out, Hd.out, unq, hp, D1.out, D2.out]; simp [Function.comp_def]
                  have Hf := Lib.hid hf; have Hp := Lib.hid hp; clear hf hp
                  go_wp2_with (go_at_call 206; refine (plain_any _ _).mono ?_; rintro e w2 ⟨rfl, rfl⟩; rw [Hp.out])
                  refine (writeByte_any w.heap.size w.heap.size _ s[k + 1] _ hI (by omega) hbw.size).mono ?_
                  rintro e w3 ⟨rfl, hI3, b3, -⟩
                  go_wp2
                  go_roundw
                  case rel => exact ⟨k + 1, false, _, by omega, by go_num, rfl, Hf, by rw [List.length_append, List.length_singleton]; omega, hI3, hbw.trans b3⟩
                  case measure => simp [intOf]; omega
                · have hf : out = (unq false (m.data.toList.drop (k + 1))).map ((acc ++ [s[k + 1]]) ++ ·) := by rw [Hout.out, Hd.out, unq, hp, D1.out, D2.out]; simp [Function.comp_def]
                  have Hf := Lib.hid hf; have Hp := Lib.hid hp; clear hf hp
                  go_wp2_with (go_at_call 206; refine (plain_any _ _).mono ?_; rintro e w2 ⟨rfl, rfl⟩; rw [Hp.out])
                  refine (writeByte_any w.heap.size w.heap.size _ s[k + 1] _ hI (by omega) hbw.size).mono ?_
                  rintro e w3 ⟨rfl, hI3, b3, -⟩
                  go_wp2
                  go_roundw
                  case rel => exact ⟨k + 1, false, _, by omega, by go_num, rfl, Hf, by rw [List.length_append, List.length_singleton]; omega, hI3, hbw.trans b3⟩
                  case measure => simp [intOf]; omega
              · cases bh
                · have hf : out = (unq true (m.data.toList.drop (k + 1))).map (acc ++ ·) := by rw [Hout.out, Hd.out, unq, hp, D1.out, D2.out]; rfl
                  have Hf := Lib.hid hf; have Hp := Lib.hid hp; clear hf hp
                  go_wp2_with (go_at_call 206; refine (plain_any _ _).mono ?_; rintro e w2 ⟨rfl, rfl⟩; rw [Hp.out])
                  go_roundw
                  case rel => exact ⟨k + 1, true, acc, by omega, by go_num, rfl, Hf, by omega, hI, hbw⟩
                  case measure => simp [intOf]; omega
                · have hf : out = (unq false (m.data.toList.drop (k + 1))).map ((acc ++ [s[k + 1]]) ++ ·) := by rw [Hout.out, Hd.out, unq, hp, D1.out, D2.out]; simp [Function.comp_def]
                  have Hf := Lib.hid hf; have Hp := Lib.hid hp; clear hf hp
                  go_wp2_with (go_at_call 206; refine (plain_any _ _).mono ?_; rintro e w2 ⟨rfl, rfl⟩; rw [Hp.out])
                  refine (writeByte_any w.heap.size w.heap.size _ s[k + 1] _ hI (by omega) hbw.size).mono ?_
                  rintro e w3 ⟨rfl, hI3, b3, -⟩
                  go_wp2
                  go_roundw
                  case rel => exact ⟨k + 1, false, _, by omega, by go_num, rfl, Hf, by rw [List.length_append, List.length_singleton]; omega, hI3, hbw.trans b3⟩
                  case measure => simp [intOf]; omega
              · cases bh
                · have hf : out = none := by rw [Hout.out, Hd.out, unq, hp, D1.out]; rfl
                  have Hf := Lib.hid hf; have Hp := Lib.hid hp; clear hf hp
                  go_wp2_with (go_at_call 206; refine (plain_any _ _).mono ?_; rintro e w2 ⟨rfl, rfl⟩; rw [Hp.out])
                  go_ret2
                  exact ⟨by rw [Hf.out]; rfl, hbw⟩
                · have hf : out = (unq false (m.data.toList.drop (k + 1))).map ((acc ++ [s[k + 1]]) ++ ·) := by rw [Hout.out, Hd.out, unq, hp, D1.out, D2.out]; simp [Function.comp_def]
                  have Hf := Lib.hid hf; have Hp := Lib.hid hp; clear hf hp
                  go_wp2_with (go_at_call 206; refine (plain_any _ _).mono ?_; rintro e w2 ⟨rfl, rfl⟩; rw [Hp.out])
                  refine (writeByte_any w.heap.size w.heap.size _ s[k + 1] _ hI (by omega) hbw.size).mono ?_
                  rintro e w3 ⟨rfl, hI3, b3, -⟩
                  go_wp2
                  go_roundw
                  case rel => exact ⟨k + 1, false, _, by omega, by go_num, rfl, Hf, by rw [List.length_append, List.length_singleton]; omega, hI3, hbw.trans b3⟩
                  case measure => simp [intOf]; omega
              · exfalso; simp at c1 c2; omega
          · have hf : out = bif bh then none else some acc := by
              rw [Hout.out, drop_all m k (by have := HM.out; omega), unq]; cases bh <;> simp
            have Hf := Lib.hid hf; clear hf
            cases bh
            · go_wp2_with (go_at_call 141; refine (Tryz.Builder_String_any_k w.heap.size w.heap.size _ _ hI hbw.size).mono ?_; rintro e w3 ⟨rfl, _, b3, _⟩)
              go_ret2
              exact ⟨by rw [Hf.out]; rfl, hbw.trans b3⟩
            · go_wp2
              go_ret2
              exact ⟨by rw [Hf.out]; rfl, hbw⟩
      · rw [ends_last s h2 h1]
        have d1 : ((s[s.size - 1].toNat : Int) != 34) = true := by simp; omega
        have d0 : ((s[0].toNat : Int) != 34) = false := by simp; omega
        have d2 : decide ((s.size : Int) < 2) = false := by simp; omega
        clear h0 h1
        go_enter Tryz.func189, Tryz.ntmps189
        go_wp2
        go_ret2
        exact ⟨rfl, Below.refl _ _⟩
    · rw [ends_first s h2 h0]
      have d0 : ((s[0].toNat : Int) != 34) = true := by simp; omega
      have d2 : decide ((s.size : Int) < 2) = false := by simp; omega
      clear h0
      go_enter Tryz.func189, Tryz.ntmps189
      go_wp2
      go_ret2
      exact ⟨rfl, Below.refl _ _⟩
  · rw [ends_short s (by omega)]
    have d2 : decide ((s.size : Int) < 2) = true := by simp; omega
    clear h2
    go_enter Tryz.func189, Tryz.ntmps189
    go_wp2
    go_ret2
    exact ⟨rfl, Below.refl _ _⟩
end Go.Proofs.YtcgdcbnhpbokfaaGreatDoor
/- The walks of text.word, text.Token. -/
namespace Go.Proofs.YtcgdcbnhpbokfaaGreatDoor
open Go.RowKit

theorem mark_ix (c : UInt8) : decide (0 ≤ Lib.indexByte markL c) = markL.contains c := by
  have key : ∀ (l : List UInt8), decide (0 ≤ Lib.indexByte l c) = l.contains c := by
    intro l
    rw [Bool.eq_iff_iff]
    simp only [decide_eq_true_eq, List.contains_iff_mem]
    constructor
    · intro h
      obtain ⟨o, ho⟩ := Int.eq_ofNat_of_zero_le h
      exact List.mem_of_getElem? (Lib.indexByte_some ho).1
    · intro h
      obtain ⟨k, hk⟩ := List.mem_iff_getElem?.1 h
      have h1 := Lib.indexByte_ge l c
      have h2 : Lib.indexByte l c ≠ -1 := fun e => Lib.indexByte_none e k hk
      omega
  exact key markL
def letterI (n : Int) : Bool := (decide (97 ≤ n) && decide (n ≤ 122)) || (decide (65 ≤ n) && decide (n ≤ 90)) || (decide (48 ≤ n) && decide (n ≤ 57))
theorem letter_eq (c : UInt8) : letterb c = letterI c.toNat := by
  unfold letterb letterI; rw [Bool.eq_iff_iff]; simp; omega

set_option maxHeartbeats 2000000 in
theorem word_any (c : UInt8) (w : World) :
    Calls Tryz.prog 176 #[.int .u8 c.toNat] w fun e w' => e = .returned (.bool (wordb c)) ∧ w = w' := by
  have hi := Tryz.strings_IndexByte ⟨markL.toArray⟩ (c.toNat : Int)
  rw [show (c.toNat : Int).toNat.toUInt8 = c from by simp] at hi
  rw [show (⟨markL.toArray⟩ : ByteArray).data.toList = markL from rfl] at hi
  have hm := mark_ix c
  have hw : wordb c = (letterI c.toNat || markL.contains c) := by unfold wordb; rw [letter_eq]
  have hu := c.toNat_lt
  generalize Lib.indexByte markL c = ix at *
  generalize c.toNat = n at *
  generalize markL.contains c = mm at *
  rw [hw]
  have HI := Lib.hid hi
  clear hi hw
  unfold letterI
  cases h1 : decide (97 ≤ (n : Int)) <;> cases h2 : decide ((n : Int) ≤ 122)
  · exfalso; simp at h1 h2; omega
  · cases h3 : decide (65 ≤ (n : Int)) <;> cases h4 : decide ((n : Int) ≤ 90)
    · exfalso; simp at h3 h4; omega
    · cases h5 : decide (48 ≤ (n : Int)) <;> cases h6 : decide ((n : Int) ≤ 57)
      · exfalso; simp at h5 h6; omega
      all_goals
        go_enter Tryz.func176, Tryz.ntmps176
        go_wp2_with (go_at_call 192; refine (HI.out _).mono ?_; rintro e w' ⟨rfl, rfl⟩)
        go_ret
        first | exact ⟨by rw [← hm]; rfl, rfl⟩ | exact ⟨rfl, rfl⟩
    · have h5 : decide (48 ≤ (n : Int)) = true := by simp at h3 ⊢; omega
      have h6 : decide ((n : Int) ≤ 57) = false := by simp at h3 ⊢; omega
      rw [h5, h6]
      go_enter Tryz.func176, Tryz.ntmps176
      go_wp2_with (go_at_call 192; refine (HI.out _).mono ?_; rintro e w' ⟨rfl, rfl⟩)
      go_ret
      first | exact ⟨by rw [← hm]; rfl, rfl⟩ | exact ⟨rfl, rfl⟩
    · go_enter Tryz.func176, Tryz.ntmps176
      go_wp2_with (go_at_call 192; refine (HI.out _).mono ?_; rintro e w' ⟨rfl, rfl⟩)
      go_ret
      first | exact ⟨by rw [← hm]; rfl, rfl⟩ | exact ⟨rfl, rfl⟩
  · have h3 : decide (65 ≤ (n : Int)) = true := by simp at h1 ⊢; omega
    have h4 : decide ((n : Int) ≤ 90) = false := by simp at h1 ⊢; omega
    have h5 : decide (48 ≤ (n : Int)) = true := by simp at h1 ⊢; omega
    have h6 : decide ((n : Int) ≤ 57) = false := by simp at h1 ⊢; omega
    rw [h3, h4, h5, h6]
    go_enter Tryz.func176, Tryz.ntmps176
    go_wp2_with (go_at_call 192; refine (HI.out _).mono ?_; rintro e w' ⟨rfl, rfl⟩)
    go_ret
    first | exact ⟨by rw [← hm]; rfl, rfl⟩ | exact ⟨rfl, rfl⟩
  · go_enter Tryz.func176, Tryz.ntmps176
    go_wp2_with (go_at_call 192; refine (HI.out _).mono ?_; rintro e w' ⟨rfl, rfl⟩)
    go_ret
    first | exact ⟨by rw [← hm]; rfl, rfl⟩ | exact ⟨rfl, rfl⟩

set_option maxHeartbeats 2000000 in
theorem token_wide (s : ByteArray) (w : World) (hs : s.size ≤ 140737488351232) :
    Calls Tryz.prog 132 #[.string s] w fun e w' => e = .returned (.bool (tokenL s.data.toList)) ∧ w = w' := by
  have hB : ∀ k (h : k < s.size), wordb s[k] = false → tokenL s.data.toList = false := by
    intro k h hk; unfold tokenL; rw [all_bad wordb s k h hk]; rfl
  have hQ : ∀ k, (s.data.toList.take k).all wordb = true → s.size ≤ k → tokenL s.data.toList = !s.data.toList.isEmpty := by
    intro k h hk; rw [take_all s k hk] at h; unfold tokenL; rw [h]; rfl
  have HB := Lib.hid hB; have HQ := Lib.hid hQ
  clear hB hQ
  generalize tokenL s.data.toList = out at *
  go_enter Tryz.func132, Tryz.ntmps132
  go_wp2
  go_loop [6] (fun i => ∃ k : Nat, k ≤ s.size ∧ i = .int .i64 k ∧ Hid ((s.data.toList.take k).all wordb = true)) (fun i => s.size - (intOf i).toNat)
  case atStart => exact ⟨0, Nat.zero_le _, rfl, by show _ = _; simp⟩
  case round =>
    obtain ⟨k, hk, rfl, Hall⟩ := hrel
    by_cases hlt : k < s.size
    · cases hp : wordb s[k]
      · have hf := HB.out k hlt hp
        have Hf := Lib.hid hf; have Hp := Lib.hid hp; clear hf hp
        go_wp2_with (go_at_call 176; refine (word_any _ _).mono ?_; rintro e w2 ⟨rfl, rfl⟩; rw [Hp.out])
        go_ret
        exact ⟨by rw [Hf.out]; rfl, rfl⟩
      · have hn : (s.data.toList.take (k + 1)).all wordb = true := by rw [all_snoc wordb s k hlt, Hall.out, hp]; rfl
        have Hn := Lib.hid hn; have Hp := Lib.hid hp; clear hn hp
        go_wp2_with (go_at_call 176; refine (word_any _ _).mono ?_; rintro e w2 ⟨rfl, rfl⟩; rw [Hp.out])
        go_round
        case rel => exact ⟨k + 1, by omega, by go_num, Hn⟩
        case measure => simp [intOf]; omega
    · have hf := HQ.out k Hall.out (by omega)
      have Hf := Lib.hid hf; clear hf
      go_wp2
      go_ret
      exact ⟨by rw [Hf.out]; simp [Lib.toList_data], rfl⟩
theorem token_any (s : ByteArray) (w : World) (hs : s.size ≤ 1000000) :
    Calls Tryz.prog 132 #[.string s] w fun e w' => e = .returned (.bool (tokenL s.data.toList)) ∧ w = w' := token_wide s w (by omega)
end Go.Proofs.YtcgdcbnhpbokfaaGreatDoor
/- The walk of directive.said. -/
namespace Go.Proofs.YtcgdcbnhpbokfaaGreatDoor
open Go.RowKit
set_option maxRecDepth 100000

theorem cut_lens (s sep : List UInt8) : (Lib.cut s sep).1.length ≤ s.length ∧ (Lib.cut s sep).2.1.length ≤ s.length := by
  unfold Lib.cut
  by_cases h0 : 0 ≤ Lib.index s sep
  · rw [if_pos h0]; simp; omega
  · rw [if_neg h0]; simp
def saidV : Option Dir → Value
  | none => .tuple #[.agg #[.string ⟨#[]⟩, .string ⟨#[]⟩, .bool false, .string ⟨#[]⟩], .bool false]
  | some d => .tuple #[.agg #[.string ⟨d.name.toArray⟩, .string ⟨d.value.toArray⟩, .bool d.has, .string ⟨d.for_.toArray⟩], .bool true]
set_option maxHeartbeats 8000000 in
theorem said_any (s : ByteArray) (w : World) (hM : MaxL w) (hs : s.size ≤ 1000000) :
    Calls Tryz.prog 163 #[.string s] w fun e w' => e = .returned (saidV (saidO s.data.toList)) ∧ Below w.heap.size w w' := by
  obtain ⟨W0, hW0⟩ : ∃ W0, w.alloc (.cells #[.string ⟨#[]⟩, .string ⟨#[]⟩, .bool false, .string ⟨#[]⟩] 84) = W0 := ⟨_, rfl⟩
  have hB0 : Below w.heap.size w W0 := by rw [← hW0]; exact (Below.refl w.heap.size w).alloc (Nat.le_refl _) _
  have z0 : w.heap.size < W0.heap.size := by rw [← hW0]; simp
  have hc : ∀ j, W0.cell? ⟨w.heap.size, j, none⟩ = #[Value.string ⟨#[]⟩, .string ⟨#[]⟩, .bool false, .string ⟨#[]⟩][j]? := fun j => by rw [← hW0]; exact World.cell?_alloc_mark w _ _ _ j
  have hf : ∀ j, W0.frozen? ⟨w.heap.size, j, none⟩ = false := fun j => by rw [← hW0]; exact World.frozen?_alloc_at _ _ _ _ rfl
  have kc : ∀ w', Below W0.heap.size W0 w' → Below w.heap.size w w' ∧ w'.cell? ⟨w.heap.size, 0, none⟩ = some (.string ⟨#[]⟩) ∧ w'.cell? ⟨w.heap.size, 1, none⟩ = some (.string ⟨#[]⟩) ∧ w'.cell? ⟨w.heap.size, 2, none⟩ = some (.bool false) ∧ w'.cell? ⟨w.heap.size, 3, none⟩ = some (.string ⟨#[]⟩) ∧ w'.frozen? ⟨w.heap.size, 0, none⟩ = false ∧ w'.frozen? ⟨w.heap.size, 1, none⟩ = false ∧ w'.frozen? ⟨w.heap.size, 2, none⟩ = false ∧ w'.frozen? ⟨w.heap.size, 3, none⟩ = false ∧ w.heap.size < w'.heap.size :=
    fun w' h => ⟨hB0.trans (h.mono hB0.size), (h.cell (p := ⟨w.heap.size, 0, none⟩) z0).trans (hc 0), (h.cell (p := ⟨w.heap.size, 1, none⟩) z0).trans (hc 1), (h.cell (p := ⟨w.heap.size, 2, none⟩) z0).trans (hc 2), (h.cell (p := ⟨w.heap.size, 3, none⟩) z0).trans (hc 3), (h.frozen (p := ⟨w.heap.size, 0, none⟩) z0).trans (hf 0), (h.frozen (p := ⟨w.heap.size, 1, none⟩) z0).trans (hf 1), (h.frozen (p := ⟨w.heap.size, 2, none⟩) z0).trans (hf 2), (h.frozen (p := ⟨w.heap.size, 3, none⟩) z0).trans (hf 3), Nat.lt_of_lt_of_le z0 h.size⟩
  have k1 := cut_any s ⟨#[61]⟩ W0 (hM.below hB0) hs
  rw [show (⟨#[61]⟩ : ByteArray).data.toList = [61] from rfl] at k1
  have hl := cut_lens s.data.toList [61]
  rw [← Lib.size_eq] at hl
  have ho : saidO s.data.toList = bif !tokenL (Lib.cut s.data.toList [61]).1 then none
    else bif (Lib.cut s.data.toList [61]).2.2 && !tokenL (Lib.cut s.data.toList [61]).2.1 then (unqP (Lib.cut s.data.toList [61]).2.1).map fun s2 => ⟨lowerL (Lib.cut s.data.toList [61]).1, s2, true, []⟩
    else some ⟨lowerL (Lib.cut s.data.toList [61]).1, (Lib.cut s.data.toList [61]).2.1, (Lib.cut s.data.toList [61]).2.2, []⟩ := rfl
  generalize Lib.cut s.data.toList [61] = c at *
  obtain ⟨nm, v, has⟩ := c
  obtain ⟨nm, rfl⟩ : ∃ o : ByteArray, nm = o.data.toList := ⟨⟨nm.toArray⟩, rfl⟩
  obtain ⟨v, rfl⟩ : ∃ o : ByteArray, v = o.data.toList := ⟨⟨v.toArray⟩, rfl⟩
  simp only [str_of, ← Lib.size_eq] at k1 hl ho
  obtain ⟨hl1, hl2⟩ := hl
  have k2 := fun w => token_any nm w (by omega)
  have k3 := fun w => token_any v w (by omega)
  have k4 := fun w => lower_any nm w (by omega)
  have k5 := fun w => unquote_any v w (by omega)
  obtain ⟨ln, hln⟩ : ∃ ln : ByteArray, ⟨(lowerL nm.data.toList).toArray⟩ = ln := ⟨_, rfl⟩
  rw [hln] at k4
  have hV : saidV (saidO s.data.toList) = bif !tokenL nm.data.toList then .tuple #[.agg #[.string ⟨#[]⟩, .string ⟨#[]⟩, .bool false, .string ⟨#[]⟩], .bool false] else bif has && !tokenL v.data.toList then (match unqP v.data.toList with | none => .tuple #[.agg #[.string ⟨#[]⟩, .string ⟨#[]⟩, .bool false, .string ⟨#[]⟩], .bool false] | some s2 => .tuple #[.agg #[.string ln, .string ⟨s2.toArray⟩, .bool true, .string ⟨#[]⟩], .bool true]) else .tuple #[.agg #[.string ln, .string v, .bool has, .string ⟨#[]⟩], .bool true] := by
    rw [ho, ← hln]
    cases tokenL nm.data.toList
    · rfl
    · cases has <;> cases tokenL v.data.toList <;> simp only [Bool.not_true, Bool.not_false, cond_true, cond_false, Bool.and_true, Bool.and_false, saidV, str_of]
      cases unqP v.data.toList <;> rfl
  generalize saidV (saidO s.data.toList) = out at *
  generalize tokenL nm.data.toList = tn at *
  generalize tokenL v.data.toList = tv at *
  generalize unqP v.data.toList = uq at *
  have K1 := Lib.hid k1; have K2 := Lib.hid k2; have K3 := Lib.hid k3; have K4 := Lib.hid k4; have K5 := Lib.hid k5; have KC := Lib.hid kc; have HW0 := Lib.hid hW0
  clear k1 k2 k3 k4 k5 kc hc hf hW0 ho hln hl1 hl2
  cases tn
  · have HO := Lib.hid (show out = _ from hV); clear hV
    simp only [Bool.not_false, cond_true] at HO
    go_enter Tryz.func163, Tryz.ntmps163
    go_wp2_with fail
    rw [HW0.out]
    refine K1.out.mono ?_
    rintro e w1 ⟨rfl, hb1⟩
    go_wp2_with fail
    refine (K2.out _).mono ?_
    rintro e w2 ⟨rfl, rfl⟩
    have ho := HO.out
    subst ho
    clear HO
    obtain ⟨hBw, g0, g1, g2, g3, q0, q1, q2, q3, glt⟩ := KC.out _ hb1
    clear KC
    go_wp2_with fail
    refine bodyPost_ret_by (v := .tuple #[.agg #[.string ⟨#[]⟩, .string ⟨#[]⟩, .bool false, .string ⟨#[]⟩], .bool false]) ?_ rfl ?_
    · rw [results_cell_tmp rfl]
      go_simp
    · exact ⟨rfl, (((hBw.setCell (p := ⟨w.heap.size, 0, none⟩) (Nat.le_refl _) _).setCell (p := ⟨w.heap.size, 1, none⟩) (Nat.le_refl _) _).setCell (p := ⟨w.heap.size, 2, none⟩) (Nat.le_refl _) _).setCell (p := ⟨w.heap.size, 3, none⟩) (Nat.le_refl _) _⟩
  · simp only [Bool.not_true, cond_false] at hV
    cases has
    · simp only [Bool.false_and, cond_false] at hV
      have HO := Lib.hid hV; clear hV
      go_enter Tryz.func163, Tryz.ntmps163
      go_wp2_with fail
      rw [HW0.out]
      refine K1.out.mono ?_
      rintro e w1 ⟨rfl, hb1⟩
      go_wp2_with fail
      refine (K2.out _).mono ?_
      rintro e w2 ⟨rfl, rfl⟩
      have ho := HO.out
      subst ho
      clear HO
      go_wp2_with fail
      refine (K4.out _).mono ?_
      rintro e w9 ⟨rfl, hb9⟩
      have hB9 := bt hb1 hb9
      obtain ⟨hBw, g0, g1, g2, g3, q0, q1, q2, q3, glt⟩ := KC.out _ hB9
      clear KC
      go_wp2_with fail
      refine bodyPost_ret_by (v := .tuple #[.agg #[.string ln, .string v, .bool false, .string ⟨#[]⟩], .bool true]) ?_ rfl ?_
      · rw [results_cell_tmp rfl]
        go_simp
      · exact ⟨rfl, (((hBw.setCell (p := ⟨w.heap.size, 0, none⟩) (Nat.le_refl _) _).setCell (p := ⟨w.heap.size, 1, none⟩) (Nat.le_refl _) _).setCell (p := ⟨w.heap.size, 2, none⟩) (Nat.le_refl _) _).setCell (p := ⟨w.heap.size, 3, none⟩) (Nat.le_refl _) _⟩
    · cases tv
      · simp only [Bool.not_false, Bool.and_true, cond_true] at hV
        cases uq with
        | none =>
          have HO := Lib.hid hV; clear hV
          simp only at HO
          have K6 : Hid (∀ w, Calls Tryz.prog 189 #[.string v] w fun e w' => e = .returned (.tuple #[.string ⟨#[]⟩, .int .i64 4]) ∧ Below w.heap.size w w') := K5
          go_enter Tryz.func163, Tryz.ntmps163
          go_wp2_with fail
          rw [HW0.out]
          refine K1.out.mono ?_
          rintro e w1 ⟨rfl, hb1⟩
          go_wp2_with fail
          refine (K2.out _).mono ?_
          rintro e w2 ⟨rfl, rfl⟩
          go_wp2_with fail
          refine (K3.out _).mono ?_
          rintro e w3 ⟨rfl, rfl⟩
          go_wp2_with fail
          refine (K6.out _).mono ?_
          rintro e w4 ⟨rfl, hb4⟩
          have hB4 := bt hb1 hb4
          have ho := HO.out
          subst ho
          clear HO
          obtain ⟨hBw, g0, g1, g2, g3, q0, q1, q2, q3, glt⟩ := KC.out _ hB4
          clear KC
          go_wp2_with fail
          refine bodyPost_ret_by (v := .tuple #[.agg #[.string ⟨#[]⟩, .string ⟨#[]⟩, .bool false, .string ⟨#[]⟩], .bool false]) ?_ rfl ?_
          · rw [results_cell_tmp rfl]
            go_simp
          · exact ⟨rfl, (((hBw.setCell (p := ⟨w.heap.size, 0, none⟩) (Nat.le_refl _) _).setCell (p := ⟨w.heap.size, 1, none⟩) (Nat.le_refl _) _).setCell (p := ⟨w.heap.size, 2, none⟩) (Nat.le_refl _) _).setCell (p := ⟨w.heap.size, 3, none⟩) (Nat.le_refl _) _⟩
        | some s2 =>
          have HO := Lib.hid hV; clear hV
          simp only at HO
          have K6 : Hid (∀ w, Calls Tryz.prog 189 #[.string v] w fun e w' => e = .returned (.tuple #[.string ⟨s2.toArray⟩, .int .i64 0]) ∧ Below w.heap.size w w') := K5
          go_enter Tryz.func163, Tryz.ntmps163
          go_wp2_with fail
          rw [HW0.out]
          refine K1.out.mono ?_
          rintro e w1 ⟨rfl, hb1⟩
          go_wp2_with fail
          refine (K2.out _).mono ?_
          rintro e w2 ⟨rfl, rfl⟩
          go_wp2_with fail
          refine (K3.out _).mono ?_
          rintro e w3 ⟨rfl, rfl⟩
          go_wp2_with fail
          refine (K6.out _).mono ?_
          rintro e w4 ⟨rfl, hb4⟩
          have hB4 := bt hb1 hb4
          have ho := HO.out
          subst ho
          clear HO
          go_wp2_with fail
          refine (K4.out _).mono ?_
          rintro e w9 ⟨rfl, hb9⟩
          have hB9 := bt hB4 hb9
          obtain ⟨hBw, g0, g1, g2, g3, q0, q1, q2, q3, glt⟩ := KC.out _ hB9
          clear KC
          go_wp2_with fail
          refine bodyPost_ret_by (v := .tuple #[.agg #[.string ln, .string ⟨s2.toArray⟩, .bool true, .string ⟨#[]⟩], .bool true]) ?_ rfl ?_
          · rw [results_cell_tmp rfl]
            go_simp
          · exact ⟨rfl, (((hBw.setCell (p := ⟨w.heap.size, 0, none⟩) (Nat.le_refl _) _).setCell (p := ⟨w.heap.size, 1, none⟩) (Nat.le_refl _) _).setCell (p := ⟨w.heap.size, 2, none⟩) (Nat.le_refl _) _).setCell (p := ⟨w.heap.size, 3, none⟩) (Nat.le_refl _) _⟩
      · simp only [Bool.not_true, Bool.and_false, cond_false] at hV
        have HO := Lib.hid hV; clear hV
        go_enter Tryz.func163, Tryz.ntmps163
        go_wp2_with fail
        rw [HW0.out]
        refine K1.out.mono ?_
        rintro e w1 ⟨rfl, hb1⟩
        go_wp2_with fail
        refine (K2.out _).mono ?_
        rintro e w2 ⟨rfl, rfl⟩
        go_wp2_with fail
        refine (K3.out _).mono ?_
        rintro e w3 ⟨rfl, rfl⟩
        have ho := HO.out
        subst ho
        clear HO
        go_wp2_with fail
        refine (K4.out _).mono ?_
        rintro e w9 ⟨rfl, hb9⟩
        have hB9 := bt hb1 hb9
        obtain ⟨hBw, g0, g1, g2, g3, q0, q1, q2, q3, glt⟩ := KC.out _ hB9
        clear KC
        go_wp2_with fail
        refine bodyPost_ret_by (v := .tuple #[.agg #[.string ln, .string v, .bool true, .string ⟨#[]⟩], .bool true]) ?_ rfl ?_
        · rw [results_cell_tmp rfl]
          go_simp
        · exact ⟨rfl, (((hBw.setCell (p := ⟨w.heap.size, 0, none⟩) (Nat.le_refl _) _).setCell (p := ⟨w.heap.size, 1, none⟩) (Nat.le_refl _) _).setCell (p := ⟨w.heap.size, 2, none⟩) (Nat.le_refl _) _).setCell (p := ⟨w.heap.size, 3, none⟩) (Nat.le_refl _) _⟩
end Go.Proofs.YtcgdcbnhpbokfaaGreatDoor
/- The walk of text.Split: its closure first. -/
namespace Go.Proofs.YtcgdcbnhpbokfaaGreatDoor
open Go.RowKit

/-- What the closure stands on: the text, where the piece began, and the pieces so far. -/
structure TakeSt (B : Nat) (s : ByteArray) (f : Nat) (ls : List (List UInt8)) (w : World) : Prop where
  text : w.heap[B]? = some (.cells #[.string s] 9 (0, 0))
  list : ∃ v, w.heap[B + 1]? = some (.cells #[v] 46 (0, 0)) ∧ OwnS (B + 3) v ls w
  start : w.heap[B + 2]? = some (.cells #[.int .i64 f] 3 (0, 0))

def pieceOf (s : ByteArray) (f t : Nat) : List UInt8 := trimL ((s.data.toList.drop f).take (t - f))

set_option maxRecDepth 100000 in
set_option maxHeartbeats 2000000 in
theorem take_any (B : Nat) (s : ByteArray) (f t : Nat) (ls : List (List UInt8)) (w : World) (h : TakeSt B s f ls w) (hft : f ≤ t) (ht : t ≤ s.size) (hs : s.size ≤ 1000000) (hn : ls.length ≤ 1000001) :
    Calls Tryz.prog 142 #[.int .i64 t, .pointer (some ⟨B, 0, none⟩), .pointer (some ⟨B + 2, 0, none⟩), .pointer (some ⟨B + 1, 0, none⟩)] w
      fun e w' => e = .returned (.tuple #[]) ∧ TakeSt B s (t + 1) (addP ls (pieceOf s f t)) w' ∧ Below B w w' := by
  obtain ⟨h1, ⟨v, h2, hown⟩, h3⟩ := h
  obtain ⟨c1, z1, l1⟩ := of_heap h1 0
  obtain ⟨c2, z2, l2⟩ := of_heap h2 0
  obtain ⟨c3, z3, l3⟩ := of_heap h3 0
  simp at c1 c2 c3
  have hex : (s.extract f t).data.toList = (s.data.toList.drop f).take (t - f) := Lib.extract_data s f t
  have hexs : (s.extract f t).size ≤ 1000000 := by rw [ByteArray.size_extract]; omega
  have k1 := fun w => trim_any (s.extract f t) w hexs
  rw [hex] at k1
  have hp : trimL ((s.data.toList.drop f).take (t - f)) = pieceOf s f t := rfl
  rw [hp] at k1
  have hpl : (pieceOf s f t).length ≤ 1000000 := by
    have h1 := trimL_le ((s.data.toList.drop f).take (t - f))
    rw [hp] at h1
    have h2 : ((s.data.toList.drop f).take (t - f)).length ≤ s.data.toList.length := by rw [List.length_take, List.length_drop]; omega
    rw [← Lib.size_eq] at h2; omega
  generalize pieceOf s f t = p at *
  have K1 := Lib.hid k1; have HO := Lib.hid hown; have H1 := Lib.hid h1; have H2 := Lib.hid h2; have H3 := Lib.hid h3
  clear k1 hown h1 h2 h3 hex hp
  obtain ⟨i0, hi, hz0, hz1, hz2⟩ := info_parts uStr
  cases he : p.isEmpty
  · have hadd : addP ls p = ls ++ [p] := by unfold addP; rw [he]; rfl
    have HA := Lib.hid hadd; clear hadd
    go_enter Tryz.func142, Tryz.ntmps142
    go_wp2_with (first | (go_at_call 143; refine (K1.out _).mono ?_; rintro e w1 ⟨rfl, hb1⟩; have d2 := (hb1.cell (p := ⟨B + 1, 0, none⟩) l2).trans c2; have d3 := (hb1.cell (p := ⟨B + 2, 0, none⟩) l3).trans c3; have y2 := (hb1.frozen (p := ⟨B + 1, 0, none⟩) l2).trans z2; have y3 := (hb1.frozen (p := ⟨B + 2, 0, none⟩) l3).trans z3; have HO1 := Lib.hid (own_below HO.out hb1)) | (at_builtin; refine wpList_append_own _ rfl _ _ 46 rfl (B + 3) 9 i0 (.string ByteArray.empty) 1 16 Tryz.underlying46 hi hz0 hz1 hz2 rfl (by decide) _ _ _ rfl (HO1.out.alloc _) ⟨w1.heap.size, 0, none⟩ 1 1 [.string ⟨p.toArray⟩] rfl rfl ?c1 ?c2 ?c3 ?c4 ?c5 ?_))
    case c1 =>
      intro j u hj
      match j, hj with
      | 0, hj => simp at hj; subst hj; simp [Addr.add]
    case c2 => intro u hu; simp at hu; subst hu; rfl
    case c3 => unfold maxLen; omega
    case c4 => omega
    case c5 => have := hb1.size; simp; omega
    intro v' w2 hown' hgrow _
    have hkeep : ∀ b, b < B + 3 → b < w.heap.size → w2.heap[b]? = w.heap[b]? := by
      intro b hb3 hbw
      have h1 := hb1.size
      rw [hgrow.block b (by simp; omega) (fun e => by have := (HO1.out.lt b e.symm).1; omega), Below.heap_alloc _ _ _ (by omega), hb1.block b hbw]
    have q1 := (hkeep B (by omega) l1).trans H1.out
    have q2 := (hkeep (B + 1) (by omega) l2).trans H2.out
    have q3 := (hkeep (B + 2) (by omega) l3).trans H3.out
    obtain ⟨e2, f2, _⟩ := of_heap q2 0
    obtain ⟨e3, f3, _⟩ := of_heap q3 0
    simp at e2 e3
    obtain ⟨g, cap, rfl⟩ : ∃ g cap, v' = .slice (some ⟨g, 0, none⟩) (ls.length + 1) cap := by
      rcases hown'.2 with ⟨_, h0⟩ | ⟨g, cap, cur, hv, _⟩
      · omega
      · exact ⟨g, cap, hv⟩
    have hbelow : Below B w w2 := ((hb1.mono (by omega)).alloc (by have := hb1.size; omega) _).grown hgrow (by have := hb1.size; simp; omega) (fun k hk => by have := (HO1.out.lt k hk).1; omega)
    have HQ1 := Lib.hid q1; have HQ2 := Lib.hid q2; have HQ3 := Lib.hid q3; have HN := Lib.hid hown'; have HB := Lib.hid hbelow
    clear q1 q2 q3 hown' hkeep hgrow hbelow hb1 d2 d3 y2 y3 c1 c2 c3
    go_wp2
    go_end0
    refine ⟨rfl, ⟨?_, ⟨_, heap_set2 (by omega) HQ2.out, ?_⟩, ?_⟩, (HB.out.setCell (p := ⟨B + 1, 0, none⟩) (by show B ≤ B + 1; omega) _).setCell (p := ⟨B + 2, 0, none⟩) (by show B ≤ B + 2; omega) _⟩
    · rw [Below.heap_setCell _ _ _ _ (by show B ≠ B + 2; omega), Below.heap_setCell _ _ _ _ (by show B ≠ B + 1; omega)]; exact HQ1.out
    · rw [HA.out]
      refine ownsRow_setCell_below (ownsRow_setCell_below ?_ (by show B + 1 < B + 3; omega) _) (by show B + 2 < B + 3; omega) _
      rw [List.length_append, List.length_singleton, List.map_append]; exact HN.out
    · exact heap_set (by rw [Below.heap_setCell _ _ _ _ (by show B + 2 ≠ B + 1; omega)]; exact HQ3.out)
  · have hadd : addP ls p = ls := by unfold addP; rw [he]; rfl
    have HA := Lib.hid hadd; clear hadd
    go_enter Tryz.func142, Tryz.ntmps142
    go_wp2_with (go_at_call 143; refine (K1.out _).mono ?_; rintro e w1 ⟨rfl, hb1⟩; have d3 := (hb1.cell (p := ⟨B + 2, 0, none⟩) l3).trans c3; have y3 := (hb1.frozen (p := ⟨B + 2, 0, none⟩) l3).trans z3)
    go_end0
    refine ⟨rfl, ⟨?_, ⟨v, ?_, ?_⟩, ?_⟩, (hb1.mono (by omega)).setCell (p := ⟨B + 2, 0, none⟩) (by show B ≤ B + 2; omega) _⟩
    · rw [Below.heap_setCell _ _ _ _ (by show B ≠ B + 2; omega), hb1.block B l1]; exact H1.out
    · rw [Below.heap_setCell _ _ _ _ (by show B + 1 ≠ B + 2; omega), hb1.block (B + 1) l2]; exact H2.out
    · rw [HA.out]; exact ownsRow_setCell_below (own_below HO.out hb1) (by show B + 2 < B + 3; omega) _
    · exact heap_set (by rw [hb1.block (B + 2) l3]; exact H3.out)

def seg (s : ByteArray) (f k : Nat) : List UInt8 := (s.data.toList.drop f).take (k - f)
theorem seg_snoc (s : ByteArray) (f k : Nat) (hf : f ≤ k) (h : k < s.size) : seg s f (k + 1) = seg s f k ++ [s[k]] := by
  unfold seg
  rw [show k + 1 - f = (k - f) + 1 from by omega, List.take_succ_eq_append_getElem (by rw [List.length_drop, ← Lib.size_eq]; omega)]
  congr 2
  rw [List.getElem_drop, at_list s k h]; congr 1; omega
theorem seg_self (s : ByteArray) (k : Nat) : seg s k k = [] := by unfold seg; rw [Nat.sub_self]; rfl
/-- One step of the scan, by what the byte is. -/
theorem spl_step (sep : UInt8) (o b : Bool) (cur : List UInt8) (ls : List (List UInt8)) (c : UInt8) (r : List UInt8) (x92 x34 xs : Bool) (h1 : ((c.toNat : Int) == 92) = x92) (h2 : ((c.toNat : Int) == 34) = x34) (h3 : ((c.toNat : Int) == (sep.toNat : Int)) = xs) :
    splP sep o b cur ls (c :: r) = bif b then splP sep o false (cur ++ [c]) ls r
    else bif o && x92 then splP sep o true (cur ++ [c]) ls r
    else bif x34 then splP sep (!o) false (cur ++ [c]) ls r
    else bif xs && !o then splP sep o false [] (addP ls (trimL cur)) r
    else splP sep o false (cur ++ [c]) ls r := by
  have e1 := (beq_cast c.toNat 92).trans h1
  have e2 := (beq_cast c.toNat 34).trans h2
  have e3 := (beq_cast c.toNat sep.toNat).trans h3
  rw [splP, e1, e2, e3]

/-- What Split hands back. -/
def SplitPost (w : World) (r : List (List UInt8) × Int) (e : Ending) (w' : World) : Prop :=
  ∃ a cap, e = .returned (.tuple #[.slice a r.1.length cap, .int .i64 r.2]) ∧ OwnS w.heap.size (.slice a r.1.length cap) r.1 w' ∧ Below w.heap.size w w'
theorem SplitPost.none {w w' : World} {n : Int} (h : Below w.heap.size w w') : SplitPost w ([], n) (.returned (.tuple #[.slice none 0 0, .int .i64 n])) w' :=
  ⟨Option.none, 0, rfl, World.ownsRow_nil _ _ _ _, h⟩

set_option maxRecDepth 100000 in
set_option maxHeartbeats 4000000 in
theorem split_any (s : ByteArray) (sep : UInt8) (w : World) (hs : s.size ≤ 1000000) :
    Calls Tryz.prog 92 #[.string s, .int .u8 sep.toNat] w (SplitPost w (splitL sep s.data.toList)) := by
  cases q1 : ((sep.toNat : Int) == 34)
  · cases q2 : ((sep.toNat : Int) == 92)
    · have hsp : splitL sep s.data.toList = splitE (splP sep false false [] [] s.data.toList) := by
        unfold splitL; rw [(beq_cast sep.toNat 34).trans q1, (beq_cast sep.toNat 92).trans q2]; rfl
      rw [hsp]; clear hsp
      obtain ⟨tot, htot⟩ : ∃ t, splP sep false false [] [] s.data.toList = t := ⟨_, rfl⟩
      rw [htot]
      have hcnt : ∀ ps, tot = some ps → ps.length ≤ 1000001 := by
        intro ps e
        have := spl_count sep s.data.toList false false [] [] ps (htot.trans e)
        rw [← Lib.size_eq] at this; simp at this; omega
      have HT := Lib.hid htot; have HC := Lib.hid hcnt; clear htot hcnt
      have hB3 : Below w.heap.size w (((w.alloc (.cells #[.string s] 9)).alloc (.cells #[.slice none 0 0] 46)).alloc (.cells #[.int .i64 0] 3)) := (((Below.refl _ w).alloc (Nat.le_refl _) _).alloc (by simp) _).alloc (by simp; omega) _
      have hst : TakeSt w.heap.size s 0 [] (((w.alloc (.cells #[.string s] 9)).alloc (.cells #[.slice none 0 0] 46)).alloc (.cells #[.int .i64 0] 3)) := by
        refine ⟨?_, ⟨.slice none 0 0, ?_, World.ownsRow_nil _ _ _ _⟩, ?_⟩
        · rw [Below.heap_alloc _ _ _ (by simp; omega), Below.heap_alloc _ _ _ (by simp)]; exact heap_new _ _ _ rfl
        · rw [Below.heap_alloc _ _ _ (by simp)]; exact heap_new _ _ _ (by simp)
        · exact heap_new _ _ _ (by simp)
      have HB3 := Lib.hid hB3; have HST := Lib.hid hst; clear hB3 hst
      go_enter Tryz.func92, Tryz.ntmps92
      go_wp2
      go_loopw [22, 8, 9] (fun i o b wr => ∃ (k : Nat) (oo bb : Bool) (f : Nat) (ls : List (List UInt8)), k ≤ s.size ∧ i = .int .i64 k ∧ o = .bool oo ∧ b = .bool bb ∧ f ≤ k ∧ (bb = true → oo = true) ∧ ls.length ≤ k ∧ TakeSt w.heap.size s f ls wr ∧ Below w.heap.size w wr ∧ Hid (splP sep oo bb (seg s f k) ls (s.data.toList.drop k) = tot)) (fun i _ _ _ => s.size - (intOf i).toNat)
      case atStart => exact ⟨0, false, false, 0, [], Nat.zero_le _, rfl, rfl, rfl, Nat.le_refl _, (fun h => absurd h (by decide)), by simp, HST.out, HB3.out, by show _ = _; rw [seg_self]; exact HT.out⟩
      case round =>
        clear HB3 HST
        obtain ⟨k, oo, bb, f, ls, hk, rfl, rfl, rfl, hfk, hbo, hls, hst, hbw, Htot⟩ := hrel
        obtain ⟨ct, _, lt⟩ := of_heap hst.text 0
        simp at ct
        have HST := Lib.hid hst; clear hst
        have Hbo := Lib.hid hbo; clear hbo
        by_cases hlt : k < s.size
        · have hd := drop_cons s k hlt
          have hsg := seg_snoc s f k hfk hlt
          cases x92 : ((s[k].toNat : Int) == 92) <;> cases x34 : ((s[k].toNat : Int) == 34) <;> cases xs : ((s[k].toNat : Int) == (sep.toNat : Int))
          all_goals
            have hstep := Htot.out
            rw [hd, spl_step sep oo bb _ ls s[k] _ _ _ _ x92 x34 xs, ← hsg] at hstep
          all_goals clear hd hsg
          all_goals try (exfalso; simp at x92 x34 xs q1 q2; omega; done)
          all_goals cases bb <;> cases oo
          all_goals try (exact absurd (Hbo.out rfl) (by decide))
          all_goals simp only [cond_true, cond_false, Bool.and_true, Bool.and_false, Bool.not_true, Bool.not_false] at hstep
          all_goals first
            | (with_reducible (have HN0 : splP sep _ _ (seg s f (k + 1)) ls (List.drop (k + 1) s.data.toList) = tot := hstep)
               have HN := Lib.hid HN0
               clear HN0 hstep
               go_wp2
               go_roundw
               case rel => exact ⟨k + 1, _, _, f, ls, by omega, by go_num, rfl, rfl, by omega, (fun h => by first | rfl | exact absurd h (by decide)), by omega, HST.out, hbw, HN⟩
               case measure => simp [intOf]; omega)
            | (have hp : trimL (seg s f k) = pieceOf s f k := rfl
               rw [hp, ← seg_self s (k + 1)] at hstep
               have HN := Lib.hid hstep
               clear hstep hp
               have hal := addP_le ls (pieceOf s f k)
               go_wp2_with (go_at_call 142; refine (take_any w.heap.size s f k ls _ HST.out hfk (by omega) hs (by omega)).mono ?_; rintro e w2 ⟨rfl, hst2, hb2⟩)
               have HST2 := Lib.hid hst2; clear hst2
               go_wp2
               go_roundw
               case rel => exact ⟨k + 1, _, _, k + 1, addP ls (pieceOf s f k), by omega, by go_num, rfl, rfl, by omega, (fun h => by first | rfl | exact absurd h (by decide)), by omega, HST2.out, hbw.trans hb2, HN⟩
               case measure => simp [intOf]; omega)
        · have hke : k = s.size := by omega
          subst hke
          have hend := Htot.out
          rw [drop_all s s.size (Nat.le_refl _)] at hend
          cases oo
          · have hp : trimL (seg s f s.size) = pieceOf s f s.size := rfl
            simp only [splP, cond_false, hp] at hend
            subst hend
            have hcn := HC.out _ rfl
            have Hcn := Lib.hid hcn; clear hcn
            clear HT Htot
            have hal := addP_le ls (pieceOf s f s.size)
            go_wp2_with fail
            refine (take_any w.heap.size s f s.size ls _ HST.out hfk (Nat.le_refl _) hs (by omega)).mono ?_
            rintro e w2 ⟨rfl, hst2, hb2⟩
            generalize addP ls (pieceOf s f s.size) = ps at *
            obtain ⟨h1, ⟨v, h2, hown⟩, h3⟩ := hst2
            obtain ⟨a, cap, rfl⟩ := hown.shape
            obtain ⟨c2, _, l2⟩ := of_heap h2 0
            simp at c2
            have hB := hbw.trans hb2
            have HO := Lib.hid hown
            clear hown h1 h2 h3 hb2
            cases hlen : decide (64 < ps.length)
            · have hse : splitE (some ps) = (ps, 0) := by unfold splitE; simp only [hlen, cond_false]
              have HSE := Lib.hid hse
              have t1 : decide ((64 : Int) < (ps.length : Int)) = false := by simp at hlen ⊢; omega
              clear hlen hse
              go_wp2
              go_ret2
              rw [HSE.out]
              exact ⟨a, cap, rfl, ⟨HO.out.1, by
                rcases HO.out.2 with h | ⟨g, cp, cur, hv, hg, r⟩
                · exact Or.inl h
                · exact Or.inr ⟨g, cp, cur, hv, by omega, r⟩⟩, hB⟩
            · have hse : splitE (some ps) = ([], 3) := by unfold splitE; simp only [hlen, cond_true]
              have HSE := Lib.hid hse
              have t1 : decide ((64 : Int) < (ps.length : Int)) = true := by simp at hlen ⊢; omega
              clear hlen hse
              go_wp2
              go_ret2
              rw [HSE.out]
              exact SplitPost.none hB
          · simp only [splP, cond_true] at hend
            subst hend
            clear HT Htot HC
            go_wp2
            go_ret2
            exact SplitPost.none hbw
    · have hsp : splitL sep s.data.toList = ([], 2) := by unfold splitL; rw [(beq_cast sep.toNat 34).trans q1, (beq_cast sep.toNat 92).trans q2]; rfl
      rw [hsp]; clear hsp
      go_enter Tryz.func92, Tryz.ntmps92
      go_wp2
      go_ret2
      exact SplitPost.none ((Below.refl _ w).alloc (Nat.le_refl _) _)
  · have hsp : splitL sep s.data.toList = ([], 2) := by unfold splitL; rw [(beq_cast sep.toNat 34).trans q1]; rfl
    rw [hsp]; clear hsp
    go_enter Tryz.func92, Tryz.ntmps92
    go_wp2
    go_ret2
    exact SplitPost.none ((Below.refl _ w).alloc (Nat.le_refl _) _)
end Go.Proofs.YtcgdcbnhpbokfaaGreatDoor
/- What a round keeps that writes one cell and the row that it leads to. -/
namespace Go.Proofs.YtcgdcbnhpbokfaaGreatDoor
open Go.RowKit

/-- The cell at L leads to block g. -/
def rowOf (L : Nat) (w : World) (g : Nat) : Prop := ∃ v, w.cell? ⟨L, 0, none⟩ = some v ∧ v.ownBlock = some g
/-- All blocks of cells lie as they lay, but for L and its row; a new row lies in new memory. -/
def KpRow (L : Nat) (w w' : World) : Prop :=
  w.heap.size ≤ w'.heap.size ∧ (∀ b cur e fz, w.heap[b]? = some (.cells cur e fz) → b ≠ L → ¬ rowOf L w b → w'.heap[b]? = some (.cells cur e fz)) ∧
  (∀ g, rowOf L w' g → rowOf L w g ∨ (w.heap.size ≤ g ∧ g < w'.heap.size))
theorem heap_lt {w : World} {b : Nat} {o : Obj} (h : w.heap[b]? = some o) : b < w.heap.size := by
  rcases Nat.lt_or_ge b w.heap.size with h' | h'
  · exact h'
  · simp [Array.getElem?_eq_none h'] at h
theorem KpRow.trans {L : Nat} {a b c : World} (h : KpRow L a b) (k : KpRow L b c) : KpRow L a c := by
  refine ⟨Nat.le_trans h.1 k.1, fun i cur e fz hi hL hr => ?_, fun g hg => ?_⟩
  · have h1 := h.2.1 i cur e fz hi hL hr
    refine k.2.1 i cur e fz h1 hL (fun hr2 => ?_)
    rcases h.2.2 i hr2 with h3 | h3
    · exact hr h3
    · have := heap_lt hi; omega
  · rcases k.2.2 g hg with h3 | h3
    · rcases h.2.2 g h3 with h4 | h4
      · exact Or.inl h4
      · exact Or.inr ⟨h4.1, Nat.lt_of_lt_of_le h4.2 k.1⟩
    · exact Or.inr ⟨Nat.le_trans h.1 h3.1, h3.2⟩
theorem rowOf_below {L g : Nat} {w w' : World} (hb : Below w.heap.size w w') (hL : L < w.heap.size) : rowOf L w' g ↔ rowOf L w g := by
  unfold rowOf
  rw [hb.cell (p := ⟨L, 0, none⟩) hL]
/-- The row that L leads to lies beyond n, in the heap. -/
def RowIn (n L : Nat) (w : World) : Prop := ∀ g, rowOf L w g → n ≤ g ∧ g < w.heap.size
theorem RowIn.kp {n L : Nat} {w w' : World} (h : RowIn n L w) (k : KpRow L w w') (hn : n ≤ w.heap.size) : RowIn n L w' := by
  intro g hg
  rcases k.2.2 g hg with h1 | h1
  · exact ⟨(h g h1).1, Nat.lt_of_lt_of_le (h g h1).2 k.1⟩
  · exact ⟨Nat.le_trans hn h1.1, h1.2⟩
theorem RowIn.below {n L : Nat} {w w' : World} (h : RowIn n L w) (hb : Below w.heap.size w w') (hL : L < w.heap.size) : RowIn n L w' := by
  intro g hg
  have := h g ((rowOf_below hb hL).1 hg)
  exact ⟨this.1, Nat.lt_of_lt_of_le this.2 hb.size⟩
/-- What lies in a block of cells that is neither L nor its row is read as it was. -/
theorem KpRow.own {L B : Nat} {e : TypeId} {size n : Nat} {v : Value} {xs : List Value} {w w' : World} (k : KpRow L w w') (h : w.ownsRow B e size v n xs) (hL : L < B) (hr : ∀ g, v.ownBlock = some g → ¬ rowOf L w g) : w'.ownsRow B e size v n xs := by
  obtain ⟨h1, h2⟩ := h
  refine ⟨h1, ?_⟩
  rcases h2 with h2 | ⟨g, cap, cur, hv, hg, hh, r⟩
  · exact Or.inl h2
  · exact Or.inr ⟨g, cap, cur, hv, hg, k.2.1 g cur e (0, 0) hh (by omega) (hr g (by rw [hv]; rfl)), r⟩
theorem KpRow.cell {L b j : Nat} {u : Value} {w w' : World} (k : KpRow L w w') (h : w.cell? ⟨b, j, none⟩ = some u) (hL : b ≠ L) (hr : ¬ rowOf L w b) : w'.cell? ⟨b, j, none⟩ = some u := by
  cases ho : w.heap[b]? with
  | none => simp [World.cell?, ho] at h
  | some o =>
    cases o with
    | cells cur e fz =>
      have h2 := k.2.1 b cur e fz ho hL hr
      simp only [World.cell?, ho] at h
      simp only [World.cell?, h2]
      exact h
    | _ => simp [World.cell?, ho] at h
theorem KpRow.rd {L : Nat} {A : Option Addr} {n size : Nat} {xs : List Value} {w w' : World} (k : KpRow L w w') (h : Rd A n size xs w) (hr : 0 < n → ∀ b o, A = some ⟨b, o, none⟩ → b ≠ L ∧ ¬ rowOf L w b) : Rd A n size xs w' := by
  refine ⟨h.1, fun hn => ?_⟩
  obtain ⟨b, o, e, hl, hc⟩ := h.2 hn
  obtain ⟨h1, h2⟩ := hr hn b o e
  exact ⟨b, o, e, Nat.lt_of_lt_of_le hl k.1, fun j u hu => k.cell (hc j u hu) h1 h2⟩
/-- A turn of what is no cells, beyond L, is kept by KpRow. -/
theorem KpRow.putObj {L l : Nat} {o : Obj} {w : World} (o' : Obj) (hl : w.heap[l]? = some o) (ho : o.isCells = false) (hL : L < l) : KpRow L w (w.putObj l o') := by
  have hne : ∀ b, b ≠ l → (w.putObj l o').heap[b]? = w.heap[b]? := fun b hb => World.putObj_heap_other (fun e => hb (by rw [e]))
  refine ⟨by simp, fun b cur e fz hb _ _ => ?_, fun g hg => Or.inl ?_⟩
  · rw [hne b (fun e2 => by subst e2; rw [hb] at hl; cases hl; cases ho)]
    exact hb
  · obtain ⟨v, hv, hvo⟩ := hg
    refine ⟨v, ?_, hvo⟩
    simp only [World.cell?, hne L (by omega)] at hv
    simp only [World.cell?]
    exact hv
/-- An append to the row, and the store of what came of it. -/
theorem KpRow.stored {L : Nat} {v v' : Value} {w w1 : World} (hf : Far w w1 v v') (hc : w.cell? ⟨L, 0, none⟩ = some v) (hv' : ∀ g, v'.ownBlock = some g → g < w1.heap.size) (hL : L < w.heap.size) (hne : v.ownBlock ≠ some L) :
    KpRow L w (w1.setCell ⟨L, 0, none⟩ v') := by
  obtain ⟨hg, hw⟩ := hf
  have hcell1 : w1.cell? ⟨L, 0, none⟩ = some v := by
    have hb := hg.block L hL (fun e => hne e.symm)
    simp only [World.cell?, hb]
    simpa only [World.cell?] using hc
  refine ⟨by simp; exact hg.size, fun b cur e fz hb hbL hr => ?_, fun g hgr => ?_⟩
  · rw [Below.heap_setCell _ _ _ _ hbL, hg.block b (heap_lt hb) (fun e2 => hr ⟨v, hc, e2.symm⟩)]
    exact hb
  · obtain ⟨u, hu, huo⟩ := hgr
    have hu2 : u = v' := by
      have := World.cell?_setCell_same' w1 ⟨L, 0, none⟩ v' (by rw [hcell1]; rfl)
      rw [this] at hu
      exact (Option.some.inj hu).symm
    subst hu2
    rcases hw with h | h
    · exact Or.inl ⟨v, hc, by rw [← h]; exact huo⟩
    · exact Or.inr ⟨h g huo, by simp; exact hv' g huo⟩
/-- The cells below n, but L's block, are read as they were. -/
def KeepC (n L : Nat) (w w' : World) : Prop := ∀ b j u, b < n → b ≠ L → w.cell? ⟨b, j, none⟩ = some u → w'.cell? ⟨b, j, none⟩ = some u
theorem KeepC.refl (n L : Nat) (w : World) : KeepC n L w w := fun _ _ _ _ _ h => h
theorem KeepC.below {n L : Nat} {w0 w w' : World} (h : KeepC n L w0 w) (hb : Below w.heap.size w w') (hn : n ≤ w.heap.size) : KeepC n L w0 w' :=
  fun b j u h1 h2 h3 => (hb.cell (p := ⟨b, j, none⟩) (by show b < _; omega)).trans (h b j u h1 h2 h3)
theorem KeepC.kp {n L : Nat} {w0 w w' : World} (h : KeepC n L w0 w) (k : KpRow L w w') (hr : RowIn n L w) : KeepC n L w0 w' :=
  fun b j u h1 h2 h3 => k.cell (h b j u h1 h2 h3) h2 (fun hx => by have := (hr b hx).1; omega)
theorem Rd.keepC {n L : Nat} {w w' : World} {A : Option Addr} {m size : Nat} {xs : List Value} (h : Rd A m size xs w) (k : KeepC n L w w') (hs : n ≤ w'.heap.size) (hA : 0 < m → ∀ b o, A = some ⟨b, o, none⟩ → b < n ∧ b ≠ L) : Rd A m size xs w' := by
  refine ⟨h.1, fun hm => ?_⟩
  obtain ⟨b, o, e, hl, hc⟩ := h.2 hm
  obtain ⟨h1, h2⟩ := hA hm b o e
  exact ⟨b, o, e, by omega, fun j u hu => k b _ u h1 h2 (hc j u hu)⟩
/-- Texts in a block of an iterator's own, apart from L and its row. -/
def Apart (L : Nat) (A : Option Addr) (m : Nat) (w : World) : Prop := 0 < m → ∀ b o, A = some ⟨b, o, none⟩ → b < w.heap.size ∧ b ≠ L ∧ ¬ rowOf L w b
theorem Apart.kp {L : Nat} {A : Option Addr} {m : Nat} {w w' : World} (h : Apart L A m w) (k : KpRow L w w') : Apart L A m w' := by
  intro hm b o e
  obtain ⟨h1, h2, h3⟩ := h hm b o e
  refine ⟨Nat.lt_of_lt_of_le h1 k.1, h2, fun hx => ?_⟩
  rcases k.2.2 b hx with h4 | h4
  · exact h3 h4
  · omega
theorem Apart.below {L : Nat} {A : Option Addr} {m : Nat} {w w' : World} (h : Apart L A m w) (hb : Below w.heap.size w w') (hL : L < w.heap.size) : Apart L A m w' := by
  intro hm b o e
  obtain ⟨h1, h2, h3⟩ := h hm b o e
  exact ⟨Nat.lt_of_lt_of_le h1 hb.size, h2, fun hx => h3 ((rowOf_below hb hL).1 hx)⟩
/-- What lies in new memory stands apart. -/
theorem Apart.new {n L : Nat} {A : Option Addr} {m size : Nat} {xs : List Value} {w w' : World} (hb : Below w.heap.size w w') (hr : RowIn n L w) (hL : L < w.heap.size) (hd : Rd A m size xs w') (hA : ∀ b o, A = some ⟨b, o, none⟩ → w.heap.size ≤ b) : Apart L A m w' := by
  intro hm b o e
  obtain ⟨b', o', e', hl, _⟩ := hd.2 hm
  rw [e] at e'
  cases e'
  have h1 := hA b o e
  refine ⟨hl, by omega, fun hx => ?_⟩
  have := hr b ((rowOf_below hb hL).1 hx)
  omega
theorem KpRow.of_below {L : Nat} {w w' : World} (h : Below w.heap.size w w') (hL : L < w.heap.size) : KpRow L w w' := by
  refine ⟨h.size, fun b cur e fz hb _ _ => ?_, fun g hg => Or.inl ((rowOf_below h hL).1 hg)⟩
  rw [h.block b (heap_lt hb)]; exact hb
theorem KpRow.alloc (L : Nat) (w : World) (o : Obj) (hL : L < w.heap.size) : KpRow L w (w.alloc o) := KpRow.of_below ((Below.refl w.heap.size w).alloc (Nat.le_refl _) o) hL
theorem below_grown {w w' : World} (h : Below w.heap.size w w') : w.grownBy w' none := ⟨h.os, h.tape, h.output, h.size, fun k hk _ => h.block k hk⟩
end Go.Proofs.YtcgdcbnhpbokfaaGreatDoor
/- Directives in a slice that the call made. -/
namespace Go.Proofs.YtcgdcbnhpbokfaaGreatDoor
open Go.RowKit
set_option maxRecDepth 100000

theorem uDir : (Tryz.prog.info? 84).map (fun i => (i.zero, i.size, i.bytes)) = some (some (.agg #[.string ByteArray.empty, .string ByteArray.empty, .bool false, .string ByteArray.empty]), 4, 56) := by kernel_rfl
def OwnD (B : Nat) (v : Value) (ds : List Dir) (w : World) : Prop := w.ownsRow B 84 4 v ds.length (dirsV ds)
theorem OwnD.shape {B : Nat} {v : Value} {ds : List Dir} {w : World} (h : OwnD B v ds w) : ∃ a cap, v = .slice a ds.length cap := by
  rcases h.2 with ⟨rfl, h0⟩ | ⟨g, cap, cur, rfl, _⟩
  · exact ⟨none, 0, by rw [h0]⟩
  · exact ⟨_, _, rfl⟩
theorem OwnD.below {B : Nat} {v : Value} {ds : List Dir} {w w1 : World} (h : OwnD B v ds w) (hb : Below w.heap.size w w1) : OwnD B v ds w1 := own_below h hb
theorem OwnD.nil (B : Nat) (w : World) : OwnD B (.slice none 0 0) [] w := World.ownsRow_nil _ _ _ _
theorem OwnD.rd {B m cap : Nat} {a : Option Addr} {ds : List Dir} {w : World} (h : OwnD B (.slice a m cap) ds w) : m = ds.length ∧ Rd a ds.length 4 (dirsV ds) w := Rd.of_own h
theorem OwnD.base {B B' : Nat} {v : Value} {ds : List Dir} {w : World} (h : OwnD B v ds w) (hB : B' ≤ B) : OwnD B' v ds w := by
  refine ⟨h.1, ?_⟩
  rcases h.2 with h | ⟨g, cp, cur, hv, hg, r⟩
  · exact Or.inl h
  · exact Or.inr ⟨g, cp, cur, hv, by omega, r⟩
theorem dirV_one (d : Dir) : ∀ u ∈ dirV d, u.oneCell' = true := by
  intro u hu
  simp [dirV] at hu
  rcases hu with rfl | rfl | rfl | rfl <;> rfl
theorem dirsV_snoc (ds : List Dir) (d : Dir) : dirsV (ds ++ [d]) = dirsV ds ++ dirV d := by unfold dirsV; simp
theorem app_dir {ops : Array Oper} {rest : List Oper} {o : Oper} {a : Act} {Q : Exit → Act → World → Prop} (B : Nat) (d : Dir) {w : World} {v : Value} {ds : List Dir} (hown : OwnD B v ds w) (hB : B ≤ w.heap.size) (hn : ds.length ≤ 1000000000)
    (hgd : o.guard = none) (s x : Operand) (ho : o.op = .call { callee := .builtin .append, args := #[s, x], argTypes := #[81, 81] })
    (hs : a.eval s = v) (hx : a.eval x = .slice (some ⟨w.heap.size, 0, none⟩) 1 1)
    (hK : ∀ v' w1, OwnD B v' (ds ++ [d]) w1 → Below B w w1 → Far w w1 v v' → wpList Tryz.prog ops Q rest (a.put o.dst v') w1) :
    wpList Tryz.prog ops Q (o :: rest) a (w.alloc (.cells #[.string ⟨d.name.toArray⟩, .string ⟨d.value.toArray⟩, .bool d.has, .string ⟨d.for_.toArray⟩] 84)) := by
  refine app_one (z := .agg #[.string ByteArray.empty, .string ByteArray.empty, .bool false, .string ByteArray.empty]) (bytes := 56) (n := ds.length) hgd s x 81 84 ho Tryz.underlying81 uDir rfl (by decide) (by decide) B (dirV d) rfl (dirV_one d) hs hx hown hB hn ?_
  intro v' w1 h1 h2 h3
  refine hK v' w1 ?_ h2 h3
  show World.ownsRow _ _ _ _ _ _ _
  rw [List.length_append, List.length_singleton, dirsV_snoc]
  exact h1
/-- Directives that are handed back in a slice of the call's own. -/
def DirsPost (w : World) (ds : List Dir) (e : Ending) (w' : World) : Prop :=
  ∃ a cap, e = .returned (.slice a ds.length cap) ∧ OwnD w.heap.size (.slice a ds.length cap) ds w' ∧ Below w.heap.size w w'
end Go.Proofs.YtcgdcbnhpbokfaaGreatDoor
/- The iterator of directive.each: for every loop body that writes one row. -/
namespace Go.Proofs.YtcgdcbnhpbokfaaGreatDoor
open Go.RowKit Go.Shelf
set_option maxRecDepth 100000
attribute [local go_sem] Oper.semAt_some

def dirA (d : Dir) : Value := .agg #[.string ⟨d.name.toArray⟩, .string ⟨d.value.toArray⟩, .bool d.has, .string ⟨d.for_.toArray⟩]
theorem dlist_snoc (vs : List (List UInt8)) (k : Nat) (h : k < vs.length) : dlistL (vs.take (k + 1)) = dlistL (vs.take k) ++ (pcsL vs[k]).filterMap saidO := by
  unfold dlistL; rw [List.take_succ_eq_append_getElem h, List.flatMap_append]; simp [dirsOf]
theorem fm_snoc (ps : List (List UInt8)) (m : Nat) (h : m < ps.length) : (ps.take (m + 1)).filterMap saidO = (ps.take m).filterMap saidO ++ (saidO ps[m]).toList := by
  rw [List.take_succ_eq_append_getElem h, List.filterMap_append]
  cases hs : saidO ps[m] <;> simp [hs]

theorem Rd.newS1 (w : World) (l : List UInt8) (T : TypeId) : Rd (some ⟨w.heap.size, 0, none⟩) 1 1 (strsV [l]) (w.alloc (.cells #[.string ⟨l.toArray⟩] T)) := by
  refine ⟨rfl, fun _ => ⟨w.heap.size, 0, rfl, by simp, fun j u hu => ?_⟩⟩
  rw [Nat.zero_add, World.cell?_alloc_mark]
  match j, hu with
  | 0, hu => exact hu
  | j + 1, hu => simp [strsV] at hu
theorem split_few44 (l : List UInt8) : (splitL 44 l).1.length ≤ 64 := by
  unfold splitL
  cases ((44 : UInt8).toNat == 34 || (44 : UInt8).toNat == 92)
  · cases splP 44 false false [] [] l with
    | none => simp [splitE]
    | some ls =>
      simp only [splitE, cond_false]
      cases h : decide (64 < ls.length)
      · simp at h ⊢; exact h
      · simp
  · simp
set_option maxHeartbeats 16000000 in
theorem each1_in (L Bs : Nat) (A : Option Addr) (n c : Nat) (vs : List (List UInt8)) (w : World) (hM : MaxL w) (hL : L < w.heap.size) (hML : 2 ≠ L) (hBs : Bs < w.heap.size) (hbox : w.cell? ⟨Bs, 0, none⟩ = some (.slice A n c)) (hr : Rd A n 1 (strsV vs) w)
    (hA : 0 < n → ∀ b o, A = some ⟨b, o, none⟩ → b < w.heap.size ∧ b ≠ L) (hrow : RowIn w.heap.size L w) (hn : n ≤ 1000000) (hl : ∀ v ∈ vs, v.length ≤ 1000000) (d : Nat) (hd : 1 ≤ d) (l : Nat) (J Jx : List Dir → World → Prop) (W : World) (hW : Below w.heap.size w W) (hJa : AbidesFrom W.heap.size J)
    (hY : ∀ pre x W1, J pre W1 → pre.length < 64 * vs.length → YieldAt Fence.wide (d - 1) Tryz.prog l #[dirA x] W1 fun e W' =>
      (e = .returned (.bool true) ∧ J (pre ++ [x]) W' ∧ KpRow L W1 W') ∨ (e = .returned (.bool false) ∧ Jx (pre ++ [x]) W'))
    (h0 : J [] W) :
    CallsIn Fence.wide d Tryz.prog 162 #[.func (.yield l) #[] #[], .pointer (some ⟨Bs, 0, none⟩)] W fun e W' => (∃ v, e = .returned v) ∧ ((∃ ys, ys = dlistL vs ∧ J ys W') ∨ (∃ pre, True ∧ Jx pre W')) := by
  obtain rfl := hr.str
  have hb0 : W.cell? ⟨Bs, 0, none⟩ = some (.slice A vs.length c) := (hW.cell (p := ⟨Bs, 0, none⟩) hBs).trans hbox
  have hk0 : KeepC w.heap.size L w W := (KeepC.refl _ _ w).below hW (Nat.le_refl _)
  have hr0 : RowIn w.heap.size L W := hrow.below hW hL
  have hJb : ∀ pre W1 W2, J pre W1 → Below W1.heap.size W1 W2 → J pre W2 := fun pre W1 W2 h1 h2 => hJa pre W1 W2 none h1 (below_grown h2) (fun r e => by cases e)
  have HM := Lib.hid hM; have HR := Lib.hid hr; have HA := Lib.hid hA; have HL := Lib.hid hl; have HY := Lib.hid hY; have HJB := Lib.hid hJb; have HK0 := Lib.hid hk0; have HR0 := Lib.hid hr0
  clear hM hr hA hl hY hJb hk0 hr0 hJa hrow
  refine callsIn_of_wp Tryz.func162 rfl trivial ?_ rfl
  simp only [Tryz.ntmps162, List.size_toArray, List.length_cons, List.length_nil, Nat.reduceAdd, Nat.reduceSub, Array.replicate_succ, Array.replicate_zero, List.push_toArray, List.append_toArray, List.nil_append, List.cons_append]
  gi_wp2
  gi_loopw [13] (fun i wr => ∃ (k : Nat) (pre : List Dir), k ≤ vs.length ∧ i = .int .i64 k ∧ Hid (pre = dlistL (vs.take k)) ∧ pre.length ≤ 64 * k ∧ J pre wr ∧ Hid (KeepC w.heap.size L w wr) ∧ Hid (RowIn w.heap.size L wr) ∧ w.heap.size ≤ wr.heap.size) (fun i _ => vs.length - (intOf i).toNat)
  case atStart => exact ⟨0, [], Nat.zero_le _, rfl, Lib.hid rfl, by simp, h0, HK0, HR0, hW.size⟩
  case round =>
    clear HK0 HR0 h0
    obtain ⟨k, pre, hk, rfl, HPre, hpl, hJs, HK, HRow, hsz⟩ := hrel
    have hLs : L < wr.heap.size := by omega
    by_cases hlt : k < vs.length
    · have hrd := HR.out.keepC HK.out hsz HA.out
      obtain ⟨b, o, rfl, hlb, c1⟩ := hrd.str_at (k := k) hlt
      have hv := HL.out vs[k] (List.getElem_mem _)
      have hsn := dlist_snoc vs k hlt
      generalize vs[k] = v at *
      have k2 := split_any ⟨v.toArray⟩ 44 wr (by rw [Lib.size_eq]; exact hv)
      simp only at k2
      have hfew : (splitL 44 v).1.length ≤ 64 := split_few44 v
      have hpt := split_total 44 v
      have hpc : pcsL v = bif (splitL 44 v).2 == 0 then (splitL 44 v).1 else [noStore] := rfl
      generalize pcsL v = ps0 at *
      generalize splitL 44 v = r at *
      obtain ⟨ps, er⟩ := r
      simp only at hfew hpt hpc
      have K2 := Lib.hid k2
      cases hz : (er == 0)
      · rw [hz, cond_false] at hpc
        subst hpc
        have n0 : (er != 0) = true := by simp [bne, hz]
        have HSN := Lib.hid hsn
        have HPL : Hid (∀ p ∈ [noStore], p.length ≤ 1000000) := Lib.hid (by intro p hp; simp at hp; subst hp; decide)
        clear hsn k2 hrd hz hpt hfew hv
        gi_wp2_with (refine ⟨trivial, ?_⟩; gi_at_call 92; refine (callsIn_wide.2 K2.out).mono ?_; rintro e w3 ⟨a3', c3', rfl, ho3, hb3⟩; simp only)
        have h4 := hb3.alloc hb3.size (.cells #[.string ⟨#[110, 111, 45, 115, 116, 111, 114, 101]⟩] 9)
        have hrd4 : Rd (some ⟨w3.heap.size, 0, none⟩) 1 1 (strsV [noStore]) (w3.alloc (.cells #[.string ⟨#[110, 111, 45, 115, 116, 111, 114, 101]⟩] 9)) := Rd.newS1 w3 noStore 9
        have HP3 := Lib.hid (And.intro hrd4 (Apart.new h4 HRow.out hLs hrd4 (fun b o e => by cases e; exact hb3.size)))
        have hJ3 := HJB.out pre _ _ hJs h4
        have HK3 := Lib.hid (HK.out.below h4 hsz)
        have HR3 := Lib.hid (HRow.out.below h4 hLs)
        have hs3 := Nat.le_trans hsz h4.size
        clear ho3 hb3 hrd4 K2 c1 HK HRow hJs h4
        generalize (w3.alloc (.cells #[.string ⟨#[110, 111, 45, 115, 116, 111, 114, 101]⟩] 9)) = w4 at *
        generalize w3.heap.size = g3 at *
        obtain ⟨wo, hwo⟩ : ∃ wo : World, wo = wr := ⟨_, rfl⟩
        clear hLs hsz
        subst hwo
        gi_loopw [27] (fun j wi => ∃ (m : Nat) (pre : List Dir), m ≤ 1 ∧ j = .int .i64 m ∧ Hid (pre = dlistL (vs.take k) ++ ([noStore].take m).filterMap saidO) ∧ pre.length ≤ 64 * k + m ∧ J pre wi ∧ Hid (KeepC w.heap.size L w wi) ∧ Hid (RowIn w.heap.size L wi) ∧ w.heap.size ≤ wi.heap.size ∧ Hid (Rd (some ⟨g3, 0, none⟩) 1 1 (strsV [noStore]) wi ∧ Apart L (some ⟨g3, 0, none⟩) 1 wi)) (fun j _ => 1 - (intOf j).toNat)
        case atStart => exact ⟨0, pre, Nat.zero_le _, rfl, by show _ = _; rw [HPre.out]; simp, by omega, hJ3, HK3, HR3, hs3, HP3⟩
        case round =>
          clear HK3 HR3 HP3 hJ3 hs3 HPre hpl
          obtain ⟨m, pre, hm, rfl, HPre, hpl, hJs, HK, HRow, hsz, HP⟩ := hrel
          have hLs : L < wr.heap.size := by omega
          by_cases hlm : m < 1
          · obtain ⟨b2, o2, hab, hl2, c2⟩ := HP.out.1.str_at (k := m) hlm
            have hpp := HPL.out (([noStore] : List (List UInt8))[m]'hlm) (List.getElem_mem _)
            have hfm := fm_snoc [noStore] m hlm
            have hM1 : MaxL wr := by
              obtain ⟨g1, mm, g2⟩ := HM.out
              exact ⟨by omega, mm, HK.out _ 0 _ g1 hML g2⟩
            generalize (([noStore] : List (List UInt8))[m]'hlm) = p at *
            have k1 := said_any ⟨p.toArray⟩ wr hM1 (by rw [Lib.size_eq]; exact hpp)
            simp only at k1
            clear hM1
            cases hab
            rw [Nat.zero_add] at c2
            cases hs : saidO p with
            | none =>
              rw [hs] at k1 hfm
              unfold saidV at k1
              have hnx : pre = dlistL (vs.take k) ++ ([noStore].take (m + 1)).filterMap saidO := by rw [HPre.out, hfm]; simp
              have HNX := Lib.hid hnx; have K1 := Lib.hid k1
              clear hnx k1 hfm hs HPre
              gi_wp2_with (refine ⟨trivial, ?_⟩; gi_at_call 163; refine (callsIn_wide.2 K1.out).mono ?_; rintro e w5 ⟨rfl, hb5⟩)
              have h6 := hb5.alloc hb5.size (.cells #[.string ⟨#[]⟩, .string ⟨#[]⟩, .bool false, .string ⟨#[]⟩] 84)
              have hJ6 := HJB.out pre _ _ hJs h6
              have HK6 := Lib.hid (HK.out.below h6 hsz)
              have HR6 := Lib.hid (HRow.out.below h6 hLs)
              have HP6 := Lib.hid (And.intro (HP.out.1.below h6) (HP.out.2.below h6 hLs))
              have hs6 := Nat.le_trans hsz h6.size
              clear HK HRow HP c2 K1
              refine ⟨fun _ h => (by cases h), ?_⟩
              gi_wp2
              go_roundw
              case rel => exact ⟨m + 1, pre, by omega, by go_num, HNX, by omega, hJ6, HK6, HR6, hs6, HP6⟩
              case measure => simp [intOf]; omega
            | some dd =>
              rw [hs] at k1 hfm
              have hnx : pre ++ [dd] = dlistL (vs.take k) ++ ([noStore].take (m + 1)).filterMap saidO := by rw [HPre.out, hfm]; simp
              have k2 : Calls Tryz.prog 163 #[.string ⟨p.toArray⟩] wr fun e w' => e = .returned (.tuple #[.agg #[.string ⟨dd.name.toArray⟩, .string ⟨dd.value.toArray⟩, .bool dd.has, .string ⟨dd.for_.toArray⟩], .bool true]) ∧ Below wr.heap.size wr w' := k1
              have HNX := Lib.hid hnx; have K1 := Lib.hid k2
              have hlt64 : pre.length < 64 * vs.length := by omega
              have hy0 := fun W h => HY.out pre dd W h hlt64
              have HY0 := Lib.hid hy0
              clear hnx k1 k2 hfm hs HPre hy0
              obtain ⟨dn, dv, dh, df⟩ := dd
              unfold dirA at HY0
              simp only at K1
              gi_wp2_with (refine ⟨trivial, ?_⟩; gi_at_call 163; refine (callsIn_wide.2 K1.out).mono ?_; rintro e w5 ⟨rfl, hb5⟩; have h6 := hb5.alloc hb5.size (.cells #[.string ⟨dn.toArray⟩, .string ⟨dv.toArray⟩, .bool dh, .string ⟨df.toArray⟩] 84); obtain ⟨fn, tmps, assign, body, hy, hR⟩ := HY0.out _ (HJB.out pre _ _ hJs h6); dsimp only at hy)
              have HK6 := Lib.hid (HK.out.below h6 hsz)
              have HR6 := Lib.hid (HRow.out.below h6 hLs)
              have HP6 := Lib.hid (And.intro (HP.out.1.below h6) (HP.out.2.below h6 hLs))
              have hs6 := Nat.le_trans hsz h6.size
              refine hR.mono ?_
              rintro e W7 (⟨rfl, hJ7, hk7⟩ | ⟨rfl, hJx7⟩)
              · have HK7 := Lib.hid (HK6.out.kp hk7 HR6.out)
                have HR7 := Lib.hid (HR6.out.kp hk7 hs6)
                have HP7 := Lib.hid (And.intro (hk7.rd HP6.out.1 (fun h b o e => (HP6.out.2 h b o e).2)) (HP6.out.2.kp hk7))
                have hs7 := Nat.le_trans hs6 hk7.1
                clear HK HRow HP c2 K1 HK6 HR6 HP6 hR hy
                gi_wp2
                go_roundw
                case rel => exact ⟨m + 1, pre ++ [⟨dn, dv, dh, df⟩], by omega, by go_num, HNX, by simp; omega, hJ7, HK7, HR7, hs7, HP7⟩
                case measure => simp [intOf]; omega
              · gi_wp2
                refine bodyPost_ret (results_none rfl _ _ _) rfl ?_
                exact ⟨⟨_, rfl⟩, .inr ⟨_, trivial, hJx7⟩⟩
          · have hme : m = 1 := by omega
            subst hme
            have hnx : pre = dlistL (vs.take (k + 1)) := by rw [HSN.out, HPre.out]; rfl
            have HNX := Lib.hid hnx
            clear hnx HP HPL HPre
            gi_wp2
            go_roundw
            case rel => exact ⟨k + 1, pre, by omega, by go_num, HNX, by omega, hJs, HK, HRow, hsz⟩
            case measure => simp [intOf]; omega
      · rw [hz, cond_true] at hpc
        subst hpc
        have n0 : (er != 0) = false := by simp [bne, hz]
        have HSN := Lib.hid hsn
        have HPL : Hid (∀ p ∈ ps0, p.length ≤ 1000000) := Lib.hid (by intro p hp; have := total_mem hp; omega)
        clear hsn k2 hrd hz hpt hv
        gi_wp2_with (refine ⟨trivial, ?_⟩; gi_at_call 92; refine (callsIn_wide.2 K2.out).mono ?_; rintro e w3 ⟨a3, c3, rfl, ho3, hb3⟩; simp only)
        have hrd4 := ho3.rd.2
        have HP3 := Lib.hid (And.intro hrd4 (Apart.new hb3 HRow.out hLs hrd4 (own_new ho3)))
        have hJ3 := HJB.out pre _ _ hJs hb3
        have HK3 := Lib.hid (HK.out.below hb3 hsz)
        have HR3 := Lib.hid (HRow.out.below hb3 hLs)
        have hs3 := Nat.le_trans hsz hb3.size
        clear ho3 hrd4 K2 c1 HK HRow hJs hb3
        obtain ⟨wo, hwo⟩ : ∃ wo : World, wo = wr := ⟨_, rfl⟩
        clear hLs hsz
        subst hwo
        gi_loopw [27] (fun j wi => ∃ (m : Nat) (pre : List Dir), m ≤ ps0.length ∧ j = .int .i64 m ∧ Hid (pre = dlistL (vs.take k) ++ (ps0.take m).filterMap saidO) ∧ pre.length ≤ 64 * k + m ∧ J pre wi ∧ Hid (KeepC w.heap.size L w wi) ∧ Hid (RowIn w.heap.size L wi) ∧ w.heap.size ≤ wi.heap.size ∧ Hid (Rd a3 ps0.length 1 (strsV ps0) wi ∧ Apart L a3 ps0.length wi)) (fun j _ => ps0.length - (intOf j).toNat)
        case atStart => exact ⟨0, pre, Nat.zero_le _, rfl, by show _ = _; rw [HPre.out]; simp, by omega, hJ3, HK3, HR3, hs3, HP3⟩
        case round =>
          clear HK3 HR3 HP3 hJ3 hs3 HPre hpl
          obtain ⟨m, pre, hm, rfl, HPre, hpl, hJs, HK, HRow, hsz, HP⟩ := hrel
          have hLs : L < wr.heap.size := by omega
          by_cases hlm : m < ps0.length
          · obtain ⟨b2, o2, hab, hl2, c2⟩ := HP.out.1.str_at (k := m) hlm
            have hpp := HPL.out ps0[m] (List.getElem_mem _)
            have hfm := fm_snoc ps0 m hlm
            have hM1 : MaxL wr := by
              obtain ⟨g1, mm, g2⟩ := HM.out
              exact ⟨by omega, mm, HK.out _ 0 _ g1 hML g2⟩
            generalize ps0[m] = p at *
            have k1 := said_any ⟨p.toArray⟩ wr hM1 (by rw [Lib.size_eq]; exact hpp)
            simp only at k1
            clear hM1
            subst hab
            cases hs : saidO p with
            | none =>
              rw [hs] at k1 hfm
              unfold saidV at k1
              have hnx : pre = dlistL (vs.take k) ++ (ps0.take (m + 1)).filterMap saidO := by rw [HPre.out, hfm]; simp
              have HNX := Lib.hid hnx; have K1 := Lib.hid k1
              clear hnx k1 hfm hs HPre
              gi_wp2_with (refine ⟨trivial, ?_⟩; gi_at_call 163; refine (callsIn_wide.2 K1.out).mono ?_; rintro e w5 ⟨rfl, hb5⟩)
              have h6 := hb5.alloc hb5.size (.cells #[.string ⟨#[]⟩, .string ⟨#[]⟩, .bool false, .string ⟨#[]⟩] 84)
              have hJ6 := HJB.out pre _ _ hJs h6
              have HK6 := Lib.hid (HK.out.below h6 hsz)
              have HR6 := Lib.hid (HRow.out.below h6 hLs)
              have HP6 := Lib.hid (And.intro (HP.out.1.below h6) (HP.out.2.below h6 hLs))
              have hs6 := Nat.le_trans hsz h6.size
              clear HK HRow HP c2 K1
              refine ⟨fun _ h => (by cases h), ?_⟩
              gi_wp2
              go_roundw
              case rel => exact ⟨m + 1, pre, by omega, by go_num, HNX, by omega, hJ6, HK6, HR6, hs6, HP6⟩
              case measure => simp [intOf]; omega
            | some dd =>
              rw [hs] at k1 hfm
              have hnx : pre ++ [dd] = dlistL (vs.take k) ++ (ps0.take (m + 1)).filterMap saidO := by rw [HPre.out, hfm]; simp
              have k2 : Calls Tryz.prog 163 #[.string ⟨p.toArray⟩] wr fun e w' => e = .returned (.tuple #[.agg #[.string ⟨dd.name.toArray⟩, .string ⟨dd.value.toArray⟩, .bool dd.has, .string ⟨dd.for_.toArray⟩], .bool true]) ∧ Below wr.heap.size wr w' := k1
              have HNX := Lib.hid hnx; have K1 := Lib.hid k2
              have hlt64 : pre.length < 64 * vs.length := by omega
              have hy0 := fun W h => HY.out pre dd W h hlt64
              have HY0 := Lib.hid hy0
              clear hnx k1 k2 hfm hs HPre hy0
              obtain ⟨dn, dv, dh, df⟩ := dd
              unfold dirA at HY0
              simp only at K1
              gi_wp2_with (refine ⟨trivial, ?_⟩; gi_at_call 163; refine (callsIn_wide.2 K1.out).mono ?_; rintro e w5 ⟨rfl, hb5⟩; have h6 := hb5.alloc hb5.size (.cells #[.string ⟨dn.toArray⟩, .string ⟨dv.toArray⟩, .bool dh, .string ⟨df.toArray⟩] 84); obtain ⟨fn, tmps, assign, body, hy, hR⟩ := HY0.out _ (HJB.out pre _ _ hJs h6); dsimp only at hy)
              have HK6 := Lib.hid (HK.out.below h6 hsz)
              have HR6 := Lib.hid (HRow.out.below h6 hLs)
              have HP6 := Lib.hid (And.intro (HP.out.1.below h6) (HP.out.2.below h6 hLs))
              have hs6 := Nat.le_trans hsz h6.size
              refine hR.mono ?_
              rintro e W7 (⟨rfl, hJ7, hk7⟩ | ⟨rfl, hJx7⟩)
              · have HK7 := Lib.hid (HK6.out.kp hk7 HR6.out)
                have HR7 := Lib.hid (HR6.out.kp hk7 hs6)
                have HP7 := Lib.hid (And.intro (hk7.rd HP6.out.1 (fun h b o e => (HP6.out.2 h b o e).2)) (HP6.out.2.kp hk7))
                have hs7 := Nat.le_trans hs6 hk7.1
                clear HK HRow HP c2 K1 HK6 HR6 HP6 hR hy
                gi_wp2
                go_roundw
                case rel => exact ⟨m + 1, pre ++ [⟨dn, dv, dh, df⟩], by omega, by go_num, HNX, by simp; omega, hJ7, HK7, HR7, hs7, HP7⟩
                case measure => simp [intOf]; omega
              · gi_wp2
                refine bodyPost_ret (results_none rfl _ _ _) rfl ?_
                exact ⟨⟨_, rfl⟩, .inr ⟨_, trivial, hJx7⟩⟩
          · have hme : m = ps0.length := by omega
            subst hme
            have hnx : pre = dlistL (vs.take (k + 1)) := by rw [HSN.out, HPre.out]; rw [List.take_length]
            have HNX := Lib.hid hnx
            clear hnx HP HPL HPre
            gi_wp2
            go_roundw
            case rel => exact ⟨k + 1, pre, by omega, by go_num, HNX, by omega, hJs, HK, HRow, hsz⟩
            case measure => simp [intOf]; omega
    · have hke : k = vs.length := by omega
      subst hke
      have hnx : pre = dlistL vs := by rw [HPre.out, List.take_length]
      clear HK HRow HPre
      gi_wp2
      go_end0
      exact ⟨⟨_, rfl⟩, .inl ⟨pre, hnx, hJs⟩⟩
end Go.Proofs.YtcgdcbnhpbokfaaGreatDoor
