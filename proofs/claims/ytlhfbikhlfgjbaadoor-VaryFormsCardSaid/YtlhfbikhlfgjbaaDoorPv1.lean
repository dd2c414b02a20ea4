/- Joined out of the texts Kit, Spec1, Rd, FieldSpec, Own, OwnF, Of15, Lower, Trim, SplitSpec, StaysSpec, VarySpec, NamesSpec, Met, Same, Values, Split, Token, Names, Join, VaryValue, VarySel, Awake15, JoinsSpec, OpenT, Many, FldNew (wip/tools/merge.py). -/
import Derived.Test.YtlhfbikhlfgjbaaDoorRows
import Derived.WalkKit
import Derived.WalkSpells
import Derived.WalkLawsBesides
import Derived.Deep.DeepCutAuto
import Derived.Deep.QuietTactic
import Derived.BigQuiet
import Derived.Lib.Hide
import Derived.Lib.Strings
import Derived.Lib.Join
import Derived.Maps.AppendAt
import Derived.Deep.RegionHeld3
import Derived.IntWalk
import Derived.Test.YtlhfbikhlfgjbaaDoorShelf
import Derived.Lib.SlBytesRow
import Derived.Lib.IndexLaws
import Derived.Shelf.Strings.SlTrimAscii
import Derived.Lib.IndexMore
import Derived.Maps.Own
import Derived.Maps.OwnOps
import Derived.Maps.OwnSet
import Derived.Maps.Views
import Derived.Maps.StringElems
import Derived.OpenShut
import Derived.SizedLaws
import Derived.Deep.Slices
import Derived.SliceStrings
import Derived.ChangeSame
import Derived.Laws.OwnMore
/- Small lemmas that all walks of this seat use. -/
namespace Go.Proofs.YtlhfbikhlfgjbaaDoor
open Go.RowKit

/-- One call behind the other: nothing that was there at the first has turned. -/
theorem bt {w w1 w2 : World} (h : Below w.heap.size w w1) (k : Below w1.heap.size w1 w2) : Below w.heap.size w w2 := h.trans (k.mono h.size)
theorem ret_int {k : IntKind} {a b : Int} (h : a = b) : Ending.returned (.int k a) = .returned (.int k b) := by rw [h]

/-! Bytes of a string, from the front and to the end. -/
theorem take_snoc (s : ByteArray) (k : Nat) (h : k < s.size) : s.data.toList.take (k + 1) = s.data.toList.take k ++ [s[k]] := by
  rw [List.take_succ_eq_append_getElem (by simpa using h)]; rfl
theorem drop_cons (s : ByteArray) (k : Nat) (h : k < s.size) : s.data.toList.drop k = s[k] :: s.data.toList.drop (k + 1) := by
  rw [List.drop_eq_getElem_cons (by simpa using h)]; rfl
theorem take_all (s : ByteArray) (k : Nat) (h : s.size ≤ k) : s.data.toList.take k = s.data.toList := List.take_of_length_le (by simpa using h)
theorem drop_all (s : ByteArray) (k : Nat) (h : s.size ≤ k) : s.data.toList.drop k = [] := List.drop_eq_nil_of_le (by simpa using h)
theorem all_snoc (p : UInt8 → Bool) (s : ByteArray) (k : Nat) (h : k < s.size) :
    (s.data.toList.take (k + 1)).all p = ((s.data.toList.take k).all p && p s[k]) := by
  rw [take_snoc s k h, List.all_append]; simp
theorem all_bad (p : UInt8 → Bool) (s : ByteArray) (k : Nat) (h : k < s.size) (hb : p s[k] = false) : s.data.toList.all p = false := by
  rw [List.all_eq_false]
  exact ⟨s[k], by show s.data[k] ∈ _; simp, by simp [hb]⟩
theorem str_of (s : ByteArray) : (⟨s.data.toList.toArray⟩ : ByteArray) = s := Lib.mk_data s
theorem str_eq (s t : ByteArray) (h : s.data.toList = t.data.toList) : s = t := by rw [← str_of s, ← str_of t, h]
theorem app_list (o t : ByteArray) : (o ++ t).data.toList = o.data.toList ++ t.data.toList := by simp
theorem ext_one (s : ByteArray) (k : Nat) (h : k < s.size) : (s.extract k (k + 1)).data.toList = [s[k]] := by
  rw [Lib.extract_data, drop_cons s k h]; simp
theorem str_list {o : ByteArray} {l : List UInt8} (h : o.data.toList = l) : o = ⟨l.toArray⟩ := by rw [← h, str_of]
theorem beq_cast (a b : Nat) : (a == b) = ((a : Int) == (b : Int)) := by rw [Bool.eq_iff_iff]; simp only [beq_iff_eq]; omega
theorem mk_at (t : ByteArray) (l : List UInt8) (ht : t = ⟨l.toArray⟩) (j : Nat) (h : j < t.size) (h' : j < l.length) : t[j] = l[j] := by
  subst ht; show (l.toArray)[j] = _; simp
theorem at_list (s : ByteArray) (j : Nat) (h : j < s.size) : s[j] = s.data.toList[j]'(by simpa using h) := by show s.data[j] = _; simp
theorem ne_of_pos (s : ByteArray) (h : 0 < s.size) : s.data.toList.isEmpty = false := by
  cases hq : s.data.toList with
  | nil => rw [Lib.size_eq, hq] at h; exact absurd h (by simp)
  | cons _ _ => rfl
theorem nil_of_zero (s : ByteArray) (h : ¬ 0 < s.size) : s.data.toList = [] := by
  apply List.eq_nil_of_length_eq_zero; rw [← Lib.size_eq]; omega
theorem heap_new (w : World) (o : Obj) (n : Nat) (h : w.heap.size = n) : (w.alloc o).heap[n]? = some o := by
  subst h; show (w.heap.push o)[w.heap.size]? = _; simp
theorem empty_eq : (ByteArray.empty : ByteArray) = ⟨#[]⟩ := rfl
theorem u8_lt (c : UInt8) : (c.toNat : Int) < 256 := by have := c.toNat_lt; omega
end Go.Proofs.YtlhfbikhlfgjbaaDoor
/- What the functions of layer 1 compute, as plain functions on lists of bytes; no program in sight. -/
namespace Go.Proofs.YtlhfbikhlfgjbaaDoor

/-- may a byte be in a quoted text? -/
def plainb (c : UInt8) : Bool := c.toNat == 9 || (decide (32 ≤ c.toNat) && c.toNat != 127)
def esc (c : UInt8) : List UInt8 := bif c.toNat == 34 || c.toNat == 92 then [92, c] else [c]
theorem esc_le (c : UInt8) : (esc c).length ≤ 2 := by unfold esc; cases (c.toNat == 34 || c.toNat == 92) <;> simp
theorem flat_le (l : List UInt8) : (l.flatMap esc).length ≤ 2 * l.length := by
  induction l with
  | nil => simp
  | cons x r ih => have := esc_le x; rw [List.flatMap_cons, List.length_append, List.length_cons]; omega
def quoted (s : ByteArray) : List UInt8 := 34 :: (s.data.toList.flatMap esc ++ [34])
def two (l : Option (List UInt8)) : Value := match l with
  | some l => .tuple #[.string ⟨l.toArray⟩, .int .i64 0]
  | none => .tuple #[.string ⟨#[]⟩, .int .i64 4]
/-- Quote. -/
def quoteO (s : ByteArray) : Option (List UInt8) := bif s.data.toList.all plainb then some (quoted s) else none

/-- What the pieces say, byte by byte: the flag tells whether a byte 92 stands ahead. -/
def unq : Bool → List UInt8 → Option (List UInt8)
  | b, [] => bif b then none else some []
  | b, c :: r =>
    bif !plainb c || (c.toNat == 34 && !b) then none
    else bif c.toNat == 92 && !b then unq true r
    else (unq false r).map (c :: ·)
/-- Unquote: the program's way: both ends first, then what is between them. -/
def unqP (l : List UInt8) : Option (List UInt8) :=
  bif decide (2 ≤ l.length) && (l.head?.getD 0).toNat == 34 && (l.getLast?.getD 0).toNat == 34 then unq false (l.drop 1).dropLast else none
/-- Unquote: the document's way: piece by piece up to the closing mark. -/
def unqD : List UInt8 → Option (List UInt8)
  | [] => none
  | [c] => bif c.toNat == 34 then some [] else none
  | c :: d :: r =>
    bif c.toNat == 34 then none
    else bif c.toNat == 92 then (bif plainb d then (unqD r).map (d :: ·) else none)
    else (bif plainb c then (unqD (d :: r)).map (c :: ·) else none)
def unqR (l : List UInt8) : Option (List UInt8) := match l with
  | [] => none
  | c :: r => bif c.toNat == 34 then unqD r else none

/-- Both ways agree. -/
theorem unqD_eq : ∀ (n : Nat) (l : List UInt8), l.length ≤ n → unqD l = bif decide (1 ≤ l.length) && (l.getLast?.getD 0).toNat == 34 then unq false l.dropLast else none
  | _, [], _ => rfl
  | _, [c], _ => by by_cases h : c.toNat = 34 <;> simp [unqD, h, unq]
  | 0, c :: d :: r, h => by simp at h
  | n + 1, c :: d :: r, h => by
    have ih1 := unqD_eq n (d :: r) (by simp at *; omega)
    have ih2 := unqD_eq n r (by simp at *; omega)
    have hl : (c :: d :: r).getLast? = (d :: r).getLast? := by simp [List.getLast?_cons_cons]
    have hd : (c :: d :: r).dropLast = c :: (d :: r).dropLast := by simp
    rw [hl, hd, unqD]
    cases h34 : (c.toNat == 34)
    · cases h92 : (c.toNat == 92)
      · rw [ih1]
        cases hp : plainb c <;> cases hq : (((d :: r).getLast?.getD 0).toNat == 34)
        all_goals simp [unq, h34, h92, hp]
      · have hc : plainb c = true := by simp at h92; simp [plainb, h92]
        cases r with
        | nil =>
          cases hp : plainb d <;> cases hq : (d.toNat == 34)
          all_goals simp [h92, h34, unq, unqD, hc, hq]
        | cons e r =>
          have hl2 : (d :: e :: r).getLast? = (e :: r).getLast? := by simp [List.getLast?_cons_cons]
          have hd2 : (d :: e :: r).dropLast = d :: (e :: r).dropLast := by simp
          rw [hl2, hd2, ih2]
          cases hp : plainb d <;> cases hq : (((e :: r).getLast?.getD 0).toNat == 34)
          all_goals simp [h92, h34, unq, hc, hp]
    · have h92 : (c.toNat == 92) = false := by simp at h34; simp [h34]
      have hc : plainb c = true := by simp at h34; simp [plainb, h34]
      simp [unq, h34, h92, hc]
theorem unqP_eq (l : List UInt8) : unqP l = unqR l := by
  cases l with
  | nil => rfl
  | cons c r =>
    unfold unqR unqP
    simp only [List.drop_one, List.tail_cons]
    rw [unqD_eq r.length r (Nat.le_refl _)]
    cases r with
    | nil => simp
    | cons d r =>
      have hl : (c :: d :: r).getLast? = (d :: r).getLast? := by simp [List.getLast?_cons_cons]
      rw [hl]
      cases h : (c.toNat == 34) <;> cases hq : (((d :: r).getLast?.getD 0).toNat == 34)
      all_goals simp [h]

/-- Lower. -/
def lowb (c : UInt8) : UInt8 := bif decide (65 ≤ c.toNat) && decide (c.toNat ≤ 90) then c + 32 else c
def lowerL (l : List UInt8) : List UInt8 := l.map lowb
/-- a token's byte -/
def markL : List UInt8 := [33, 35, 36, 37, 38, 39, 42, 43, 45, 46, 94, 95, 96, 124, 126]
def letterb (c : UInt8) : Bool := (decide (97 ≤ c.toNat) && decide (c.toNat ≤ 122)) || (decide (65 ≤ c.toNat) && decide (c.toNat ≤ 90)) || (decide (48 ≤ c.toNat) && decide (c.toNat ≤ 57))
def wordb (c : UInt8) : Bool := letterb c || markL.contains c
def tokenL (l : List UInt8) : Bool := l.all wordb && !l.isEmpty
end Go.Proofs.YtlhfbikhlfgjbaaDoor
/- What a slice that is read holds, wherever it came from: plain words on memory; lists of texts and of fields. -/
namespace Go.Proofs.YtlhfbikhlfgjbaaDoor
open Go.RowKit

/-- n elements, 'size' cells each, lie behind A. -/
def Rd (A : Option Addr) (n size : Nat) (xs : List Value) (w : World) : Prop :=
  xs.length = n * size ∧ (0 < n → ∃ b o, A = some ⟨b, o, none⟩ ∧ b < w.heap.size ∧ ∀ j u, xs[j]? = some u → w.cell? ⟨b, o + j, none⟩ = some u)
theorem Rd.nil {A : Option Addr} {size : Nat} {w : World} : Rd A 0 size [] w := ⟨by simp, fun h => absurd h (by omega)⟩
theorem Rd.below {A : Option Addr} {n size : Nat} {xs : List Value} {w w' : World} (h : Rd A n size xs w) (hb : Below w.heap.size w w') : Rd A n size xs w' := by
  refine ⟨h.1, fun hn => ?_⟩
  obtain ⟨b, o, e, hl, hc⟩ := h.2 hn
  exact ⟨b, o, e, by have := hb.size; omega, fun j u hu => (hb.cell (p := ⟨b, o + j, none⟩) hl).trans (hc j u hu)⟩
theorem Rd.of_own {B : Nat} {e : TypeId} {size : Nat} {a : Option Addr} {m n cap : Nat} {xs : List Value} {w : World} (h : w.ownsRow B e size (.slice a m cap) n xs) : m = n ∧ Rd a n size xs w := by
  obtain ⟨h1, h2⟩ := h
  rcases h2 with ⟨hv, h0⟩ | ⟨g, cp, cur, hv, hg, hh, hn, hm, hs, hx⟩
  · cases hv; exact ⟨h0.symm, h1, fun hn => by omega⟩
  · cases hv
    refine ⟨rfl, h1, fun _ => ⟨g, 0, rfl, ?_, fun j u hu => ?_⟩⟩
    · rcases Nat.lt_or_ge g w.heap.size with h' | h'
      · exact h'
      · simp [Array.getElem?_eq_none h'] at hh
    · have hj : j < m * size := by
        have := (List.getElem?_eq_some_iff.1 hu).1; omega
      have h3 : cur[j]? = some u := by
        rw [← hu, ← hx, List.getElem?_take_of_lt hj, Array.getElem?_toList]
      rw [Nat.zero_add]
      simp only [World.cell?, hh]
      exact h3

/-- Texts as values. -/
def strsV (ls : List (List UInt8)) : List Value := ls.map fun l => Value.string ⟨l.toArray⟩
theorem Rd.str {A : Option Addr} {n : Nat} {ls : List (List UInt8)} {w : World} (h : Rd A n 1 (strsV ls) w) : n = ls.length := by
  have := h.1; unfold strsV at this; simpa using this.symm
theorem Rd.str_at {A : Option Addr} {n k : Nat} {ls : List (List UInt8)} {w : World} (h : Rd A n 1 (strsV ls) w) (hk : k < ls.length) :
    ∃ b o, A = some ⟨b, o, none⟩ ∧ b < w.heap.size ∧ w.cell? ⟨b, o + k, none⟩ = some (.string ⟨(ls[k]).toArray⟩) := by
  obtain ⟨b, o, e, hl, hc⟩ := h.2 (by rw [h.str]; omega)
  exact ⟨b, o, e, hl, hc k _ (by simp [strsV, hk])⟩

/-- A header field. -/
abbrev Fld := List UInt8 × List UInt8
def fldV (f : Fld) : List Value := [.string ⟨f.1.toArray⟩, .string ⟨f.2.toArray⟩]
def fldsV (xs : List Fld) : List Value := xs.flatMap fldV
theorem fldsV_len (xs : List Fld) : (fldsV xs).length = xs.length * 2 := by
  unfold fldsV
  induction xs with
  | nil => rfl
  | cons x r ih => rw [List.flatMap_cons, List.length_append, ih, List.length_cons]; show 2 + _ = _; omega
theorem fldsV_at : ∀ (xs : List Fld) (k : Nat) (hk : k < xs.length), (fldsV xs)[k * 2]? = some (.string ⟨(xs[k]).1.toArray⟩) ∧ (fldsV xs)[k * 2 + 1]? = some (.string ⟨(xs[k]).2.toArray⟩)
  | [], k, hk => by simp at hk
  | x :: r, 0, _ => by unfold fldsV; simp [fldV]
  | x :: r, k + 1, hk => by
    have ih := fldsV_at r k (by simpa using hk)
    unfold fldsV at ih ⊢
    rw [List.flatMap_cons, show (k + 1) * 2 = k * 2 + 2 from by omega]
    have e : ∀ j, (fldV x ++ r.flatMap fldV)[j + 2]? = (r.flatMap fldV)[j]? := fun j => by rw [List.getElem?_append_right (by show 2 ≤ _; omega)]; rfl
    rw [show k * 2 + 2 + 1 = (k * 2 + 1) + 2 from by omega, e, e]
    simpa using ih
theorem Rd.fld {A : Option Addr} {n : Nat} {xs : List Fld} {w : World} (h : Rd A n 2 (fldsV xs) w) : n = xs.length := by
  have := h.1; rw [fldsV_len] at this; omega
theorem Rd.fld_at {A : Option Addr} {n k : Nat} {xs : List Fld} {w : World} (h : Rd A n 2 (fldsV xs) w) (hk : k < xs.length) :
    ∃ b o, A = some ⟨b, o, none⟩ ∧ b < w.heap.size ∧ w.cell? ⟨b, o + k * 2, none⟩ = some (.string ⟨(xs[k]).1.toArray⟩) ∧ w.cell? ⟨b, o + k * 2 + 1, none⟩ = some (.string ⟨(xs[k]).2.toArray⟩) := by
  obtain ⟨b, o, e, hl, hc⟩ := h.2 (by rw [h.fld]; omega)
  have := fldsV_at xs k hk
  exact ⟨b, o, e, hl, hc _ _ this.1, hc _ _ this.2⟩
end Go.Proofs.YtlhfbikhlfgjbaaDoor
/- Fields of a name: plain. -/
namespace Go.Proofs.YtlhfbikhlfgjbaaDoor

def valuesL (xs : List Fld) (name : List UInt8) : List (List UInt8) := (xs.filter fun f => lowerL f.1 == lowerL name).map (·.2)
theorem valuesL_le (xs : List Fld) (name : List UInt8) : (valuesL xs name).length ≤ xs.length := by
  unfold valuesL; rw [List.length_map]; exact List.length_filter_le _ _
theorem valuesL_snoc (xs : List Fld) (f : Fld) (name : List UInt8) : valuesL (xs ++ [f]) name = if lowerL f.1 == lowerL name then valuesL xs name ++ [f.2] else valuesL xs name := by
  unfold valuesL
  rw [List.filter_append]
  cases h : (lowerL f.1 == lowerL name) <;> simp [h]
theorem take_snocL {α : Type} (xs : List α) (k : Nat) (h : k < xs.length) : xs.take (k + 1) = xs.take k ++ [xs[k]] := List.take_succ_eq_append_getElem h
end Go.Proofs.YtlhfbikhlfgjbaaDoor
/- Texts in a slice that the call made; blocks of one cell. -/
namespace Go.Proofs.YtlhfbikhlfgjbaaDoor
open Go.RowKit

theorem uStr : (Tryd.prog.info? 9).map (fun i => (i.zero, i.size, i.bytes)) = some (some (.string ByteArray.empty), 1, 16) := by kernel_rfl
/-- A slice of texts that the call made. -/
def OwnS (B : Nat) (v : Value) (ls : List (List UInt8)) (w : World) : Prop := w.ownsRow B 9 1 v ls.length (ls.map fun l => Value.string ⟨l.toArray⟩)
theorem OwnS.shape {B : Nat} {v : Value} {ls : List (List UInt8)} {w : World} (h : OwnS B v ls w) : ∃ a cap, v = .slice a ls.length cap := by
  rcases h.2 with ⟨rfl, h0⟩ | ⟨g, cap, cur, rfl, _⟩
  · exact ⟨none, 0, by rw [h0]⟩
  · exact ⟨_, _, rfl⟩

theorem own_below {B : Nat} {e : TypeId} {size : Nat} {v : Value} {n : Nat} {xs : List Value} {w w1 : World} (h : w.ownsRow B e size v n xs) (hb : Below w.heap.size w w1) : w1.ownsRow B e size v n xs := by
  obtain ⟨h1, h2⟩ := h
  refine ⟨h1, ?_⟩
  rcases h2 with h2 | ⟨g, cap, cur, hv, hg, hh, r⟩
  · exact Or.inl h2
  · refine Or.inr ⟨g, cap, cur, hv, hg, ?_, r⟩
    have hlt : g < w.heap.size := by
      rcases Nat.lt_or_ge g w.heap.size with h' | h'
      · exact h'
      · simp [Array.getElem?_eq_none h'] at hh
    rw [hb.block g hlt]; exact hh
theorem OwnS.below {B : Nat} {v : Value} {ls : List (List UInt8)} {w w1 : World} (h : OwnS B v ls w) (hb : Below w.heap.size w w1) : OwnS B v ls w1 := own_below h hb
theorem of_heap {w : World} {b : Nat} {cs : Array Value} {T : TypeId} (h : w.heap[b]? = some (.cells cs T (0, 0))) (j : Nat) : w.cell? ⟨b, j, none⟩ = cs[j]? ∧ w.frozen? ⟨b, j, none⟩ = false ∧ b < w.heap.size := by
  refine ⟨by simp [World.cell?, h], by simp [World.frozen?, h], ?_⟩
  rcases Nat.lt_or_ge b w.heap.size with h' | h'
  · exact h'
  · simp [Array.getElem?_eq_none h'] at h
theorem heap_set {w : World} {b : Nat} {v u : Value} {T : TypeId} (h : w.heap[b]? = some (.cells #[u] T (0, 0))) : (w.setCell ⟨b, 0, none⟩ v).heap[b]? = some (.cells #[v] T (0, 0)) := by
  simp [World.setCell, Array.getElem?_modify, h]

theorem heap_set2 {w : World} {b c : Nat} {v u x : Value} {T : TypeId} (hne : c ≠ b) (h : w.heap[b]? = some (.cells #[u] T (0, 0))) : ((w.setCell ⟨b, 0, none⟩ v).setCell ⟨c, 0, none⟩ x).heap[b]? = some (.cells #[v] T (0, 0)) := by
  rw [Below.heap_setCell _ _ _ _ (by show b ≠ c; omega)]; exact heap_set h
theorem OwnS.cell {B n cap : Nat} {a : Option Addr} {ls : List (List UInt8)} {w : World} (h : OwnS B (.slice a n cap) ls w) (j : Nat) (hj : j < ls.length) :
    ∃ g, a = some ⟨g, 0, none⟩ ∧ w.cell? ⟨g, j, none⟩ = some (.string ⟨ls[j].toArray⟩) ∧ w.frozen? ⟨g, j, none⟩ = false := by
  rcases h.2 with ⟨_, h0⟩ | ⟨g, cp, cur, hv, hg, hh, hn, hc, hs, hx⟩
  · omega
  · cases hv
    refine ⟨g, rfl, ?_, by simp [World.frozen?, hh]⟩
    have h1 : cur[j]? = (cur.toList.take (ls.length * 1))[j]? := by
      rw [List.getElem?_take_of_lt (by omega), Array.getElem?_toList]
    have h2 : cur[j]? = some (.string ⟨ls[j].toArray⟩) := by
      rw [h1, hx, List.getElem?_map, List.getElem?_eq_getElem hj]; rfl
    simp only [World.cell?, hh]
    exact h2
theorem OwnS.base {B B' : Nat} {v : Value} {ls : List (List UInt8)} {w : World} (h : OwnS B v ls w) (hB : B' ≤ B) : OwnS B' v ls w := by
  refine ⟨h.1, ?_⟩
  rcases h.2 with h | ⟨g, cp, cur, hv, hg, r⟩
  · exact Or.inl h
  · exact Or.inr ⟨g, cp, cur, hv, by omega, r⟩
theorem OwnS.room {B n cap : Nat} {a : Option Addr} {ls : List (List UInt8)} {w : World} (h : OwnS B (.slice a n cap) ls w) : n = ls.length ∧ n ≤ cap ∧ (0 < n → ∃ g, a = some ⟨g, 0, none⟩ ∧ g < w.heap.size) := by
  rcases h.2 with ⟨hv, h0⟩ | ⟨g, cp, cur, hv, hg, hh, hn, hc, hs, hx⟩
  · cases hv; exact ⟨by omega, by omega, fun h => by omega⟩
  · cases hv
    refine ⟨rfl, hn, fun _ => ⟨g, rfl, ?_⟩⟩
    rcases Nat.lt_or_ge g w.heap.size with h' | h'
    · exact h'
    · simp [Array.getElem?_eq_none h'] at hh

/-! One element more at the end of a row that the call made. -/
/-- What an append leaves alone, and where the new row lies. -/
def Far (w w1 : World) (v v' : Value) : Prop := w.grownBy w1 v.ownBlock ∧ (v'.ownBlock = v.ownBlock ∨ ∀ g, v'.ownBlock = some g → w.heap.size ≤ g)
theorem wp_app_one {P : Program} {o : Oper} {a : Act} {K : Act → World → Prop} {Q : Exit → Act → World → Prop} (s x : Operand) (T E : TypeId)
    (ho : o.op = .call { callee := .builtin .append, args := #[s, x], argTypes := #[T, T] }) {z : Value} {size bytes : Nat} (ht : P.underlying T = some (.slice E)) (hinf : (P.info? E).map (fun i => (i.zero, i.size, i.bytes)) = some (some z, size, bytes))
    (hzs : z.cells.size = size) (hsz : 0 < size) (hbs : bytes ≤ 1000) {w wx : World} (B g : Nat) {v : Value} {n : Nat} {xs : List Value} (news : List Value) (hl : news.length = size) (h1 : ∀ u ∈ news, u.oneCell' = true)
    (hs : a.eval s = v) (hx : a.eval x = .slice (some ⟨g, 0, none⟩) 1 1) (hown : wx.ownsRow B E size v n xs) (hB : B ≤ w.heap.size) (hn : n ≤ 1000000000)
    (hc : ∀ j : Nat, wx.cell? ⟨g, j, none⟩ = news[j]?) (hwx : Below w.heap.size w wx)
    (hK : ∀ v' w1, w1.ownsRow B E size v' (n + 1) (xs ++ news) → Below B w w1 → Far wx w1 v v' → K (a.put o.dst v') w1) :
    o.wp P a wx K Q := by
  obtain ⟨i0, hi, hz0, hz1, hz2⟩ := info_parts hinf
  have hby : (n + 1) * bytes ≤ 1000000001 * 1000 := Nat.mul_le_mul (by omega) hbs
  have hsz2 := hwx.size
  obtain ⟨v', w', hr, h2, h3, _, h5⟩ := run_append_own_at (P := P) wx B T o.type E i0 z size bytes ht hi hz0 hz1 hz2 hzs hsz v n xs hown ⟨g, 0, none⟩ 1 1 news (by omega) (by
    intro j u hj
    have e : (⟨g, 0, none⟩ : Addr).add j = ⟨g, j, none⟩ := by
      unfold Addr.add; split <;> simp_all
    rw [e, hc, hj]) h1 (by unfold maxLen; omega) (by omega) (by omega)
  unfold Oper.wp execOp
  simp only [ho, resolve, invoke, builtin, Sem.run_bind, Sem.run_pure, Result.andThen_ok, List.map_toArray, List.map_cons, List.map_nil, hs, hx, hr]
  refine hK _ _ h2 ?_ ⟨h3, ?_⟩
  · exact (hwx.mono hB).grown h3 (by omega) (fun k hk => (hown.lt k hk).1)
  · rcases h5 with h | h
    · exact Or.inl h
    · refine Or.inr fun g hg => ?_
      rw [h] at hg
      have := Option.some.inj hg
      omega
theorem far_alloc {w w1 : World} {o : Obj} {v v' : Value} (h : Far (w.alloc o) w1 v v') : Far w w1 v v' := by
  obtain ⟨hgrow, hwhere⟩ := h
  have h0 := World.grownBy_alloc w o v.ownBlock
  refine ⟨⟨hgrow.os.trans h0.os, hgrow.tape.trans h0.tape, hgrow.output.trans h0.output, Nat.le_trans h0.size hgrow.size, fun k hk hne => (hgrow.block k (Nat.lt_of_lt_of_le hk h0.size) hne).trans (h0.block k hk hne)⟩, ?_⟩
  rcases hwhere with h | h
  · exact Or.inl h
  · exact Or.inr fun g hg => Nat.le_trans h0.size (h g hg)
theorem app_one {P : Program} {ops : Array Oper} {rest : List Oper} {o : Oper} {a : Act} {Q : Exit → Act → World → Prop} (hgd : o.guard = none) (s x : Operand) (T E : TypeId)
    (ho : o.op = .call { callee := .builtin .append, args := #[s, x], argTypes := #[T, T] }) {z : Value} {size bytes : Nat} (ht : P.underlying T = some (.slice E)) (hinf : (P.info? E).map (fun i => (i.zero, i.size, i.bytes)) = some (some z, size, bytes))
    (hzs : z.cells.size = size) (hsz : 0 < size) (hbs : bytes ≤ 1000) {w : World} (B : Nat) {v : Value} {n : Nat} {xs : List Value} (news : List Value) (hl : news.length = size) (h1 : ∀ u ∈ news, u.oneCell' = true)
    (hs : a.eval s = v) (hx : a.eval x = .slice (some ⟨w.heap.size, 0, none⟩) 1 1) (hown : w.ownsRow B E size v n xs) (hB : B ≤ w.heap.size) (hn : n ≤ 1000000000)
    (hK : ∀ v' w1, w1.ownsRow B E size v' (n + 1) (xs ++ news) → Below B w w1 → Far w w1 v v' → wpList P ops Q rest (a.put o.dst v') w1) :
    wpList P ops Q (o :: rest) a (w.alloc (.cells news.toArray E)) :=
  wpList_plain hgd fun _ hK' => wp_app_one s x T E ho ht hinf hzs hsz hbs B w.heap.size news hl h1 hs hx (hown.alloc _) hB hn (fun j => by rw [World.cell?_alloc_mark]; simp) ((Below.refl _ w).alloc (Nat.le_refl _) _)
    fun v' w1 h2 h3 h4 => hK' _ _ (hK v' w1 h2 h3 (far_alloc h4))
/-- The same in a region that draws its order: the block lies behind a draw. -/
theorem step_app_one {P : Program} {ops : Array Oper} {o : Oper} {a : Act} {K : Act → World → Prop} {Q : Exit → Act → World → Prop} {G : Prop} (hgd : o.guard = none) (s x : Operand) (T E : TypeId)
    (ho : o.op = .call { callee := .builtin .append, args := #[s, x], argTypes := #[T, T] }) {z : Value} {size bytes : Nat} (ht : P.underlying T = some (.slice E)) (hinf : (P.info? E).map (fun i => (i.zero, i.size, i.bytes)) = some (some z, size, bytes))
    (hzs : z.cells.size = size) (hsz : 0 < size) (hbs : bytes ≤ 1000) {w : World} (B : Nat) {v : Value} {n : Nat} {xs : List Value} (news : List Value) (hl : news.length = size) (h1 : ∀ u ∈ news, u.oneCell' = true)
    (hs : a.eval s = v) (hx : a.eval x = .slice (some ⟨w.heap.size, 0, none⟩) 1 1) (hown : w.ownsRow B E size v n xs) (hB : B ≤ w.heap.size) (hn : n ≤ 1000000000)
    (hK : ∀ v' w1, w1.ownsRow B E size v' (n + 1) (xs ++ news) → Below B w w1 → Far w w1 v v' → K (a.put o.dst v') w1) :
    if Region.wanted o (yielded ops a.tmps) = true then Oper.wp P o a (w.alloc (.cells news.toArray E)) K Q else G := by
  have hw : Region.wanted o (yielded ops a.tmps) = true := by simp [Region.wanted, hgd]
  rw [if_pos hw]
  exact wp_app_one s x T E ho ht hinf hzs hsz hbs B w.heap.size news hl h1 hs hx (hown.alloc _) hB hn (fun j => by rw [World.cell?_alloc_mark]; simp) ((Below.refl _ w).alloc (Nat.le_refl _) _)
    fun v' w1 h2 h3 h4 => hK v' w1 h2 h3 (far_alloc h4)
theorem app_str {ops : Array Oper} {rest : List Oper} {o : Oper} {a : Act} {Q : Exit → Act → World → Prop} (B : Nat) (y : List UInt8) {w : World} {v : Value} {ls : List (List UInt8)} (hown : OwnS B v ls w) (hB : B ≤ w.heap.size) (hn : ls.length ≤ 1000000000)
    (hgd : o.guard = none) (s x : Operand) (ho : o.op = .call { callee := .builtin .append, args := #[s, x], argTypes := #[34, 34] })
    (hs : a.eval s = v) (hx : a.eval x = .slice (some ⟨w.heap.size, 0, none⟩) 1 1)
    (hK : ∀ v' w1, OwnS B v' (ls ++ [y]) w1 → Below B w w1 → Far w w1 v v' → wpList Tryd.prog ops Q rest (a.put o.dst v') w1) :
    wpList Tryd.prog ops Q (o :: rest) a (w.alloc (.cells #[.string ⟨y.toArray⟩] 9)) := by
  refine app_one (z := .string ByteArray.empty) (bytes := 16) (n := ls.length) hgd s x 34 9 ho Tryd.underlying34 uStr rfl (by decide) (by decide) B [.string ⟨y.toArray⟩] rfl (by intro u hu; simp at hu; subst hu; rfl) hs hx hown hB hn ?_
  intro v' w1 h1 h2 h3
  refine hK v' w1 ?_ h2 h3
  show World.ownsRow _ _ _ _ _ _ _
  rw [List.length_append, List.length_singleton, List.map_append]
  exact h1
theorem OwnS.drew {B : Nat} {v : Value} {ls : List (List UInt8)} {w : World} (h : OwnS B v ls w) : OwnS B v ls w.drew := h
theorem OwnS.nil (B : Nat) (w : World) : OwnS B (.slice none 0 0) [] w := World.ownsRow_nil _ _ _ _
/-- Texts that are handed back in a slice of the call's own. -/
def TextsPost (w : World) (ls : List (List UInt8)) (e : Ending) (w' : World) : Prop :=
  ∃ a cap, e = .returned (.slice a ls.length cap) ∧ OwnS w.heap.size (.slice a ls.length cap) ls w' ∧ Below w.heap.size w w'
theorem OwnS.rd {B m cap : Nat} {a : Option Addr} {ls : List (List UInt8)} {w : World} (h : OwnS B (.slice a m cap) ls w) : m = ls.length ∧ Rd a ls.length 1 (strsV ls) w := Rd.of_own h
/-- v's row is none of those that lie behind A. -/
def Sep (v : Value) (A : Option Addr) (n : Nat) : Prop := 0 < n → ∀ g o, A = some ⟨g, o, none⟩ → v.ownBlock ≠ some g
theorem Rd.far {A : Option Addr} {n size : Nat} {xs : List Value} {w w1 : World} {v v' : Value} (h : Rd A n size xs w) (hf : Far w w1 v v') (hs : Sep v A n) : Rd A n size xs w1 ∧ Sep v' A n := by
  refine ⟨⟨h.1, fun hn => ?_⟩, fun hn g o e => ?_⟩
  · obtain ⟨b, o, e, hl, hc⟩ := h.2 hn
    have hb := hf.1.block b hl (fun x => hs hn b o e x.symm)
    exact ⟨b, o, e, Nat.lt_of_lt_of_le hl hf.1.size, fun j u hu => (World.cell?_of_block (a := ⟨b, o + j, none⟩) hb).trans (hc j u hu)⟩
  · obtain ⟨b, o', e', hl, _⟩ := h.2 hn
    rw [e'] at e
    cases e
    rcases hf.2 with h2 | h2
    · rw [h2]; exact hs hn _ _ e'
    · intro x; have := h2 _ x; omega
/-- What lies in new blocks is none of an elder row. -/
theorem Sep.new {v : Value} {B n : Nat} {e : TypeId} {m size : Nat} {xs : List Value} {w : World} {A : Option Addr} (h : w.ownsRow B e size v m xs) (ha : ∀ g o, A = some ⟨g, o, none⟩ → w.heap.size ≤ g) : Sep v A n := by
  intro _ g o e x
  have := (h.lt g x).2
  have := ha g o e
  omega
theorem own_new {B : Nat} {e : TypeId} {size : Nat} {a : Option Addr} {m n cap : Nat} {xs : List Value} {w : World} (h : w.ownsRow B e size (.slice a m cap) n xs) : ∀ g o, a = some ⟨g, o, none⟩ → B ≤ g := by
  intro g o e
  exact (h.lt g (by rw [e]; rfl)).1
end Go.Proofs.YtlhfbikhlfgjbaaDoor
/- Fields in a slice that the call made. -/
namespace Go.Proofs.YtlhfbikhlfgjbaaDoor
open Go.RowKit

theorem uFld : (Tryd.prog.info? 45).map (fun i => (i.zero, i.size, i.bytes)) = some (some (.agg #[.string ByteArray.empty, .string ByteArray.empty]), 2, 32) := by kernel_rfl
def OwnF (B : Nat) (v : Value) (fs : List Fld) (w : World) : Prop := w.ownsRow B 45 2 v fs.length (fldsV fs)
theorem OwnF.shape {B : Nat} {v : Value} {fs : List Fld} {w : World} (h : OwnF B v fs w) : ∃ a cap, v = .slice a fs.length cap := by
  rcases h.2 with ⟨rfl, h0⟩ | ⟨g, cap, cur, rfl, _⟩
  · exact ⟨none, 0, by rw [h0]⟩
  · exact ⟨_, _, rfl⟩
theorem OwnF.below {B : Nat} {v : Value} {fs : List Fld} {w w1 : World} (h : OwnF B v fs w) (hb : Below w.heap.size w w1) : OwnF B v fs w1 := own_below h hb
theorem OwnF.drew {B : Nat} {v : Value} {fs : List Fld} {w : World} (h : OwnF B v fs w) : OwnF B v fs w.drew := h
theorem OwnF.nil (B : Nat) (w : World) : OwnF B (.slice none 0 0) [] w := World.ownsRow_nil _ _ _ _
theorem OwnF.rd {B m cap : Nat} {a : Option Addr} {fs : List Fld} {w : World} (h : OwnF B (.slice a m cap) fs w) : m = fs.length ∧ Rd a fs.length 2 (fldsV fs) w := Rd.of_own h
theorem OwnF.base {B B' : Nat} {v : Value} {fs : List Fld} {w : World} (h : OwnF B v fs w) (hB : B' ≤ B) : OwnF B' v fs w := by
  refine ⟨h.1, ?_⟩
  rcases h.2 with h | ⟨g, cp, cur, hv, hg, r⟩
  · exact Or.inl h
  · exact Or.inr ⟨g, cp, cur, hv, by omega, r⟩
theorem app_fld {ops : Array Oper} {rest : List Oper} {o : Oper} {a : Act} {Q : Exit → Act → World → Prop} (B : Nat) (y : Fld) {w : World} {v : Value} {fs : List Fld} (hown : OwnF B v fs w) (hB : B ≤ w.heap.size) (hn : fs.length ≤ 1000000000)
    (hgd : o.guard = none) (s x : Operand) (ho : o.op = .call { callee := .builtin .append, args := #[s, x], argTypes := #[43, 43] })
    (hs : a.eval s = v) (hx : a.eval x = .slice (some ⟨w.heap.size, 0, none⟩) 1 1)
    (hK : ∀ v' w1, OwnF B v' (fs ++ [y]) w1 → Below B w w1 → Far w w1 v v' → wpList Tryd.prog ops Q rest (a.put o.dst v') w1) :
    wpList Tryd.prog ops Q (o :: rest) a (w.alloc (.cells #[.string ⟨y.1.toArray⟩, .string ⟨y.2.toArray⟩] 45)) := by
  refine app_one (z := .agg #[.string ByteArray.empty, .string ByteArray.empty]) (bytes := 32) (n := fs.length) hgd s x 43 45 ho Tryd.underlying43 uFld rfl (by decide) (by decide) B (fldV y) rfl (by intro u hu; simp [fldV] at hu; rcases hu with rfl | rfl <;> rfl) hs hx hown hB hn ?_
  intro v' w1 h1 h2 h3
  refine hK v' w1 ?_ h2 h3
  show World.ownsRow _ _ _ _ _ _ _
  rw [List.length_append, List.length_singleton]
  have : fldsV (fs ++ [y]) = fldsV fs ++ fldV y := by unfold fldsV; simp
  rw [this]
  exact h1
theorem step_fld {ops : Array Oper} {o : Oper} {a : Act} {K : Act → World → Prop} {Q : Exit → Act → World → Prop} {G : Prop} (B : Nat) (y : Fld) {w : World} {v : Value} {fs : List Fld} (hown : OwnF B v fs w) (hB : B ≤ w.heap.size) (hn : fs.length ≤ 1000000000)
    (hgd : o.guard = none) (s x : Operand) (ho : o.op = .call { callee := .builtin .append, args := #[s, x], argTypes := #[43, 43] })
    (hs : a.eval s = v) (hx : a.eval x = .slice (some ⟨w.heap.size, 0, none⟩) 1 1)
    (hK : ∀ v' w1, OwnF B v' (fs ++ [y]) w1 → Below B w w1 → Far w w1 v v' → K (a.put o.dst v') w1) :
    if Region.wanted o (yielded ops a.tmps) = true then Oper.wp Tryd.prog o a (w.alloc (.cells #[.string ⟨y.1.toArray⟩, .string ⟨y.2.toArray⟩] 45)) K Q else G := by
  refine step_app_one (z := .agg #[.string ByteArray.empty, .string ByteArray.empty]) (bytes := 32) (n := fs.length) hgd s x 43 45 ho Tryd.underlying43 uFld rfl (by decide) (by decide) B (fldV y) rfl (by intro u hu; simp [fldV] at hu; rcases hu with rfl | rfl <;> rfl) hs hx hown hB hn ?_
  intro v' w1 h1 h2 h3
  refine hK v' w1 ?_ h2 h3
  show World.ownsRow _ _ _ _ _ _ _
  rw [List.length_append, List.length_singleton]
  have : fldsV (fs ++ [y]) = fldsV fs ++ fldV y := by unfold fldsV; simp
  rw [this]
  exact h1
/-- Fields that are handed back in a slice of the call's own. -/
def FieldsPost (w : World) (fs : List Fld) (e : Ending) (w' : World) : Prop :=
  ∃ a cap, e = .returned (.slice a fs.length cap) ∧ OwnF w.heap.size (.slice a fs.length cap) fs w' ∧ Below w.heap.size w w'
end Go.Proofs.YtlhfbikhlfgjbaaDoor
/- The walk of the law's of (layer 15). -/
namespace Go.Proofs.YtlhfbikhlfgjbaaDoor
open Go.RowKit

def ofL : List (List UInt8) → List Fld
  | a :: b :: r => (a, b) :: ofL r
  | _ => []
theorem ofL_len : ∀ ls : List (List UInt8), (ofL ls).length = ls.length / 2
  | [] => rfl
  | [_] => by simp [ofL]
  | a :: b :: r => by rw [ofL, List.length_cons, ofL_len r, List.length_cons, List.length_cons]; omega
theorem ofL_at : ∀ (ls : List (List UInt8)) (k : Nat) (h : k < (ofL ls).length), ∃ (h1 : 2 * k < ls.length) (h2 : 2 * k + 1 < ls.length), (ofL ls)[k] = (ls[2 * k], ls[2 * k + 1])
  | [], k, h => by simp [ofL] at h
  | [_], k, h => by simp [ofL] at h
  | a :: b :: r, 0, h => ⟨by simp, by simp, rfl⟩
  | a :: b :: r, k + 1, h => by
    obtain ⟨h1, h2, e⟩ := ofL_at r k (by simpa [ofL] using h)
    refine ⟨by simp; omega, by simp; omega, ?_⟩
    have e1 : (a :: b :: r)[2 * (k + 1)]'(by simp; omega) = r[2 * k] := by
      simp only [show 2 * (k + 1) = 2 * k + 1 + 1 from by omega, List.getElem_cons_succ]
    have e2 : (a :: b :: r)[2 * (k + 1) + 1]'(by simp; omega) = r[2 * k + 1] := by
      simp only [show 2 * (k + 1) + 1 = (2 * k + 1) + 1 + 1 from by omega, List.getElem_cons_succ]
    rw [e1, e2, ← e]; rfl

set_option maxRecDepth 100000 in
set_option maxHeartbeats 4000000 in
theorem of15_any (A : Option Addr) (n c : Nat) (ls : List (List UInt8)) (w : World) (hr : Rd A n 1 (strsV ls) w) (hn : n ≤ 1000000) :
    Calls Tryd.prog 65 #[.slice A n c] w (FieldsPost w (ofL ls)) := by
  obtain rfl := hr.str
  have hB := Below.refl w.heap.size w
  have hlen := ofL_len ls
  have hat := ofL_at ls
  generalize ofL ls = fs at *
  have hle : 2 * fs.length ≤ ls.length := by omega
  have hle2 : ls.length ≤ 2 * fs.length + 1 := by omega
  have HR := Lib.hid hr; have HAT := Lib.hid hat; clear hr hat hlen
  go_enter Tryd.func65, Tryd.ntmps65
  go_wp2
  go_loopw [4, 3] (fun i out wr => ∃ k : Nat, k ≤ fs.length ∧ i = .int .i64 (2 * k : Nat) ∧ Hid (OwnF w.heap.size out (fs.take k) wr) ∧ Below w.heap.size w wr) (fun i _ _ => 2 * fs.length + 1 - (intOf i).toNat)
  case atStart => exact ⟨0, Nat.zero_le _, rfl, Lib.hid (OwnF.nil _ _), hB⟩
  case round =>
    clear hB
    obtain ⟨k, hk, rfl, HO, hbw⟩ := hrel
    by_cases hlt : k < fs.length
    · obtain ⟨h1, h2, hf⟩ := HAT.out k hlt
      obtain ⟨b, o, rfl, hl, c0⟩ := HR.out.str_at (k := 2 * k) h1
      obtain ⟨b', o', e, hl', c1⟩ := HR.out.str_at (k := 2 * k + 1) h2
      cases e
      have hsn := take_snocL fs k hlt
      rw [hf] at hsn
      have hlen : (fs.take k).length ≤ 1000000000 := by rw [List.length_take]; omega
      generalize ls[2 * k] = x at *
      generalize ls[2 * k + 1] = y at *
      obtain ⟨j, hj⟩ : ∃ j, 2 * k = j := ⟨_, rfl⟩
      rw [hj] at h1 h2 c0 c1 ⊢
      have HJ := Lib.hid hj
      have hjn : 2 * (k + 1) = j + 2 := by omega
      have HJN := Lib.hid hjn
      have hmeas : j + 1 ≤ 2 * fs.length := by omega
      clear hj hjn
      have kc : ∀ w', Below w.heap.size w w' → w'.cell? ⟨b, o + j, none⟩ = some (.string ⟨x.toArray⟩) ∧ w'.cell? ⟨b, o + (j + 1), none⟩ = some (.string ⟨y.toArray⟩) ∧ Below w.heap.size w w' := fun w' h => ⟨(h.cell (p := ⟨b, o + j, none⟩) hl).trans c0, (h.cell (p := ⟨b, o + (j + 1), none⟩) hl).trans c1, h⟩
      have KC := Lib.hid kc; have Hsn := Lib.hid hsn; clear kc c0 c1 hsn hf
      go_wp2_with fail
      have j0 : (0 : Int) ≤ (j : Int) := by omega
      have j1 : (j : Int) < (ls.length : Int) := by omega
      have j2 : IntKind.i64.wrap ((j : Int) + 1) = (j : Int) + 1 := IntWalk.i64_in _ (by omega)
      have j3 : (0 : Int) ≤ (j : Int) + 1 := by omega
      have j4 : (j : Int) + 1 < (ls.length : Int) := by omega
      have j5 : ((j : Int) + 1).toNat = j + 1 := by omega
      go_region_held3 (fun w' => w'.cell? ⟨b, o + j, none⟩ = some (.string ⟨x.toArray⟩) ∧ w'.cell? ⟨b, o + (j + 1), none⟩ = some (.string ⟨y.toArray⟩) ∧ Below w.heap.size w w') (first | exact KC.out _ hbw | exact KC.out _ hbw.drew | exact KC.out _ (hbw.drew.alloc hbw.size _) | exact KC.out _ hb5 | assumption) (first | (refine step_fld w.heap.size (x, y) HO.out.drew hbw.size hlen rfl _ _ rfl rfl rfl ?_; intro v' w3 hO3 hb4 _; have hb5 := hbw.drew.trans hb4) | fail)
      have HO3 : Hid (OwnF w.heap.size v' (fs.take (k + 1)) w3) := by rw [Hsn.out]; exact Lib.hid hO3
      clear hO3 j0 j1 j2 j3 j4 j5
      go_wp2
      go_roundw
      case rel => exact ⟨k + 1, by omega, by rw [HJN.out]; go_num, HO3, hb5⟩
      case measure => simp [intOf]; omega
    · have hke : k = fs.length := by omega
      subst hke
      have ho := HO.out
      rw [List.take_length] at ho
      obtain ⟨la, lc, rfl⟩ := ho.shape
      have HO1 := Lib.hid ho; clear ho HO
      go_wp2
      go_ret
      exact ⟨la, lc, rfl, HO1.out, hbw⟩
end Go.Proofs.YtlhfbikhlfgjbaaDoor
/- The walk of text.Lower. -/
namespace Go.Proofs.YtlhfbikhlfgjbaaDoor
open Go.RowKit

/-- The bytes with the first k made small. -/
def lowTo (s : ByteArray) (k : Nat) : ByteArray := ⟨((s.data.toList.take k).map lowb ++ s.data.toList.drop k).toArray⟩
theorem lowTo_size (s : ByteArray) (k : Nat) : (lowTo s k).size = s.size := by
  unfold lowTo; rw [Lib.size_eq, Lib.size_eq]; simp only [List.length_append, List.length_map, List.length_take, List.length_drop]; omega
theorem lowTo_zero (s : ByteArray) : lowTo s 0 = s := by unfold lowTo; simp
theorem lowTo_end (s : ByteArray) : lowTo s s.size = ⟨(lowerL s.data.toList).toArray⟩ := by
  unfold lowTo lowerL; rw [take_all s _ (Nat.le_refl _), drop_all s _ (Nat.le_refl _), List.append_nil]
theorem lowTo_at (s : ByteArray) (k j : Nat) (h : j < s.size) (h' : j < (lowTo s k).size) : (lowTo s k)[j] = if j < k then lowb s[j] else s[j] := by
  have hl : j < ((s.data.toList.take k).map lowb ++ s.data.toList.drop k).length := by
    rw [List.length_append, List.length_map, List.length_take, List.length_drop, ← Lib.size_eq]; omega
  rw [mk_at (lowTo s k) _ rfl j h' hl, at_list s j h]
  by_cases hk : j < k
  · rw [if_pos hk, List.getElem_append_left (by rw [List.length_map, List.length_take, ← Lib.size_eq]; omega)]
    simp only [List.getElem_map, List.getElem_take]
  · rw [if_neg hk, List.getElem_append_right (by rw [List.length_map, List.length_take, ← Lib.size_eq]; omega)]
    simp only [List.getElem_drop]; congr 1
    rw [List.length_map, List.length_take, ← Lib.size_eq]; omega

/-- A row of bytes in block b that may be written. -/
structure RowAt (b : Nat) (s : ByteArray) (w : World) : Prop where
  cells : Lib.Bytes w b 0 s
  free : ∀ i, i < s.size → w.frozen? ⟨b, i, none⟩ = false

theorem RowAt.fresh (s : ByteArray) (cap : Nat) (w : World) :
    RowAt w.heap.size s (w.alloc (.cells (bytesRow s cap) 5 ((bytesRow s cap).size, (bytesRow s cap).size + 1))) := by
  refine ⟨fun i h => ?_, fun i h => ?_⟩
  · rw [Nat.zero_add, World.cell?_alloc_mark, bytesRow_at s cap i h]; rfl
  · rw [World.frozen?_alloc_mark]
    have : s.size ≤ (bytesRow s cap).size := by unfold bytesRow; simp
    simp; omega
theorem RowAt.drew {b : Nat} {s : ByteArray} {w : World} (h : RowAt b s w) : RowAt b s w.drew := ⟨fun i hi => h.cells i hi, fun i hi => h.free i hi⟩
theorem RowAt.same {b k : Nat} {s : ByteArray} {w : World} (h : RowAt b (lowTo s k) w) (hk : k < s.size) (e : lowb s[k] = s[k]) : RowAt b (lowTo s (k + 1)) w := by
  refine ⟨fun i hi => ?_, fun i hi => h.free i (by rw [lowTo_size] at *; exact hi)⟩
  have hi2 : i < s.size := by rw [lowTo_size] at hi; exact hi
  rw [h.cells i (by rw [lowTo_size]; exact hi2), lowTo_at s k i hi2, lowTo_at s (k + 1) i hi2]
  by_cases h1 : i < k
  · rw [if_pos h1, if_pos (by omega)]
  · rw [if_neg h1]
    by_cases h2 : i = k
    · subst h2; rw [if_pos (by omega), e]
    · rw [if_neg (by omega)]
theorem RowAt.put {b k : Nat} {s : ByteArray} {w : World} (h : RowAt b (lowTo s k) w) (hk : k < s.size) {n : Int} (e : ((lowb s[k]).toNat : Int) = n) : RowAt b (lowTo s (k + 1)) (w.setCell ⟨b, k, none⟩ (.int .u8 n)) := by
  refine ⟨fun i hi => ?_, fun i hi => ?_⟩
  · have hi2 : i < s.size := by rw [lowTo_size] at hi; exact hi
    have hc := h.cells i (by rw [lowTo_size]; exact hi2)
    rw [Nat.zero_add] at hc ⊢
    rw [lowTo_at s (k + 1) i hi2]
    by_cases h2 : i = k
    · subst h2
      rw [World.cell?_setCell_same _ _ _ hc, if_pos (by omega), e]
    · rw [World.cell?_setCell_other _ _ _ _ (by intro e; cases e; exact h2 rfl), hc, lowTo_at s k i hi2]
      by_cases h1 : i < k
      · rw [if_pos h1, if_pos (by omega)]
      · rw [if_neg h1, if_neg (by omega)]
  · rw [World.frozen?_setCell]; exact h.free i (by rw [lowTo_size] at *; exact hi)
theorem RowAt.at {b k : Nat} {s : ByteArray} {w : World} (h : RowAt b (lowTo s k) w) (hk : k < s.size) : w.cell? ⟨b, k, none⟩ = some (.int .u8 s[k].toNat) := by
  have hc := h.cells k (by rw [lowTo_size]; exact hk)
  rw [Nat.zero_add] at hc
  rw [hc, lowTo_at s k k hk, if_neg (by omega)]

theorem lowb_no (c : UInt8) (h : (decide (65 ≤ (c.toNat : Int)) && decide ((c.toNat : Int) ≤ 90)) = false) : lowb c = c := by
  have : (decide (65 ≤ c.toNat) && decide (c.toNat ≤ 90)) = false := by rw [← h, Bool.eq_iff_iff]; simp; omega
  unfold lowb; rw [this]; rfl
theorem lowb_yes (c : UInt8) (h1 : decide (65 ≤ (c.toNat : Int)) = true) (h2 : decide ((c.toNat : Int) ≤ 90) = true) : ((lowb c).toNat : Int) = (c.toNat : Int) + 32 := by
  have : (decide (65 ≤ c.toNat) && decide (c.toNat ≤ 90)) = true := by simp at *; omega
  unfold lowb; rw [this, cond_true]
  have : c.toNat ≤ 90 := by simp at h2; omega
  rw [UInt8.toNat_add]; simp; omega

set_option maxRecDepth 100000 in
set_option maxHeartbeats 2000000 in
theorem lower_wide (s : ByteArray) (w : World) (hs : s.size ≤ 140737488351232) :
    Calls Tryd.prog 8 #[.string s] w fun e w' => e = .returned (.string ⟨(lowerL s.data.toList).toArray⟩) ∧ Below w.heap.size w w' := by
  have hcv := run_bytes_of_string (P := Tryd.prog) w 9 23 5 s Tryd.underlying9 Tryd.underlying23 Tryd.underlying5
  have hfr := RowAt.fresh s (grownCap w s.size 0 5) w
  have hbl : Below w.heap.size w (w.alloc (.cells (bytesRow s (grownCap w s.size 0 5)) 5 ((bytesRow s (grownCap w s.size 0 5)).size, (bytesRow s (grownCap w s.size 0 5)).size + 1))) := (Below.refl _ w).alloc (Nat.le_refl _) _
  generalize grownCap w s.size 0 5 = cap at *
  generalize Obj.cells (bytesRow s cap) 5 ((bytesRow s cap).size, (bytesRow s cap).size + 1) = row at *
  have HF := Lib.hid hfr; have HL := Lib.hid hbl; clear hfr hbl
  go_enter Tryd.func8, Tryd.ntmps8
  go_wp2
  clear hcv
  go_loopw [9] (fun i wr => ∃ k : Nat, k ≤ s.size ∧ i = .int .i64 k ∧ RowAt w.heap.size (lowTo s k) wr ∧ Below w.heap.size w wr) (fun i _ => s.size - (intOf i).toNat)
  case atStart => exact ⟨0, Nat.zero_le _, rfl, by rw [lowTo_zero]; exact HF.out.drew, HL.out.drew⟩
  case round =>
    obtain ⟨k, hk, rfl, hR, hbw⟩ := hrel
    have HR := Lib.hid hR; clear hR
    by_cases hlt : k < s.size
    · have hc := HR.out.at hlt
      have hz := HR.out.free k (by rw [lowTo_size]; exact hlt)
      have hu := u8_lt s[k]
      cases c1 : decide (65 ≤ (s[k].toNat : Int)) <;> cases c2 : decide ((s[k].toNat : Int) ≤ 90)
      · exfalso; simp at c1 c2; omega
      · have hl := lowb_no s[k] (by rw [c1, c2]; rfl)
        have Hl := Lib.hid hl; clear hl
        go_wp2
        go_roundw
        case rel => exact ⟨k + 1, by omega, by go_num, HR.out.same hlt Hl.out, hbw⟩
        case measure => simp [intOf]; omega
      · have hl := lowb_no s[k] (by rw [c1, c2]; rfl)
        have Hl := Lib.hid hl; clear hl
        go_wp2
        go_roundw
        case rel => exact ⟨k + 1, by omega, by go_num, HR.out.same hlt Hl.out, hbw⟩
        case measure => simp [intOf]; omega
      · have hl := lowb_yes s[k] c1 c2
        have Hl := Lib.hid hl; clear hl
        have hu2 : (s[k].toNat : Int) ≤ 90 := by simp at c2; omega
        go_wp2
        go_roundw
        case rel => exact ⟨k + 1, by omega, by go_num, HR.out.put hlt Hl.out, hbw.setCell (Nat.le_refl _) _⟩
        case measure => simp [intOf]; omega
    · have hke : k = s.size := by omega
      have hb := Lib.run_convert_whole (P := Tryd.prog) wr 23 5 9 Tryd.underlying23 Tryd.underlying5 Tryd.underlying9 w.heap.size 0 (lowTo s k) HR.out.cells cap
      rw [lowTo_size] at hb
      have hfin : lowTo s k = ⟨(lowerL s.data.toList).toArray⟩ := by rw [hke, lowTo_end]
      have Hf := Lib.hid hfin; clear hfin
      generalize lowTo s k = t at *
      have Hke := Lib.hid hke; clear hke
      go_wp2
      go_ret
      exact ⟨by rw [← Hf.out]; rfl, hbw⟩
theorem lower_any (s : ByteArray) (w : World) (hs : s.size ≤ 1000000) :
    Calls Tryd.prog 8 #[.string s] w fun e w' => e = .returned (.string ⟨(lowerL s.data.toList).toArray⟩) ∧ Below w.heap.size w w' := lower_wide s w (by omega)
end Go.Proofs.YtlhfbikhlfgjbaaDoor
/- The walk of text.Trim. -/
namespace Go.Proofs.YtlhfbikhlfgjbaaDoor
open Go.RowKit

def blanks : List UInt8 := [32, 9]
def trimL (l : List UInt8) : List UInt8 := Lib.trimS l blanks
theorem trimL_le (l : List UInt8) : (trimL l).length ≤ l.length := by
  have h1 : ∀ m : List UInt8, (Lib.trimLeftS m blanks).length ≤ m.length := fun m => (List.dropWhile_sublist _).length_le
  have h2 : ∀ m : List UInt8, (Lib.trimRightS m blanks).length ≤ m.length := fun m => by
    unfold Lib.trimRightS; rw [List.length_reverse]
    exact Nat.le_trans (List.dropWhile_sublist _).length_le (by rw [List.length_reverse]; exact Nat.le_refl _)
  exact Nat.le_trans (h1 _) (h2 _)

set_option maxHeartbeats 1000000 in
theorem trim_any (s : ByteArray) (w : World) (hs : s.size ≤ 1000000) :
    Calls Tryd.prog 63 #[.string s] w fun e w' => e = .returned (.string ⟨(trimL s.data.toList).toArray⟩) ∧ Below w.heap.size w w' := by
  have hcon := Any.strings_Trim_laid Tryd.lays160 (by kernel_rfl) s ⟨#[32, 9]⟩ w (by omega) (by decide) (ascii_of_all (by decide))
  have HC := Lib.hid hcon; clear hcon
  go_enter Tryd.func63, Tryd.ntmps63
  go_wp2_with (go_at_call 75; refine HC.out.mono ?_; rintro e w' ⟨rfl, hb⟩)
  go_ret
  exact ⟨rfl, hb⟩
end Go.Proofs.YtlhfbikhlfgjbaaDoor
/- What text.Split computes, and the document's way: plain functions on lists of bytes. -/
namespace Go.Proofs.YtlhfbikhlfgjbaaDoor

def addP (ls : List (List UInt8)) (p : List UInt8) : List (List UInt8) := bif p.isEmpty then ls else ls ++ [p]
theorem addP_le (ls : List (List UInt8)) (p : List UInt8) : (addP ls p).length ≤ ls.length + 1 := by
  unfold addP; cases p.isEmpty <;> simp
def splP (sep : UInt8) : Bool → Bool → List UInt8 → List (List UInt8) → List UInt8 → Option (List (List UInt8))
  | o, _, cur, ls, [] => bif o then none else some (addP ls (trimL cur))
  | o, b, cur, ls, c :: r =>
    bif b then splP sep o false (cur ++ [c]) ls r
    else bif o && c.toNat == 92 then splP sep o true (cur ++ [c]) ls r
    else bif c.toNat == 34 then splP sep (!o) false (cur ++ [c]) ls r
    else bif c.toNat == sep.toNat && !o then splP sep o false [] (addP ls (trimL cur)) r
    else splP sep o false (cur ++ [c]) ls r
/-- The pieces and the error's number. -/
def splitE (t : Option (List (List UInt8))) : List (List UInt8) × Int := match t with
  | none => ([], 4)
  | some ls => bif decide (64 < ls.length) then ([], 3) else (ls, 0)
def splitL (sep : UInt8) (l : List UInt8) : List (List UInt8) × Int :=
  bif sep.toNat == 34 || sep.toNat == 92 then ([], 2) else splitE (splP sep false false [] [] l)

/-- The document's way: which bytes stand in quotes; is one open at the end? -/
def fl : Bool → Bool → List UInt8 → List Bool
  | _, _, [] => []
  | o, b, c :: r => (o || c.toNat == 34) :: (bif b then fl o false r else bif o && c.toNat == 92 then fl o true r else bif c.toNat == 34 then fl (!o) false r else fl o false r)
def en : Bool → Bool → List UInt8 → Bool
  | o, _, [] => o
  | o, b, c :: r => bif b then en o false r else bif o && c.toNat == 92 then en o true r else bif c.toNat == 34 then en (!o) false r else en o false r
def spR (sep : UInt8) : List UInt8 → List (List UInt8) → List UInt8 → List Bool → List (List UInt8)
  | cur, ls, c :: r, f :: fs => bif (c.toNat != sep.toNat) || f then spR sep (cur ++ [c]) ls r fs else spR sep [] (addP ls (trimL cur)) r fs
  | cur, ls, _, _ => addP ls (trimL cur)
theorem fl_length : ∀ (l : List UInt8) (o b : Bool), (fl o b l).length = l.length
  | [], _, _ => rfl
  | c :: r, o, b => by
    simp only [fl, List.length_cons]
    congr 1
    cases b <;> cases (o && c.toNat == 92) <;> cases (c.toNat == 34) <;> simp [fl_length r]
theorem spl_eq (sep : UInt8) (hs : (sep.toNat == 34) = false) : ∀ (l : List UInt8) (o b : Bool) (cur : List UInt8) (ls : List (List UInt8)), (b = true → o = true) →
    splP sep o b cur ls l = bif en o b l then none else some (spR sep cur ls l (fl o b l))
  | [], o, b, cur, ls, _ => by simp [splP, en, spR]
  | c :: r, o, b, cur, ls, h => by
    have hne : (c.toNat == 34) = true → (c.toNat != sep.toNat) = true := by
      intro e; simp at e hs ⊢; omega
    have i1 := spl_eq sep hs r
    cases b
    · cases o
      · cases h34 : (c.toNat == 34)
        · cases hc : (c.toNat == sep.toNat)
          · have : (c.toNat != sep.toNat) = true := by simp [bne, hc]
            simp [splP, en, spR, fl, h34, hc, this, i1]
          · have : (c.toNat != sep.toNat) = false := by simp [bne, hc]
            simp [splP, en, spR, fl, h34, hc, this, i1]
        · simp [splP, en, spR, fl, h34, i1]
      · cases h92 : (c.toNat == 92)
        · cases h34 : (c.toNat == 34)
          · simp [splP, en, spR, fl, h34, h92, i1]
          · simp [splP, en, spR, fl, h34, h92, i1]
        · simp [splP, en, spR, fl, h92, i1]
    · have ho := h rfl
      subst ho
      simp [splP, en, spR, fl, i1]
theorem spl_count (sep : UInt8) : ∀ (l : List UInt8) (o b : Bool) (cur : List UInt8) (ls ps : List (List UInt8)), splP sep o b cur ls l = some ps → ps.length ≤ ls.length + l.length + 1
  | [], o, b, cur, ls, ps, h => by
    cases o
    · simp [splP] at h; subst h; have := addP_le ls (trimL cur); simp; omega
    · simp [splP] at h
  | c :: r, o, b, cur, ls, ps, h => by
    have ih := spl_count sep r
    have ha := addP_le ls (trimL cur)
    rw [splP] at h
    rw [List.length_cons]
    cases b
    · simp only [cond_false] at h
      cases hx : (o && c.toNat == 92) <;> rw [hx] at h <;> simp only [cond_true, cond_false] at h
      · cases h34 : (c.toNat == 34) <;> rw [h34] at h <;> simp only [cond_true, cond_false] at h
        · cases hy : (c.toNat == sep.toNat && !o) <;> rw [hy] at h <;> simp only [cond_true, cond_false] at h
          · have := ih _ _ _ _ _ h; omega
          · have := ih _ _ _ _ _ h; omega
        · have := ih _ _ _ _ _ h; omega
      · have := ih _ _ _ _ _ h; omega
    · simp only [cond_true] at h
      have := ih _ _ _ _ _ h; omega
end Go.Proofs.YtlhfbikhlfgjbaaDoor
/- What TextStays and TextKnown want of the plain functions. -/
namespace Go.Proofs.YtlhfbikhlfgjbaaDoor

theorem lowb_twice (c : UInt8) : lowb (lowb c) = lowb c := by
  by_cases h : (decide (65 ≤ c.toNat) && decide (c.toNat ≤ 90)) = true
  · have h1 : lowb c = c + 32 := by unfold lowb; rw [h]; rfl
    have h2 : (c + 32).toNat = c.toNat + 32 := by
      simp at h; rw [UInt8.toNat_add]; simp; omega
    have h3 : (decide (65 ≤ (c + 32).toNat) && decide ((c + 32).toNat ≤ 90)) = false := by simp at h ⊢; omega
    rw [h1]; unfold lowb; rw [h3]; rfl
  · have h' : (decide (65 ≤ c.toNat) && decide (c.toNat ≤ 90)) = false := by simpa using h
    have h1 : lowb c = c := by unfold lowb; rw [h']; rfl
    rw [h1, h1]
theorem lower_twice (l : List UInt8) : lowerL (lowerL l) = lowerL l := by
  unfold lowerL; rw [List.map_map]; apply List.map_congr_left; intro c _; exact lowb_twice c
theorem lower_length (l : List UInt8) : (lowerL l).length = l.length := by unfold lowerL; simp

theorem dw_idem (p : UInt8 → Bool) : ∀ l : List UInt8, (l.dropWhile p).dropWhile p = l.dropWhile p
  | [] => rfl
  | c :: r => by
    cases h : p c
    · rw [List.dropWhile_cons_of_neg (by simp [h]), List.dropWhile_cons_of_neg (by simp [h])]
    · rw [List.dropWhile_cons_of_pos h]; exact dw_idem p r
theorem dw_suffix (p : UInt8 → Bool) (l : List UInt8) : ∃ a, l = a ++ l.dropWhile p := ⟨l.takeWhile p, (List.takeWhile_append_dropWhile).symm⟩
theorem dw_none (p : UInt8 → Bool) (l : List UInt8) (h : ∀ c ∈ l, p c = false) : l.dropWhile p = l := by
  cases l with
  | nil => rfl
  | cons c r => rw [List.dropWhile_cons_of_neg (by simp [h c (by simp)])]
theorem trim_twice (l : List UInt8) : trimL (trimL l) = trimL l := by
  unfold trimL Lib.trimS Lib.trimLeftS Lib.trimRightS
  generalize (fun x => blanks.contains x) = p
  obtain ⟨a, ha⟩ := dw_suffix p (l.reverse.dropWhile p).reverse
  have hr : (l.reverse.dropWhile p).dropWhile p = l.reverse.dropWhile p := dw_idem _ _
  generalize l.reverse.dropWhile p = r at *
  have ht := dw_idem p r.reverse
  generalize r.reverse.dropWhile p = t at *
  have h1 : t.reverse.dropWhile p = t.reverse := by
    have h2 : r = t.reverse ++ a.reverse := by rw [← List.reverse_reverse r, ha]; simp
    cases h3 : t.reverse with
    | nil => rfl
    | cons x y =>
      rw [h3] at h2
      rw [h2] at hr
      cases hx : p x
      · rw [List.dropWhile_cons_of_neg (by simp [hx])]
      · exfalso
        rw [List.cons_append, List.dropWhile_cons_of_pos hx] at hr
        have := congrArg List.length hr
        have h4 : ((y ++ a.reverse).dropWhile p).length ≤ (y ++ a.reverse).length := (List.dropWhile_sublist p).length_le
        rw [List.length_cons] at this
        omega
  rw [h1, List.reverse_reverse, ht]
theorem trim_infix (l : List UInt8) : ∃ a b, l = a ++ (trimL l ++ b) := by
  unfold trimL Lib.trimS Lib.trimLeftS Lib.trimRightS
  generalize (fun x => blanks.contains x) = p
  obtain ⟨b, hb⟩ := dw_suffix p l.reverse
  obtain ⟨a, ha⟩ := dw_suffix p (l.reverse.dropWhile p).reverse
  refine ⟨a, b.reverse, ?_⟩
  rw [← List.append_assoc, ← ha, ← List.reverse_append, ← hb, List.reverse_reverse]
theorem contains_of (l t a b : List UInt8) (h : l = a ++ (t ++ b)) : Lib.contains l t = true := by
  unfold Lib.contains
  rcases Lib.index_spec l t with ⟨_, h2⟩ | ⟨i, h1, _⟩
  · exfalso
    have := h2 a.length (by rw [h]; simp)
    unfold Lib.occAt at this
    rw [h, List.drop_left] at this
    have h3 : t.isPrefixOf (t ++ b) = true := by rw [List.isPrefixOf_iff_prefix]; exact List.prefix_append _ _
    rw [h3] at this; cases this
  · rw [h1]; simp
theorem contains_trim (l : List UInt8) : Lib.contains l (trimL l) = true := by
  obtain ⟨a, b, h⟩ := trim_infix l
  exact contains_of _ _ _ _ h

theorem word_not {c : UInt8} (h : wordb c = true) : blanks.contains c = false ∧ (c.toNat == 34) = false ∧ (c.toNat == 92) = false := by
  have h0 : ∀ d : UInt8, wordb d = true → (blanks.contains d = false ∧ (d.toNat == 34) = false ∧ (d.toNat == 92) = false) := by
    intro d hd
    refine ⟨?_, ?_, ?_⟩
    · cases hb : blanks.contains d
      · rfl
      · have : d = 32 ∨ d = 9 := by simpa [blanks] using hb
        rcases this with e | e <;> subst e <;> exact absurd hd (by decide)
    · cases hb : (d.toNat == 34)
      · rfl
      · have : d = 34 := by rw [← UInt8.toNat_inj]; simpa using hb
        subst this; exact absurd hd (by decide)
    · cases hb : (d.toNat == 92)
      · rfl
      · have : d = 92 := by rw [← UInt8.toNat_inj]; simpa using hb
        subst this; exact absurd hd (by decide)
  exact h0 c h
theorem token_all {l : List UInt8} (h : tokenL l = true) : (∀ c ∈ l, wordb c = true) ∧ l.isEmpty = false := by
  unfold tokenL at h
  rw [Bool.and_eq_true] at h
  refine ⟨fun c hc => List.all_eq_true.1 h.1 c hc, ?_⟩
  cases hl : l.isEmpty
  · rfl
  · rw [hl] at h; exact absurd h.2 (by decide)
theorem trim_word (l : List UInt8) (h : ∀ c ∈ l, wordb c = true) : trimL l = l := by
  unfold trimL Lib.trimS Lib.trimLeftS Lib.trimRightS
  have h1 : l.reverse.dropWhile (fun x => blanks.contains x) = l.reverse := dw_none _ _ (fun c hc => (word_not (h c (by simpa using hc))).1)
  rw [h1, List.reverse_reverse]
  exact dw_none _ _ (fun c hc => (word_not (h c hc)).1)
theorem trim_token {l : List UInt8} (h : tokenL l = true) : trimL l = l := trim_word l (token_all h).1
theorem unqP_token {l : List UInt8} (h : tokenL l = true) : unqP l = none := by
  cases l with
  | nil => rfl
  | cons c r =>
    have hc := word_not ((token_all h).1 c (by simp))
    have : ((c :: r).head?.getD 0).toNat = c.toNat := rfl
    unfold unqP
    rw [this, hc.2.1]; simp
theorem spl_word (sep : UInt8) : ∀ (l cur : List UInt8), (∀ c ∈ l, wordb c = true) → (∀ c ∈ l, (c.toNat == sep.toNat) = false) → splP sep false false cur [] l = some (addP [] (trimL (cur ++ l)))
  | [], cur, _, _ => by simp [splP]
  | c :: r, cur, h1, h2 => by
    have hc := word_not (h1 c (by simp))
    have hs := h2 c (by simp)
    rw [splP, hc.2.1, hs]
    simp only [cond_false, Bool.false_and]
    rw [spl_word sep r (cur ++ [c]) (fun x hx => h1 x (by simp [hx])) (fun x hx => h2 x (by simp [hx]))]
    simp
theorem split_token {l : List UInt8} {sep : UInt8} (h : tokenL l = true) (hs : ∀ c ∈ l, (c.toNat == sep.toNat) = false) (h1 : (sep.toNat == 34) = false) (h2 : (sep.toNat == 92) = false) : splitL sep l = ([l], 0) := by
  have ht := token_all h
  unfold splitL
  rw [h1, h2, spl_word sep l [] ht.1 hs, List.nil_append, trim_token h]
  unfold addP; rw [ht.2]; rfl

/-- What 'pieces' hands back. -/
def piecesL (sep : UInt8) (l : List UInt8) : List UInt8 :=
  bif (splitL sep l).2 == 0 then Lib.join (splitL sep l).1 [124] else [101, 114, 114, 111, 114, 32, 48 + UInt8.ofNat (splitL sep l).2.toNat]
theorem pieces_token {l : List UInt8} {sep : UInt8} (h : tokenL l = true) (hs : ∀ c ∈ l, (c.toNat == sep.toNat) = false) (h1 : (sep.toNat == 34) = false) (h2 : (sep.toNat == 92) = false) : piecesL sep l = l := by
  unfold piecesL; rw [split_token h hs h1 h2]; exact Lib.join_one _ _
theorem split_err (sep : UInt8) (l : List UInt8) : 0 ≤ (splitL sep l).2 ∧ (splitL sep l).2 ≤ 4 := by
  unfold splitL
  cases (sep.toNat == 34 || sep.toNat == 92)
  · cases splP sep false false [] [] l with
    | none => simp [splitE]
    | some ls =>
      simp only [splitE, cond_false]
      cases h : decide (64 < ls.length) <;> simp
  · simp
/-- The pieces together are no longer than the text. -/
def total (ls : List (List UInt8)) : Nat := (ls.map List.length).sum
theorem total_addP (ls : List (List UInt8)) (p : List UInt8) : total (addP ls p) = total ls + p.length := by
  unfold addP total
  cases h : p.isEmpty
  · simp
  · simp at h; simp [h]
theorem spl_total (sep : UInt8) : ∀ (l : List UInt8) (o b : Bool) (cur : List UInt8) (ls ps : List (List UInt8)), splP sep o b cur ls l = some ps → total ps ≤ total ls + cur.length + l.length
  | [], o, b, cur, ls, ps, h => by
    cases o
    · simp [splP] at h; subst h; have := trimL_le cur; rw [total_addP]; simp; omega
    · simp [splP] at h
  | c :: r, o, b, cur, ls, ps, h => by
    have ih := spl_total sep r
    have ha := total_addP ls (trimL cur)
    have hb := trimL_le cur
    rw [splP] at h
    rw [List.length_cons]
    cases b
    · simp only [cond_false] at h
      cases hx : (o && c.toNat == 92) <;> rw [hx] at h <;> simp only [cond_true, cond_false] at h
      · cases h34 : (c.toNat == 34) <;> rw [h34] at h <;> simp only [cond_true, cond_false] at h
        · cases hy : (c.toNat == sep.toNat && !o) <;> rw [hy] at h <;> simp only [cond_true, cond_false] at h
          · have := ih _ _ _ _ _ h; simp at this; omega
          · have := ih _ _ _ _ _ h; simp at this; omega
        · have := ih _ _ _ _ _ h; simp at this; omega
      · have := ih _ _ _ _ _ h; simp at this; omega
    · simp only [cond_true] at h
      have := ih _ _ _ _ _ h; simp at this; omega
theorem split_total (sep : UInt8) (l : List UInt8) : total (splitL sep l).1 ≤ l.length := by
  unfold splitL
  cases (sep.toNat == 34 || sep.toNat == 92)
  · cases h : splP sep false false [] [] l with
    | none => simp [splitE, total]
    | some ls =>
      have h1 := spl_total sep l _ _ _ _ _ h
      simp only [splitE, cond_false]
      cases h : decide (64 < ls.length)
      · simpa [total] using h1
      · simp [total]
  · simp [total]
theorem join_le (sep : List UInt8) : ∀ ls : List (List UInt8), (Lib.join ls sep).length ≤ total ls + ls.length * sep.length
  | [] => by simp [Lib.join_nil]
  | [x] => by rw [Lib.join_one]; simp [total]
  | x :: y :: r => by
    have ih := join_le sep (y :: r)
    rw [Lib.join_cons] at ih ⊢
    unfold total at *
    simp [Lib.joinTail, Nat.add_mul] at ih ⊢
    omega
theorem total_mem {ls : List (List UInt8)} {x : List UInt8} (h : x ∈ ls) : x.length ≤ total ls := by
  unfold total
  induction ls with
  | nil => cases h
  | cons y r ih =>
    rw [List.map_cons, List.sum_cons]
    rcases List.mem_cons.1 h with rfl | h
    · omega
    · have := ih h; omega
end Go.Proofs.YtlhfbikhlfgjbaaDoor
/- What a name has in a request, by which names a reply varies: plain. -/
namespace Go.Proofs.YtlhfbikhlfgjbaaDoor

def piecesOf (v : List UInt8) : List (List UInt8) := bif (splitL 44 v).2 == 0 then (splitL 44 v).1 else [trimL v]
def keepP (ps : List (List UInt8)) : List (List UInt8) := ps.filter fun p => !p.isEmpty
def allP (vs : List (List UInt8)) : List (List UInt8) := vs.flatMap fun v => keepP (piecesOf v)
def cs : List UInt8 := [44, 32]
/-- request.value. -/
def valueL (xs : List Fld) (name : List UInt8) : List UInt8 := Lib.join (allP (valuesL xs name)) cs

theorem splitL_le' (sep : UInt8) (l : List UInt8) : (splitL sep l).1.length ≤ 64 := by
  unfold splitL
  cases (sep.toNat == 34 || sep.toNat == 92)
  · cases splP sep false false [] [] l with
    | none => simp [splitE]
    | some ls =>
      simp only [splitE, cond_false]
      cases h : decide (64 < ls.length)
      · simp at h ⊢; exact h
      · simp
  · simp
theorem piecesOf_le (v : List UInt8) : (piecesOf v).length ≤ 64 := by
  unfold piecesOf
  cases ((splitL 44 v).2 == 0)
  · simp
  · exact splitL_le' 44 v
theorem keepP_le (ps : List (List UInt8)) : (keepP ps).length ≤ ps.length := List.length_filter_le _ _
theorem keepP_snoc (ps : List (List UInt8)) (p : List UInt8) : keepP (ps ++ [p]) = if p.isEmpty then keepP ps else keepP ps ++ [p] := by
  unfold keepP
  rw [List.filter_append]
  cases h : p.isEmpty <;> simp [h]
theorem allP_snoc (vs : List (List UInt8)) (v : List UInt8) : allP (vs ++ [v]) = allP vs ++ keepP (piecesOf v) := by
  unfold allP; simp [List.flatMap_append]
theorem allP_le (vs : List (List UInt8)) : (allP vs).length ≤ 64 * vs.length := by
  unfold allP
  induction vs with
  | nil => simp
  | cons v r ih =>
    have h1 := keepP_le (piecesOf v)
    have h2 := piecesOf_le v
    rw [List.flatMap_cons, List.length_append, List.length_cons]
    omega
theorem total_keepP (ps : List (List UInt8)) : total (keepP ps) ≤ total ps := by
  unfold keepP total
  induction ps with
  | nil => simp
  | cons p r ih =>
    rw [List.filter_cons]
    cases h : p.isEmpty
    · simp at ih ⊢; exact ih
    · simp at ih ⊢; omega
theorem total_app (a b : List (List UInt8)) : total (a ++ b) = total a + total b := by unfold total; simp
theorem total_pieces (v : List UInt8) : total (piecesOf v) ≤ v.length := by
  unfold piecesOf
  cases ((splitL 44 v).2 == 0)
  · have := trimL_le v; unfold total; simpa using this
  · exact split_total 44 v
theorem total_allP (vs : List (List UInt8)) : total (allP vs) ≤ total vs := by
  induction vs with
  | nil => simp [allP, total]
  | cons v r ih =>
    have h1 := total_keepP (piecesOf v)
    have h2 := total_pieces v
    have e1 : allP (v :: r) = keepP (piecesOf v) ++ allP r := rfl
    have e2 : total (v :: r) = v.length + total r := by unfold total; simp
    rw [e1, e2, total_app]; omega
theorem total_bound (M : Nat) : ∀ ls : List (List UInt8), (∀ x ∈ ls, x.length ≤ M) → total ls ≤ ls.length * M
  | [], _ => by simp [total]
  | x :: r, h => by
    have ih := total_bound M r (fun y hy => h y (by simp [hy]))
    have h1 := h x (by simp)
    have e2 : total (x :: r) = x.length + total r := by unfold total; simp
    rw [e2, List.length_cons, Nat.add_mul]; omega
theorem valuesL_mem {xs : List Fld} {name v : List UInt8} (h : v ∈ valuesL xs name) : ∃ f ∈ xs, f.2 = v := by
  unfold valuesL at h
  obtain ⟨f, hf, e⟩ := List.mem_map.1 h
  exact ⟨f, (List.mem_filter.1 hf).1, e⟩

/-- Joined, one more behind. -/
theorem join_snoc (sep p : List UInt8) : ∀ ls : List (List UInt8), Lib.join (ls ++ [p]) sep = if ls.isEmpty then p else Lib.join ls sep ++ (sep ++ p)
  | [] => Lib.join_one _ _
  | x :: r => by
    rw [List.cons_append, Lib.join_cons, Lib.join_cons]
    simp [Lib.joinTail, List.append_assoc]
theorem keepP_ne (ps : List (List UInt8)) : ∀ p ∈ keepP ps, p ≠ [] := by
  intro p hp
  have := (List.mem_filter.1 hp).2
  simpa using this
theorem allP_ne (vs : List (List UInt8)) : ∀ p ∈ allP vs, p ≠ [] := by
  intro p hp
  obtain ⟨v, _, h⟩ := List.mem_flatMap.1 hp
  exact keepP_ne _ p h
theorem join_empty (sep : List UInt8) (ls : List (List UInt8)) (h : ∀ p ∈ ls, p ≠ []) : (Lib.join ls sep).isEmpty = ls.isEmpty := by
  cases ls with
  | nil => rfl
  | cons x r =>
    have hx := h x (by simp)
    rw [Lib.join_cons]
    cases x with
    | nil => exact absurd rfl hx
    | cons c t => rfl
end Go.Proofs.YtlhfbikhlfgjbaaDoor
/- By which names a reply varies: plain. -/
namespace Go.Proofs.YtlhfbikhlfgjbaaDoor

def nameOk (nm : List UInt8) : Bool := tokenL nm && !(nm == [42])
def addN (acc : List (List UInt8)) (nm : List UInt8) : List (List UInt8) := bif acc.contains nm then acc else acc ++ [nm]
def namesPs : List (List UInt8) → List (List UInt8) → Option (List (List UInt8))
  | acc, [] => some acc
  | acc, p :: r => bif nameOk (lowerL p) then namesPs (addN acc (lowerL p)) r else none
def namesVs : List (List UInt8) → List (List UInt8) → Option (List (List UInt8))
  | acc, [] => some acc
  | acc, v :: r => bif (splitL 44 v).2 == 0 then (match namesPs acc (splitL 44 v).1 with | none => none | some a => namesVs a r) else none
def varyW : List UInt8 := [118, 97, 114, 121]
/-- vary.Names. -/
def namesO (xs : List Fld) : Option (List (List UInt8)) := namesVs [] (valuesL xs varyW)
def optL (o : Option (List (List UInt8))) : List (List UInt8) := o.getD []

theorem addN_le (acc : List (List UInt8)) (nm : List UInt8) : (addN acc nm).length ≤ acc.length + 1 := by
  unfold addN; cases acc.contains nm <;> simp
theorem namesPs_le : ∀ (ps acc a : List (List UInt8)), namesPs acc ps = some a → a.length ≤ acc.length + ps.length
  | [], acc, a, h => by cases h; simp
  | p :: r, acc, a, h => by
    rw [namesPs] at h
    cases hn : nameOk (lowerL p) <;> rw [hn] at h
    · cases h
    · have := namesPs_le r _ a h
      have := addN_le acc (lowerL p)
      rw [List.length_cons]; omega
theorem drop_consL {α : Type} (xs : List α) (k : Nat) (h : k < xs.length) : xs.drop k = xs[k] :: xs.drop (k + 1) := List.drop_eq_getElem_cons h
/-- What has been met: a count of each name, nought for those that are not there. -/
def Count (f : List UInt8 → Int) (acc : List (List UInt8)) (n : Nat) : Prop := (∀ x, 0 ≤ f x ∧ f x ≤ n) ∧ ∀ x, f x = 0 ↔ acc.contains x = false
theorem Count.start : Count (fun _ => 0) [] 0 := ⟨fun _ => ⟨Int.le_refl _, by show (0 : Int) ≤ _; omega⟩, fun x => by simp⟩
def bump (f : List UInt8 → Int) (nm : List UInt8) : List UInt8 → Int := fun x => if x = nm then f nm + 1 else f x
theorem Count.step {f : List UInt8 → Int} {acc : List (List UInt8)} {n : Nat} (h : Count f acc n) (nm : List UInt8) : Count (bump f nm) (addN acc nm) (n + 1) := by
  refine ⟨fun x => ?_, fun x => ?_⟩
  · unfold bump
    have h1 := h.1 x
    have h2 := h.1 nm
    split
    · constructor <;> omega
    · constructor <;> omega
  · unfold bump addN
    have h1 := h.1 nm
    have h2 := h.2 x
    have h3 := h.2 nm
    by_cases e : x = nm
    · subst e
      rw [if_pos rfl]
      cases hc : acc.contains x
      · simp; omega
      · simp at hc
        simp [hc]; omega
    · rw [if_neg e, h2]
      cases hc : acc.contains nm
      · simp [e]
      · simp
end Go.Proofs.YtlhfbikhlfgjbaaDoor
/- A map from texts to counts that the call made; rows that stay where they are while it is written. -/
namespace Go.Proofs.YtlhfbikhlfgjbaaDoor
open Go.RowKit Go.WideMaps Go.Maps

theorem kStr : Keyed Tryd.prog 9 := string_keyed Tryd.underlying9
theorem zInt (w : World) : (zeroValue 3).run Tryd.prog w = .ok (.int .i64 0) w := by kernel_rfl
theorem keyStr {l : List UInt8} (h : l.length ≤ 1000000000) : keyOf Tryd.prog 9 (.string ⟨l.toArray⟩) = some (.string l) := by
  have := keyOf_string_mk (P := Tryd.prog) Tryd.underlying9 (s := ⟨l.toArray⟩) (by rw [Lib.size_eq]; show l.length ≤ _; unfold maxLen; omega)
  simpa using this
/-- Block M is a map of counts. -/
def Met (M n : Nat) (f : List UInt8 → Int) (w : World) : Prop :=
  ∃ D : DataW Unit, w.ownsMap Tryd.prog 9 (plainElem Tryd.prog 3) M n D ∧ IsMap D ∧ ∀ l : List UInt8, D.atKey (.string l) (.lit (.int .i64 0)) = .lit (.int .i64 (f l))
theorem Met.start (w : World) : Met w.heap.size 0 (fun _ => 0) (w.alloc (.map #[] 0)) := ⟨.map [], World.ownsMap_made _ _ _ _, isMap_empty, fun l => by simp [DataW.atKey]⟩
theorem Met.kept {M n : Nat} {f : List UInt8 → Int} {w w1 : World} {row : Option Nat} (h : Met M n f w) (hg : w.grownBy w1 row) (hne : some M ≠ row) : Met M n f w1 := by
  obtain ⟨D, h1, h2, h3⟩ := h
  exact ⟨D, h1.kept hg hne, h2, h3⟩
theorem grown_below {w w1 : World} (h : Below w.heap.size w w1) (row : Option Nat) : w.grownBy w1 row := ⟨h.os, h.tape, h.output, h.size, fun k hk _ => h.block k hk⟩
theorem Met.below {M n : Nat} {f : List UInt8 → Int} {w w1 : World} (h : Met M n f w) (hb : Below w.heap.size w w1) : Met M n f w1 := h.kept (grown_below hb none) (by simp)
theorem Met.map {M n : Nat} {f : List UInt8 → Int} {w : World} (h : Met M n f w) : ∃ es c, w.heap[M]? = some (.map es c) := by
  obtain ⟨D, ⟨es, c, h1, _⟩, _⟩ := h
  exact ⟨es, c, h1⟩
theorem not_map {w : World} {M : Nat} {e : TypeId} {size B n : Nat} {v : Value} {xs : List Value} {es : Array MapEntry} {c : Nat} (hm : w.heap[M]? = some (.map es c)) (h : w.ownsRow B e size v n xs) : some M ≠ v.ownBlock := by
  intro he
  rcases h.2 with ⟨rfl, _⟩ | ⟨g, cap, cur, rfl, _, hh, _⟩
  · simp [Value.ownBlock] at he
  · have : g = M := by simpa [Value.ownBlock] using he.symm
    subst this
    rw [hh] at hm; cases hm
theorem Met.far {M n B : Nat} {e : TypeId} {size m : Nat} {f : List UInt8 → Int} {w w1 : World} {v v' : Value} {xs : List Value} (h : Met M n f w) (ho : w.ownsRow B e size v m xs) (hf : Far w w1 v v') : Met M n f w1 := by
  obtain ⟨es, c, hm⟩ := h.map
  exact h.kept hf.1 (not_map hm ho)
theorem Rd.grown {A : Option Addr} {n size : Nat} {xs : List Value} {w w1 : World} {row : Option Nat} (h : Rd A n size xs w) (hg : w.grownBy w1 row) (hne : 0 < n → ∀ g o, A = some ⟨g, o, none⟩ → row ≠ some g) : Rd A n size xs w1 := by
  refine ⟨h.1, fun hn => ?_⟩
  obtain ⟨b, o, e, hl, hc⟩ := h.2 hn
  have hb := hg.block b hl (fun x => hne hn b o e x.symm)
  exact ⟨b, o, e, Nat.lt_of_lt_of_le hl hg.size, fun j u hu => (World.cell?_of_block (a := ⟨b, o + j, none⟩) hb).trans (hc j u hu)⟩
theorem rd_not_map {A : Option Addr} {n size : Nat} {xs : List Value} {w : World} {M : Nat} {es : Array MapEntry} {c : Nat} (h : Rd A n size xs w) (hs : 0 < size) (hm : w.heap[M]? = some (.map es c)) : 0 < n → ∀ g o, A = some ⟨g, o, none⟩ → some M ≠ some g := by
  intro hn g o e he
  obtain ⟨b, o', e', hl, hc⟩ := h.2 hn
  rw [e'] at e
  cases e
  cases he
  have hp : 0 < n * size := Nat.mul_pos hn hs
  have h0 := hc 0 (xs[0]'(by rw [h.1]; exact hp)) (List.getElem?_eq_getElem _)
  simp [World.cell?, hm] at h0
theorem own_grown {B : Nat} {e : TypeId} {size m : Nat} {v : Value} {xs : List Value} {w w1 : World} {row : Option Nat} (h : w.ownsRow B e size v m xs) (hg : w.grownBy w1 row) (hne : row ≠ v.ownBlock ∨ v.ownBlock = none) : w1.ownsRow B e size v m xs := by
  obtain ⟨h1, h2⟩ := h
  refine ⟨h1, ?_⟩
  rcases h2 with h2 | ⟨g, cap, cur, rfl, hb, hh, r⟩
  · exact Or.inl h2
  · refine Or.inr ⟨g, cap, cur, rfl, hb, ?_, r⟩
    have hlt : g < w.heap.size := by
      rcases Nat.lt_or_ge g w.heap.size with h' | h'
      · exact h'
      · simp [Array.getElem?_eq_none h'] at hh
    rw [hg.block g hlt (by
      rcases hne with h | h
      · exact fun x => h x.symm
      · simp [Value.ownBlock] at h)]
    exact hh
end Go.Proofs.YtlhfbikhlfgjbaaDoor
/- The walk of text.Same. -/
namespace Go.Proofs.YtlhfbikhlfgjbaaDoor
open Go.RowKit

set_option maxHeartbeats 1000000 in
theorem tsame_wide (a b : ByteArray) (w : World) (ha : a.size ≤ 140737488351232) (hb : b.size ≤ 140737488351232) :
    Calls Tryd.prog 76 #[.string a, .string b] w fun e w' => e = .returned (.bool (lowerL a.data.toList == lowerL b.data.toList)) ∧ Below w.heap.size w w' := by
  have hB := Below.refl w.heap.size w
  have k1 := fun w => lower_wide a w ha
  have k2 := fun w => lower_wide b w hb
  have t1 : ((⟨(lowerL a.data.toList).toArray⟩ : ByteArray).toList == (⟨(lowerL b.data.toList).toArray⟩ : ByteArray).toList) = (lowerL a.data.toList == lowerL b.data.toList) := by rw [Lib.toList_data, Lib.toList_data]
  generalize lowerL a.data.toList = x at *
  generalize lowerL b.data.toList = y at *
  have K1 := Lib.hid k1; have K2 := Lib.hid k2; have T1 := Lib.hid t1; clear k1 k2 t1
  go_enter Tryd.func76, Tryd.ntmps76
  go_wp2_with fail
  refine (K1.out _).mono ?_
  rintro e w1 ⟨rfl, hb1⟩
  go_wp2_with fail
  refine (K2.out _).mono ?_
  rintro e w2 ⟨rfl, hb2⟩
  go_wp2
  go_ret
  exact ⟨by rw [← T1.out]; rfl, bt hb1 hb2⟩
theorem tsame_any (a b : ByteArray) (w : World) (ha : a.size ≤ 1000000) (hb : b.size ≤ 1000000) :
    Calls Tryd.prog 76 #[.string a, .string b] w fun e w' => e = .returned (.bool (lowerL a.data.toList == lowerL b.data.toList)) ∧ Below w.heap.size w w' := tsame_wide a b w (by omega) (by omega)
end Go.Proofs.YtlhfbikhlfgjbaaDoor
/- The walk of fields.Values. -/
namespace Go.Proofs.YtlhfbikhlfgjbaaDoor
open Go.RowKit

set_option maxRecDepth 100000 in
set_option maxHeartbeats 2000000 in
theorem values_any (A : Option Addr) (n c : Nat) (xs : List Fld) (name : ByteArray) (w : World) (hr : Rd A n 2 (fldsV xs) w) (hn : n ≤ 1000000) (hs : ∀ f ∈ xs, f.1.length ≤ 1000000) (hname : name.size ≤ 1000000) :
    Calls Tryd.prog 67 #[.slice A n c, .string name] w (TextsPost w (valuesL xs name.data.toList)) := by
  have hB := Below.refl w.heap.size w
  obtain rfl := hr.fld
  have HR := Lib.hid hr; have HS := Lib.hid hs; clear hr hs
  go_enter Tryd.func67, Tryd.ntmps67
  go_wp2
  go_loopw [9, 4] (fun i out wr => ∃ k : Nat, k ≤ xs.length ∧ i = .int .i64 k ∧ Hid (OwnS w.heap.size out (valuesL (xs.take k) name.data.toList) wr) ∧ Below w.heap.size w wr) (fun i _ _ => xs.length - (intOf i).toNat)
  case atStart => exact ⟨0, Nat.zero_le _, rfl, Lib.hid (OwnS.nil _ _), hB⟩
  case round =>
    clear hB
    obtain ⟨k, hk, rfl, HO, hbw⟩ := hrel
    by_cases hlt : k < xs.length
    · obtain ⟨b, o, rfl, hl, c1, c2⟩ := (HR.out.below hbw).fld_at (k := k) (by omega)
      have hf1 := HS.out xs[k] (List.getElem_mem _)
      have hsn := valuesL_snoc (xs.take k) xs[k] name.data.toList
      rw [← take_snocL xs k (by omega)] at hsn
      have k1 := fun w => tsame_any ⟨(xs[k]).1.toArray⟩ name w (by rw [Lib.size_eq]; exact hf1) hname
      have hvl := valuesL_le (xs.take k) name.data.toList
      rw [List.length_take] at hvl
      generalize xs[k] = f at *
      obtain ⟨f1, f2⟩ := f
      simp only at c1 c2 k1 hsn
      have Hsn := Lib.hid hsn; have K1 := Lib.hid k1; clear hsn k1 hf1
      cases hq : (lowerL f1 == lowerL name.data.toList)
      · have hnx := Hsn.out
        rw [hq, if_neg (by decide)] at hnx
        have HN : Hid (OwnS w.heap.size u4 (valuesL (xs.take (k + 1)) name.data.toList) wr) := by rw [hnx]; exact HO
        have Hq := Lib.hid hq; clear hnx hq Hsn
        go_wp2_with (go_at_call 76; refine (K1.out _).mono ?_; rintro e w1 ⟨rfl, hb1⟩; rw [Hq.out])
        have hb2 : Below w.heap.size w w1 := (hbw.alloc hbw.size _).trans (hb1.mono (by have := hbw.size; simp; omega))
        go_roundw
        case rel => exact ⟨k + 1, by omega, by go_num, Lib.hid ((HN.out.below ((Below.refl _ wr).alloc (Nat.le_refl _) _)).below hb1), hb2⟩
        case measure => simp [intOf]; omega
      · have hnx := Hsn.out
        rw [hq, if_pos rfl] at hnx
        have Hnx := Lib.hid hnx
        have Hq := Lib.hid hq; clear hnx hq Hsn
        go_wp2_with fail
        refine (K1.out _).mono ?_
        rintro e w1 ⟨rfl, hb1⟩
        rw [Hq.out]
        have d2 := hb1.cell (p := ⟨wr.heap.size, 1, none⟩) (by simp)
        simp [go_sem] at d2
        have hb2 : Below w.heap.size w w1 := (hbw.alloc hbw.size _).trans (hb1.mono (by have := hbw.size; simp; omega))
        have hO1 := (HO.out.below ((Below.refl _ wr).alloc (Nat.le_refl _) _)).below hb1
        have HO1 := Lib.hid hO1; clear hO1 HO
        go_wp2_with (at_builtin; refine app_str w.heap.size f2 HO1.out hb2.size (by omega) rfl _ _ rfl rfl rfl ?_)
        intro v' w2 hO2 hb3 _
        have hb4 := hb2.trans hb3
        have HO2 : Hid (OwnS w.heap.size v' (valuesL (xs.take (k + 1)) name.data.toList) w2) := by rw [Hnx.out]; exact Lib.hid hO2
        clear hO2 hb3 hb2 hb1 d2
        go_wp2
        go_roundw
        case rel => exact ⟨k + 1, by omega, by go_num, HO2, hb4⟩
        case measure => simp [intOf]; omega
    · have hke : k = xs.length := by omega
      subst hke
      have ho := HO.out
      rw [List.take_length] at ho
      obtain ⟨a, cap, rfl⟩ := ho.shape
      have HO1 := Lib.hid ho; clear ho HO
      go_wp2
      go_ret
      exact ⟨a, cap, rfl, HO1.out, hbw⟩
end Go.Proofs.YtlhfbikhlfgjbaaDoor
/- The walk of text.Split: its closure first. -/
namespace Go.Proofs.YtlhfbikhlfgjbaaDoor
open Go.RowKit

/-- What the closure stands on: the text, where the piece began, and the pieces so far. -/
structure TakeSt (B : Nat) (s : ByteArray) (f : Nat) (ls : List (List UInt8)) (w : World) : Prop where
  text : w.heap[B]? = some (.cells #[.string s] 9 (0, 0))
  list : ∃ v, w.heap[B + 1]? = some (.cells #[v] 34 (0, 0)) ∧ OwnS (B + 3) v ls w
  start : w.heap[B + 2]? = some (.cells #[.int .i64 f] 3 (0, 0))

def pieceOf (s : ByteArray) (f t : Nat) : List UInt8 := trimL ((s.data.toList.drop f).take (t - f))

set_option maxRecDepth 100000 in
set_option maxHeartbeats 2000000 in
theorem take_any (B : Nat) (s : ByteArray) (f t : Nat) (ls : List (List UInt8)) (w : World) (h : TakeSt B s f ls w) (hft : f ≤ t) (ht : t ≤ s.size) (hs : s.size ≤ 1000000) (hn : ls.length ≤ 1000001) :
    Calls Tryd.prog 62 #[.int .i64 t, .pointer (some ⟨B, 0, none⟩), .pointer (some ⟨B + 2, 0, none⟩), .pointer (some ⟨B + 1, 0, none⟩)] w
      fun e w' => e = .returned (.tuple #[]) ∧ TakeSt B s (t + 1) (addP ls (pieceOf s f t)) w' ∧ Below B w w' := by
  obtain ⟨h1, ⟨v, h2, hown⟩, h3⟩ := h
  obtain ⟨c1, z1, l1⟩ := of_heap h1 0
  obtain ⟨c2, z2, l2⟩ := of_heap h2 0
  obtain ⟨c3, z3, l3⟩ := of_heap h3 0
  simp at c1 c2 c3
  have hex : (s.extract f t).data.toList = (s.data.toList.drop f).take (t - f) := Lib.extract_data s f t
  have hexs : (s.extract f t).size ≤ 1000000 := by rw [ByteArray.size_extract]; omega
  have k1 := fun w => trim_any (s.extract f t) w hexs
  rw [hex] at k1
  have hp : trimL ((s.data.toList.drop f).take (t - f)) = pieceOf s f t := rfl
  rw [hp] at k1
  have hpl : (pieceOf s f t).length ≤ 1000000 := by
    have h1 := trimL_le ((s.data.toList.drop f).take (t - f))
    rw [hp] at h1
    have h2 : ((s.data.toList.drop f).take (t - f)).length ≤ s.data.toList.length := by rw [List.length_take, List.length_drop]; omega
    rw [← Lib.size_eq] at h2; omega
  generalize pieceOf s f t = p at *
  have K1 := Lib.hid k1; have HO := Lib.hid hown; have H1 := Lib.hid h1; have H2 := Lib.hid h2; have H3 := Lib.hid h3
  clear k1 hown h1 h2 h3 hex hp
  obtain ⟨i0, hi, hz0, hz1, hz2⟩ := info_parts uStr
  cases he : p.isEmpty
  · have hadd : addP ls p = ls ++ [p] := by unfold addP; rw [he]; rfl
    have HA := Lib.hid hadd; clear hadd
    go_enter Tryd.func62, Tryd.ntmps62
    go_wp2_with (first | (go_at_call 63; refine (K1.out _).mono ?_; rintro e w1 ⟨rfl, hb1⟩; have d2 := (hb1.cell (p := ⟨B + 1, 0, none⟩) l2).trans c2; have d3 := (hb1.cell (p := ⟨B + 2, 0, none⟩) l3).trans c3; have y2 := (hb1.frozen (p := ⟨B + 1, 0, none⟩) l2).trans z2; have y3 := (hb1.frozen (p := ⟨B + 2, 0, none⟩) l3).trans z3; have HO1 := Lib.hid (own_below HO.out hb1)) | (at_builtin; refine wpList_append_own _ rfl _ _ 34 rfl (B + 3) 9 i0 (.string ByteArray.empty) 1 16 Tryd.underlying34 hi hz0 hz1 hz2 rfl (by decide) _ _ _ rfl (HO1.out.alloc _) ⟨w1.heap.size, 0, none⟩ 1 1 [.string ⟨p.toArray⟩] rfl rfl ?c1 ?c2 ?c3 ?c4 ?c5 ?_))
    case c1 =>
      intro j u hj
      match j, hj with
      | 0, hj => simp at hj; subst hj; simp [Addr.add]
    case c2 => intro u hu; simp at hu; subst hu; rfl
    case c3 => unfold maxLen; omega
    case c4 => omega
    case c5 => have := hb1.size; simp; omega
    intro v' w2 hown' hgrow _
    have hkeep : ∀ b, b < B + 3 → b < w.heap.size → w2.heap[b]? = w.heap[b]? := by
      intro b hb3 hbw
      have h1 := hb1.size
      rw [hgrow.block b (by simp; omega) (fun e => by have := (HO1.out.lt b e.symm).1; omega), Below.heap_alloc _ _ _ (by omega), hb1.block b hbw]
    have q1 := (hkeep B (by omega) l1).trans H1.out
    have q2 := (hkeep (B + 1) (by omega) l2).trans H2.out
    have q3 := (hkeep (B + 2) (by omega) l3).trans H3.out
    obtain ⟨e2, f2, _⟩ := of_heap q2 0
    obtain ⟨e3, f3, _⟩ := of_heap q3 0
    simp at e2 e3
    obtain ⟨g, cap, rfl⟩ : ∃ g cap, v' = .slice (some ⟨g, 0, none⟩) (ls.length + 1) cap := by
      rcases hown'.2 with ⟨_, h0⟩ | ⟨g, cap, cur, hv, _⟩
      · omega
      · exact ⟨g, cap, hv⟩
    have hbelow : Below B w w2 := ((hb1.mono (by omega)).alloc (by have := hb1.size; omega) _).grown hgrow (by have := hb1.size; simp; omega) (fun k hk => by have := (HO1.out.lt k hk).1; omega)
    have HQ1 := Lib.hid q1; have HQ2 := Lib.hid q2; have HQ3 := Lib.hid q3; have HN := Lib.hid hown'; have HB := Lib.hid hbelow
    clear q1 q2 q3 hown' hkeep hgrow hbelow hb1 d2 d3 y2 y3 c1 c2 c3
    go_wp2
    go_end0
    refine ⟨rfl, ⟨?_, ⟨_, heap_set2 (by omega) HQ2.out, ?_⟩, ?_⟩, (HB.out.setCell (p := ⟨B + 1, 0, none⟩) (by show B ≤ B + 1; omega) _).setCell (p := ⟨B + 2, 0, none⟩) (by show B ≤ B + 2; omega) _⟩
    · rw [Below.heap_setCell _ _ _ _ (by show B ≠ B + 2; omega), Below.heap_setCell _ _ _ _ (by show B ≠ B + 1; omega)]; exact HQ1.out
    · rw [HA.out]
      refine ownsRow_setCell_below (ownsRow_setCell_below ?_ (by show B + 1 < B + 3; omega) _) (by show B + 2 < B + 3; omega) _
      rw [List.length_append, List.length_singleton, List.map_append]; exact HN.out
    · exact heap_set (by rw [Below.heap_setCell _ _ _ _ (by show B + 2 ≠ B + 1; omega)]; exact HQ3.out)
  · have hadd : addP ls p = ls := by unfold addP; rw [he]; rfl
    have HA := Lib.hid hadd; clear hadd
    go_enter Tryd.func62, Tryd.ntmps62
    go_wp2_with (go_at_call 63; refine (K1.out _).mono ?_; rintro e w1 ⟨rfl, hb1⟩; have d3 := (hb1.cell (p := ⟨B + 2, 0, none⟩) l3).trans c3; have y3 := (hb1.frozen (p := ⟨B + 2, 0, none⟩) l3).trans z3)
    go_end0
    refine ⟨rfl, ⟨?_, ⟨v, ?_, ?_⟩, ?_⟩, (hb1.mono (by omega)).setCell (p := ⟨B + 2, 0, none⟩) (by show B ≤ B + 2; omega) _⟩
    · rw [Below.heap_setCell _ _ _ _ (by show B ≠ B + 2; omega), hb1.block B l1]; exact H1.out
    · rw [Below.heap_setCell _ _ _ _ (by show B + 1 ≠ B + 2; omega), hb1.block (B + 1) l2]; exact H2.out
    · rw [HA.out]; exact ownsRow_setCell_below (own_below HO.out hb1) (by show B + 2 < B + 3; omega) _
    · exact heap_set (by rw [hb1.block (B + 2) l3]; exact H3.out)

def seg (s : ByteArray) (f k : Nat) : List UInt8 := (s.data.toList.drop f).take (k - f)
theorem seg_snoc (s : ByteArray) (f k : Nat) (hf : f ≤ k) (h : k < s.size) : seg s f (k + 1) = seg s f k ++ [s[k]] := by
  unfold seg
  rw [show k + 1 - f = (k - f) + 1 from by omega, List.take_succ_eq_append_getElem (by rw [List.length_drop, ← Lib.size_eq]; omega)]
  congr 2
  rw [List.getElem_drop, at_list s k h]; congr 1; omega
theorem seg_self (s : ByteArray) (k : Nat) : seg s k k = [] := by unfold seg; rw [Nat.sub_self]; rfl
/-- One step of the scan, by what the byte is. -/
theorem spl_step (sep : UInt8) (o b : Bool) (cur : List UInt8) (ls : List (List UInt8)) (c : UInt8) (r : List UInt8) (x92 x34 xs : Bool) (h1 : ((c.toNat : Int) == 92) = x92) (h2 : ((c.toNat : Int) == 34) = x34) (h3 : ((c.toNat : Int) == (sep.toNat : Int)) = xs) :
    splP sep o b cur ls (c :: r) = bif b then splP sep o false (cur ++ [c]) ls r
    else bif o && x92 then splP sep o true (cur ++ [c]) ls r
    else bif x34 then splP sep (!o) false (cur ++ [c]) ls r
    else bif xs && !o then splP sep o false [] (addP ls (trimL cur)) r
    else splP sep o false (cur ++ [c]) ls r := by
  have e1 := (beq_cast c.toNat 92).trans h1
  have e2 := (beq_cast c.toNat 34).trans h2
  have e3 := (beq_cast c.toNat sep.toNat).trans h3
  rw [splP, e1, e2, e3]

/-- What Split hands back. -/
def SplitPost (w : World) (r : List (List UInt8) × Int) (e : Ending) (w' : World) : Prop :=
  ∃ a cap, e = .returned (.tuple #[.slice a r.1.length cap, .int .i64 r.2]) ∧ OwnS w.heap.size (.slice a r.1.length cap) r.1 w' ∧ Below w.heap.size w w'
theorem SplitPost.none {w w' : World} {n : Int} (h : Below w.heap.size w w') : SplitPost w ([], n) (.returned (.tuple #[.slice none 0 0, .int .i64 n])) w' :=
  ⟨Option.none, 0, rfl, World.ownsRow_nil _ _ _ _, h⟩

set_option maxRecDepth 100000 in
set_option maxHeartbeats 4000000 in
theorem split_any (s : ByteArray) (sep : UInt8) (w : World) (hs : s.size ≤ 1000000) :
    Calls Tryd.prog 39 #[.string s, .int .u8 sep.toNat] w (SplitPost w (splitL sep s.data.toList)) := by
  cases q1 : ((sep.toNat : Int) == 34)
  · cases q2 : ((sep.toNat : Int) == 92)
    · have hsp : splitL sep s.data.toList = splitE (splP sep false false [] [] s.data.toList) := by
        unfold splitL; rw [(beq_cast sep.toNat 34).trans q1, (beq_cast sep.toNat 92).trans q2]; rfl
      rw [hsp]; clear hsp
      obtain ⟨tot, htot⟩ : ∃ t, splP sep false false [] [] s.data.toList = t := ⟨_, rfl⟩
      rw [htot]
      have hcnt : ∀ ps, tot = some ps → ps.length ≤ 1000001 := by
        intro ps e
        have := spl_count sep s.data.toList false false [] [] ps (htot.trans e)
        rw [← Lib.size_eq] at this; simp at this; omega
      have HT := Lib.hid htot; have HC := Lib.hid hcnt; clear htot hcnt
      have hB3 : Below w.heap.size w (((w.alloc (.cells #[.string s] 9)).alloc (.cells #[.slice none 0 0] 34)).alloc (.cells #[.int .i64 0] 3)) := (((Below.refl _ w).alloc (Nat.le_refl _) _).alloc (by simp) _).alloc (by simp; omega) _
      have hst : TakeSt w.heap.size s 0 [] (((w.alloc (.cells #[.string s] 9)).alloc (.cells #[.slice none 0 0] 34)).alloc (.cells #[.int .i64 0] 3)) := by
        refine ⟨?_, ⟨.slice none 0 0, ?_, World.ownsRow_nil _ _ _ _⟩, ?_⟩
        · rw [Below.heap_alloc _ _ _ (by simp; omega), Below.heap_alloc _ _ _ (by simp)]; exact heap_new _ _ _ rfl
        · rw [Below.heap_alloc _ _ _ (by simp)]; exact heap_new _ _ _ (by simp)
        · exact heap_new _ _ _ (by simp)
      have HB3 := Lib.hid hB3; have HST := Lib.hid hst; clear hB3 hst
      go_enter Tryd.func39, Tryd.ntmps39
      go_wp2
      go_loopw [22, 8, 9] (fun i o b wr => ∃ (k : Nat) (oo bb : Bool) (f : Nat) (ls : List (List UInt8)), k ≤ s.size ∧ i = .int .i64 k ∧ o = .bool oo ∧ b = .bool bb ∧ f ≤ k ∧ (bb = true → oo = true) ∧ ls.length ≤ k ∧ TakeSt w.heap.size s f ls wr ∧ Below w.heap.size w wr ∧ Hid (splP sep oo bb (seg s f k) ls (s.data.toList.drop k) = tot)) (fun i _ _ _ => s.size - (intOf i).toNat)
      case atStart => exact ⟨0, false, false, 0, [], Nat.zero_le _, rfl, rfl, rfl, Nat.le_refl _, (fun h => absurd h (by decide)), by simp, HST.out, HB3.out, by show _ = _; rw [seg_self]; exact HT.out⟩
      case round =>
        clear HB3 HST
        obtain ⟨k, oo, bb, f, ls, hk, rfl, rfl, rfl, hfk, hbo, hls, hst, hbw, Htot⟩ := hrel
        obtain ⟨ct, _, lt⟩ := of_heap hst.text 0
        simp at ct
        have HST := Lib.hid hst; clear hst
        have Hbo := Lib.hid hbo; clear hbo
        by_cases hlt : k < s.size
        · have hd := drop_cons s k hlt
          have hsg := seg_snoc s f k hfk hlt
          cases x92 : ((s[k].toNat : Int) == 92) <;> cases x34 : ((s[k].toNat : Int) == 34) <;> cases xs : ((s[k].toNat : Int) == (sep.toNat : Int))
          all_goals
            have hstep := Htot.out
            rw [hd, spl_step sep oo bb _ ls s[k] _ _ _ _ x92 x34 xs, ← hsg] at hstep
          all_goals clear hd hsg
          all_goals try (exfalso; simp at x92 x34 xs q1 q2; omega; done)
          all_goals cases bb <;> cases oo
          all_goals try (exact absurd (Hbo.out rfl) (by decide))
          all_goals simp only [cond_true, cond_false, Bool.and_true, Bool.and_false, Bool.not_true, Bool.not_false] at hstep
          all_goals first
            | (with_reducible (have HN0 : splP sep _ _ (seg s f (k + 1)) ls (List.drop (k + 1) s.data.toList) = tot := hstep)
               have HN := Lib.hid HN0
               clear HN0 hstep
               go_wp2
               go_roundw
               case rel => exact ⟨k + 1, _, _, f, ls, by omega, by go_num, rfl, rfl, by omega, (fun h => by first | rfl | exact absurd h (by decide)), by omega, HST.out, hbw, HN⟩
               case measure => simp [intOf]; omega)
            | (have hp : trimL (seg s f k) = pieceOf s f k := rfl
               rw [hp, ← seg_self s (k + 1)] at hstep
               have HN := Lib.hid hstep
               clear hstep hp
               have hal := addP_le ls (pieceOf s f k)
               go_wp2_with (go_at_call 62; refine (take_any w.heap.size s f k ls _ HST.out hfk (by omega) hs (by omega)).mono ?_; rintro e w2 ⟨rfl, hst2, hb2⟩)
               have HST2 := Lib.hid hst2; clear hst2
               go_wp2
               go_roundw
               case rel => exact ⟨k + 1, _, _, k + 1, addP ls (pieceOf s f k), by omega, by go_num, rfl, rfl, by omega, (fun h => by first | rfl | exact absurd h (by decide)), by omega, HST2.out, hbw.trans hb2, HN⟩
               case measure => simp [intOf]; omega)
        · have hke : k = s.size := by omega
          subst hke
          have hend := Htot.out
          rw [drop_all s s.size (Nat.le_refl _)] at hend
          cases oo
          · have hp : trimL (seg s f s.size) = pieceOf s f s.size := rfl
            simp only [splP, cond_false, hp] at hend
            subst hend
            have hcn := HC.out _ rfl
            have Hcn := Lib.hid hcn; clear hcn
            clear HT Htot
            have hal := addP_le ls (pieceOf s f s.size)
            go_wp2_with fail
            refine (take_any w.heap.size s f s.size ls _ HST.out hfk (Nat.le_refl _) hs (by omega)).mono ?_
            rintro e w2 ⟨rfl, hst2, hb2⟩
            generalize addP ls (pieceOf s f s.size) = ps at *
            obtain ⟨h1, ⟨v, h2, hown⟩, h3⟩ := hst2
            obtain ⟨a, cap, rfl⟩ := hown.shape
            obtain ⟨c2, _, l2⟩ := of_heap h2 0
            simp at c2
            have hB := hbw.trans hb2
            have HO := Lib.hid hown
            clear hown h1 h2 h3 hb2
            cases hlen : decide (64 < ps.length)
            · have hse : splitE (some ps) = (ps, 0) := by unfold splitE; simp only [hlen, cond_false]
              have HSE := Lib.hid hse
              have t1 : decide ((64 : Int) < (ps.length : Int)) = false := by simp at hlen ⊢; omega
              clear hlen hse
              go_wp2
              go_ret2
              rw [HSE.out]
              exact ⟨a, cap, rfl, ⟨HO.out.1, by
                rcases HO.out.2 with h | ⟨g, cp, cur, hv, hg, r⟩
                · exact Or.inl h
                · exact Or.inr ⟨g, cp, cur, hv, by omega, r⟩⟩, hB⟩
            · have hse : splitE (some ps) = ([], 3) := by unfold splitE; simp only [hlen, cond_true]
              have HSE := Lib.hid hse
              have t1 : decide ((64 : Int) < (ps.length : Int)) = true := by simp at hlen ⊢; omega
              clear hlen hse
              go_wp2
              go_ret2
              rw [HSE.out]
              exact SplitPost.none hB
          · simp only [splP, cond_true] at hend
            subst hend
            clear HT Htot HC
            go_wp2
            go_ret2
            exact SplitPost.none hbw
    · have hsp : splitL sep s.data.toList = ([], 2) := by unfold splitL; rw [(beq_cast sep.toNat 34).trans q1, (beq_cast sep.toNat 92).trans q2]; rfl
      rw [hsp]; clear hsp
      go_enter Tryd.func39, Tryd.ntmps39
      go_wp2
      go_ret2
      exact SplitPost.none ((Below.refl _ w).alloc (Nat.le_refl _) _)
  · have hsp : splitL sep s.data.toList = ([], 2) := by unfold splitL; rw [(beq_cast sep.toNat 34).trans q1]; rfl
    rw [hsp]; clear hsp
    go_enter Tryd.func39, Tryd.ntmps39
    go_wp2
    go_ret2
    exact SplitPost.none ((Below.refl _ w).alloc (Nat.le_refl _) _)
end Go.Proofs.YtlhfbikhlfgjbaaDoor
/- The walks of text.word, text.Token. -/
namespace Go.Proofs.YtlhfbikhlfgjbaaDoor
open Go.RowKit

theorem mark_ix (c : UInt8) : decide (0 ≤ Lib.indexByte markL c) = markL.contains c := by
  have key : ∀ (l : List UInt8), decide (0 ≤ Lib.indexByte l c) = l.contains c := by
    intro l
    rw [Bool.eq_iff_iff]
    simp only [decide_eq_true_eq, List.contains_iff_mem]
    constructor
    · intro h
      obtain ⟨o, ho⟩ := Int.eq_ofNat_of_zero_le h
      exact List.mem_of_getElem? (Lib.indexByte_some ho).1
    · intro h
      obtain ⟨k, hk⟩ := List.mem_iff_getElem?.1 h
      have h1 := Lib.indexByte_ge l c
      have h2 : Lib.indexByte l c ≠ -1 := fun e => Lib.indexByte_none e k hk
      omega
  exact key markL
def letterI (n : Int) : Bool := (decide (97 ≤ n) && decide (n ≤ 122)) || (decide (65 ≤ n) && decide (n ≤ 90)) || (decide (48 ≤ n) && decide (n ≤ 57))
theorem letter_eq (c : UInt8) : letterb c = letterI c.toNat := by
  unfold letterb letterI; rw [Bool.eq_iff_iff]; simp; omega

set_option maxHeartbeats 2000000 in
theorem word_any (c : UInt8) (w : World) :
    Calls Tryd.prog 30 #[.int .u8 c.toNat] w fun e w' => e = .returned (.bool (wordb c)) ∧ w = w' := by
  have hi := Tryd.strings_IndexByte ⟨markL.toArray⟩ (c.toNat : Int)
  rw [show (c.toNat : Int).toNat.toUInt8 = c from by simp] at hi
  rw [show (⟨markL.toArray⟩ : ByteArray).data.toList = markL from rfl] at hi
  have hm := mark_ix c
  have hw : wordb c = (letterI c.toNat || markL.contains c) := by unfold wordb; rw [letter_eq]
  have hu := c.toNat_lt
  generalize Lib.indexByte markL c = ix at *
  generalize c.toNat = n at *
  generalize markL.contains c = mm at *
  rw [hw]
  have HI := Lib.hid hi
  clear hi hw
  unfold letterI
  cases h1 : decide (97 ≤ (n : Int)) <;> cases h2 : decide ((n : Int) ≤ 122)
  · exfalso; simp at h1 h2; omega
  · cases h3 : decide (65 ≤ (n : Int)) <;> cases h4 : decide ((n : Int) ≤ 90)
    · exfalso; simp at h3 h4; omega
    · cases h5 : decide (48 ≤ (n : Int)) <;> cases h6 : decide ((n : Int) ≤ 57)
      · exfalso; simp at h5 h6; omega
      all_goals
        go_enter Tryd.func30, Tryd.ntmps30
        go_wp2_with (go_at_call 50; refine (HI.out _).mono ?_; rintro e w' ⟨rfl, rfl⟩)
        go_ret
        first | exact ⟨by rw [← hm]; rfl, rfl⟩ | exact ⟨rfl, rfl⟩
    · have h5 : decide (48 ≤ (n : Int)) = true := by simp at h3 ⊢; omega
      have h6 : decide ((n : Int) ≤ 57) = false := by simp at h3 ⊢; omega
      rw [h5, h6]
      go_enter Tryd.func30, Tryd.ntmps30
      go_wp2_with (go_at_call 50; refine (HI.out _).mono ?_; rintro e w' ⟨rfl, rfl⟩)
      go_ret
      first | exact ⟨by rw [← hm]; rfl, rfl⟩ | exact ⟨rfl, rfl⟩
    · go_enter Tryd.func30, Tryd.ntmps30
      go_wp2_with (go_at_call 50; refine (HI.out _).mono ?_; rintro e w' ⟨rfl, rfl⟩)
      go_ret
      first | exact ⟨by rw [← hm]; rfl, rfl⟩ | exact ⟨rfl, rfl⟩
  · have h3 : decide (65 ≤ (n : Int)) = true := by simp at h1 ⊢; omega
    have h4 : decide ((n : Int) ≤ 90) = false := by simp at h1 ⊢; omega
    have h5 : decide (48 ≤ (n : Int)) = true := by simp at h1 ⊢; omega
    have h6 : decide ((n : Int) ≤ 57) = false := by simp at h1 ⊢; omega
    rw [h3, h4, h5, h6]
    go_enter Tryd.func30, Tryd.ntmps30
    go_wp2_with (go_at_call 50; refine (HI.out _).mono ?_; rintro e w' ⟨rfl, rfl⟩)
    go_ret
    first | exact ⟨by rw [← hm]; rfl, rfl⟩ | exact ⟨rfl, rfl⟩
  · go_enter Tryd.func30, Tryd.ntmps30
    go_wp2_with (go_at_call 50; refine (HI.out _).mono ?_; rintro e w' ⟨rfl, rfl⟩)
    go_ret
    first | exact ⟨by rw [← hm]; rfl, rfl⟩ | exact ⟨rfl, rfl⟩

set_option maxHeartbeats 2000000 in
theorem token_wide (s : ByteArray) (w : World) (hs : s.size ≤ 140737488351232) :
    Calls Tryd.prog 10 #[.string s] w fun e w' => e = .returned (.bool (tokenL s.data.toList)) ∧ w = w' := by
  have hB : ∀ k (h : k < s.size), wordb s[k] = false → tokenL s.data.toList = false := by
    intro k h hk; unfold tokenL; rw [all_bad wordb s k h hk]; rfl
  have hQ : ∀ k, (s.data.toList.take k).all wordb = true → s.size ≤ k → tokenL s.data.toList = !s.data.toList.isEmpty := by
    intro k h hk; rw [take_all s k hk] at h; unfold tokenL; rw [h]; rfl
  have HB := Lib.hid hB; have HQ := Lib.hid hQ
  clear hB hQ
  generalize tokenL s.data.toList = out at *
  go_enter Tryd.func10, Tryd.ntmps10
  go_wp2
  go_loop [6] (fun i => ∃ k : Nat, k ≤ s.size ∧ i = .int .i64 k ∧ Hid ((s.data.toList.take k).all wordb = true)) (fun i => s.size - (intOf i).toNat)
  case atStart => exact ⟨0, Nat.zero_le _, rfl, by show _ = _; simp⟩
  case round =>
    obtain ⟨k, hk, rfl, Hall⟩ := hrel
    by_cases hlt : k < s.size
    · cases hp : wordb s[k]
      · have hf := HB.out k hlt hp
        have Hf := Lib.hid hf; have Hp := Lib.hid hp; clear hf hp
        go_wp2_with (go_at_call 30; refine (word_any _ _).mono ?_; rintro e w2 ⟨rfl, rfl⟩; rw [Hp.out])
        go_ret
        exact ⟨by rw [Hf.out]; rfl, rfl⟩
      · have hn : (s.data.toList.take (k + 1)).all wordb = true := by rw [all_snoc wordb s k hlt, Hall.out, hp]; rfl
        have Hn := Lib.hid hn; have Hp := Lib.hid hp; clear hn hp
        go_wp2_with (go_at_call 30; refine (word_any _ _).mono ?_; rintro e w2 ⟨rfl, rfl⟩; rw [Hp.out])
        go_round
        case rel => exact ⟨k + 1, by omega, by go_num, Hn⟩
        case measure => simp [intOf]; omega
    · have hf := HQ.out k Hall.out (by omega)
      have Hf := Lib.hid hf; clear hf
      go_wp2
      go_ret
      exact ⟨by rw [Hf.out]; simp [Lib.toList_data], rfl⟩
theorem token_any (s : ByteArray) (w : World) (hs : s.size ≤ 1000000) :
    Calls Tryd.prog 10 #[.string s] w fun e w' => e = .returned (.bool (tokenL s.data.toList)) ∧ w = w' := token_wide s w (by omega)
end Go.Proofs.YtlhfbikhlfgjbaaDoor
/- The walk of vary.Names. -/
namespace Go.Proofs.YtlhfbikhlfgjbaaDoor
open Go.RowKit Go.WideMaps Go.Maps

/-- A reply, by value. -/
def repV (st : Int) (re : ByteArray) (mi : Int) (fa : Option Addr) (fn fc : Nat) (bo : ByteArray) : Value := .agg #[.int .i64 st, .string re, .int .i64 mi, .slice fa fn fc, .string bo]
def NamesPost (w : World) (o : Option (List (List UInt8))) (e : Ending) (w' : World) : Prop :=
  ∃ a cap, e = .returned (.tuple #[.slice a (optL o).length cap, .bool o.isSome]) ∧ OwnS w.heap.size (.slice a (optL o).length cap) (optL o) w' ∧ Below w.heap.size w w'
theorem NamesPost.none {w w' : World} (h : Below w.heap.size w w') : NamesPost w Option.none (.returned (.tuple #[.slice Option.none 0 0, .bool false])) w' := ⟨Option.none, 0, rfl, OwnS.nil _ _, h⟩
def tailO (o : Option (List (List UInt8))) (rest : List (List UInt8)) : Option (List (List UInt8)) := match o with | none => none | some a => namesVs a rest

set_option maxRecDepth 100000 in
set_option maxHeartbeats 4000000 in
theorem vnames_any (st : Int) (re : ByteArray) (mi : Int) (A : Option Addr) (n c : Nat) (bo : ByteArray) (xs : List Fld) (w : World) (hr : Rd A n 2 (fldsV xs) w) (hn : n ≤ 1000) (hs : ∀ f ∈ xs, f.1.length ≤ 1000000 ∧ f.2.length ≤ 1000000) :
    Calls Tryd.prog 64 #[repV st re mi A n c bo] w (NamesPost w (namesO xs)) := by
  have hmm := @run_makeMap Tryd.prog
  obtain ⟨W0, hW0⟩ : ∃ W0, w.alloc (.cells #[.int .i64 st, .string re, .int .i64 mi, .slice A n c, .string bo] 106) = W0 := ⟨_, rfl⟩
  have hB0 : Below w.heap.size w W0 := by rw [← hW0]; exact (Below.refl w.heap.size w).alloc (Nat.le_refl _) _
  have hV0 : W0.cell? ⟨w.heap.size, 3, none⟩ = some (.slice A n c) := by rw [← hW0]; exact World.cell?_alloc_mark w _ _ _ 3
  have hz0 : W0.heap.size = w.heap.size + 1 := by rw [← hW0]; simp
  have k0 := fun W (hb : Below w.heap.size w W) => values_any A n c xs ⟨varyW.toArray⟩ W (hr.below hb) (by omega) (fun f hf => (hs f hf).1) (by decide)
  have hvl := valuesL_le xs varyW
  have hxn := hr.fld
  have hvb : ∀ v ∈ valuesL xs varyW, v.length ≤ 1000000 := by
    intro v hv
    obtain ⟨f, hf, e⟩ := valuesL_mem hv
    rw [← e]; exact (hs f hf).2
  have hvn : (valuesL xs varyW).length ≤ 1000 := by omega
  simp only at k0
  obtain ⟨tot, htot⟩ : ∃ t, namesO xs = t := ⟨_, rfl⟩
  rw [htot]
  have ht2 : namesVs [] (valuesL xs varyW) = tot := htot
  clear hvl hxn hr hs htot
  generalize valuesL xs varyW = vs at *
  have K0 := Lib.hid k0; have HVB := Lib.hid hvb; have HT := Lib.hid ht2; have HW0 := Lib.hid hW0; have HZ0 := Lib.hid hz0; clear k0 hvb ht2 hW0 hz0
  unfold repV
  go_enter Tryd.func64, Tryd.ntmps64
  go_upto_region 1 with (fail)
  rw [HW0.out]
  have hV1 := (World.cell?_alloc_lt W0 (.map #[] 0) ⟨w.heap.size, 3, none⟩ (by show w.heap.size < W0.heap.size; have := HZ0.out; omega)).trans hV0
  go_wp2_with fail
  clear hmm hV1
  have hB1 := hB0.alloc hB0.size (.map #[] 0)
  refine (K0.out _ hB1).mono ?_
  rintro e w2 ⟨va, vc, rfl, ho2, hb2⟩
  have hMet0 := (Met.start W0).below hb2
  have HV := Lib.hid ho2.rd.2
  have hB2 := hB1.trans (hb2.mono hB1.size)
  have hM : W0.heap.size < w2.heap.size := by have := hb2.size; simp at this; omega
  have hMw : w.heap.size ≤ W0.heap.size := hB0.size
  clear ho2 hb2 hB1 hB0 hV0
  generalize W0.heap.size = M at *
  have hnm : 0 < vs.length → ∀ g o, va = some ⟨g, o, none⟩ → some M ≠ some g := by
    obtain ⟨es, cl, hm⟩ := hMet0.map
    exact rd_not_map HV.out (by decide) hm
  have HM0 := Lib.hid hMet0; have HNM := Lib.hid hnm; clear hMet0 hnm
  have hg0 := World.grownBy.refl w2 (some M)
  go_wp2_with fail
  go_loopw [18, 5] (fun i l wr => ∃ (k q : Nat) (acc : List (List UInt8)) (f : List UInt8 → Int), k ≤ vs.length ∧ i = .int .i64 k ∧ q ≤ 64 * k ∧ acc.length ≤ q ∧ Hid (OwnS w2.heap.size l acc wr ∧ Met M q f wr ∧ Count f acc q) ∧ w2.grownBy wr (some M) ∧ Hid (namesVs acc (vs.drop k) = tot)) (fun i _ _ => vs.length - (intOf i).toNat)
  case atStart => exact ⟨0, 0, [], fun _ => 0, Nat.zero_le _, rfl, by omega, by simp, Lib.hid ⟨OwnS.nil _ _, HM0.out, Count.start⟩, hg0, by rw [List.drop_zero]; exact HT⟩
  case round =>
    clear hg0 HM0 HT
    obtain ⟨k, q, acc, f, hk, rfl, hq, hacc, HO, hgr, HT⟩ := hrel
    have hVr := HV.out.grown hgr HNM.out
    by_cases hlt : k < vs.length
    · obtain ⟨b, o, rfl, hl, c1⟩ := hVr.str_at (k := k) hlt
      have hv := HVB.out vs[k] (List.getElem_mem _)
      have hdr := HT.out
      rw [drop_consL vs k hlt] at hdr
      generalize vs[k] = v at *
      rw [namesVs] at hdr
      have hpl := splitL_le' 44 v
      have hpt := Nat.le_trans (split_total 44 v) hv
      have k1 := fun w => split_any ⟨v.toArray⟩ 44 w (by rw [Lib.size_eq]; exact hv)
      simp only at k1
      generalize splitL 44 v = r at *
      obtain ⟨ps, er⟩ := r
      simp only at hpl hpt hdr
      have K1 := Lib.hid k1; have HD := Lib.hid hdr
      clear k1 hdr hv hVr
      go_wp2_with fail
      refine (K1.out _).mono ?_
      rintro e w3 ⟨pa, pc, rfl, ho3, hb3⟩
      simp only at ho3
      have hbw : Below w.heap.size w w3 := by
        refine (hB2.trans ?_).trans (hb3.mono (by have := hgr.size; have := hB2.size; omega))
        exact ⟨hgr.os, hgr.tape, hgr.output, hgr.size, fun j hj => hgr.block j (by have := hB2.size; omega) (by intro x; cases x; omega)⟩
      cases he : (er == 0)
      · have n1 : (er != 0) = true := by simp [bne, he]
        have hd := HD.out
        rw [he, cond_false] at hd
        subst hd
        go_wp2
        go_ret2
        exact NamesPost.none hbw
      · have n1 : (er != 0) = false := by simp [bne, he]
        have hd := HD.out
        rw [he, cond_true] at hd
        have hd2 : tailO (namesPs acc ps) (vs.drop (k + 1)) = tot := hd
        obtain ⟨tp, htp⟩ : ∃ t, namesPs acc ps = t := ⟨_, rfl⟩
        rw [htp] at hd2
        have HD2 := Lib.hid hd2; have HTP := Lib.hid htp
        clear hd hd2 htp HD HT
        have hst : Hid (OwnS w2.heap.size u5 acc w3 ∧ Met M q f w3 ∧ Count f acc q ∧ Rd pa ps.length 1 (strsV ps) w3 ∧ Sep u5 pa ps.length) := by
          refine Lib.hid ⟨HO.out.1.below hb3, HO.out.2.1.below hb3, HO.out.2.2, ho3.rd.2, ?_⟩
          intro _ g o e x
          have h1 := (HO.out.1.lt g x).2
          have h2 := own_new ho3 g o e
          omega
        have hpm : 0 < ps.length → ∀ g o, pa = some ⟨g, o, none⟩ → some M ≠ some g := by
          intro hp
          obtain ⟨es, cl, hm⟩ := (HO.out.2.1.below hb3).map
          exact rd_not_map ho3.rd.2 (by decide) hm hp
        have HPM := Lib.hid hpm; clear hpm
        have hgr3 : w2.grownBy w3 (some M) := hgr.trans ⟨hb3.os, hb3.tape, hb3.output, hb3.size, fun j hj _ => hb3.block j hj⟩
        clear HO ho3 hb3 hbw hgr K1 c1
        go_wp2_with fail
        obtain ⟨wo, rfl⟩ : ∃ wo : World, wo = wr := ⟨_, rfl⟩
        go_loopw [31, 5] (fun j l wi => ∃ (m q2 : Nat) (ac : List (List UInt8)) (f2 : List UInt8 → Int), m ≤ ps.length ∧ j = .int .i64 m ∧ q2 ≤ q + m ∧ ac.length ≤ q2 ∧ Hid (OwnS w2.heap.size l ac wi ∧ Met M q2 f2 wi ∧ Count f2 ac q2 ∧ Rd pa ps.length 1 (strsV ps) wi ∧ Sep l pa ps.length) ∧ w2.grownBy wi (some M) ∧ Hid (namesPs ac (ps.drop m) = tp)) (fun j _ _ => ps.length - (intOf j).toNat)
        case atStart => exact ⟨0, q, acc, f, Nat.zero_le _, rfl, by omega, hacc, hst, hgr3, by rw [List.drop_zero]; exact HTP⟩
        case round =>
          clear hst hgr3 HTP
          obtain ⟨m, q2, ac, f2, hm, rfl, hq2, hac, HI, hgi, HTP⟩ := hrel
          by_cases hlm : m < ps.length
          · obtain ⟨b2, o2, rfl, hl2, c2⟩ := HI.out.2.2.2.1.str_at (k := m) hlm
            have hpp := Nat.le_trans (total_mem (List.getElem_mem hlm)) hpt
            have hdr := HTP.out
            rw [drop_consL ps m hlm, namesPs] at hdr
            generalize ps[m] = p at *
            have hll : (lowerL p).length ≤ 1000000 := by rw [lower_length]; exact hpp
            have k4 := fun w => lower_any ⟨p.toArray⟩ w (by rw [Lib.size_eq]; exact hpp)
            simp only at k4
            generalize lowerL p = nm at *
            have k5 := fun w => token_any ⟨nm.toArray⟩ w (by rw [Lib.size_eq]; exact hll)
            simp only at k5
            have hkey := keyStr (l := nm) (by omega)
            have K4 := Lib.hid k4; have K5 := Lib.hid k5; have HD := Lib.hid hdr; have HKEY := Lib.hid hkey
            clear k4 k5 hdr hkey hpp
            go_wp2_with fail
            refine (K4.out _).mono ?_
            rintro e w4 ⟨rfl, hb4⟩
            obtain ⟨D, hown, hmap, hval⟩ := HI.out.2.1.below hb4
            have hcnt := HI.out.2.2.1
            have hb1 := hcnt.1 nm
            have hst4 : Hid (OwnS w2.heap.size u5 ac w4 ∧ Rd (some ⟨b2, o2, none⟩) ps.length 1 (strsV ps) w4) := Lib.hid ⟨HI.out.1.below hb4, HI.out.2.2.2.1.below hb4⟩
            have hsep := HI.out.2.2.2.2
            have hne5 : some M ≠ u5.ownBlock := by
              obtain ⟨es, cl, hm⟩ := (HI.out.2.1.below hb4).map
              exact not_map hm hst4.out.1
            have hgr4 : w2.grownBy w4 (some M) := hgi.trans ⟨hb4.os, hb4.tape, hb4.output, hb4.size, fun j hj _ => hb4.block j hj⟩
            have HOWN := Lib.hid hown; have HVAL := Lib.hid hval; have HCNT := Lib.hid hcnt; have HSEP := Lib.hid hsep; have HNE5 := Lib.hid hne5
            clear hown hval hcnt hsep hne5 HI hgi hb4 c2
            go_wp2_with (at_lookup; refine wpList_lookup_own_int _ rfl _ _ 120 rfl 9 3 .i64 kStr Tryd.underlying120 Tryd.underlying3 (zInt _) M q2 D rfl HOWN.out _ _ rfl HKEY.out ?_)
            intro c0 hat hwc
            have hcf : c0 = f2 nm := by
              have := HVAL.out nm
              rw [hat] at this
              injection this with h
              injection h
            have hc1 : 0 ≤ c0 := by rw [hcf]; exact hb1.1
            have hc2 : c0 ≤ q2 := by rw [hcf]; exact hb1.2
            have HCF := Lib.hid hcf
            clear hat hwc hcf
            go_wp2_with (at_mapUpdate; refine wpList_mapUpdate_own _ rfl _ _ _ 120 rfl 9 3 kStr Tryd.underlying120 (plainElem Tryd.prog 3) M q2 D rfl HOWN.out (by unfold maxLen; omega) _ _ (.string nm) rfl rfl HKEY.out _ [] (plainElem_int Tryd.underlying3 (WalkArith.wf_i64 (by omega))) ?_)
            intro w5 hown5 hgrow5
            have hmet5 : Met M (q2 + 1) (bump f2 nm) w5 := by
              refine ⟨_, hown5, hmap.put _ _, fun l => ?_⟩
              unfold bump
              by_cases e : l = nm
              · subst e
                rw [if_pos rfl, atKey_put_same hmap (show WideAt.IsKeyLit (.string l) from trivial), HCF.out]
              · rw [if_neg e, atKey_put_other (by intro x; injection x with x; exact e x)]
                exact HVAL.out l
            have hcnt5 := HCNT.out.step nm
            have hst5 : Hid (OwnS w2.heap.size u5 ac w5 ∧ Rd (some ⟨b2, o2, none⟩) ps.length 1 (strsV ps) w5) := by
              refine Lib.hid ⟨own_grown hst4.out.1 hgrow5 (Or.inl HNE5.out), hst4.out.2.grown hgrow5 HPM.out⟩
            have hgr5 : w2.grownBy w5 (some M) := hgr4.trans hgrow5
            have HM5 := Lib.hid hmet5; have HC5 := Lib.hid hcnt5
            clear hmet5 hcnt5 hown5 hgrow5 hgr4 hst4 HOWN HVAL
            have hbw5 : Below w.heap.size w w5 := hB2.trans ⟨hgr5.os, hgr5.tape, hgr5.output, hgr5.size, fun j hj => hgr5.block j (by have := hB2.size; omega) (by intro x; cases x; omega)⟩
            cases htk : tokenL nm
            · have ht : tot = none := by
                have h1 := HD.out
                have : nameOk nm = false := by unfold nameOk; rw [htk]; rfl
                rw [this, cond_false] at h1
                have h2 := HD2.out
                rw [← h1] at h2
                exact h2.symm
              subst ht
              have HTK := Lib.hid htk; clear htk
              go_wp2_with (go_at_call 10; refine (K5.out _).mono ?_; rintro e w6 ⟨rfl, rfl⟩; rw [HTK.out])
              go_ret2
              exact NamesPost.none hbw5
            · cases hst : (nm == [42])
              · have hok : nameOk nm = true := by unfold nameOk; rw [htk, hst]; rfl
                have h1 := HD.out
                rw [hok, cond_true] at h1
                have HN := Lib.hid h1
                have HTK := Lib.hid htk
                clear htk h1 hok HD
                go_wp2_with (first | (go_at_call 10; refine (K5.out _).mono ?_; rintro e w6 ⟨rfl, rfl⟩; rw [HTK.out]) | (at_lookup; refine wpList_lookup_own_int _ rfl _ _ 120 rfl 9 3 .i64 kStr Tryd.underlying120 Tryd.underlying3 (zInt _) M (q2 + 1) (HM5.out).choose rfl (HM5.out).choose_spec.1 _ _ rfl HKEY.out ?_))
                intro c3 hat3 hwc3
                have hc3 : c3 = bump f2 nm nm := by
                  have := (HM5.out).choose_spec.2.2 nm
                  rw [hat3] at this
                  injection this with h
                  injection h
                have hbn : bump f2 nm nm = f2 nm + 1 := by unfold bump; rw [if_pos rfl]
                rw [hbn] at hc3
                have hz := HCNT.out.2 nm
                have HC3 := Lib.hid hc3
                clear hat3 hwc3 hc3 hbn
                cases hct : ac.contains nm
                · have h0 : f2 nm = 0 := hz.2 hct
                  have t1 : (c3 == 1) = true := by rw [HC3.out, h0]; rfl
                  have hadd : addN ac nm = ac ++ [nm] := by unfold addN; rw [hct]; rfl
                  have HADD := Lib.hid hadd
                  clear hz hct h0 hadd hst
                  go_wp2_with (at_builtin; refine app_str w2.heap.size nm hst5.out.1 hgr5.size (by omega) rfl _ _ rfl rfl rfl ?_)
                  intro v' w7 hO7 hb7 hfar7
                  have hI7 : Hid (OwnS w2.heap.size v' (addN ac nm) w7 ∧ Met M (q2 + 1) (bump f2 nm) w7 ∧ Count (bump f2 nm) (addN ac nm) (q2 + 1) ∧ Rd (some ⟨b2, o2, none⟩) ps.length 1 (strsV ps) w7 ∧ Sep v' (some ⟨b2, o2, none⟩) ps.length) := by
                    obtain ⟨r1, r2⟩ := hst5.out.2.far hfar7 HSEP.out
                    refine Lib.hid ⟨?_, HM5.out.far hst5.out.1 hfar7, HC5.out, r1, r2⟩
                    rw [HADD.out]; exact hO7
                  have hgr7 : w2.grownBy w7 (some M) := ⟨hb7.os.trans hgr5.os, hb7.tape.trans hgr5.tape, hb7.output.trans hgr5.output, Nat.le_trans hgr5.size hb7.size, fun j hj hne => (hb7.block j hj).trans (hgr5.block j hj hne)⟩
                  have hal := addN_le ac nm
                  clear hO7 hb7 hfar7 hst5 HM5
                  go_wp2
                  go_roundw
                  case rel => exact ⟨m + 1, q2 + 1, addN ac nm, bump f2 nm, by omega, by go_num, by omega, by omega, hI7, hgr7, HN⟩
                  case measure => simp [intOf]; omega
                · have h0 : f2 nm ≠ 0 := fun h => by have := hz.1 h; rw [hct] at this; cases this
                  have t1 : (c3 == 1) = false := by rw [beq_eq_false_iff_ne, HC3.out]; omega
                  have hadd : addN ac nm = ac := by unfold addN; rw [hct]; rfl
                  have hI7 : Hid (OwnS w2.heap.size u5 (addN ac nm) w5 ∧ Met M (q2 + 1) (bump f2 nm) w5 ∧ Count (bump f2 nm) (addN ac nm) (q2 + 1) ∧ Rd (some ⟨b2, o2, none⟩) ps.length 1 (strsV ps) w5 ∧ Sep u5 (some ⟨b2, o2, none⟩) ps.length) :=
                    Lib.hid ⟨by rw [hadd]; exact hst5.out.1, HM5.out, HC5.out, hst5.out.2, HSEP.out⟩
                  have hal := addN_le ac nm
                  clear hz hct h0 hadd hst hst5 HM5
                  go_wp2
                  go_roundw
                  case rel => exact ⟨m + 1, q2 + 1, addN ac nm, bump f2 nm, by omega, by go_num, by omega, by omega, hI7, hgr5, HN⟩
                  case measure => simp [intOf]; omega
              · have ht : tot = none := by
                  have h1 := HD.out
                  have : nameOk nm = false := by unfold nameOk; rw [htk, hst]; rfl
                  rw [this, cond_false] at h1
                  have h2 := HD2.out
                  rw [← h1] at h2
                  exact h2.symm
                subst ht
                have HTK := Lib.hid htk; clear htk
                go_wp2_with (go_at_call 10; refine (K5.out _).mono ?_; rintro e w6 ⟨rfl, rfl⟩; rw [HTK.out])
                go_ret2
                exact NamesPost.none hbw5
          · have hme : m = ps.length := by omega
            subst hme
            have h1 := HTP.out
            rw [List.drop_length, namesPs] at h1
            have h2 := HD2.out
            rw [← h1] at h2
            have HT2 : Hid (namesVs ac (vs.drop (k + 1)) = tot) := Lib.hid h2
            have hI : Hid (OwnS w2.heap.size u5 ac wr ∧ Met M q2 f2 wr ∧ Count f2 ac q2) := Lib.hid ⟨HI.out.1, HI.out.2.1, HI.out.2.2.1⟩
            clear HI h1 h2 HTP HD2
            go_wp2
            go_roundw
            case rel => exact ⟨k + 1, q2, ac, f2, by omega, by go_num, by omega, by omega, hI, hgi, HT2⟩
            case measure => simp [intOf]; omega
    · have hke : k = vs.length := by omega
      subst hke
      have ht := HT.out
      rw [List.drop_length, namesVs] at ht
      subst ht
      obtain ⟨la, lc, rfl⟩ := HO.out.1.shape
      have hbw : Below w.heap.size w wr := hB2.trans ⟨hgr.os, hgr.tape, hgr.output, hgr.size, fun j hj => hgr.block j (by have := hB2.size; omega) (by intro x; cases x; omega)⟩
      go_wp2
      go_ret2
      exact ⟨la, lc, rfl, HO.out.1.base hB2.size, hbw⟩
end Go.Proofs.YtlhfbikhlfgjbaaDoor
/- strings.Join over a slice that the call made. -/
namespace Go.Proofs.YtlhfbikhlfgjbaaDoor
open Go.RowKit

theorem join_any (B cap : Nat) (a : Option Addr) (ls : List (List UInt8)) (sep : ByteArray) (w : World) (h : OwnS B (.slice a ls.length cap) ls w) (h1 : ls.length ≤ 1000000) (h2 : total ls + ls.length * sep.size ≤ 100000000000) :
    Calls Tryd.prog 20 #[.slice a ls.length cap, .string sep] w fun e w' => e = .returned (.string ⟨(Lib.join ls sep.data.toList).toArray⟩) ∧ Below w.heap.size w w' := by
  obtain ⟨_, hcap, hg⟩ := h.room
  cases ls with
  | nil =>
    refine (Tryd.strings_Join_none a cap sep w).mono ?_
    rintro e w' ⟨rfl, rfl⟩
    exact ⟨rfl, Below.refl _ _⟩
  | cons x r =>
    obtain ⟨g, rfl, hgl⟩ := hg (by simp)
    have hmap : ((x :: r).map fun l => (⟨l.toArray⟩ : ByteArray)).map (·.data.toList) = x :: r := by
      rw [List.map_map]; have : ((fun b : ByteArray => b.data.toList) ∘ fun l : List UInt8 => (⟨l.toArray⟩ : ByteArray)) = id := by funext l; simp
      rw [this, List.map_id]
    have hj := join_le sep.data.toList (x :: r)
    rw [← Lib.size_eq] at hj
    have k := Tryd.strings_Join g 0 cap ((x :: r).map fun l => (⟨l.toArray⟩ : ByteArray)) sep w (by
      intro j y hy
      obtain ⟨hj1, hj2⟩ := List.getElem?_eq_some_iff.1 hy
      have hj3 : j < (x :: r).length := by simpa using hj1
      obtain ⟨g', e, hc, _⟩ := h.cell j hj3
      cases e
      rw [Nat.zero_add, hc, ← hj2, List.getElem_map]) hgl (by rw [List.length_map]; omega) (by rw [List.length_map]; omega) (by rw [hmap]; omega)
    rw [hmap, List.length_map] at k
    exact k
end Go.Proofs.YtlhfbikhlfgjbaaDoor
/- The walk of request.value (vary). -/
namespace Go.Proofs.YtlhfbikhlfgjbaaDoor
open Go.RowKit

theorem b64_trans {B : Nat} {w w1 w2 : World} (h : Below B w w1) (k : Below w1.heap.size w1 w2) (hs : B ≤ w1.heap.size) : Below B w w2 := h.trans (k.mono hs)

set_option maxRecDepth 100000 in
set_option maxHeartbeats 4000000 in
theorem vvalue_any (A : Option Addr) (n c : Nat) (xs : List Fld) (name : ByteArray) (w : World) (hr : Rd A n 2 (fldsV xs) w) (hn : n ≤ 1000) (hs : ∀ f ∈ xs, f.1.length ≤ 1000000 ∧ f.2.length ≤ 1000000) (hname : name.size ≤ 1000000) :
    Calls Tryd.prog 44 #[.slice A n c, .string name] w fun e w' => e = .returned (.string ⟨(valueL xs name.data.toList).toArray⟩) ∧ Below w.heap.size w w' := by
  have k0 := values_any A n c xs name w hr (by omega) (fun f hf => (hs f hf).1) hname
  have hvl := valuesL_le xs name.data.toList
  have hxn := hr.fld
  have hvb : ∀ v ∈ valuesL xs name.data.toList, v.length ≤ 1000000 := by
    intro v hv
    obtain ⟨f, hf, e⟩ := valuesL_mem hv
    rw [← e]; exact (hs f hf).2
  unfold valueL
  have hvn : (valuesL xs name.data.toList).length ≤ 1000 := by omega
  clear hvl hxn hr hs
  generalize valuesL xs name.data.toList = vs at *
  have K0 := Lib.hid k0; have HVB := Lib.hid hvb; clear k0 hvb
  go_enter Tryd.func44, Tryd.ntmps44
  go_wp2_with fail
  refine K0.out.mono ?_
  rintro e w1 ⟨va, vc, rfl, ho1, hb1⟩
  have HV := Lib.hid ho1.rd.2
  have hB1 := Below.refl w1.heap.size w1
  clear ho1
  go_wp2_with fail
  go_loopw [16, 5] (fun i l wr => ∃ k : Nat, k ≤ vs.length ∧ i = .int .i64 k ∧ Hid (OwnS w1.heap.size l (allP (vs.take k)) wr) ∧ Below w1.heap.size w1 wr) (fun i _ _ => vs.length - (intOf i).toNat)
  case atStart => exact ⟨0, Nat.zero_le _, rfl, Lib.hid (OwnS.nil _ _), hB1⟩
  case round =>
    clear hB1
    obtain ⟨k, hk, rfl, HO, hbw⟩ := hrel
    by_cases hlt : k < vs.length
    · obtain ⟨b, o, rfl, hl, c1⟩ := (HV.out.below hbw).str_at (k := k) hlt
      have hv := HVB.out vs[k] (List.getElem_mem _)
      have hal := allP_le (vs.take k)
      rw [List.length_take] at hal
      have hsn := allP_snoc (vs.take k) vs[k]
      rw [← take_snocL vs k hlt] at hsn
      generalize vs[k] = v at *
      have hpl := piecesOf_le v
      have k1 := fun w => split_any ⟨v.toArray⟩ 44 w (by rw [Lib.size_eq]; exact hv)
      have k2 := fun w => trim_any ⟨v.toArray⟩ w (by rw [Lib.size_eq]; exact hv)
      simp only at k1 k2
      have hpo : piecesOf v = bif (splitL 44 v).2 == 0 then (splitL 44 v).1 else [trimL v] := rfl
      generalize splitL 44 v = r at *
      generalize trimL v = tv at *
      generalize piecesOf v = ps at *
      obtain ⟨ls, er⟩ := r
      simp only at hpo
      have K1 := Lib.hid k1; have K2 := Lib.hid k2; have HP := Lib.hid hpo; have Hsn := Lib.hid hsn
      clear k1 k2 hpo hsn hv
      go_wp2_with fail
      refine (K1.out _).mono ?_
      rintro e w2 ⟨pa, pc, rfl, ho2, hb2⟩
      have hb12 := b64_trans hbw hb2 hbw.size
      have hwr2 := hb2.size
      have HO2 := Lib.hid ho2; clear ho2
      have HOw := HO.out.below hb2
      have HOW := Lib.hid HOw; have HNEW := Lib.hid HO.out.lt; clear HOw HO
      go_upto_if 26 with (fail)
      go_cut [8] (fun s8 wx => ∃ pa pc, s8 = .slice pa ps.length pc ∧ Hid (Rd pa ps.length 1 (strsV ps) wx ∧ ∀ g o, pa = some ⟨g, o, none⟩ → wr.heap.size ≤ g) ∧ Below w2.heap.size w2 wx)
      case first =>
        cases he : (er == 0)
        · have n1 : (er != 0) = true := by simp [bne, he]
          have hps := HP.out
          rw [he, cond_false] at hps
          have HPS := Lib.hid hps; clear hps HP
          go_wp2_with (go_at_call 63; refine (K2.out _).mono ?_; rintro e w3 ⟨rfl, hb3⟩)
          go_meet
          rw [HPS.out]
          refine ⟨_, _, rfl, Lib.hid ⟨⟨rfl, fun _ => ⟨_, _, rfl, by simp, fun j u hu => ?_⟩⟩, ?_⟩, hb3.alloc hb3.size _⟩
          · rw [Nat.zero_add, World.cell?_alloc_mark]
            simpa [strsV] using hu
          · intro g o e
            cases e
            have := hb3.size
            omega
        · have n1 : (er != 0) = false := by simp [bne, he]
          have hps := HP.out
          rw [he, cond_true] at hps
          have HPS := Lib.hid hps; clear hps HP
          go_wp2
          go_meet
          rw [HPS.out]
          exact ⟨_, _, rfl, Lib.hid ⟨HO2.out.rd.2, own_new HO2.out⟩, Below.refl _ _⟩
      case rest =>
        obtain ⟨qa, qc, rfl, HQ, hb3⟩ := hcut
        have hbc := b64_trans hb12 hb3 (by have := hbw.size; omega)
        have hst : Hid (OwnS w1.heap.size u5 (allP (vs.take k) ++ keepP (ps.take 0)) wc ∧ Sep u5 qa ps.length ∧ Rd qa ps.length 1 (strsV ps) wc) := by
          refine Lib.hid ⟨?_, ?_, HQ.out.1⟩
          · have : keepP (ps.take 0) = [] := rfl
            rw [this, List.append_nil]; exact HOW.out.below hb3
          · intro _ g o e x
            have h1 := (HNEW.out g x).2
            have h2 := HQ.out.2 g o e
            omega
        clear HQ HOW HO2 HNEW HP K1 K2 hb3 hb2 hb12 hwr2
        go_wp2_with fail
        go_loopw [32, 5] (fun j l wi => ∃ m : Nat, m ≤ ps.length ∧ j = .int .i64 m ∧ Hid (OwnS w1.heap.size l (allP (vs.take k) ++ keepP (ps.take m)) wi ∧ Sep l qa ps.length ∧ Rd qa ps.length 1 (strsV ps) wi) ∧ Below w1.heap.size w1 wi) (fun j _ _ => ps.length - (intOf j).toNat)
        case atStart => exact ⟨0, Nat.zero_le _, rfl, hst, hbc⟩
        case round =>
          clear hst hbc
          obtain ⟨m, hm, rfl, HI, hbi⟩ := hrel
          by_cases hlm : m < ps.length
          · obtain ⟨b2, o2, rfl, hl2, c2⟩ := HI.out.2.2.str_at (k := m) hlm
            have hks := keepP_snoc (ps.take m) ps[m]
            rw [← take_snocL ps m hlm] at hks
            have hkl := keepP_le (ps.take m)
            rw [List.length_take] at hkl
            have hcount : (allP (vs.take k) ++ keepP (ps.take m)).length ≤ 1000000000 := by rw [List.length_append]; omega
            generalize ps[m] = p at *
            cases he : p.isEmpty
            · rw [he, if_neg (by decide)] at hks
              have HK := Lib.hid hks; clear hks
              go_wp2_with (at_builtin; refine app_str w1.heap.size p HI.out.1 hbi.size hcount rfl _ _ rfl rfl rfl ?_)
              intro v' w3 hO3 hb4 hfar
              have hbn := hbi.trans hb4
              have HI2 : Hid (OwnS w1.heap.size v' (allP (vs.take k) ++ keepP (ps.take (m + 1))) w3 ∧ Sep v' (some ⟨b2, o2, none⟩) ps.length ∧ Rd (some ⟨b2, o2, none⟩) ps.length 1 (strsV ps) w3) := by
                obtain ⟨h1, h2⟩ := HI.out.2.2.far hfar HI.out.2.1
                refine Lib.hid ⟨?_, h2, h1⟩
                rw [HK.out]; exact hO3
              clear hO3 hb4 hfar HI HK c2
              go_wp2
              go_roundw
              case rel => exact ⟨m + 1, by omega, by go_num, HI2, hbn⟩
              case measure => simp [intOf]; omega
            · rw [he, if_pos rfl] at hks
              have HI2 : Hid (OwnS w1.heap.size u5 (allP (vs.take k) ++ keepP (ps.take (m + 1))) wr ∧ Sep u5 (some ⟨b2, o2, none⟩) ps.length ∧ Rd (some ⟨b2, o2, none⟩) ps.length 1 (strsV ps) wr) := by
                rw [hks]; exact HI
              clear hks HI
              go_wp2
              go_roundw
              case rel => exact ⟨m + 1, by omega, by go_num, HI2, hbi⟩
              case measure => simp [intOf]; omega
          · have hme : m = ps.length := by omega
            subst hme
            have HO2 : Hid (OwnS w1.heap.size u5 (allP (vs.take (k + 1))) wr) := by
              refine Lib.hid ?_
              have := HI.out.1
              rw [List.take_length, ← Hsn.out] at this; exact this
            clear HI Hsn
            go_wp2
            go_roundw
            case rel => exact ⟨k + 1, by omega, by go_num, HO2, hbi⟩
            case measure => simp [intOf]; omega
    · have hke : k = vs.length := by omega
      subst hke
      have ho := HO.out
      rw [List.take_length] at ho
      obtain ⟨la, lc, rfl⟩ := ho.shape
      have HO1 := Lib.hid ho; clear ho HO
      have hal := allP_le vs
      have htot : total (allP vs) ≤ 1000 * 1000000 := Nat.le_trans (total_allP vs) (Nat.le_trans (total_bound 1000000 vs HVB.out) (Nat.mul_le_mul_right _ hvn))
      have k3 := join_any w1.heap.size lc la (allP vs) ⟨#[44, 32]⟩ wr HO1.out (by omega) (by rw [show (⟨#[44, 32]⟩ : ByteArray).size = 2 from rfl]; omega)
      have K3 := Lib.hid k3; clear k3
      go_wp2_with (go_at_call 20; refine K3.out.mono ?_; rintro e w3 ⟨rfl, hb3⟩)
      go_ret
      exact ⟨rfl, (hb1.trans (hbw.mono hb1.size)).trans (hb3.mono (by have := hb1.size; have := hbw.size; omega))⟩
end Go.Proofs.YtlhfbikhlfgjbaaDoor
/- The walks of vary.Select, vary.Matches. -/
namespace Go.Proofs.YtlhfbikhlfgjbaaDoor
open Go.RowKit

def selectL (names : List (List UInt8)) (xs : List Fld) : List Fld := names.map fun nm => (nm, valueL xs nm)
def matchesL (es xs : List Fld) : Bool := es.all fun f => valueL xs f.1 == f.2

set_option maxRecDepth 100000 in
set_option maxHeartbeats 2000000 in
theorem select_any (N : Option Addr) (nn nc : Nat) (names : List (List UInt8)) (A : Option Addr) (n c : Nat) (xs : List Fld) (w : World) (hN : Rd N nn 1 (strsV names) w) (hnn : nn ≤ 1000000) (hnl : ∀ x ∈ names, x.length ≤ 1000000)
    (hr : Rd A n 2 (fldsV xs) w) (hn : n ≤ 1000) (hs : ∀ f ∈ xs, f.1.length ≤ 1000000 ∧ f.2.length ≤ 1000000) :
    Calls Tryd.prog 19 #[.slice N nn nc, .slice A n c] w (FieldsPost w (selectL names xs)) := by
  obtain rfl := hN.str
  have hB := Below.refl w.heap.size w
  have k1 : ∀ (w' : World) (nm : List UInt8), Below w.heap.size w w' → nm.length ≤ 1000000 → Calls Tryd.prog 44 #[.slice A n c, .string ⟨nm.toArray⟩] w' fun e w2 => e = .returned (.string ⟨(valueL xs nm).toArray⟩) ∧ Below w'.heap.size w' w2 :=
    fun w' nm hb hl => vvalue_any A n c xs ⟨nm.toArray⟩ w' (hr.below hb) hn hs (by rw [Lib.size_eq]; exact hl)
  have K1 := Lib.hid k1; have HN := Lib.hid hN; have HL := Lib.hid hnl
  clear k1 hr hs hN hnl
  go_enter Tryd.func19, Tryd.ntmps19
  go_wp2
  go_loopw [13, 6] (fun i out wr => ∃ k : Nat, k ≤ names.length ∧ i = .int .i64 k ∧ Hid (OwnF w.heap.size out (selectL (names.take k) xs) wr) ∧ Below w.heap.size w wr) (fun i _ _ => names.length - (intOf i).toNat)
  case atStart => exact ⟨0, Nat.zero_le _, rfl, Lib.hid (OwnF.nil _ _), hB⟩
  case round =>
    clear hB
    obtain ⟨k, hk, rfl, HO, hbw⟩ := hrel
    by_cases hlt : k < names.length
    · obtain ⟨b, o, rfl, hl, c1⟩ := (HN.out.below hbw).str_at (k := k) hlt
      have hv := HL.out names[k] (List.getElem_mem _)
      have hsn : selectL (names.take (k + 1)) xs = selectL (names.take k) xs ++ [(names[k], valueL xs names[k])] := by rw [take_snocL names k hlt]; unfold selectL; rw [List.map_append]; rfl
      have hlen : (selectL (names.take k) xs).length ≤ 1000000000 := by unfold selectL; rw [List.length_map, List.length_take]; omega
      generalize names[k] = nm at *
      have Hsn := Lib.hid hsn; clear hsn
      go_wp2_with fail
      refine (K1.out _ nm hbw hv).mono ?_
      rintro e w2 ⟨rfl, hb2⟩
      have hb3 := hbw.trans (hb2.mono hbw.size)
      have HO2 := Lib.hid (HO.out.below hb2)
      go_wp2_with (at_builtin; refine app_fld w.heap.size (nm, valueL xs nm) HO2.out hb3.size hlen rfl _ _ rfl rfl rfl ?_)
      intro v' w3 hO3 hb4 _
      have hbn := hb3.trans hb4
      have HO3 : Hid (OwnF w.heap.size v' (selectL (names.take (k + 1)) xs) w3) := by rw [Hsn.out]; exact Lib.hid hO3
      clear hO3 hb4 hb3 hb2 HO2 HO
      go_wp2
      go_roundw
      case rel => exact ⟨k + 1, by omega, by go_num, HO3, hbn⟩
      case measure => simp [intOf]; omega
    · have hke : k = names.length := by omega
      subst hke
      have ho := HO.out
      rw [List.take_length] at ho
      obtain ⟨la, lc, rfl⟩ := ho.shape
      have HO1 := Lib.hid ho; clear ho HO
      go_wp2
      go_ret
      exact ⟨la, lc, rfl, HO1.out, hbw⟩

/-- An entry, by value. -/
def entV (st : Int) (re : ByteArray) (mi : Int) (fa : Option Addr) (fn fc : Nat) (bo : ByteArray) (asd gt : Int) (va : Option Addr) (vn vc : Nat) : Value :=
  .agg #[.int .i64 st, .string re, .int .i64 mi, .slice fa fn fc, .string bo, .int .i64 asd, .int .i64 gt, .slice va vn vc]

set_option maxRecDepth 100000 in
set_option maxHeartbeats 4000000 in
theorem matches_any (st : Int) (re : ByteArray) (mi : Int) (fa : Option Addr) (fn fc : Nat) (bo : ByteArray) (asd gt : Int) (va : Option Addr) (vn vc : Nat) (es : List Fld) (A : Option Addr) (n c : Nat) (xs : List Fld) (w : World)
    (hE : Rd va vn 2 (fldsV es) w) (hvn : vn ≤ 1000000) (hel : ∀ f ∈ es, f.1.length ≤ 1000000)
    (hr : Rd A n 2 (fldsV xs) w) (hn : n ≤ 1000) (hs : ∀ f ∈ xs, f.1.length ≤ 1000000 ∧ f.2.length ≤ 1000000) :
    Calls Tryd.prog 66 #[entV st re mi fa fn fc bo asd gt va vn vc, .slice A n c] w fun e w' => e = .returned (.bool (matchesL es xs)) ∧ Below w.heap.size w w' := by
  obtain rfl := hE.fld
  have hB := (Below.refl w.heap.size w).alloc (Nat.le_refl _) (.cells #[.int .i64 st, .string re, .int .i64 mi, .slice fa fn fc, .string bo, .int .i64 asd, .int .i64 gt, .slice va es.length vc] 109)
  have k1 : ∀ (w' : World) (nm : List UInt8), Below w.heap.size w w' → nm.length ≤ 1000000 → Calls Tryd.prog 44 #[.slice A n c, .string ⟨nm.toArray⟩] w' fun e w2 => e = .returned (.string ⟨(valueL xs nm).toArray⟩) ∧ Below w'.heap.size w' w2 :=
    fun w' nm hb hl => vvalue_any A n c xs ⟨nm.toArray⟩ w' (hr.below hb) hn hs (by rw [Lib.size_eq]; exact hl)
  have hY : ∀ k (h : k < es.length), (valueL xs (es[k]).1 == (es[k]).2) = false → matchesL es xs = false := by
    intro k h hk
    unfold matchesL
    rw [List.all_eq_false]
    exact ⟨es[k], List.getElem_mem _, by simp [hk]⟩
  have hZ : (∀ k (h : k < es.length), (valueL xs (es[k]).1 == (es[k]).2) = true) → matchesL es xs = true := by
    intro h
    unfold matchesL
    rw [List.all_eq_true]
    intro f hf
    obtain ⟨k, hk, e⟩ := List.mem_iff_getElem.1 hf
    rw [← e]; exact h k hk
  have K1 := Lib.hid k1; have HE := Lib.hid hE; have HL := Lib.hid hel; have HY := Lib.hid hY; have HZ := Lib.hid hZ
  clear k1 hr hs hE hel hY hZ
  generalize matchesL es xs = out at *
  unfold entV
  go_enter Tryd.func66, Tryd.ntmps66
  go_wp2
  go_loopw [13] (fun i wr => ∃ k : Nat, k ≤ es.length ∧ i = .int .i64 k ∧ Hid (∀ j (h : j < es.length), j < k → (valueL xs (es[j]).1 == (es[j]).2) = true) ∧ Below w.heap.size w wr) (fun i _ => es.length - (intOf i).toNat)
  case atStart => exact ⟨0, Nat.zero_le _, rfl, Lib.hid (fun j h hj => absurd hj (by omega)), hB⟩
  case round =>
    clear hB
    obtain ⟨k, hk, rfl, HA, hbw⟩ := hrel
    by_cases hlt : k < es.length
    · obtain ⟨b, o, rfl, hl, c1, c2⟩ := (HE.out.below hbw).fld_at (k := k) hlt
      have hv := HL.out es[k] (List.getElem_mem _)
      have hy := HY.out k hlt
      have hz : (valueL xs (es[k]).1 == (es[k]).2) = true → Hid (∀ j (h : j < es.length), j < k + 1 → (valueL xs (es[j]).1 == (es[j]).2) = true) := by
        intro e
        refine Lib.hid fun j h hj => ?_
        by_cases hjk : j = k
        · subst hjk; exact e
        · exact HA.out j h (by omega)
      generalize es[k] = f at *
      obtain ⟨f1, f2⟩ := f
      simp only at c1 c2 hv hy hz
      have Hy := Lib.hid hy; have Hz := Lib.hid hz; clear hy hz HA
      go_wp2_with fail
      obtain ⟨W, hW⟩ : ∃ W, wr.alloc (.cells #[.string ⟨f1.toArray⟩, .string ⟨f2.toArray⟩] 45) = W := ⟨_, rfl⟩
      have e1 : W.cell? ⟨wr.heap.size, 0, none⟩ = some (.string ⟨f1.toArray⟩) := by rw [← hW]; exact World.cell?_alloc_mark wr _ _ _ 0
      have e2 : W.cell? ⟨wr.heap.size, 1, none⟩ = some (.string ⟨f2.toArray⟩) := by rw [← hW]; exact World.cell?_alloc_mark wr _ _ _ 1
      have e3 : Below w.heap.size w W := by rw [← hW]; exact hbw.alloc hbw.size _
      have e4 : wr.heap.size < W.heap.size := by rw [← hW]; simp
      rw [hW]
      clear hW c1 c2
      cases hq : (valueL xs f1 == f2)
      · have hf := Hy.out hq
        have Hf := Lib.hid hf
        have q2 : (!valueL xs f1 == f2) = true := by rw [hq]; rfl
        clear hf
        go_region_held3 (fun w' => w'.cell? ⟨wr.heap.size, 0, none⟩ = some (.string ⟨f1.toArray⟩) ∧ w'.cell? ⟨wr.heap.size, 1, none⟩ = some (.string ⟨f2.toArray⟩) ∧ Below w.heap.size w w' ∧ wr.heap.size < w'.heap.size) (first | exact ⟨e1, e2, e3, e4⟩ | exact ⟨e1, e2, e3.drew, e4⟩ | exact ⟨d1, d2, d3, d4⟩ | exact ⟨d1, d2, d3.drew, d4⟩) (first | (go_at_call 44; obtain ⟨g1, g2, g3, g4⟩ := ‹_ ∧ _ ∧ Below w.heap.size w _ ∧ _ < _›; refine (K1.out _ f1 g3 hv).mono ?_; rintro e w2 ⟨rfl, hb2⟩; have d1 := (hb2.cell (p := ⟨wr.heap.size, 0, none⟩) g4).trans g1; have d2 := (hb2.cell (p := ⟨wr.heap.size, 1, none⟩) g4).trans g2; have d3 := g3.trans (hb2.mono g3.size); have d4 := Nat.lt_of_lt_of_le g4 hb2.size))
        obtain ⟨g1, g2, g3, g4⟩ := ‹_ ∧ _ ∧ Below w.heap.size w _ ∧ _ < _›
        go_wp2
        go_ret
        rw [Hf.out]
        exact ⟨rfl, g3⟩
      · have hz := Hz.out hq
        have q2 : (!valueL xs f1 == f2) = false := by rw [hq]; rfl
        go_region_held3 (fun w' => w'.cell? ⟨wr.heap.size, 0, none⟩ = some (.string ⟨f1.toArray⟩) ∧ w'.cell? ⟨wr.heap.size, 1, none⟩ = some (.string ⟨f2.toArray⟩) ∧ Below w.heap.size w w' ∧ wr.heap.size < w'.heap.size) (first | exact ⟨e1, e2, e3, e4⟩ | exact ⟨e1, e2, e3.drew, e4⟩ | exact ⟨d1, d2, d3, d4⟩ | exact ⟨d1, d2, d3.drew, d4⟩) (first | (go_at_call 44; obtain ⟨g1, g2, g3, g4⟩ := ‹_ ∧ _ ∧ Below w.heap.size w _ ∧ _ < _›; refine (K1.out _ f1 g3 hv).mono ?_; rintro e w2 ⟨rfl, hb2⟩; have d1 := (hb2.cell (p := ⟨wr.heap.size, 0, none⟩) g4).trans g1; have d2 := (hb2.cell (p := ⟨wr.heap.size, 1, none⟩) g4).trans g2; have d3 := g3.trans (hb2.mono g3.size); have d4 := Nat.lt_of_lt_of_le g4 hb2.size))
        obtain ⟨g1, g2, g3, g4⟩ := ‹_ ∧ _ ∧ Below w.heap.size w _ ∧ _ < _›
        go_wp2
        go_roundw
        case rel => exact ⟨k + 1, by omega, by go_num, hz, g3⟩
        case measure => simp [intOf]; omega
    · have hf := HZ.out (fun j h => HA.out j h (by omega))
      have Hf := Lib.hid hf
      clear hf
      go_wp2
      go_ret
      rw [Hf.out]
      exact ⟨rfl, hbw⟩
end Go.Proofs.YtlhfbikhlfgjbaaDoor
/- The walks of the law's names, matches, awake (layer 15). -/
namespace Go.Proofs.YtlhfbikhlfgjbaaDoor
open Go.RowKit

def namesT (o : Option (List (List UInt8))) : List UInt8 := match o with | none => [97, 108, 108] | some l => Lib.join l [32]
theorem ofL_mem (M : Nat) : ∀ ls : List (List UInt8), (∀ x ∈ ls, x.length ≤ M) → ∀ f ∈ ofL ls, f.1.length ≤ M ∧ f.2.length ≤ M
  | [], _, f, hf => by simp [ofL] at hf
  | [_], _, f, hf => by simp [ofL] at hf
  | a :: b :: r, h, f, hf => by
    rcases List.mem_cons.1 hf with rfl | hf
    · exact ⟨h a (by simp), h b (by simp)⟩
    · exact ofL_mem M r (fun x hx => h x (by simp [hx])) f hf

set_option maxRecDepth 100000 in
set_option maxHeartbeats 2000000 in
theorem names15_any (A : Option Addr) (n c : Nat) (ls : List (List UInt8)) (w : World) (hr : Rd A n 1 (strsV ls) w) (hn : n ≤ 1000) (hl : ∀ x ∈ ls, x.length ≤ 1000) (o : Option (List (List UInt8))) (ho : namesO (ofL ls) = o) (hol : (optL o).length ≤ 1000 ∧ total (optL o) ≤ 1000000) :
    Calls Tryd.prog 42 #[.slice A n c] w fun e w' => e = .returned (.string ⟨(namesT o).toArray⟩) ∧ Below w.heap.size w w' := by
  have k1 := of15_any A n c ls w hr (by omega)
  have hfl : (ofL ls).length ≤ 1000 := by rw [ofL_len]; have := hr.str; omega
  have hfm := ofL_mem 1000 ls hl
  have k2 : ∀ (a : Option Addr) (c : Nat) (w : World), Rd a (ofL ls).length 2 (fldsV (ofL ls)) w → Calls Tryd.prog 64 #[.agg #[.int .i64 0, .string ⟨#[]⟩, .int .i64 0, .slice a (ofL ls).length c, .string ⟨#[]⟩]] w (NamesPost w (namesO (ofL ls))) :=
    fun a c w h => vnames_any 0 ⟨#[]⟩ 0 a (ofL ls).length c ⟨#[]⟩ (ofL ls) w h hfl (fun f hf => by have := hfm f hf; omega)
  rw [ho] at k2
  clear hfm ho hl hr
  generalize ofL ls = fs at *
  have K1 := Lib.hid k1; have K2 := Lib.hid k2; clear k1 k2
  go_enter Tryd.func42, Tryd.ntmps42
  go_wp2_with fail
  refine K1.out.mono ?_
  rintro e w1 ⟨a1, c1, rfl, ho1, hb1⟩
  go_wp2_with fail
  refine (K2.out _ _ _ ho1.rd.2).mono ?_
  rintro e w2 ⟨a2, c2, rfl, ho2, hb2⟩
  clear K1 K2
  cases o with
  | none =>
    go_wp2
    go_ret
    exact ⟨rfl, bt hb1 hb2⟩
  | some l =>
    obtain ⟨h1, h2⟩ := hol
    have h1' : l.length ≤ 1000 := h1
    have h2' : total l ≤ 1000000 := h2
    have k3 := join_any w1.heap.size c2 a2 l ⟨#[32]⟩ w2 ho2 (by omega) (by rw [show (⟨#[32]⟩ : ByteArray).size = 1 from rfl]; omega)
    have K3 := Lib.hid k3; clear k3
    go_wp2_with fail
    refine K3.out.mono ?_
    rintro e w3 ⟨rfl, hb3⟩
    go_wp2
    go_ret
    exact ⟨rfl, bt (bt hb1 hb2) hb3⟩

def accW : List UInt8 := [97, 99, 99, 101, 112, 116]
set_option maxRecDepth 100000 in
set_option maxHeartbeats 2000000 in
theorem matches15_any (v : List UInt8) (A : Option Addr) (n c : Nat) (ls : List (List UInt8)) (w : World) (hr : Rd A n 1 (strsV ls) w) (hn : n ≤ 1000) (hl : ∀ x ∈ ls, x.length ≤ 1000) :
    Calls Tryd.prog 43 #[.string ⟨v.toArray⟩, .slice A n c] w fun e w' => e = .returned (.bool (matchesL [(accW, v)] (ofL ls))) ∧ Below w.heap.size w w' := by
  have hfl : (ofL ls).length ≤ 1000 := by rw [ofL_len]; have := hr.str; omega
  have hfm := ofL_mem 1000 ls hl
  have k0 : ∀ (W : World) (g : Nat), W.cell? ⟨g, 0, none⟩ = some (.string ⟨accW.toArray⟩) → W.cell? ⟨g, 1, none⟩ = some (.string ⟨v.toArray⟩) → g < W.heap.size → Calls Tryd.prog 65 #[.slice (some ⟨g, 0, none⟩) 2 2] W (FieldsPost W [(accW, v)]) := by
    intro W g h1 h2 h3
    refine of15_any _ _ _ [accW, v] W ⟨rfl, fun _ => ⟨g, 0, rfl, h3, fun j u hu => ?_⟩⟩ (by omega)
    match j, hu with
    | 0, hu => simp [strsV] at hu; subst hu; exact h1
    | 1, hu => simp [strsV] at hu; subst hu; exact h2
  have k1 := fun W (hb : Below w.heap.size w W) => of15_any A n c ls W (hr.below hb) (by omega)
  have k2 : ∀ (va : Option Addr) (vc : Nat) (a : Option Addr) (c : Nat) (w : World), Rd va 1 2 (fldsV [(accW, v)]) w → Rd a (ofL ls).length 2 (fldsV (ofL ls)) w → Calls Tryd.prog 66 #[.agg #[.int .i64 0, .string ⟨#[]⟩, .int .i64 0, .slice none 0 0, .string ⟨#[]⟩, .int .i64 0, .int .i64 0, .slice va 1 vc], .slice a (ofL ls).length c] w fun e w' => e = .returned (.bool (matchesL [(accW, v)] (ofL ls))) ∧ Below w.heap.size w w' :=
    fun va vc a c w h h2 => matches_any 0 ⟨#[]⟩ 0 none 0 0 ⟨#[]⟩ 0 0 va 1 vc [(accW, v)] a (ofL ls).length c (ofL ls) w h (by omega) (by intro f hf; simp at hf; subst hf; show accW.length ≤ 1000000; decide) h2 hfl (fun f hf => by have := hfm f hf; omega)
  clear hfm hl hr
  generalize ofL ls = fs at *
  generalize matchesL [(accW, v)] fs = out at *
  have K0 := Lib.hid k0; have K1 := Lib.hid k1; have K2 := Lib.hid k2; clear k0 k1 k2
  go_enter Tryd.func43, Tryd.ntmps43
  go_wp2_with fail
  refine (K0.out _ _ (World.cell?_alloc_mark w _ _ _ 0) (World.cell?_alloc_mark w _ _ _ 1) (by simp)).mono ?_
  rintro e w1 ⟨a1, c1, rfl, ho1, hb1⟩
  have hb1' : Below w.heap.size w w1 := ((Below.refl w.heap.size w).alloc (Nat.le_refl _) _).trans (hb1.mono (by simp))
  go_wp2_with fail
  refine (K1.out _ hb1').mono ?_
  rintro e w2 ⟨a2, c2, rfl, ho2, hb2⟩
  go_wp2_with fail
  refine (K2.out _ _ _ _ _ (ho1.below hb2).rd.2 ho2.rd.2).mono ?_
  rintro e w3 ⟨rfl, hb3⟩
  go_wp2
  go_ret
  exact ⟨rfl, bt (bt hb1' hb2) hb3⟩

theorem rd_new (w : World) (ls : List (List UInt8)) (T : TypeId) : Rd (some ⟨w.heap.size, 0, none⟩) ls.length 1 (strsV ls) (w.alloc (.cells (strsV ls).toArray T)) := by
  refine ⟨by simp [strsV], fun _ => ⟨w.heap.size, 0, rfl, by simp, fun j u hu => ?_⟩⟩
  rw [Nat.zero_add, World.cell?_alloc_mark]
  simpa using hu
def aw1 : List (List UInt8) := [[118, 97, 114, 121], [65, 99, 99, 101, 112, 116, 45, 76, 97, 110, 103, 117, 97, 103, 101, 44, 32, 67, 111, 111, 107, 105, 101], [118, 97, 114, 121], [99, 111, 111, 107, 105, 101]]
def aw2 : List (List UInt8) := [[118, 97, 114, 121], [42]]
def aw3 : List (List UInt8) := [[97, 99, 99, 101, 112, 116], [97, 44, 98]]
def aw4 : List (List UInt8) := [[97, 99, 99, 101, 112, 116], [98, 44, 32, 97]]
theorem names15_new (ls : List (List UInt8)) (w : World) (hn : ls.length ≤ 1000) (hl : ∀ x ∈ ls, x.length ≤ 1000) (o : Option (List (List UInt8))) (ho : namesO (ofL ls) = o) (hol : (optL o).length ≤ 1000 ∧ total (optL o) ≤ 1000000) :
    Calls Tryd.prog 42 #[.slice (some ⟨w.heap.size, 0, none⟩) ls.length ls.length] (w.alloc (.cells (strsV ls).toArray 9)) fun e w' => e = .returned (.string ⟨(namesT o).toArray⟩) ∧ Below w.heap.size w w' :=
  (names15_any _ _ _ ls _ (rd_new w ls 9) hn hl o ho hol).mono fun _ _ ⟨h1, h2⟩ => ⟨h1, ((Below.refl w.heap.size w).alloc (Nat.le_refl _) _).trans (h2.mono (by simp))⟩
theorem matches15_new (v : List UInt8) (ls : List (List UInt8)) (w : World) (hn : ls.length ≤ 1000) (hl : ∀ x ∈ ls, x.length ≤ 1000) (o : Bool) (ho : matchesL [(accW, v)] (ofL ls) = o) :
    Calls Tryd.prog 43 #[.string ⟨v.toArray⟩, .slice (some ⟨w.heap.size, 0, none⟩) ls.length ls.length] (w.alloc (.cells (strsV ls).toArray 9)) fun e w' => e = .returned (.bool o) ∧ Below w.heap.size w w' := by
  subst ho
  exact (matches15_any v _ _ _ ls _ (rd_new w ls 9) hn hl).mono fun _ _ ⟨h1, h2⟩ => ⟨h1, ((Below.refl w.heap.size w).alloc (Nat.le_refl _) _).trans (h2.mono (by simp))⟩
theorem aw1_names : namesO (ofL aw1) = some [[97, 99, 99, 101, 112, 116, 45, 108, 97, 110, 103, 117, 97, 103, 101], [99, 111, 111, 107, 105, 101]] := by kernel_rfl
theorem aw2_names : namesO (ofL aw2) = none := by kernel_rfl
def abW : List UInt8 := [97, 44, 32, 98]
theorem aw3_match : matchesL [(accW, abW)] (ofL aw3) = true := by kernel_rfl
theorem aw4_match : matchesL [(accW, abW)] (ofL aw4) = false := by kernel_rfl
theorem small_all (ls : List (List UInt8)) (h : ls.all (fun x => decide (x.length ≤ 1000)) = true) : ∀ x ∈ ls, x.length ≤ 1000 := fun x hx => of_decide_eq_true (List.all_eq_true.1 h x hx)

set_option maxRecDepth 100000 in
set_option maxHeartbeats 4000000 in
theorem awake15_any (w : World) :
    Calls Tryd.prog 18 #[] w fun e w' => e = .returned (.bool true) ∧ Below w.heap.size w w' := by
  have k1 := fun w => names15_new aw1 w (by decide) (small_all _ (by decide)) _ aw1_names (by decide)
  have k2 := fun w => names15_new aw2 w (by decide) (small_all _ (by decide)) _ aw2_names (by decide)
  have k3 := fun w => matches15_new abW aw3 w (by decide) (small_all _ (by decide)) _ aw3_match
  have k4 := fun w => matches15_new abW aw4 w (by decide) (small_all _ (by decide)) _ aw4_match
  have e1 : (strsV aw1).toArray = #[.string ⟨#[118, 97, 114, 121]⟩, .string ⟨#[65, 99, 99, 101, 112, 116, 45, 76, 97, 110, 103, 117, 97, 103, 101, 44, 32, 67, 111, 111, 107, 105, 101]⟩, .string ⟨#[118, 97, 114, 121]⟩, .string ⟨#[99, 111, 111, 107, 105, 101]⟩] := rfl
  have e2 : (strsV aw2).toArray = #[.string ⟨#[118, 97, 114, 121]⟩, .string ⟨#[42]⟩] := rfl
  have e3 : (strsV aw3).toArray = #[.string ⟨#[97, 99, 99, 101, 112, 116]⟩, .string ⟨#[97, 44, 98]⟩] := rfl
  have e4 : (strsV aw4).toArray = #[.string ⟨#[97, 99, 99, 101, 112, 116]⟩, .string ⟨#[98, 44, 32, 97]⟩] := rfl
  rw [e1] at k1; rw [e2] at k2; rw [e3] at k3; rw [e4] at k4
  clear e1 e2 e3 e4
  have K1 := Lib.hid k1; have K2 := Lib.hid k2; have K3 := Lib.hid k3; have K4 := Lib.hid k4; clear k1 k2 k3 k4
  go_enter Tryd.func18, Tryd.ntmps18
  go_wp2_with fail
  refine (K1.out _).mono ?_
  rintro e w1 ⟨rfl, hb1⟩
  go_wp2_with fail
  refine (K2.out _).mono ?_
  rintro e w2 ⟨rfl, hb2⟩
  go_wp2_with fail
  refine (K3.out _).mono ?_
  rintro e w3 ⟨rfl, hb3⟩
  go_wp2_with fail
  refine (K4.out _).mono ?_
  rintro e w4 ⟨rfl, hb4⟩
  go_wp2
  go_ret
  exact ⟨rfl, bt (bt (bt hb1 hb2) hb3) hb4⟩
end Go.Proofs.YtlhfbikhlfgjbaaDoor
/- TextJoins: the plain law: a list put together of tokens and quoted texts is parted into them. -/
namespace Go.Proofs.YtlhfbikhlfgjbaaDoor

def goodQ (q : List UInt8) : Prop := tokenL q = true ∨ ∃ l : List UInt8, l.all plainb = true ∧ q = 34 :: (l.flatMap esc ++ [34])
theorem spl_run : ∀ (l cur : List UInt8) (ls : List (List UInt8)) (rest : List UInt8), (∀ c ∈ l, (c.toNat == 34) = false ∧ (c.toNat == 44) = false) →
    splP 44 false false cur ls (l ++ rest) = splP 44 false false (cur ++ l) ls rest
  | [], cur, ls, rest, _ => by simp
  | c :: r, cur, ls, rest, h => by
    have hc := h c (by simp)
    rw [List.cons_append, splP, hc.1, show (44 : UInt8).toNat = 44 from rfl, hc.2]
    simp only [cond_false, Bool.false_and]
    rw [spl_run r (cur ++ [c]) ls rest (fun x hx => h x (by simp [hx]))]
    simp
theorem spl_in : ∀ (l cur : List UInt8) (ls : List (List UInt8)) (rest : List UInt8), splP 44 true false cur ls (l.flatMap esc ++ rest) = splP 44 true false (cur ++ l.flatMap esc) ls rest
  | [], cur, ls, rest => by simp
  | c :: r, cur, ls, rest => by
    have ih := spl_in r
    rw [List.flatMap_cons]
    cases h34 : (c.toNat == 34) <;> cases h92 : (c.toNat == 92)
    · have he : esc c = [c] := by simp [esc, h34, h92]
      rw [he, List.append_assoc, List.singleton_append, splP, h34, h92]
      simp only [cond_false, Bool.and_false, Bool.not_true]
      rw [ih]; simp
    all_goals
      have he : esc c = [92, c] := by simp [esc, h34, h92]
      rw [he, List.append_assoc, List.cons_append, List.singleton_append, splP]
      simp only [cond_false, cond_true, Bool.true_and, show ((92 : UInt8).toNat == 92) = true from rfl]
      rw [splP, cond_true, ih]; simp
theorem spl_item {q : List UInt8} (h : goodQ q) (cur : List UInt8) (ls : List (List UInt8)) (rest : List UInt8) : splP 44 false false cur ls (q ++ rest) = splP 44 false false (cur ++ q) ls rest := by
  rcases h with h | ⟨l, _, rfl⟩
  · refine spl_run q cur ls rest fun c hc => ?_
    have hw := (token_all h).1 c hc
    refine ⟨(word_not hw).2.1, ?_⟩
    cases hb : (c.toNat == 44)
    · rfl
    · have : c = 44 := by rw [← UInt8.toNat_inj]; simpa using hb
      subst this; exact absurd hw (by decide)
  · rw [List.cons_append, List.append_assoc, splP]
    simp only [cond_false, Bool.false_and, show ((34 : UInt8).toNat == 34) = true from rfl, cond_true, Bool.not_false]
    rw [spl_in, List.singleton_append, splP]
    simp
theorem spl_comma (cur : List UInt8) (ls : List (List UInt8)) (rest : List UInt8) : splP 44 false false cur ls (44 :: rest) = splP 44 false false [] (addP ls (trimL cur)) rest := by
  rw [splP]; simp
theorem dw_app (p : UInt8 → Bool) : ∀ (g x : List UInt8), (∀ c ∈ g, p c = true) → (g ++ x).dropWhile p = x.dropWhile p
  | [], _, _ => rfl
  | c :: r, x, h => by rw [List.cons_append, List.dropWhile_cons_of_pos (h c (by simp)), dw_app p r x (fun y hy => h y (by simp [hy]))]
theorem good_ends {q : List UInt8} (h : goodQ q) : (∃ x y, q = x :: y ∧ blanks.contains x = false) ∧ ∃ x y, q.reverse = x :: y ∧ blanks.contains x = false := by
  rcases h with h | ⟨l, _, rfl⟩
  · have ht := token_all h
    constructor
    · cases q with
      | nil => exact absurd ht.2 (by decide)
      | cons x y => exact ⟨x, y, rfl, (word_not (ht.1 x (by simp))).1⟩
    · cases hr : q.reverse with
      | nil => rw [List.reverse_eq_nil_iff] at hr; subst hr; exact absurd ht.2 (by decide)
      | cons x y => exact ⟨x, y, rfl, (word_not (ht.1 x (by rw [← List.mem_reverse, hr]; simp))).1⟩
  · exact ⟨⟨34, _, rfl, by decide⟩, ⟨34, (l.flatMap esc).reverse ++ [34], by simp, by decide⟩⟩
theorem trim_good {q g g2 : List UInt8} (h : goodQ q) (hg : ∀ c ∈ g, blanks.contains c = true) (hg2 : ∀ c ∈ g2, blanks.contains c = true) : trimL ((g ++ q) ++ g2) = q := by
  obtain ⟨⟨x, y, e1, b1⟩, ⟨x2, y2, e2, b2⟩⟩ := good_ends h
  unfold trimL Lib.trimS Lib.trimLeftS Lib.trimRightS
  rw [List.reverse_append, dw_app _ _ _ (fun c hc => hg2 c (by simpa using hc)), List.reverse_append, e2, List.cons_append, List.dropWhile_cons_of_neg (by simp only [b2]; decide), ← List.cons_append, ← e2, ← List.reverse_append, List.reverse_reverse,
    dw_app _ _ _ hg, e1, List.dropWhile_cons_of_neg (by simp only [b1]; decide)]
theorem trim_blank (g : List UInt8) (hg : ∀ c ∈ g, blanks.contains c = true) : trimL g = [] := by
  unfold trimL Lib.trimS Lib.trimLeftS Lib.trimRightS
  have : g.reverse.dropWhile (fun x => blanks.contains x) = [] := by
    have := dw_app (fun x => blanks.contains x) g.reverse [] (fun c hc => hg c (by simpa using hc))
    rw [List.append_nil] at this; exact this
  rw [this]; rfl
theorem blank_not {c : UInt8} (h : blanks.contains c = true) : (c.toNat == 34) = false ∧ (c.toNat == 44) = false := by
  have : c = 32 ∨ c = 9 := by simpa [blanks] using h
  rcases this with e | e <;> subst e <;> exact ⟨rfl, rfl⟩
theorem addP_good {q : List UInt8} (h : goodQ q) (ls : List (List UInt8)) : addP ls q = ls ++ [q] := by
  obtain ⟨⟨x, y, rfl, _⟩, _⟩ := good_ends h
  rfl
theorem spl_tail (g : List UInt8) (hg : ∀ c ∈ g, blanks.contains c = true) : ∀ (r : List (List UInt8)) (q : List UInt8) (ls : List (List UInt8)), goodQ q → (∀ x ∈ r, goodQ x) →
    splP 44 false false (g ++ q) ls (Lib.joinTail (g ++ [44] ++ g) r ++ (g ++ [44])) = some (ls ++ q :: r)
  | [], q, ls, hq, _ => by
    have hr : Lib.joinTail (g ++ [44] ++ g) [] = [] := rfl
    rw [hr, List.nil_append, spl_run g _ _ _ (fun c hc => blank_not (hg c hc)), spl_comma, trim_good hq hg hg, addP_good hq]
    rfl
  | x :: r, q, ls, hq, hr => by
    have ih := spl_tail g hg r x (ls ++ [q]) (hr x (by simp)) (fun y hy => hr y (by simp [hy]))
    have hj : Lib.joinTail (g ++ [44] ++ g) (x :: r) = g ++ (44 :: (g ++ (x ++ Lib.joinTail (g ++ [44] ++ g) r))) := by
      simp [Lib.joinTail]
    rw [hj, List.append_assoc, spl_run g _ _ _ (fun c hc => blank_not (hg c hc)), List.cons_append, spl_comma, trim_good hq hg hg, addP_good hq, List.append_assoc, spl_run g _ _ _ (fun c hc => blank_not (hg c hc)), List.append_assoc, spl_item (hr x (by simp)), List.nil_append, ih]
    simp
theorem split_joined (g : List UInt8) (hg : ∀ c ∈ g, blanks.contains c = true) (ws : List (List UInt8)) (h : ∀ x ∈ ws, goodQ x) (hn : ws.length ≤ 64) :
    splitL 44 (((g ++ Lib.join ws (g ++ [44] ++ g)) ++ g) ++ [44]) = (ws, 0) := by
  have key : splP 44 false false [] [] (((g ++ Lib.join ws (g ++ [44] ++ g)) ++ g) ++ [44]) = some ws := by
    cases ws with
    | nil =>
      rw [Lib.join_nil, List.append_nil]
      have : (g ++ g) ++ [44] = (g ++ g) ++ (44 :: []) := rfl
      rw [this, spl_run (g ++ g) _ _ _ (fun c hc => blank_not (hg c (by simpa using hc))), spl_comma, List.nil_append, trim_blank _ (fun c hc => hg c (by simpa using hc))]
      rfl
    | cons q r =>
      have e : ((g ++ Lib.join (q :: r) (g ++ [44] ++ g)) ++ g) ++ [44] = g ++ (q ++ (Lib.joinTail (g ++ [44] ++ g) r ++ (g ++ [44]))) := by
        rw [Lib.join_cons]; simp
      rw [e, spl_run g _ _ _ (fun c hc => blank_not (hg c hc)), spl_item (h q (by simp)), List.nil_append, spl_tail g hg r q [] (h q (by simp)) (fun x hx => h x (by simp [hx]))]
      rfl
  unfold splitL
  rw [key, show ((44 : UInt8).toNat == 34 || (44 : UInt8).toNat == 92) = false from rfl]
  have : decide (64 < ws.length) = false := by simp; omega
  simp only [splitE, cond_false, this]
theorem repeat_blank (c : UInt8) (hc : blanks.contains c = true) : ∀ n, ∀ x ∈ Lib.repeatL [c] n, blanks.contains x = true
  | 0, x, h => by simp [Lib.repeatL] at h
  | n + 1, x, h => by
    rw [Lib.repeatL, List.singleton_append, List.mem_cons] at h
    rcases h with rfl | h
    · exact hc
    · exact repeat_blank c hc n x h
theorem good_quote {s : ByteArray} {q : List UInt8} (h : quoteO s = some q) : goodQ q := by
  unfold quoteO at h
  cases hp : s.data.toList.all plainb <;> rw [hp] at h <;> simp at h
  exact Or.inr ⟨_, hp, h.symm⟩
end Go.Proofs.YtlhfbikhlfgjbaaDoor
/- What came in, opened: texts and fields in slices; replies and entries by value. -/
namespace Go.Proofs.YtlhfbikhlfgjbaaDoor
open Go.ChangeShapes Go.WideShapes Go.RowKit
set_option maxRecDepth 100000

/-- The form's own reach: each string, slice and map within d. -/
def Reach {H : Type} (T : TypeId) (d : DataW H) : Prop := ∀ n ∈ d.weights Tryd.prog T, n ≤ reachBytes
theorem reach_each {H : Type} {ts : List TypeId} {ds : List (DataW H)} (h : (DataW.weightsEach Tryd.prog ts ds).all (· ≤ reachBytes) = true) {j : Nat} {t : TypeId} {d : DataW H} (ht : ts[j]? = some t) (hd : ds[j]? = some d) : Reach t d :=
  fun n hn => of_decide_eq_true (List.all_eq_true.1 h n (DataW.weights_mem_each ht hd n hn))
theorem reach_str {H : Type} {T : TypeId} {l : List UInt8} (h : Reach (H := H) T (.lit (.string l))) : l.length ≤ reachBytes := h _ (by simp [DataW.weights])
theorem weightsAll_mem' {H : Type} {e : TypeId} : ∀ {ds : List (DataW H)} {d : DataW H}, d ∈ ds → ∀ n ∈ d.weights Tryd.prog e, n ∈ DataW.weightsAll Tryd.prog e ds
  | x :: r, d, hd, n, hn => by
    simp only [DataW.weightsAll, List.mem_append]
    rcases List.mem_cons.1 hd with rfl | h
    · exact Or.inl hn
    · exact Or.inr (weightsAll_mem' h n hn)
theorem reach_elem {H : Type} {t e : TypeId} (hu : Tryd.prog.underlying t = some (.slice e)) {elems spare : List (DataW H)} (h : Reach t (.slice elems spare)) {d : DataW H} (hd : d ∈ elems) : Reach e d := by
  intro n hn
  refine h n ?_
  simp only [DataW.weights, hu, List.mem_cons, List.mem_append]
  exact Or.inr (Or.inl (weightsAll_mem' hd n hn))
theorem reach_len {H : Type} {t e : TypeId} (hu : Tryd.prog.underlying t = some (.slice e)) {elems spare : List (DataW H)} (h : Reach t (.slice elems spare)) : elems.length * Tryd.prog.bytesOf e ≤ reachBytes := by
  have := h ((elems.length + spare.length) * Tryd.prog.bytesOf e) (by simp [DataW.weights, hu])
  exact Nat.le_trans (Nat.mul_le_mul_right _ (by omega)) this
theorem reach_part {H : Type} {t : TypeId} {fs : Array Field} (hu : Tryd.prog.underlying t = some (.struct fs)) {parts : List (DataW H)} (h : Reach t (.agg parts)) {j : Nat} {f : Field} {d : DataW H} (hf : fs[j]? = some f) (hd : parts[j]? = some d) : Reach f.type d := by
  intro n hn
  refine h n ?_
  simp only [DataW.weights, hu]
  exact DataW.weights_mem_each (j := j) (by simp [hf]) hd n hn

theorem two_of {α : Type} : ∀ (l : List α), l.length = 2 → ∃ u v, l = [u, v]
  | [u, v], _ => ⟨u, v, rfl⟩
theorem exists_listL {α : Type} (n : Nat) (Pr : Nat → α → Prop) (h : ∀ i, i < n → ∃ x, Pr i x) : ∃ xs : List α, xs.length = n ∧ ∀ i (hi : i < xs.length), Pr i xs[i] := by
  induction n with
  | zero => exact ⟨[], rfl, fun i hi => by simp at hi⟩
  | succ n ih =>
    obtain ⟨xs, hl, hx⟩ := ih (fun i hi => h i (by omega))
    obtain ⟨x, hx1⟩ := h n (by omega)
    refine ⟨xs ++ [x], by simp [hl], fun i hi => ?_⟩
    rw [List.length_append, List.length_singleton] at hi
    by_cases hin : i < xs.length
    · rw [List.getElem_append_left hin]; exact hx i hin
    · have : i = n := by omega
      subst this
      rw [List.getElem_append_right (by omega)]
      simpa [hl] using hx1

section
variable {H : Type} {enc : TypeId × Value → H} {W : World}
/-- A slice of texts that came in. -/
theorem open_texts {fuel : Nat} {cs : List Value} {x : DataW H × List MemPlace} (h : DataW.trod enc Tryd.prog W 0 (fun _ => true) true fuel 34 cs = some x) (hr : Reach 34 x.1) :
    ∃ A n c ls, cs = [.slice A n c] ∧ Rd A n 1 (strsV ls) W ∧ n * 16 ≤ reachBytes ∧ ∀ l ∈ ls, l.length ≤ reachBytes := by
  rcases Go.Deep.open_slice Tryd.underlying34 h with ⟨rfl, rfl⟩ | ⟨a, len, cap, m, n, D, Pl, rfl, hb, hl, hm, hmm, rfl, hi⟩
  · exact ⟨none, 0, 0, [], rfl, Rd.nil, by decide, by simp⟩
  · simp only [if_true] at hmm
    subst hmm
    have hc1 : Tryd.prog.cellsOf 9 = 1 := by kernel_rfl
    have key : ∀ i, i < len → ∃ s : List UInt8, W.cell? (a.add i) = some (.string ⟨s.toArray⟩) ∧ D i = .lit (.string s) := by
      intro i hi'
      obtain ⟨cs', hcs, ht⟩ := hi i (by omega)
      rw [hc1, Nat.mul_one] at hcs
      obtain ⟨s, rfl, hx, _⟩ := DataW.trod_string Tryd.underlying9 ht
      obtain ⟨_, _, hat⟩ := World.cells?_some hcs
      refine ⟨s.data.toList, ?_, congrArg Prod.fst hx⟩
      have := hat 0 (by omega)
      rw [str_of]
      simpa [Addr.add] using this
    obtain ⟨ls, hll, hls⟩ := exists_listL len _ key
    refine ⟨some a, len, _, ls, rfl, ⟨by simp [strsV, hll], fun hn => ?_⟩, ?_, ?_⟩
    · have hspot : a.spot = none := by
        have := World.cell?_spot (hls 0 (by omega)).1
        simpa [Addr.add] using this
      obtain ⟨b, o, spot⟩ := a
      simp only at hspot
      subst hspot
      refine ⟨b, o, rfl, ?_, fun j u hu => ?_⟩
      · rcases Nat.lt_or_ge b W.heap.size with h' | h'
        · exact h'
        · have := (hls 0 (by omega)).1
          simp [World.cell?, Addr.add, Array.getElem?_eq_none h'] at this
      · have hj : j < ls.length := by have := (List.getElem?_eq_some_iff.1 hu).1; simpa [strsV] using this
        have h1 := (hls j hj).1
        have e : (⟨b, o, none⟩ : Addr).add j = ⟨b, o + j, none⟩ := by unfold Addr.add; split <;> simp_all
        rw [e] at h1
        rw [h1, ← hu]; simp [strsV, hj]
    · have := reach_len Tryd.underlying34 hr
      rw [List.length_map, List.length_range, show Tryd.prog.bytesOf 9 = 16 from by kernel_rfl] at this
      exact this
    · intro l hl'
      obtain ⟨i, hi', e⟩ := List.mem_iff_getElem.1 hl'
      have h2 := (hls i hi').2
      rw [e] at h2
      exact reach_str (reach_elem Tryd.underlying34 hr (List.mem_map.2 ⟨i, List.mem_range.2 (by omega), h2⟩))
theorem open_texts_v {base : Nat} {v : Value} {d : DataW H} {p : List MemPlace} (hv : Value.okWide Tryd.prog W .any base 34 v) (h : DataW.Trod enc Tryd.prog W 0 (fun _ => true) true 34 v d p) (hr : Reach 34 d) :
    ∃ A n c ls, v = .slice A n c ∧ Rd A n 1 (strsV ls) W ∧ n * 16 ≤ reachBytes ∧ ∀ l ∈ ls, l.length ≤ reachBytes := by
  obtain ⟨a0, len, cap, rfl⟩ := okWide_slice Tryd.underlying34 hv
  obtain ⟨fuel, hf⟩ := h
  have hf' : DataW.trod enc Tryd.prog W 0 (fun _ => true) true fuel 34 [.slice a0 len cap] = some (d, p) := hf
  obtain ⟨A, n, c, xs, e, r⟩ := open_texts hf' hr
  exact ⟨A, n, c, xs, (List.cons.inj e).1, r⟩
end
end Go.Proofs.YtlhfbikhlfgjbaaDoor
/- Many fields at once at the end of a row that the call made. -/
namespace Go.Proofs.YtlhfbikhlfgjbaaDoor
open Go.RowKit
set_option maxRecDepth 100000

theorem run_app_none {P : Program} (w : World) (base : Nat) (t ty e : TypeId) (i : TypeInfo) (size c : Nat) (ht : P.underlying t = some (.slice e)) (hi : P.info? e = some i)
    (v : Value) (n : Nat) (xs : List Value) (hown : w.ownsRow base e size v n xs) :
    (Builtin.append_ #[t, t] ty #[v, .slice none 0 c]).run P w = .ok v w := by
  rcases hown.2 with ⟨rfl, rfl⟩ | ⟨g, cap, cur, rfl, _, _, hnc, _⟩
  · simp [Builtin.append_, run_underlying ht, sizeOf, typeInfo, hi, Builtin.lenOf, Builtin.firstCells]
  · simp [Builtin.append_, run_underlying ht, sizeOf, typeInfo, hi, Builtin.lenOf, Builtin.firstCells, hnc, storeCells]
theorem fldsV_one (ys : List Fld) : ∀ u ∈ fldsV ys, u.oneCell' = true := by
  intro u hu
  unfold fldsV at hu
  obtain ⟨f, _, h⟩ := List.mem_flatMap.1 hu
  simp [fldV] at h
  rcases h with rfl | rfl <;> rfl
theorem fldsV_app (xs ys : List Fld) : fldsV (xs ++ ys) = fldsV xs ++ fldsV ys := by unfold fldsV; simp
theorem app_flds {ops : Array Oper} {rest : List Oper} {o : Oper} {a : Act} {Q : Exit → Act → World → Prop} (B : Nat) {w : World} {v : Value} {fs : List Fld} (hown : OwnF B v fs w) (hB : B ≤ w.heap.size)
    {A : Option Addr} {n c : Nat} {ys : List Fld} (hr : Rd A n 2 (fldsV ys) w) (hn : fs.length + n ≤ 1000000000)
    (hgd : o.guard = none) (s x : Operand) (ho : o.op = .call { callee := .builtin .append, args := #[s, x], argTypes := #[43, 43] })
    (hs : a.eval s = v) (hx : a.eval x = .slice A n c)
    (hK : ∀ v' w1, OwnF B v' (fs ++ ys) w1 → Below B w w1 → Far w w1 v v' → wpList Tryd.prog ops Q rest (a.put o.dst v') w1) :
    wpList Tryd.prog ops Q (o :: rest) a w := by
  obtain rfl := hr.fld
  obtain ⟨i0, hi, hz0, hz1, hz2⟩ := info_parts uFld
  have key : ∃ v' w1, (Builtin.append_ #[43, 43] o.type #[v, .slice A ys.length c]).run Tryd.prog w = .ok v' w1 ∧ OwnF B v' (fs ++ ys) w1 ∧ Below B w w1 ∧ Far w w1 v v' := by
    by_cases h0 : A = none
    · subst h0
      have hy : ys.length = 0 := by
        rcases Nat.eq_zero_or_pos ys.length with h | h
        · exact h
        · obtain ⟨b, o', e, _⟩ := hr.2 h; cases e
      have hy2 : ys = [] := List.eq_nil_of_length_eq_zero hy
      subst hy2
      refine ⟨v, w, run_app_none w B _ _ 45 i0 2 c Tryd.underlying43 hi v _ _ hown, by rw [List.append_nil]; exact hown, Below.refl _ _, ⟨⟨rfl, rfl, rfl, Nat.le_refl _, fun _ _ _ => rfl⟩, Or.inl rfl⟩⟩
    · obtain ⟨ad, rfl⟩ := Option.ne_none_iff_exists'.1 h0
      obtain ⟨v', w', hrun, h2, h3, _, h5⟩ := run_append_own_at (P := Tryd.prog) w B 43 o.type 45 i0 (.agg #[.string ByteArray.empty, .string ByteArray.empty]) 2 32 Tryd.underlying43 hi hz0 hz1 hz2 rfl (by decide) v fs.length (fldsV fs) hown ad ys.length c (fldsV ys) (by rw [fldsV_len]) (by
        intro j u hj
        have hjl : j < ys.length * 2 := by have := (List.getElem?_eq_some_iff.1 hj).1; rwa [fldsV_len] at this
        obtain ⟨b, o', e, _, hc⟩ := hr.2 (by omega)
        cases e
        have e2 : (⟨b, o', none⟩ : Addr).add j = ⟨b, o' + j, none⟩ := by unfold Addr.add; split <;> simp_all
        rw [e2]
        exact hc j u hj) (fldsV_one ys) (by unfold maxLen; omega) (by omega) hB
      refine ⟨v', w', hrun, ?_, (Below.refl B w).grown h3 hB (fun k hk => (World.ownsRow.lt hown k hk).1), ⟨h3, ?_⟩⟩
      · unfold OwnF
        rw [List.length_append, fldsV_app]
        exact h2
      · rcases h5 with h | h
        · exact Or.inl h
        · refine Or.inr fun g hg => ?_
          rw [h] at hg
          have := Option.some.inj hg
          omega
  obtain ⟨v', w1, hrun, h1, h2, h3⟩ := key
  refine wpList_plain hgd fun _ hK' => ?_
  unfold Oper.wp execOp
  simp only [ho, resolve, invoke, builtin, Sem.run_bind, Sem.run_pure, Result.andThen_ok, List.map_toArray, List.map_cons, List.map_nil, hs, hx, hrun]
  exact hK' _ _ (hK v' w1 h1 h2 h3)
end Go.Proofs.YtlhfbikhlfgjbaaDoor
/- Rows of fields and of texts that were just made. -/
namespace Go.Proofs.YtlhfbikhlfgjbaaDoor
open Go.RowKit
theorem Rd.newFs (w : World) (fs : List Fld) (T : TypeId) : Rd (some ⟨w.heap.size, 0, none⟩) fs.length 2 (fldsV fs) (w.alloc (.cells (fldsV fs).toArray T)) := by
  refine ⟨fldsV_len fs, fun _ => ⟨w.heap.size, 0, rfl, by simp, fun j u hu => ?_⟩⟩
  rw [Nat.zero_add, World.cell?_alloc_mark]
  simpa using hu
end Go.Proofs.YtlhfbikhlfgjbaaDoor
