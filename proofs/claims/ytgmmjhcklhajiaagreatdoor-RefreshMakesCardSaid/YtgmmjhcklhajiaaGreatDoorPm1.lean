/- Joined out of the texts Kit, EntV, Rd, Own, OwnF, Box8, ResOne, Of20, Many, ManyS, Beside, Spec1, FieldSpec, Kept, Lower, Same, RLow, Del04, Set04, Values, Trim, SplitSpec, StaysSpec, Join, SumF, Get, SetsSpec, SplitFew, HopSpec, TokLow, Split, RTrim, SplitR, Token, RTok, RValues, Hop04 (wip/tools/merge.py). -/
import Derived.Test.YtgmmjhcklhajiaaGreatDoorRows
import Derived.WalkKit
import Derived.WalkSpells
import Derived.WalkLawsBesides
import Derived.Deep.DeepCutAuto
import Derived.Deep.QuietTactic
import Derived.BigQuiet
import Derived.Lib.Hide
import Derived.Lib.Strings
import Derived.Maps.AppendAt
import Derived.Laws.ResultCell
import Derived.Deep.RegionLaw
import Derived.BigRegion
import Derived.IntWalk
import Derived.Laws.OwnMore
import Derived.Lib.Join
import Derived.Test.YtgmmjhcklhajiaaGreatDoorShelf
import Derived.Lib.SlBytesRow
import Derived.Lib.IndexLaws
import Derived.Laws.BytesArg
import Derived.Deep.RegionHeld3
import Derived.Shelf.Strings.SlTrimAscii
import Derived.Lib.IndexMore
import Derived.Deep.OwnRows
/- Small lemmas that all walks of this seat use. -/
namespace Go.Proofs.YtgmmjhcklhajiaaGreatDoor
open Go.RowKit

/-- One call behind the other: nothing that was there at the first has turned. -/
theorem bt {w w1 w2 : World} (h : Below w.heap.size w w1) (k : Below w1.heap.size w1 w2) : Below w.heap.size w w2 := h.trans (k.mono h.size)
theorem ret_int {k : IntKind} {a b : Int} (h : a = b) : Ending.returned (.int k a) = .returned (.int k b) := by rw [h]

/-! Bytes of a string, from the front and to the end. -/
theorem take_snoc (s : ByteArray) (k : Nat) (h : k < s.size) : s.data.toList.take (k + 1) = s.data.toList.take k ++ [s[k]] := by
  rw [List.take_succ_eq_append_getElem (by simpa using h)]; rfl
theorem drop_cons (s : ByteArray) (k : Nat) (h : k < s.size) : s.data.toList.drop k = s[k] :: s.data.toList.drop (k + 1) := by
  rw [List.drop_eq_getElem_cons (by simpa using h)]; rfl
theorem take_all (s : ByteArray) (k : Nat) (h : s.size ≤ k) : s.data.toList.take k = s.data.toList := List.take_of_length_le (by simpa using h)
theorem drop_all (s : ByteArray) (k : Nat) (h : s.size ≤ k) : s.data.toList.drop k = [] := List.drop_eq_nil_of_le (by simpa using h)
theorem all_snoc (p : UInt8 → Bool) (s : ByteArray) (k : Nat) (h : k < s.size) :
    (s.data.toList.take (k + 1)).all p = ((s.data.toList.take k).all p && p s[k]) := by
  rw [take_snoc s k h, List.all_append]; simp
theorem all_bad (p : UInt8 → Bool) (s : ByteArray) (k : Nat) (h : k < s.size) (hb : p s[k] = false) : s.data.toList.all p = false := by
  rw [List.all_eq_false]
  exact ⟨s[k], by show s.data[k] ∈ _; simp, by simp [hb]⟩
theorem str_of (s : ByteArray) : (⟨s.data.toList.toArray⟩ : ByteArray) = s := Lib.mk_data s
theorem str_eq (s t : ByteArray) (h : s.data.toList = t.data.toList) : s = t := by rw [← str_of s, ← str_of t, h]
theorem app_list (o t : ByteArray) : (o ++ t).data.toList = o.data.toList ++ t.data.toList := by simp
theorem ext_one (s : ByteArray) (k : Nat) (h : k < s.size) : (s.extract k (k + 1)).data.toList = [s[k]] := by
  rw [Lib.extract_data, drop_cons s k h]; simp
theorem str_list {o : ByteArray} {l : List UInt8} (h : o.data.toList = l) : o = ⟨l.toArray⟩ := by rw [← h, str_of]
theorem beq_cast (a b : Nat) : (a == b) = ((a : Int) == (b : Int)) := by rw [Bool.eq_iff_iff]; simp only [beq_iff_eq]; omega
theorem mk_at (t : ByteArray) (l : List UInt8) (ht : t = ⟨l.toArray⟩) (j : Nat) (h : j < t.size) (h' : j < l.length) : t[j] = l[j] := by
  subst ht; show (l.toArray)[j] = _; simp
theorem at_list (s : ByteArray) (j : Nat) (h : j < s.size) : s[j] = s.data.toList[j]'(by simpa using h) := by show s.data[j] = _; simp
theorem ne_of_pos (s : ByteArray) (h : 0 < s.size) : s.data.toList.isEmpty = false := by
  cases hq : s.data.toList with
  | nil => rw [Lib.size_eq, hq] at h; exact absurd h (by simp)
  | cons _ _ => rfl
theorem nil_of_zero (s : ByteArray) (h : ¬ 0 < s.size) : s.data.toList = [] := by
  apply List.eq_nil_of_length_eq_zero; rw [← Lib.size_eq]; omega
theorem heap_new (w : World) (o : Obj) (n : Nat) (h : w.heap.size = n) : (w.alloc o).heap[n]? = some o := by
  subst h; show (w.heap.push o)[w.heap.size]? = _; simp
theorem empty_eq : (ByteArray.empty : ByteArray) = ⟨#[]⟩ := rfl
theorem u8_lt (c : UInt8) : (c.toNat : Int) < 256 := by have := c.toNat_lt; omega
end Go.Proofs.YtgmmjhcklhajiaaGreatDoor
/- An entry, by value. -/
namespace Go.Proofs.YtgmmjhcklhajiaaGreatDoor
open Go.RowKit
/-- An entry, by value. -/
def entV (st : Int) (re : ByteArray) (mi : Int) (A : Option Addr) (n c : Nat) (bo : ByteArray) (asked got : Int) (V : Option Addr) (m d : Nat) : Value := .agg #[.int .i64 st, .string re, .int .i64 mi, .slice A n c, .string bo, .int .i64 asked, .int .i64 got, .slice V m d]
end Go.Proofs.YtgmmjhcklhajiaaGreatDoor
/- What a slice that is read holds, wherever it came from: plain words on memory; lists of texts and of fields. -/
namespace Go.Proofs.YtgmmjhcklhajiaaGreatDoor
open Go.RowKit

/-- n elements, 'size' cells each, lie behind A. -/
def Rd (A : Option Addr) (n size : Nat) (xs : List Value) (w : World) : Prop :=
  xs.length = n * size ∧ (0 < n → ∃ b o, A = some ⟨b, o, none⟩ ∧ b < w.heap.size ∧ ∀ j u, xs[j]? = some u → w.cell? ⟨b, o + j, none⟩ = some u)
theorem Rd.nil {A : Option Addr} {size : Nat} {w : World} : Rd A 0 size [] w := ⟨by simp, fun h => absurd h (by omega)⟩
theorem Rd.below {A : Option Addr} {n size : Nat} {xs : List Value} {w w' : World} (h : Rd A n size xs w) (hb : Below w.heap.size w w') : Rd A n size xs w' := by
  refine ⟨h.1, fun hn => ?_⟩
  obtain ⟨b, o, e, hl, hc⟩ := h.2 hn
  exact ⟨b, o, e, by have := hb.size; omega, fun j u hu => (hb.cell (p := ⟨b, o + j, none⟩) hl).trans (hc j u hu)⟩
theorem Rd.of_own {B : Nat} {e : TypeId} {size : Nat} {a : Option Addr} {m n cap : Nat} {xs : List Value} {w : World} (h : w.ownsRow B e size (.slice a m cap) n xs) : m = n ∧ Rd a n size xs w := by
  obtain ⟨h1, h2⟩ := h
  rcases h2 with ⟨hv, h0⟩ | ⟨g, cp, cur, hv, hg, hh, hn, hm, hs, hx⟩
  · cases hv; exact ⟨h0.symm, h1, fun hn => by omega⟩
  · cases hv
    refine ⟨rfl, h1, fun _ => ⟨g, 0, rfl, ?_, fun j u hu => ?_⟩⟩
    · rcases Nat.lt_or_ge g w.heap.size with h' | h'
      · exact h'
      · simp [Array.getElem?_eq_none h'] at hh
    · have hj : j < m * size := by
        have := (List.getElem?_eq_some_iff.1 hu).1; omega
      have h3 : cur[j]? = some u := by
        rw [← hu, ← hx, List.getElem?_take_of_lt hj, Array.getElem?_toList]
      rw [Nat.zero_add]
      simp only [World.cell?, hh]
      exact h3

/-- Texts as values. -/
def strsV (ls : List (List UInt8)) : List Value := ls.map fun l => Value.string ⟨l.toArray⟩
theorem Rd.str {A : Option Addr} {n : Nat} {ls : List (List UInt8)} {w : World} (h : Rd A n 1 (strsV ls) w) : n = ls.length := by
  have := h.1; unfold strsV at this; simpa using this.symm
theorem Rd.str_at {A : Option Addr} {n k : Nat} {ls : List (List UInt8)} {w : World} (h : Rd A n 1 (strsV ls) w) (hk : k < ls.length) :
    ∃ b o, A = some ⟨b, o, none⟩ ∧ b < w.heap.size ∧ w.cell? ⟨b, o + k, none⟩ = some (.string ⟨(ls[k]).toArray⟩) := by
  obtain ⟨b, o, e, hl, hc⟩ := h.2 (by rw [h.str]; omega)
  exact ⟨b, o, e, hl, hc k _ (by simp [strsV, hk])⟩

/-- A header field. -/
abbrev Fld := List UInt8 × List UInt8
def fldV (f : Fld) : List Value := [.string ⟨f.1.toArray⟩, .string ⟨f.2.toArray⟩]
def fldsV (xs : List Fld) : List Value := xs.flatMap fldV
theorem fldsV_len (xs : List Fld) : (fldsV xs).length = xs.length * 2 := by
  unfold fldsV
  induction xs with
  | nil => rfl
  | cons x r ih => rw [List.flatMap_cons, List.length_append, ih, List.length_cons]; show 2 + _ = _; omega
theorem fldsV_at : ∀ (xs : List Fld) (k : Nat) (hk : k < xs.length), (fldsV xs)[k * 2]? = some (.string ⟨(xs[k]).1.toArray⟩) ∧ (fldsV xs)[k * 2 + 1]? = some (.string ⟨(xs[k]).2.toArray⟩)
  | [], k, hk => by simp at hk
  | x :: r, 0, _ => by unfold fldsV; simp [fldV]
  | x :: r, k + 1, hk => by
    have ih := fldsV_at r k (by simpa using hk)
    unfold fldsV at ih ⊢
    rw [List.flatMap_cons, show (k + 1) * 2 = k * 2 + 2 from by omega]
    have e : ∀ j, (fldV x ++ r.flatMap fldV)[j + 2]? = (r.flatMap fldV)[j]? := fun j => by rw [List.getElem?_append_right (by show 2 ≤ _; omega)]; rfl
    rw [show k * 2 + 2 + 1 = (k * 2 + 1) + 2 from by omega, e, e]
    simpa using ih
theorem Rd.fld {A : Option Addr} {n : Nat} {xs : List Fld} {w : World} (h : Rd A n 2 (fldsV xs) w) : n = xs.length := by
  have := h.1; rw [fldsV_len] at this; omega
theorem Rd.fld_at {A : Option Addr} {n k : Nat} {xs : List Fld} {w : World} (h : Rd A n 2 (fldsV xs) w) (hk : k < xs.length) :
    ∃ b o, A = some ⟨b, o, none⟩ ∧ b < w.heap.size ∧ w.cell? ⟨b, o + k * 2, none⟩ = some (.string ⟨(xs[k]).1.toArray⟩) ∧ w.cell? ⟨b, o + k * 2 + 1, none⟩ = some (.string ⟨(xs[k]).2.toArray⟩) := by
  obtain ⟨b, o, e, hl, hc⟩ := h.2 (by rw [h.fld]; omega)
  have := fldsV_at xs k hk
  exact ⟨b, o, e, hl, hc _ _ this.1, hc _ _ this.2⟩
end Go.Proofs.YtgmmjhcklhajiaaGreatDoor
/- Texts in a slice that the call made; blocks of one cell. -/
namespace Go.Proofs.YtgmmjhcklhajiaaGreatDoor
open Go.RowKit

theorem uStr : (Tryz.prog.info? 9).map (fun i => (i.zero, i.size, i.bytes)) = some (some (.string ByteArray.empty), 1, 16) := by kernel_rfl
/-- A slice of texts that the call made. -/
def OwnS (B : Nat) (v : Value) (ls : List (List UInt8)) (w : World) : Prop := w.ownsRow B 9 1 v ls.length (ls.map fun l => Value.string ⟨l.toArray⟩)
theorem OwnS.shape {B : Nat} {v : Value} {ls : List (List UInt8)} {w : World} (h : OwnS B v ls w) : ∃ a cap, v = .slice a ls.length cap := by
  rcases h.2 with ⟨rfl, h0⟩ | ⟨g, cap, cur, rfl, _⟩
  · exact ⟨none, 0, by rw [h0]⟩
  · exact ⟨_, _, rfl⟩

theorem own_below {B : Nat} {e : TypeId} {size : Nat} {v : Value} {n : Nat} {xs : List Value} {w w1 : World} (h : w.ownsRow B e size v n xs) (hb : Below w.heap.size w w1) : w1.ownsRow B e size v n xs := by
  obtain ⟨h1, h2⟩ := h
  refine ⟨h1, ?_⟩
  rcases h2 with h2 | ⟨g, cap, cur, hv, hg, hh, r⟩
  · exact Or.inl h2
  · refine Or.inr ⟨g, cap, cur, hv, hg, ?_, r⟩
    have hlt : g < w.heap.size := by
      rcases Nat.lt_or_ge g w.heap.size with h' | h'
      · exact h'
      · simp [Array.getElem?_eq_none h'] at hh
    rw [hb.block g hlt]; exact hh
theorem OwnS.below {B : Nat} {v : Value} {ls : List (List UInt8)} {w w1 : World} (h : OwnS B v ls w) (hb : Below w.heap.size w w1) : OwnS B v ls w1 := own_below h hb
theorem of_heap {w : World} {b : Nat} {cs : Array Value} {T : TypeId} (h : w.heap[b]? = some (.cells cs T (0, 0))) (j : Nat) : w.cell? ⟨b, j, none⟩ = cs[j]? ∧ w.frozen? ⟨b, j, none⟩ = false ∧ b < w.heap.size := by
  refine ⟨by simp [World.cell?, h], by simp [World.frozen?, h], ?_⟩
  rcases Nat.lt_or_ge b w.heap.size with h' | h'
  · exact h'
  · simp [Array.getElem?_eq_none h'] at h
theorem heap_set {w : World} {b : Nat} {v u : Value} {T : TypeId} (h : w.heap[b]? = some (.cells #[u] T (0, 0))) : (w.setCell ⟨b, 0, none⟩ v).heap[b]? = some (.cells #[v] T (0, 0)) := by
  simp [World.setCell, Array.getElem?_modify, h]

theorem heap_set2 {w : World} {b c : Nat} {v u x : Value} {T : TypeId} (hne : c ≠ b) (h : w.heap[b]? = some (.cells #[u] T (0, 0))) : ((w.setCell ⟨b, 0, none⟩ v).setCell ⟨c, 0, none⟩ x).heap[b]? = some (.cells #[v] T (0, 0)) := by
  rw [Below.heap_setCell _ _ _ _ (by show b ≠ c; omega)]; exact heap_set h
theorem OwnS.cell {B n cap : Nat} {a : Option Addr} {ls : List (List UInt8)} {w : World} (h : OwnS B (.slice a n cap) ls w) (j : Nat) (hj : j < ls.length) :
    ∃ g, a = some ⟨g, 0, none⟩ ∧ w.cell? ⟨g, j, none⟩ = some (.string ⟨ls[j].toArray⟩) ∧ w.frozen? ⟨g, j, none⟩ = false := by
  rcases h.2 with ⟨_, h0⟩ | ⟨g, cp, cur, hv, hg, hh, hn, hc, hs, hx⟩
  · omega
  · cases hv
    refine ⟨g, rfl, ?_, by simp [World.frozen?, hh]⟩
    have h1 : cur[j]? = (cur.toList.take (ls.length * 1))[j]? := by
      rw [List.getElem?_take_of_lt (by omega), Array.getElem?_toList]
    have h2 : cur[j]? = some (.string ⟨ls[j].toArray⟩) := by
      rw [h1, hx, List.getElem?_map, List.getElem?_eq_getElem hj]; rfl
    simp only [World.cell?, hh]
    exact h2
theorem OwnS.base {B B' : Nat} {v : Value} {ls : List (List UInt8)} {w : World} (h : OwnS B v ls w) (hB : B' ≤ B) : OwnS B' v ls w := by
  refine ⟨h.1, ?_⟩
  rcases h.2 with h | ⟨g, cp, cur, hv, hg, r⟩
  · exact Or.inl h
  · exact Or.inr ⟨g, cp, cur, hv, by omega, r⟩
theorem OwnS.room {B n cap : Nat} {a : Option Addr} {ls : List (List UInt8)} {w : World} (h : OwnS B (.slice a n cap) ls w) : n = ls.length ∧ n ≤ cap ∧ (0 < n → ∃ g, a = some ⟨g, 0, none⟩ ∧ g < w.heap.size) := by
  rcases h.2 with ⟨hv, h0⟩ | ⟨g, cp, cur, hv, hg, hh, hn, hc, hs, hx⟩
  · cases hv; exact ⟨by omega, by omega, fun h => by omega⟩
  · cases hv
    refine ⟨rfl, hn, fun _ => ⟨g, rfl, ?_⟩⟩
    rcases Nat.lt_or_ge g w.heap.size with h' | h'
    · exact h'
    · simp [Array.getElem?_eq_none h'] at hh

/-! One element more at the end of a row that the call made. -/
/-- What an append leaves alone, and where the new row lies. -/
def Far (w w1 : World) (v v' : Value) : Prop := w.grownBy w1 v.ownBlock ∧ (v'.ownBlock = v.ownBlock ∨ ∀ g, v'.ownBlock = some g → w.heap.size ≤ g)
theorem wp_app_one {P : Program} {o : Oper} {a : Act} {K : Act → World → Prop} {Q : Exit → Act → World → Prop} (s x : Operand) (T E : TypeId)
    (ho : o.op = .call { callee := .builtin .append, args := #[s, x], argTypes := #[T, T] }) {z : Value} {size bytes : Nat} (ht : P.underlying T = some (.slice E)) (hinf : (P.info? E).map (fun i => (i.zero, i.size, i.bytes)) = some (some z, size, bytes))
    (hzs : z.cells.size = size) (hsz : 0 < size) (hbs : bytes ≤ 1000) {w wx : World} (B g : Nat) {v : Value} {n : Nat} {xs : List Value} (news : List Value) (hl : news.length = size) (h1 : ∀ u ∈ news, u.oneCell' = true)
    (hs : a.eval s = v) (hx : a.eval x = .slice (some ⟨g, 0, none⟩) 1 1) (hown : wx.ownsRow B E size v n xs) (hB : B ≤ w.heap.size) (hn : n ≤ 1000000000)
    (hc : ∀ j : Nat, wx.cell? ⟨g, j, none⟩ = news[j]?) (hwx : Below w.heap.size w wx)
    (hK : ∀ v' w1, w1.ownsRow B E size v' (n + 1) (xs ++ news) → Below B w w1 → Far wx w1 v v' → K (a.put o.dst v') w1) :
    o.wp P a wx K Q := by
  obtain ⟨i0, hi, hz0, hz1, hz2⟩ := info_parts hinf
  have hby : (n + 1) * bytes ≤ 1000000001 * 1000 := Nat.mul_le_mul (by omega) hbs
  have hsz2 := hwx.size
  obtain ⟨v', w', hr, h2, h3, _, h5⟩ := run_append_own_at (P := P) wx B T o.type E i0 z size bytes ht hi hz0 hz1 hz2 hzs hsz v n xs hown ⟨g, 0, none⟩ 1 1 news (by omega) (by
    intro j u hj
    have e : (⟨g, 0, none⟩ : Addr).add j = ⟨g, j, none⟩ := by
      unfold Addr.add; split <;> simp_all
    rw [e, hc, hj]) h1 (by unfold maxLen; omega) (by omega) (by omega)
  unfold Oper.wp execOp
  simp only [ho, resolve, invoke, builtin, Sem.run_bind, Sem.run_pure, Result.andThen_ok, List.map_toArray, List.map_cons, List.map_nil, hs, hx, hr]
  refine hK _ _ h2 ?_ ⟨h3, ?_⟩
  · exact (hwx.mono hB).grown h3 (by omega) (fun k hk => (hown.lt k hk).1)
  · rcases h5 with h | h
    · exact Or.inl h
    · refine Or.inr fun g hg => ?_
      rw [h] at hg
      have := Option.some.inj hg
      omega
theorem far_alloc {w w1 : World} {o : Obj} {v v' : Value} (h : Far (w.alloc o) w1 v v') : Far w w1 v v' := by
  obtain ⟨hgrow, hwhere⟩ := h
  have h0 := World.grownBy_alloc w o v.ownBlock
  refine ⟨⟨hgrow.os.trans h0.os, hgrow.tape.trans h0.tape, hgrow.output.trans h0.output, Nat.le_trans h0.size hgrow.size, fun k hk hne => (hgrow.block k (Nat.lt_of_lt_of_le hk h0.size) hne).trans (h0.block k hk hne)⟩, ?_⟩
  rcases hwhere with h | h
  · exact Or.inl h
  · exact Or.inr fun g hg => Nat.le_trans h0.size (h g hg)
theorem app_one {P : Program} {ops : Array Oper} {rest : List Oper} {o : Oper} {a : Act} {Q : Exit → Act → World → Prop} (hgd : o.guard = none) (s x : Operand) (T E : TypeId)
    (ho : o.op = .call { callee := .builtin .append, args := #[s, x], argTypes := #[T, T] }) {z : Value} {size bytes : Nat} (ht : P.underlying T = some (.slice E)) (hinf : (P.info? E).map (fun i => (i.zero, i.size, i.bytes)) = some (some z, size, bytes))
    (hzs : z.cells.size = size) (hsz : 0 < size) (hbs : bytes ≤ 1000) {w : World} (B : Nat) {v : Value} {n : Nat} {xs : List Value} (news : List Value) (hl : news.length = size) (h1 : ∀ u ∈ news, u.oneCell' = true)
    (hs : a.eval s = v) (hx : a.eval x = .slice (some ⟨w.heap.size, 0, none⟩) 1 1) (hown : w.ownsRow B E size v n xs) (hB : B ≤ w.heap.size) (hn : n ≤ 1000000000)
    (hK : ∀ v' w1, w1.ownsRow B E size v' (n + 1) (xs ++ news) → Below B w w1 → Far w w1 v v' → wpList P ops Q rest (a.put o.dst v') w1) :
    wpList P ops Q (o :: rest) a (w.alloc (.cells news.toArray E)) :=
  wpList_plain hgd fun _ hK' => wp_app_one s x T E ho ht hinf hzs hsz hbs B w.heap.size news hl h1 hs hx (hown.alloc _) hB hn (fun j => by rw [World.cell?_alloc_mark]; simp) ((Below.refl _ w).alloc (Nat.le_refl _) _)
    fun v' w1 h2 h3 h4 => hK' _ _ (hK v' w1 h2 h3 (far_alloc h4))
/-- The same in a region that draws its order: the block lies behind a draw. -/
theorem step_app_one {P : Program} {ops : Array Oper} {o : Oper} {a : Act} {K : Act → World → Prop} {Q : Exit → Act → World → Prop} {G : Prop} (hgd : o.guard = none) (s x : Operand) (T E : TypeId)
    (ho : o.op = .call { callee := .builtin .append, args := #[s, x], argTypes := #[T, T] }) {z : Value} {size bytes : Nat} (ht : P.underlying T = some (.slice E)) (hinf : (P.info? E).map (fun i => (i.zero, i.size, i.bytes)) = some (some z, size, bytes))
    (hzs : z.cells.size = size) (hsz : 0 < size) (hbs : bytes ≤ 1000) {w : World} (B : Nat) {v : Value} {n : Nat} {xs : List Value} (news : List Value) (hl : news.length = size) (h1 : ∀ u ∈ news, u.oneCell' = true)
    (hs : a.eval s = v) (hx : a.eval x = .slice (some ⟨w.heap.size, 0, none⟩) 1 1) (hown : w.ownsRow B E size v n xs) (hB : B ≤ w.heap.size) (hn : n ≤ 1000000000)
    (hK : ∀ v' w1, w1.ownsRow B E size v' (n + 1) (xs ++ news) → Below B w w1 → Far w w1 v v' → K (a.put o.dst v') w1) :
    if Region.wanted o (yielded ops a.tmps) = true then Oper.wp P o a (w.alloc (.cells news.toArray E)) K Q else G := by
  have hw : Region.wanted o (yielded ops a.tmps) = true := by simp [Region.wanted, hgd]
  rw [if_pos hw]
  exact wp_app_one s x T E ho ht hinf hzs hsz hbs B w.heap.size news hl h1 hs hx (hown.alloc _) hB hn (fun j => by rw [World.cell?_alloc_mark]; simp) ((Below.refl _ w).alloc (Nat.le_refl _) _)
    fun v' w1 h2 h3 h4 => hK v' w1 h2 h3 (far_alloc h4)
theorem app_str {ops : Array Oper} {rest : List Oper} {o : Oper} {a : Act} {Q : Exit → Act → World → Prop} (B : Nat) (y : List UInt8) {w : World} {v : Value} {ls : List (List UInt8)} (hown : OwnS B v ls w) (hB : B ≤ w.heap.size) (hn : ls.length ≤ 1000000000)
    (hgd : o.guard = none) (s x : Operand) (ho : o.op = .call { callee := .builtin .append, args := #[s, x], argTypes := #[57, 57] })
    (hs : a.eval s = v) (hx : a.eval x = .slice (some ⟨w.heap.size, 0, none⟩) 1 1)
    (hK : ∀ v' w1, OwnS B v' (ls ++ [y]) w1 → Below B w w1 → Far w w1 v v' → wpList Tryz.prog ops Q rest (a.put o.dst v') w1) :
    wpList Tryz.prog ops Q (o :: rest) a (w.alloc (.cells #[.string ⟨y.toArray⟩] 9)) := by
  refine app_one (z := .string ByteArray.empty) (bytes := 16) (n := ls.length) hgd s x 57 9 ho Tryz.underlying57 uStr rfl (by decide) (by decide) B [.string ⟨y.toArray⟩] rfl (by intro u hu; simp at hu; subst hu; rfl) hs hx hown hB hn ?_
  intro v' w1 h1 h2 h3
  refine hK v' w1 ?_ h2 h3
  show World.ownsRow _ _ _ _ _ _ _
  rw [List.length_append, List.length_singleton, List.map_append]
  exact h1
theorem OwnS.drew {B : Nat} {v : Value} {ls : List (List UInt8)} {w : World} (h : OwnS B v ls w) : OwnS B v ls w.drew := h
theorem OwnS.nil (B : Nat) (w : World) : OwnS B (.slice none 0 0) [] w := World.ownsRow_nil _ _ _ _
/-- Texts that are handed back in a slice of the call's own. -/
def TextsPost (w : World) (ls : List (List UInt8)) (e : Ending) (w' : World) : Prop :=
  ∃ a cap, e = .returned (.slice a ls.length cap) ∧ OwnS w.heap.size (.slice a ls.length cap) ls w' ∧ Below w.heap.size w w'
theorem OwnS.rd {B m cap : Nat} {a : Option Addr} {ls : List (List UInt8)} {w : World} (h : OwnS B (.slice a m cap) ls w) : m = ls.length ∧ Rd a ls.length 1 (strsV ls) w := Rd.of_own h
/-- v's row is none of those that lie behind A. -/
def Sep (v : Value) (A : Option Addr) (n : Nat) : Prop := 0 < n → ∀ g o, A = some ⟨g, o, none⟩ → v.ownBlock ≠ some g
theorem Rd.far {A : Option Addr} {n size : Nat} {xs : List Value} {w w1 : World} {v v' : Value} (h : Rd A n size xs w) (hf : Far w w1 v v') (hs : Sep v A n) : Rd A n size xs w1 ∧ Sep v' A n := by
  refine ⟨⟨h.1, fun hn => ?_⟩, fun hn g o e => ?_⟩
  · obtain ⟨b, o, e, hl, hc⟩ := h.2 hn
    have hb := hf.1.block b hl (fun x => hs hn b o e x.symm)
    exact ⟨b, o, e, Nat.lt_of_lt_of_le hl hf.1.size, fun j u hu => (World.cell?_of_block (a := ⟨b, o + j, none⟩) hb).trans (hc j u hu)⟩
  · obtain ⟨b, o', e', hl, _⟩ := h.2 hn
    rw [e'] at e
    cases e
    rcases hf.2 with h2 | h2
    · rw [h2]; exact hs hn _ _ e'
    · intro x; have := h2 _ x; omega
/-- What lies in new blocks is none of an elder row. -/
theorem Sep.new {v : Value} {B n : Nat} {e : TypeId} {m size : Nat} {xs : List Value} {w : World} {A : Option Addr} (h : w.ownsRow B e size v m xs) (ha : ∀ g o, A = some ⟨g, o, none⟩ → w.heap.size ≤ g) : Sep v A n := by
  intro _ g o e x
  have := (h.lt g x).2
  have := ha g o e
  omega
theorem own_new {B : Nat} {e : TypeId} {size : Nat} {a : Option Addr} {m n cap : Nat} {xs : List Value} {w : World} (h : w.ownsRow B e size (.slice a m cap) n xs) : ∀ g o, a = some ⟨g, o, none⟩ → B ≤ g := by
  intro g o e
  exact (h.lt g (by rw [e]; rfl)).1
end Go.Proofs.YtgmmjhcklhajiaaGreatDoor
/- Fields in a slice that the call made. -/
namespace Go.Proofs.YtgmmjhcklhajiaaGreatDoor
open Go.RowKit

theorem uFld : (Tryz.prog.info? 55).map (fun i => (i.zero, i.size, i.bytes)) = some (some (.agg #[.string ByteArray.empty, .string ByteArray.empty]), 2, 32) := by kernel_rfl
def OwnF (B : Nat) (v : Value) (fs : List Fld) (w : World) : Prop := w.ownsRow B 55 2 v fs.length (fldsV fs)
theorem OwnF.shape {B : Nat} {v : Value} {fs : List Fld} {w : World} (h : OwnF B v fs w) : ∃ a cap, v = .slice a fs.length cap := by
  rcases h.2 with ⟨rfl, h0⟩ | ⟨g, cap, cur, rfl, _⟩
  · exact ⟨none, 0, by rw [h0]⟩
  · exact ⟨_, _, rfl⟩
theorem OwnF.below {B : Nat} {v : Value} {fs : List Fld} {w w1 : World} (h : OwnF B v fs w) (hb : Below w.heap.size w w1) : OwnF B v fs w1 := own_below h hb
theorem OwnF.drew {B : Nat} {v : Value} {fs : List Fld} {w : World} (h : OwnF B v fs w) : OwnF B v fs w.drew := h
theorem OwnF.nil (B : Nat) (w : World) : OwnF B (.slice none 0 0) [] w := World.ownsRow_nil _ _ _ _
theorem OwnF.rd {B m cap : Nat} {a : Option Addr} {fs : List Fld} {w : World} (h : OwnF B (.slice a m cap) fs w) : m = fs.length ∧ Rd a fs.length 2 (fldsV fs) w := Rd.of_own h
theorem OwnF.base {B B' : Nat} {v : Value} {fs : List Fld} {w : World} (h : OwnF B v fs w) (hB : B' ≤ B) : OwnF B' v fs w := by
  refine ⟨h.1, ?_⟩
  rcases h.2 with h | ⟨g, cp, cur, hv, hg, r⟩
  · exact Or.inl h
  · exact Or.inr ⟨g, cp, cur, hv, by omega, r⟩
theorem app_fld {ops : Array Oper} {rest : List Oper} {o : Oper} {a : Act} {Q : Exit → Act → World → Prop} (B : Nat) (y : Fld) {w : World} {v : Value} {fs : List Fld} (hown : OwnF B v fs w) (hB : B ≤ w.heap.size) (hn : fs.length ≤ 1000000000)
    (hgd : o.guard = none) (s x : Operand) (ho : o.op = .call { callee := .builtin .append, args := #[s, x], argTypes := #[22, 22] })
    (hs : a.eval s = v) (hx : a.eval x = .slice (some ⟨w.heap.size, 0, none⟩) 1 1)
    (hK : ∀ v' w1, OwnF B v' (fs ++ [y]) w1 → Below B w w1 → Far w w1 v v' → wpList Tryz.prog ops Q rest (a.put o.dst v') w1) :
    wpList Tryz.prog ops Q (o :: rest) a (w.alloc (.cells #[.string ⟨y.1.toArray⟩, .string ⟨y.2.toArray⟩] 55)) := by
  refine app_one (z := .agg #[.string ByteArray.empty, .string ByteArray.empty]) (bytes := 32) (n := fs.length) hgd s x 22 55 ho Tryz.underlying22 uFld rfl (by decide) (by decide) B (fldV y) rfl (by intro u hu; simp [fldV] at hu; rcases hu with rfl | rfl <;> rfl) hs hx hown hB hn ?_
  intro v' w1 h1 h2 h3
  refine hK v' w1 ?_ h2 h3
  show World.ownsRow _ _ _ _ _ _ _
  rw [List.length_append, List.length_singleton]
  have : fldsV (fs ++ [y]) = fldsV fs ++ fldV y := by unfold fldsV; simp
  rw [this]
  exact h1
theorem step_fld {ops : Array Oper} {o : Oper} {a : Act} {K : Act → World → Prop} {Q : Exit → Act → World → Prop} {G : Prop} (B : Nat) (y : Fld) {w : World} {v : Value} {fs : List Fld} (hown : OwnF B v fs w) (hB : B ≤ w.heap.size) (hn : fs.length ≤ 1000000000)
    (hgd : o.guard = none) (s x : Operand) (ho : o.op = .call { callee := .builtin .append, args := #[s, x], argTypes := #[22, 22] })
    (hs : a.eval s = v) (hx : a.eval x = .slice (some ⟨w.heap.size, 0, none⟩) 1 1)
    (hK : ∀ v' w1, OwnF B v' (fs ++ [y]) w1 → Below B w w1 → Far w w1 v v' → K (a.put o.dst v') w1) :
    if Region.wanted o (yielded ops a.tmps) = true then Oper.wp Tryz.prog o a (w.alloc (.cells #[.string ⟨y.1.toArray⟩, .string ⟨y.2.toArray⟩] 55)) K Q else G := by
  refine step_app_one (z := .agg #[.string ByteArray.empty, .string ByteArray.empty]) (bytes := 32) (n := fs.length) hgd s x 22 55 ho Tryz.underlying22 uFld rfl (by decide) (by decide) B (fldV y) rfl (by intro u hu; simp [fldV] at hu; rcases hu with rfl | rfl <;> rfl) hs hx hown hB hn ?_
  intro v' w1 h1 h2 h3
  refine hK v' w1 ?_ h2 h3
  show World.ownsRow _ _ _ _ _ _ _
  rw [List.length_append, List.length_singleton]
  have : fldsV (fs ++ [y]) = fldsV fs ++ fldV y := by unfold fldsV; simp
  rw [this]
  exact h1
/-- Fields that are handed back in a slice of the call's own. -/
def FieldsPost (w : World) (fs : List Fld) (e : Ending) (w' : World) : Prop :=
  ∃ a cap, e = .returned (.slice a fs.length cap) ∧ OwnF w.heap.size (.slice a fs.length cap) fs w' ∧ Below w.heap.size w w'
end Go.Proofs.YtgmmjhcklhajiaaGreatDoor
/- Blocks of eight cells. -/
namespace Go.Proofs.YtgmmjhcklhajiaaGreatDoor
open Go.RowKit
/-- Eight cells of a block. -/
def Box8 (b : Nat) (v0 v1 v2 v3 v4 v5 v6 v7 : Value) (w : World) : Prop :=
  b < w.heap.size ∧ w.cell? ⟨b, 0, none⟩ = some v0 ∧ w.cell? ⟨b, 1, none⟩ = some v1 ∧ w.cell? ⟨b, 2, none⟩ = some v2 ∧ w.cell? ⟨b, 3, none⟩ = some v3 ∧ w.cell? ⟨b, 4, none⟩ = some v4 ∧ w.cell? ⟨b, 5, none⟩ = some v5 ∧ w.cell? ⟨b, 6, none⟩ = some v6 ∧ w.cell? ⟨b, 7, none⟩ = some v7
theorem Box8.below {b : Nat} {v0 v1 v2 v3 v4 v5 v6 v7 : Value} {w w' : World} (h : Box8 b v0 v1 v2 v3 v4 v5 v6 v7 w) (hb : Below w.heap.size w w') : Box8 b v0 v1 v2 v3 v4 v5 v6 v7 w' := by
  obtain ⟨h0, h1, h2, h3, h4, h5, h6, h7, h8⟩ := h
  exact ⟨Nat.lt_of_lt_of_le h0 hb.size, (hb.cell (p := ⟨b, 0, none⟩) h0).trans h1, (hb.cell (p := ⟨b, 1, none⟩) h0).trans h2, (hb.cell (p := ⟨b, 2, none⟩) h0).trans h3, (hb.cell (p := ⟨b, 3, none⟩) h0).trans h4, (hb.cell (p := ⟨b, 4, none⟩) h0).trans h5, (hb.cell (p := ⟨b, 5, none⟩) h0).trans h6, (hb.cell (p := ⟨b, 6, none⟩) h0).trans h7, (hb.cell (p := ⟨b, 7, none⟩) h0).trans h8⟩
theorem zero8_after {wr w5 : World} {v0 v1 v2 v3 v4 v5 v6 v7 : Value} {T : TypeId} (h : Below ((wr.alloc (.cells #[v0, v1, v2, v3, v4, v5, v6, v7] T)).drew).heap.size (wr.alloc (.cells #[v0, v1, v2, v3, v4, v5, v6, v7] T)).drew w5) :
    (w5.cell? ⟨wr.heap.size, 0, none⟩ = some v0 ∧ w5.cell? ⟨wr.heap.size, 1, none⟩ = some v1 ∧ w5.cell? ⟨wr.heap.size, 2, none⟩ = some v2 ∧ w5.cell? ⟨wr.heap.size, 3, none⟩ = some v3 ∧ w5.cell? ⟨wr.heap.size, 4, none⟩ = some v4 ∧ w5.cell? ⟨wr.heap.size, 5, none⟩ = some v5 ∧ w5.cell? ⟨wr.heap.size, 6, none⟩ = some v6 ∧ w5.cell? ⟨wr.heap.size, 7, none⟩ = some v7) ∧
    (∀ j, w5.frozen? ⟨wr.heap.size, j, none⟩ = false) ∧ w5.heap[wr.heap.size]? = some (.cells #[v0, v1, v2, v3, v4, v5, v6, v7] T (0, 0)) := by
  have hs : wr.heap.size < ((wr.alloc (.cells #[v0, v1, v2, v3, v4, v5, v6, v7] T)).drew).heap.size := by simp
  have hc : ∀ j, w5.cell? ⟨wr.heap.size, j, none⟩ = #[v0, v1, v2, v3, v4, v5, v6, v7][j]? := fun j => (h.cell (p := ⟨wr.heap.size, j, none⟩) hs).trans (World.cell?_alloc_mark wr _ _ _ j)
  refine ⟨⟨hc 0, hc 1, hc 2, hc 3, hc 4, hc 5, hc 6, hc 7⟩, fun j => ?_, (h.block _ hs).trans (heap_new wr _ _ rfl)⟩
  refine (h.frozen (p := ⟨wr.heap.size, j, none⟩) hs).trans ?_
  exact (World.frozen?_alloc_mark wr _ _ _ _ j).trans (by simp)
theorem heap_setN {w : World} {b j : Nat} {v : Value} {cs : Array Value} {T : TypeId} {m : Nat × Nat} (h : w.heap[b]? = some (.cells cs T m)) : (w.setCell ⟨b, j, none⟩ v).heap[b]? = some (.cells (cs.setIfInBounds j v) T m) := by
  simp [World.setCell, Array.getElem?_modify, h]
def set8 (w5 : World) (g : Nat) (v0 v1 v2 v3 v4 v5 v6 v7 : Value) : World := ((((((((w5.setCell ⟨g, 0, none⟩ v0).setCell ⟨g, 1, none⟩ v1).setCell ⟨g, 2, none⟩ v2).setCell ⟨g, 3, none⟩ v3).setCell ⟨g, 4, none⟩ v4).setCell ⟨g, 5, none⟩ v5).setCell ⟨g, 6, none⟩ v6).setCell ⟨g, 7, none⟩ v7)
theorem setCell_grown (w : World) (g j : Nat) (v : Value) : w.grownBy (w.setCell ⟨g, j, none⟩ v) (some g) :=
  ⟨rfl, rfl, rfl, by simp, fun k _ hne => Below.heap_setCell _ _ _ _ (by exact fun e => hne (by rw [e]))⟩
theorem set8_grown (w5 : World) (g : Nat) (v0 v1 v2 v3 v4 v5 v6 v7 : Value) : w5.grownBy (set8 w5 g v0 v1 v2 v3 v4 v5 v6 v7) (some g) := by
  have h0 := setCell_grown w5 g 0 v0
  have h1 := h0.trans (setCell_grown _ g 1 v1)
  have h2 := h1.trans (setCell_grown _ g 2 v2)
  have h3 := h2.trans (setCell_grown _ g 3 v3)
  have h4 := h3.trans (setCell_grown _ g 4 v4)
  have h5 := h4.trans (setCell_grown _ g 5 v5)
  have h6 := h5.trans (setCell_grown _ g 6 v6)
  have h7 := h6.trans (setCell_grown _ g 7 v7)
  unfold set8
  with_reducible exact h7
theorem set8_below {wr w5 : World} {g : Nat} (h : Below g wr w5) (v0 v1 v2 v3 v4 v5 v6 v7 : Value) : Below g wr (set8 w5 g v0 v1 v2 v3 v4 v5 v6 v7) := by
  unfold set8
  exact (((((((h.setCell (Nat.le_refl _) _).setCell (Nat.le_refl _) _).setCell (Nat.le_refl _) _).setCell (Nat.le_refl _) _).setCell (Nat.le_refl _) _).setCell (Nat.le_refl _) _).setCell (Nat.le_refl _) _).setCell (Nat.le_refl _) _
theorem set8_box {w5 : World} {g : Nat} {z0 z1 z2 z3 z4 z5 z6 z7 : Value} {T : TypeId} (h : w5.heap[g]? = some (.cells #[z0, z1, z2, z3, z4, z5, z6, z7] T (0, 0))) (v0 v1 v2 v3 v4 v5 v6 v7 : Value) : Box8 g v0 v1 v2 v3 v4 v5 v6 v7 (set8 w5 g v0 v1 v2 v3 v4 v5 v6 v7) := by
  have h0 := heap_setN (j := 0) (v := v0) h
  have h1 := heap_setN (j := 1) (v := v1) h0
  have h2 := heap_setN (j := 2) (v := v2) h1
  have h3 := heap_setN (j := 3) (v := v3) h2
  have h4 := heap_setN (j := 4) (v := v4) h3
  have h5 := heap_setN (j := 5) (v := v5) h4
  have h6 := heap_setN (j := 6) (v := v6) h5
  have h7 := heap_setN (j := 7) (v := v7) h6
  clear h0 h1 h2 h3 h4 h5 h6
  have e : (((((((((#[z0, z1, z2, z3, z4, z5, z6, z7] : Array Value).setIfInBounds 0 v0).setIfInBounds 1 v1).setIfInBounds 2 v2).setIfInBounds 3 v3).setIfInBounds 4 v4).setIfInBounds 5 v5).setIfInBounds 6 v6).setIfInBounds 7 v7) = #[v0, v1, v2, v3, v4, v5, v6, v7] := by simp only [List.setIfInBounds_toArray, List.set_cons_zero, List.set_cons_succ]
  rw [e] at h7
  have hs : set8 w5 g v0 v1 v2 v3 v4 v5 v6 v7 = set8 w5 g v0 v1 v2 v3 v4 v5 v6 v7 := rfl
  conv at hs => lhs; unfold set8
  rw [hs] at h7
  generalize set8 w5 g v0 v1 v2 v3 v4 v5 v6 v7 = X at *
  have hc : ∀ j, X.cell? ⟨g, j, none⟩ = #[v0, v1, v2, v3, v4, v5, v6, v7][j]? := fun j => (of_heap h7 j).1
  exact ⟨(of_heap h7 0).2.2, hc 0, hc 1, hc 2, hc 3, hc 4, hc 5, hc 6, hc 7⟩
end Go.Proofs.YtgmmjhcklhajiaaGreatDoor
/- A named result in memory, alone. -/
namespace Go.Proofs.YtgmmjhcklhajiaaGreatDoor
open Go.RowKit
theorem results_cell_one {fn : Func} {p : Tmp} {ty : TypeId} (h : fn.results = #[.cell p ty]) (tmps : Array Value) (P : Program) (w : World) :
    (results fn tmps).run P w = ((asAddr (tmps.getD p undef)).run P w).andThen fun a w₁ => (loadVar ty a).run P w₁ := by
  simp only [results, h]
  simp [Sem.run_bind, Result.andThen]
  try rfl
end Go.Proofs.YtgmmjhcklhajiaaGreatDoor
/- The walk of the law's of (layer 20): fields out of names and values. -/
namespace Go.Proofs.YtgmmjhcklhajiaaGreatDoor
open Go.RowKit
set_option maxRecDepth 100000

/-- The entry that is made, in a block of its own. -/
def EntO (E : Nat) (fs : List Fld) (w : World) : Prop := ∃ v, w.heap[E]? = some (.cells #[.int .i64 200, .string ⟨#[79, 75]⟩, .int .i64 1, v, .string ⟨#[98]⟩, .int .i64 0, .int .i64 0, .slice none 0 0] 26 (0, 0)) ∧ OwnF (E + 1) v fs w
theorem EntO.lt {E : Nat} {fs : List Fld} {w : World} (h : EntO E fs w) : E < w.heap.size := by
  obtain ⟨v, h, _⟩ := h
  exact (of_heap h 0).2.2
theorem EntO.below {E : Nat} {fs : List Fld} {w w' : World} (h : EntO E fs w) (hb : Below w.heap.size w w') : EntO E fs w' := by
  have hl := h.lt
  obtain ⟨v, h1, h2⟩ := h
  exact ⟨v, (hb.block E hl).trans h1, h2.below hb⟩
theorem set8_ownO {w : World} (E : Nat) {B : Nat} {v : Value} {fs : List Fld} {v0 v1 v2 v3 v4 v5 v6 v7 : Value} (h : OwnF (E + 1) v fs w) (hB : B = E) : OwnF B v fs (set8 w E v0 v1 v2 v3 v4 v5 v6 v7) := by
  subst hB
  have hl := Nat.lt_succ_self B
  unfold set8
  exact OwnF.base (ownsRow_setCell_below (a := ⟨B, 7, none⟩) (ownsRow_setCell_below (a := ⟨B, 6, none⟩) (ownsRow_setCell_below (a := ⟨B, 5, none⟩) (ownsRow_setCell_below (a := ⟨B, 4, none⟩) (ownsRow_setCell_below (a := ⟨B, 3, none⟩) (ownsRow_setCell_below (a := ⟨B, 2, none⟩) (ownsRow_setCell_below (a := ⟨B, 1, none⟩) (ownsRow_setCell_below (a := ⟨B, 0, none⟩) h hl _) hl _) hl _) hl _) hl _) hl _) hl _) hl _) (Nat.le_succ _)
set_option maxHeartbeats 8000000 in
theorem of20_any (A : Option Addr) (n c : Nat) (fs : List Fld) (w : World) (hr : Rd A n 1 (fldsV fs) w) (hn : n ≤ 100) :
    Calls Tryz.prog 47 #[.slice A n c] w fun e w' => ∃ a c', e = .returned (entV 200 ⟨#[79, 75]⟩ 1 a fs.length c' ⟨#[98]⟩ 0 0 none 0 0) ∧ OwnF w.heap.size (.slice a fs.length c') fs w' ∧ Below w.heap.size w w' := by
  have hnl : n = fs.length * 2 := by have := hr.1; rw [fldsV_len] at this; omega
  subst hnl
  have hat : ∀ k (h : k < fs.length), ∃ b o, A = some ⟨b, o, none⟩ ∧ b < w.heap.size ∧ w.cell? ⟨b, o + k * 2, none⟩ = some (.string ⟨(fs[k]).1.toArray⟩) ∧ w.cell? ⟨b, o + (k * 2 + 1), none⟩ = some (.string ⟨(fs[k]).2.toArray⟩) := by
    intro k h
    obtain ⟨b, o, e, hl, hc⟩ := hr.2 (by omega)
    have := fldsV_at fs k h
    exact ⟨b, o, e, hl, hc _ _ this.1, hc _ _ this.2⟩
  have hsn : ∀ k (h : k < fs.length), fs.take (k + 1) = fs.take k ++ [fs[k]] := fun k h => List.take_succ_eq_append_getElem h
  obtain ⟨W1, hW1⟩ : ∃ W1, w.alloc (.cells #[.int .i64 0, .string ⟨#[]⟩, .int .i64 0, .slice none 0 0, .string ⟨#[]⟩, .int .i64 0, .int .i64 0, .slice none 0 0] 26) = W1 := ⟨_, rfl⟩
  have b1 : Below w.heap.size w W1 := by rw [← hW1]; exact (Below.refl w.heap.size w).alloc (Nat.le_refl _) _
  have z1 : W1.heap.size = w.heap.size + 1 := by rw [← hW1]; simp
  have x1 : W1.heap[w.heap.size]? = some (.cells #[.int .i64 0, .string ⟨#[]⟩, .int .i64 0, .slice none 0 0, .string ⟨#[]⟩, .int .i64 0, .int .i64 0, .slice none 0 0] 26 (0, 0)) := by rw [← hW1]; exact heap_new w _ _ rfl
  obtain ⟨W2, hW2⟩ : ∃ W2, W1.alloc (.cells #[.int .i64 200, .string ⟨#[79, 75]⟩, .int .i64 1, .slice none 0 0, .string ⟨#[98]⟩, .int .i64 0, .int .i64 0, .slice none 0 0] 26) = W2 := ⟨_, rfl⟩
  have b2 : Below W1.heap.size W1 W2 := by rw [← hW2]; exact (Below.refl W1.heap.size W1).alloc (Nat.le_refl _) _
  have z2 : W2.heap.size = w.heap.size + 2 := by rw [← hW2]; simp [z1]
  have x2 : EntO (w.heap.size + 1) [] W2 := by
    rw [← hW2]
    exact ⟨.slice none 0 0, heap_new W1 _ _ z1, OwnF.nil _ _⟩
  have y1 := (b2.block w.heap.size (by omega)).trans x1
  have hB2 : Below w.heap.size w W2 := bt b1 b2
  have HAT := Lib.hid hat; have HSN := Lib.hid hsn; have HW1 := Lib.hid hW1; have HW2 := Lib.hid hW2; have X2 := Lib.hid x2; have Y1 := Lib.hid y1; have HB2 := Lib.hid hB2
  clear hr hat hsn hW1 hW2 x1 x2 y1 hB2 b1 b2 z1
  go_enter Tryz.func47, Tryz.ntmps47
  go_wp2_with fail
  rw [HW1.out, HW2.out]
  go_loopw [4] (fun i wr => ∃ k : Nat, k ≤ fs.length ∧ i = .int .i64 (k * 2 : Nat) ∧ Hid (EntO (w.heap.size + 1) (fs.take k) wr) ∧ Below (w.heap.size + 1) W2 wr) (fun i _ => 2 * fs.length + 1 - (intOf i).toNat)
  case atStart => exact ⟨0, Nat.zero_le _, rfl, X2, Below.refl _ _⟩
  case round =>
    clear X2
    obtain ⟨k, hk, rfl, HO, hbw⟩ := hrel
    by_cases hlt : k < fs.length
    · obtain ⟨b, o, rfl, hl, c0, c1⟩ := HAT.out k hlt
      have hst := HSN.out k hlt
      have hlen : (fs.take k).length ≤ 1000000000 := by rw [List.length_take]; omega
      generalize fs[k] = f at *
      obtain ⟨fx, fy⟩ := f
      simp only at c0 c1 hst
      obtain ⟨v, o1, o2⟩ := HO.out
      obtain ⟨va, vc, rfl⟩ := o2.shape
      have e3 := (of_heap o1 3).1; have e3f := (of_heap o1 3).2.1; have hEl := (of_heap o1 3).2.2
      have hBw : Below w.heap.size w wr := HB2.out.trans (hbw.mono (Nat.le_succ _))
      have d0 := (hBw.cell (p := ⟨b, o + k * 2, none⟩) hl).trans c0
      have d1 := (hBw.cell (p := ⟨b, o + (k * 2 + 1), none⟩) hl).trans c1
      obtain ⟨j, hj⟩ : ∃ j, k * 2 = j := ⟨_, rfl⟩
      rw [hj] at d0 d1 ⊢
      have HJ := Lib.hid hj
      have j0 : (0 : Int) ≤ (j : Int) := by omega
      have j1 : (j : Int) < (fs.length : Int) * 2 := by omega
      have j2 : IntKind.i64.wrap ((j : Int) + 1) = (j : Int) + 1 := IntWalk.i64_in _ (by omega)
      have j3 : (0 : Int) ≤ (j : Int) + 1 := by omega
      have j4 : (j : Int) + 1 < (fs.length : Int) * 2 := by omega
      have j5 : ((j : Int) + 1).toNat = j + 1 := by omega
      have hjn : (k + 1) * 2 = j + 2 := by omega
      have HJN := Lib.hid hjn
      generalize hacc : fs.take k = acc at *
      have O1 := Lib.hid o1; have O2 := Lib.hid o2; have HST := Lib.hid hst
      have t1 : decide ((j : Int) + 1 < (fs.length : Int) * 2) = true := by simpa using j4
      clear hj hjn o1 o2 hst HO HAT HSN c0 c1 hacc
      go_wp2_with fail
      go_region_law (refine step_fld (w.heap.size + 2) (fx, fy) O2.out.drew (by simp; omega) hlen rfl _ _ rfl rfl rfl ?_; intro v' w3 hO3 hb4 hf4; obtain ⟨va', vc', rfl⟩ := hO3.shape; have g3 := (hb4.cell (p := ⟨w.heap.size + 1, 3, none⟩) (Nat.lt_succ_self _)).trans e3; have g3f := (hb4.frozen (p := ⟨w.heap.size + 1, 3, none⟩) (Nat.lt_succ_self _)).trans e3f)
      all_goals
        have H3 := (hb4.block (w.heap.size + 1) (Nat.lt_succ_self _)).trans O1.out
        have hB3 : Below (w.heap.size + 1) W2 (w3.setCell ⟨w.heap.size + 1, 3, none⟩ (.slice va' (acc ++ [(fx, fy)]).length vc')) := (hbw.drew.trans (hb4.mono (Nat.le_succ _))).setCell (Nat.le_refl _) _
        have hE3 : EntO (w.heap.size + 1) (acc ++ [(fx, fy)]) (w3.setCell ⟨w.heap.size + 1, 3, none⟩ (.slice va' (acc ++ [(fx, fy)]).length vc')) := by
          refine ⟨_, ?_, ownsRow_setCell_below (a := ⟨w.heap.size + 1, 3, none⟩) hO3 (Nat.lt_succ_self _) _⟩
          have := heap_setN (j := 3) (v := .slice va' (acc ++ [(fx, fy)]).length vc') H3
          simpa using this
        have hz : (acc ++ [(fx, fy)]).length = acc.length + 1 := by simp
        rw [hz, ← HST.out] at hE3
        rw [hz] at hB3
        have HE3 := Lib.hid hE3; have HB3 := Lib.hid hB3
        clear hE3 hB3 H3 hb4 hO3 hf4 hz
        go_wp2
        go_roundw
        case rel => exact ⟨k + 1, by omega, by rw [HJN.out]; go_num, HE3, HB3.out⟩
        case measure => simp [intOf]; omega
    · have hke : k = fs.length := by omega
      subst hke
      have ho := HO.out
      rw [List.take_length] at ho
      obtain ⟨v, o1, o2⟩ := ho
      obtain ⟨va, vc, rfl⟩ := o2.shape
      have e0 := (of_heap o1 0).1; have e1 := (of_heap o1 1).1; have e2 := (of_heap o1 2).1; have e3 := (of_heap o1 3).1; have e4 := (of_heap o1 4).1; have e5 := (of_heap o1 5).1; have e6 := (of_heap o1 6).1; have e7 := (of_heap o1 7).1
      have yr := (hbw.block w.heap.size (Nat.lt_succ_self _)).trans Y1.out
      have d0 := (of_heap yr 0).1; have d1 := (of_heap yr 1).1; have d2 := (of_heap yr 2).1; have d3 := (of_heap yr 3).1; have d4 := (of_heap yr 4).1; have d5 := (of_heap yr 5).1; have d6 := (of_heap yr 6).1; have d7 := (of_heap yr 7).1
      have l0 := (of_heap yr 0).2.1; have l1 := (of_heap yr 1).2.1; have l2 := (of_heap yr 2).2.1; have l3 := (of_heap yr 3).2.1; have l4 := (of_heap yr 4).2.1; have l5 := (of_heap yr 5).2.1; have l6 := (of_heap yr 6).2.1; have l7 := (of_heap yr 7).2.1
      simp only [List.getElem?_toArray, List.getElem?_cons_succ, List.getElem?_cons_zero] at e0 e1 e2 e3 e4 e5 e6 e7 d0 d1 d2 d3 d4 d5 d6 d7
      have hBw : Below w.heap.size w wr := HB2.out.trans (hbw.mono (Nat.le_succ _))
      have O2 := Lib.hid o2; have HBw := Lib.hid hBw
      clear o1 o2 yr HO HAT HSN hBw hbw
      go_wp2_with fail
      refine bodyPost_ret_by (v := .agg #[.int .i64 200, .string ⟨#[79, 75]⟩, .int .i64 1, .slice va fs.length vc, .string ⟨#[98]⟩, .int .i64 0, .int .i64 0, .slice none 0 0]) ?_ rfl ?_
      · rw [results_cell_one rfl]
        go_simp
      · exact ⟨va, vc, rfl, set8_ownO w.heap.size (OwnF.base O2.out (Nat.le_succ _)) rfl, set8_below HBw.out _ _ _ _ _ _ _ _⟩
end Go.Proofs.YtgmmjhcklhajiaaGreatDoor
/- Many fields at once at the end of a row that the call made. -/
namespace Go.Proofs.YtgmmjhcklhajiaaGreatDoor
open Go.RowKit
set_option maxRecDepth 100000

theorem run_app_none {P : Program} (w : World) (base : Nat) (t ty e : TypeId) (i : TypeInfo) (size c : Nat) (ht : P.underlying t = some (.slice e)) (hi : P.info? e = some i)
    (v : Value) (n : Nat) (xs : List Value) (hown : w.ownsRow base e size v n xs) :
    (Builtin.append_ #[t, t] ty #[v, .slice none 0 c]).run P w = .ok v w := by
  rcases hown.2 with ⟨rfl, rfl⟩ | ⟨g, cap, cur, rfl, _, _, hnc, _⟩
  · simp [Builtin.append_, run_underlying ht, sizeOf, typeInfo, hi, Builtin.lenOf, Builtin.firstCells]
  · simp [Builtin.append_, run_underlying ht, sizeOf, typeInfo, hi, Builtin.lenOf, Builtin.firstCells, hnc, storeCells]
theorem fldsV_one (ys : List Fld) : ∀ u ∈ fldsV ys, u.oneCell' = true := by
  intro u hu
  unfold fldsV at hu
  obtain ⟨f, _, h⟩ := List.mem_flatMap.1 hu
  simp [fldV] at h
  rcases h with rfl | rfl <;> rfl
theorem fldsV_app (xs ys : List Fld) : fldsV (xs ++ ys) = fldsV xs ++ fldsV ys := by unfold fldsV; simp
theorem app_flds {ops : Array Oper} {rest : List Oper} {o : Oper} {a : Act} {Q : Exit → Act → World → Prop} (B : Nat) {w : World} {v : Value} {fs : List Fld} (hown : OwnF B v fs w) (hB : B ≤ w.heap.size)
    {A : Option Addr} {n c : Nat} {ys : List Fld} (hr : Rd A n 2 (fldsV ys) w) (hn : fs.length + n ≤ 1000000000)
    (hgd : o.guard = none) (s x : Operand) (ho : o.op = .call { callee := .builtin .append, args := #[s, x], argTypes := #[22, 22] })
    (hs : a.eval s = v) (hx : a.eval x = .slice A n c)
    (hK : ∀ v' w1, OwnF B v' (fs ++ ys) w1 → Below B w w1 → Far w w1 v v' → wpList Tryz.prog ops Q rest (a.put o.dst v') w1) :
    wpList Tryz.prog ops Q (o :: rest) a w := by
  obtain rfl := hr.fld
  obtain ⟨i0, hi, hz0, hz1, hz2⟩ := info_parts uFld
  have key : ∃ v' w1, (Builtin.append_ #[22, 22] o.type #[v, .slice A ys.length c]).run Tryz.prog w = .ok v' w1 ∧ OwnF B v' (fs ++ ys) w1 ∧ Below B w w1 ∧ Far w w1 v v' := by
    by_cases h0 : A = none
    · subst h0
      have hy : ys.length = 0 := by
        rcases Nat.eq_zero_or_pos ys.length with h | h
        · exact h
        · obtain ⟨b, o', e, _⟩ := hr.2 h; cases e
      have hy2 : ys = [] := List.eq_nil_of_length_eq_zero hy
      subst hy2
      refine ⟨v, w, run_app_none w B _ _ 55 i0 2 c Tryz.underlying22 hi v _ _ hown, by rw [List.append_nil]; exact hown, Below.refl _ _, ⟨⟨rfl, rfl, rfl, Nat.le_refl _, fun _ _ _ => rfl⟩, Or.inl rfl⟩⟩
    · obtain ⟨ad, rfl⟩ := Option.ne_none_iff_exists'.1 h0
      obtain ⟨v', w', hrun, h2, h3, _, h5⟩ := run_append_own_at (P := Tryz.prog) w B 22 o.type 55 i0 (.agg #[.string ByteArray.empty, .string ByteArray.empty]) 2 32 Tryz.underlying22 hi hz0 hz1 hz2 rfl (by decide) v fs.length (fldsV fs) hown ad ys.length c (fldsV ys) (by rw [fldsV_len]) (by
        intro j u hj
        have hjl : j < ys.length * 2 := by have := (List.getElem?_eq_some_iff.1 hj).1; rwa [fldsV_len] at this
        obtain ⟨b, o', e, _, hc⟩ := hr.2 (by omega)
        cases e
        have e2 : (⟨b, o', none⟩ : Addr).add j = ⟨b, o' + j, none⟩ := by unfold Addr.add; split <;> simp_all
        rw [e2]
        exact hc j u hj) (fldsV_one ys) (by unfold maxLen; omega) (by omega) hB
      refine ⟨v', w', hrun, ?_, (Below.refl B w).grown h3 hB (fun k hk => (World.ownsRow.lt hown k hk).1), ⟨h3, ?_⟩⟩
      · unfold OwnF
        rw [List.length_append, fldsV_app]
        exact h2
      · rcases h5 with h | h
        · exact Or.inl h
        · refine Or.inr fun g hg => ?_
          rw [h] at hg
          have := Option.some.inj hg
          omega
  obtain ⟨v', w1, hrun, h1, h2, h3⟩ := key
  refine wpList_plain hgd fun _ hK' => ?_
  unfold Oper.wp execOp
  simp only [ho, resolve, invoke, builtin, Sem.run_bind, Sem.run_pure, Result.andThen_ok, List.map_toArray, List.map_cons, List.map_nil, hs, hx, hrun]
  exact hK' _ _ (hK v' w1 h1 h2 h3)
end Go.Proofs.YtgmmjhcklhajiaaGreatDoor
/- Many texts at once at the end of a row that the call made. -/
namespace Go.Proofs.YtgmmjhcklhajiaaGreatDoor
open Go.RowKit
set_option maxRecDepth 100000
theorem strsV_len (xs : List (List UInt8)) : (strsV xs).length = xs.length := by unfold strsV; simp
theorem strsV_one (ys : List (List UInt8)) : ∀ u ∈ strsV ys, u.oneCell' = true := by
  intro u hu
  unfold strsV at hu
  obtain ⟨f, _, rfl⟩ := List.mem_map.1 hu
  rfl
theorem app_strs {ops : Array Oper} {rest : List Oper} {o : Oper} {a : Act} {Q : Exit → Act → World → Prop} (B : Nat) {w : World} {v : Value} {fs : List (List UInt8)} (hown : OwnS B v fs w) (hB : B ≤ w.heap.size)
    {A : Option Addr} {n c : Nat} {ys : List (List UInt8)} (hr : Rd A n 1 (strsV ys) w) (hn : fs.length + n ≤ 1000000000)
    (hgd : o.guard = none) (s x : Operand) (ho : o.op = .call { callee := .builtin .append, args := #[s, x], argTypes := #[57, 57] })
    (hs : a.eval s = v) (hx : a.eval x = .slice A n c)
    (hK : ∀ v' w1, OwnS B v' (fs ++ ys) w1 → Below B w w1 → Far w w1 v v' → wpList Tryz.prog ops Q rest (a.put o.dst v') w1) :
    wpList Tryz.prog ops Q (o :: rest) a w := by
  obtain rfl := hr.str
  obtain ⟨i0, hi, hz0, hz1, hz2⟩ := info_parts uStr
  have key : ∃ v' w1, (Builtin.append_ #[57, 57] o.type #[v, .slice A ys.length c]).run Tryz.prog w = .ok v' w1 ∧ OwnS B v' (fs ++ ys) w1 ∧ Below B w w1 ∧ Far w w1 v v' := by
    by_cases h0 : A = none
    · subst h0
      have hy : ys.length = 0 := by
        rcases Nat.eq_zero_or_pos ys.length with h | h
        · exact h
        · obtain ⟨b, o', e, _⟩ := hr.2 h; cases e
      have hy2 : ys = [] := List.eq_nil_of_length_eq_zero hy
      subst hy2
      refine ⟨v, w, run_app_none w B _ _ 9 i0 1 c Tryz.underlying57 hi v _ _ hown, by rw [List.append_nil]; exact hown, Below.refl _ _, ⟨⟨rfl, rfl, rfl, Nat.le_refl _, fun _ _ _ => rfl⟩, Or.inl rfl⟩⟩
    · obtain ⟨ad, rfl⟩ := Option.ne_none_iff_exists'.1 h0
      obtain ⟨v', w', hrun, h2, h3, _, h5⟩ := run_append_own_at (P := Tryz.prog) w B 57 o.type 9 i0 (.string ByteArray.empty) 1 16 Tryz.underlying57 hi hz0 hz1 hz2 rfl (by decide) v fs.length (strsV fs) hown ad ys.length c (strsV ys) (by rw [strsV_len, Nat.mul_one]) (by
        intro j u hj
        have hjl : j < ys.length := by have := (List.getElem?_eq_some_iff.1 hj).1; rwa [strsV_len] at this
        obtain ⟨b, o', e, _, hc⟩ := hr.2 (by omega)
        cases e
        have e2 : (⟨b, o', none⟩ : Addr).add j = ⟨b, o' + j, none⟩ := by unfold Addr.add; split <;> simp_all
        rw [e2]
        exact hc j u hj) (strsV_one ys) (by unfold maxLen; omega) (by omega) hB
      refine ⟨v', w', hrun, ?_, (Below.refl B w).grown h3 hB (fun k hk => (World.ownsRow.lt hown k hk).1), ⟨h3, ?_⟩⟩
      · unfold OwnS
        rw [List.length_append, List.map_append]
        exact h2
      · rcases h5 with h | h
        · exact Or.inl h
        · refine Or.inr fun g hg => ?_
          rw [h] at hg
          have := Option.some.inj hg
          omega
  obtain ⟨v', w1, hrun, h1, h2, h3⟩ := key
  refine wpList_plain hgd fun _ hK' => ?_
  unfold Oper.wp execOp
  simp only [ho, resolve, invoke, builtin, Sem.run_bind, Sem.run_pure, Result.andThen_ok, List.map_toArray, List.map_cons, List.map_nil, hs, hx, hrun]
  exact hK' _ _ (hK v' w1 h1 h2 h3)
end Go.Proofs.YtgmmjhcklhajiaaGreatDoor
/- Nothing turned but for one block. -/
namespace Go.Proofs.YtgmmjhcklhajiaaGreatDoor
open Go.RowKit

/-- Nothing that was there turned, but for one block. -/
def Beside (T : Nat) (w w' : World) : Prop := Below T w w' ∧ ∀ b, b < w.heap.size → b ≠ T → w'.heap[b]? = w.heap[b]?
theorem Beside.of {T : Nat} {w w' : World} (h : Below w.heap.size w w') (hT : T ≤ w.heap.size) : Beside T w w' := ⟨h.mono hT, fun _ hb _ => h.block _ hb⟩
theorem Beside.trans {T : Nat} {a b c : World} (h : Beside T a b) (k : Beside T b c) : Beside T a c :=
  ⟨h.1.trans k.1, fun i hi hne => (k.2 i (Nat.lt_of_lt_of_le hi h.1.size) hne).trans (h.2 i hi hne)⟩
theorem Beside.cell {T : Nat} {w w' : World} (h : Beside T w w') {b : Nat} (j : Nat) (hb : b < w.heap.size) (hne : b ≠ T) : w'.cell? ⟨b, j, none⟩ = w.cell? ⟨b, j, none⟩ := by
  simp only [World.cell?, h.2 b hb hne]
theorem Beside.setCell (T j : Nat) (w : World) (v : Value) : Beside T w (w.setCell ⟨T, j, none⟩ v) :=
  ⟨(Below.refl T w).setCell (Nat.le_refl _) _, fun _ _ hne => Below.heap_setCell _ _ _ _ hne⟩
theorem own_beside {B T : Nat} {e : TypeId} {size : Nat} {v : Value} {n : Nat} {xs : List Value} {w w1 : World} (h : w.ownsRow B e size v n xs) (hb : Beside T w w1) (hT : T < B) : w1.ownsRow B e size v n xs := by
  obtain ⟨h1, h2⟩ := h
  refine ⟨h1, ?_⟩
  rcases h2 with h2 | ⟨g, cap, cur, hv, hg, hh, r⟩
  · exact Or.inl h2
  · refine Or.inr ⟨g, cap, cur, hv, hg, ?_, r⟩
    have hlt : g < w.heap.size := by
      rcases Nat.lt_or_ge g w.heap.size with h' | h'
      · exact h'
      · simp [Array.getElem?_eq_none h'] at hh
    rw [hb.2 g hlt (by omega)]; exact hh
theorem Beside.size {T : Nat} {w w' : World} (h : Beside T w w') : w.heap.size ≤ w'.heap.size := by
  exact h.1.size
end Go.Proofs.YtgmmjhcklhajiaaGreatDoor
/- What the functions of layer 1 compute, as plain functions on lists of bytes; no program in sight. -/
namespace Go.Proofs.YtgmmjhcklhajiaaGreatDoor

/-- may a byte be in a quoted text? -/
def plainb (c : UInt8) : Bool := c.toNat == 9 || (decide (32 ≤ c.toNat) && c.toNat != 127)
def esc (c : UInt8) : List UInt8 := bif c.toNat == 34 || c.toNat == 92 then [92, c] else [c]
theorem esc_le (c : UInt8) : (esc c).length ≤ 2 := by unfold esc; cases (c.toNat == 34 || c.toNat == 92) <;> simp
theorem flat_le (l : List UInt8) : (l.flatMap esc).length ≤ 2 * l.length := by
  induction l with
  | nil => simp
  | cons x r ih => have := esc_le x; rw [List.flatMap_cons, List.length_append, List.length_cons]; omega
def quoted (s : ByteArray) : List UInt8 := 34 :: (s.data.toList.flatMap esc ++ [34])
def two (l : Option (List UInt8)) : Value := match l with
  | some l => .tuple #[.string ⟨l.toArray⟩, .int .i64 0]
  | none => .tuple #[.string ⟨#[]⟩, .int .i64 4]
/-- Quote. -/
def quoteO (s : ByteArray) : Option (List UInt8) := bif s.data.toList.all plainb then some (quoted s) else none

/-- What the pieces say, byte by byte: the flag tells whether a byte 92 stands ahead. -/
def unq : Bool → List UInt8 → Option (List UInt8)
  | b, [] => bif b then none else some []
  | b, c :: r =>
    bif !plainb c || (c.toNat == 34 && !b) then none
    else bif c.toNat == 92 && !b then unq true r
    else (unq false r).map (c :: ·)
/-- Unquote: the program's way: both ends first, then what is between them. -/
def unqP (l : List UInt8) : Option (List UInt8) :=
  bif decide (2 ≤ l.length) && (l.head?.getD 0).toNat == 34 && (l.getLast?.getD 0).toNat == 34 then unq false (l.drop 1).dropLast else none
/-- Unquote: the document's way: piece by piece up to the closing mark. -/
def unqD : List UInt8 → Option (List UInt8)
  | [] => none
  | [c] => bif c.toNat == 34 then some [] else none
  | c :: d :: r =>
    bif c.toNat == 34 then none
    else bif c.toNat == 92 then (bif plainb d then (unqD r).map (d :: ·) else none)
    else (bif plainb c then (unqD (d :: r)).map (c :: ·) else none)
def unqR (l : List UInt8) : Option (List UInt8) := match l with
  | [] => none
  | c :: r => bif c.toNat == 34 then unqD r else none

/-- Both ways agree. -/
theorem unqD_eq : ∀ (n : Nat) (l : List UInt8), l.length ≤ n → unqD l = bif decide (1 ≤ l.length) && (l.getLast?.getD 0).toNat == 34 then unq false l.dropLast else none
  | _, [], _ => rfl
  | _, [c], _ => by by_cases h : c.toNat = 34 <;> simp [unqD, h, unq]
  | 0, c :: d :: r, h => by simp at h
  | n + 1, c :: d :: r, h => by
    have ih1 := unqD_eq n (d :: r) (by simp at *; omega)
    have ih2 := unqD_eq n r (by simp at *; omega)
    have hl : (c :: d :: r).getLast? = (d :: r).getLast? := by simp [List.getLast?_cons_cons]
    have hd : (c :: d :: r).dropLast = c :: (d :: r).dropLast := by simp
    rw [hl, hd, unqD]
    cases h34 : (c.toNat == 34)
    · cases h92 : (c.toNat == 92)
      · rw [ih1]
        cases hp : plainb c <;> cases hq : (((d :: r).getLast?.getD 0).toNat == 34)
        all_goals simp [unq, h34, h92, hp]
      · have hc : plainb c = true := by simp at h92; simp [plainb, h92]
        cases r with
        | nil =>
          cases hp : plainb d <;> cases hq : (d.toNat == 34)
          all_goals simp [h92, h34, unq, unqD, hc, hq]
        | cons e r =>
          have hl2 : (d :: e :: r).getLast? = (e :: r).getLast? := by simp [List.getLast?_cons_cons]
          have hd2 : (d :: e :: r).dropLast = d :: (e :: r).dropLast := by simp
          rw [hl2, hd2, ih2]
          cases hp : plainb d <;> cases hq : (((e :: r).getLast?.getD 0).toNat == 34)
          all_goals simp [h92, h34, unq, hc, hp]
    · have h92 : (c.toNat == 92) = false := by simp at h34; simp [h34]
      have hc : plainb c = true := by simp at h34; simp [plainb, h34]
      simp [unq, h34, h92, hc]
theorem unqP_eq (l : List UInt8) : unqP l = unqR l := by
  cases l with
  | nil => rfl
  | cons c r =>
    unfold unqR unqP
    simp only [List.drop_one, List.tail_cons]
    rw [unqD_eq r.length r (Nat.le_refl _)]
    cases r with
    | nil => simp
    | cons d r =>
      have hl : (c :: d :: r).getLast? = (d :: r).getLast? := by simp [List.getLast?_cons_cons]
      rw [hl]
      cases h : (c.toNat == 34) <;> cases hq : (((d :: r).getLast?.getD 0).toNat == 34)
      all_goals simp [h]

/-- Lower. -/
def lowb (c : UInt8) : UInt8 := bif decide (65 ≤ c.toNat) && decide (c.toNat ≤ 90) then c + 32 else c
def lowerL (l : List UInt8) : List UInt8 := l.map lowb
/-- a token's byte -/
def markL : List UInt8 := [33, 35, 36, 37, 38, 39, 42, 43, 45, 46, 94, 95, 96, 124, 126]
def letterb (c : UInt8) : Bool := (decide (97 ≤ c.toNat) && decide (c.toNat ≤ 122)) || (decide (65 ≤ c.toNat) && decide (c.toNat ≤ 90)) || (decide (48 ≤ c.toNat) && decide (c.toNat ≤ 57))
def wordb (c : UInt8) : Bool := letterb c || markL.contains c
def tokenL (l : List UInt8) : Bool := l.all wordb && !l.isEmpty
end Go.Proofs.YtgmmjhcklhajiaaGreatDoor
/- Fields of a name: plain. -/
namespace Go.Proofs.YtgmmjhcklhajiaaGreatDoor

def valuesL (xs : List Fld) (name : List UInt8) : List (List UInt8) := (xs.filter fun f => lowerL f.1 == lowerL name).map (·.2)
theorem valuesL_le (xs : List Fld) (name : List UInt8) : (valuesL xs name).length ≤ xs.length := by
  unfold valuesL; rw [List.length_map]; exact List.length_filter_le _ _
theorem valuesL_snoc (xs : List Fld) (f : Fld) (name : List UInt8) : valuesL (xs ++ [f]) name = if lowerL f.1 == lowerL name then valuesL xs name ++ [f.2] else valuesL xs name := by
  unfold valuesL
  rw [List.filter_append]
  cases h : (lowerL f.1 == lowerL name) <;> simp [h]
theorem take_snocL {α : Type} (xs : List α) (k : Nat) (h : k < xs.length) : xs.take (k + 1) = xs.take k ++ [xs[k]] := List.take_succ_eq_append_getElem h
end Go.Proofs.YtgmmjhcklhajiaaGreatDoor
/- The walks of fields.kept and slices.ContainsFunc, over any closure (printed by wip/tools/kept.py). -/
namespace Go.Proofs.YtgmmjhcklhajiaaGreatDoor
open Go.RowKit
set_option maxRecDepth 100000

theorem OwnF.beside {B T : Nat} {v : Value} {fs : List Fld} {w w1 : World} (h : OwnF B v fs w) (hb : Beside T w w1) (hT : T < B) : OwnF B v fs w1 := own_beside h hb hT
theorem steps_len {fs : Nat → List Fld} {xs : List Fld} {p : Nat → Bool} (h0 : fs 0 = []) (hf : ∀ k (h : k < xs.length), fs (k + 1) = bif p k then fs k ++ [xs[k]] else fs k) : ∀ k, k ≤ xs.length → (fs k).length ≤ k
  | 0, _ => by rw [h0]; simp
  | k + 1, h => by
    have ih := steps_len h0 hf k (by omega)
    rw [hf k (by omega)]
    cases p k
    · rw [cond_false]; omega
    · rw [cond_true, List.length_append, List.length_singleton]; omega

set_option maxHeartbeats 4000000 in
theorem keptDel_any (p1 : Value) (T : Nat) (ws : World) (A : Option Addr) (n c : Nat) (xs : List Fld) (w : World) (hr : Rd A n 2 (fldsV xs) ws) (hn : n ≤ 1000000) (hws : Below ws.heap.size ws w) (hT : ws.heap.size ≤ T) (hTw : T < w.heap.size) (Inv : Nat → World → Prop) (p : Nat → Bool) (fs : Nat → List Fld) (h0 : fs 0 = []) (hf : ∀ k (h : k < xs.length), fs (k + 1) = bif p k then fs k ++ [xs[k]] else fs k) (hI : Inv 0 w)
    (hst : ∀ k W W', Inv k W → Below w.heap.size W W' → Inv k W')
    (hc : ∀ k (h : k < xs.length) W, Inv k W → w.heap.size ≤ W.heap.size → Calls Tryz.prog 89 #[.agg #[.string ⟨(xs[k]).1.toArray⟩, .string ⟨(xs[k]).2.toArray⟩], p1] W fun e W' => e = .returned (.bool (p k)) ∧ Inv (k + 1) W' ∧ Beside T W W') :
    Calls Tryz.prog 88 #[.slice A n c, .func (.func 89) #[] #[p1]] w fun e w' => ∃ a cap, e = .returned (.slice a (fs xs.length).length cap) ∧ OwnF w.heap.size (.slice a (fs xs.length).length cap) (fs xs.length) w' ∧ Below T w w' ∧ Inv xs.length w' := by
  obtain rfl := hr.fld
  have hlen := steps_len h0 hf
  have H0 := Lib.hid h0; have HF := Lib.hid hf; have HST := Lib.hid hst; have HC := Lib.hid hc; have HR := Lib.hid hr; have HI := Lib.hid hI; have HL := Lib.hid hlen
  have HWS := Lib.hid hws
  clear h0 hf hst hc hr hI hlen hws
  go_enter Tryz.func88, Tryz.ntmps88
  go_wp2
  go_loopw [9, 4] (fun i out wr => ∃ k : Nat, k ≤ xs.length ∧ i = .int .i64 k ∧ Hid (OwnF w.heap.size out (fs k) wr) ∧ Below T w wr ∧ Hid (Inv k wr)) (fun i _ _ => xs.length - (intOf i).toNat)
  case atStart => exact ⟨0, Nat.zero_le _, rfl, by rw [H0.out]; exact Lib.hid (OwnF.nil _ _), Below.refl _ _, HI⟩
  case round =>
    clear HI H0
    obtain ⟨k, hk, rfl, HO, hbw, HI⟩ := hrel
    obtain ⟨oa, oc, rfl⟩ := HO.out.shape
    have hsz := hbw.size
    by_cases hlt : k < xs.length
    · obtain ⟨b, o, rfl, hl, c1, c2⟩ := (HR.out.below (HWS.out.trans (hbw.mono hT))).fld_at (k := k) hlt
      have hnx := HF.out k hlt
      have hll := HL.out k hk
      have k1 := fun W h => HC.out k hlt W (HST.out k wr W HI.out h)
      generalize xs[k] = f at *
      obtain ⟨f1, f2⟩ := f
      simp only at c1 c2 k1
      have hAl : Below w.heap.size wr (wr.alloc (.cells #[.string ⟨f1.toArray⟩, .string ⟨f2.toArray⟩] 55)) := ((Below.refl wr.heap.size wr).alloc (Nat.le_refl _) _).mono hsz
      have hO1 := HO.out.below ((Below.refl wr.heap.size wr).alloc (Nat.le_refl _) (.cells #[.string ⟨f1.toArray⟩, .string ⟨f2.toArray⟩] 55))
      have HO1 := Lib.hid hO1
      have hfl : (fs k).length ≤ 1000000000 := by omega
      generalize fs k = fk at *
      have K1 := Lib.hid (k1 _ hAl (by simp; omega)); have HNX := Lib.hid hnx
      clear k1 hnx HO hO1 HI HF HC HL
      cases hp : p k
      · rw [hp] at HNX K1
        go_wp2_with fail
        refine K1.out.mono ?_
        rintro e w1 ⟨rfl, hI1, hb1⟩
        have hB1 := (hbw.trans (hAl.mono (by omega))).trans hb1.1
        have HO2 := Lib.hid (HO1.out.beside hb1 hTw); have HI1 := Lib.hid hI1
        clear hI1 hb1 hAl K1
        go_wp2
        go_roundw
        case rel => exact ⟨k + 1, by omega, by go_num, by rw [HNX.out]; exact HO2, hB1, HI1⟩
        case measure => simp [intOf]; omega
      · rw [hp] at HNX K1
        go_wp2_with fail
        refine K1.out.mono ?_
        rintro e w1 ⟨rfl, hI1, hb1⟩
        have hB1 := (hbw.trans (hAl.mono (by omega))).trans hb1.1
        have d0 : w1.cell? ⟨wr.heap.size, 0, none⟩ = some (.string ⟨f1.toArray⟩) := (hb1.cell 0 (by simp) (by omega)).trans (World.cell?_alloc_mark wr _ _ _ 0)
        have d1 : w1.cell? ⟨wr.heap.size, 1, none⟩ = some (.string ⟨f2.toArray⟩) := (hb1.cell 1 (by simp) (by omega)).trans (World.cell?_alloc_mark wr _ _ _ 1)
        have HO2 := Lib.hid (HO1.out.beside hb1 hTw); have HI1 := Lib.hid hI1
        have hs1 := hb1.1.size
        have hs2 : w.heap.size ≤ w1.heap.size := by simp at hs1; omega
        clear hI1 hb1 hAl K1 HO1 hs1
        go_wp2_with (at_builtin; refine app_fld w.heap.size (f1, f2) HO2.out hs2 hfl rfl _ _ rfl rfl rfl ?_)
        intro v' w2 hO3 hb2 _
        have HO3 : Hid (OwnF w.heap.size v' (fs (k + 1)) w2) := by rw [HNX.out]; exact Lib.hid hO3
        have HI2 := Lib.hid (HST.out (k + 1) w1 w2 HI1.out hb2)
        have hB2 := hB1.trans (hb2.mono (by omega))
        clear hO3 hb2 HI1 d0 d1 HNX
        go_wp2
        go_roundw
        case rel => exact ⟨k + 1, by omega, by go_num, HO3, hB2, HI2⟩
        case measure => simp [intOf]; omega
    · have hke : k = xs.length := by omega
      subst hke
      clear HF HC HST HL
      go_wp2
      go_ret
      exact ⟨oa, oc, rfl, HO.out, hbw, HI.out⟩

/-- Where the first one stands of which something is so; below nought: nowhere. -/
def AnyPost (q : List UInt8 → Bool) (ls : List (List UInt8)) (w : World) (e : Ending) (w' : World) : Prop := ∃ i : Int, e = .returned (.int .i64 i) ∧ decide (0 ≤ i) = ls.any q ∧ Below w.heap.size w w'
set_option maxHeartbeats 4000000 in
theorem indexDel_any (p1 : Value) (q : List UInt8 → Bool) (A : Option Addr) (n c : Nat) (ls : List (List UInt8)) (w : World) (hr : Rd A n 1 (strsV ls) w) (hn : n ≤ 1000000)
    (hc : ∀ l ∈ ls, ∀ W, Below w.heap.size w W → Calls Tryz.prog 91 #[.string ⟨l.toArray⟩, p1] W fun e W' => e = .returned (.bool (q l)) ∧ Below W.heap.size W W') :
    Calls Tryz.prog 144 #[.slice A n c, .func (.func 91) #[] #[p1]] w (AnyPost q ls w) := by
  obtain rfl := hr.str
  have hB := Below.refl w.heap.size w
  have HR := Lib.hid hr; have HC := Lib.hid hc; clear hr hc
  go_enter Tryz.func144, Tryz.ntmps144
  go_wp2
  go_loopw [8] (fun i wr => ∃ k : Nat, k ≤ ls.length ∧ i = .int .i64 k ∧ Hid ((ls.take k).any q = false) ∧ Below w.heap.size w wr) (fun i _ => ls.length - (intOf i).toNat)
  case atStart => exact ⟨0, Nat.zero_le _, rfl, Lib.hid rfl, hB⟩
  case round =>
    clear hB
    obtain ⟨k, hk, rfl, HA, hbw⟩ := hrel
    by_cases hlt : k < ls.length
    · obtain ⟨b, o, rfl, hl, c1⟩ := (HR.out.below hbw).str_at (k := k) hlt
      have k1 := HC.out ls[k] (List.getElem_mem _) wr hbw
      have hbad : q ls[k] = true → Hid (decide ((0 : Int) ≤ (k : Int)) = ls.any q) := by
        intro h
        refine Lib.hid ?_
        have : ls.any q = true := by rw [List.any_eq_true]; exact ⟨ls[k], List.getElem_mem _, h⟩
        rw [this]; simp
      have hgood : q ls[k] = false → Hid ((ls.take (k + 1)).any q = false) := by
        intro h
        refine Lib.hid ?_
        rw [List.take_succ_eq_append_getElem hlt, List.any_append, HA.out]
        simp [h]
      generalize ls[k] = p at *
      have HBAD := Lib.hid hbad; have HGOOD := Lib.hid hgood; clear hbad hgood HA
      cases hq : q p
      · rw [hq] at k1
        have hf := HGOOD.out hq
        have K1 := Lib.hid k1; clear k1 hq
        go_wp2_with fail
        refine K1.out.mono ?_
        rintro e w1 ⟨rfl, hb1⟩
        go_wp2
        go_roundw
        case rel => exact ⟨k + 1, by omega, by go_num, hf, bt hbw hb1⟩
        case measure => simp [intOf]; omega
      · rw [hq] at k1
        have hf := HBAD.out hq
        have K1 := Lib.hid k1; clear k1 hq
        go_wp2_with fail
        refine K1.out.mono ?_
        rintro e w1 ⟨rfl, hb1⟩
        go_wp2
        go_ret
        exact ⟨k, rfl, hf.out, bt hbw hb1⟩
    · have hke : k = ls.length := by omega
      subst hke
      have ha := HA.out
      rw [List.take_length] at ha
      have HA2 := Lib.hid ha; clear ha HA
      go_wp2
      go_ret
      exact ⟨-1, rfl, by rw [HA2.out]; rfl, hbw⟩
set_option maxHeartbeats 1000000 in
theorem containsDel_any (p1 : Value) (q : List UInt8 → Bool) (A : Option Addr) (n c : Nat) (ls : List (List UInt8)) (w : World) (hr : Rd A n 1 (strsV ls) w) (hn : n ≤ 1000000)
    (hc : ∀ l ∈ ls, ∀ W, Below w.heap.size w W → Calls Tryz.prog 91 #[.string ⟨l.toArray⟩, p1] W fun e W' => e = .returned (.bool (q l)) ∧ Below W.heap.size W W') :
    Calls Tryz.prog 90 #[.slice A n c, .func (.func 91) #[] #[p1]] w fun e w' => e = .returned (.bool (ls.any q)) ∧ Below w.heap.size w w' := by
  have k1 := indexDel_any p1 q A n c ls w hr hn hc
  have K1 := Lib.hid k1; clear k1 hc
  go_enter Tryz.func90, Tryz.ntmps90
  go_wp2_with fail
  refine K1.out.mono ?_
  rintro e w1 ⟨i, rfl, hi, hb1⟩
  have HI := Lib.hid hi; clear hi
  go_wp2
  go_ret
  exact ⟨by rw [← HI.out]; rfl, hb1⟩
end Go.Proofs.YtgmmjhcklhajiaaGreatDoor
/- The walk of text.Lower. -/
namespace Go.Proofs.YtgmmjhcklhajiaaGreatDoor
open Go.RowKit

/-- The bytes with the first k made small. -/
def lowTo (s : ByteArray) (k : Nat) : ByteArray := ⟨((s.data.toList.take k).map lowb ++ s.data.toList.drop k).toArray⟩
theorem lowTo_size (s : ByteArray) (k : Nat) : (lowTo s k).size = s.size := by
  unfold lowTo; rw [Lib.size_eq, Lib.size_eq]; simp only [List.length_append, List.length_map, List.length_take, List.length_drop]; omega
theorem lowTo_zero (s : ByteArray) : lowTo s 0 = s := by unfold lowTo; simp
theorem lowTo_end (s : ByteArray) : lowTo s s.size = ⟨(lowerL s.data.toList).toArray⟩ := by
  unfold lowTo lowerL; rw [take_all s _ (Nat.le_refl _), drop_all s _ (Nat.le_refl _), List.append_nil]
theorem lowTo_at (s : ByteArray) (k j : Nat) (h : j < s.size) (h' : j < (lowTo s k).size) : (lowTo s k)[j] = if j < k then lowb s[j] else s[j] := by
  have hl : j < ((s.data.toList.take k).map lowb ++ s.data.toList.drop k).length := by
    rw [List.length_append, List.length_map, List.length_take, List.length_drop, ← Lib.size_eq]; omega
  rw [mk_at (lowTo s k) _ rfl j h' hl, at_list s j h]
  by_cases hk : j < k
  · rw [if_pos hk, List.getElem_append_left (by rw [List.length_map, List.length_take, ← Lib.size_eq]; omega)]
    simp only [List.getElem_map, List.getElem_take]
  · rw [if_neg hk, List.getElem_append_right (by rw [List.length_map, List.length_take, ← Lib.size_eq]; omega)]
    simp only [List.getElem_drop]; congr 1
    rw [List.length_map, List.length_take, ← Lib.size_eq]; omega

/-- A row of bytes in block b that may be written. -/
structure RowAt (b : Nat) (s : ByteArray) (w : World) : Prop where
  cells : Lib.Bytes w b 0 s
  free : ∀ i, i < s.size → w.frozen? ⟨b, i, none⟩ = false

theorem RowAt.fresh (s : ByteArray) (cap : Nat) (w : World) :
    RowAt w.heap.size s (w.alloc (.cells (bytesRow s cap) 5 ((bytesRow s cap).size, (bytesRow s cap).size + 1))) := by
  refine ⟨fun i h => ?_, fun i h => ?_⟩
  · rw [Nat.zero_add, World.cell?_alloc_mark, bytesRow_at s cap i h]; rfl
  · rw [World.frozen?_alloc_mark]
    have : s.size ≤ (bytesRow s cap).size := by unfold bytesRow; simp
    simp; omega
theorem RowAt.drew {b : Nat} {s : ByteArray} {w : World} (h : RowAt b s w) : RowAt b s w.drew := ⟨fun i hi => h.cells i hi, fun i hi => h.free i hi⟩
theorem RowAt.same {b k : Nat} {s : ByteArray} {w : World} (h : RowAt b (lowTo s k) w) (hk : k < s.size) (e : lowb s[k] = s[k]) : RowAt b (lowTo s (k + 1)) w := by
  refine ⟨fun i hi => ?_, fun i hi => h.free i (by rw [lowTo_size] at *; exact hi)⟩
  have hi2 : i < s.size := by rw [lowTo_size] at hi; exact hi
  rw [h.cells i (by rw [lowTo_size]; exact hi2), lowTo_at s k i hi2, lowTo_at s (k + 1) i hi2]
  by_cases h1 : i < k
  · rw [if_pos h1, if_pos (by omega)]
  · rw [if_neg h1]
    by_cases h2 : i = k
    · subst h2; rw [if_pos (by omega), e]
    · rw [if_neg (by omega)]
theorem RowAt.put {b k : Nat} {s : ByteArray} {w : World} (h : RowAt b (lowTo s k) w) (hk : k < s.size) {n : Int} (e : ((lowb s[k]).toNat : Int) = n) : RowAt b (lowTo s (k + 1)) (w.setCell ⟨b, k, none⟩ (.int .u8 n)) := by
  refine ⟨fun i hi => ?_, fun i hi => ?_⟩
  · have hi2 : i < s.size := by rw [lowTo_size] at hi; exact hi
    have hc := h.cells i (by rw [lowTo_size]; exact hi2)
    rw [Nat.zero_add] at hc ⊢
    rw [lowTo_at s (k + 1) i hi2]
    by_cases h2 : i = k
    · subst h2
      rw [World.cell?_setCell_same _ _ _ hc, if_pos (by omega), e]
    · rw [World.cell?_setCell_other _ _ _ _ (by intro e; cases e; exact h2 rfl), hc, lowTo_at s k i hi2]
      by_cases h1 : i < k
      · rw [if_pos h1, if_pos (by omega)]
      · rw [if_neg h1, if_neg (by omega)]
  · rw [World.frozen?_setCell]; exact h.free i (by rw [lowTo_size] at *; exact hi)
theorem RowAt.at {b k : Nat} {s : ByteArray} {w : World} (h : RowAt b (lowTo s k) w) (hk : k < s.size) : w.cell? ⟨b, k, none⟩ = some (.int .u8 s[k].toNat) := by
  have hc := h.cells k (by rw [lowTo_size]; exact hk)
  rw [Nat.zero_add] at hc
  rw [hc, lowTo_at s k k hk, if_neg (by omega)]

theorem lowb_no (c : UInt8) (h : (decide (65 ≤ (c.toNat : Int)) && decide ((c.toNat : Int) ≤ 90)) = false) : lowb c = c := by
  have : (decide (65 ≤ c.toNat) && decide (c.toNat ≤ 90)) = false := by rw [← h, Bool.eq_iff_iff]; simp; omega
  unfold lowb; rw [this]; rfl
theorem lowb_yes (c : UInt8) (h1 : decide (65 ≤ (c.toNat : Int)) = true) (h2 : decide ((c.toNat : Int) ≤ 90) = true) : ((lowb c).toNat : Int) = (c.toNat : Int) + 32 := by
  have : (decide (65 ≤ c.toNat) && decide (c.toNat ≤ 90)) = true := by simp at *; omega
  unfold lowb; rw [this, cond_true]
  have : c.toNat ≤ 90 := by simp at h2; omega
  rw [UInt8.toNat_add]; simp; omega

set_option maxRecDepth 100000 in
set_option maxHeartbeats 2000000 in
theorem lower_wide (s : ByteArray) (w : World) (hs : s.size ≤ 140737488351232) :
    Calls Tryz.prog 107 #[.string s] w fun e w' => e = .returned (.string ⟨(lowerL s.data.toList).toArray⟩) ∧ Below w.heap.size w w' := by
  have hcv := run_bytes_of_string (P := Tryz.prog) w 9 125 5 s Tryz.underlying9 Tryz.underlying125 Tryz.underlying5
  have hfr := RowAt.fresh s (grownCap w s.size 0 5) w
  have hbl : Below w.heap.size w (w.alloc (.cells (bytesRow s (grownCap w s.size 0 5)) 5 ((bytesRow s (grownCap w s.size 0 5)).size, (bytesRow s (grownCap w s.size 0 5)).size + 1))) := (Below.refl _ w).alloc (Nat.le_refl _) _
  generalize grownCap w s.size 0 5 = cap at *
  generalize Obj.cells (bytesRow s cap) 5 ((bytesRow s cap).size, (bytesRow s cap).size + 1) = row at *
  have HF := Lib.hid hfr; have HL := Lib.hid hbl; clear hfr hbl
  go_enter Tryz.func107, Tryz.ntmps107
  go_wp2
  clear hcv
  go_loopw [9] (fun i wr => ∃ k : Nat, k ≤ s.size ∧ i = .int .i64 k ∧ RowAt w.heap.size (lowTo s k) wr ∧ Below w.heap.size w wr) (fun i _ => s.size - (intOf i).toNat)
  case atStart => exact ⟨0, Nat.zero_le _, rfl, by rw [lowTo_zero]; exact HF.out.drew, HL.out.drew⟩
  case round =>
    obtain ⟨k, hk, rfl, hR, hbw⟩ := hrel
    have HR := Lib.hid hR; clear hR
    by_cases hlt : k < s.size
    · have hc := HR.out.at hlt
      have hz := HR.out.free k (by rw [lowTo_size]; exact hlt)
      have hu := u8_lt s[k]
      cases c1 : decide (65 ≤ (s[k].toNat : Int)) <;> cases c2 : decide ((s[k].toNat : Int) ≤ 90)
      · exfalso; simp at c1 c2; omega
      · have hl := lowb_no s[k] (by rw [c1, c2]; rfl)
        have Hl := Lib.hid hl; clear hl
        go_wp2
        go_roundw
        case rel => exact ⟨k + 1, by omega, by go_num, HR.out.same hlt Hl.out, hbw⟩
        case measure => simp [intOf]; omega
      · have hl := lowb_no s[k] (by rw [c1, c2]; rfl)
        have Hl := Lib.hid hl; clear hl
        go_wp2
        go_roundw
        case rel => exact ⟨k + 1, by omega, by go_num, HR.out.same hlt Hl.out, hbw⟩
        case measure => simp [intOf]; omega
      · have hl := lowb_yes s[k] c1 c2
        have Hl := Lib.hid hl; clear hl
        have hu2 : (s[k].toNat : Int) ≤ 90 := by simp at c2; omega
        go_wp2
        go_roundw
        case rel => exact ⟨k + 1, by omega, by go_num, HR.out.put hlt Hl.out, hbw.setCell (Nat.le_refl _) _⟩
        case measure => simp [intOf]; omega
    · have hke : k = s.size := by omega
      have hb := Lib.run_convert_whole (P := Tryz.prog) wr 125 5 9 Tryz.underlying125 Tryz.underlying5 Tryz.underlying9 w.heap.size 0 (lowTo s k) HR.out.cells cap
      rw [lowTo_size] at hb
      have hfin : lowTo s k = ⟨(lowerL s.data.toList).toArray⟩ := by rw [hke, lowTo_end]
      have Hf := Lib.hid hfin; clear hfin
      generalize lowTo s k = t at *
      have Hke := Lib.hid hke; clear hke
      go_wp2
      go_ret
      exact ⟨by rw [← Hf.out]; rfl, hbw⟩
theorem lower_any (s : ByteArray) (w : World) (hs : s.size ≤ 1000000) :
    Calls Tryz.prog 107 #[.string s] w fun e w' => e = .returned (.string ⟨(lowerL s.data.toList).toArray⟩) ∧ Below w.heap.size w w' := lower_wide s w (by omega)
end Go.Proofs.YtgmmjhcklhajiaaGreatDoor
/- The walk of text.Same. -/
namespace Go.Proofs.YtgmmjhcklhajiaaGreatDoor
open Go.RowKit

set_option maxHeartbeats 1000000 in
theorem tsame_wide (a b : ByteArray) (w : World) (ha : a.size ≤ 140737488351232) (hb : b.size ≤ 140737488351232) :
    Calls Tryz.prog 87 #[.string a, .string b] w fun e w' => e = .returned (.bool (lowerL a.data.toList == lowerL b.data.toList)) ∧ Below w.heap.size w w' := by
  have hB := Below.refl w.heap.size w
  have k1 := fun w => lower_wide a w ha
  have k2 := fun w => lower_wide b w hb
  have t1 : ((⟨(lowerL a.data.toList).toArray⟩ : ByteArray).toList == (⟨(lowerL b.data.toList).toArray⟩ : ByteArray).toList) = (lowerL a.data.toList == lowerL b.data.toList) := by rw [Lib.toList_data, Lib.toList_data]
  generalize lowerL a.data.toList = x at *
  generalize lowerL b.data.toList = y at *
  have K1 := Lib.hid k1; have K2 := Lib.hid k2; have T1 := Lib.hid t1; clear k1 k2 t1
  go_enter Tryz.func87, Tryz.ntmps87
  go_wp2_with fail
  refine (K1.out _).mono ?_
  rintro e w1 ⟨rfl, hb1⟩
  go_wp2_with fail
  refine (K2.out _).mono ?_
  rintro e w2 ⟨rfl, hb2⟩
  go_wp2
  go_ret
  exact ⟨by rw [← T1.out]; rfl, bt hb1 hb2⟩
theorem tsame_any (a b : ByteArray) (w : World) (ha : a.size ≤ 1000000) (hb : b.size ≤ 1000000) :
    Calls Tryz.prog 87 #[.string a, .string b] w fun e w' => e = .returned (.bool (lowerL a.data.toList == lowerL b.data.toList)) ∧ Below w.heap.size w w' := tsame_wide a b w (by omega) (by omega)
end Go.Proofs.YtgmmjhcklhajiaaGreatDoor
/- The walks of the document's Lower, Same. -/
namespace Go.Proofs.YtgmmjhcklhajiaaGreatDoor
open Go.RowKit

theorem uByte : (Tryz.prog.info? 5).map (fun i => (i.zero, i.size, i.bytes)) = some (some (.int .u8 0), 1, 1) := by kernel_rfl
/-- A slice of bytes that the call made: it owns these. -/
def OwnB (B : Nat) (v : Value) (l : List UInt8) (w : World) : Prop := w.ownsRow B 5 1 v l.length (l.map fun c => Value.int .u8 c.toNat)
theorem OwnB.conv {B : Nat} {v : Value} {l : List UInt8} {w : World} (h : OwnB B v l w) : (convert 125 9 v).run Tryz.prog w = .ok (.string ⟨l.toArray⟩) w := by
  rcases h.2 with ⟨rfl, h0⟩ | ⟨g, cap, cur, rfl, hg, hb, hnc, hcm, hcs, htake⟩
  · have hl : l = [] := List.eq_nil_of_length_eq_zero h0
    subst hl
    exact run_convert_bytes_nil (P := Tryz.prog) w 125 5 Tryz.underlying125 Tryz.underlying5 0 0 9 Tryz.underlying9
  · have hc := run_convert_bytes_arg (P := Tryz.prog) w 125 5 Tryz.underlying125 Tryz.underlying5 g 0 l.length cap (l.map fun c => (c.toNat : Int)) (by simp) (by
      intro i hi
      have := h.cells (g := g) rfl i (.int .u8 (l[i].toNat : Int)) (by simp [hi])
      rw [show (⟨g, 0, none⟩ : Addr).add i = ⟨g, i, none⟩ from by unfold Addr.add; split <;> simp_all] at this
      rw [Nat.zero_add, this]; simp [List.getD, hi]) 9 Tryz.underlying9
    rw [hc]
    have e : strOfNums (l.map fun c => (c.toNat : Int)) = ⟨l.toArray⟩ := by
      apply str_eq; rw [strOfNums_data, List.map_map]
      show List.map _ l = l
      conv => rhs; rw [← List.map_id l]
      apply List.map_congr_left; intro c _; simp
    rw [e]

set_option maxRecDepth 100000 in
set_option maxHeartbeats 2000000 in
theorem rlower_wide (s : ByteArray) (w : World) (hs : s.size ≤ 140737488351232) :
    Calls Tryz.prog 113 #[.string s] w fun e w' => e = .returned (.string ⟨(lowerL s.data.toList).toArray⟩) ∧ Below w.heap.size w w' := by
  obtain ⟨i0, hi, hz0, hz1, hz2⟩ := info_parts uByte
  go_enter Tryz.func113, Tryz.ntmps113
  go_wp2
  go_loopw [4, 3] (fun i b wr => ∃ k : Nat, k ≤ s.size ∧ i = .int .i64 k ∧ OwnB w.heap.size b (lowerL (s.data.toList.take k)) wr ∧ Below w.heap.size w wr) (fun i _ _ => s.size - (intOf i).toNat)
  case atStart => exact ⟨0, Nat.zero_le _, rfl, World.ownsRow_nil _ _ _ _, Below.refl _ _⟩
  case round =>
    obtain ⟨k, hk, rfl, hO, hbw⟩ := hrel
    have HO := Lib.hid hO; clear hO
    by_cases hlt : k < s.size
    · have hu := u8_lt s[k]
      obtain ⟨n, hn, hn0, hn255⟩ : ∃ n : Int, ((lowb s[k]).toNat : Int) = n ∧ 0 ≤ n ∧ n < 256 := ⟨_, rfl, by omega, u8_lt _⟩
      have hnext : lowerL (s.data.toList.take (k + 1)) = lowerL (s.data.toList.take k) ++ [lowb s[k]] := by
        rw [take_snoc s k hlt]; unfold lowerL; simp
      have hlen : (lowerL (s.data.toList.take k)).length < 140737488351232 := by unfold lowerL; rw [List.length_map, List.length_take, ← Lib.size_eq]; omega
      have HN := Lib.hid hnext; have Hn := Lib.hid hn; clear hnext hn
      have hown := HO.out
      unfold OwnB at hown
      have HW := Lib.hid hown; clear hown
      have key : ∀ (v' : Value) (w1 : World), w1.ownsRow w.heap.size 5 1 v' ((lowerL (s.data.toList.take k)).length + 1) ((lowerL (s.data.toList.take k)).map (fun c => Value.int .u8 c.toNat) ++ [.int .u8 n]) → OwnB w.heap.size v' (lowerL (s.data.toList.take (k + 1))) w1 := by
        intro v' w1 h; unfold OwnB; rw [HN.out, List.length_append, List.length_singleton, List.map_append]; rw [← Hn.out] at h; exact h
      have HK := Lib.hid key; clear key
      cases c1 : decide (65 ≤ (s[k].toNat : Int)) <;> cases c2 : decide ((s[k].toNat : Int) ≤ 90)
      · exfalso; simp at c1 c2; omega
      · have e : n = (s[k].toNat : Int) := by rw [← Hn.out, lowb_no s[k] (by rw [c1, c2]; rfl)]
        subst e
        go_wp2_with (at_builtin; refine wpList_append_own _ rfl _ _ 125 rfl w.heap.size 5 i0 (.int .u8 0) 1 1 Tryz.underlying125 hi hz0 hz1 hz2 rfl (by decide) _ _ _ rfl (HW.out.alloc _) ⟨wr.heap.size, 0, none⟩ 1 1 [.int .u8 (s[k].toNat : Int)] rfl rfl ?c1 ?c2 ?c3 ?c4 ?c5 ?_)
        case c1 =>
          intro j u hj
          match j, hj with
          | 0, hj => simp at hj; subst hj; simp [Addr.add]
        case c2 => intro u hu; simp at hu; subst hu; rfl
        case c3 => unfold maxLen; omega
        case c4 => omega
        case c5 => have := hbw.size; simp; omega
        intro v' w1 hown' hgrow _
        have hO2 := HK.out v' w1 hown'
        have hb2 : Below w.heap.size w w1 := (hbw.alloc hbw.size _).grown hgrow (by have := hbw.size; simp; omega) (fun j hj => (HW.out.lt j hj).1)
        have HO2 := Lib.hid hO2; clear hO2 hown' hgrow
        go_wp2
        go_roundw
        case rel => exact ⟨k + 1, by omega, by go_num, HO2.out, hb2⟩
        case measure => simp [intOf]; omega
      · have e : n = (s[k].toNat : Int) := by rw [← Hn.out, lowb_no s[k] (by rw [c1, c2]; rfl)]
        subst e
        go_wp2_with (at_builtin; refine wpList_append_own _ rfl _ _ 125 rfl w.heap.size 5 i0 (.int .u8 0) 1 1 Tryz.underlying125 hi hz0 hz1 hz2 rfl (by decide) _ _ _ rfl (HW.out.alloc _) ⟨wr.heap.size, 0, none⟩ 1 1 [.int .u8 (s[k].toNat : Int)] rfl rfl ?c1 ?c2 ?c3 ?c4 ?c5 ?_)
        case c1 =>
          intro j u hj
          match j, hj with
          | 0, hj => simp at hj; subst hj; simp [Addr.add]
        case c2 => intro u hu; simp at hu; subst hu; rfl
        case c3 => unfold maxLen; omega
        case c4 => omega
        case c5 => have := hbw.size; simp; omega
        intro v' w1 hown' hgrow _
        have hO2 := HK.out v' w1 hown'
        have hb2 : Below w.heap.size w w1 := (hbw.alloc hbw.size _).grown hgrow (by have := hbw.size; simp; omega) (fun j hj => (HW.out.lt j hj).1)
        have HO2 := Lib.hid hO2; clear hO2 hown' hgrow
        go_wp2
        go_roundw
        case rel => exact ⟨k + 1, by omega, by go_num, HO2.out, hb2⟩
        case measure => simp [intOf]; omega
      · have e : n = (s[k].toNat : Int) + 32 := by rw [← Hn.out, lowb_yes s[k] c1 c2]
        subst e
        go_wp2_with (at_builtin; refine wpList_append_own _ rfl _ _ 125 rfl w.heap.size 5 i0 (.int .u8 0) 1 1 Tryz.underlying125 hi hz0 hz1 hz2 rfl (by decide) _ _ _ rfl (HW.out.alloc _) ⟨wr.heap.size, 0, none⟩ 1 1 [.int .u8 ((s[k].toNat : Int) + 32)] rfl rfl ?c1 ?c2 ?c3 ?c4 ?c5 ?_)
        case c1 =>
          intro j u hj
          match j, hj with
          | 0, hj => simp at hj; subst hj; simp [Addr.add]
        case c2 => intro u hu; simp at hu; subst hu; rfl
        case c3 => unfold maxLen; omega
        case c4 => omega
        case c5 => have := hbw.size; simp; omega
        intro v' w1 hown' hgrow _
        have hO2 := HK.out v' w1 hown'
        have hb2 : Below w.heap.size w w1 := (hbw.alloc hbw.size _).grown hgrow (by have := hbw.size; simp; omega) (fun j hj => (HW.out.lt j hj).1)
        have HO2 := Lib.hid hO2; clear hO2 hown' hgrow
        go_wp2
        go_roundw
        case rel => exact ⟨k + 1, by omega, by go_num, HO2.out, hb2⟩
        case measure => simp [intOf]; omega
    · have hc := HO.out.conv
      have hke : s.data.toList.take k = s.data.toList := take_all s k (by omega)
      rw [hke] at hc
      go_wp2
      go_ret
      exact ⟨rfl, hbw⟩
theorem rlower_any (s : ByteArray) (w : World) (hs : s.size ≤ 1000000) :
    Calls Tryz.prog 113 #[.string s] w fun e w' => e = .returned (.string ⟨(lowerL s.data.toList).toArray⟩) ∧ Below w.heap.size w w' := rlower_wide s w (by omega)
end Go.Proofs.YtgmmjhcklhajiaaGreatDoor
/- Names taken out: the plain law, and both walks. -/
namespace Go.Proofs.YtgmmjhcklhajiaaGreatDoor
open Go.RowKit
set_option maxRecDepth 100000

def hasL (names : List (List UInt8)) (nm : List UInt8) : Bool := names.any fun n => lowerL n == lowerL nm
def delL (xs : List Fld) (names : List (List UInt8)) : List Fld := xs.filter fun f => !hasL names f.1
theorem delL_le (xs : List Fld) (names : List (List UInt8)) : (delL xs names).length ≤ xs.length := List.length_filter_le _ _
/-- Is the element at a place one of which something is so? -/
def atP (q : Fld → Bool) (xs : List Fld) (k : Nat) : Bool := match xs[k]? with | some f => q f | none => false
theorem atP_at (q : Fld → Bool) (xs : List Fld) (k : Nat) (h : k < xs.length) : atP q xs k = q xs[k] := by
  unfold atP; rw [List.getElem?_eq_getElem h]

theorem delff_any (l : List UInt8) (b : Nat) (f1 : List UInt8) (w : World) (h : w.cell? ⟨b, 0, none⟩ = some (.string ⟨f1.toArray⟩)) (h1 : l.length ≤ 1000000) (h2 : f1.length ≤ 1000000) :
    Calls Tryz.prog 91 #[.string ⟨l.toArray⟩, .pointer (some ⟨b, 0, none⟩)] w fun e w' => e = .returned (.bool (lowerL l == lowerL f1)) ∧ Below w.heap.size w w' := by
  have k1 := tsame_any ⟨l.toArray⟩ ⟨f1.toArray⟩ w (by rw [Lib.size_eq]; exact h1) (by rw [Lib.size_eq]; exact h2)
  simp only at k1
  generalize (lowerL l == lowerL f1) = out at *
  have K1 := Lib.hid k1; clear k1
  go_enter Tryz.func91, Tryz.ntmps91
  go_wp2_with fail
  refine K1.out.mono ?_
  rintro e w1 ⟨rfl, hb1⟩
  go_wp2
  go_ret
  exact ⟨rfl, hb1⟩

set_option maxHeartbeats 2000000 in
theorem delf_any (f : Fld) (nb : Nat) (N : Option Addr) (nn nc : Nat) (names : List (List UInt8)) (w : World) (h : w.cell? ⟨nb, 0, none⟩ = some (.slice N nn nc)) (hnb : nb < w.heap.size) (hr : Rd N nn 1 (strsV names) w) (hn : nn ≤ 1000000) (hl : ∀ l ∈ names, l.length ≤ 1000000) (hf : f.1.length ≤ 1000000) :
    Calls Tryz.prog 89 #[.agg #[.string ⟨f.1.toArray⟩, .string ⟨f.2.toArray⟩], .pointer (some ⟨nb, 0, none⟩)] w fun e w' => e = .returned (.bool (!hasL names f.1)) ∧ Below w.heap.size w w' := by
  obtain ⟨f1, f2⟩ := f
  simp only at hf ⊢
  have hAl := (Below.refl w.heap.size w).alloc (Nat.le_refl _) (.cells #[.string ⟨f1.toArray⟩, .string ⟨f2.toArray⟩] 55)
  have k1 := containsDel_any (.pointer (some ⟨w.heap.size, 0, none⟩)) (fun l => lowerL l == lowerL f1) N nn nc names (w.alloc (.cells #[.string ⟨f1.toArray⟩, .string ⟨f2.toArray⟩] 55)) (hr.below hAl) hn (by
    intro l hl' W hW
    exact delff_any l w.heap.size f1 W ((hW.cell (p := ⟨w.heap.size, 0, none⟩) (by simp)).trans (World.cell?_alloc_mark w _ _ _ 0)) (hl l hl') hf)
  have he : (names.any fun l => lowerL l == lowerL f1) = hasL names f1 := rfl
  rw [he] at k1
  generalize hasL names f1 = out at *
  have c0 : (w.alloc (.cells #[.string ⟨f1.toArray⟩, .string ⟨f2.toArray⟩] 55)).cell? ⟨nb, 0, none⟩ = some (.slice N nn nc) := (hAl.cell (p := ⟨nb, 0, none⟩) hnb).trans h
  have K1 := Lib.hid k1; clear k1 he hr hl
  go_enter Tryz.func89, Tryz.ntmps89
  go_wp2_with fail
  refine K1.out.mono ?_
  rintro e w1 ⟨rfl, hb1⟩
  go_wp2
  go_ret
  exact ⟨rfl, hAl.trans (hb1.mono (by simp))⟩

set_option maxHeartbeats 2000000 in
theorem del_any (A : Option Addr) (n c : Nat) (xs : List Fld) (N : Option Addr) (nn nc : Nat) (names : List (List UInt8)) (w : World) (hr : Rd A n 2 (fldsV xs) w) (hn : n ≤ 1000000) (hs : ∀ f ∈ xs, f.1.length ≤ 1000000)
    (hR : Rd N nn 1 (strsV names) w) (hnn : nn ≤ 1000000) (hl : ∀ l ∈ names, l.length ≤ 1000000) :
    Calls Tryz.prog 39 #[.slice A n c, .slice N nn nc] w (FieldsPost w (delL xs names)) := by
  have hAl := (Below.refl w.heap.size w).alloc (Nat.le_refl _) (.cells #[.slice N nn nc] 57)
  have hlast : (xs.take xs.length).filter (fun f => !hasL names f.1) = delL xs names := by rw [List.take_length]; rfl
  have k1 := keptDel_any (.pointer (some ⟨w.heap.size, 0, none⟩)) w.heap.size w A n c xs (w.alloc (.cells #[.slice N nn nc] 57)) hr hn hAl (Nat.le_refl _) (by simp)
    (fun _ W => Below w.heap.size w W ∧ W.cell? ⟨w.heap.size, 0, none⟩ = some (.slice N nn nc) ∧ w.heap.size < W.heap.size) (atP (fun f => !hasL names f.1) xs) (fun k => (xs.take k).filter fun f => !hasL names f.1) rfl
    (by
      intro k hk
      rw [atP_at _ _ _ hk, List.take_succ_eq_append_getElem hk, List.filter_append]
      cases hq : (!hasL names xs[k].1) <;> simp [hq])
    ⟨hAl, World.cell?_alloc_mark w _ _ _ 0, by simp⟩
    (by
      rintro k W W' ⟨h1, h2, h3⟩ hb
      exact ⟨h1.trans (hb.mono (by simp)), (hb.cell (p := ⟨w.heap.size, 0, none⟩) (by simp)).trans h2, Nat.lt_of_lt_of_le h3 hb.size⟩)
    (by
      rintro k hk W ⟨h1, h2, h3⟩ hsz
      rw [atP_at _ _ _ hk]
      refine (delf_any xs[k] w.heap.size N nn nc names W h2 h3 (hR.below h1) hnn hl (hs _ (List.getElem_mem _))).mono ?_
      rintro e W' ⟨rfl, hb⟩
      exact ⟨rfl, ⟨h1.trans (hb.mono h1.size), (hb.cell (p := ⟨w.heap.size, 0, none⟩) h3).trans h2, Nat.lt_of_lt_of_le h3 hb.size⟩, Beside.of hb (by omega)⟩)
  simp only [hlast] at k1
  generalize delL xs names = fs at *
  have K1 := Lib.hid k1; clear k1 hr hs hR hl hlast hn hnn
  go_enter Tryz.func39, Tryz.ntmps39
  go_wp2_with fail
  refine K1.out.mono ?_
  rintro e w1 ⟨a1, c1, rfl, ho1, hb1, -⟩
  have HO1 := Lib.hid (ho1.base (B' := w.heap.size) (by simp)); clear ho1
  go_wp2
  go_ret
  exact ⟨a1, c1, rfl, HO1.out, hAl.trans hb1⟩

/-! The document's. -/
theorem rhas_any (N : Option Addr) (n c : Nat) (ls : List (List UInt8)) (nm : List UInt8) (w : World) (hr : Rd N n 1 (strsV ls) w) (hn : n ≤ 1000000) (hl : ∀ l ∈ ls, l.length ≤ 1000000) (hm : nm.length ≤ 1000000) :
    Calls Tryz.prog 112 #[.slice N n c, .string ⟨nm.toArray⟩] w fun e w' => e = .returned (.bool (hasL ls nm)) ∧ Below w.heap.size w w' := by
  obtain rfl := hr.str
  have hY : ∀ k (h : k < ls.length), (lowerL ls[k] == lowerL nm) = true → hasL ls nm = true := by
    intro k h e
    unfold hasL
    rw [List.any_eq_true]; exact ⟨ls[k], List.getElem_mem _, e⟩
  have hN : hasL (ls.take ls.length) nm = false → hasL ls nm = false := by rw [List.take_length]; exact id
  have hS : ∀ k (h : k < ls.length), hasL (ls.take k) nm = false → (lowerL ls[k] == lowerL nm) = false → hasL (ls.take (k + 1)) nm = false := by
    intro k h e n
    unfold hasL at *
    rw [List.take_succ_eq_append_getElem h, List.any_append, e]
    simp [n]
  have k2 := fun w => rlower_any ⟨nm.toArray⟩ w (by rw [Lib.size_eq]; exact hm)
  simp only at k2
  have HY := Lib.hid hY; have HN := Lib.hid hN; have HS := Lib.hid hS; have HR := Lib.hid hr; have HL := Lib.hid hl; have K2 := Lib.hid k2; clear hY hN hS hr hl k2
  generalize hasL ls nm = out at *
  have hB := Below.refl w.heap.size w
  go_enter Tryz.func112, Tryz.ntmps112
  go_wp2
  go_loopw [5] (fun i wr => ∃ k : Nat, k ≤ ls.length ∧ i = .int .i64 k ∧ Below w.heap.size w wr ∧ Hid (hasL (ls.take k) nm = false)) (fun i _ => ls.length - (intOf i).toNat)
  case atStart => exact ⟨0, Nat.zero_le _, rfl, hB, Lib.hid rfl⟩
  case round =>
    clear hB
    obtain ⟨k, hk, rfl, hbw, Hall⟩ := hrel
    by_cases hlt : k < ls.length
    · obtain ⟨b, o, rfl, hl, c1⟩ := (HR.out.below hbw).str_at (k := k) hlt
      have hy := HY.out k hlt
      have hs := HS.out k hlt Hall.out
      have hll := HL.out ls[k] (List.getElem_mem _)
      generalize ls[k] = l at *
      have k1 := fun w => rlower_any ⟨l.toArray⟩ w (by rw [Lib.size_eq]; exact hll)
      simp only at k1
      have Hy := Lib.hid hy; have Hs := Lib.hid hs; have K1 := Lib.hid k1; clear hy hs k1
      cases hq : (lowerL l == lowerL nm)
      · have hf := Hs.out hq
        have Hf := Lib.hid hf; have Hq := Lib.hid hq; clear hf hq Hs Hy
        go_wp2_with fail
        refine (K1.out _).mono ?_
        rintro e w1 ⟨rfl, hb1⟩
        go_wp2_with fail
        refine (K2.out _).mono ?_
        rintro e w2 ⟨rfl, hb2⟩
        have hB2 := bt (bt hbw hb1) hb2
        have q1 := Hq.out
        go_wp2
        go_roundw
        case rel => exact ⟨k + 1, by omega, by go_num, hB2, Hf⟩
        case measure => simp [intOf]; omega
      · have hf := Hy.out hq
        have Hf := Lib.hid hf; have Hq := Lib.hid hq; clear hf hq Hs Hy
        go_wp2_with fail
        refine (K1.out _).mono ?_
        rintro e w1 ⟨rfl, hb1⟩
        go_wp2_with fail
        refine (K2.out _).mono ?_
        rintro e w2 ⟨rfl, hb2⟩
        have hB2 := bt (bt hbw hb1) hb2
        have q1 := Hq.out
        go_wp2
        go_ret
        exact ⟨by rw [Hf.out]; rfl, hB2⟩
    · have hke : k = ls.length := by omega
      subst hke
      have hf := HN.out Hall.out
      have Hf := Lib.hid hf; clear hf
      go_wp2
      go_ret
      exact ⟨by rw [Hf.out]; rfl, hbw⟩

theorem delL_snoc (xs : List Fld) (names : List (List UInt8)) (k : Nat) (h : k < xs.length) : delL (xs.take (k + 1)) names = bif !hasL names xs[k].1 then delL (xs.take k) names ++ [xs[k]] else delL (xs.take k) names := by
  unfold delL
  rw [List.take_succ_eq_append_getElem h, List.filter_append]
  cases hq : (!hasL names xs[k].1) <;> simp [hq]
end Go.Proofs.YtgmmjhcklhajiaaGreatDoor
/- A name set: the plain law, and both walks. -/
namespace Go.Proofs.YtgmmjhcklhajiaaGreatDoor
open Go.RowKit
set_option maxRecDepth 100000

def sameN (nm : List UInt8) (f : Fld) : Bool := lowerL f.1 == lowerL nm
def setP (nm v : List UInt8) : Bool → List Fld → List Fld
  | _, [] => []
  | th, f :: r => bif sameN nm f then (bif th then setP nm v true r else (f.1, v) :: setP nm v true r) else f :: setP nm v th r
def keepN (nm : List UInt8) : Bool → List Fld → List Fld
  | _, [] => []
  | th, f :: r => bif sameN nm f then (bif th then keepN nm true r else f :: keepN nm true r) else f :: keepN nm th r
def setL (xs : List Fld) (nm v : List UInt8) : List Fld := setP nm v false xs ++ (bif xs.any (sameN nm) then [] else [(nm, v)])
def updF (nm v : List UInt8) (f : Fld) : Fld := bif sameN nm f then (f.1, v) else f

theorem sameN_val (nm v : List UInt8) (f : Fld) : sameN nm (f.1, v) = sameN nm f := rfl
theorem keepN_snoc (nm : List UInt8) (f : Fld) : ∀ (th : Bool) (xs : List Fld), keepN nm th (xs ++ [f]) = keepN nm th xs ++ (bif sameN nm f then (bif (th || xs.any (sameN nm)) then [] else [f]) else [f])
  | th, [] => by cases h : sameN nm f <;> cases th <;> simp [keepN, h]
  | th, g :: r => by
    have ih := fun t => keepN_snoc nm f t r
    rw [List.cons_append, keepN, keepN, ih, ih, List.any_cons]
    cases hg : sameN nm g <;> cases th <;> simp
theorem setP_snoc (nm v : List UInt8) (f : Fld) : ∀ (th : Bool) (xs : List Fld), setP nm v th (xs ++ [f]) = setP nm v th xs ++ (bif sameN nm f then (bif (th || xs.any (sameN nm)) then [] else [(f.1, v)]) else [f])
  | th, [] => by cases h : sameN nm f <;> cases th <;> simp [setP, h]
  | th, g :: r => by
    have ih := fun t => setP_snoc nm v f t r
    rw [List.cons_append, setP, setP, ih, ih, List.any_cons]
    cases hg : sameN nm g <;> cases th <;> simp
theorem keepN_map (nm v : List UInt8) : ∀ (th : Bool) (xs : List Fld), (keepN nm th xs).map (updF nm v) = setP nm v th xs
  | _, [] => rfl
  | th, f :: r => by
    have ih := fun t => keepN_map nm v t r
    rw [keepN, setP]
    cases h : sameN nm f <;> cases th <;> simp [ih, updF, h]
theorem keepN_none (nm : List UInt8) : ∀ (th : Bool) (xs : List Fld), xs.any (sameN nm) = false → keepN nm th xs = xs
  | _, [], _ => rfl
  | th, f :: r, h => by
    rw [List.any_cons, Bool.or_eq_false_iff] at h
    rw [keepN, h.1, cond_false, keepN_none nm th r h.2]
theorem setP_none (nm v : List UInt8) : ∀ (th : Bool) (xs : List Fld), xs.any (sameN nm) = false → setP nm v th xs = xs
  | _, [], _ => rfl
  | th, f :: r, h => by
    rw [List.any_cons, Bool.or_eq_false_iff] at h
    rw [setP, h.1, cond_false, setP_none nm v th r h.2]
theorem keepN_le (nm : List UInt8) : ∀ (th : Bool) (xs : List Fld), (keepN nm th xs).length ≤ xs.length
  | _, [] => Nat.le_refl _
  | th, f :: r => by
    have ih := fun t => keepN_le nm t r
    have h1 := ih true; have h2 := ih th
    rw [keepN]
    cases sameN nm f <;> cases th <;> simp <;> omega
theorem setP_le (nm v : List UInt8) (th : Bool) (xs : List Fld) : (setP nm v th xs).length ≤ xs.length := by
  rw [← keepN_map, List.length_map]; exact keepN_le nm th xs
theorem keepN_mem (nm : List UInt8) : ∀ (th : Bool) (xs : List Fld), ∀ f ∈ keepN nm th xs, f ∈ xs
  | _, [], f, h => by simp [keepN] at h
  | th, g :: r, f, h => by
    have ih := fun t => keepN_mem nm t r f
    rw [keepN] at h
    cases hg : sameN nm g <;> rw [hg] at h
    · rw [cond_false] at h
      rcases List.mem_cons.1 h with rfl | h
      · simp
      · exact List.mem_cons_of_mem _ (ih _ h)
    · cases th
      · simp only [cond_true, cond_false] at h
        rcases List.mem_cons.1 h with rfl | h
        · simp
        · exact List.mem_cons_of_mem _ (ih _ h)
      · simp only [cond_true] at h
        exact List.mem_cons_of_mem _ (ih _ h)

/-! Fields in a row of the call's own: read, and their values written. -/
theorem OwnF.at {B n cap : Nat} {a : Option Addr} {fs : List Fld} {w : World} (h : OwnF B (.slice a n cap) fs w) {k : Nat} (hk : k < fs.length) :
    ∃ g, a = some ⟨g, 0, none⟩ ∧ n = fs.length ∧ B ≤ g ∧ g < w.heap.size ∧ w.cell? ⟨g, k * 2, none⟩ = some (.string ⟨(fs[k]).1.toArray⟩) ∧ w.cell? ⟨g, k * 2 + 1, none⟩ = some (.string ⟨(fs[k]).2.toArray⟩) ∧ w.frozen? ⟨g, k * 2 + 1, none⟩ = false := by
  obtain ⟨hn, hr⟩ := h.rd
  obtain ⟨b, o, e, hl, c1, c2⟩ := hr.fld_at hk
  rcases h.2 with ⟨hv, h0⟩ | ⟨g, cp, cur, hv, hg, hh, _⟩
  · omega
  · cases hv
    cases e
    rw [Nat.zero_add] at c1 c2
    exact ⟨b, rfl, hn, hg, hl, c1, c2, by simp [World.frozen?, hh]⟩
theorem fldsV_set : ∀ (fs : List Fld) (k : Nat) (hk : k < fs.length) (v : List UInt8), fldsV (fs.set k ((fs[k]).1, v)) = (fldsV fs).set (k * 2 + 1) (.string ⟨v.toArray⟩)
  | [], k, hk, _ => by simp at hk
  | x :: r, 0, _, v => by simp [fldsV, fldV]
  | x :: r, k + 1, hk, v => by
    have ih := fldsV_set r k (by simpa using hk) v
    have e : ∀ l : List Fld, fldsV (x :: l) = (.string ⟨x.1.toArray⟩) :: (.string ⟨x.2.toArray⟩) :: fldsV l := fun _ => rfl
    rw [List.set_cons_succ, e, e, show (k + 1) * 2 + 1 = (k * 2 + 1) + 1 + 1 from by omega, List.set_cons_succ, List.set_cons_succ, ← ih]
    rfl
theorem OwnF.stored {B n cap g : Nat} {fs : List Fld} {w : World} (h : OwnF B (.slice (some ⟨g, 0, none⟩) n cap) fs w) {k : Nat} (hk : k < fs.length) (v : List UInt8) :
    OwnF B (.slice (some ⟨g, 0, none⟩) n cap) (fs.set k ((fs[k]).1, v)) (w.setCell ⟨g, k * 2 + 1, none⟩ (.string ⟨v.toArray⟩)) := by
  have hn := h.rd.1
  subst hn
  unfold OwnF at *
  rw [List.length_set, fldsV_set fs k hk v]
  exact (h.stored (k * 2 + 1) _).1
def updK (nm v : List UInt8) (ks : List Fld) (k : Nat) : List Fld := (ks.take k).map (updF nm v) ++ ks.drop k
theorem updK_len (nm v : List UInt8) (ks : List Fld) (k : Nat) : (updK nm v ks k).length = ks.length := by
  unfold updK; rw [List.length_append, List.length_map, List.length_take, List.length_drop]; omega
theorem updK_at (nm v : List UInt8) (ks : List Fld) (k : Nat) (h : k < ks.length) (h' : k < (updK nm v ks k).length) : (updK nm v ks k)[k] = ks[k] := by
  have e : (updK nm v ks k)[k]? = some ks[k] := by
    have hl : ((ks.take k).map (updF nm v)).length = k := by rw [List.length_map, List.length_take]; omega
    unfold updK
    rw [List.getElem?_append_right (by omega), hl, Nat.sub_self, List.getElem?_drop, Nat.add_zero, List.getElem?_eq_getElem h]
  rw [List.getElem?_eq_getElem h'] at e
  exact Option.some.inj e
theorem updK_step (nm v : List UInt8) (ks : List Fld) (k : Nat) (h : k < ks.length) : updK nm v ks (k + 1) = (updK nm v ks k).set k (updF nm v ks[k]) := by
  have hl : ((ks.take k).map (updF nm v)).length = k := by rw [List.length_map, List.length_take]; omega
  unfold updK
  rw [List.set_append_right k _ (by omega), hl, Nat.sub_self, List.drop_eq_getElem_cons h, List.set_cons_zero, List.take_succ_eq_append_getElem h, List.map_append]
  simp
theorem updK_all (nm v : List UInt8) (ks : List Fld) : updK nm v ks ks.length = ks.map (updF nm v) := by
  unfold updK; rw [List.take_length, List.drop_length, List.append_nil]
def pickP (nm : List UInt8) (xs : List Fld) (k : Nat) : Bool := match xs[k]? with | some f => bif sameN nm f then !(xs.take k).any (sameN nm) else true | none => false
theorem pickP_at (nm : List UInt8) (xs : List Fld) (k : Nat) (h : k < xs.length) : pickP nm xs k = bif sameN nm xs[k] then !(xs.take k).any (sameN nm) else true := by
  unfold pickP; rw [List.getElem?_eq_getElem h]

end Go.Proofs.YtgmmjhcklhajiaaGreatDoor
/- The walk of fields.Values. -/
namespace Go.Proofs.YtgmmjhcklhajiaaGreatDoor
open Go.RowKit

set_option maxRecDepth 100000 in
set_option maxHeartbeats 2000000 in
theorem values_any (A : Option Addr) (n c : Nat) (xs : List Fld) (name : ByteArray) (w : World) (hr : Rd A n 2 (fldsV xs) w) (hn : n ≤ 1000000) (hs : ∀ f ∈ xs, f.1.length ≤ 1000000) (hname : name.size ≤ 1000000) :
    Calls Tryz.prog 38 #[.slice A n c, .string name] w (TextsPost w (valuesL xs name.data.toList)) := by
  have hB := Below.refl w.heap.size w
  obtain rfl := hr.fld
  have HR := Lib.hid hr; have HS := Lib.hid hs; clear hr hs
  go_enter Tryz.func38, Tryz.ntmps38
  go_wp2
  go_loopw [9, 4] (fun i out wr => ∃ k : Nat, k ≤ xs.length ∧ i = .int .i64 k ∧ Hid (OwnS w.heap.size out (valuesL (xs.take k) name.data.toList) wr) ∧ Below w.heap.size w wr) (fun i _ _ => xs.length - (intOf i).toNat)
  case atStart => exact ⟨0, Nat.zero_le _, rfl, Lib.hid (OwnS.nil _ _), hB⟩
  case round =>
    clear hB
    obtain ⟨k, hk, rfl, HO, hbw⟩ := hrel
    by_cases hlt : k < xs.length
    · obtain ⟨b, o, rfl, hl, c1, c2⟩ := (HR.out.below hbw).fld_at (k := k) (by omega)
      have hf1 := HS.out xs[k] (List.getElem_mem _)
      have hsn := valuesL_snoc (xs.take k) xs[k] name.data.toList
      rw [← take_snocL xs k (by omega)] at hsn
      have k1 := fun w => tsame_any ⟨(xs[k]).1.toArray⟩ name w (by rw [Lib.size_eq]; exact hf1) hname
      have hvl := valuesL_le (xs.take k) name.data.toList
      rw [List.length_take] at hvl
      generalize xs[k] = f at *
      obtain ⟨f1, f2⟩ := f
      simp only at c1 c2 k1 hsn
      have Hsn := Lib.hid hsn; have K1 := Lib.hid k1; clear hsn k1 hf1
      cases hq : (lowerL f1 == lowerL name.data.toList)
      · have hnx := Hsn.out
        rw [hq, if_neg (by decide)] at hnx
        have HN : Hid (OwnS w.heap.size u4 (valuesL (xs.take (k + 1)) name.data.toList) wr) := by rw [hnx]; exact HO
        have Hq := Lib.hid hq; clear hnx hq Hsn
        go_wp2_with (go_at_call 87; refine (K1.out _).mono ?_; rintro e w1 ⟨rfl, hb1⟩; rw [Hq.out])
        have hb2 : Below w.heap.size w w1 := (hbw.alloc hbw.size _).trans (hb1.mono (by have := hbw.size; simp; omega))
        go_roundw
        case rel => exact ⟨k + 1, by omega, by go_num, Lib.hid ((HN.out.below ((Below.refl _ wr).alloc (Nat.le_refl _) _)).below hb1), hb2⟩
        case measure => simp [intOf]; omega
      · have hnx := Hsn.out
        rw [hq, if_pos rfl] at hnx
        have Hnx := Lib.hid hnx
        have Hq := Lib.hid hq; clear hnx hq Hsn
        go_wp2_with fail
        refine (K1.out _).mono ?_
        rintro e w1 ⟨rfl, hb1⟩
        rw [Hq.out]
        have d2 := hb1.cell (p := ⟨wr.heap.size, 1, none⟩) (by simp)
        simp [go_sem] at d2
        have hb2 : Below w.heap.size w w1 := (hbw.alloc hbw.size _).trans (hb1.mono (by have := hbw.size; simp; omega))
        have hO1 := (HO.out.below ((Below.refl _ wr).alloc (Nat.le_refl _) _)).below hb1
        have HO1 := Lib.hid hO1; clear hO1 HO
        go_wp2_with (at_builtin; refine app_str w.heap.size f2 HO1.out hb2.size (by omega) rfl _ _ rfl rfl rfl ?_)
        intro v' w2 hO2 hb3 _
        have hb4 := hb2.trans hb3
        have HO2 : Hid (OwnS w.heap.size v' (valuesL (xs.take (k + 1)) name.data.toList) w2) := by rw [Hnx.out]; exact Lib.hid hO2
        clear hO2 hb3 hb2 hb1 d2
        go_wp2
        go_roundw
        case rel => exact ⟨k + 1, by omega, by go_num, HO2, hb4⟩
        case measure => simp [intOf]; omega
    · have hke : k = xs.length := by omega
      subst hke
      have ho := HO.out
      rw [List.take_length] at ho
      obtain ⟨a, cap, rfl⟩ := ho.shape
      have HO1 := Lib.hid ho; clear ho HO
      go_wp2
      go_ret
      exact ⟨a, cap, rfl, HO1.out, hbw⟩
end Go.Proofs.YtgmmjhcklhajiaaGreatDoor
/- The walk of text.Trim. -/
namespace Go.Proofs.YtgmmjhcklhajiaaGreatDoor
open Go.RowKit

def blanks : List UInt8 := [32, 9]
def trimL (l : List UInt8) : List UInt8 := Lib.trimS l blanks
theorem trimL_le (l : List UInt8) : (trimL l).length ≤ l.length := by
  have h1 : ∀ m : List UInt8, (Lib.trimLeftS m blanks).length ≤ m.length := fun m => (List.dropWhile_sublist _).length_le
  have h2 : ∀ m : List UInt8, (Lib.trimRightS m blanks).length ≤ m.length := fun m => by
    unfold Lib.trimRightS; rw [List.length_reverse]
    exact Nat.le_trans (List.dropWhile_sublist _).length_le (by rw [List.length_reverse]; exact Nat.le_refl _)
  exact Nat.le_trans (h1 _) (h2 _)

set_option maxHeartbeats 1000000 in
theorem trim_any (s : ByteArray) (w : World) (hs : s.size ≤ 1000000) :
    Calls Tryz.prog 157 #[.string s] w fun e w' => e = .returned (.string ⟨(trimL s.data.toList).toArray⟩) ∧ Below w.heap.size w w' := by
  have hcon := Any.strings_Trim_laid Tryz.lays160 (by kernel_rfl) s ⟨#[32, 9]⟩ w (by omega) (by decide) (ascii_of_all (by decide))
  have HC := Lib.hid hcon; clear hcon
  go_enter Tryz.func157, Tryz.ntmps157
  go_wp2_with (go_at_call 198; refine HC.out.mono ?_; rintro e w' ⟨rfl, hb⟩)
  go_ret
  exact ⟨rfl, hb⟩
end Go.Proofs.YtgmmjhcklhajiaaGreatDoor
/- What text.Split computes, and the document's way: plain functions on lists of bytes. -/
namespace Go.Proofs.YtgmmjhcklhajiaaGreatDoor

def addP (ls : List (List UInt8)) (p : List UInt8) : List (List UInt8) := bif p.isEmpty then ls else ls ++ [p]
theorem addP_le (ls : List (List UInt8)) (p : List UInt8) : (addP ls p).length ≤ ls.length + 1 := by
  unfold addP; cases p.isEmpty <;> simp
def splP (sep : UInt8) : Bool → Bool → List UInt8 → List (List UInt8) → List UInt8 → Option (List (List UInt8))
  | o, _, cur, ls, [] => bif o then none else some (addP ls (trimL cur))
  | o, b, cur, ls, c :: r =>
    bif b then splP sep o false (cur ++ [c]) ls r
    else bif o && c.toNat == 92 then splP sep o true (cur ++ [c]) ls r
    else bif c.toNat == 34 then splP sep (!o) false (cur ++ [c]) ls r
    else bif c.toNat == sep.toNat && !o then splP sep o false [] (addP ls (trimL cur)) r
    else splP sep o false (cur ++ [c]) ls r
/-- The pieces and the error's number. -/
def splitE (t : Option (List (List UInt8))) : List (List UInt8) × Int := match t with
  | none => ([], 4)
  | some ls => bif decide (64 < ls.length) then ([], 3) else (ls, 0)
def splitL (sep : UInt8) (l : List UInt8) : List (List UInt8) × Int :=
  bif sep.toNat == 34 || sep.toNat == 92 then ([], 2) else splitE (splP sep false false [] [] l)

/-- The document's way: which bytes stand in quotes; is one open at the end? -/
def fl : Bool → Bool → List UInt8 → List Bool
  | _, _, [] => []
  | o, b, c :: r => (o || c.toNat == 34) :: (bif b then fl o false r else bif o && c.toNat == 92 then fl o true r else bif c.toNat == 34 then fl (!o) false r else fl o false r)
def en : Bool → Bool → List UInt8 → Bool
  | o, _, [] => o
  | o, b, c :: r => bif b then en o false r else bif o && c.toNat == 92 then en o true r else bif c.toNat == 34 then en (!o) false r else en o false r
def spR (sep : UInt8) : List UInt8 → List (List UInt8) → List UInt8 → List Bool → List (List UInt8)
  | cur, ls, c :: r, f :: fs => bif (c.toNat != sep.toNat) || f then spR sep (cur ++ [c]) ls r fs else spR sep [] (addP ls (trimL cur)) r fs
  | cur, ls, _, _ => addP ls (trimL cur)
theorem fl_length : ∀ (l : List UInt8) (o b : Bool), (fl o b l).length = l.length
  | [], _, _ => rfl
  | c :: r, o, b => by
    simp only [fl, List.length_cons]
    congr 1
    cases b <;> cases (o && c.toNat == 92) <;> cases (c.toNat == 34) <;> simp [fl_length r]
theorem spl_eq (sep : UInt8) (hs : (sep.toNat == 34) = false) : ∀ (l : List UInt8) (o b : Bool) (cur : List UInt8) (ls : List (List UInt8)), (b = true → o = true) →
    splP sep o b cur ls l = bif en o b l then none else some (spR sep cur ls l (fl o b l))
  | [], o, b, cur, ls, _ => by simp [splP, en, spR]
  | c :: r, o, b, cur, ls, h => by
    have hne : (c.toNat == 34) = true → (c.toNat != sep.toNat) = true := by
      intro e; simp at e hs ⊢; omega
    have i1 := spl_eq sep hs r
    cases b
    · cases o
      · cases h34 : (c.toNat == 34)
        · cases hc : (c.toNat == sep.toNat)
          · have : (c.toNat != sep.toNat) = true := by simp [bne, hc]
            simp [splP, en, spR, fl, h34, hc, this, i1]
          · have : (c.toNat != sep.toNat) = false := by simp [bne, hc]
            simp [splP, en, spR, fl, h34, hc, this, i1]
        · simp [splP, en, spR, fl, h34, i1]
      · cases h92 : (c.toNat == 92)
        · cases h34 : (c.toNat == 34)
          · simp [splP, en, spR, fl, h34, h92, i1]
          · simp [splP, en, spR, fl, h34, h92, i1]
        · simp [splP, en, spR, fl, h92, i1]
    · have ho := h rfl
      subst ho
      simp [splP, en, spR, fl, i1]
theorem spl_count (sep : UInt8) : ∀ (l : List UInt8) (o b : Bool) (cur : List UInt8) (ls ps : List (List UInt8)), splP sep o b cur ls l = some ps → ps.length ≤ ls.length + l.length + 1
  | [], o, b, cur, ls, ps, h => by
    cases o
    · simp [splP] at h; subst h; have := addP_le ls (trimL cur); simp; omega
    · simp [splP] at h
  | c :: r, o, b, cur, ls, ps, h => by
    have ih := spl_count sep r
    have ha := addP_le ls (trimL cur)
    rw [splP] at h
    rw [List.length_cons]
    cases b
    · simp only [cond_false] at h
      cases hx : (o && c.toNat == 92) <;> rw [hx] at h <;> simp only [cond_true, cond_false] at h
      · cases h34 : (c.toNat == 34) <;> rw [h34] at h <;> simp only [cond_true, cond_false] at h
        · cases hy : (c.toNat == sep.toNat && !o) <;> rw [hy] at h <;> simp only [cond_true, cond_false] at h
          · have := ih _ _ _ _ _ h; omega
          · have := ih _ _ _ _ _ h; omega
        · have := ih _ _ _ _ _ h; omega
      · have := ih _ _ _ _ _ h; omega
    · simp only [cond_true] at h
      have := ih _ _ _ _ _ h; omega
end Go.Proofs.YtgmmjhcklhajiaaGreatDoor
/- What TextStays and TextKnown want of the plain functions. -/
namespace Go.Proofs.YtgmmjhcklhajiaaGreatDoor

theorem lowb_twice (c : UInt8) : lowb (lowb c) = lowb c := by
  by_cases h : (decide (65 ≤ c.toNat) && decide (c.toNat ≤ 90)) = true
  · have h1 : lowb c = c + 32 := by unfold lowb; rw [h]; rfl
    have h2 : (c + 32).toNat = c.toNat + 32 := by
      simp at h; rw [UInt8.toNat_add]; simp; omega
    have h3 : (decide (65 ≤ (c + 32).toNat) && decide ((c + 32).toNat ≤ 90)) = false := by simp at h ⊢; omega
    rw [h1]; unfold lowb; rw [h3]; rfl
  · have h' : (decide (65 ≤ c.toNat) && decide (c.toNat ≤ 90)) = false := by simpa using h
    have h1 : lowb c = c := by unfold lowb; rw [h']; rfl
    rw [h1, h1]
theorem lower_twice (l : List UInt8) : lowerL (lowerL l) = lowerL l := by
  unfold lowerL; rw [List.map_map]; apply List.map_congr_left; intro c _; exact lowb_twice c
theorem lower_length (l : List UInt8) : (lowerL l).length = l.length := by unfold lowerL; simp

theorem dw_idem (p : UInt8 → Bool) : ∀ l : List UInt8, (l.dropWhile p).dropWhile p = l.dropWhile p
  | [] => rfl
  | c :: r => by
    cases h : p c
    · rw [List.dropWhile_cons_of_neg (by simp [h]), List.dropWhile_cons_of_neg (by simp [h])]
    · rw [List.dropWhile_cons_of_pos h]; exact dw_idem p r
theorem dw_suffix (p : UInt8 → Bool) (l : List UInt8) : ∃ a, l = a ++ l.dropWhile p := ⟨l.takeWhile p, (List.takeWhile_append_dropWhile).symm⟩
theorem dw_none (p : UInt8 → Bool) (l : List UInt8) (h : ∀ c ∈ l, p c = false) : l.dropWhile p = l := by
  cases l with
  | nil => rfl
  | cons c r => rw [List.dropWhile_cons_of_neg (by simp [h c (by simp)])]
theorem trim_twice (l : List UInt8) : trimL (trimL l) = trimL l := by
  unfold trimL Lib.trimS Lib.trimLeftS Lib.trimRightS
  generalize (fun x => blanks.contains x) = p
  obtain ⟨a, ha⟩ := dw_suffix p (l.reverse.dropWhile p).reverse
  have hr : (l.reverse.dropWhile p).dropWhile p = l.reverse.dropWhile p := dw_idem _ _
  generalize l.reverse.dropWhile p = r at *
  have ht := dw_idem p r.reverse
  generalize r.reverse.dropWhile p = t at *
  have h1 : t.reverse.dropWhile p = t.reverse := by
    have h2 : r = t.reverse ++ a.reverse := by rw [← List.reverse_reverse r, ha]; simp
    cases h3 : t.reverse with
    | nil => rfl
    | cons x y =>
      rw [h3] at h2
      rw [h2] at hr
      cases hx : p x
      · rw [List.dropWhile_cons_of_neg (by simp [hx])]
      · exfalso
        rw [List.cons_append, List.dropWhile_cons_of_pos hx] at hr
        have := congrArg List.length hr
        have h4 : ((y ++ a.reverse).dropWhile p).length ≤ (y ++ a.reverse).length := (List.dropWhile_sublist p).length_le
        rw [List.length_cons] at this
        omega
  rw [h1, List.reverse_reverse, ht]
theorem trim_infix (l : List UInt8) : ∃ a b, l = a ++ (trimL l ++ b) := by
  unfold trimL Lib.trimS Lib.trimLeftS Lib.trimRightS
  generalize (fun x => blanks.contains x) = p
  obtain ⟨b, hb⟩ := dw_suffix p l.reverse
  obtain ⟨a, ha⟩ := dw_suffix p (l.reverse.dropWhile p).reverse
  refine ⟨a, b.reverse, ?_⟩
  rw [← List.append_assoc, ← ha, ← List.reverse_append, ← hb, List.reverse_reverse]
theorem contains_of (l t a b : List UInt8) (h : l = a ++ (t ++ b)) : Lib.contains l t = true := by
  unfold Lib.contains
  rcases Lib.index_spec l t with ⟨_, h2⟩ | ⟨i, h1, _⟩
  · exfalso
    have := h2 a.length (by rw [h]; simp)
    unfold Lib.occAt at this
    rw [h, List.drop_left] at this
    have h3 : t.isPrefixOf (t ++ b) = true := by rw [List.isPrefixOf_iff_prefix]; exact List.prefix_append _ _
    rw [h3] at this; cases this
  · rw [h1]; simp
theorem contains_trim (l : List UInt8) : Lib.contains l (trimL l) = true := by
  obtain ⟨a, b, h⟩ := trim_infix l
  exact contains_of _ _ _ _ h

theorem word_not {c : UInt8} (h : wordb c = true) : blanks.contains c = false ∧ (c.toNat == 34) = false ∧ (c.toNat == 92) = false := by
  have h0 : ∀ d : UInt8, wordb d = true → (blanks.contains d = false ∧ (d.toNat == 34) = false ∧ (d.toNat == 92) = false) := by
    intro d hd
    refine ⟨?_, ?_, ?_⟩
    · cases hb : blanks.contains d
      · rfl
      · have : d = 32 ∨ d = 9 := by simpa [blanks] using hb
        rcases this with e | e <;> subst e <;> exact absurd hd (by decide)
    · cases hb : (d.toNat == 34)
      · rfl
      · have : d = 34 := by rw [← UInt8.toNat_inj]; simpa using hb
        subst this; exact absurd hd (by decide)
    · cases hb : (d.toNat == 92)
      · rfl
      · have : d = 92 := by rw [← UInt8.toNat_inj]; simpa using hb
        subst this; exact absurd hd (by decide)
  exact h0 c h
theorem token_all {l : List UInt8} (h : tokenL l = true) : (∀ c ∈ l, wordb c = true) ∧ l.isEmpty = false := by
  unfold tokenL at h
  rw [Bool.and_eq_true] at h
  refine ⟨fun c hc => List.all_eq_true.1 h.1 c hc, ?_⟩
  cases hl : l.isEmpty
  · rfl
  · rw [hl] at h; exact absurd h.2 (by decide)
theorem trim_word (l : List UInt8) (h : ∀ c ∈ l, wordb c = true) : trimL l = l := by
  unfold trimL Lib.trimS Lib.trimLeftS Lib.trimRightS
  have h1 : l.reverse.dropWhile (fun x => blanks.contains x) = l.reverse := dw_none _ _ (fun c hc => (word_not (h c (by simpa using hc))).1)
  rw [h1, List.reverse_reverse]
  exact dw_none _ _ (fun c hc => (word_not (h c hc)).1)
theorem trim_token {l : List UInt8} (h : tokenL l = true) : trimL l = l := trim_word l (token_all h).1
theorem unqP_token {l : List UInt8} (h : tokenL l = true) : unqP l = none := by
  cases l with
  | nil => rfl
  | cons c r =>
    have hc := word_not ((token_all h).1 c (by simp))
    have : ((c :: r).head?.getD 0).toNat = c.toNat := rfl
    unfold unqP
    rw [this, hc.2.1]; simp
theorem spl_word (sep : UInt8) : ∀ (l cur : List UInt8), (∀ c ∈ l, wordb c = true) → (∀ c ∈ l, (c.toNat == sep.toNat) = false) → splP sep false false cur [] l = some (addP [] (trimL (cur ++ l)))
  | [], cur, _, _ => by simp [splP]
  | c :: r, cur, h1, h2 => by
    have hc := word_not (h1 c (by simp))
    have hs := h2 c (by simp)
    rw [splP, hc.2.1, hs]
    simp only [cond_false, Bool.false_and]
    rw [spl_word sep r (cur ++ [c]) (fun x hx => h1 x (by simp [hx])) (fun x hx => h2 x (by simp [hx]))]
    simp
theorem split_token {l : List UInt8} {sep : UInt8} (h : tokenL l = true) (hs : ∀ c ∈ l, (c.toNat == sep.toNat) = false) (h1 : (sep.toNat == 34) = false) (h2 : (sep.toNat == 92) = false) : splitL sep l = ([l], 0) := by
  have ht := token_all h
  unfold splitL
  rw [h1, h2, spl_word sep l [] ht.1 hs, List.nil_append, trim_token h]
  unfold addP; rw [ht.2]; rfl

/-- What 'pieces' hands back. -/
def piecesL (sep : UInt8) (l : List UInt8) : List UInt8 :=
  bif (splitL sep l).2 == 0 then Lib.join (splitL sep l).1 [124] else [101, 114, 114, 111, 114, 32, 48 + UInt8.ofNat (splitL sep l).2.toNat]
theorem pieces_token {l : List UInt8} {sep : UInt8} (h : tokenL l = true) (hs : ∀ c ∈ l, (c.toNat == sep.toNat) = false) (h1 : (sep.toNat == 34) = false) (h2 : (sep.toNat == 92) = false) : piecesL sep l = l := by
  unfold piecesL; rw [split_token h hs h1 h2]; exact Lib.join_one _ _
theorem split_err (sep : UInt8) (l : List UInt8) : 0 ≤ (splitL sep l).2 ∧ (splitL sep l).2 ≤ 4 := by
  unfold splitL
  cases (sep.toNat == 34 || sep.toNat == 92)
  · cases splP sep false false [] [] l with
    | none => simp [splitE]
    | some ls =>
      simp only [splitE, cond_false]
      cases h : decide (64 < ls.length) <;> simp
  · simp
/-- The pieces together are no longer than the text. -/
def total (ls : List (List UInt8)) : Nat := (ls.map List.length).sum
theorem total_addP (ls : List (List UInt8)) (p : List UInt8) : total (addP ls p) = total ls + p.length := by
  unfold addP total
  cases h : p.isEmpty
  · simp
  · simp at h; simp [h]
theorem spl_total (sep : UInt8) : ∀ (l : List UInt8) (o b : Bool) (cur : List UInt8) (ls ps : List (List UInt8)), splP sep o b cur ls l = some ps → total ps ≤ total ls + cur.length + l.length
  | [], o, b, cur, ls, ps, h => by
    cases o
    · simp [splP] at h; subst h; have := trimL_le cur; rw [total_addP]; simp; omega
    · simp [splP] at h
  | c :: r, o, b, cur, ls, ps, h => by
    have ih := spl_total sep r
    have ha := total_addP ls (trimL cur)
    have hb := trimL_le cur
    rw [splP] at h
    rw [List.length_cons]
    cases b
    · simp only [cond_false] at h
      cases hx : (o && c.toNat == 92) <;> rw [hx] at h <;> simp only [cond_true, cond_false] at h
      · cases h34 : (c.toNat == 34) <;> rw [h34] at h <;> simp only [cond_true, cond_false] at h
        · cases hy : (c.toNat == sep.toNat && !o) <;> rw [hy] at h <;> simp only [cond_true, cond_false] at h
          · have := ih _ _ _ _ _ h; simp at this; omega
          · have := ih _ _ _ _ _ h; simp at this; omega
        · have := ih _ _ _ _ _ h; simp at this; omega
      · have := ih _ _ _ _ _ h; simp at this; omega
    · simp only [cond_true] at h
      have := ih _ _ _ _ _ h; simp at this; omega
theorem split_total (sep : UInt8) (l : List UInt8) : total (splitL sep l).1 ≤ l.length := by
  unfold splitL
  cases (sep.toNat == 34 || sep.toNat == 92)
  · cases h : splP sep false false [] [] l with
    | none => simp [splitE, total]
    | some ls =>
      have h1 := spl_total sep l _ _ _ _ _ h
      simp only [splitE, cond_false]
      cases h : decide (64 < ls.length)
      · simpa [total] using h1
      · simp [total]
  · simp [total]
theorem join_le (sep : List UInt8) : ∀ ls : List (List UInt8), (Lib.join ls sep).length ≤ total ls + ls.length * sep.length
  | [] => by simp [Lib.join_nil]
  | [x] => by rw [Lib.join_one]; simp [total]
  | x :: y :: r => by
    have ih := join_le sep (y :: r)
    rw [Lib.join_cons] at ih ⊢
    unfold total at *
    simp [Lib.joinTail, Nat.add_mul] at ih ⊢
    omega
theorem total_mem {ls : List (List UInt8)} {x : List UInt8} (h : x ∈ ls) : x.length ≤ total ls := by
  unfold total
  induction ls with
  | nil => cases h
  | cons y r ih =>
    rw [List.map_cons, List.sum_cons]
    rcases List.mem_cons.1 h with rfl | h
    · omega
    · have := ih h; omega
end Go.Proofs.YtgmmjhcklhajiaaGreatDoor
/- strings.Join over a slice that the call made. -/
namespace Go.Proofs.YtgmmjhcklhajiaaGreatDoor
open Go.RowKit

theorem join_any (B cap : Nat) (a : Option Addr) (ls : List (List UInt8)) (sep : ByteArray) (w : World) (h : OwnS B (.slice a ls.length cap) ls w) (h1 : ls.length ≤ 1000000) (h2 : total ls + ls.length * sep.size ≤ 100000000000) :
    Calls Tryz.prog 114 #[.slice a ls.length cap, .string sep] w fun e w' => e = .returned (.string ⟨(Lib.join ls sep.data.toList).toArray⟩) ∧ Below w.heap.size w w' := by
  obtain ⟨_, hcap, hg⟩ := h.room
  cases ls with
  | nil =>
    refine (Tryz.strings_Join_none a cap sep w).mono ?_
    rintro e w' ⟨rfl, rfl⟩
    exact ⟨rfl, Below.refl _ _⟩
  | cons x r =>
    obtain ⟨g, rfl, hgl⟩ := hg (by simp)
    have hmap : ((x :: r).map fun l => (⟨l.toArray⟩ : ByteArray)).map (·.data.toList) = x :: r := by
      rw [List.map_map]; have : ((fun b : ByteArray => b.data.toList) ∘ fun l : List UInt8 => (⟨l.toArray⟩ : ByteArray)) = id := by funext l; simp
      rw [this, List.map_id]
    have hj := join_le sep.data.toList (x :: r)
    rw [← Lib.size_eq] at hj
    have k := Tryz.strings_Join g 0 cap ((x :: r).map fun l => (⟨l.toArray⟩ : ByteArray)) sep w (by
      intro j y hy
      obtain ⟨hj1, hj2⟩ := List.getElem?_eq_some_iff.1 hy
      have hj3 : j < (x :: r).length := by simpa using hj1
      obtain ⟨g', e, hc, _⟩ := h.cell j hj3
      cases e
      rw [Nat.zero_add, hc, ← hj2, List.getElem_map]) hgl (by rw [List.length_map]; omega) (by rw [List.length_map]; omega) (by rw [hmap]; omega)
    rw [hmap, List.length_map] at k
    exact k
end Go.Proofs.YtgmmjhcklhajiaaGreatDoor
/- All that fields hold: plain. -/
namespace Go.Proofs.YtgmmjhcklhajiaaGreatDoor
open Go.RowKit

/-- All that the fields hold. -/
def sumF (xs : List Fld) : Nat := (xs.map fun f => f.1.length + f.2.length).sum
theorem sumF_mem {xs : List Fld} {f : Fld} (h : f ∈ xs) : f.1.length + f.2.length ≤ sumF xs := by
  unfold sumF
  induction xs with
  | nil => cases h
  | cons x r ih =>
    rw [List.map_cons, List.sum_cons]
    rcases List.mem_cons.1 h with rfl | h
    · omega
    · have := ih h; omega
theorem sumF_take (xs : List Fld) (k : Nat) : sumF (xs.take k) ≤ sumF xs := by
  unfold sumF
  conv => rhs; rw [← List.take_append_drop k xs, List.map_append, List.sum_append]
  omega
theorem sumF_snoc (xs : List Fld) (k : Nat) (h : k < xs.length) : sumF (xs.take (k + 1)) = sumF (xs.take k) + (xs[k].1.length + xs[k].2.length) := by
  unfold sumF; rw [List.take_succ_eq_append_getElem h, List.map_append, List.sum_append]; rfl
end Go.Proofs.YtgmmjhcklhajiaaGreatDoor
/- The walk of fields.Get. -/
namespace Go.Proofs.YtgmmjhcklhajiaaGreatDoor
open Go.RowKit
set_option maxRecDepth 100000

theorem total_values (xs : List Fld) (name : List UInt8) : total (valuesL xs name) ≤ sumF xs := by
  unfold valuesL total sumF
  induction xs with
  | nil => simp
  | cons x r ih =>
    rw [List.filter_cons, List.map_cons, List.sum_cons]
    by_cases h : (lowerL x.1 == lowerL name) = true
    · rw [if_pos h, List.map_cons, List.map_cons, List.sum_cons]; omega
    · rw [if_neg h]; omega
/-- What a name has. -/
def getL (xs : List Fld) (name : List UInt8) : List UInt8 × Bool := (Lib.join (valuesL xs name) [44, 32], decide (0 < (valuesL xs name).length))
def getV (r : List UInt8 × Bool) : Value := .tuple #[.string ⟨r.1.toArray⟩, .bool r.2]
theorem getL_le (xs : List Fld) (name : List UInt8) : (getL xs name).1.length ≤ sumF xs + 2 * xs.length := by
  have h1 := join_le [44, 32] (valuesL xs name)
  have h2 := total_values xs name
  have h3 := valuesL_le xs name
  have h4 : ([44, 32] : List UInt8).length = 2 := rfl
  unfold getL
  rw [h4] at h1
  simp only; omega

set_option maxHeartbeats 2000000 in
theorem get_any (A : Option Addr) (n c : Nat) (xs : List Fld) (name : ByteArray) (w : World) (hr : Rd A n 2 (fldsV xs) w) (hn : n ≤ 1000000) (hs : sumF xs ≤ 1000000) (hname : name.size ≤ 1000000) :
    Calls Tryz.prog 53 #[.slice A n c, .string name] w fun e w' => e = .returned (getV (getL xs name.data.toList)) ∧ Below w.heap.size w w' := by
  have hxn := hr.fld
  have k1 := values_any A n c xs name w hr hn (fun f hf => by have := sumF_mem hf; omega) hname
  have hv := total_values xs name.data.toList
  have hvl := valuesL_le xs name.data.toList
  unfold getL getV
  simp only
  generalize valuesL xs name.data.toList = ls at *
  obtain ⟨J, hJ⟩ : ∃ J, (⟨(Lib.join ls [44, 32]).toArray⟩ : ByteArray) = J := ⟨_, rfl⟩
  rw [hJ]
  have hdec : decide (0 < ls.length) = decide ((ls.length : Int) > 0) := by rw [decide_eq_decide]; omega
  have k2 := fun (a : Option Addr) (c : Nat) (w1 : World) (h : OwnS w.heap.size (.slice a ls.length c) ls w1) => join_any w.heap.size c a ls ⟨#[44, 32]⟩ w1 h (by omega) (by rw [show (⟨#[44, 32]⟩ : ByteArray).size = 2 from rfl]; omega)
  rw [show (⟨#[44, 32]⟩ : ByteArray).data.toList = [44, 32] from rfl, hJ] at k2
  rw [hdec]
  clear hdec hJ
  have K1 := Lib.hid k1; have K2 := Lib.hid k2; clear k1 k2 hv hs hn hname hr hxn hvl
  go_enter Tryz.func53, Tryz.ntmps53
  go_wp2_with fail
  refine K1.out.mono ?_
  rintro e w1 ⟨a1, c1, rfl, ho1, hb1⟩
  have K3 := Lib.hid (K2.out a1 c1 w1 ho1)
  clear K1 K2 ho1
  go_wp2_with fail
  refine K3.out.mono ?_
  rintro e w2 ⟨rfl, hb2⟩
  go_wp2
  go_ret2
  refine ⟨?_, bt hb1 hb2⟩
  simp
end Go.Proofs.YtgmmjhcklhajiaaGreatDoor
/- What a name has behind setting it and taking it out: the plain law. -/
namespace Go.Proofs.YtgmmjhcklhajiaaGreatDoor
open Go.RowKit

theorem values_app (a b : List Fld) (nm : List UInt8) : valuesL (a ++ b) nm = valuesL a nm ++ valuesL b nm := by unfold valuesL; simp
theorem values_cons (f : Fld) (r : List Fld) (nm : List UInt8) : valuesL (f :: r) nm = bif sameN nm f then f.2 :: valuesL r nm else valuesL r nm := by
  unfold valuesL
  rw [List.filter_cons]
  show (if sameN nm f = true then _ else _ : List Fld).map _ = _
  cases sameN nm f <;> simp
theorem values_setP (nm v : List UInt8) : ∀ (th : Bool) (xs : List Fld), valuesL (setP nm v th xs) nm = bif th then [] else bif xs.any (sameN nm) then [v] else []
  | th, [] => by cases th <;> rfl
  | th, f :: r => by
    have ih := fun t => values_setP nm v t r
    rw [setP, List.any_cons]
    cases h : sameN nm f <;> cases th <;> simp only [cond_true, cond_false, Bool.true_or, Bool.false_or]
    · rw [values_cons, h, cond_false, ih]; rfl
    · rw [values_cons, h, cond_false, ih]; rfl
    · rw [values_cons, show sameN nm (f.1, v) = sameN nm f from rfl, h, cond_true, ih]; rfl
    · rw [ih]; rfl
theorem values_setL (xs : List Fld) (nm v : List UInt8) : valuesL (setL xs nm v) nm = [v] := by
  unfold setL
  rw [values_app, values_setP]
  cases xs.any (sameN nm)
  · have : sameN nm (nm, v) = true := by unfold sameN; simp
    simp only [cond_false, List.nil_append, values_cons, this, cond_true]
    rfl
  · rfl
theorem get_setL (xs : List Fld) (nm v : List UInt8) : getL (setL xs nm v) nm = (v, true) := by
  unfold getL; rw [values_setL]; simp [Lib.join]
theorem other_of {nm other : List UInt8} (h : (lowerL nm == lowerL other) = false) (f : Fld) (hf : sameN nm f = true) : sameN other f = false := by
  unfold sameN at *
  rw [beq_eq_false_iff_ne] at *
  rw [beq_iff_eq.1 hf]; exact h
theorem values_setP_other {nm other : List UInt8} (v : List UInt8) (h : (lowerL nm == lowerL other) = false) : ∀ (th : Bool) (xs : List Fld), valuesL (setP nm v th xs) other = valuesL xs other
  | _, [] => rfl
  | th, f :: r => by
    have ih := fun t => values_setP_other v h t r
    rw [setP, values_cons]
    cases hf : sameN nm f
    · rw [cond_false, values_cons, ih]
    · have ho := other_of h f hf
      rw [ho, cond_false, cond_true]
      cases th
      · rw [cond_false, values_cons, show sameN other (f.1, v) = sameN other f from rfl, ho, cond_false, ih]
      · rw [cond_true, ih]
theorem values_setL_other {nm other : List UInt8} (xs : List Fld) (v : List UInt8) (h : (lowerL nm == lowerL other) = false) : valuesL (setL xs nm v) other = valuesL xs other := by
  unfold setL
  rw [values_app, values_setP_other v h]
  cases xs.any (sameN nm)
  · have : sameN other (nm, v) = false := h
    rw [cond_false, values_cons, this, cond_false]
    simp [valuesL]
  · simp [valuesL]
theorem values_delL (xs : List Fld) (names : List (List UInt8)) (nm : List UInt8) : valuesL (delL xs names) nm = bif hasL names nm then [] else valuesL xs nm := by
  induction xs with
  | nil => unfold delL valuesL; cases hasL names nm <;> rfl
  | cons f r ih =>
    have hd : delL (f :: r) names = bif hasL names f.1 then delL r names else f :: delL r names := by
      unfold delL; rw [List.filter_cons]; cases hasL names f.1 <;> simp
    rw [hd, values_cons]
    cases hs : sameN nm f
    · cases hasL names f.1
      · rw [cond_false, values_cons, hs, ih]; rfl
      · rw [cond_true, ih]; rfl
    · have he : hasL names f.1 = hasL names nm := by
        unfold sameN at hs
        unfold hasL
        rw [beq_iff_eq.1 hs]
      rw [he]
      cases hn : hasL names nm
      · rw [hn] at ih
        rw [cond_false, values_cons, hs, ih]; rfl
      · rw [hn] at ih
        rw [cond_true, ih]; rfl
theorem has_one (a b : List UInt8) : hasL [a] b = (lowerL a == lowerL b) := by unfold hasL; simp
theorem get_del_one (xs : List Fld) (nm : List UInt8) : getL (delL xs [nm]) nm = ([], false) := by
  unfold getL; rw [values_delL, has_one]; simp [Lib.join]
theorem get_one (f : Fld) (other : List UInt8) : (getL [f] other).2 = (lowerL f.1 == lowerL other) := by
  unfold getL
  rw [values_cons]
  show decide _ = sameN other f
  cases sameN other f <;> simp [valuesL]
theorem sumF_app (a b : List Fld) : sumF (a ++ b) = sumF a + sumF b := by unfold sumF; simp
theorem sum_setP (nm v : List UInt8) : ∀ (th : Bool) (xs : List Fld), sumF (setP nm v th xs) ≤ sumF xs + v.length
  | _, [] => by simp [setP, sumF]
  | th, f :: r => by
    have key : ∀ (t : Bool) (xs : List Fld), t = true → sumF (setP nm v t xs) ≤ sumF xs := by
      intro t xs ht
      subst ht
      induction xs with
      | nil => exact Nat.le_refl _
      | cons g r ih =>
        rw [setP]
        cases sameN nm g
        · simp only [cond_false]; unfold sumF at *; simp only [List.map_cons, List.sum_cons]; omega
        · simp only [cond_true]; unfold sumF at *; simp only [List.map_cons, List.sum_cons]; omega
    have ih := sum_setP nm v th r
    have k1 := key true r rfl
    rw [setP]
    cases sameN nm f
    · simp only [cond_false]; unfold sumF at *; simp only [List.map_cons, List.sum_cons]; omega
    · cases th
      · simp only [cond_true, cond_false]; unfold sumF at *; simp only [List.map_cons, List.sum_cons]; omega
      · simp only [cond_true]; unfold sumF at *; simp only [List.map_cons, List.sum_cons]; omega
theorem sum_setL (xs : List Fld) (nm v : List UInt8) : sumF (setL xs nm v) ≤ sumF xs + v.length + (nm.length + v.length) := by
  unfold setL
  rw [sumF_app]
  have h := sum_setP nm v false xs
  cases xs.any (sameN nm)
  · simp only [cond_false]; unfold sumF at *; simp; omega
  · simp only [cond_true]; have : sumF [] = 0 := rfl; omega
theorem len_setL (xs : List Fld) (nm v : List UInt8) : (setL xs nm v).length ≤ xs.length + 1 := by
  unfold setL; rw [List.length_append]
  have h1 := setP_le nm v false xs
  cases xs.any (sameN nm)
  · simp; omega
  · simp; omega
theorem sum_delL (xs : List Fld) (names : List (List UInt8)) : sumF (delL xs names) ≤ sumF xs := by
  unfold delL
  induction xs with
  | nil => exact Nat.le_refl _
  | cons f r ih =>
    rw [List.filter_cons]
    unfold sumF at *
    cases (!hasL names f.1)
    · simp only [Bool.false_eq_true, if_false, List.map_cons, List.sum_cons]; omega
    · simp only [if_true, List.map_cons, List.sum_cons]; omega
end Go.Proofs.YtgmmjhcklhajiaaGreatDoor
/- A split's pieces are few; an error leaves none. -/
namespace Go.Proofs.YtgmmjhcklhajiaaGreatDoor
open Go.RowKit

theorem split_few (sep : UInt8) (l : List UInt8) : (splitL sep l).1.length ≤ 64 := by
  unfold splitL
  cases (sep.toNat == 34 || sep.toNat == 92)
  · cases splP sep false false [] [] l with
    | none => simp [splitE]
    | some ls =>
      simp only [splitE, cond_false]
      cases h : decide (64 < ls.length)
      · simp at h ⊢; exact h
      · simp
  · simp
theorem split_bad (sep : UInt8) (l : List UInt8) : (splitL sep l).2 = 0 ∨ (splitL sep l).1 = [] := by
  unfold splitL
  cases (sep.toNat == 34 || sep.toNat == 92)
  · cases splP sep false false [] [] l with
    | none => right; rfl
    | some ls =>
      simp only [splitE, cond_false]
      cases h : decide (64 < ls.length)
      · left; rfl
      · right; rfl
  · right; rfl
end Go.Proofs.YtgmmjhcklhajiaaGreatDoor
/- The names that go no further: the plain law. -/
namespace Go.Proofs.YtgmmjhcklhajiaaGreatDoor
open Go.RowKit

def connW : List UInt8 := [99, 111, 110, 110, 101, 99, 116, 105, 111, 110]
def hop9 : List (List UInt8) := [[99, 111, 110, 110, 101, 99, 116, 105, 111, 110], [107, 101, 101, 112, 45, 97, 108, 105, 118, 101], [112, 114, 111, 120, 121, 45, 99, 111, 110, 110, 101, 99, 116, 105, 111, 110], [116, 101], [116, 114, 97, 105, 108, 101, 114], [116, 114, 97, 110, 115, 102, 101, 114, 45, 101, 110, 99, 111, 100, 105, 110, 103], [117, 112, 103, 114, 97, 100, 101], [112, 114, 111, 120, 121, 45, 97, 117, 116, 104, 101, 110, 116, 105, 99, 97, 116, 101], [112, 114, 111, 120, 121, 45, 97, 117, 116, 104, 111, 114, 105, 122, 97, 116, 105, 111, 110]]
def hopP (acc : List (List UInt8)) (p : List UInt8) : List (List UInt8) := bif tokenL (lowerL p) && !acc.contains (lowerL p) then acc ++ [lowerL p] else acc
def hopV (acc : List (List UInt8)) (v : List UInt8) : List (List UInt8) := (splitL 44 v).1.foldl hopP acc
def hopVs (acc : List (List UInt8)) (vs : List (List UInt8)) : List (List UInt8) := vs.foldl hopV acc
def hopL (xs : List Fld) : List (List UInt8) := hopVs hop9 (valuesL xs connW)
def cleanL (xs : List Fld) : List Fld := delL xs (hopL xs)

theorem foldl_take {α β : Type} (f : β → α → β) (a : β) (ls : List α) (k : Nat) (h : k < ls.length) : (ls.take (k + 1)).foldl f a = f ((ls.take k).foldl f a) ls[k] := by
  rw [List.take_succ_eq_append_getElem h, List.foldl_append]; rfl
theorem hopP_le (acc : List (List UInt8)) (p : List UInt8) : (hopP acc p).length ≤ acc.length + 1 := by
  unfold hopP
  cases (tokenL (lowerL p) && !acc.contains (lowerL p)) <;> simp
theorem hopPs_le : ∀ (ps acc : List (List UInt8)), (ps.foldl hopP acc).length ≤ acc.length + ps.length
  | [], _ => Nat.le_refl _
  | p :: r, acc => by
    have h1 := hopP_le acc p
    have h2 := hopPs_le r (hopP acc p)
    rw [List.foldl_cons, List.length_cons]; omega
theorem hopVs_le : ∀ (vs acc : List (List UInt8)), (hopVs acc vs).length ≤ acc.length + 64 * vs.length
  | [], _ => Nat.le_refl _
  | v :: r, acc => by
    have h1 := hopPs_le (splitL 44 v).1 acc
    have h2 := hopVs_le r (hopV acc v)
    have h3 := split_few 44 v
    unfold hopVs at *
    unfold hopV at *
    rw [List.foldl_cons, List.length_cons]; omega
def Low (acc : List (List UInt8)) : Prop := ∀ a ∈ acc, lowerL a = a
theorem low9 : Low hop9 := by
  have h : hop9.all (fun a => lowerL a == a) = true := by decide
  intro a ha
  exact beq_iff_eq.1 (List.all_eq_true.1 h a ha)
theorem Low.step {acc : List (List UInt8)} (h : Low acc) (p : List UInt8) : Low (hopP acc p) := by
  unfold hopP
  cases (tokenL (lowerL p) && !acc.contains (lowerL p))
  · exact h
  · intro a ha
    rcases List.mem_append.1 ha with h1 | h1
    · exact h a h1
    · rw [List.mem_singleton.1 h1]; exact lower_twice p
theorem has_low {acc : List (List UInt8)} (h : Low acc) (p : List UInt8) : hasL acc p = acc.contains (lowerL p) := by
  unfold hasL
  rw [Bool.eq_iff_iff, List.any_eq_true, List.contains_iff_mem]
  constructor
  · rintro ⟨a, ha, e⟩
    rw [h a ha] at e
    rw [← beq_iff_eq.1 e]; exact ha
  · intro h1
    exact ⟨lowerL p, h1, by rw [lower_twice]; simp⟩
theorem hopP_sub (acc : List (List UInt8)) (p : List UInt8) : ∀ a ∈ acc, a ∈ hopP acc p := by
  intro a ha
  unfold hopP
  cases (tokenL (lowerL p) && !acc.contains (lowerL p))
  · exact ha
  · exact List.mem_append_left _ ha
theorem hopPs_sub : ∀ (ps acc : List (List UInt8)), ∀ a ∈ acc, a ∈ ps.foldl hopP acc
  | [], _, _, h => h
  | p :: r, acc, a, h => hopPs_sub r _ a (hopP_sub acc p a h)
theorem hopVs_sub : ∀ (vs acc : List (List UInt8)), ∀ a ∈ acc, a ∈ hopVs acc vs
  | [], _, _, h => h
  | _ :: r, acc, a, h => hopVs_sub r _ a (hopPs_sub _ acc a h)
theorem hop9_sub (xs : List Fld) : ∀ a ∈ hop9, a ∈ hopL xs := hopVs_sub _ _
theorem has_mem {names : List (List UInt8)} {a : List UInt8} (h : a ∈ names) : hasL names a = true := by
  unfold hasL; rw [List.any_eq_true]; exact ⟨a, h, by simp⟩
theorem get_clean (xs : List Fld) {a : List UInt8} (h : a ∈ hopL xs) : getL (cleanL xs) a = ([], false) := by
  unfold getL cleanL
  rw [values_delL, has_mem h]
  simp [Lib.join]
theorem hop_clean (xs : List Fld) : hopL (cleanL xs) = hop9 := by
  unfold hopL
  have : valuesL (cleanL xs) connW = [] := by
    unfold cleanL
    rw [values_delL, has_mem (hop9_sub xs connW (by decide))]; rfl
  rw [this]; rfl
theorem clean_clean (xs : List Fld) : cleanL (cleanL xs) = cleanL xs := by
  show delL (cleanL xs) (hopL (cleanL xs)) = _
  rw [hop_clean]
  unfold cleanL delL
  rw [List.filter_eq_self]
  intro f hf
  have h1 := (List.mem_filter.1 hf).2
  have h2 : hasL (hopL xs) f.1 = false := by simpa using h1
  cases h3 : hasL hop9 f.1
  · rfl
  · exfalso
    unfold hasL at h2 h3
    obtain ⟨a, ha, e⟩ := List.any_eq_true.1 h3
    rw [List.any_eq_false] at h2
    exact h2 a (hop9_sub xs a ha) e
end Go.Proofs.YtgmmjhcklhajiaaGreatDoor
/- Small letters and tokens: plain. -/
namespace Go.Proofs.YtgmmjhcklhajiaaGreatDoor
open Go.RowKit

theorem word_low (c : UInt8) : wordb (lowb c) = wordb c := by
  by_cases h : (decide (65 ≤ c.toNat) && decide (c.toNat ≤ 90)) = true
  · have h1 : lowb c = c + 32 := by unfold lowb; rw [h]; rfl
    have h2 : (c + 32).toNat = c.toNat + 32 := by
      simp at h; rw [UInt8.toNat_add]; simp; omega
    simp at h
    have h3 : letterb c = true := by unfold letterb; simp; omega
    have h4 : letterb (c + 32) = true := by unfold letterb; rw [h2]; simp; omega
    rw [h1]; unfold wordb; rw [h3, h4]; rfl
  · have h' : (decide (65 ≤ c.toNat) && decide (c.toNat ≤ 90)) = false := by simpa using h
    have h1 : lowb c = c := by unfold lowb; rw [h']; rfl
    rw [h1]
theorem token_low (l : List UInt8) : tokenL (lowerL l) = tokenL l := by
  unfold tokenL lowerL
  rw [List.all_map]
  congr 1
  · congr 1; funext c; exact word_low c
  · cases l <;> rfl
end Go.Proofs.YtgmmjhcklhajiaaGreatDoor
/- The walk of text.Split: its closure first. -/
namespace Go.Proofs.YtgmmjhcklhajiaaGreatDoor
open Go.RowKit

/-- What the closure stands on: the text, where the piece began, and the pieces so far. -/
structure TakeSt (B : Nat) (s : ByteArray) (f : Nat) (ls : List (List UInt8)) (w : World) : Prop where
  text : w.heap[B]? = some (.cells #[.string s] 9 (0, 0))
  list : ∃ v, w.heap[B + 1]? = some (.cells #[v] 57 (0, 0)) ∧ OwnS (B + 3) v ls w
  start : w.heap[B + 2]? = some (.cells #[.int .i64 f] 3 (0, 0))

def pieceOf (s : ByteArray) (f t : Nat) : List UInt8 := trimL ((s.data.toList.drop f).take (t - f))

set_option maxRecDepth 100000 in
set_option maxHeartbeats 2000000 in
theorem take_any (B : Nat) (s : ByteArray) (f t : Nat) (ls : List (List UInt8)) (w : World) (h : TakeSt B s f ls w) (hft : f ≤ t) (ht : t ≤ s.size) (hs : s.size ≤ 1000000) (hn : ls.length ≤ 1000001) :
    Calls Tryz.prog 156 #[.int .i64 t, .pointer (some ⟨B, 0, none⟩), .pointer (some ⟨B + 2, 0, none⟩), .pointer (some ⟨B + 1, 0, none⟩)] w
      fun e w' => e = .returned (.tuple #[]) ∧ TakeSt B s (t + 1) (addP ls (pieceOf s f t)) w' ∧ Below B w w' := by
  obtain ⟨h1, ⟨v, h2, hown⟩, h3⟩ := h
  obtain ⟨c1, z1, l1⟩ := of_heap h1 0
  obtain ⟨c2, z2, l2⟩ := of_heap h2 0
  obtain ⟨c3, z3, l3⟩ := of_heap h3 0
  simp at c1 c2 c3
  have hex : (s.extract f t).data.toList = (s.data.toList.drop f).take (t - f) := Lib.extract_data s f t
  have hexs : (s.extract f t).size ≤ 1000000 := by rw [ByteArray.size_extract]; omega
  have k1 := fun w => trim_any (s.extract f t) w hexs
  rw [hex] at k1
  have hp : trimL ((s.data.toList.drop f).take (t - f)) = pieceOf s f t := rfl
  rw [hp] at k1
  have hpl : (pieceOf s f t).length ≤ 1000000 := by
    have h1 := trimL_le ((s.data.toList.drop f).take (t - f))
    rw [hp] at h1
    have h2 : ((s.data.toList.drop f).take (t - f)).length ≤ s.data.toList.length := by rw [List.length_take, List.length_drop]; omega
    rw [← Lib.size_eq] at h2; omega
  generalize pieceOf s f t = p at *
  have K1 := Lib.hid k1; have HO := Lib.hid hown; have H1 := Lib.hid h1; have H2 := Lib.hid h2; have H3 := Lib.hid h3
  clear k1 hown h1 h2 h3 hex hp
  obtain ⟨i0, hi, hz0, hz1, hz2⟩ := info_parts uStr
  cases he : p.isEmpty
  · have hadd : addP ls p = ls ++ [p] := by unfold addP; rw [he]; rfl
    have HA := Lib.hid hadd; clear hadd
    go_enter Tryz.func156, Tryz.ntmps156
    go_wp2_with (first | (go_at_call 157; refine (K1.out _).mono ?_; rintro e w1 ⟨rfl, hb1⟩; have d2 := (hb1.cell (p := ⟨B + 1, 0, none⟩) l2).trans c2; have d3 := (hb1.cell (p := ⟨B + 2, 0, none⟩) l3).trans c3; have y2 := (hb1.frozen (p := ⟨B + 1, 0, none⟩) l2).trans z2; have y3 := (hb1.frozen (p := ⟨B + 2, 0, none⟩) l3).trans z3; have HO1 := Lib.hid (own_below HO.out hb1)) | (at_builtin; refine wpList_append_own _ rfl _ _ 57 rfl (B + 3) 9 i0 (.string ByteArray.empty) 1 16 Tryz.underlying57 hi hz0 hz1 hz2 rfl (by decide) _ _ _ rfl (HO1.out.alloc _) ⟨w1.heap.size, 0, none⟩ 1 1 [.string ⟨p.toArray⟩] rfl rfl ?c1 ?c2 ?c3 ?c4 ?c5 ?_))
    case c1 =>
      intro j u hj
      match j, hj with
      | 0, hj => simp at hj; subst hj; simp [Addr.add]
    case c2 => intro u hu; simp at hu; subst hu; rfl
    case c3 => unfold maxLen; omega
    case c4 => omega
    case c5 => have := hb1.size; simp; omega
    intro v' w2 hown' hgrow _
    have hkeep : ∀ b, b < B + 3 → b < w.heap.size → w2.heap[b]? = w.heap[b]? := by
      intro b hb3 hbw
      have h1 := hb1.size
      rw [hgrow.block b (by simp; omega) (fun e => by have := (HO1.out.lt b e.symm).1; omega), Below.heap_alloc _ _ _ (by omega), hb1.block b hbw]
    have q1 := (hkeep B (by omega) l1).trans H1.out
    have q2 := (hkeep (B + 1) (by omega) l2).trans H2.out
    have q3 := (hkeep (B + 2) (by omega) l3).trans H3.out
    obtain ⟨e2, f2, _⟩ := of_heap q2 0
    obtain ⟨e3, f3, _⟩ := of_heap q3 0
    simp at e2 e3
    obtain ⟨g, cap, rfl⟩ : ∃ g cap, v' = .slice (some ⟨g, 0, none⟩) (ls.length + 1) cap := by
      rcases hown'.2 with ⟨_, h0⟩ | ⟨g, cap, cur, hv, _⟩
      · omega
      · exact ⟨g, cap, hv⟩
    have hbelow : Below B w w2 := ((hb1.mono (by omega)).alloc (by have := hb1.size; omega) _).grown hgrow (by have := hb1.size; simp; omega) (fun k hk => by have := (HO1.out.lt k hk).1; omega)
    have HQ1 := Lib.hid q1; have HQ2 := Lib.hid q2; have HQ3 := Lib.hid q3; have HN := Lib.hid hown'; have HB := Lib.hid hbelow
    clear q1 q2 q3 hown' hkeep hgrow hbelow hb1 d2 d3 y2 y3 c1 c2 c3
    go_wp2
    go_end0
    refine ⟨rfl, ⟨?_, ⟨_, heap_set2 (by omega) HQ2.out, ?_⟩, ?_⟩, (HB.out.setCell (p := ⟨B + 1, 0, none⟩) (by show B ≤ B + 1; omega) _).setCell (p := ⟨B + 2, 0, none⟩) (by show B ≤ B + 2; omega) _⟩
    · rw [Below.heap_setCell _ _ _ _ (by show B ≠ B + 2; omega), Below.heap_setCell _ _ _ _ (by show B ≠ B + 1; omega)]; exact HQ1.out
    · rw [HA.out]
      refine ownsRow_setCell_below (ownsRow_setCell_below ?_ (by show B + 1 < B + 3; omega) _) (by show B + 2 < B + 3; omega) _
      rw [List.length_append, List.length_singleton, List.map_append]; exact HN.out
    · exact heap_set (by rw [Below.heap_setCell _ _ _ _ (by show B + 2 ≠ B + 1; omega)]; exact HQ3.out)
  · have hadd : addP ls p = ls := by unfold addP; rw [he]; rfl
    have HA := Lib.hid hadd; clear hadd
    go_enter Tryz.func156, Tryz.ntmps156
    go_wp2_with (go_at_call 157; refine (K1.out _).mono ?_; rintro e w1 ⟨rfl, hb1⟩; have d3 := (hb1.cell (p := ⟨B + 2, 0, none⟩) l3).trans c3; have y3 := (hb1.frozen (p := ⟨B + 2, 0, none⟩) l3).trans z3)
    go_end0
    refine ⟨rfl, ⟨?_, ⟨v, ?_, ?_⟩, ?_⟩, (hb1.mono (by omega)).setCell (p := ⟨B + 2, 0, none⟩) (by show B ≤ B + 2; omega) _⟩
    · rw [Below.heap_setCell _ _ _ _ (by show B ≠ B + 2; omega), hb1.block B l1]; exact H1.out
    · rw [Below.heap_setCell _ _ _ _ (by show B + 1 ≠ B + 2; omega), hb1.block (B + 1) l2]; exact H2.out
    · rw [HA.out]; exact ownsRow_setCell_below (own_below HO.out hb1) (by show B + 2 < B + 3; omega) _
    · exact heap_set (by rw [hb1.block (B + 2) l3]; exact H3.out)

def seg (s : ByteArray) (f k : Nat) : List UInt8 := (s.data.toList.drop f).take (k - f)
theorem seg_snoc (s : ByteArray) (f k : Nat) (hf : f ≤ k) (h : k < s.size) : seg s f (k + 1) = seg s f k ++ [s[k]] := by
  unfold seg
  rw [show k + 1 - f = (k - f) + 1 from by omega, List.take_succ_eq_append_getElem (by rw [List.length_drop, ← Lib.size_eq]; omega)]
  congr 2
  rw [List.getElem_drop, at_list s k h]; congr 1; omega
theorem seg_self (s : ByteArray) (k : Nat) : seg s k k = [] := by unfold seg; rw [Nat.sub_self]; rfl
/-- One step of the scan, by what the byte is. -/
theorem spl_step (sep : UInt8) (o b : Bool) (cur : List UInt8) (ls : List (List UInt8)) (c : UInt8) (r : List UInt8) (x92 x34 xs : Bool) (h1 : ((c.toNat : Int) == 92) = x92) (h2 : ((c.toNat : Int) == 34) = x34) (h3 : ((c.toNat : Int) == (sep.toNat : Int)) = xs) :
    splP sep o b cur ls (c :: r) = bif b then splP sep o false (cur ++ [c]) ls r
    else bif o && x92 then splP sep o true (cur ++ [c]) ls r
    else bif x34 then splP sep (!o) false (cur ++ [c]) ls r
    else bif xs && !o then splP sep o false [] (addP ls (trimL cur)) r
    else splP sep o false (cur ++ [c]) ls r := by
  have e1 := (beq_cast c.toNat 92).trans h1
  have e2 := (beq_cast c.toNat 34).trans h2
  have e3 := (beq_cast c.toNat sep.toNat).trans h3
  rw [splP, e1, e2, e3]

/-- What Split hands back. -/
def SplitPost (w : World) (r : List (List UInt8) × Int) (e : Ending) (w' : World) : Prop :=
  ∃ a cap, e = .returned (.tuple #[.slice a r.1.length cap, .int .i64 r.2]) ∧ OwnS w.heap.size (.slice a r.1.length cap) r.1 w' ∧ Below w.heap.size w w'
theorem SplitPost.none {w w' : World} {n : Int} (h : Below w.heap.size w w') : SplitPost w ([], n) (.returned (.tuple #[.slice none 0 0, .int .i64 n])) w' :=
  ⟨Option.none, 0, rfl, World.ownsRow_nil _ _ _ _, h⟩

set_option maxRecDepth 100000 in
set_option maxHeartbeats 4000000 in
theorem split_any (s : ByteArray) (sep : UInt8) (w : World) (hs : s.size ≤ 1000000) :
    Calls Tryz.prog 106 #[.string s, .int .u8 sep.toNat] w (SplitPost w (splitL sep s.data.toList)) := by
  cases q1 : ((sep.toNat : Int) == 34)
  · cases q2 : ((sep.toNat : Int) == 92)
    · have hsp : splitL sep s.data.toList = splitE (splP sep false false [] [] s.data.toList) := by
        unfold splitL; rw [(beq_cast sep.toNat 34).trans q1, (beq_cast sep.toNat 92).trans q2]; rfl
      rw [hsp]; clear hsp
      obtain ⟨tot, htot⟩ : ∃ t, splP sep false false [] [] s.data.toList = t := ⟨_, rfl⟩
      rw [htot]
      have hcnt : ∀ ps, tot = some ps → ps.length ≤ 1000001 := by
        intro ps e
        have := spl_count sep s.data.toList false false [] [] ps (htot.trans e)
        rw [← Lib.size_eq] at this; simp at this; omega
      have HT := Lib.hid htot; have HC := Lib.hid hcnt; clear htot hcnt
      have hB3 : Below w.heap.size w (((w.alloc (.cells #[.string s] 9)).alloc (.cells #[.slice none 0 0] 57)).alloc (.cells #[.int .i64 0] 3)) := (((Below.refl _ w).alloc (Nat.le_refl _) _).alloc (by simp) _).alloc (by simp; omega) _
      have hst : TakeSt w.heap.size s 0 [] (((w.alloc (.cells #[.string s] 9)).alloc (.cells #[.slice none 0 0] 57)).alloc (.cells #[.int .i64 0] 3)) := by
        refine ⟨?_, ⟨.slice none 0 0, ?_, World.ownsRow_nil _ _ _ _⟩, ?_⟩
        · rw [Below.heap_alloc _ _ _ (by simp; omega), Below.heap_alloc _ _ _ (by simp)]; exact heap_new _ _ _ rfl
        · rw [Below.heap_alloc _ _ _ (by simp)]; exact heap_new _ _ _ (by simp)
        · exact heap_new _ _ _ (by simp)
      have HB3 := Lib.hid hB3; have HST := Lib.hid hst; clear hB3 hst
      go_enter Tryz.func106, Tryz.ntmps106
      go_wp2
      go_loopw [22, 8, 9] (fun i o b wr => ∃ (k : Nat) (oo bb : Bool) (f : Nat) (ls : List (List UInt8)), k ≤ s.size ∧ i = .int .i64 k ∧ o = .bool oo ∧ b = .bool bb ∧ f ≤ k ∧ (bb = true → oo = true) ∧ ls.length ≤ k ∧ TakeSt w.heap.size s f ls wr ∧ Below w.heap.size w wr ∧ Hid (splP sep oo bb (seg s f k) ls (s.data.toList.drop k) = tot)) (fun i _ _ _ => s.size - (intOf i).toNat)
      case atStart => exact ⟨0, false, false, 0, [], Nat.zero_le _, rfl, rfl, rfl, Nat.le_refl _, (fun h => absurd h (by decide)), by simp, HST.out, HB3.out, by show _ = _; rw [seg_self]; exact HT.out⟩
      case round =>
        clear HB3 HST
        obtain ⟨k, oo, bb, f, ls, hk, rfl, rfl, rfl, hfk, hbo, hls, hst, hbw, Htot⟩ := hrel
        obtain ⟨ct, _, lt⟩ := of_heap hst.text 0
        simp at ct
        have HST := Lib.hid hst; clear hst
        have Hbo := Lib.hid hbo; clear hbo
        by_cases hlt : k < s.size
        · have hd := drop_cons s k hlt
          have hsg := seg_snoc s f k hfk hlt
          cases x92 : ((s[k].toNat : Int) == 92) <;> cases x34 : ((s[k].toNat : Int) == 34) <;> cases xs : ((s[k].toNat : Int) == (sep.toNat : Int))
          all_goals
            have hstep := Htot.out
            rw [hd, spl_step sep oo bb _ ls s[k] _ _ _ _ x92 x34 xs, ← hsg] at hstep
          all_goals clear hd hsg
          all_goals try (exfalso; simp at x92 x34 xs q1 q2; omega; done)
          all_goals cases bb <;> cases oo
          all_goals try (exact absurd (Hbo.out rfl) (by decide))
          all_goals simp only [cond_true, cond_false, Bool.and_true, Bool.and_false, Bool.not_true, Bool.not_false] at hstep
          all_goals first
            | (with_reducible (have HN0 : splP sep _ _ (seg s f (k + 1)) ls (List.drop (k + 1) s.data.toList) = tot := hstep)
               have HN := Lib.hid HN0
               clear HN0 hstep
               go_wp2
               go_roundw
               case rel => exact ⟨k + 1, _, _, f, ls, by omega, by go_num, rfl, rfl, by omega, (fun h => by first | rfl | exact absurd h (by decide)), by omega, HST.out, hbw, HN⟩
               case measure => simp [intOf]; omega)
            | (have hp : trimL (seg s f k) = pieceOf s f k := rfl
               rw [hp, ← seg_self s (k + 1)] at hstep
               have HN := Lib.hid hstep
               clear hstep hp
               have hal := addP_le ls (pieceOf s f k)
               go_wp2_with (go_at_call 156; refine (take_any w.heap.size s f k ls _ HST.out hfk (by omega) hs (by omega)).mono ?_; rintro e w2 ⟨rfl, hst2, hb2⟩)
               have HST2 := Lib.hid hst2; clear hst2
               go_wp2
               go_roundw
               case rel => exact ⟨k + 1, _, _, k + 1, addP ls (pieceOf s f k), by omega, by go_num, rfl, rfl, by omega, (fun h => by first | rfl | exact absurd h (by decide)), by omega, HST2.out, hbw.trans hb2, HN⟩
               case measure => simp [intOf]; omega)
        · have hke : k = s.size := by omega
          subst hke
          have hend := Htot.out
          rw [drop_all s s.size (Nat.le_refl _)] at hend
          cases oo
          · have hp : trimL (seg s f s.size) = pieceOf s f s.size := rfl
            simp only [splP, cond_false, hp] at hend
            subst hend
            have hcn := HC.out _ rfl
            have Hcn := Lib.hid hcn; clear hcn
            clear HT Htot
            have hal := addP_le ls (pieceOf s f s.size)
            go_wp2_with fail
            refine (take_any w.heap.size s f s.size ls _ HST.out hfk (Nat.le_refl _) hs (by omega)).mono ?_
            rintro e w2 ⟨rfl, hst2, hb2⟩
            generalize addP ls (pieceOf s f s.size) = ps at *
            obtain ⟨h1, ⟨v, h2, hown⟩, h3⟩ := hst2
            obtain ⟨a, cap, rfl⟩ := hown.shape
            obtain ⟨c2, _, l2⟩ := of_heap h2 0
            simp at c2
            have hB := hbw.trans hb2
            have HO := Lib.hid hown
            clear hown h1 h2 h3 hb2
            cases hlen : decide (64 < ps.length)
            · have hse : splitE (some ps) = (ps, 0) := by unfold splitE; simp only [hlen, cond_false]
              have HSE := Lib.hid hse
              have t1 : decide ((64 : Int) < (ps.length : Int)) = false := by simp at hlen ⊢; omega
              clear hlen hse
              go_wp2
              go_ret2
              rw [HSE.out]
              exact ⟨a, cap, rfl, ⟨HO.out.1, by
                rcases HO.out.2 with h | ⟨g, cp, cur, hv, hg, r⟩
                · exact Or.inl h
                · exact Or.inr ⟨g, cp, cur, hv, by omega, r⟩⟩, hB⟩
            · have hse : splitE (some ps) = ([], 3) := by unfold splitE; simp only [hlen, cond_true]
              have HSE := Lib.hid hse
              have t1 : decide ((64 : Int) < (ps.length : Int)) = true := by simp at hlen ⊢; omega
              clear hlen hse
              go_wp2
              go_ret2
              rw [HSE.out]
              exact SplitPost.none hB
          · simp only [splP, cond_true] at hend
            subst hend
            clear HT Htot HC
            go_wp2
            go_ret2
            exact SplitPost.none hbw
    · have hsp : splitL sep s.data.toList = ([], 2) := by unfold splitL; rw [(beq_cast sep.toNat 34).trans q1, (beq_cast sep.toNat 92).trans q2]; rfl
      rw [hsp]; clear hsp
      go_enter Tryz.func106, Tryz.ntmps106
      go_wp2
      go_ret2
      exact SplitPost.none ((Below.refl _ w).alloc (Nat.le_refl _) _)
  · have hsp : splitL sep s.data.toList = ([], 2) := by unfold splitL; rw [(beq_cast sep.toNat 34).trans q1]; rfl
    rw [hsp]; clear hsp
    go_enter Tryz.func106, Tryz.ntmps106
    go_wp2
    go_ret2
    exact SplitPost.none ((Below.refl _ w).alloc (Nat.le_refl _) _)
end Go.Proofs.YtgmmjhcklhajiaaGreatDoor
/- The walk of the document's Trim. -/
namespace Go.Proofs.YtgmmjhcklhajiaaGreatDoor
open Go.RowKit

/-- blank? as the document asks it. -/
def blankI (n : Int) : Bool := (n == 32) || (n == 9)
theorem blank_eq (c : UInt8) : blankI c.toNat = blanks.contains c := by
  have h : ∀ x : UInt8, ((c.toNat : Int) == (x.toNat : Int)) = (c == x) := by
    intro x; rw [Bool.eq_iff_iff, beq_iff_eq, beq_iff_eq, ← UInt8.toNat_inj]; omega
  have h1 := h 32; have h2 := h 9
  unfold blankI blanks
  rw [show ((c.toNat : Int) == 32) = (c == 32) from h1, show ((c.toNat : Int) == 9) = (c == 9) from h2]
  rw [Bool.eq_iff_iff]; simp
theorem trim_cut (s : ByteArray) (f t : Nat) (hft : f ≤ t) (ht : t ≤ s.size) (h1 : ∀ j (h : j < s.size), j < f → blanks.contains s[j] = true) (h2 : ∀ h : f < s.size, f < t → blanks.contains s[f] = false)
    (h3 : ∀ j (h : j < s.size), t ≤ j → blanks.contains s[j] = true) (h4 : f < t → ∀ h : t - 1 < s.size, blanks.contains s[t - 1] = false) :
    s.extract f t = ⟨(trimL s.data.toList).toArray⟩ := by
  have at' : ∀ j b, s.data.toList[j]? = some b → ∃ h : j < s.size, s[j] = b := by
    intro j b hb
    obtain ⟨h, e⟩ := List.getElem?_eq_some_iff.1 hb
    exact ⟨by rw [Lib.size_eq]; exact h, by rw [at_list]; exact e⟩
  apply str_eq
  rw [Lib.extract_data]
  show _ = trimL s.data.toList
  unfold trimL Lib.trimS
  by_cases hlt : f < t
  · have e1 : Lib.trimRightS s.data.toList blanks = s.data.toList.take t := by
      refine Lib.trimRightS_take _ _ t (by rw [← Lib.size_eq]; exact ht) (fun j b hj hb => ?_) (fun b _ hb => ?_)
      · obtain ⟨h, rfl⟩ := at' j b hb; exact h3 j h hj
      · obtain ⟨h, rfl⟩ := at' _ b hb; exact h4 hlt h
    rw [e1, Lib.trimLeftS_drop _ _ f (by rw [List.length_take, ← Lib.size_eq]; omega) (fun j b hj hb => ?_) (fun b hb => ?_), List.drop_take]
    · rw [List.getElem?_take_of_lt (by omega)] at hb
      obtain ⟨h, rfl⟩ := at' j b hb; exact h1 j h hj
    · rw [List.getElem?_take_of_lt (by omega)] at hb
      obtain ⟨h, rfl⟩ := at' f b hb; exact h2 h hlt
  · have e1 : Lib.trimRightS s.data.toList blanks = s.data.toList.take 0 := by
      refine Lib.trimRightS_take _ _ 0 (Nat.zero_le _) (fun j b _ hb => ?_) (fun b h0 _ => absurd h0 (by omega))
      obtain ⟨h, rfl⟩ := at' j b hb
      by_cases hj : j < f
      · exact h1 j h hj
      · exact h3 j h (by omega)
    rw [e1, show t - f = 0 from by omega]; simp [Lib.trimLeftS]

set_option maxHeartbeats 4000000 in
theorem rtrim_any (s : ByteArray) (w : World) (hs : s.size ≤ 1000000) :
    Calls Tryz.prog 161 #[.string s] w fun e w' => e = .returned (.string ⟨(trimL s.data.toList).toArray⟩) ∧ w = w' := by
  have hcut := trim_cut s
  generalize (⟨(trimL s.data.toList).toArray⟩ : ByteArray) = out at *
  have HC := Lib.hid hcut; clear hcut
  go_enter Tryz.func161, Tryz.ntmps161
  go_wp2
  go_loop [3] (fun a => ∃ f : Nat, f ≤ s.size ∧ a = .int .i64 f ∧ Hid (∀ j (h : j < s.size), j < f → blanks.contains s[j] = true)) (fun a => s.size - (intOf a).toNat)
  case atStart => exact ⟨0, Nat.zero_le _, rfl, fun j h h0 => absurd h0 (by omega)⟩
  case round =>
    obtain ⟨f, hf, rfl, H1⟩ := hrel
    by_cases hlt : f < s.size
    · have hbe := blank_eq s[f]
      cases hb : blankI s[f].toNat
      · -- the first that is no blank
        have h2 : ∀ t, ∀ h : f < s.size, f < t → blanks.contains s[f] = false := fun t h _ => by rw [← hbe, hb]
        have H2 := Lib.hid h2; clear h2 hbe
        have c1 : ((s[f].toNat : Int) == 32) = false := by unfold blankI at hb; simp at hb ⊢; exact hb.1
        have c2 : ((s[f].toNat : Int) == 9) = false := by unfold blankI at hb; simp at hb ⊢; exact hb.2
        clear hb
        go_wp2
        clear c1 c2
        go_loop [4] (fun a => ∃ t : Nat, f ≤ t ∧ t ≤ s.size ∧ a = .int .i64 t ∧ Hid (∀ j (h : j < s.size), t ≤ j → blanks.contains s[j] = true)) (fun a => (intOf a).toNat)
        case atStart => exact ⟨s.size, hf, Nat.le_refl _, rfl, fun j h h0 => absurd h0 (by omega)⟩
        case round =>
          obtain ⟨t, hft, hts, rfl, H3⟩ := hrel
          by_cases hlt2 : f < t
          · have htl : t - 1 < s.size := by omega
            have hbe := blank_eq s[t - 1]
            have d1 : (1 : Int) ≤ t := by omega
            cases hb : blankI s[t - 1].toNat
            · have hfin := HC.out f t hft hts H1.out (fun h h' => H2.out t h h') H3.out (fun _ _ => by rw [← hbe, hb])
              have HF := Lib.hid hfin; clear hfin hbe
              have c1 : ((s[t - 1].toNat : Int) == 32) = false := by unfold blankI at hb; simp at hb ⊢; exact hb.1
              have c2 : ((s[t - 1].toNat : Int) == 9) = false := by unfold blankI at hb; simp at hb ⊢; exact hb.2
              clear hb
              go_wp2
              go_ret
              exact ⟨by rw [← HF.out]; rfl, rfl⟩
            · have hn : ∀ j (h : j < s.size), t - 1 ≤ j → blanks.contains s[j] = true := by
                intro j h hj
                by_cases e : j = t - 1
                · subst e; rw [← hbe, hb]
                · exact H3.out j h (by omega)
              have HN := Lib.hid hn; clear hn hbe
              cases c1 : ((s[t - 1].toNat : Int) == 32) <;> cases c2 : ((s[t - 1].toNat : Int) == 9)
              · exfalso; unfold blankI at hb; rw [c1, c2] at hb; simp at hb
              all_goals
                clear hb
                go_wp2
                go_round
                case rel => exact ⟨t - 1, by omega, by omega, by go_num, HN⟩
                case measure => simp [intOf]; omega
          · have hfin := HC.out f t hft hts H1.out (fun h h' => H2.out t h h') H3.out (fun h => absurd h hlt2)
            have HF := Lib.hid hfin; clear hfin
            go_wp2
            go_ret
            exact ⟨by rw [← HF.out]; rfl, rfl⟩
      · have hn : ∀ j (h : j < s.size), j < f + 1 → blanks.contains s[j] = true := by
          intro j h hj
          by_cases e : j = f
          · subst e; rw [← hbe, hb]
          · exact H1.out j h (by omega)
        have HN := Lib.hid hn; clear hn hbe
        cases c1 : ((s[f].toNat : Int) == 32) <;> cases c2 : ((s[f].toNat : Int) == 9)
        · exfalso; unfold blankI at hb; rw [c1, c2] at hb; simp at hb
        all_goals
          clear hb
          go_wp2
          go_round
          case rel => exact ⟨f + 1, by omega, by go_num, HN⟩
          case measure => simp [intOf]; omega
    · have h2 : ∀ t, ∀ h : f < s.size, f < t → blanks.contains s[f] = false := fun t h _ => absurd h hlt
      have H2 := Lib.hid h2; clear h2
      · go_wp2
        go_loop [4] (fun a => ∃ t : Nat, f ≤ t ∧ t ≤ s.size ∧ a = .int .i64 t ∧ Hid (∀ j (h : j < s.size), t ≤ j → blanks.contains s[j] = true)) (fun a => (intOf a).toNat)
        case atStart => exact ⟨s.size, hf, Nat.le_refl _, rfl, fun j h h0 => absurd h0 (by omega)⟩
        case round =>
          obtain ⟨t, hft, hts, rfl, H3⟩ := hrel
          by_cases hlt2 : f < t
          · exact absurd hlt2 (by omega)
          · have hfin := HC.out f t hft hts H1.out (fun h h' => H2.out t h h') H3.out (fun h => absurd h hlt2)
            have HF := Lib.hid hfin; clear hfin
            go_wp2
            go_ret
            exact ⟨by rw [← HF.out]; rfl, rfl⟩
end Go.Proofs.YtgmmjhcklhajiaaGreatDoor
/- The walks of the document's Quoted, Split and Texts. -/
namespace Go.Proofs.YtgmmjhcklhajiaaGreatDoor
open Go.RowKit

theorem uBool : (Tryz.prog.info? 4).map (fun i => (i.zero, i.size, i.bytes)) = some (some (.bool false), 1, 1) := by kernel_rfl
def mask (F : List Bool) (i j : Nat) : Bool := decide (j < i) && F.getD j false
structure MaskAt (b : Nat) (F : List Bool) (i n : Nat) (w : World) : Prop where
  cells : ∀ j, j < n → w.cell? ⟨b, j, none⟩ = some (.bool (mask F i j))
  free : ∀ j, j < n → w.frozen? ⟨b, j, none⟩ = false
  lt : b < w.heap.size
theorem MaskAt.fresh (F : List Bool) (n : Nat) (w : World) : MaskAt w.heap.size F 0 n (w.alloc (.cells (madeCells #[.bool false] n) 4)) := by
  refine ⟨fun j hj => ?_, fun j hj => ?_, by simp⟩
  · rw [World.cell?_alloc_mark]
    have : mask F 0 j = false := by unfold mask; simp
    rw [this]; unfold madeCells; simp [hj, Nat.mod_one]
  · rw [World.frozen?_alloc_mark]; simp
theorem MaskAt.skip {b k n : Nat} {F : List Bool} {w : World} (h : MaskAt b F k n w) (e : F.getD k false = false) : MaskAt b F (k + 1) n w := by
  refine ⟨fun j hj => ?_, h.free, h.lt⟩
  rw [h.cells j hj]; congr 2
  unfold mask
  by_cases h2 : j = k
  · subst h2; rw [e]; simp
  · have : decide (j < k + 1) = decide (j < k) := by rw [decide_eq_decide]; omega
    rw [this]
theorem MaskAt.put {b k n : Nat} {F : List Bool} {w : World} (h : MaskAt b F k n w) (hk : k < n) (e : F.getD k false = true) : MaskAt b F (k + 1) n (w.setCell ⟨b, k, none⟩ (.bool true)) := by
  refine ⟨fun j hj => ?_, fun j hj => by rw [World.frozen?_setCell]; exact h.free j hj, by have := h.lt; simpa using this⟩
  have hc := h.cells j hj
  by_cases h2 : j = k
  · subst h2
    rw [World.cell?_setCell_same _ _ _ hc]
    unfold mask; rw [e]; simp
  · rw [World.cell?_setCell_other _ _ _ _ (by intro e; cases e; exact h2 rfl), hc]
    congr 2
    unfold mask
    have : decide (j < k + 1) = decide (j < k) := by rw [decide_eq_decide]; omega
    rw [this]
theorem MaskAt.any {b k n : Nat} {F : List Bool} {w : World} (h : MaskAt b F k n w) (hk : k < n) : ∃ v, w.cell? ⟨b, k, none⟩ = some v := ⟨_, h.cells k hk⟩
theorem getD_of_drop {F G : List Bool} {k : Nat} {x : Bool} (h : F.drop k = x :: G) : F.getD k false = x ∧ F.drop (k + 1) = G := by
  have h1 : F[k]? = some x := by
    have := List.getElem?_drop (xs := F) (i := k) (j := 0)
    rw [h] at this; simpa using this.symm
  refine ⟨by rw [List.getD_eq_getElem?_getD, h1]; rfl, ?_⟩
  have : F.drop (k + 1) = (F.drop k).drop 1 := by rw [List.drop_drop]
  rw [this, h]; rfl

theorem fl_out (c : UInt8) (r : List UInt8) (h : ((c.toNat : Int) == 34) = false) : fl false false (c :: r) = false :: fl false false r ∧ en false false (c :: r) = en false false r := by
  have := (beq_cast c.toNat 34).trans h; simp [fl, en, this]
theorem fl_open (c : UInt8) (r : List UInt8) (h : ((c.toNat : Int) == 34) = true) : fl false false (c :: r) = true :: fl true false r ∧ en false false (c :: r) = en true false r := by
  have := (beq_cast c.toNat 34).trans h; simp [fl, en, this]
theorem fl_close (c : UInt8) (r : List UInt8) (h : ((c.toNat : Int) == 34) = true) : fl true false (c :: r) = true :: fl false false r ∧ en true false (c :: r) = en false false r := by
  have h1 := (beq_cast c.toNat 34).trans h
  have h2 : (c.toNat == 92) = false := by simp at h1; simp [h1]
  simp [fl, en, h1, h2]
theorem fl_in (c : UInt8) (r : List UInt8) (h : ((c.toNat : Int) == 34) = false) (h9 : ((c.toNat : Int) == 92) = false) : fl true false (c :: r) = true :: fl true false r ∧ en true false (c :: r) = en true false r := by
  have h1 := (beq_cast c.toNat 34).trans h
  have h2 := (beq_cast c.toNat 92).trans h9
  simp [fl, en, h1, h2]
theorem fl_esc (c d : UInt8) (r : List UInt8) (h9 : ((c.toNat : Int) == 92) = true) : fl true false (c :: d :: r) = true :: true :: fl true false r ∧ en true false (c :: d :: r) = en true false r := by
  have h2 := (beq_cast c.toNat 92).trans h9
  simp [fl, en, h2]
theorem fl_last (c : UInt8) (h9 : ((c.toNat : Int) == 92) = true) : fl true false [c] = true :: fl true false [] ∧ en true false [c] = en true false [] := by
  have h2 := (beq_cast c.toNat 92).trans h9
  simp [fl, en, h2]

def QuotedPost (w : World) (s : ByteArray) (e : Ending) (w' : World) : Prop :=
  e = .returned (.tuple #[.slice (some ⟨w.heap.size, 0, none⟩) s.size s.size, .bool (!en false false s.data.toList)]) ∧ MaskAt w.heap.size (fl false false s.data.toList) s.size s.size w' ∧ Below w.heap.size w w'

set_option maxRecDepth 100000 in
set_option maxHeartbeats 4000000 in
theorem quoted_any (s : ByteArray) (w : World) (hs : s.size ≤ 1000000) :
    Calls Tryz.prog 160 #[.string s] w (QuotedPost w s) := by
  have hmk := run_make_row' (P := Tryz.prog) 183 4 (.bool false) 1 Tryz.underlying183 uBool rfl .i64 .i64 s.size (by omega) (by omega) w
  obtain ⟨F, hF⟩ : ∃ F, fl false false s.data.toList = F := ⟨_, rfl⟩
  obtain ⟨E, hE⟩ : ∃ E, en false false s.data.toList = E := ⟨_, rfl⟩
  have hm := MaskAt.fresh F s.size w
  have hb : Below w.heap.size w (w.alloc (.cells (madeCells #[.bool false] s.size) 4)) := (Below.refl _ w).alloc (Nat.le_refl _) _
  have HF := Lib.hid hF; have HE := Lib.hid hE
  clear hF hE
  generalize Obj.cells (madeCells #[Value.bool false] s.size) 4 = row at *
  have HM := Lib.hid hm; have HBL := Lib.hid hb; clear hm hb
  go_enter Tryz.func160, Tryz.ntmps160
  go_wp2
  clear hmk
  go_loopw [5] (fun i wr => ∃ k : Nat, k ≤ s.size ∧ i = .int .i64 k ∧ MaskAt w.heap.size F k s.size wr ∧ Below w.heap.size w wr ∧ Hid (F.drop k = fl false false (s.data.toList.drop k) ∧ E = en false false (s.data.toList.drop k))) (fun i _ => s.size - (intOf i).toNat)
  case atStart => exact ⟨0, Nat.zero_le _, rfl, HM.out, HBL.out, by show _ ∧ _; rw [List.drop_zero, List.drop_zero]; exact ⟨HF.out.symm, HE.out.symm⟩⟩
  case round =>
    clear HM HBL
    obtain ⟨k, hk, rfl, hM, hbw, HS⟩ := hrel
    have HM := Lib.hid hM; clear hM
    by_cases hlt : k < s.size
    · have hd := drop_cons s k hlt
      cases c34 : ((s[k].toNat : Int) == 34)
      · have h1 := HS.out
        rw [hd, (fl_out s[k] _ c34).1, (fl_out s[k] _ c34).2] at h1
        obtain ⟨g1, g2⟩ := getD_of_drop h1.1
        have HS2 := Lib.hid (And.intro g2 h1.2)
        have HM2 := Lib.hid (HM.out.skip g1)
        have n34 : ((s[k].toNat : Int) != 34) = true := by simp [bne, c34]
        clear hd h1 g1 g2
        go_wp2
        go_roundw
        case rel => exact ⟨k + 1, by omega, by go_num, HM2.out, hbw, HS2⟩
        case measure => simp [intOf]; omega
      · have h1 := HS.out
        rw [hd, (fl_open s[k] _ c34).1, (fl_open s[k] _ c34).2] at h1
        obtain ⟨g1, g2⟩ := getD_of_drop h1.1
        have HS2 := Lib.hid (And.intro g2 h1.2)
        have HM2 := Lib.hid (HM.out.put hlt g1)
        have n34 : ((s[k].toNat : Int) != 34) = false := by simp [bne, c34]
        have hc := HM.out.cells k hlt
        have hz := HM.out.free k hlt
        clear hd h1 g1 g2
        go_wp2
        obtain ⟨wo, hwo⟩ : ∃ wo : World, wo = wr.setCell ⟨w.heap.size, k, none⟩ (.bool true) := ⟨_, rfl⟩
        rw [← hwo] at HM2 ⊢
        have hbo : Below w.heap.size w wo := by rw [hwo]; exact hbw.setCell (Nat.le_refl _) _
        clear hwo hc hz HM HS hbw n34
        go_loopw [5] (fun i wr => ∃ k2 : Nat, k + 1 ≤ k2 ∧ k2 ≤ s.size ∧ i = .int .i64 k2 ∧ MaskAt w.heap.size F k2 s.size wr ∧ Below w.heap.size w wr ∧ Hid (F.drop k2 = fl true false (s.data.toList.drop k2) ∧ E = en true false (s.data.toList.drop k2))) (fun i _ => s.size - (intOf i).toNat)
        case atStart => exact ⟨k + 1, by omega, by omega, by go_num, HM2.out, hbo, HS2⟩
        case round =>
          clear HM2 HS2 hbo
          obtain ⟨m, hkm, hm, rfl, hM, hbw, HS⟩ := hrel
          have HM := Lib.hid hM; clear hM
          by_cases hlm : m < s.size
          · have hd := drop_cons s m hlm
            have hc := HM.out.cells m hlm
            have hz := HM.out.free m hlm
            cases d34 : ((s[m].toNat : Int) == 34)
            · have n34 : ((s[m].toNat : Int) != 34) = true := by simp [bne, d34]
              cases d92 : ((s[m].toNat : Int) == 92)
              · have h1 := HS.out
                rw [hd, (fl_in s[m] _ d34 d92).1, (fl_in s[m] _ d34 d92).2] at h1
                obtain ⟨g1, g2⟩ := getD_of_drop h1.1
                have HS2 := Lib.hid (And.intro g2 h1.2)
                have HM2 := Lib.hid (HM.out.put hlm g1)
                clear hd h1 g1 g2
                go_wp2
                go_roundw
                case rel => exact ⟨m + 1, by omega, by omega, by go_num, HM2.out, hbw.setCell (Nat.le_refl _) _, HS2⟩
                case measure => simp [intOf]; omega
              · by_cases hl2 : m + 1 < s.size
                · have hd2 := drop_cons s (m + 1) hl2
                  have h1 := HS.out
                  rw [hd, hd2, (fl_esc s[m] s[m + 1] _ d92).1, (fl_esc s[m] s[m + 1] _ d92).2] at h1
                  obtain ⟨g1, g2⟩ := getD_of_drop h1.1
                  obtain ⟨g3, g4⟩ := getD_of_drop g2
                  have HS2 := Lib.hid (And.intro g4 h1.2)
                  have hM2 := HM.out.put hlm g1
                  have hc2 := hM2.cells (m + 1) hl2
                  have hz2 := hM2.free (m + 1) hl2
                  have HM3 := Lib.hid (hM2.put hl2 g3)
                  have t1 : decide ((m : Int) + 1 < (s.size : Int)) = true := by simp; omega
                  clear hd hd2 h1 g1 g2 g3 g4 hM2
                  go_wp2
                  go_roundw
                  case rel => exact ⟨m + 1 + 1, by omega, by omega, by go_num, HM3.out, (hbw.setCell (Nat.le_refl _) _).setCell (Nat.le_refl _) _, HS2⟩
                  case measure => simp [intOf]; omega
                · have h1 := HS.out
                  rw [hd, drop_all s (m + 1) (by omega), (fl_last s[m] d92).1, (fl_last s[m] d92).2] at h1
                  obtain ⟨g1, g2⟩ := getD_of_drop h1.1
                  have h2 := And.intro g2 h1.2
                  rw [← drop_all s (m + 1) (by omega)] at h2
                  have HS2 := Lib.hid h2
                  have HM2 := Lib.hid (HM.out.put hlm g1)
                  have t1 : decide ((m : Int) + 1 < (s.size : Int)) = false := by simp; omega
                  clear hd h1 g1 g2 h2
                  go_wp2
                  go_roundw
                  case rel => exact ⟨m + 1, by omega, by omega, by go_num, HM2.out, hbw.setCell (Nat.le_refl _) _, HS2⟩
                  case measure => simp [intOf]; omega
            · have n34 : ((s[m].toNat : Int) != 34) = false := by simp [bne, d34]
              have h1 := HS.out
              rw [hd, (fl_close s[m] _ d34).1, (fl_close s[m] _ d34).2] at h1
              obtain ⟨g1, g2⟩ := getD_of_drop h1.1
              have HS2 := Lib.hid (And.intro g2 h1.2)
              have HM2 := Lib.hid (HM.out.put hlm g1)
              have t1 : ((m : Int) == (s.size : Int)) = false := by rw [beq_eq_false_iff_ne]; omega
              clear hd h1 g1 g2
              go_wp2
              go_roundw
              case rel => exact ⟨m + 1, by omega, by go_num, HM2.out, hbw.setCell (Nat.le_refl _) _, HS2⟩
              case measure => simp [intOf]; omega
          · have hme : m = s.size := by omega
            subst hme
            have h1 := HS.out
            rw [drop_all s s.size (Nat.le_refl _)] at h1
            have hE : E = true := h1.2
            have HE2 := Lib.hid hE; clear hE h1
            have t1 : ((s.size : Int) == (s.size : Int)) = true := by simp
            go_wp2
            go_ret2
            unfold QuotedPost
            rw [HF.out, HE.out, HE2.out]
            exact ⟨rfl, HM.out, hbw⟩
    · have hme : k = s.size := by omega
      subst hme
      have h1 := HS.out
      rw [drop_all s s.size (Nat.le_refl _)] at h1
      have hE : E = false := h1.2
      have HE2 := Lib.hid hE; clear hE h1
      go_wp2
      go_ret2
      unfold QuotedPost
      rw [HF.out, HE.out, HE2.out]
      exact ⟨rfl, HM.out, hbw⟩

theorem MaskAt.keep {b i n : Nat} {F : List Bool} {w w' : World} (h : MaskAt b F i n w) (hk : w'.heap[b]? = w.heap[b]?) : MaskAt b F i n w' := by
  have hb : ∀ j, j < n → w'.heap[b]? = w.heap[b]? := fun _ _ => hk
  refine ⟨fun j hj => ?_, fun j hj => ?_, ?_⟩
  · rw [← h.cells j hj]; exact World.cell?_of_block (w := w) (a := ⟨b, j, none⟩) (hb j hj)
  · rw [← h.free j hj]; exact World.frozen?_of_block (w := w) (a := ⟨b, j, none⟩) (hb j hj)
  · rcases Nat.lt_or_ge b w'.heap.size with h' | h'
    · exact h'
    · rw [Array.getElem?_eq_none h', Array.getElem?_eq_getElem h.lt] at hk; cases hk
theorem spR_count (sep : UInt8) : ∀ (l : List UInt8) (F : List Bool) (cur : List UInt8) (ls : List (List UInt8)), (spR sep cur ls l F).length ≤ ls.length + l.length + 1
  | [], F, cur, ls => by have := addP_le ls (trimL cur); simp [spR]; omega
  | c :: r, [], cur, ls => by have := addP_le ls (trimL cur); simp [spR]; omega
  | c :: r, f :: fs, cur, ls => by
    have ih := spR_count sep r fs
    have ha := addP_le ls (trimL cur)
    have h1 := ih (cur ++ [c]) ls
    have h2 := ih [] (addP ls (trimL cur))
    rw [spR, List.length_cons]
    cases (c.toNat != sep.toNat) || f
    · simp only [cond_false]; omega
    · simp only [cond_true]; omega

/-- Where the document's cut stands. -/
def SpSt (s : ByteArray) (F : List Bool) (sep : UInt8) (tot : List (List UInt8)) (k f : Nat) (ls : List (List UInt8)) : Prop :=
  (k ≤ s.size → spR sep (seg s f k) ls (s.data.toList.drop k) (F.drop k) = tot) ∧ (s.size < k → ls = tot)
theorem SpSt.skip {s : ByteArray} {F : List Bool} {sep : UInt8} {tot : List (List UInt8)} {k f : Nat} {ls : List (List UInt8)} (h : SpSt s F sep tot k f ls) (hk : k < s.size) (hf : f ≤ k) (hF : F.length = s.size)
    (e : ((s[k].toNat : Int) == (sep.toNat : Int)) = false ∨ F.getD k false = true) : SpSt s F sep tot (k + 1) f ls := by
  refine ⟨fun _ => ?_, fun h => by omega⟩
  have h1 := h.1 (by omega)
  have hkF : k < F.length := by omega
  rw [drop_cons s k hk, List.drop_eq_getElem_cons hkF, spR, ← seg_snoc s f k hf hk] at h1
  have hc : ((s[k].toNat != sep.toNat) || F[k]) = true := by
    rcases e with e | e
    · have := (beq_cast s[k].toNat sep.toNat).trans e; simp [bne, this]
    · rw [List.getD_eq_getElem?_getD, List.getElem?_eq_getElem hkF] at e; simp at e; simp [e]
  rw [hc] at h1
  exact h1
theorem SpSt.cut {s : ByteArray} {F : List Bool} {sep : UInt8} {tot : List (List UInt8)} {k f : Nat} {ls : List (List UInt8)} (h : SpSt s F sep tot k f ls) (hk : k < s.size) (hF : F.length = s.size)
    (e : ((s[k].toNat : Int) == (sep.toNat : Int)) = true) (e2 : F.getD k false = false) : SpSt s F sep tot (k + 1) (k + 1) (addP ls (pieceOf s f k)) := by
  refine ⟨fun _ => ?_, fun h => by omega⟩
  have h1 := h.1 (by omega)
  have hkF : k < F.length := by omega
  rw [drop_cons s k hk, List.drop_eq_getElem_cons hkF, spR] at h1
  have hc : ((s[k].toNat != sep.toNat) || F[k]) = false := by
    have := (beq_cast s[k].toNat sep.toNat).trans e
    rw [List.getD_eq_getElem?_getD, List.getElem?_eq_getElem hkF] at e2; simp at e2; simp [e2, bne, this]
  rw [hc] at h1
  rw [seg_self]; exact h1
theorem SpSt.last {s : ByteArray} {F : List Bool} {sep : UInt8} {tot : List (List UInt8)} {f : Nat} {ls : List (List UInt8)} (h : SpSt s F sep tot s.size f ls) : SpSt s F sep tot (s.size + 1) (s.size + 1) (addP ls (pieceOf s f s.size)) := by
  refine ⟨fun h => by omega, fun _ => ?_⟩
  have h1 := h.1 (Nat.le_refl _)
  rw [drop_all s s.size (Nat.le_refl _)] at h1
  rw [← h1, spR]
  · rfl
  · intro _ _ _ _ e _; cases e

set_option maxRecDepth 100000 in
set_option maxHeartbeats 8000000 in
theorem rsplit_any (s : ByteArray) (sep : UInt8) (w : World) (hs : s.size ≤ 1000000) :
    Calls Tryz.prog 110 #[.string s, .int .u8 sep.toNat] w (SplitPost w (splitL sep s.data.toList)) := by
  cases q1 : ((sep.toNat : Int) == 34)
  · cases q2 : ((sep.toNat : Int) == 92)
    · have hsp : splitL sep s.data.toList = splitE (bif en false false s.data.toList then none else some (spR sep [] [] s.data.toList (fl false false s.data.toList))) := by
        unfold splitL; rw [(beq_cast sep.toNat 34).trans q1, (beq_cast sep.toNat 92).trans q2, spl_eq sep ((beq_cast sep.toNat 34).trans q1) _ _ _ _ _ (fun h => by cases h)]; rfl
      rw [hsp]; clear hsp
      have hq := quoted_any s w hs
      have HQ := Lib.hid hq; clear hq
      have hfl := fl_length s.data.toList false false
      rw [← Lib.size_eq] at hfl
      have hcn := spR_count sep s.data.toList (fl false false s.data.toList) [] []
      rw [← Lib.size_eq] at hcn
      cases hE : en false false s.data.toList
      · rw [cond_false]
        generalize hFF : fl false false s.data.toList = F at *
        obtain ⟨tot, htot⟩ : ∃ t, spR sep [] [] s.data.toList F = t := ⟨_, rfl⟩
        rw [htot] at hcn ⊢
        have HT := Lib.hid htot; have HFF := Lib.hid hFF; have HE := Lib.hid hE; have HL := Lib.hid hfl
        clear htot hFF hE hfl
        have hcn2 : tot.length ≤ 1000001 := by simp at hcn; omega
        clear hcn
        obtain ⟨i0, hi, hz0, hz1, hz2⟩ := info_parts uStr
        go_enter Tryz.func110, Tryz.ntmps110
        go_wp2_with fail
        refine HQ.out.mono ?_
        clear HQ
        rintro e w1 ⟨he, hM, hb1⟩
        rw [HE.out] at he
        rw [HFF.out] at hM
        subst he
        have HM := Lib.hid hM; clear hM
        go_wp2
        have HB1 := Lib.hid hb1; clear hb1
        go_loopw [10, 9, 8] (fun i from_ out wr => ∃ (k f : Nat) (ls : List (List UInt8)), k ≤ s.size + 1 ∧ i = .int .i64 k ∧ from_ = .int .i64 f ∧ f ≤ k ∧ ls.length ≤ k ∧ Hid (OwnS (w.heap.size + 1) out ls wr) ∧ MaskAt w.heap.size F s.size s.size wr ∧ Below w.heap.size w wr ∧ Hid (SpSt s F sep tot k f ls)) (fun i _ _ _ => s.size + 1 - (intOf i).toNat)
        case atStart =>
          refine ⟨0, 0, [], Nat.zero_le _, rfl, rfl, Nat.le_refl _, by simp, World.ownsRow_nil _ _ _ _, HM.out, HB1.out, ?_⟩
          · refine ⟨fun _ => ?_, fun h => by omega⟩
            rw [seg_self, List.drop_zero, List.drop_zero]; exact HT.out
        case round =>
          clear HM HB1
          obtain ⟨k, f, ls, hk, rfl, rfl, hfk, hls, HO, hM, hbw, HS⟩ := hrel
          have HM := Lib.hid hM; clear hM
          by_cases hk1 : k < s.size + 1
          · by_cases hlt : k < s.size
            · have hc := HM.out.cells k hlt
              have hz := HM.out.free k hlt
              have hmk : mask F s.size k = F.getD k false := by unfold mask; rw [decide_eq_true hlt]; rfl
              rw [hmk] at hc; clear hmk
              cases xs : ((s[k].toNat : Int) == (sep.toNat : Int))
              · have HN := Lib.hid (HS.out.skip hlt hfk HL.out (Or.inl xs))
                have ns : ((s[k].toNat : Int) != (sep.toNat : Int)) = true := by simp [bne, xs]
                clear HS
                go_wp2
                go_roundw
                case rel => exact ⟨k + 1, f, ls, by omega, by go_num, rfl, by omega, by omega, HO, HM.out, hbw, HN⟩
                case measure => simp [intOf]; omega
              · have ns : ((s[k].toNat : Int) != (sep.toNat : Int)) = false := by simp [bne, xs]
                cases hF : F.getD k false
                · have HN := Lib.hid (HS.out.cut hlt HL.out xs hF)
                  rw [hF] at hc
                  clear HS hF
                  have hexl : (s.extract f k).data.toList = (s.data.toList.drop f).take (k - f) := Lib.extract_data s f k
                  have hexs : (s.extract f k).size ≤ 1000000 := by rw [ByteArray.size_extract]; omega
                  have k1 := fun w => rtrim_any (s.extract f k) w hexs
                  rw [hexl] at k1
                  have hp : trimL ((s.data.toList.drop f).take (k - f)) = pieceOf s f k := rfl
                  rw [hp] at k1
                  have hpl : (pieceOf s f k).length ≤ 1000000 := by
                    have h1 := trimL_le ((s.data.toList.drop f).take (k - f))
                    rw [hp] at h1
                    have h2 : ((s.data.toList.drop f).take (k - f)).length ≤ s.data.toList.length := by rw [List.length_take, List.length_drop]; omega
                    rw [← Lib.size_eq] at h2; omega
                  generalize pieceOf s f k = p at *
                  have hal := addP_le ls p
                  have K1 := Lib.hid k1; clear k1 hexl hp
                  cases he : p.isEmpty
                  · have hadd : addP ls p = ls ++ [p] := by unfold addP; rw [he]; rfl
                    rw [hadd] at HN hal
                    clear hadd
                    go_wp2_with (first | (go_at_call 161; refine (K1.out _).mono ?_; rintro e w2 ⟨rfl, hb2⟩; subst hb2) | (at_builtin; refine wpList_append_own _ rfl _ _ 57 rfl (w.heap.size + 1) 9 i0 (.string ByteArray.empty) 1 16 Tryz.underlying57 hi hz0 hz1 hz2 rfl (by decide) _ _ _ rfl (HO.out.alloc _) ⟨wr.heap.size, 0, none⟩ 1 1 [.string ⟨p.toArray⟩] rfl rfl ?c1 ?c2 ?c3 ?c4 ?c5 ?_))
                    case c1 =>
                      intro j u hj
                      match j, hj with
                      | 0, hj => simp at hj; subst hj; simp [Addr.add]
                    case c2 => intro u hu; simp at hu; subst hu; rfl
                    case c3 => unfold maxLen; omega
                    case c4 => omega
                    case c5 => have := HM.out.lt; simp; omega
                    intro v' w2 hown' hgrow _
                    have hlt := HM.out.lt
                    have HM2 := Lib.hid (HM.out.keep (w' := w2) (by rw [hgrow.block _ (by simp; omega) (fun e => by have := (HO.out.lt _ e.symm).1; omega), Below.heap_alloc _ _ _ (by omega)]))
                    have hb2 : Below w.heap.size w w2 := (hbw.alloc (by omega) _).grown hgrow (by simp; omega) (fun k hk => by have := (HO.out.lt k hk).1; omega)
                    have HO2 : Hid (OwnS (w.heap.size + 1) v' (ls ++ [p]) w2) := by
                      refine Lib.hid ?_
                      show World.ownsRow _ _ _ _ _ _ _
                      rw [List.length_append, List.length_singleton, List.map_append]; exact hown'
                    clear hown' hgrow HO HM hbw
                    go_wp2
                    go_roundw
                    case rel => exact ⟨k + 1, k + 1, ls ++ [p], by omega, by go_num, by go_num, by omega, by omega, HO2, HM2.out, hb2, HN⟩
                    case measure => simp [intOf]; omega
                  · have hadd : addP ls p = ls := by unfold addP; rw [he]; rfl
                    rw [hadd] at HN hal
                    clear hadd
                    go_wp2_with (go_at_call 161; refine (K1.out _).mono ?_; rintro e w2 ⟨rfl, hb2⟩; subst hb2)
                    go_roundw
                    case rel => exact ⟨k + 1, k + 1, ls, by omega, by go_num, by go_num, by omega, by omega, HO, HM.out, hbw, HN⟩
                    case measure => simp [intOf]; omega
                · have HN := Lib.hid (HS.out.skip hlt hfk HL.out (Or.inr hF))
                  rw [hF] at hc
                  clear HS hF
                  go_wp2
                  go_roundw
                  case rel => exact ⟨k + 1, f, ls, by omega, by go_num, rfl, by omega, by omega, HO, HM.out, hbw, HN⟩
                  case measure => simp [intOf]; omega
            · have hke : k = s.size := by omega
              subst hke
              have HN := Lib.hid HS.out.last
              clear HS
              have hexl : (s.extract f s.size).data.toList = (s.data.toList.drop f).take (s.size - f) := Lib.extract_data s f s.size
              have hexs : (s.extract f s.size).size ≤ 1000000 := by rw [ByteArray.size_extract]; omega
              have k1 := fun w => rtrim_any (s.extract f s.size) w hexs
              rw [hexl] at k1
              have hp : trimL ((s.data.toList.drop f).take (s.size - f)) = pieceOf s f s.size := rfl
              rw [hp] at k1
              have hpl : (pieceOf s f s.size).length ≤ 1000000 := by
                have h1 := trimL_le ((s.data.toList.drop f).take (s.size - f))
                rw [hp] at h1
                have h2 : ((s.data.toList.drop f).take (s.size - f)).length ≤ s.data.toList.length := by rw [List.length_take, List.length_drop]; omega
                rw [← Lib.size_eq] at h2; omega
              generalize pieceOf s f s.size = p at *
              have hal := addP_le ls p
              have K1 := Lib.hid k1; clear k1 hexl hp
              cases he : p.isEmpty
              · have hadd : addP ls p = ls ++ [p] := by unfold addP; rw [he]; rfl
                rw [hadd] at HN hal
                clear hadd
                go_wp2_with (first | (go_at_call 161; refine (K1.out _).mono ?_; rintro e w2 ⟨rfl, hb2⟩; subst hb2) | (at_builtin; refine wpList_append_own _ rfl _ _ 57 rfl (w.heap.size + 1) 9 i0 (.string ByteArray.empty) 1 16 Tryz.underlying57 hi hz0 hz1 hz2 rfl (by decide) _ _ _ rfl (HO.out.alloc _) ⟨wr.heap.size, 0, none⟩ 1 1 [.string ⟨p.toArray⟩] rfl rfl ?c1 ?c2 ?c3 ?c4 ?c5 ?_))
                case c1 =>
                  intro j u hj
                  match j, hj with
                  | 0, hj => simp at hj; subst hj; simp [Addr.add]
                case c2 => intro u hu; simp at hu; subst hu; rfl
                case c3 => unfold maxLen; omega
                case c4 => omega
                case c5 => have := HM.out.lt; simp; omega
                intro v' w2 hown' hgrow _
                have hlt := HM.out.lt
                have HM2 := Lib.hid (HM.out.keep (w' := w2) (by rw [hgrow.block _ (by simp; omega) (fun e => by have := (HO.out.lt _ e.symm).1; omega), Below.heap_alloc _ _ _ (by omega)]))
                have hb2 : Below w.heap.size w w2 := (hbw.alloc (by omega) _).grown hgrow (by simp; omega) (fun k hk => by have := (HO.out.lt k hk).1; omega)
                have HO2 : Hid (OwnS (w.heap.size + 1) v' (ls ++ [p]) w2) := by
                  refine Lib.hid ?_
                  show World.ownsRow _ _ _ _ _ _ _
                  rw [List.length_append, List.length_singleton, List.map_append]; exact hown'
                clear hown' hgrow HO HM hbw
                go_wp2
                go_roundw
                case rel => exact ⟨s.size + 1, s.size + 1, ls ++ [p], by omega, (by first | go_num | rfl), (by first | go_num | rfl), by omega, by omega, HO2, HM2.out, hb2, HN⟩
                case measure => simp [intOf] <;> omega
              · have hadd : addP ls p = ls := by unfold addP; rw [he]; rfl
                rw [hadd] at HN hal
                clear hadd
                go_wp2_with (go_at_call 161; refine (K1.out _).mono ?_; rintro e w2 ⟨rfl, hb2⟩; subst hb2)
                go_roundw
                case rel => exact ⟨s.size + 1, s.size + 1, ls, by omega, (by first | go_num | rfl), (by first | go_num | rfl), by omega, by omega, HO, HM.out, hbw, HN⟩
                case measure => simp [intOf] <;> omega
          · have hke : k = s.size + 1 := by omega
            subst hke
            have hte := HS.out.2 (by omega)
            have HTE := Lib.hid hte; clear hte
            obtain ⟨a, cap, rfl⟩ := HO.out.shape
            cases hlen : decide (64 < ls.length)
            · have hse : splitE (some tot) = (ls, 0) := by rw [← HTE.out]; unfold splitE; simp only [hlen, cond_false]
              have HSE := Lib.hid hse
              have t1 : decide ((64 : Int) < (ls.length : Int)) = false := by simp at hlen ⊢; omega
              clear hlen hse
              go_wp2
              go_ret2
              rw [HSE.out]
              exact ⟨a, cap, rfl, OwnS.base HO.out (by omega), hbw⟩
            · have hse : splitE (some tot) = ([], 3) := by rw [← HTE.out]; unfold splitE; simp only [hlen, cond_true]
              have HSE := Lib.hid hse
              have t1 : decide ((64 : Int) < (ls.length : Int)) = true := by simp at hlen ⊢; omega
              clear hlen hse
              go_wp2
              go_ret2
              rw [HSE.out]
              exact SplitPost.none hbw
      · rw [cond_true]
        have HE := Lib.hid hE; clear hE hcn hfl
        go_enter Tryz.func110, Tryz.ntmps110
        go_wp2_with fail
        refine HQ.out.mono ?_
        rintro e w1 ⟨he, hM, hb1⟩
        rw [HE.out] at he
        subst he
        clear hM
        go_wp2
        go_ret2
        exact SplitPost.none hb1
    · have hsp : splitL sep s.data.toList = ([], 2) := by unfold splitL; rw [(beq_cast sep.toNat 34).trans q1, (beq_cast sep.toNat 92).trans q2]; rfl
      rw [hsp]; clear hsp
      go_enter Tryz.func110, Tryz.ntmps110
      go_wp2
      go_ret2
      exact SplitPost.none (Below.refl _ w)
  · have hsp : splitL sep s.data.toList = ([], 2) := by unfold splitL; rw [(beq_cast sep.toNat 34).trans q1]; rfl
    rw [hsp]; clear hsp
    go_enter Tryz.func110, Tryz.ntmps110
    go_wp2
    go_ret2
    exact SplitPost.none (Below.refl _ w)
end Go.Proofs.YtgmmjhcklhajiaaGreatDoor
/- The walks of text.word, text.Token. -/
namespace Go.Proofs.YtgmmjhcklhajiaaGreatDoor
open Go.RowKit

theorem mark_ix (c : UInt8) : decide (0 ≤ Lib.indexByte markL c) = markL.contains c := by
  have key : ∀ (l : List UInt8), decide (0 ≤ Lib.indexByte l c) = l.contains c := by
    intro l
    rw [Bool.eq_iff_iff]
    simp only [decide_eq_true_eq, List.contains_iff_mem]
    constructor
    · intro h
      obtain ⟨o, ho⟩ := Int.eq_ofNat_of_zero_le h
      exact List.mem_of_getElem? (Lib.indexByte_some ho).1
    · intro h
      obtain ⟨k, hk⟩ := List.mem_iff_getElem?.1 h
      have h1 := Lib.indexByte_ge l c
      have h2 : Lib.indexByte l c ≠ -1 := fun e => Lib.indexByte_none e k hk
      omega
  exact key markL
def letterI (n : Int) : Bool := (decide (97 ≤ n) && decide (n ≤ 122)) || (decide (65 ≤ n) && decide (n ≤ 90)) || (decide (48 ≤ n) && decide (n ≤ 57))
theorem letter_eq (c : UInt8) : letterb c = letterI c.toNat := by
  unfold letterb letterI; rw [Bool.eq_iff_iff]; simp; omega

set_option maxHeartbeats 2000000 in
theorem word_any (c : UInt8) (w : World) :
    Calls Tryz.prog 158 #[.int .u8 c.toNat] w fun e w' => e = .returned (.bool (wordb c)) ∧ w = w' := by
  have hi := Tryz.strings_IndexByte ⟨markL.toArray⟩ (c.toNat : Int)
  rw [show (c.toNat : Int).toNat.toUInt8 = c from by simp] at hi
  rw [show (⟨markL.toArray⟩ : ByteArray).data.toList = markL from rfl] at hi
  have hm := mark_ix c
  have hw : wordb c = (letterI c.toNat || markL.contains c) := by unfold wordb; rw [letter_eq]
  have hu := c.toNat_lt
  generalize Lib.indexByte markL c = ix at *
  generalize c.toNat = n at *
  generalize markL.contains c = mm at *
  rw [hw]
  have HI := Lib.hid hi
  clear hi hw
  unfold letterI
  cases h1 : decide (97 ≤ (n : Int)) <;> cases h2 : decide ((n : Int) ≤ 122)
  · exfalso; simp at h1 h2; omega
  · cases h3 : decide (65 ≤ (n : Int)) <;> cases h4 : decide ((n : Int) ≤ 90)
    · exfalso; simp at h3 h4; omega
    · cases h5 : decide (48 ≤ (n : Int)) <;> cases h6 : decide ((n : Int) ≤ 57)
      · exfalso; simp at h5 h6; omega
      all_goals
        go_enter Tryz.func158, Tryz.ntmps158
        go_wp2_with (go_at_call 199; refine (HI.out _).mono ?_; rintro e w' ⟨rfl, rfl⟩)
        go_ret
        first | exact ⟨by rw [← hm]; rfl, rfl⟩ | exact ⟨rfl, rfl⟩
    · have h5 : decide (48 ≤ (n : Int)) = true := by simp at h3 ⊢; omega
      have h6 : decide ((n : Int) ≤ 57) = false := by simp at h3 ⊢; omega
      rw [h5, h6]
      go_enter Tryz.func158, Tryz.ntmps158
      go_wp2_with (go_at_call 199; refine (HI.out _).mono ?_; rintro e w' ⟨rfl, rfl⟩)
      go_ret
      first | exact ⟨by rw [← hm]; rfl, rfl⟩ | exact ⟨rfl, rfl⟩
    · go_enter Tryz.func158, Tryz.ntmps158
      go_wp2_with (go_at_call 199; refine (HI.out _).mono ?_; rintro e w' ⟨rfl, rfl⟩)
      go_ret
      first | exact ⟨by rw [← hm]; rfl, rfl⟩ | exact ⟨rfl, rfl⟩
  · have h3 : decide (65 ≤ (n : Int)) = true := by simp at h1 ⊢; omega
    have h4 : decide ((n : Int) ≤ 90) = false := by simp at h1 ⊢; omega
    have h5 : decide (48 ≤ (n : Int)) = true := by simp at h1 ⊢; omega
    have h6 : decide ((n : Int) ≤ 57) = false := by simp at h1 ⊢; omega
    rw [h3, h4, h5, h6]
    go_enter Tryz.func158, Tryz.ntmps158
    go_wp2_with (go_at_call 199; refine (HI.out _).mono ?_; rintro e w' ⟨rfl, rfl⟩)
    go_ret
    first | exact ⟨by rw [← hm]; rfl, rfl⟩ | exact ⟨rfl, rfl⟩
  · go_enter Tryz.func158, Tryz.ntmps158
    go_wp2_with (go_at_call 199; refine (HI.out _).mono ?_; rintro e w' ⟨rfl, rfl⟩)
    go_ret
    first | exact ⟨by rw [← hm]; rfl, rfl⟩ | exact ⟨rfl, rfl⟩

set_option maxHeartbeats 2000000 in
theorem token_any (s : ByteArray) (w : World) (hs : s.size ≤ 1000000) :
    Calls Tryz.prog 108 #[.string s] w fun e w' => e = .returned (.bool (tokenL s.data.toList)) ∧ w = w' := by
  have hB : ∀ k (h : k < s.size), wordb s[k] = false → tokenL s.data.toList = false := by
    intro k h hk; unfold tokenL; rw [all_bad wordb s k h hk]; rfl
  have hQ : ∀ k, (s.data.toList.take k).all wordb = true → s.size ≤ k → tokenL s.data.toList = !s.data.toList.isEmpty := by
    intro k h hk; rw [take_all s k hk] at h; unfold tokenL; rw [h]; rfl
  have HB := Lib.hid hB; have HQ := Lib.hid hQ
  clear hB hQ
  generalize tokenL s.data.toList = out at *
  go_enter Tryz.func108, Tryz.ntmps108
  go_wp2
  go_loop [6] (fun i => ∃ k : Nat, k ≤ s.size ∧ i = .int .i64 k ∧ Hid ((s.data.toList.take k).all wordb = true)) (fun i => s.size - (intOf i).toNat)
  case atStart => exact ⟨0, Nat.zero_le _, rfl, by show _ = _; simp⟩
  case round =>
    obtain ⟨k, hk, rfl, Hall⟩ := hrel
    by_cases hlt : k < s.size
    · cases hp : wordb s[k]
      · have hf := HB.out k hlt hp
        have Hf := Lib.hid hf; have Hp := Lib.hid hp; clear hf hp
        go_wp2_with (go_at_call 158; refine (word_any _ _).mono ?_; rintro e w2 ⟨rfl, rfl⟩; rw [Hp.out])
        go_ret
        exact ⟨by rw [Hf.out]; rfl, rfl⟩
      · have hn : (s.data.toList.take (k + 1)).all wordb = true := by rw [all_snoc wordb s k hlt, Hall.out, hp]; rfl
        have Hn := Lib.hid hn; have Hp := Lib.hid hp; clear hn hp
        go_wp2_with (go_at_call 158; refine (word_any _ _).mono ?_; rintro e w2 ⟨rfl, rfl⟩; rw [Hp.out])
        go_round
        case rel => exact ⟨k + 1, by omega, by go_num, Hn⟩
        case measure => simp [intOf]; omega
    · have hf := HQ.out k Hall.out (by omega)
      have Hf := Lib.hid hf; clear hf
      go_wp2
      go_ret
      exact ⟨by rw [Hf.out]; simp [Lib.toList_data], rfl⟩
end Go.Proofs.YtgmmjhcklhajiaaGreatDoor
/- The walks of the document's Letter, In, Token. -/
namespace Go.Proofs.YtgmmjhcklhajiaaGreatDoor
open Go.RowKit

set_option maxHeartbeats 1000000 in
theorem rletter_any (c : UInt8) (w : World) :
    Calls Tryz.prog 162 #[.int .u8 c.toNat] w fun e w' => e = .returned (.bool (letterb c)) ∧ w = w' := by
  rw [letter_eq]
  have hu := c.toNat_lt
  generalize c.toNat = n at *
  unfold letterI
  cases h3 : decide (65 ≤ (n : Int)) <;> cases h4 : decide ((n : Int) ≤ 90) <;> cases h1 : decide (97 ≤ (n : Int)) <;> cases h2 : decide ((n : Int) ≤ 122) <;> cases h5 : decide (48 ≤ (n : Int)) <;> cases h6 : decide ((n : Int) ≤ 57)
  all_goals first | (exfalso; simp at h1 h2 h3 h4 h5 h6; omega; done) | skip
  all_goals
    go_enter Tryz.func162, Tryz.ntmps162
    go_wp2
    go_ret
    exact ⟨rfl, rfl⟩

set_option maxHeartbeats 1000000 in
theorem rin_any (c : UInt8) (s : ByteArray) (w : World) (hs : s.size ≤ 1000000) :
    Calls Tryz.prog 163 #[.int .u8 c.toNat, .string s] w fun e w' => e = .returned (.bool (s.data.toList.contains c)) ∧ w = w' := by
  have hY : ∀ k (h : k < s.size), s[k] = c → s.data.toList.contains c = true := by
    intro k h e; rw [List.contains_iff_mem, ← e]; show s.data[k] ∈ _; simp
  have hN : ∀ k, s.size ≤ k → (s.data.toList.take k).contains c = false → s.data.toList.contains c = false := by
    intro k h e; rwa [take_all s k h] at e
  have hS : ∀ k (h : k < s.size), (s.data.toList.take k).contains c = false → ¬ s[k] = c → (s.data.toList.take (k + 1)).contains c = false := by
    intro k h e n
    rw [take_snoc s k h, List.contains_eq_mem] at *
    simp at *; exact ⟨e, fun x => n x.symm⟩
  have HY := Lib.hid hY; have HN := Lib.hid hN; have HS := Lib.hid hS; clear hY hN hS
  generalize s.data.toList.contains c = out at *
  go_enter Tryz.func163, Tryz.ntmps163
  go_wp2
  go_loop [5] (fun i => ∃ k : Nat, k ≤ s.size ∧ i = .int .i64 k ∧ Hid ((s.data.toList.take k).contains c = false)) (fun i => s.size - (intOf i).toNat)
  case atStart => exact ⟨0, Nat.zero_le _, rfl, by show _ = _; simp⟩
  case round =>
    obtain ⟨k, hk, rfl, Hall⟩ := hrel
    by_cases hlt : k < s.size
    · by_cases hc : s[k] = c
      · have hf := HY.out k hlt hc
        have t1 : ((s[k].toNat : Int) == (c.toNat : Int)) = true := by rw [hc]; simp
        have Hf := Lib.hid hf; clear hf hc
        go_wp2
        go_ret
        exact ⟨by rw [Hf.out]; rfl, rfl⟩
      · have hf := HS.out k hlt Hall.out hc
        have t1 : ((s[k].toNat : Int) == (c.toNat : Int)) = false := by
          rw [beq_eq_false_iff_ne]; intro e; exact hc (UInt8.toNat_inj.1 (by omega))
        have Hf := Lib.hid hf; clear hf hc
        go_wp2
        go_round
        case rel => exact ⟨k + 1, by omega, by go_num, Hf⟩
        case measure => simp [intOf]; omega
    · have hf := HN.out k (by omega) Hall.out
      have Hf := Lib.hid hf; clear hf
      go_wp2
      go_ret
      exact ⟨by rw [Hf.out]; rfl, rfl⟩

set_option maxHeartbeats 1000000 in
theorem rtoken_any (s : ByteArray) (w : World) (hs : s.size ≤ 1000000) :
    Calls Tryz.prog 111 #[.string s] w fun e w' => e = .returned (.bool (tokenL s.data.toList)) ∧ w = w' := by
  have hB : ∀ k (h : k < s.size), wordb s[k] = false → tokenL s.data.toList = false := by
    intro k h hk; unfold tokenL; rw [all_bad wordb s k h hk]; rfl
  have hQ : ∀ k, (s.data.toList.take k).all wordb = true → s.size ≤ k → tokenL s.data.toList = !s.data.toList.isEmpty := by
    intro k h hk; rw [take_all s k hk] at h; unfold tokenL; rw [h]; rfl
  have hm : ∀ (c : UInt8) (w : World), Calls Tryz.prog 163 #[.int .u8 c.toNat, .string ⟨#[33, 35, 36, 37, 38, 39, 42, 43, 45, 46, 94, 95, 96, 124, 126]⟩] w fun e w' => e = .returned (.bool (markL.contains c)) ∧ w = w' := fun c w => rin_any c ⟨#[33, 35, 36, 37, 38, 39, 42, 43, 45, 46, 94, 95, 96, 124, 126]⟩ w (by decide)
  have HB := Lib.hid hB; have HQ := Lib.hid hQ; have HM := Lib.hid hm
  clear hB hQ hm
  by_cases h0 : 0 < s.size
  all_goals
    have h0' := h0
    generalize tokenL s.data.toList = out at *
    go_enter Tryz.func111, Tryz.ntmps111
    go_wp2
    go_loop [3] (fun i => ∃ k : Nat, k ≤ s.size ∧ i = .int .i64 k ∧ Hid ((s.data.toList.take k).all wordb = true)) (fun i => s.size - (intOf i).toNat)
    case atStart => exact ⟨0, Nat.zero_le _, rfl, by show _ = _; simp⟩
    case round =>
      obtain ⟨k, hk, rfl, Hall⟩ := hrel
      by_cases hlt : k < s.size
      · have hw : wordb s[k] = (letterb s[k] || markL.contains s[k]) := rfl
        cases c1 : letterb s[k] <;> cases c2 : markL.contains s[k]
        all_goals rw [c1, c2] at hw
        · have hf := HB.out k hlt hw
          have Hf := Lib.hid hf; have C1 := Lib.hid c1; have C2 := Lib.hid c2; clear hf hw c1 c2
          go_wp2_with (first | (go_at_call 162; refine (rletter_any _ _).mono ?_; rintro e w2 ⟨rfl, rfl⟩; rw [C1.out]) | (go_at_call 163; refine (HM.out _ _).mono ?_; rintro e w2 ⟨rfl, rfl⟩; rw [C2.out]))
          go_ret
          exact ⟨by rw [Hf.out]; rfl, rfl⟩
        all_goals
          have hn : (s.data.toList.take (k + 1)).all wordb = true := by rw [all_snoc wordb s k hlt, Hall.out, hw]; rfl
          have Hn := Lib.hid hn; have C1 := Lib.hid c1; have C2 := Lib.hid c2; clear hn hw c1 c2
          go_wp2_with (first | (go_at_call 162; refine (rletter_any _ _).mono ?_; rintro e w2 ⟨rfl, rfl⟩; rw [C1.out]) | (go_at_call 163; refine (HM.out _ _).mono ?_; rintro e w2 ⟨rfl, rfl⟩; rw [C2.out]))
          go_round
          case rel => exact ⟨k + 1, by omega, by go_num, Hn⟩
          case measure => simp [intOf]; omega
      · have hf := HQ.out k Hall.out (by omega)
        have he : s.data.toList.isEmpty = !decide (0 < s.size) := by
          by_cases g : 0 < s.size
          · rw [ne_of_pos s g]; simp [g]
          · rw [nil_of_zero s g]; simp [g]
        rw [he] at hf
        have Hf := Lib.hid hf; clear hf he
        go_wp2
        go_ret
        exact ⟨by rw [Hf.out]; simp [h0'], rfl⟩
end Go.Proofs.YtgmmjhcklhajiaaGreatDoor
/- The walk of the document's Values (layer 4). -/
namespace Go.Proofs.YtgmmjhcklhajiaaGreatDoor
open Go.RowKit

set_option maxRecDepth 100000 in
set_option maxHeartbeats 2000000 in
theorem rvalues_any (A : Option Addr) (n c : Nat) (xs : List Fld) (name : ByteArray) (w : World) (hr : Rd A n 2 (fldsV xs) w) (hn : n ≤ 1000000) (hs : ∀ f ∈ xs, f.1.length ≤ 1000000) (hname : name.size ≤ 1000000) :
    Calls Tryz.prog 66 #[.slice A n c, .string name] w (TextsPost w (valuesL xs name.data.toList)) := by
  have hB := Below.refl w.heap.size w
  obtain rfl := hr.fld
  have HR := Lib.hid hr; have HS := Lib.hid hs; clear hr hs
  have k2 := fun w => rlower_any name w hname
  have K2 := Lib.hid k2; clear k2
  go_enter Tryz.func66, Tryz.ntmps66
  go_wp2
  go_loopw [6, 5] (fun i out wr => ∃ k : Nat, k ≤ xs.length ∧ i = .int .i64 k ∧ Hid (OwnS w.heap.size out (valuesL (xs.take k) name.data.toList) wr) ∧ Below w.heap.size w wr) (fun i _ _ => xs.length - (intOf i).toNat)
  case atStart => exact ⟨0, Nat.zero_le _, rfl, Lib.hid (OwnS.nil _ _), hB⟩
  case round =>
    clear hB
    obtain ⟨k, hk, rfl, HO, hbw⟩ := hrel
    by_cases hlt : k < xs.length
    · obtain ⟨b, o, rfl, hl, c1, c2⟩ := (HR.out.below hbw).fld_at (k := k) (by omega)
      have hf1 := HS.out xs[k] (List.getElem_mem _)
      have hsn := valuesL_snoc (xs.take k) xs[k] name.data.toList
      rw [← take_snocL xs k (by omega)] at hsn
      have k1 := fun w => rlower_any ⟨(xs[k]).1.toArray⟩ w (by rw [Lib.size_eq]; exact hf1)
      have hvl := valuesL_le (xs.take k) name.data.toList
      rw [List.length_take] at hvl
      generalize xs[k] = f at *
      obtain ⟨f1, f2⟩ := f
      simp only at c1 c2 k1 hsn
      have Hsn := Lib.hid hsn; have K1 := Lib.hid k1; clear hsn k1 hf1
      cases hq : (lowerL f1 == lowerL name.data.toList)
      · have hnx := Hsn.out
        rw [hq, if_neg (by decide)] at hnx
        have HN : Hid (OwnS w.heap.size u5 (valuesL (xs.take (k + 1)) name.data.toList) wr) := by rw [hnx]; exact HO
        have Hq := Lib.hid hq; clear hnx hq Hsn
        go_wp2_with fail
        refine (K1.out _).mono ?_
        rintro e w1 ⟨rfl, hb1⟩
        go_wp2_with fail
        refine (K2.out _).mono ?_
        rintro e w2 ⟨rfl, hb2⟩
        have q1 := Hq.out
        go_wp2
        have hb3 : Below w.heap.size w w2 := (hbw.trans (hb1.mono hbw.size)).trans (hb2.mono (by have := hbw.size; have := hb1.size; omega))
        go_roundw
        case rel => exact ⟨k + 1, by omega, by go_num, Lib.hid ((HN.out.below hb1).below hb2), hb3⟩
        case measure => simp [intOf]; omega
      · have hnx := Hsn.out
        rw [hq, if_pos rfl] at hnx
        have Hnx := Lib.hid hnx
        have Hq := Lib.hid hq; clear hnx hq Hsn
        go_wp2_with fail
        refine (K1.out _).mono ?_
        rintro e w1 ⟨rfl, hb1⟩
        go_wp2_with fail
        refine (K2.out _).mono ?_
        rintro e w2 ⟨rfl, hb2⟩
        have q1 := Hq.out
        have hb3 : Below w.heap.size w w2 := (hbw.trans (hb1.mono hbw.size)).trans (hb2.mono (by have := hbw.size; have := hb1.size; omega))
        have d2 := (hb2.cell (p := ⟨b, o + k * 2 + 1, none⟩) (by have := hb1.size; show b < _; omega)).trans ((hb1.cell (p := ⟨b, o + k * 2 + 1, none⟩) hl).trans c2)
        have HO1 := Lib.hid ((HO.out.below hb1).below hb2)
        go_wp2_with (at_builtin; refine app_str w.heap.size f2 HO1.out hb3.size (by omega) rfl _ _ rfl rfl rfl ?_)
        intro v' w3 hO2 hb4 _
        have hb5 := hb3.trans hb4
        have HO2 : Hid (OwnS w.heap.size v' (valuesL (xs.take (k + 1)) name.data.toList) w3) := by rw [Hnx.out]; exact Lib.hid hO2
        clear hO2 hb4 hb3 hb2 hb1 d2 q1
        go_wp2
        go_roundw
        case rel => exact ⟨k + 1, by omega, by go_num, HO2, hb5⟩
        case measure => simp [intOf]; omega
    · have hke : k = xs.length := by omega
      subst hke
      have ho := HO.out
      rw [List.take_length] at ho
      obtain ⟨a, cap, rfl⟩ := ho.shape
      have HO1 := Lib.hid ho; clear ho HO
      go_wp2
      go_ret
      exact ⟨a, cap, rfl, HO1.out, hbw⟩
end Go.Proofs.YtgmmjhcklhajiaaGreatDoor
/- The walks of Hop and Clean (layer 4), and of the document's. -/
namespace Go.Proofs.YtgmmjhcklhajiaaGreatDoor
open Go.RowKit
set_option maxRecDepth 100000

theorem OwnS.new (w : World) (ls : List (List UInt8)) (h : ls.length ≤ 1000000) : OwnS w.heap.size (.slice (some ⟨w.heap.size, 0, none⟩) ls.length ls.length) ls (w.alloc (.cells (strsV ls).toArray 9)) := by
  refine ⟨by simp, Or.inr ⟨w.heap.size, ls.length, (strsV ls).toArray, rfl, Nat.le_refl _, ?_, Nat.le_refl _, ?_, ?_, ?_⟩⟩
  · exact heap_new _ _ _ rfl
  · unfold maxLen; omega
  · simp [strsV]
  · exact List.take_of_length_le (by simp [strsV])

set_option maxHeartbeats 2000000 in
theorem index_any (A : Option Addr) (n c : Nat) (ls : List (List UInt8)) (nm : List UInt8) (w : World) (hr : Rd A n 1 (strsV ls) w) (hn : n ≤ 1000000) :
    Calls Tryz.prog 159 #[.slice A n c, .string ⟨nm.toArray⟩] w fun e w' => (∃ i : Int, e = .returned (.int .i64 i) ∧ decide (0 ≤ i) = ls.contains nm) ∧ w = w' := by
  obtain rfl := hr.str
  have hY : ∀ k (h : k < ls.length), (ls[k] == nm) = true → ls.contains nm = true := by
    intro k h e
    rw [List.contains_iff_mem, ← beq_iff_eq.1 e]; exact List.getElem_mem _
  have hN : ∀ k, ls.length ≤ k → (ls.take k).contains nm = false → ls.contains nm = false := by
    intro k h e; rwa [List.take_of_length_le h] at e
  have hS : ∀ k (h : k < ls.length), (ls.take k).contains nm = false → (ls[k] == nm) = false → (ls.take (k + 1)).contains nm = false := by
    intro k h e n
    have n2 : nm ≠ ls[k] := fun x => (beq_eq_false_iff_ne.1 n) x.symm
    have e2 : nm ∉ ls.take k := by simpa using e
    rw [List.take_succ_eq_append_getElem h, List.contains_eq_mem, decide_eq_false_iff_not, List.mem_append]
    rintro (x | x)
    · exact e2 x
    · exact n2 (List.mem_singleton.1 x)
  have HY := Lib.hid hY; have HN := Lib.hid hN; have HS := Lib.hid hS; have HR := Lib.hid hr; clear hY hN hS hr
  generalize ls.contains nm = out at *
  go_enter Tryz.func159, Tryz.ntmps159
  go_wp2
  go_loop [8] (fun i => ∃ k : Nat, k ≤ ls.length ∧ i = .int .i64 k ∧ Hid ((ls.take k).contains nm = false)) (fun i => ls.length - (intOf i).toNat)
  case atStart => exact ⟨0, Nat.zero_le _, rfl, by show _ = _; simp⟩
  case round =>
    obtain ⟨k, hk, rfl, Hall⟩ := hrel
    by_cases hlt : k < ls.length
    · obtain ⟨b, o, rfl, hl, c1⟩ := HR.out.str_at (k := k) hlt
      have hy := HY.out k hlt
      have hs := HS.out k hlt Hall.out
      generalize ls[k] = l at *
      have Hy := Lib.hid hy; have Hs := Lib.hid hs; clear hy hs
      have hsw : ∀ b, (l == nm) = b → (nm == l) = b := by intro b h; rw [← h, Bool.eq_iff_iff, beq_iff_eq, beq_iff_eq]; exact eq_comm
      cases hq : (l == nm)
      · have hf := Hs.out hq
        have Hf := Lib.hid hf; clear hf
        have q2 := hsw _ hq
        clear hsw
        go_wp2
        go_round
        case rel => exact ⟨k + 1, by omega, by go_num, Hf⟩
        case measure => simp [intOf]; omega
      · have hf := Hy.out hq
        have Hf := Lib.hid hf; clear hf
        have q2 := hsw _ hq
        clear hsw
        go_wp2
        go_ret
        exact ⟨⟨k, rfl, by rw [Hf.out]; simp⟩, rfl⟩
    · have hf := HN.out k (by omega) Hall.out
      have Hf := Lib.hid hf; clear hf
      go_wp2
      go_ret
      exact ⟨⟨-1, rfl, by rw [Hf.out]; rfl⟩, rfl⟩
theorem contains_any (A : Option Addr) (n c : Nat) (ls : List (List UInt8)) (nm : List UInt8) (w : World) (hr : Rd A n 1 (strsV ls) w) (hn : n ≤ 1000000) :
    Calls Tryz.prog 109 #[.slice A n c, .string ⟨nm.toArray⟩] w fun e w' => e = .returned (.bool (ls.contains nm)) ∧ w = w' := by
  have k1 := index_any A n c ls nm w hr hn
  have K1 := Lib.hid k1; clear k1
  generalize ls.contains nm = out at *
  go_enter Tryz.func109, Tryz.ntmps109
  go_wp2_with fail
  refine K1.out.mono ?_
  rintro e w1 ⟨⟨i, rfl, hi⟩, rfl⟩
  have HI := Lib.hid hi; clear hi
  go_wp2
  go_ret
  exact ⟨by rw [← HI.out]; rfl, rfl⟩

/-- A row of texts that the call made, beside texts that it reads. -/
def HopSt (B : Nat) (out : Value) (acc : List (List UInt8)) (A : Option Addr) (vs : List (List UInt8)) (w : World) : Prop := OwnS B out acc w ∧ Rd A vs.length 1 (strsV vs) w ∧ Sep out A vs.length
theorem HopSt.below {B : Nat} {out : Value} {acc : List (List UInt8)} {A : Option Addr} {vs : List (List UInt8)} {w w1 : World} (h : HopSt B out acc A vs w) (hb : Below w.heap.size w w1) : HopSt B out acc A vs w1 := ⟨h.1.below hb, h.2.1.below hb, h.2.2⟩
theorem HopSt.far {B : Nat} {out v' : Value} {acc acc' : List (List UInt8)} {A : Option Addr} {vs : List (List UInt8)} {w w1 : World} (h : HopSt B out acc A vs w) (ho : OwnS B v' acc' w1) (hf : Far w w1 out v') : HopSt B v' acc' A vs w1 := ⟨ho, h.2.1.far hf h.2.2⟩
theorem HopSt.beside {B : Nat} {out : Value} {acc : List (List UInt8)} {A A2 : Option Addr} {vs ps : List (List UInt8)} {w w1 : World} {c : Nat} (h : HopSt B out acc A vs w) (hb : Below w.heap.size w w1) (hp : OwnS w.heap.size (.slice A2 ps.length c) ps w1) : HopSt B out acc A2 ps w1 := ⟨h.1.below hb, hp.rd.2, Sep.new h.1 (own_new hp)⟩

set_option maxHeartbeats 16000000 in
theorem hop_any (A : Option Addr) (n c : Nat) (xs : List Fld) (w : World) (hr : Rd A n 2 (fldsV xs) w) (hn : n ≤ 10000) (hs : sumF xs ≤ 1000000) :
    Calls Tryz.prog 49 #[.slice A n c] w (TextsPost w (hopL xs)) := by
  have hxn := hr.fld
  obtain ⟨W1, hW1⟩ : ∃ W1, w.alloc (.cells (strsV hop9).toArray 9) = W1 := ⟨_, rfl⟩
  have hB1 : Below w.heap.size w W1 := by rw [← hW1]; exact (Below.refl w.heap.size w).alloc (Nat.le_refl _) _
  have hO0 : OwnS w.heap.size (.slice (some ⟨w.heap.size, 0, none⟩) 9 9) hop9 W1 := by rw [← hW1]; exact OwnS.new w hop9 (by decide)
  have hW2 : w.alloc (.cells #[.string ⟨#[99, 111, 110, 110, 101, 99, 116, 105, 111, 110]⟩, .string ⟨#[107, 101, 101, 112, 45, 97, 108, 105, 118, 101]⟩, .string ⟨#[112, 114, 111, 120, 121, 45, 99, 111, 110, 110, 101, 99, 116, 105, 111, 110]⟩, .string ⟨#[116, 101]⟩, .string ⟨#[116, 114, 97, 105, 108, 101, 114]⟩, .string ⟨#[116, 114, 97, 110, 115, 102, 101, 114, 45, 101, 110, 99, 111, 100, 105, 110, 103]⟩, .string ⟨#[117, 112, 103, 114, 97, 100, 101]⟩, .string ⟨#[112, 114, 111, 120, 121, 45, 97, 117, 116, 104, 101, 110, 116, 105, 99, 97, 116, 101]⟩, .string ⟨#[112, 114, 111, 120, 121, 45, 97, 117, 116, 104, 111, 114, 105, 122, 97, 116, 105, 111, 110]⟩] 9) = W1 := hW1
  have k1 := values_any A n c xs ⟨connW.toArray⟩ W1 (hr.below hB1) (by omega) (fun f hf => by have := sumF_mem hf; omega) (by decide)
  have hvl := valuesL_le xs connW
  have hvt := total_values xs connW
  have hH : hopVs hop9 ((valuesL xs connW).take (valuesL xs connW).length) = hopL xs := by rw [List.take_length]; rfl
  simp only at k1
  have hcw : (⟨connW.toArray⟩ : ByteArray) = ⟨#[99, 111, 110, 110, 101, 99, 116, 105, 111, 110]⟩ := rfl
  rw [hcw] at k1
  generalize hopL xs = tot at *
  generalize valuesL xs connW = vs at *
  have hlen : ∀ k, (hopVs hop9 (vs.take k)).length ≤ 9 + 64 * 10000 := by
    intro k
    have h2 := hopVs_le (vs.take k) hop9
    have h4 : hop9.length = 9 := rfl
    have h5 : (vs.take k).length ≤ vs.length := by rw [List.length_take]; omega
    omega
  have hml : ∀ v ∈ vs, v.length ≤ 1000000 := fun v hv => by have := total_mem hv; omega
  have hstep : ∀ k (h : k < vs.length), hopVs hop9 (vs.take (k + 1)) = (splitL 44 vs[k]).1.foldl hopP (hopVs hop9 (vs.take k)) := fun k h => foldl_take hopV hop9 vs k h
  have h00 : hopVs hop9 (vs.take 0) = hop9 := rfl
  have hvn : vs.length ≤ 10000 := by omega
  have HW2 := Lib.hid hW2; have HO0 := Lib.hid hO0; have K1 := Lib.hid k1; have HLEN := Lib.hid hlen; have HML := Lib.hid hml; have HSTEP := Lib.hid hstep; have HH := Lib.hid hH; have H00 := Lib.hid h00
  clear hW1 hW2 hO0 k1 hvl hvt hlen hml hstep hH hr hs hxn hcw h00
  go_enter Tryz.func49, Tryz.ntmps49
  go_wp2_with fail
  rw [HW2.out]
  refine K1.out.mono ?_
  rintro e w2 ⟨a2, c2, rfl, ho2, hb2⟩
  have hS : HopSt w.heap.size (.slice (some ⟨w.heap.size, 0, none⟩) 9 9) hop9 a2 vs w2 := ⟨HO0.out.below hb2, ho2.rd.2, Sep.new HO0.out (own_new ho2)⟩
  have HS := Lib.hid hS
  have hB2 := bt hB1 hb2
  clear hS ho2 hb2 K1 HO0 HW2
  go_wp2_with fail
  go_loopw [14, 3] (fun i out wr => ∃ k : Nat, k ≤ vs.length ∧ i = .int .i64 k ∧ Hid (HopSt w.heap.size out (hopVs hop9 (vs.take k)) a2 vs wr) ∧ Below w.heap.size w wr) (fun i _ _ => vs.length - (intOf i).toNat)
  case atStart => exact ⟨0, Nat.zero_le _, rfl, by rw [H00.out]; exact HS, hB2⟩
  case round =>
    clear HS hB2 H00
    obtain ⟨k, hk, rfl, HO, hbw⟩ := hrel
    obtain ⟨oa, oc, rfl⟩ := HO.out.1.shape
    have hal := HLEN.out k
    by_cases hlt : k < vs.length
    · obtain ⟨b, o, rfl, hl, c1⟩ := HO.out.2.1.str_at (k := k) hlt
      have hst := HSTEP.out k hlt
      have hv := HML.out vs[k] (List.getElem_mem _)
      generalize vs[k] = v at *
      have k2 := fun w => split_any ⟨v.toArray⟩ 44 w (by rw [Lib.size_eq]; exact hv)
      simp only at k2
      have hfew := split_few 44 v
      have hpt := split_total 44 v
      generalize splitL 44 v = r at *
      obtain ⟨ps, er⟩ := r
      simp only at hst hfew hpt
      generalize hopVs hop9 (vs.take k) = acc at *
      have hps : ∀ p ∈ ps, p.length ≤ 1000000 := fun p hp => by have := total_mem hp; omega
      have hft : ∀ m (h : m < ps.length), (ps.take (m + 1)).foldl hopP acc = hopP ((ps.take m).foldl hopP acc) ps[m] := fun m h => foldl_take hopP acc ps m h
      have hfl : ∀ m, ((ps.take m).foldl hopP acc).length ≤ 1000000 := by
        intro m
        have h1 := hopPs_le (ps.take m) acc
        have h2 : (ps.take m).length ≤ ps.length := by rw [List.length_take]; omega
        omega
      have hfin : hopVs hop9 (vs.take (k + 1)) = (ps.take ps.length).foldl hopP acc := by rw [List.take_length]; exact hst
      have h0 : (ps.take 0).foldl hopP acc = acc := rfl
      have K2 := Lib.hid k2; have HPS := Lib.hid hps; have HFT := Lib.hid hft; have HFL := Lib.hid hfl; have HFIN := Lib.hid hfin; have H0 := Lib.hid h0
      clear k2 hst hv hpt hps hft hfl hfin h0 HSTEP HML HLEN
      go_wp2_with fail
      refine (K2.out _).mono ?_
      rintro e w3 ⟨a3, c3, rfl, ho3, hb3⟩
      simp only at ho3 ⊢
      have hB3 := hbw.trans (hb3.mono hbw.size)
      have HO3 := Lib.hid (HO.out.below hb3)
      have HP3 := Lib.hid (HO.out.beside hb3 ho3)
      clear ho3 hb3 hbw HO c1 K2
      go_wp2_with fail
      obtain ⟨wo, rfl⟩ : ∃ wo : World, wo = wr := ⟨_, rfl⟩
      go_loopw [25, 3] (fun j out wi => ∃ m : Nat, m ≤ ps.length ∧ j = .int .i64 m ∧ Hid (HopSt w.heap.size out ((ps.take m).foldl hopP acc) (some ⟨b, o, none⟩) vs wi) ∧ Hid (HopSt w.heap.size out ((ps.take m).foldl hopP acc) a3 ps wi) ∧ Below w.heap.size w wi) (fun j _ _ => ps.length - (intOf j).toNat)
      case atStart => exact ⟨0, Nat.zero_le _, rfl, by rw [H0.out]; exact HO3, by rw [H0.out]; exact HP3, hB3⟩
      case round =>
        clear HO3 HP3 hB3 H0
        obtain ⟨m, hm, rfl, HO, HP, hbi⟩ := hrel
        obtain ⟨pa, pc, rfl⟩ := HO.out.1.shape
        have hal2 := HFL.out m
        by_cases hlm : m < ps.length
        · obtain ⟨b2, o2, rfl, hl2, c2⟩ := HP.out.2.1.str_at (k := m) hlm
          have hpp := HPS.out ps[m] (List.getElem_mem _)
          have hft := HFT.out m hlm
          generalize ps[m] = p at *
          have hll : (lowerL p).length ≤ 1000000 := by rw [lower_length]; exact hpp
          have k4 := fun w => lower_any ⟨p.toArray⟩ w (by rw [Lib.size_eq]; exact hpp)
          simp only at k4
          have hft2 : (ps.take (m + 1)).foldl hopP acc = bif tokenL (lowerL p) && !((ps.take m).foldl hopP acc).contains (lowerL p) then (ps.take m).foldl hopP acc ++ [lowerL p] else (ps.take m).foldl hopP acc := hft
          clear hft
          generalize lowerL p = q at *
          have k5 := fun w => token_any ⟨q.toArray⟩ w (by rw [Lib.size_eq]; exact hll)
          simp only at k5
          have hrest : ∀ x, (ps.take (m + 1)).foldl hopP acc = x → Hid ((ps.take (m + 1)).foldl hopP acc = x) := fun x h => Lib.hid h
          generalize (ps.take m).foldl hopP acc = ac at *
          have hal3 : ac.length ≤ 1000000000 := by omega
          have k6 := fun (a : Option Addr) (c : Nat) w h => contains_any a ac.length c ac q w h (by omega)
          cases htk : tokenL q
          · rw [htk, Bool.false_and, cond_false] at hft2
            rw [htk] at k5
            have HN := Lib.hid hft2; have K4 := Lib.hid k4; have K5 := Lib.hid k5
            clear hft2 k4 k5 k6 hrest htk hpp hll
            go_wp2_with fail
            refine (K4.out _).mono ?_
            rintro e w4 ⟨rfl, hb4⟩
            have hB4 := hbi.trans (hb4.mono hbi.size)
            have HO4 : Hid (HopSt w.heap.size (.slice pa ac.length pc) ((ps.take (m + 1)).foldl hopP acc) (some ⟨b, o, none⟩) vs w4) := by rw [HN.out]; exact Lib.hid (HO.out.below hb4)
            have HP4 : Hid (HopSt w.heap.size (.slice pa ac.length pc) ((ps.take (m + 1)).foldl hopP acc) (some ⟨b2, o2, none⟩) ps w4) := by rw [HN.out]; exact Lib.hid (HP.out.below hb4)
            clear HO HP hb4 c2
            go_wp2_with fail
            refine (K5.out _).mono ?_
            rintro e w5 ⟨rfl, rfl⟩
            go_wp2
            go_roundw
            case rel => exact ⟨m + 1, by omega, by go_num, HO4, HP4, hB4⟩
            case measure => simp [intOf]; omega
          · rw [htk] at k5
            rw [htk, Bool.true_and] at hft2
            cases hct : ac.contains q
            · rw [hct] at k6
              rw [hct, Bool.not_false, cond_true] at hft2
              have HN := Lib.hid hft2; have K4 := Lib.hid k4; have K5 := Lib.hid k5; have K6 := Lib.hid k6
              clear hft2 k4 k5 k6 hrest htk hct hpp hll
              go_wp2_with fail
              refine (K4.out _).mono ?_
              rintro e w4 ⟨rfl, hb4⟩
              have hB4 := hbi.trans (hb4.mono hbi.size)
              have HO4 := Lib.hid (HO.out.below hb4)
              have HP4 := Lib.hid (HP.out.below hb4)
              clear HO HP hb4 c2
              go_wp2_with fail
              refine (K5.out _).mono ?_
              rintro e w5 ⟨rfl, rfl⟩
              go_wp2_with fail
              refine (K6.out _ _ _ HO4.out.1.rd.2).mono ?_
              rintro e w6 ⟨rfl, rfl⟩
              go_wp2_with (at_builtin; refine app_str w.heap.size q HO4.out.1 hB4.size hal3 rfl _ _ rfl rfl rfl ?_)
              intro v' w7 hO7 hb7 hfar7
              have hB7 := hB4.trans hb7
              have HO7 : Hid (HopSt w.heap.size v' ((ps.take (m + 1)).foldl hopP acc) (some ⟨b, o, none⟩) vs w7) := by rw [HN.out]; exact Lib.hid (HO4.out.far hO7 hfar7)
              have HP7 : Hid (HopSt w.heap.size v' ((ps.take (m + 1)).foldl hopP acc) (some ⟨b2, o2, none⟩) ps w7) := by rw [HN.out]; exact Lib.hid (HP4.out.far hO7 hfar7)
              clear hO7 hb7 hfar7 HO4 HP4
              go_wp2
              go_roundw
              case rel => exact ⟨m + 1, by omega, by go_num, HO7, HP7, hB7⟩
              case measure => simp [intOf]; omega
            · rw [hct] at k6
              rw [hct, Bool.not_true, cond_false] at hft2
              have HN := Lib.hid hft2; have K4 := Lib.hid k4; have K5 := Lib.hid k5; have K6 := Lib.hid k6
              clear hft2 k4 k5 k6 hrest htk hct hpp hll
              go_wp2_with fail
              refine (K4.out _).mono ?_
              rintro e w4 ⟨rfl, hb4⟩
              have hB4 := hbi.trans (hb4.mono hbi.size)
              have hr4 := (HO.out.below hb4).1.rd.2
              have HO4 : Hid (HopSt w.heap.size (.slice pa ac.length pc) ((ps.take (m + 1)).foldl hopP acc) (some ⟨b, o, none⟩) vs w4) := by rw [HN.out]; exact Lib.hid (HO.out.below hb4)
              have HP4 : Hid (HopSt w.heap.size (.slice pa ac.length pc) ((ps.take (m + 1)).foldl hopP acc) (some ⟨b2, o2, none⟩) ps w4) := by rw [HN.out]; exact Lib.hid (HP.out.below hb4)
              clear HO HP hb4 c2
              go_wp2_with fail
              refine (K5.out _).mono ?_
              rintro e w5 ⟨rfl, rfl⟩
              go_wp2_with fail
              refine (K6.out _ _ _ hr4).mono ?_
              rintro e w6 ⟨rfl, rfl⟩
              go_wp2
              go_roundw
              case rel => exact ⟨m + 1, by omega, by go_num, HO4, HP4, hB4⟩
              case measure => simp [intOf]; omega
        · have hme : m = ps.length := by omega
          subst hme
          have HN : Hid (HopSt w.heap.size (.slice pa ((ps.take ps.length).foldl hopP acc).length pc) (hopVs hop9 (vs.take (k + 1))) (some ⟨b, o, none⟩) vs wr) := by rw [HFIN.out]; exact HO
          clear HO HP HFT HFL HFIN HPS
          go_wp2
          go_roundw
          case rel => exact ⟨k + 1, by omega, by go_num, HN, hbi⟩
          case measure => simp [intOf]; omega
    · have hke : k = vs.length := by omega
      subst hke
      have hfin := HH.out
      clear HSTEP HML HLEN HH
      generalize hopVs hop9 (vs.take vs.length) = q at *
      subst hfin
      go_wp2
      go_ret
      exact ⟨oa, oc, rfl, HO.out.1, hbw⟩
end Go.Proofs.YtgmmjhcklhajiaaGreatDoor
