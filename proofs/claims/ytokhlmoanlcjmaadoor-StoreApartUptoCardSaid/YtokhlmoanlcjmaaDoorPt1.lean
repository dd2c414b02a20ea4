/- Joined out of the texts Kit, Rd, HdSpec, HdMap, Own, Box10, HdI, HdE, HdP, HdQ (wip/tools/merge.py). -/
import Derived.Test.YtokhlmoanlcjmaaDoorRows
import Derived.WalkKit
import Derived.WalkSpells
import Derived.WalkLawsBesides
import Derived.Deep.DeepCutAuto
import Derived.Deep.QuietTactic
import Derived.BigQuiet
import Derived.Lib.Hide
import Derived.Lib.Strings
import Derived.Maps.Keyed
import Derived.StringKeys
import Derived.ChangeMaps
import Derived.Maps.OwnSet
import Derived.Maps.AppendAt
import Derived.RegionTactic
import Derived.BigRegion
import Derived.ChangeAlike
import Derived.Deep.RegionHeld3
import Derived.Laws.ResultCell
import Derived.LaidEql
import Derived.Deep.WholeRow
/- Small lemmas that all walks of this seat use. -/
namespace Go.Proofs.YtokhlmoanlcjmaaDoor
open Go.RowKit

/-- One call behind the other: nothing that was there at the first has turned. -/
theorem bt {w w1 w2 : World} (h : Below w.heap.size w w1) (k : Below w1.heap.size w1 w2) : Below w.heap.size w w2 := h.trans (k.mono h.size)
theorem ret_int {k : IntKind} {a b : Int} (h : a = b) : Ending.returned (.int k a) = .returned (.int k b) := by rw [h]

/-! Bytes of a string, from the front and to the end. -/
theorem take_snoc (s : ByteArray) (k : Nat) (h : k < s.size) : s.data.toList.take (k + 1) = s.data.toList.take k ++ [s[k]] := by
  rw [List.take_succ_eq_append_getElem (by simpa using h)]; rfl
theorem drop_cons (s : ByteArray) (k : Nat) (h : k < s.size) : s.data.toList.drop k = s[k] :: s.data.toList.drop (k + 1) := by
  rw [List.drop_eq_getElem_cons (by simpa using h)]; rfl
theorem take_all (s : ByteArray) (k : Nat) (h : s.size ≤ k) : s.data.toList.take k = s.data.toList := List.take_of_length_le (by simpa using h)
theorem drop_all (s : ByteArray) (k : Nat) (h : s.size ≤ k) : s.data.toList.drop k = [] := List.drop_eq_nil_of_le (by simpa using h)
theorem all_snoc (p : UInt8 → Bool) (s : ByteArray) (k : Nat) (h : k < s.size) :
    (s.data.toList.take (k + 1)).all p = ((s.data.toList.take k).all p && p s[k]) := by
  rw [take_snoc s k h, List.all_append]; simp
theorem all_bad (p : UInt8 → Bool) (s : ByteArray) (k : Nat) (h : k < s.size) (hb : p s[k] = false) : s.data.toList.all p = false := by
  rw [List.all_eq_false]
  exact ⟨s[k], by show s.data[k] ∈ _; simp, by simp [hb]⟩
theorem str_of (s : ByteArray) : (⟨s.data.toList.toArray⟩ : ByteArray) = s := Lib.mk_data s
theorem str_eq (s t : ByteArray) (h : s.data.toList = t.data.toList) : s = t := by rw [← str_of s, ← str_of t, h]
theorem app_list (o t : ByteArray) : (o ++ t).data.toList = o.data.toList ++ t.data.toList := by simp
theorem ext_one (s : ByteArray) (k : Nat) (h : k < s.size) : (s.extract k (k + 1)).data.toList = [s[k]] := by
  rw [Lib.extract_data, drop_cons s k h]; simp
theorem str_list {o : ByteArray} {l : List UInt8} (h : o.data.toList = l) : o = ⟨l.toArray⟩ := by rw [← h, str_of]
theorem beq_cast (a b : Nat) : (a == b) = ((a : Int) == (b : Int)) := by rw [Bool.eq_iff_iff]; simp only [beq_iff_eq]; omega
theorem mk_at (t : ByteArray) (l : List UInt8) (ht : t = ⟨l.toArray⟩) (j : Nat) (h : j < t.size) (h' : j < l.length) : t[j] = l[j] := by
  subst ht; show (l.toArray)[j] = _; simp
theorem at_list (s : ByteArray) (j : Nat) (h : j < s.size) : s[j] = s.data.toList[j]'(by simpa using h) := by show s.data[j] = _; simp
theorem ne_of_pos (s : ByteArray) (h : 0 < s.size) : s.data.toList.isEmpty = false := by
  cases hq : s.data.toList with
  | nil => rw [Lib.size_eq, hq] at h; exact absurd h (by simp)
  | cons _ _ => rfl
theorem nil_of_zero (s : ByteArray) (h : ¬ 0 < s.size) : s.data.toList = [] := by
  apply List.eq_nil_of_length_eq_zero; rw [← Lib.size_eq]; omega
theorem heap_new (w : World) (o : Obj) (n : Nat) (h : w.heap.size = n) : (w.alloc o).heap[n]? = some o := by
  subst h; show (w.heap.push o)[w.heap.size]? = _; simp
theorem empty_eq : (ByteArray.empty : ByteArray) = ⟨#[]⟩ := rfl
theorem u8_lt (c : UInt8) : (c.toNat : Int) < 256 := by have := c.toNat_lt; omega
end Go.Proofs.YtokhlmoanlcjmaaDoor
/- What a slice that is read holds, wherever it came from: plain words on memory; lists of texts and of fields. -/
namespace Go.Proofs.YtokhlmoanlcjmaaDoor
open Go.RowKit

/-- n elements, 'size' cells each, lie behind A. -/
def Rd (A : Option Addr) (n size : Nat) (xs : List Value) (w : World) : Prop :=
  xs.length = n * size ∧ (0 < n → ∃ b o, A = some ⟨b, o, none⟩ ∧ b < w.heap.size ∧ ∀ j u, xs[j]? = some u → w.cell? ⟨b, o + j, none⟩ = some u)
theorem Rd.nil {A : Option Addr} {size : Nat} {w : World} : Rd A 0 size [] w := ⟨by simp, fun h => absurd h (by omega)⟩
theorem Rd.below {A : Option Addr} {n size : Nat} {xs : List Value} {w w' : World} (h : Rd A n size xs w) (hb : Below w.heap.size w w') : Rd A n size xs w' := by
  refine ⟨h.1, fun hn => ?_⟩
  obtain ⟨b, o, e, hl, hc⟩ := h.2 hn
  exact ⟨b, o, e, by have := hb.size; omega, fun j u hu => (hb.cell (p := ⟨b, o + j, none⟩) hl).trans (hc j u hu)⟩
theorem Rd.of_own {B : Nat} {e : TypeId} {size : Nat} {a : Option Addr} {m n cap : Nat} {xs : List Value} {w : World} (h : w.ownsRow B e size (.slice a m cap) n xs) : m = n ∧ Rd a n size xs w := by
  obtain ⟨h1, h2⟩ := h
  rcases h2 with ⟨hv, h0⟩ | ⟨g, cp, cur, hv, hg, hh, hn, hm, hs, hx⟩
  · cases hv; exact ⟨h0.symm, h1, fun hn => by omega⟩
  · cases hv
    refine ⟨rfl, h1, fun _ => ⟨g, 0, rfl, ?_, fun j u hu => ?_⟩⟩
    · rcases Nat.lt_or_ge g w.heap.size with h' | h'
      · exact h'
      · simp [Array.getElem?_eq_none h'] at hh
    · have hj : j < m * size := by
        have := (List.getElem?_eq_some_iff.1 hu).1; omega
      have h3 : cur[j]? = some u := by
        rw [← hu, ← hx, List.getElem?_take_of_lt hj, Array.getElem?_toList]
      rw [Nat.zero_add]
      simp only [World.cell?, hh]
      exact h3

/-- Texts as values. -/
def strsV (ls : List (List UInt8)) : List Value := ls.map fun l => Value.string ⟨l.toArray⟩
theorem Rd.str {A : Option Addr} {n : Nat} {ls : List (List UInt8)} {w : World} (h : Rd A n 1 (strsV ls) w) : n = ls.length := by
  have := h.1; unfold strsV at this; simpa using this.symm
theorem Rd.str_at {A : Option Addr} {n k : Nat} {ls : List (List UInt8)} {w : World} (h : Rd A n 1 (strsV ls) w) (hk : k < ls.length) :
    ∃ b o, A = some ⟨b, o, none⟩ ∧ b < w.heap.size ∧ w.cell? ⟨b, o + k, none⟩ = some (.string ⟨(ls[k]).toArray⟩) := by
  obtain ⟨b, o, e, hl, hc⟩ := h.2 (by rw [h.str]; omega)
  exact ⟨b, o, e, hl, hc k _ (by simp [strsV, hk])⟩

/-- A header field. -/
abbrev Fld := List UInt8 × List UInt8
def fldV (f : Fld) : List Value := [.string ⟨f.1.toArray⟩, .string ⟨f.2.toArray⟩]
def fldsV (xs : List Fld) : List Value := xs.flatMap fldV
theorem fldsV_len (xs : List Fld) : (fldsV xs).length = xs.length * 2 := by
  unfold fldsV
  induction xs with
  | nil => rfl
  | cons x r ih => rw [List.flatMap_cons, List.length_append, ih, List.length_cons]; show 2 + _ = _; omega
theorem fldsV_at : ∀ (xs : List Fld) (k : Nat) (hk : k < xs.length), (fldsV xs)[k * 2]? = some (.string ⟨(xs[k]).1.toArray⟩) ∧ (fldsV xs)[k * 2 + 1]? = some (.string ⟨(xs[k]).2.toArray⟩)
  | [], k, hk => by simp at hk
  | x :: r, 0, _ => by unfold fldsV; simp [fldV]
  | x :: r, k + 1, hk => by
    have ih := fldsV_at r k (by simpa using hk)
    unfold fldsV at ih ⊢
    rw [List.flatMap_cons, show (k + 1) * 2 = k * 2 + 2 from by omega]
    have e : ∀ j, (fldV x ++ r.flatMap fldV)[j + 2]? = (r.flatMap fldV)[j]? := fun j => by rw [List.getElem?_append_right (by show 2 ≤ _; omega)]; rfl
    rw [show k * 2 + 2 + 1 = (k * 2 + 1) + 2 from by omega, e, e]
    simpa using ih
theorem Rd.fld {A : Option Addr} {n : Nat} {xs : List Fld} {w : World} (h : Rd A n 2 (fldsV xs) w) : n = xs.length := by
  have := h.1; rw [fldsV_len] at this; omega
theorem Rd.fld_at {A : Option Addr} {n k : Nat} {xs : List Fld} {w : World} (h : Rd A n 2 (fldsV xs) w) (hk : k < xs.length) :
    ∃ b o, A = some ⟨b, o, none⟩ ∧ b < w.heap.size ∧ w.cell? ⟨b, o + k * 2, none⟩ = some (.string ⟨(xs[k]).1.toArray⟩) ∧ w.cell? ⟨b, o + k * 2 + 1, none⟩ = some (.string ⟨(xs[k]).2.toArray⟩) := by
  obtain ⟨b, o, e, hl, hc⟩ := h.2 (by rw [h.fld]; omega)
  have := fldsV_at xs k hk
  exact ⟨b, o, e, hl, hc _ _ this.1, hc _ _ this.2⟩
end Go.Proofs.YtokhlmoanlcjmaaDoor
/- Budgets: the links, the map, the list; no walk in sight. -/
namespace Go.Proofs.YtokhlmoanlcjmaaDoor
open Go.RowKit

/-- What store keeps: an entry, its key and its number; beside it (in no cell) the fields that its slices hold. -/
structure Hv where
  key : ByteArray
  st : Int
  re : ByteArray
  mi : Int
  fA : Option Addr
  fn : Nat
  fc : Nat
  bo : ByteArray
  asked : Int
  got : Int
  vA : Option Addr
  vn : Nat
  vc : Nat
  num : Int
  fl : List Fld
  vl : List Fld
def Hv.val (x : Hv) : Value := .agg #[.string x.key, .int .i64 x.st, .string x.re, .int .i64 x.mi, .slice x.fA x.fn x.fc, .string x.bo, .int .i64 x.asked, .int .i64 x.got, .slice x.vA x.vn x.vc, .int .i64 x.num]
/-- Its cells, behind these of a block. -/
def HvAt (w : World) (b : Nat) (x : Hv) : Prop := w.cell? ⟨b, 2, none⟩ = some (.string x.key) ∧ w.cell? ⟨b, 3, none⟩ = some (.int .i64 x.st) ∧ w.cell? ⟨b, 4, none⟩ = some (.string x.re) ∧ w.cell? ⟨b, 5, none⟩ = some (.int .i64 x.mi) ∧ w.cell? ⟨b, 6, none⟩ = some (.slice x.fA x.fn x.fc) ∧ w.cell? ⟨b, 7, none⟩ = some (.string x.bo) ∧ w.cell? ⟨b, 8, none⟩ = some (.int .i64 x.asked) ∧ w.cell? ⟨b, 9, none⟩ = some (.int .i64 x.got) ∧ w.cell? ⟨b, 10, none⟩ = some (.slice x.vA x.vn x.vc) ∧ w.cell? ⟨b, 11, none⟩ = some (.int .i64 x.num)
/-- What a link holds. -/
structure Ent where
  key : ByteArray
  size : Int
  x : Hv
abbrev Lk := Nat × Ent
def ptr (b : Nat) : Value := .pointer (some ⟨b, 0, none⟩)
def hd (xs : List Lk) (z : Nat) : Nat := match xs with
  | [] => z
  | (b, _) :: _ => b
def lst : Nat → List Lk → Nat
  | a, [] => a
  | _, (b, _) :: t => lst b t
theorem hd_app (p q : List Lk) (z : Nat) : hd (p ++ q) z = hd p (hd q z) := by cases p <;> rfl
theorem lst_app : ∀ (p q : List Lk) (a : Nat), lst a (p ++ q) = lst (lst a p) q
  | [], _, _ => rfl
  | (b, _) :: t, q, _ => lst_app t q b
theorem hd_mem {xs : List Lk} {z : Nat} : hd xs z ∈ xs.map Prod.fst ∨ (xs = [] ∧ hd xs z = z) := by
  cases xs with
  | nil => exact Or.inr ⟨rfl, rfl⟩
  | cons p t => exact Or.inl (by simp [hd])
theorem lst_mem : ∀ {xs : List Lk} {a : Nat}, lst a xs ∈ xs.map Prod.fst ∨ (xs = [] ∧ lst a xs = a)
  | [], _ => Or.inr ⟨rfl, rfl⟩
  | (b, e) :: t, a => by
    left
    rcases @lst_mem t b with h | ⟨rfl, h⟩
    · rw [lst, List.map_cons]; exact List.mem_cons_of_mem _ h
    · rw [lst, List.map_cons]; simp [h]

section
variable (LT : TypeId)
def LnkV (w : World) (b : Nat) (e : Ent) (va vf : Value) : Prop := w.heap[b]? = some (.cells #[.string e.key, .int .i64 e.size, .string e.x.key, .int .i64 e.x.st, .string e.x.re, .int .i64 e.x.mi, .slice e.x.fA e.x.fn e.x.fc, .string e.x.bo, .int .i64 e.x.asked, .int .i64 e.x.got, .slice e.x.vA e.x.vn e.x.vc, .int .i64 e.x.num, va, vf] LT (0, 0))
variable {LT}
theorem LnkV.set3 {w : World} {b : Nat} {e : Ent} {va vf : Value} (h : LnkV LT w b e va vf) (v : Value) : LnkV LT (w.setCell ⟨b, 12, none⟩ v) b e v vf := by
  unfold LnkV at *; simp [World.setCell, Array.getElem?_modify, h]
theorem LnkV.set4 {w : World} {b : Nat} {e : Ent} {va vf : Value} (h : LnkV LT w b e va vf) (v : Value) : LnkV LT (w.setCell ⟨b, 13, none⟩ v) b e va v := by
  unfold LnkV at *; simp [World.setCell, Array.getElem?_modify, h]
theorem heap_set_ne (w : World) (c j b : Nat) (v : Value) (h : b ≠ c) : (w.setCell ⟨c, j, none⟩ v).heap[b]? = w.heap[b]? := Below.heap_setCell _ _ _ _ h
theorem LnkV.other {w : World} {b c j : Nat} {e : Ent} {va vf v : Value} (h : LnkV LT w b e va vf) (hne : b ≠ c) : LnkV LT (w.setCell ⟨c, j, none⟩ v) b e va vf := (heap_set_ne w c j b v hne).trans h
theorem LnkV.of {w w' : World} {b : Nat} {e : Ent} {va vf : Value} (h : LnkV LT w b e va vf) (hb : w'.heap[b]? = w.heap[b]?) : LnkV LT w' b e va vf := hb.trans h
theorem LnkV.cells {w : World} {b : Nat} {e : Ent} {va vf : Value} (h : LnkV LT w b e va vf) : w.cell? ⟨b, 0, none⟩ = some (.string e.key) ∧ w.cell? ⟨b, 1, none⟩ = some (.int .i64 e.size) ∧ HvAt w b e.x ∧ w.cell? ⟨b, 12, none⟩ = some va ∧ w.cell? ⟨b, 13, none⟩ = some vf ∧ (∀ j, w.frozen? ⟨b, j, none⟩ = false) ∧ b < w.heap.size := by
  have hl : b < w.heap.size := by
    rcases Nat.lt_or_ge b w.heap.size with h' | h'
    · exact h'
    · unfold LnkV at h; simp [Array.getElem?_eq_none h'] at h
  unfold LnkV at h
  refine ⟨?_, ?_, ?_, ?_, ?_, fun j => ?_, hl⟩ <;> simp [HvAt, World.cell?, World.frozen?, h]
variable (LT)
def Seg (w : World) : Nat → List Lk → Nat → Prop
  | _, [], _ => True
  | a, (b, e) :: t, z => LnkV LT w b e (ptr a) (ptr (hd t z)) ∧ Seg w b t z
variable {LT}
theorem Seg.of {w w' : World} : ∀ {xs : List Lk} {a z : Nat}, Seg LT w a xs z → (∀ b ∈ xs.map Prod.fst, w'.heap[b]? = w.heap[b]?) → Seg LT w' a xs z
  | [], _, _, _, _ => trivial
  | (b, e) :: t, a, z, h, hb => ⟨h.1.of (hb b (by simp)), h.2.of (fun c hc => hb c (by rw [List.map_cons]; exact List.mem_cons_of_mem _ hc))⟩
theorem seg_app {w : World} : ∀ {p q : List Lk} {a z : Nat}, Seg LT w a (p ++ q) z ↔ Seg LT w a p (hd q z) ∧ Seg LT w (lst a p) q z
  | [], q, a, z => ⟨fun h => ⟨trivial, h⟩, fun h => h.2⟩
  | (b, e) :: t, q, a, z => by
    have ih := @seg_app w t q b z
    show (LnkV LT w b e (ptr a) (ptr (hd (t ++ q) z)) ∧ Seg LT w b (t ++ q) z) ↔ (LnkV LT w b e (ptr a) (ptr (hd t (hd q z))) ∧ Seg LT w b t (hd q z)) ∧ Seg LT w (lst b t) q z
    rw [ih, hd_app]
    exact ⟨fun ⟨h1, h2, h3⟩ => ⟨⟨h1, h2⟩, h3⟩, fun ⟨⟨h1, h2⟩, h3⟩ => ⟨h1, h2, h3⟩⟩
/-- The last one's way on is turned. -/
theorem Seg.setF {w : World} {p : List Lk} {a z z' : Nat} (h : Seg LT w a p z) (hne : p ≠ []) (hnd : (p.map Prod.fst).Nodup) : Seg LT (w.setCell ⟨lst a p, 13, none⟩ (ptr z')) a p z' := by
  obtain ⟨q, ⟨b, e⟩, rfl⟩ : ∃ q y, p = q ++ [y] := ⟨p.dropLast, p.getLast hne, (List.dropLast_concat_getLast hne).symm⟩
  rw [seg_app] at h ⊢
  rw [lst_app]
  show Seg LT _ a q b ∧ (LnkV LT _ b e _ _ ∧ True)
  have hb : b ∉ q.map Prod.fst := by
    rw [List.map_append, List.nodup_append] at hnd
    intro hm
    exact hnd.2.2 b hm b (by simp) rfl
  refine ⟨h.1.of (fun c hc => heap_set_ne _ _ _ _ _ (fun (x : c = b) => hb (by rw [← x]; exact hc))), h.2.1.set4 _, trivial⟩
/-- The first one's way back is turned. -/
theorem Seg.setA {w : World} {b : Nat} {e : Ent} {t : List Lk} {a a' z : Nat} (h : Seg LT w a ((b, e) :: t) z) (hb : b ∉ t.map Prod.fst) : Seg LT (w.setCell ⟨b, 12, none⟩ (ptr a')) a' ((b, e) :: t) z :=
  ⟨h.1.set3 _, h.2.of (fun c hc => heap_set_ne _ _ _ _ _ (fun x => hb (by rw [← x]; exact hc)))⟩
variable (LT)
def Ring (ze : Ent) (w : World) (r : Nat) (xs : List Lk) : Prop := LnkV LT w r ze (ptr (lst r xs)) (ptr (hd xs r)) ∧ Seg LT w r xs r
variable {LT}
theorem Ring.of {ze : Ent} {w w' : World} {r : Nat} {xs : List Lk} (h : Ring LT ze w r xs) (hb : ∀ b ∈ r :: xs.map Prod.fst, w'.heap[b]? = w.heap[b]?) : Ring LT ze w' r xs :=
  ⟨h.1.of (hb r (by simp)), h.2.of (fun b h' => hb b (List.mem_cons_of_mem _ h'))⟩
theorem Seg.at {w : World} : ∀ {xs : List Lk} {a z : Nat}, Seg LT w a xs z → ∀ c ∈ xs.map Prod.fst, ∃ e va vf, LnkV LT w c e va vf
  | (b, e) :: t, a, z, h, c, hc => by
    rw [List.map_cons] at hc
    rcases List.mem_cons.1 hc with rfl | hc
    · exact ⟨_, _, _, h.1⟩
    · exact h.2.at c hc
theorem Seg.mem {w : World} : ∀ {xs : List Lk} {a z : Nat}, Seg LT w a xs z → ∀ {l : Nat} {e : Ent}, (l, e) ∈ xs → ∃ va vf, LnkV LT w l e va vf
  | (b, e) :: t, a, z, h, l, e', hc => by
    rcases List.mem_cons.1 hc with hc | hc
    · cases hc; exact ⟨_, _, h.1⟩
    · exact h.2.mem hc
theorem Ring.at {ze : Ent} {w : World} {r : Nat} {xs : List Lk} (h : Ring LT ze w r xs) (c : Nat) (hc : c ∈ r :: xs.map Prod.fst) : ∃ e va vf, LnkV LT w c e va vf := by
  rcases List.mem_cons.1 hc with rfl | hc
  · exact ⟨_, _, _, h.1⟩
  · exact h.2.at c hc
/-- A link is taken out. -/
theorem Ring.out {ze : Ent} {w : World} {r l : Nat} {e : Ent} {p q : List Lk} (h : Ring LT ze w r (p ++ (l, e) :: q)) (hnd : (r :: (p ++ (l, e) :: q).map Prod.fst).Nodup) :
    Ring LT ze ((w.setCell ⟨lst r p, 13, none⟩ (ptr (hd q r))).setCell ⟨hd q r, 12, none⟩ (ptr (lst r p))) r (p ++ q) := by
  obtain ⟨hr, hs⟩ := h
  rw [seg_app] at hs
  obtain ⟨h1, h2⟩ := hs
  have h2' : Seg LT w l q r := h2.2
  have h1' : Seg LT w r p l := h1
  rw [lst_app, hd_app] at hr
  have hr' : LnkV LT w r ze (ptr (lst l q)) (ptr (hd p l)) := hr
  rw [List.nodup_cons, List.map_append, List.map_cons, List.nodup_append] at hnd
  obtain ⟨hrn, hpn, hqn, hpq⟩ := hnd
  rw [List.nodup_cons] at hqn
  have hrp : r ∉ p.map Prod.fst := fun hm => hrn (List.mem_append_left _ hm)
  have hrq : r ∉ q.map Prod.fst := fun hm => hrn (List.mem_append_right _ (List.mem_cons_of_mem _ hm))
  have hpq' : ∀ a ∈ p.map Prod.fst, ∀ b ∈ q.map Prod.fst, a ≠ b := fun a ha b hb => hpq a ha b (List.mem_cons_of_mem _ hb)
  have sp : Seg LT ((w.setCell ⟨lst r p, 13, none⟩ (ptr (hd q r))).setCell ⟨hd q r, 12, none⟩ (ptr (lst r p))) r p (hd q r) := by
    by_cases hp : p = []
    · subst hp; trivial
    · refine (h1'.setF hp hpn).of (fun c hc => heap_set_ne _ _ _ _ _ ?_)
      rintro rfl
      rcases @hd_mem q r with hm | ⟨_, hm⟩
      · exact hpq' _ hc _ hm rfl
      · rw [hm] at hc; exact hrp hc
  have sq : Seg LT ((w.setCell ⟨lst r p, 13, none⟩ (ptr (hd q r))).setCell ⟨hd q r, 12, none⟩ (ptr (lst r p))) (lst r p) q r := by
    cases q with
    | nil => trivial
    | cons y t =>
      obtain ⟨z, ez⟩ := y
      have h3 : Seg LT (w.setCell ⟨lst r p, 13, none⟩ (ptr (hd ((z, ez) :: t) r))) l ((z, ez) :: t) r := h2'.of (fun c hc => heap_set_ne _ _ _ _ _ (by
        rintro rfl
        rcases @lst_mem p r with hm | ⟨_, hm⟩
        · exact hpq' _ hm _ hc rfl
        · rw [hm] at hc; exact hrq hc))
      have hz : z ∉ t.map Prod.fst := by have := hqn.2; rw [List.map_cons, List.nodup_cons] at this; exact this.1
      exact h3.setA hz
  refine ⟨?_, seg_app.2 ⟨sp, sq⟩⟩
  rw [lst_app, hd_app]
  by_cases hp : p = []
  · subst hp
    have k := hr'.set4 (ptr (hd q r))
    by_cases hq : q = []
    · subst hq
      exact k.set3 (ptr r)
    · have hne : r ≠ hd q r := by
        intro x
        rcases @hd_mem q r with hm | ⟨hm, _⟩
        · exact hrq (by rw [x]; exact hm)
        · exact hq hm
      have := k.other (c := hd q r) (j := 12) (v := ptr r) hne
      have e : lst l q = lst r q := by
        cases q with
        | nil => exact absurd rfl hq
        | cons y t => rfl
      rw [e] at this
      exact this
  · have hl : lst r p ≠ r := by
      intro x
      rcases @lst_mem p r with hm | ⟨hm, _⟩
      · rw [x] at hm; exact hrp hm
      · exact hp hm
    have e2 : hd p l = hd p (hd q r) := by
      cases p with
      | nil => exact absurd rfl hp
      | cons y t => rfl
    rw [e2] at hr'
    have k := hr'.other (c := lst r p) (j := 13) (v := ptr (hd q r)) (fun x => hl x.symm)
    by_cases hq : q = []
    · subst hq
      exact k.set3 (ptr (lst r p))
    · have hne : r ≠ hd q r := by
        intro x
        rcases @hd_mem q r with hm | ⟨hm, _⟩
        · exact hrq (by rw [x]; exact hm)
        · exact hq hm
      have := k.other (c := hd q r) (j := 12) (v := ptr (lst r p)) hne
      have e : lst l q = lst (lst r p) q := by
        cases q with
        | nil => exact absurd rfl hq
        | cons y t => rfl
      rw [e] at this
      exact this
/-- A link is put at the end. -/
theorem Ring.last {ze : Ent} {w : World} {r l : Nat} {e : Ent} {va vf : Value} {xs : List Lk} (h : Ring LT ze w r xs) (hl : LnkV LT w l e va vf) (hnd : (r :: xs.map Prod.fst).Nodup) (hln : l ∉ r :: xs.map Prod.fst) :
    Ring LT ze ((((w.setCell ⟨l, 12, none⟩ (ptr (lst r xs))).setCell ⟨l, 13, none⟩ (ptr r)).setCell ⟨lst r xs, 13, none⟩ (ptr l)).setCell ⟨r, 12, none⟩ (ptr l)) r (xs ++ [(l, e)]) := by
  obtain ⟨hr, hs⟩ := h
  have hlr : l ≠ r := fun x => hln (by simp [x])
  have hlx : l ∉ xs.map Prod.fst := fun x => hln (List.mem_cons_of_mem _ x)
  rw [List.nodup_cons] at hnd
  have hll : l ≠ lst r xs := by
    rcases @lst_mem xs r with hm | ⟨_, hm⟩
    · intro x; exact hlx (by rw [x]; exact hm)
    · rw [hm]; exact hlr
  have hr2 := (hr.other (c := l) (j := 12) (v := ptr (lst r xs)) hlr.symm).other (c := l) (j := 13) (v := ptr r) hlr.symm
  have hs2 : Seg LT ((w.setCell ⟨l, 12, none⟩ (ptr (lst r xs))).setCell ⟨l, 13, none⟩ (ptr r)) r xs r := hs.of (fun c hc => by
    have hne : c ≠ l := fun x => hlx (by rw [← x]; exact hc)
    rw [heap_set_ne _ _ _ _ _ hne, heap_set_ne _ _ _ _ _ hne])
  have hl2 := ((hl.set3 (ptr (lst r xs))).set4 (ptr r)).other (c := lst r xs) (j := 13) (v := ptr l) hll
  have hl3 := hl2.other (c := r) (j := 12) (v := ptr l) hlr
  generalize (w.setCell ⟨l, 12, none⟩ (ptr (lst r xs))).setCell ⟨l, 13, none⟩ (ptr r) = w2 at *
  refine ⟨?_, seg_app.2 ⟨?_, hl3, trivial⟩⟩
  · rw [lst_app, hd_app]
    by_cases hx : xs = []
    · subst hx
      exact (hr2.set4 (ptr l)).set3 (ptr l)
    · have hne : r ≠ lst r xs := by
        intro x
        rcases @lst_mem xs r with hm | ⟨hm, _⟩
        · rw [← x] at hm; exact hnd.1 hm
        · exact hx hm
      have := (hr2.other (c := lst r xs) (j := 13) (v := ptr l) hne).set3 (ptr l)
      have e2 : hd xs r = hd xs (hd [(l, e)] r) := by
        cases xs with
        | nil => exact absurd rfl hx
        | cons y t => rfl
      rw [e2] at this
      exact this
  · by_cases hx : xs = []
    · subst hx; trivial
    · exact (hs2.setF hx hnd.2).of (fun c hc => heap_set_ne _ _ _ _ _ (fun x => hnd.1 (by rw [← x]; exact hc)))
end

/-! The map, in a view of its own. -/
def kvV (kv : List (ByteArray × Nat)) : List (Value × Value) := kv.map fun p => (.string p.1, ptr p.2)
def MapV (w : World) (M : Nat) (kv : List (ByteArray × Nat)) : Prop :=
  ∃ es clock, w.heap[M]? = some (.map es clock) ∧ (es.toList.map fun e => (e.key, e.val)).Perm (kvV kv) ∧ ∀ p ∈ kv, p.1.size ≤ maxLen
def blkOf (kv : List (ByteArray × Nat)) (k : ByteArray) : Option Nat := (kv.find? fun p => p.1.data.toList == k.data.toList).map Prod.snd
def ptrO : Option Nat → Value
  | none => .pointer none
  | some b => ptr b
theorem MapV.of {w w' : World} {M : Nat} {kv : List (ByteArray × Nat)} (h : MapV w M kv) (hb : w'.heap[M]? = w.heap[M]?) : MapV w' M kv := by
  obtain ⟨es, clock, h1, h2⟩ := h
  exact ⟨es, clock, hb.trans h1, h2⟩
def kvL (xs : List Lk) : List (ByteArray × Nat) := xs.map fun p => (p.2.key, p.1)
def sumL : List Lk → Int
  | [] => 0
  | (_, e) :: t => e.size + sumL t
theorem sumL_app : ∀ (p q : List Lk), sumL (p ++ q) = sumL p + sumL q
  | [], q => by simp [sumL]
  | (b, e) :: t, q => by rw [List.cons_append, sumL, sumL, sumL_app t q]; omega
theorem sumL_le : ∀ (xs : List Lk), (∀ p ∈ xs, 0 ≤ p.2.size ∧ p.2.size ≤ 1073741824) → 0 ≤ sumL xs ∧ sumL xs ≤ xs.length * 1073741824
  | [], _ => by simp [sumL]
  | (b, e) :: t, h => by
    have ih := sumL_le t (fun p hp => h p (by simp [hp]))
    have := h (b, e) (by simp)
    simp only at this
    rw [sumL, List.length_cons]
    omega
/-- Nothing that was there turned, but for these blocks. -/
def Touch (fp : List Nat) (w w' : World) : Prop := w'.os = w.os ∧ w'.tape = w.tape ∧ w'.output = w.output ∧ w.heap.size ≤ w'.heap.size ∧ ∀ b, b < w.heap.size → b ∉ fp → w'.heap[b]? = w.heap[b]?
theorem Touch.refl (fp : List Nat) (w : World) : Touch fp w w := ⟨rfl, rfl, rfl, Nat.le_refl _, fun _ _ _ => rfl⟩
theorem Touch.drewN {fp : List Nat} {w w' : World} (h : Touch fp w w') (n : Nat) : Touch fp w (w'.drewN n) := h
theorem Touch.drew {fp : List Nat} {w w' : World} (h : Touch fp w w') : Touch fp w w'.drew := h
theorem Touch.setCell {fp : List Nat} {w w' : World} (h : Touch fp w w') (c j : Nat) (v : Value) (hc : c ∈ fp) : Touch fp w (w'.setCell ⟨c, j, none⟩ v) :=
  ⟨h.1, h.2.1, h.2.2.1, Nat.le_trans h.2.2.2.1 (by simp), fun b hb hn => (heap_set_ne _ _ _ _ _ (fun e => hn (by rw [e]; exact hc))).trans (h.2.2.2.2 b hb hn)⟩
end Go.Proofs.YtokhlmoanlcjmaaDoor
/- Budgets: what is done with the map. -/
namespace Go.Proofs.YtokhlmoanlcjmaaDoor
open Go.RowKit Go.ChangeMaps Go.Maps Go.WideMaps
open Go.ChangeMaps (setBlock map_eraseIdx)

theorem perm_erase {α : Type} : ∀ (l : List α) (j : Nat) (h : j < l.length), l.Perm (l[j] :: l.eraseIdx j)
  | x :: r, 0, _ => List.Perm.refl _
  | x :: r, j + 1, h => by
    have ih := perm_erase r j (by simpa using h)
    exact (ih.cons x).trans (List.Perm.swap _ _ _)
theorem kv_key {kv : List (ByteArray × Nat)} {es : Array MapEntry} (hp : (es.toList.map fun e => (e.key, e.val)).Perm (kvV kv)) {e : MapEntry} (he : e ∈ es.toList) : ∃ p ∈ kv, e.key = .string p.1 ∧ e.val = ptr p.2 := by
  have h1 : (e.key, e.val) ∈ es.toList.map fun e => (e.key, e.val) := List.mem_map.2 ⟨e, he, rfl⟩
  have h2 := hp.mem_iff.1 h1
  unfold kvV at h2
  obtain ⟨p, hp, e2⟩ := List.mem_map.1 h2
  exact ⟨p, hp, (Prod.mk.inj e2).1.symm, (Prod.mk.inj e2).2.symm⟩
theorem kv_back {kv : List (ByteArray × Nat)} {es : Array MapEntry} (hp : (es.toList.map fun e => (e.key, e.val)).Perm (kvV kv)) {p : ByteArray × Nat} (h : p ∈ kv) : ∃ e ∈ es.toList, e.key = .string p.1 ∧ e.val = ptr p.2 := by
  have h1 : ((Value.string p.1, ptr p.2) : Value × Value) ∈ kvV kv := List.mem_map.2 ⟨p, h, rfl⟩
  have h2 := hp.mem_iff.2 h1
  obtain ⟨e, he, e2⟩ := List.mem_map.1 h2
  exact ⟨e, he, (Prod.mk.inj e2).1, (Prod.mk.inj e2).2⟩
theorem blk_none {kv : List (ByteArray × Nat)} {k : ByteArray} (h : ∀ p ∈ kv, p.1 ≠ k) : blkOf kv k = none := by
  unfold blkOf
  rw [List.find?_eq_none.2 (fun p hp => by
    intro hq
    exact h p hp (str_eq _ _ (by simpa using hq)))]
  rfl
theorem blk_some {kv : List (ByteArray × Nat)} {k : ByteArray} {b : Nat} (hnd : (kv.map Prod.fst).Nodup) (h : (k, b) ∈ kv) : blkOf kv k = some b := by
  unfold blkOf
  induction kv with
  | nil => cases h
  | cons q r ih =>
    rw [List.map_cons, List.nodup_cons] at hnd
    rw [List.find?_cons]
    rcases List.mem_cons.1 h with h' | h'
    · subst h'; simp
    · have hne : (q.1.data.toList == k.data.toList) = false := by
        rw [beq_eq_false_iff_ne]
        intro e
        exact hnd.1 (List.mem_map.2 ⟨(k, b), h', (str_eq _ _ e).symm⟩)
      rw [hne]
      exact ih hnd.2 h'
theorem mv_find {P : Program} {KT : TypeId} (hk : P.underlying KT = some .string) {w : World} {M : Nat} {kv : List (ByteArray × Nat)} (h : MapV w M kv) (key : ByteArray) (hkey : key.size ≤ maxLen) : ∃ es clock, w.heap[M]? = some (.map es clock) ∧ (es.toList.map fun e => (e.key, e.val)).Perm (kvV kv) ∧
    (((Instr.findKey KT (.string key) es.toList).run P w = .ok none w ∧ ∀ p ∈ kv, p.1 ≠ key) ∨
     ∃ (j : Nat) (e : MapEntry) (b : Nat), (Instr.findKey KT (.string key) es.toList).run P w = .ok (some (j, e.val)) w ∧ es.toList[j]? = some e ∧ e.key = .string key ∧ e.val = ptr b ∧ (key, b) ∈ kv) := by
  obtain ⟨es, clock, hb, hp, hs⟩ := h
  refine ⟨es, clock, hb, hp, ?_⟩
  have K := string_keyed hk
  rcases K.find w (keyOf_string_mk hk hkey) es.toList (fun e he => by
    obtain ⟨p, hp2, e1, _⟩ := kv_key hp he
    exact ⟨_, by rw [e1]; exact keyOf_string_mk hk (hs p hp2)⟩) with ⟨h1, h2⟩ | ⟨j, e, h1, h2, h3⟩
  · refine Or.inl ⟨h1, fun p hp2 e => ?_⟩
    obtain ⟨x, hx, e1, _⟩ := kv_back hp hp2
    exact h2 x hx (by rw [e1, e])
  · obtain ⟨p, hp2, e1, e2⟩ := kv_key hp (List.mem_of_getElem? h2)
    rw [h3] at e1
    have e3 : key = p.1 := by injection e1
    exact Or.inr ⟨j, e, p.2, h1, h2, h3, e2, by rw [e3]; exact hp2⟩
section
variable {P : Program} {KT ET MT : TypeId} (hk : P.underlying KT = some .string) (ht : P.underlying MT = some (.map KT ET)) {w : World} {M : Nat} {kv : List (ByteArray × Nat)}
include ht
theorem mv_len (h : MapV w M kv) (ty : TypeId) : (Builtin.len_ #[MT] ty #[.map (some M)]).run P w = .ok (goInt kv.length) w := by
  obtain ⟨es, clock, hb, hp, _⟩ := h
  have hl : es.size = kv.length := by
    have := hp.length_eq
    simpa [kvV] using this
  simp [Builtin.len_, run_underlying ht, MapKept.run_getObj_map hb, Result.andThen, hl]
include hk
theorem mv_lookup (h : MapV w M kv) (hnd : (kv.map Prod.fst).Nodup) (hz : (zeroValue ET).run P w = .ok (.pointer none) w) (key : ByteArray) (hkey : key.size ≤ maxLen) :
    (Instr.lookup MT (.map (some M)) (.string key) false).run P w = .ok (ptrO (blkOf kv key)) w := by
  obtain ⟨es, clock, hb, hp, hf⟩ := mv_find hk h key hkey
  have hc := (string_keyed hk).check w
  rcases hf with ⟨h1, h2⟩ | ⟨j, e, b, h1, _, _, e2, h3⟩
  · rw [blk_none h2]
    simp [Instr.lookup, run_underlying ht, MapKept.run_getObj_map hb, hc _ (keyOf_string_mk hk hkey), h1, hz, Result.andThen, ptrO]
  · rw [blk_some hnd h3]
    simp [Instr.lookup, run_underlying ht, MapKept.run_getObj_map hb, hc _ (keyOf_string_mk hk hkey), h1, e2, Result.andThen, ptrO]
/-- A key that is not there is put. -/
theorem mv_put (h : MapV w M kv) (key : ByteArray) (hkey : key.size ≤ maxLen) (hno : ∀ p ∈ kv, p.1 ≠ key) (b : Nat) :
    ∃ o, (Instr.mapUpdate MT (.map (some M)) (.string key) (ptr b)).run P w = .ok () (setBlock w M o) ∧ MapV (setBlock w M o) M (kv ++ [(key, b)]) := by
  have hs := h
  obtain ⟨_, _, _, _, hsz⟩ := hs
  obtain ⟨es, clock, hb, hp, hf⟩ := mv_find hk h key hkey
  have hc := (string_keyed hk).check w
  rcases hf with ⟨h1, _⟩ | ⟨j, e, b', _, _, _, _, h3⟩
  · refine ⟨.map (es.push ⟨.string key, ptr b, clock⟩) (clock + 1), ?_, ⟨es.push ⟨.string key, ptr b, clock⟩, clock + 1, heap_setBlock_same hb _, ?_, ?_⟩⟩
    · simp [Instr.mapUpdate, run_underlying ht, MapKept.run_getObj_map hb, hc false (keyOf_string_mk hk hkey), h1, MapKept.run_setObj_map _ hb, Result.andThen, setBlock]
    · unfold kvV
      rw [List.map_append]
      simp only [Array.toList_push, List.map_append, List.map_cons, List.map_nil]
      exact hp.append_right _
    · intro p hp2
      rcases List.mem_append.1 hp2 with h' | h'
      · exact hsz p h'
      · rw [List.mem_singleton.1 h']; exact hkey
  · exact absurd rfl (hno _ h3)
/-- A key that is there is taken out. -/
theorem mv_del (h : MapV w M kv) (hnd : (kv.map Prod.fst).Nodup) (key : ByteArray) (hkey : key.size ≤ maxLen) {p q : List (ByteArray × Nat)} {b : Nat} (hkv : kv = p ++ (key, b) :: q) (ty : TypeId) :
    ∃ o, (Builtin.delete_ #[MT, KT] ty #[.map (some M), .string key]).run P w = .ok (.tuple #[]) (setBlock w M o) ∧ MapV (setBlock w M o) M (p ++ q) := by
  have hs := h
  obtain ⟨_, _, _, _, hsz⟩ := hs
  obtain ⟨es, clock, hb, hp, hf⟩ := mv_find hk h key hkey
  have hc := (string_keyed hk).check w
  rcases hf with ⟨_, h2⟩ | ⟨j, e, b', h1, h2, h3, h4, h5⟩
  · exact absurd rfl (h2 (key, b) (by rw [hkv]; simp))
  · have hjl : j < es.toList.length := (List.getElem?_eq_some_iff.1 h2).1
    have hjs : j < es.size := by simpa using hjl
    have hsub : (es.eraseIdxIfInBounds j).toList = es.toList.eraseIdx j := by
      unfold Array.eraseIdxIfInBounds
      rw [dif_pos hjs]
      simp
    refine ⟨.map (es.eraseIdxIfInBounds j) clock, ?_, ⟨es.eraseIdxIfInBounds j, clock, heap_setBlock_same hb _, ?_, ?_⟩⟩
    · simp [Builtin.delete_, run_underlying ht, MapKept.run_getObj_map hb, hc _ (keyOf_string_mk hk hkey), h1, MapKept.run_setObj_map _ hb, Result.andThen, setBlock]
    · rw [hsub, map_eraseIdx]
      have hb2 : b' = b := by
        have x1 := blk_some hnd h5
        have x2 : blkOf kv key = some b := blk_some hnd (by rw [hkv]; simp)
        rw [x1] at x2
        exact Option.some.inj x2
      subst hb2
      have hje : (es.toList.map fun e => (e.key, e.val))[j]? = some (.string key, ptr b') := by
        rw [List.getElem?_map, h2, Option.map_some, h3, h4]
      have hperm : (es.toList.map fun e => (e.key, e.val)).Perm (((.string key, ptr b') : Value × Value) :: (es.toList.map fun e => (e.key, e.val)).eraseIdx j) := by
        have hl : j < (es.toList.map fun e => (e.key, e.val)).length := by simpa using hjs
        have e1 : (es.toList.map fun e => (e.key, e.val))[j] = (.string key, ptr b') := by
          have := List.getElem?_eq_getElem hl
          rw [this] at hje
          exact Option.some.inj hje
        have := perm_erase (es.toList.map fun e => (e.key, e.val)) j hl
        rw [e1] at this
        exact this
      have hkvp : (kvV kv).Perm (((.string key, ptr b') : Value × Value) :: kvV (p ++ q)) := by
        rw [hkv]
        unfold kvV
        rw [List.map_append, List.map_cons, List.map_append]
        exact List.perm_middle
      exact (List.perm_cons _).1 ((hperm.symm.trans hp).trans hkvp)
    · intro x hx
      refine hsz x ?_
      rw [hkv]
      rcases List.mem_append.1 hx with h' | h'
      · exact List.mem_append_left _ h'
      · exact List.mem_append_right _ (List.mem_cons_of_mem _ h')
end
end Go.Proofs.YtokhlmoanlcjmaaDoor
/- Texts in a slice that the call made; blocks of one cell. -/
namespace Go.Proofs.YtokhlmoanlcjmaaDoor
open Go.RowKit

theorem uStr : (Tryd.prog.info? 9).map (fun i => (i.zero, i.size, i.bytes)) = some (some (.string ByteArray.empty), 1, 16) := by kernel_rfl
/-- A slice of texts that the call made. -/
def OwnS (B : Nat) (v : Value) (ls : List (List UInt8)) (w : World) : Prop := w.ownsRow B 9 1 v ls.length (ls.map fun l => Value.string ⟨l.toArray⟩)
theorem OwnS.shape {B : Nat} {v : Value} {ls : List (List UInt8)} {w : World} (h : OwnS B v ls w) : ∃ a cap, v = .slice a ls.length cap := by
  rcases h.2 with ⟨rfl, h0⟩ | ⟨g, cap, cur, rfl, _⟩
  · exact ⟨none, 0, by rw [h0]⟩
  · exact ⟨_, _, rfl⟩

theorem own_below {B : Nat} {e : TypeId} {size : Nat} {v : Value} {n : Nat} {xs : List Value} {w w1 : World} (h : w.ownsRow B e size v n xs) (hb : Below w.heap.size w w1) : w1.ownsRow B e size v n xs := by
  obtain ⟨h1, h2⟩ := h
  refine ⟨h1, ?_⟩
  rcases h2 with h2 | ⟨g, cap, cur, hv, hg, hh, r⟩
  · exact Or.inl h2
  · refine Or.inr ⟨g, cap, cur, hv, hg, ?_, r⟩
    have hlt : g < w.heap.size := by
      rcases Nat.lt_or_ge g w.heap.size with h' | h'
      · exact h'
      · simp [Array.getElem?_eq_none h'] at hh
    rw [hb.block g hlt]; exact hh
theorem OwnS.below {B : Nat} {v : Value} {ls : List (List UInt8)} {w w1 : World} (h : OwnS B v ls w) (hb : Below w.heap.size w w1) : OwnS B v ls w1 := own_below h hb
theorem of_heap {w : World} {b : Nat} {cs : Array Value} {T : TypeId} (h : w.heap[b]? = some (.cells cs T (0, 0))) (j : Nat) : w.cell? ⟨b, j, none⟩ = cs[j]? ∧ w.frozen? ⟨b, j, none⟩ = false ∧ b < w.heap.size := by
  refine ⟨by simp [World.cell?, h], by simp [World.frozen?, h], ?_⟩
  rcases Nat.lt_or_ge b w.heap.size with h' | h'
  · exact h'
  · simp [Array.getElem?_eq_none h'] at h
theorem heap_set {w : World} {b : Nat} {v u : Value} {T : TypeId} (h : w.heap[b]? = some (.cells #[u] T (0, 0))) : (w.setCell ⟨b, 0, none⟩ v).heap[b]? = some (.cells #[v] T (0, 0)) := by
  simp [World.setCell, Array.getElem?_modify, h]

theorem heap_set2 {w : World} {b c : Nat} {v u x : Value} {T : TypeId} (hne : c ≠ b) (h : w.heap[b]? = some (.cells #[u] T (0, 0))) : ((w.setCell ⟨b, 0, none⟩ v).setCell ⟨c, 0, none⟩ x).heap[b]? = some (.cells #[v] T (0, 0)) := by
  rw [Below.heap_setCell _ _ _ _ (by show b ≠ c; omega)]; exact heap_set h
theorem OwnS.cell {B n cap : Nat} {a : Option Addr} {ls : List (List UInt8)} {w : World} (h : OwnS B (.slice a n cap) ls w) (j : Nat) (hj : j < ls.length) :
    ∃ g, a = some ⟨g, 0, none⟩ ∧ w.cell? ⟨g, j, none⟩ = some (.string ⟨ls[j].toArray⟩) ∧ w.frozen? ⟨g, j, none⟩ = false := by
  rcases h.2 with ⟨_, h0⟩ | ⟨g, cp, cur, hv, hg, hh, hn, hc, hs, hx⟩
  · omega
  · cases hv
    refine ⟨g, rfl, ?_, by simp [World.frozen?, hh]⟩
    have h1 : cur[j]? = (cur.toList.take (ls.length * 1))[j]? := by
      rw [List.getElem?_take_of_lt (by omega), Array.getElem?_toList]
    have h2 : cur[j]? = some (.string ⟨ls[j].toArray⟩) := by
      rw [h1, hx, List.getElem?_map, List.getElem?_eq_getElem hj]; rfl
    simp only [World.cell?, hh]
    exact h2
theorem OwnS.base {B B' : Nat} {v : Value} {ls : List (List UInt8)} {w : World} (h : OwnS B v ls w) (hB : B' ≤ B) : OwnS B' v ls w := by
  refine ⟨h.1, ?_⟩
  rcases h.2 with h | ⟨g, cp, cur, hv, hg, r⟩
  · exact Or.inl h
  · exact Or.inr ⟨g, cp, cur, hv, by omega, r⟩
theorem OwnS.room {B n cap : Nat} {a : Option Addr} {ls : List (List UInt8)} {w : World} (h : OwnS B (.slice a n cap) ls w) : n = ls.length ∧ n ≤ cap ∧ (0 < n → ∃ g, a = some ⟨g, 0, none⟩ ∧ g < w.heap.size) := by
  rcases h.2 with ⟨hv, h0⟩ | ⟨g, cp, cur, hv, hg, hh, hn, hc, hs, hx⟩
  · cases hv; exact ⟨by omega, by omega, fun h => by omega⟩
  · cases hv
    refine ⟨rfl, hn, fun _ => ⟨g, rfl, ?_⟩⟩
    rcases Nat.lt_or_ge g w.heap.size with h' | h'
    · exact h'
    · simp [Array.getElem?_eq_none h'] at hh

/-! One element more at the end of a row that the call made. -/
/-- What an append leaves alone, and where the new row lies. -/
def Far (w w1 : World) (v v' : Value) : Prop := w.grownBy w1 v.ownBlock ∧ (v'.ownBlock = v.ownBlock ∨ ∀ g, v'.ownBlock = some g → w.heap.size ≤ g)
theorem wp_app_one {P : Program} {o : Oper} {a : Act} {K : Act → World → Prop} {Q : Exit → Act → World → Prop} (s x : Operand) (T E : TypeId)
    (ho : o.op = .call { callee := .builtin .append, args := #[s, x], argTypes := #[T, T] }) {z : Value} {size bytes : Nat} (ht : P.underlying T = some (.slice E)) (hinf : (P.info? E).map (fun i => (i.zero, i.size, i.bytes)) = some (some z, size, bytes))
    (hzs : z.cells.size = size) (hsz : 0 < size) (hbs : bytes ≤ 1000) {w wx : World} (B g : Nat) {v : Value} {n : Nat} {xs : List Value} (news : List Value) (hl : news.length = size) (h1 : ∀ u ∈ news, u.oneCell' = true)
    (hs : a.eval s = v) (hx : a.eval x = .slice (some ⟨g, 0, none⟩) 1 1) (hown : wx.ownsRow B E size v n xs) (hB : B ≤ w.heap.size) (hn : n ≤ 1000000000)
    (hc : ∀ j : Nat, wx.cell? ⟨g, j, none⟩ = news[j]?) (hwx : Below w.heap.size w wx)
    (hK : ∀ v' w1, w1.ownsRow B E size v' (n + 1) (xs ++ news) → Below B w w1 → Far wx w1 v v' → K (a.put o.dst v') w1) :
    o.wp P a wx K Q := by
  obtain ⟨i0, hi, hz0, hz1, hz2⟩ := info_parts hinf
  have hby : (n + 1) * bytes ≤ 1000000001 * 1000 := Nat.mul_le_mul (by omega) hbs
  have hsz2 := hwx.size
  obtain ⟨v', w', hr, h2, h3, _, h5⟩ := run_append_own_at (P := P) wx B T o.type E i0 z size bytes ht hi hz0 hz1 hz2 hzs hsz v n xs hown ⟨g, 0, none⟩ 1 1 news (by omega) (by
    intro j u hj
    have e : (⟨g, 0, none⟩ : Addr).add j = ⟨g, j, none⟩ := by
      unfold Addr.add; split <;> simp_all
    rw [e, hc, hj]) h1 (by unfold maxLen; omega) (by omega) (by omega)
  unfold Oper.wp execOp
  simp only [ho, resolve, invoke, builtin, Sem.run_bind, Sem.run_pure, Result.andThen_ok, List.map_toArray, List.map_cons, List.map_nil, hs, hx, hr]
  refine hK _ _ h2 ?_ ⟨h3, ?_⟩
  · exact (hwx.mono hB).grown h3 (by omega) (fun k hk => (hown.lt k hk).1)
  · rcases h5 with h | h
    · exact Or.inl h
    · refine Or.inr fun g hg => ?_
      rw [h] at hg
      have := Option.some.inj hg
      omega
theorem far_alloc {w w1 : World} {o : Obj} {v v' : Value} (h : Far (w.alloc o) w1 v v') : Far w w1 v v' := by
  obtain ⟨hgrow, hwhere⟩ := h
  have h0 := World.grownBy_alloc w o v.ownBlock
  refine ⟨⟨hgrow.os.trans h0.os, hgrow.tape.trans h0.tape, hgrow.output.trans h0.output, Nat.le_trans h0.size hgrow.size, fun k hk hne => (hgrow.block k (Nat.lt_of_lt_of_le hk h0.size) hne).trans (h0.block k hk hne)⟩, ?_⟩
  rcases hwhere with h | h
  · exact Or.inl h
  · exact Or.inr fun g hg => Nat.le_trans h0.size (h g hg)
theorem app_one {P : Program} {ops : Array Oper} {rest : List Oper} {o : Oper} {a : Act} {Q : Exit → Act → World → Prop} (hgd : o.guard = none) (s x : Operand) (T E : TypeId)
    (ho : o.op = .call { callee := .builtin .append, args := #[s, x], argTypes := #[T, T] }) {z : Value} {size bytes : Nat} (ht : P.underlying T = some (.slice E)) (hinf : (P.info? E).map (fun i => (i.zero, i.size, i.bytes)) = some (some z, size, bytes))
    (hzs : z.cells.size = size) (hsz : 0 < size) (hbs : bytes ≤ 1000) {w : World} (B : Nat) {v : Value} {n : Nat} {xs : List Value} (news : List Value) (hl : news.length = size) (h1 : ∀ u ∈ news, u.oneCell' = true)
    (hs : a.eval s = v) (hx : a.eval x = .slice (some ⟨w.heap.size, 0, none⟩) 1 1) (hown : w.ownsRow B E size v n xs) (hB : B ≤ w.heap.size) (hn : n ≤ 1000000000)
    (hK : ∀ v' w1, w1.ownsRow B E size v' (n + 1) (xs ++ news) → Below B w w1 → Far w w1 v v' → wpList P ops Q rest (a.put o.dst v') w1) :
    wpList P ops Q (o :: rest) a (w.alloc (.cells news.toArray E)) :=
  wpList_plain hgd fun _ hK' => wp_app_one s x T E ho ht hinf hzs hsz hbs B w.heap.size news hl h1 hs hx (hown.alloc _) hB hn (fun j => by rw [World.cell?_alloc_mark]; simp) ((Below.refl _ w).alloc (Nat.le_refl _) _)
    fun v' w1 h2 h3 h4 => hK' _ _ (hK v' w1 h2 h3 (far_alloc h4))
/-- The same in a region that draws its order: the block lies behind a draw. -/
theorem step_app_one {P : Program} {ops : Array Oper} {o : Oper} {a : Act} {K : Act → World → Prop} {Q : Exit → Act → World → Prop} {G : Prop} (hgd : o.guard = none) (s x : Operand) (T E : TypeId)
    (ho : o.op = .call { callee := .builtin .append, args := #[s, x], argTypes := #[T, T] }) {z : Value} {size bytes : Nat} (ht : P.underlying T = some (.slice E)) (hinf : (P.info? E).map (fun i => (i.zero, i.size, i.bytes)) = some (some z, size, bytes))
    (hzs : z.cells.size = size) (hsz : 0 < size) (hbs : bytes ≤ 1000) {w : World} (B : Nat) {v : Value} {n : Nat} {xs : List Value} (news : List Value) (hl : news.length = size) (h1 : ∀ u ∈ news, u.oneCell' = true)
    (hs : a.eval s = v) (hx : a.eval x = .slice (some ⟨w.heap.size, 0, none⟩) 1 1) (hown : w.ownsRow B E size v n xs) (hB : B ≤ w.heap.size) (hn : n ≤ 1000000000)
    (hK : ∀ v' w1, w1.ownsRow B E size v' (n + 1) (xs ++ news) → Below B w w1 → Far w w1 v v' → K (a.put o.dst v') w1) :
    if Region.wanted o (yielded ops a.tmps) = true then Oper.wp P o a (w.alloc (.cells news.toArray E)) K Q else G := by
  have hw : Region.wanted o (yielded ops a.tmps) = true := by simp [Region.wanted, hgd]
  rw [if_pos hw]
  exact wp_app_one s x T E ho ht hinf hzs hsz hbs B w.heap.size news hl h1 hs hx (hown.alloc _) hB hn (fun j => by rw [World.cell?_alloc_mark]; simp) ((Below.refl _ w).alloc (Nat.le_refl _) _)
    fun v' w1 h2 h3 h4 => hK v' w1 h2 h3 (far_alloc h4)
theorem app_str {ops : Array Oper} {rest : List Oper} {o : Oper} {a : Act} {Q : Exit → Act → World → Prop} (B : Nat) (y : List UInt8) {w : World} {v : Value} {ls : List (List UInt8)} (hown : OwnS B v ls w) (hB : B ≤ w.heap.size) (hn : ls.length ≤ 1000000000)
    (hgd : o.guard = none) (s x : Operand) (ho : o.op = .call { callee := .builtin .append, args := #[s, x], argTypes := #[47, 47] })
    (hs : a.eval s = v) (hx : a.eval x = .slice (some ⟨w.heap.size, 0, none⟩) 1 1)
    (hK : ∀ v' w1, OwnS B v' (ls ++ [y]) w1 → Below B w w1 → Far w w1 v v' → wpList Tryd.prog ops Q rest (a.put o.dst v') w1) :
    wpList Tryd.prog ops Q (o :: rest) a (w.alloc (.cells #[.string ⟨y.toArray⟩] 9)) := by
  refine app_one (z := .string ByteArray.empty) (bytes := 16) (n := ls.length) hgd s x 47 9 ho Tryd.underlying47 uStr rfl (by decide) (by decide) B [.string ⟨y.toArray⟩] rfl (by intro u hu; simp at hu; subst hu; rfl) hs hx hown hB hn ?_
  intro v' w1 h1 h2 h3
  refine hK v' w1 ?_ h2 h3
  show World.ownsRow _ _ _ _ _ _ _
  rw [List.length_append, List.length_singleton, List.map_append]
  exact h1
theorem OwnS.drew {B : Nat} {v : Value} {ls : List (List UInt8)} {w : World} (h : OwnS B v ls w) : OwnS B v ls w.drew := h
theorem OwnS.nil (B : Nat) (w : World) : OwnS B (.slice none 0 0) [] w := World.ownsRow_nil _ _ _ _
/-- Texts that are handed back in a slice of the call's own. -/
def TextsPost (w : World) (ls : List (List UInt8)) (e : Ending) (w' : World) : Prop :=
  ∃ a cap, e = .returned (.slice a ls.length cap) ∧ OwnS w.heap.size (.slice a ls.length cap) ls w' ∧ Below w.heap.size w w'
theorem OwnS.rd {B m cap : Nat} {a : Option Addr} {ls : List (List UInt8)} {w : World} (h : OwnS B (.slice a m cap) ls w) : m = ls.length ∧ Rd a ls.length 1 (strsV ls) w := Rd.of_own h
/-- v's row is none of those that lie behind A. -/
def Sep (v : Value) (A : Option Addr) (n : Nat) : Prop := 0 < n → ∀ g o, A = some ⟨g, o, none⟩ → v.ownBlock ≠ some g
theorem Rd.far {A : Option Addr} {n size : Nat} {xs : List Value} {w w1 : World} {v v' : Value} (h : Rd A n size xs w) (hf : Far w w1 v v') (hs : Sep v A n) : Rd A n size xs w1 ∧ Sep v' A n := by
  refine ⟨⟨h.1, fun hn => ?_⟩, fun hn g o e => ?_⟩
  · obtain ⟨b, o, e, hl, hc⟩ := h.2 hn
    have hb := hf.1.block b hl (fun x => hs hn b o e x.symm)
    exact ⟨b, o, e, Nat.lt_of_lt_of_le hl hf.1.size, fun j u hu => (World.cell?_of_block (a := ⟨b, o + j, none⟩) hb).trans (hc j u hu)⟩
  · obtain ⟨b, o', e', hl, _⟩ := h.2 hn
    rw [e'] at e
    cases e
    rcases hf.2 with h2 | h2
    · rw [h2]; exact hs hn _ _ e'
    · intro x; have := h2 _ x; omega
/-- What lies in new blocks is none of an elder row. -/
theorem Sep.new {v : Value} {B n : Nat} {e : TypeId} {m size : Nat} {xs : List Value} {w : World} {A : Option Addr} (h : w.ownsRow B e size v m xs) (ha : ∀ g o, A = some ⟨g, o, none⟩ → w.heap.size ≤ g) : Sep v A n := by
  intro _ g o e x
  have := (h.lt g x).2
  have := ha g o e
  omega
theorem own_new {B : Nat} {e : TypeId} {size : Nat} {a : Option Addr} {m n cap : Nat} {xs : List Value} {w : World} (h : w.ownsRow B e size (.slice a m cap) n xs) : ∀ g o, a = some ⟨g, o, none⟩ → B ≤ g := by
  intro g o e
  exact (h.lt g (by rw [e]; rfl)).1
end Go.Proofs.YtokhlmoanlcjmaaDoor
/- Blocks of ten cells (printed by wip/tools/box10.py). -/
namespace Go.Proofs.YtokhlmoanlcjmaaDoor
open Go.RowKit

theorem heap_setT {w : World} {b j : Nat} {v : Value} {cs : Array Value} {T : TypeId} {m : Nat × Nat} (h : w.heap[b]? = some (.cells cs T m)) : (w.setCell ⟨b, j, none⟩ v).heap[b]? = some (.cells (cs.setIfInBounds j v) T m) := by
  simp [World.setCell, Array.getElem?_modify, h]
/-- The ten cells of a block. -/
def Box10 (w : World) (b : Nat) (T : TypeId) (x : Hv) : Prop := w.heap[b]? = some (.cells #[.string x.key, .int .i64 x.st, .string x.re, .int .i64 x.mi, .slice x.fA x.fn x.fc, .string x.bo, .int .i64 x.asked, .int .i64 x.got, .slice x.vA x.vn x.vc, .int .i64 x.num] T (0, 0))
/-- The same, cell by cell. -/
def Ten (w : World) (b : Nat) (x : Hv) : Prop := (w.cell? ⟨b, 0, none⟩ = some (.string x.key) ∧ w.cell? ⟨b, 1, none⟩ = some (.int .i64 x.st) ∧ w.cell? ⟨b, 2, none⟩ = some (.string x.re) ∧ w.cell? ⟨b, 3, none⟩ = some (.int .i64 x.mi) ∧ w.cell? ⟨b, 4, none⟩ = some (.slice x.fA x.fn x.fc) ∧ w.cell? ⟨b, 5, none⟩ = some (.string x.bo) ∧ w.cell? ⟨b, 6, none⟩ = some (.int .i64 x.asked) ∧ w.cell? ⟨b, 7, none⟩ = some (.int .i64 x.got) ∧ w.cell? ⟨b, 8, none⟩ = some (.slice x.vA x.vn x.vc) ∧ w.cell? ⟨b, 9, none⟩ = some (.int .i64 x.num)) ∧ (w.frozen? ⟨b, 0, none⟩ = false ∧ w.frozen? ⟨b, 1, none⟩ = false ∧ w.frozen? ⟨b, 2, none⟩ = false ∧ w.frozen? ⟨b, 3, none⟩ = false ∧ w.frozen? ⟨b, 4, none⟩ = false ∧ w.frozen? ⟨b, 5, none⟩ = false ∧ w.frozen? ⟨b, 6, none⟩ = false ∧ w.frozen? ⟨b, 7, none⟩ = false ∧ w.frozen? ⟨b, 8, none⟩ = false ∧ w.frozen? ⟨b, 9, none⟩ = false) ∧ b < w.heap.size
theorem Box10.ten {w : World} {b : Nat} {T : TypeId} {x : Hv} (h : Box10 w b T x) : Ten w b x :=
  ⟨⟨(of_heap h 0).1, (of_heap h 1).1, (of_heap h 2).1, (of_heap h 3).1, (of_heap h 4).1, (of_heap h 5).1, (of_heap h 6).1, (of_heap h 7).1, (of_heap h 8).1, (of_heap h 9).1⟩, ⟨(of_heap h 0).2.1, (of_heap h 1).2.1, (of_heap h 2).2.1, (of_heap h 3).2.1, (of_heap h 4).2.1, (of_heap h 5).2.1, (of_heap h 6).2.1, (of_heap h 7).2.1, (of_heap h 8).2.1, (of_heap h 9).2.1⟩, (of_heap h 0).2.2⟩
theorem Box10.of {w w' : World} {b : Nat} {T : TypeId} {x : Hv} (h : Box10 w b T x) (hb : w'.heap[b]? = w.heap[b]?) : Box10 w' b T x := hb.trans h
theorem Box10.lt {w : World} {b : Nat} {T : TypeId} {x : Hv} (h : Box10 w b T x) : b < w.heap.size := (of_heap h 0).2.2
theorem Box10.below {w w' : World} {b : Nat} {T : TypeId} {x : Hv} (h : Box10 w b T x) (hb : Below w.heap.size w w') : Box10 w' b T x := h.of (hb.block _ h.lt)
def setTen (w5 : World) (g : Nat) (v0 v1 v2 v3 v4 v5 v6 v7 v8 v9 : Value) : World := ((((((((((w5.setCell ⟨g, 0, none⟩ v0).setCell ⟨g, 1, none⟩ v1).setCell ⟨g, 2, none⟩ v2).setCell ⟨g, 3, none⟩ v3).setCell ⟨g, 4, none⟩ v4).setCell ⟨g, 5, none⟩ v5).setCell ⟨g, 6, none⟩ v6).setCell ⟨g, 7, none⟩ v7).setCell ⟨g, 8, none⟩ v8).setCell ⟨g, 9, none⟩ v9)
theorem setTen_below {B : Nat} {wr w5 : World} {g : Nat} (h : Below B wr w5) (hB : B ≤ g) (v0 v1 v2 v3 v4 v5 v6 v7 v8 v9 : Value) : Below B wr (setTen w5 g v0 v1 v2 v3 v4 v5 v6 v7 v8 v9) := by
  unfold setTen
  exact ((((((((((h.setCell (p := ⟨g, 0, none⟩) hB _).setCell (p := ⟨g, 1, none⟩) hB _).setCell (p := ⟨g, 2, none⟩) hB _).setCell (p := ⟨g, 3, none⟩) hB _).setCell (p := ⟨g, 4, none⟩) hB _).setCell (p := ⟨g, 5, none⟩) hB _).setCell (p := ⟨g, 6, none⟩) hB _).setCell (p := ⟨g, 7, none⟩) hB _).setCell (p := ⟨g, 8, none⟩) hB _).setCell (p := ⟨g, 9, none⟩) hB _)
theorem setTen_other {w5 : World} {g b : Nat} (hb : b ≠ g) (v0 v1 v2 v3 v4 v5 v6 v7 v8 v9 : Value) : (setTen w5 g v0 v1 v2 v3 v4 v5 v6 v7 v8 v9).heap[b]? = w5.heap[b]? := by
  have h1 : ∀ (w : World) (j : Nat) (v : Value), (w.setCell ⟨g, j, none⟩ v).heap[b]? = w.heap[b]? := fun w j v => heap_set_ne w g j b v hb
  unfold setTen
  rw [h1, h1, h1, h1, h1, h1, h1, h1, h1, h1]
theorem setTen_box {w5 : World} {g : Nat} {T : TypeId} {y : Hv} (h : Box10 w5 g T y) (x : Hv) : Box10 (setTen w5 g (.string x.key) (.int .i64 x.st) (.string x.re) (.int .i64 x.mi) (.slice x.fA x.fn x.fc) (.string x.bo) (.int .i64 x.asked) (.int .i64 x.got) (.slice x.vA x.vn x.vc) (.int .i64 x.num)) g T x := by
  unfold Box10 at *
  unfold setTen
  have h0 := heap_setT (j := 0) (v := .string x.key) h
  have h1 := heap_setT (j := 1) (v := .int .i64 x.st) h0
  have h2 := heap_setT (j := 2) (v := .string x.re) h1
  have h3 := heap_setT (j := 3) (v := .int .i64 x.mi) h2
  have h4 := heap_setT (j := 4) (v := .slice x.fA x.fn x.fc) h3
  have h5 := heap_setT (j := 5) (v := .string x.bo) h4
  have h6 := heap_setT (j := 6) (v := .int .i64 x.asked) h5
  have h7 := heap_setT (j := 7) (v := .int .i64 x.got) h6
  have h8 := heap_setT (j := 8) (v := .slice x.vA x.vn x.vc) h7
  have h9 := heap_setT (j := 9) (v := .int .i64 x.num) h8
  rw [h9]
  simp only [List.setIfInBounds_toArray, List.set_cons_zero, List.set_cons_succ]
end Go.Proofs.YtokhlmoanlcjmaaDoor
/- The walks of budget.Budget[HELD] (printed by wip/tools/budh.py). -/
namespace Go.Proofs.YtokhlmoanlcjmaaDoor
open Go.RowKit
set_option maxRecDepth 100000

set_option maxHeartbeats 4000000 in
theorem outI_any (l a z : Nat) (w : World) (h3 : w.cell? ⟨l, 12, none⟩ = some (ptr a)) (h4 : w.cell? ⟨l, 13, none⟩ = some (ptr z)) (ha : ∃ u, w.cell? ⟨a, 13, none⟩ = some u) (hz : ∃ u, w.cell? ⟨z, 12, none⟩ = some u) (hfa : w.frozen? ⟨a, 13, none⟩ = false) (hfz : w.frozen? ⟨z, 12, none⟩ = false) :
    Calls Tryd.prog 53 #[.pointer (some ⟨l, 0, none⟩)] w fun e w' => (∃ v, e = .returned v) ∧ ∃ n, w' = ((w.setCell ⟨a, 13, none⟩ (ptr z)).setCell ⟨z, 12, none⟩ (ptr a)).drewN n := by
  obtain ⟨u1, ha⟩ := ha
  obtain ⟨u2, hz⟩ := hz
  unfold ptr at *
  go_enter Tryd.func53, Tryd.ntmps53
  go_wp2
  go_region
  go_end0
  exact ⟨⟨_, rfl⟩, 1, rfl⟩
set_option maxHeartbeats 4000000 in
theorem lastI_any (bl r l a : Nat) (w : World) (hb : w.cell? ⟨bl, 4, none⟩ = some (ptr r)) (hr : w.cell? ⟨r, 12, none⟩ = some (ptr a)) (h3 : ∃ u, w.cell? ⟨l, 12, none⟩ = some u) (h4 : ∃ u, w.cell? ⟨l, 13, none⟩ = some u) (ha : ∃ u, w.cell? ⟨a, 13, none⟩ = some u)
    (f3 : w.frozen? ⟨l, 12, none⟩ = false) (f4 : w.frozen? ⟨l, 13, none⟩ = false) (fa : w.frozen? ⟨a, 13, none⟩ = false) (fr : w.frozen? ⟨r, 12, none⟩ = false) (h1 : bl ≠ l) (h2 : r ≠ l) (h5 : a ≠ l) :
    Calls Tryd.prog 50 #[.pointer (some ⟨bl, 0, none⟩), .pointer (some ⟨l, 0, none⟩)] w fun e w' => (∃ v, e = .returned v) ∧ ∃ n, w' = ((((w.setCell ⟨l, 12, none⟩ (ptr a)).setCell ⟨l, 13, none⟩ (ptr r)).setCell ⟨a, 13, none⟩ (ptr l)).setCell ⟨r, 12, none⟩ (ptr l)).drewN n := by
  obtain ⟨u1, h3⟩ := h3
  obtain ⟨u2, h4⟩ := h4
  obtain ⟨u3, ha⟩ := ha
  unfold ptr at *
  go_enter Tryd.func50, Tryd.ntmps50
  go_wp2
  go_region
  have q1 : ((w.setCell ⟨l, 12, none⟩ (.pointer (some ⟨a, 0, none⟩))).setCell ⟨l, 13, none⟩ (.pointer (some ⟨r, 0, none⟩))).drew.cell? ⟨bl, 4, none⟩ = some (.pointer (some ⟨r, 0, none⟩)) := by
    rw [World.cell?_drew, World.cell?_setCell_other _ _ _ _ (by intro e; cases e <;> exact h1 rfl), World.cell?_setCell_other _ _ _ _ (by intro e; cases e)]; exact hb
  have q2 : ((w.setCell ⟨l, 12, none⟩ (.pointer (some ⟨a, 0, none⟩))).setCell ⟨l, 13, none⟩ (.pointer (some ⟨r, 0, none⟩))).drew.cell? ⟨r, 12, none⟩ = some (.pointer (some ⟨a, 0, none⟩)) := by
    rw [World.cell?_drew, World.cell?_setCell_other _ _ _ _ (by intro e; cases e), World.cell?_setCell_other _ _ _ _ (by intro e; cases e; exact h2 rfl)]; exact hr
  have q3 : ((w.setCell ⟨l, 12, none⟩ (.pointer (some ⟨a, 0, none⟩))).setCell ⟨l, 13, none⟩ (.pointer (some ⟨r, 0, none⟩))).drew.cell? ⟨a, 13, none⟩ = some u3 := by
    rw [World.cell?_drew, World.cell?_setCell_other _ _ _ _ (by intro e; cases e; exact h5 rfl), World.cell?_setCell_other _ _ _ _ (by intro e; cases e)]; exact ha
  have q4 : ((w.setCell ⟨l, 12, none⟩ (.pointer (some ⟨a, 0, none⟩))).setCell ⟨l, 13, none⟩ (.pointer (some ⟨r, 0, none⟩))).drew.frozen? ⟨a, 13, none⟩ = false := by
    rw [World.frozen?_drew, World.frozen?_setCell, World.frozen?_setCell]; exact fa
  have q5 : ((w.setCell ⟨l, 12, none⟩ (.pointer (some ⟨a, 0, none⟩))).setCell ⟨l, 13, none⟩ (.pointer (some ⟨r, 0, none⟩))).drew.frozen? ⟨r, 12, none⟩ = false := by
    rw [World.frozen?_drew, World.frozen?_setCell, World.frozen?_setCell]; exact fr
  obtain ⟨W, hW⟩ : ∃ W, ((w.setCell ⟨l, 12, none⟩ (.pointer (some ⟨a, 0, none⟩))).setCell ⟨l, 13, none⟩ (.pointer (some ⟨r, 0, none⟩))).drew = W := ⟨_, rfl⟩
  rw [hW] at q1 q2 q3 q4 q5 ⊢
  have HW := Lib.hid hW
  clear hW hb hr h3 h4 ha f3 f4 fa fr
  go_wp2
  go_region
  go_end0
  refine ⟨⟨_, rfl⟩, 2, ?_⟩
  rw [← HW.out]
  rfl

def zeI : Ent := ⟨⟨#[]⟩, 0, ⟨⟨#[]⟩, 0, ⟨#[]⟩, 0, none, 0, 0, ⟨#[]⟩, 0, 0, none, 0, 0, 0, [], []⟩⟩
structure BudI (w : World) (bl r M : Nat) (n m : Int) (xs : List Lk) : Prop where
  blk : w.heap[bl]? = some (.cells #[.int .i64 n, .int .i64 m, .int .i64 (sumL xs), .map (some M), ptr r] 92 (0, 0))
  ring : Ring 89 zeI w r xs
  mp : MapV w M (kvL xs)
  nd : (bl :: M :: r :: xs.map Prod.fst).Nodup
  kn : ((kvL xs).map Prod.fst).Nodup
  sz : ∀ p ∈ xs, 0 ≤ p.2.size ∧ p.2.size ≤ 1073741824
  len : xs.length ≤ 5000
  ks : ∀ p ∈ xs, p.2.key.size ≤ maxLen
theorem BudI.low {w : World} {bl r M : Nat} {n m : Int} {xs : List Lk} (h : BudI w bl r M n m xs) : ∀ c ∈ bl :: M :: r :: xs.map Prod.fst, c < w.heap.size := by
  have hx : ∀ (c : Nat) (o : Obj), w.heap[c]? = some o → c < w.heap.size := fun c o ho => by
    rcases Nat.lt_or_ge c w.heap.size with h' | h'
    · exact h'
    · simp [Array.getElem?_eq_none h'] at ho
  intro c hc
  rcases List.mem_cons.1 hc with rfl | hc
  · exact hx _ _ h.blk
  rcases List.mem_cons.1 hc with rfl | hc
  · obtain ⟨es, cl, h1, _⟩ := h.mp; exact hx _ _ h1
  · obtain ⟨e, va, vf, h1⟩ := h.ring.at c hc
    exact hx _ _ h1
theorem BudI.of {w w' : World} {bl r M : Nat} {n m : Int} {xs : List Lk} (h : BudI w bl r M n m xs) (hb : ∀ b ∈ bl :: M :: r :: xs.map Prod.fst, w'.heap[b]? = w.heap[b]?) : BudI w' bl r M n m xs :=
  ⟨(hb bl (by simp)).trans h.blk, h.ring.of (fun b hb' => hb b (List.mem_cons_of_mem _ (List.mem_cons_of_mem _ hb'))), h.mp.of (hb M (by simp)), h.nd, h.kn, h.sz, h.len, h.ks⟩
theorem BudI.below {w w' : World} {bl r M B : Nat} {n m : Int} {xs : List Lk} (h : BudI w bl r M n m xs) (hb : Below B w w') (hB : ∀ b ∈ bl :: M :: r :: xs.map Prod.fst, b < B) : BudI w' bl r M n m xs :=
  h.of fun b hb' => hb.block b (hB b hb')
theorem zeroMI (w : World) : (zeroValue 87).run Tryd.prog w = .ok (.pointer none) w := by kernel_rfl
set_option maxHeartbeats 2000000 in
theorem isI_any {w : World} {bl r M : Nat} {n m : Int} {xs : List Lk} (h : BudI w bl r M n m xs) :
    Calls Tryd.prog 49 #[.pointer (some ⟨bl, 0, none⟩)] w fun e w' => e = .returned (.bool true) ∧ w = w' := by
  have c4 : w.cell? ⟨bl, 4, none⟩ = some (ptr r) := by simp [World.cell?, h.blk]
  unfold ptr at c4
  go_enter Tryd.func49, Tryd.ntmps49
  go_wp2
  go_ret
  exact ⟨rfl, rfl⟩
set_option maxHeartbeats 2000000 in
theorem findI_any {w : World} {bl r M : Nat} {n m : Int} {xs : List Lk} (h : BudI w bl r M n m xs) (key : ByteArray) (hkey : key.size ≤ maxLen) :
    Calls Tryd.prog 52 #[.pointer (some ⟨bl, 0, none⟩), .string key] w fun e w' => e = .returned (ptrO (blkOf (kvL xs) key)) ∧ w = w' := by
  have c3 : w.cell? ⟨bl, 3, none⟩ = some (.map (some M)) := by simp [World.cell?, h.blk]
  have hl := mv_lookup Tryd.underlying9 Tryd.underlying90 h.mp h.kn (zeroMI w) key hkey
  have k1 := isI_any h
  have K1 := Lib.hid k1
  clear k1
  go_enter Tryd.func52, Tryd.ntmps52
  go_wp2_with fail
  (with_reducible refine K1.out.mono ?_)
  rintro e w1 ⟨rfl, rfl⟩
  go_wp2
  go_ret
  exact ⟨rfl, rfl⟩

/-- What taking a link out leaves in memory. -/
theorem dropI_mem {w : World} {bl r M : Nat} {n m : Int} {p q : List Lk} {l : Nat} {e : Ent} (h : BudI w bl r M n m (p ++ (l, e) :: q)) (k : Nat) :
    ∃ w1 : World, w1 = (((w.setCell ⟨lst r p, 13, none⟩ (ptr (hd q r))).setCell ⟨hd q r, 12, none⟩ (ptr (lst r p))).drewN k) ∧
      w1.heap[bl]? = w.heap[bl]? ∧ w1.heap[M]? = w.heap[M]? ∧ (∃ va vf, LnkV 89 w1 l e va vf) ∧ Ring 89 zeI w1 r (p ++ q) ∧
      Touch (bl :: M :: r :: (p ++ (l, e) :: q).map Prod.fst) w w1 := by
  have hnd := h.nd
  rw [List.nodup_cons, List.nodup_cons] at hnd
  obtain ⟨hbn, hMn, hrn⟩ := hnd
  have hp : lst r p ∈ r :: (p ++ (l, e) :: q).map Prod.fst := by
    rcases @lst_mem p r with hm | ⟨_, hm⟩
    · rw [List.map_append]; exact List.mem_cons_of_mem _ (List.mem_append_left _ hm)
    · rw [hm]; exact List.mem_cons_self
  have hq : hd q r ∈ r :: (p ++ (l, e) :: q).map Prod.fst := by
    rcases @hd_mem q r with hm | ⟨_, hm⟩
    · rw [List.map_append, List.map_cons]; exact List.mem_cons_of_mem _ (List.mem_append_right _ (List.mem_cons_of_mem _ hm))
    · rw [hm]; exact List.mem_cons_self
  have hno : ∀ c, c ∉ r :: (p ++ (l, e) :: q).map Prod.fst → (((w.setCell ⟨lst r p, 13, none⟩ (ptr (hd q r))).setCell ⟨hd q r, 12, none⟩ (ptr (lst r p))).drewN k).heap[c]? = w.heap[c]? := fun c hc => by
    rw [World.heap_drewN, heap_set_ne _ _ _ _ _ (fun x => hc (by rw [x]; exact hq)), heap_set_ne _ _ _ _ _ (fun x => hc (by rw [x]; exact hp))]
  refine ⟨_, rfl, hno bl (fun x => hbn (List.mem_cons_of_mem _ x)), hno M hMn, ?_, ?_, ?_⟩
  · have hs := h.ring.2
    rw [seg_app] at hs
    have hl : LnkV 89 w l e (ptr (lst r p)) (ptr (hd q r)) := hs.2.1
    rw [List.nodup_cons, List.map_append, List.map_cons, List.nodup_append] at hrn
    obtain ⟨h1, h2, h3, h4⟩ := hrn
    rw [List.nodup_cons] at h3
    have e1 : l ≠ lst r p := by
      intro x
      rcases @lst_mem p r with hm | ⟨_, hm⟩
      · exact h4 _ hm l (by simp) x.symm
      · rw [hm] at x; exact h1 (List.mem_append_right _ (by rw [x]; simp))
    have e2 : l ≠ hd q r := by
      intro x
      rcases @hd_mem q r with hm | ⟨_, hm⟩
      · exact h3.1 (by rw [x]; exact hm)
      · rw [hm] at x; exact h1 (List.mem_append_right _ (by rw [x]; simp))
    exact ⟨_, _, ((hl.other e1).other e2).of rfl⟩
  · exact (h.ring.out hrn).of (fun _ _ => rfl)
  · exact (((Touch.refl _ w).setCell _ 13 _ (List.mem_cons_of_mem _ (List.mem_cons_of_mem _ hp))).setCell _ 12 _ (List.mem_cons_of_mem _ (List.mem_cons_of_mem _ hq))).drewN k
theorem dropI_fin {w w1 w2 : World} {bl r M : Nat} {n m : Int} {p q : List Lk} {l : Nat} {e : Ent} (h : BudI w bl r M n m (p ++ (l, e) :: q)) (hb : w1.heap[bl]? = w.heap[bl]?) (hring : Ring 89 zeI w1 r (p ++ q)) (k : Nat)
    (ht : Touch (bl :: M :: r :: (p ++ (l, e) :: q).map Prod.fst) w w1) (hw2 : w2 = (w1.setCell ⟨bl, 2, none⟩ (.int .i64 (sumL (p ++ q)))).drewN k) {o : _} (hM : ∃ es c, w2.heap[M]? = some (.map es c)) (hm : MapV (Go.ChangeMaps.setBlock w2 M o) M (kvL (p ++ q))) :
    BudI (Go.ChangeMaps.setBlock w2 M o) bl r M n m (p ++ q) ∧ Touch (bl :: M :: r :: (p ++ (l, e) :: q).map Prod.fst) w (Go.ChangeMaps.setBlock w2 M o) := by
  obtain ⟨es, c, hM⟩ := hM
  have hnd := h.nd
  have hnd0 := hnd
  rw [List.nodup_cons, List.nodup_cons] at hnd0
  obtain ⟨hbn, hMn, hrn⟩ := hnd0
  have hsub : (p ++ q).Sublist (p ++ (l, e) :: q) := (List.Sublist.refl p).append (List.sublist_cons_self _ _)
  have hsubf := hsub.map Prod.fst
  have hoth : ∀ b, b ≠ M → (Go.ChangeMaps.setBlock w2 M o).heap[b]? = w2.heap[b]? := fun b hne => Go.ChangeMaps.heap_setBlock_other hM _ hne
  have hMb : bl ≠ M := fun x => hbn (by rw [x]; simp)
  refine ⟨⟨?_, ?_, hm, hnd.sublist (((hsubf.cons_cons r).cons_cons M).cons_cons bl), ?_, fun x hx => h.sz x (hsub.subset hx), Nat.le_trans hsub.length_le h.len, fun x hx => h.ks x (hsub.subset hx)⟩, ?_⟩
  · rw [hoth bl hMb, hw2, World.heap_drewN]
    have := h.blk
    rw [← hb] at this
    simp [World.setCell, Array.getElem?_modify, this]
  · refine hring.of (fun b hb' => ?_)
    have hin : b ∈ r :: (p ++ (l, e) :: q).map Prod.fst := (hsubf.cons_cons r).subset hb'
    rw [hoth b (fun x => hMn (by rw [← x]; exact hin)), hw2, World.heap_drewN, heap_set_ne _ _ _ _ _ (fun x => hbn (by rw [← x]; exact List.mem_cons_of_mem _ hin))]
  · exact h.kn.sublist ((hsub.map _).map _)
  · have t2 : Touch (bl :: M :: r :: (p ++ (l, e) :: q).map Prod.fst) w w2 := by rw [hw2]; exact (ht.setCell bl 2 _ (by simp)).drewN k
    refine ⟨t2.1, t2.2.1, t2.2.2.1, Nat.le_trans t2.2.2.2.1 (by simp [Go.ChangeMaps.setBlock]), fun b h1 h2 => ?_⟩
    rw [hoth b (fun x => h2 (by rw [x]; simp))]
    exact t2.2.2.2.2 b h1 h2
theorem dropI_sum {p q : List Lk} {l : Nat} {e : Ent} (hs : ∀ x ∈ p ++ (l, e) :: q, 0 ≤ x.2.size ∧ x.2.size ≤ 1073741824) (hl : (p ++ (l, e) :: q).length ≤ 5000) :
    IntKind.i64.wrap (sumL (p ++ (l, e) :: q) - e.size) = sumL (p ++ q) := by
  have h1 := sumL_le (p ++ q) (fun x hx => hs x (((List.Sublist.refl p).append (List.sublist_cons_self _ _)).subset hx))
  have hl2 : (p ++ q).length ≤ 5000 := Nat.le_trans ((List.Sublist.refl p).append (List.sublist_cons_self _ _)).length_le hl
  have e1 : sumL (p ++ (l, e) :: q) - e.size = sumL (p ++ q) := by
    rw [sumL_app, sumL_app]
    show sumL p + (e.size + sumL q) - e.size = _
    omega
  rw [e1]
  rw [IntKind.wrap_i64]; omega
set_option maxHeartbeats 4000000 in
theorem dropI_any {w : World} {bl r M : Nat} {n m : Int} {p q : List Lk} {l : Nat} {e : Ent} (h : BudI w bl r M n m (p ++ (l, e) :: q)) :
    Calls Tryd.prog 32 #[.pointer (some ⟨bl, 0, none⟩), .string e.key] w fun x w' => x = .returned (.bool true) ∧ BudI w' bl r M n m (p ++ q) ∧ Touch (bl :: M :: r :: (p ++ (l, e) :: q).map Prod.fst) w w' := by
  have hkey := h.ks (l, e) (by simp)
  have hblk : blkOf (kvL (p ++ (l, e) :: q)) e.key = some l := blk_some h.kn (by simp [kvL])
  have k1 := findI_any h e.key hkey
  rw [hblk] at k1
  simp only [ptrO, ptr] at k1
  have K1 := Lib.hid k1
  clear k1
  have hs := h.ring.2
  rw [seg_app] at hs
  have hl : LnkV 89 w l e (ptr (lst r p)) (ptr (hd q r)) := hs.2.1
  clear hs
  obtain ⟨e1, va1, vf1, ha⟩ := h.ring.at (lst r p) (by
    rcases @lst_mem p r with hm | ⟨_, hm⟩
    · rw [List.map_append]; exact List.mem_cons_of_mem _ (List.mem_append_left _ hm)
    · rw [hm]; exact List.mem_cons_self)
  obtain ⟨e2, va2, vf2, hz⟩ := h.ring.at (hd q r) (by
    rcases @hd_mem q r with hm | ⟨_, hm⟩
    · rw [List.map_append, List.map_cons]; exact List.mem_cons_of_mem _ (List.mem_append_right _ (List.mem_cons_of_mem _ hm))
    · rw [hm]; exact List.mem_cons_self)
  have k2 := outI_any l (lst r p) (hd q r) w hl.cells.2.2.2.1 hl.cells.2.2.2.2.1 ⟨_, ha.cells.2.2.2.2.1⟩ ⟨_, hz.cells.2.2.2.1⟩ (ha.cells.2.2.2.2.2.1 13) (hz.cells.2.2.2.2.2.1 12)
  have K2 := Lib.hid k2
  clear k2
  have k3 : IntKind.i64.wrap (sumL (p ++ (l, e) :: q) - e.size) = sumL (p ++ q) := dropI_sum h.sz h.len
  have HH := Lib.hid h
  clear h hl ha hz
  go_enter Tryd.func32, Tryd.ntmps32
  go_wp2_with fail
  (with_reducible refine K1.out.mono ?_)
  rintro x w1 ⟨rfl, rfl⟩
  go_wp2_with fail
  (with_reducible refine K2.out.mono ?_)
  rintro x w1 ⟨⟨v, rfl⟩, k, rfl⟩
  obtain ⟨w1, hw1, hbl, hMM, ⟨va, vf, hl⟩, hring, htc⟩ := dropI_mem HH.out k
  rw [← hw1]
  clear hw1
  have c2 : w1.cell? ⟨bl, 2, none⟩ = some (.int .i64 (sumL (p ++ (l, e) :: q))) := by simp [World.cell?, hbl, HH.out.blk]
  have f2 : w1.frozen? ⟨bl, 2, none⟩ = false := by simp [World.frozen?, hbl, HH.out.blk]
  have c1 : w1.cell? ⟨l, 1, none⟩ = some (.int .i64 e.size) := hl.cells.2.1
  have HB := Lib.hid hbl
  have HL := Lib.hid hl
  clear hbl hl
  go_wp2
  go_region
  obtain ⟨w2, hw2⟩ : ∃ w2, (w1.setCell ⟨bl, 2, none⟩ (.int .i64 (sumL (p ++ q)))).drew = w2 := ⟨_, rfl⟩
  rw [hw2]
  have hM2 : w2.heap[M]? = w.heap[M]? := by
    rw [← hw2]
    refine (heap_set_ne _ _ _ _ _ (fun x => ?_)).trans hMM
    have := HH.out.nd
    rw [List.nodup_cons] at this
    exact this.1 (by rw [← x]; simp)
  have c3 : w2.cell? ⟨bl, 3, none⟩ = some (.map (some M)) := by
    rw [← hw2, World.cell?_drew, World.cell?_setCell_other _ _ _ _ (by intro e; cases e)]
    simp [World.cell?, HB.out, HH.out.blk]
  have hmv : MapV w2 M (kvL (p ++ (l, e) :: q)) := HH.out.mp.of hM2
  obtain ⟨o, hrun, hmv2⟩ := mv_del Tryd.underlying9 Tryd.underlying90 hmv HH.out.kn e.key hkey (p := kvL p) (q := kvL q) (b := l) (by simp [kvL]) 0
  have hes : ∃ es c, w2.heap[M]? = some (.map es c) := by
    obtain ⟨es, c, h1, _⟩ := hmv
    exact ⟨es, c, h1⟩
  have fin := dropI_fin HH.out HB.out hring 1 htc hw2.symm (o := o) hes (by rw [kvL, List.map_append]; exact hmv2)
  have HF := Lib.hid fin
  clear fin hmv hmv2 hes hw2 hring htc hM2 hMM
  go_wp2
  go_ret
  exact ⟨rfl, HF.out⟩
set_option maxHeartbeats 4000000 in
theorem dropI_none {w : World} {bl r M : Nat} {n m : Int} {xs : List Lk} (h : BudI w bl r M n m xs) (key : ByteArray) (hkey : key.size ≤ maxLen) (hno : blkOf (kvL xs) key = none) :
    Calls Tryd.prog 32 #[.pointer (some ⟨bl, 0, none⟩), .string key] w fun x w' => x = .returned (.bool false) ∧ w = w' := by
  have k1 := findI_any h key hkey
  rw [hno] at k1
  simp only [ptrO] at k1
  have K1 := Lib.hid k1
  clear k1
  go_enter Tryd.func32, Tryd.ntmps32
  go_wp2_with fail
  (with_reducible refine K1.out.mono ?_)
  rintro x w1 ⟨rfl, rfl⟩
  go_wp2
  go_ret
  exact ⟨rfl, rfl⟩
set_option maxHeartbeats 4000000 in
theorem peekI_none {w : World} {bl r M : Nat} {n m : Int} {xs : List Lk} (h : BudI w bl r M n m xs) (key : ByteArray) (hkey : key.size ≤ maxLen) (hno : blkOf (kvL xs) key = none) :
    Calls Tryd.prog 31 #[.pointer (some ⟨bl, 0, none⟩), .string key] w fun x w' => x = .returned (.tuple #[zeI.x.val, .bool false]) ∧ Below w.heap.size w w' := by
  obtain ⟨W0, hW0⟩ : ∃ W0, w.alloc (.cells #[.string ⟨#[]⟩, .int .i64 0, .string ⟨#[]⟩, .int .i64 0, .slice none 0 0, .string ⟨#[]⟩, .int .i64 0, .int .i64 0, .slice none 0 0, .int .i64 0] 60) = W0 := ⟨_, rfl⟩
  have b0 : Below w.heap.size w W0 := by rw [← hW0]; exact (Below.refl w.heap.size w).alloc (Nat.le_refl _) _
  have bx : Box10 W0 w.heap.size 60 zeI.x := by rw [← hW0]; exact heap_new w _ _ rfl
  have k1 := findI_any (h.below b0 h.low) key hkey
  rw [hno] at k1
  simp only [ptrO] at k1
  have K1 := Lib.hid k1; have HW := Lib.hid hW0
  obtain ⟨⟨g0, g1, g2, g3, g4, g5, g6, g7, g8, g9⟩, ⟨q0, q1, q2, q3, q4, q5, q6, q7, q8, q9⟩, glt⟩ := bx.ten
  unfold zeI at *
  unfold Hv.val
  simp only at *
  clear k1 h bx hW0
  go_enter Tryd.func31, Tryd.ntmps31
  go_upto_region 1 with (fail)
  rw [HW.out]
  go_wp2_with fail
  (with_reducible refine K1.out.mono ?_)
  rintro x w1 ⟨rfl, rfl⟩
  go_wp2_with fail
  refine bodyPost_ret_by (v := .tuple #[.agg #[.string ⟨#[]⟩, .int .i64 0, .string ⟨#[]⟩, .int .i64 0, .slice none 0 0, .string ⟨#[]⟩, .int .i64 0, .int .i64 0, .slice none 0 0, .int .i64 0], .bool false]) ?_ rfl ?_
  · rw [results_cell_tmp rfl]
    go_simp
  · exact ⟨rfl, setTen_below b0 (Nat.le_refl _) _ _ _ _ _ _ _ _ _ _⟩
set_option maxHeartbeats 4000000 in
theorem peekI_any {w : World} {bl r M : Nat} {n m : Int} {xs : List Lk} (h : BudI w bl r M n m xs) {l : Nat} {e : Ent} (hm : (l, e) ∈ xs) :
    Calls Tryd.prog 31 #[.pointer (some ⟨bl, 0, none⟩), .string e.key] w fun x w' => x = .returned (.tuple #[e.x.val, .bool true]) ∧ Below w.heap.size w w' := by
  have hblk : blkOf (kvL xs) e.key = some l := blk_some h.kn (List.mem_map.2 ⟨(l, e), hm, rfl⟩)
  obtain ⟨W0, hW0⟩ : ∃ W0, w.alloc (.cells #[.string ⟨#[]⟩, .int .i64 0, .string ⟨#[]⟩, .int .i64 0, .slice none 0 0, .string ⟨#[]⟩, .int .i64 0, .int .i64 0, .slice none 0 0, .int .i64 0] 60) = W0 := ⟨_, rfl⟩
  have b0 : Below w.heap.size w W0 := by rw [← hW0]; exact (Below.refl w.heap.size w).alloc (Nat.le_refl _) _
  have bx : Box10 W0 w.heap.size 60 zeI.x := by rw [← hW0]; exact heap_new w _ _ rfl
  have k1 := findI_any (h.below b0 h.low) e.key (h.ks _ hm)
  rw [hblk] at k1
  simp only [ptrO, ptr] at k1
  obtain ⟨va, vf, hlk⟩ := (h.below b0 h.low).ring.2.mem hm
  have K1 := Lib.hid k1; have HW := Lib.hid hW0
  obtain ⟨x0, x1, x2, x3, x4, x5, x6, x7, x8, x9⟩ : HvAt W0 l e.x := hlk.cells.2.2.1
  obtain ⟨⟨g0, g1, g2, g3, g4, g5, g6, g7, g8, g9⟩, ⟨q0, q1, q2, q3, q4, q5, q6, q7, q8, q9⟩, glt⟩ := bx.ten
  unfold zeI at *
  unfold Hv.val
  simp only at *
  clear k1 h bx hW0 hlk
  go_enter Tryd.func31, Tryd.ntmps31
  go_upto_region 1 with (fail)
  rw [HW.out]
  go_wp2_with fail
  (with_reducible refine K1.out.mono ?_)
  rintro x w1 ⟨rfl, rfl⟩
  go_wp2_with fail
  refine bodyPost_ret_by (v := .tuple #[e.x.val, .bool true]) ?_ rfl ?_
  · rw [results_cell_tmp rfl]
    go_simp
    rfl
  · exact ⟨rfl, setTen_below b0 (Nat.le_refl _) _ _ _ _ _ _ _ _ _ _⟩
/-- A link taken out and put at the end. -/
theorem moveI {w w1 w2 : World} {bl r M : Nat} {n m : Int} {p q : List Lk} {l : Nat} {e : Ent} {va vf : Value} (h : BudI w bl r M n m (p ++ (l, e) :: q)) (hbl : w1.heap[bl]? = w.heap[bl]?) (hM : w1.heap[M]? = w.heap[M]?) (hlk : LnkV 89 w1 l e va vf) (hring : Ring 89 zeI w1 r (p ++ q))
    (ht : Touch (bl :: M :: r :: (p ++ (l, e) :: q).map Prod.fst) w w1) (k : Nat) (hw2 : w2 = ((((w1.setCell ⟨l, 12, none⟩ (ptr (lst r (p ++ q)))).setCell ⟨l, 13, none⟩ (ptr r)).setCell ⟨lst r (p ++ q), 13, none⟩ (ptr l)).setCell ⟨r, 12, none⟩ (ptr l)).drewN k) :
    BudI w2 bl r M n m (p ++ q ++ [(l, e)]) ∧ Touch (bl :: M :: r :: (p ++ (l, e) :: q).map Prod.fst) w w2 := by
  have hperm : (p ++ q ++ [(l, e)]).Perm (p ++ (l, e) :: q) := (List.perm_append_singleton _ _).trans List.perm_middle.symm
  have hpf := hperm.map Prod.fst
  have hnd := h.nd
  have hnd0 := hnd
  rw [List.nodup_cons, List.nodup_cons] at hnd0
  obtain ⟨hbn, hMn, hrn⟩ := hnd0
  have hrn2 : (r :: (p ++ q ++ [(l, e)]).map Prod.fst).Nodup := ((hpf.cons r).nodup_iff).2 hrn
  have hrn3 := hrn2
  rw [List.map_append, ← List.cons_append, List.nodup_append] at hrn3
  have hln : l ∉ r :: (p ++ q).map Prod.fst := fun hm => hrn3.2.2 l hm l (by simp) rfl
  have hin : ∀ c, c ∈ r :: (p ++ q).map Prod.fst → c ∈ r :: (p ++ (l, e) :: q).map Prod.fst := fun c hc => (hpf.cons r).mem_iff.1 (by rw [List.map_append, ← List.cons_append]; exact List.mem_append_left _ hc)
  have hlin : l ∈ r :: (p ++ (l, e) :: q).map Prod.fst := List.mem_cons_of_mem _ (List.mem_map.2 ⟨(l, e), by simp, rfl⟩)
  have hlst : lst r (p ++ q) ∈ r :: (p ++ (l, e) :: q).map Prod.fst := hin _ (by
    rcases @lst_mem (p ++ q) r with hm | ⟨_, hm⟩
    · exact List.mem_cons_of_mem _ hm
    · rw [hm]; exact List.mem_cons_self)
  have hno : ∀ c, c ∉ r :: (p ++ (l, e) :: q).map Prod.fst → w2.heap[c]? = w1.heap[c]? := fun c hc => by
    rw [hw2, World.heap_drewN, heap_set_ne _ _ _ _ _ (fun x => hc (by rw [x]; exact List.mem_cons_self)), heap_set_ne _ _ _ _ _ (fun x => hc (by rw [x]; exact hlst)), heap_set_ne _ _ _ _ _ (fun x => hc (by rw [x]; exact hlin)), heap_set_ne _ _ _ _ _ (fun x => hc (by rw [x]; exact hlin))]
  have f2 : ∀ c ∈ r :: (p ++ (l, e) :: q).map Prod.fst, c ∈ bl :: M :: r :: (p ++ (l, e) :: q).map Prod.fst := fun c hc => List.mem_cons_of_mem _ (List.mem_cons_of_mem _ hc)
  refine ⟨⟨?_, ?_, ?_, (((hpf.cons r).cons M).cons bl).nodup_iff.2 hnd, ?_, fun x hx => h.sz x (hperm.mem_iff.1 hx), ?_, fun x hx => h.ks x (hperm.mem_iff.1 hx)⟩, ?_⟩
  · rw [hno bl (fun x => hbn (List.mem_cons_of_mem _ x)), hbl, h.blk]
    have e1 : sumL (p ++ (l, e) :: q) = sumL (p ++ q ++ [(l, e)]) := by
      rw [sumL_app, sumL_app, sumL_app, sumL, sumL, sumL]; omega
    rw [e1]
  · have := hring.last hlk hrn3.1 hln
    rw [hw2]
    exact this.of (fun _ _ => rfl)
  · obtain ⟨es, c, h1, h2, h3⟩ := h.mp
    refine ⟨es, c, by rw [hno M hMn, hM, h1], h2.trans ?_, fun x hx => h3 x ?_⟩
    · exact ((hperm.map fun x : Lk => (x.2.key, x.1)).map _).symm
    · exact (hperm.map fun x : Lk => (x.2.key, x.1)).mem_iff.1 hx
  · exact (((hperm.map _).map _).nodup_iff).2 h.kn
  · rw [hperm.length_eq]; exact h.len
  · rw [hw2]
    exact ((((ht.setCell l 12 _ (f2 _ hlin)).setCell l 13 _ (f2 _ hlin)).setCell _ 13 _ (f2 _ hlst)).setCell r 12 _ (f2 _ List.mem_cons_self)).drewN k
theorem Touch.of_below {fp : List Nat} {w w0 w' : World} (hb : Below w.heap.size w w0) (ht : Touch fp w0 w') : Touch fp w w' :=
  ⟨ht.1.trans hb.os, ht.2.1.trans hb.tape, ht.2.2.1.trans hb.output, Nat.le_trans hb.size ht.2.2.2.1, fun b h1 h2 => (ht.2.2.2.2 b (Nat.lt_of_lt_of_le h1 hb.size) h2).trans (hb.block b h1)⟩
theorem Touch.setTen {fp : List Nat} {w w' : World} (h : Touch fp w w') {g : Nat} (hg : w.heap.size ≤ g) (v0 v1 v2 v3 v4 v5 v6 v7 v8 v9 : Value) : Touch fp w (setTen w' g v0 v1 v2 v3 v4 v5 v6 v7 v8 v9) := by
  have h1 := setTen_below (Below.refl g w') (Nat.le_refl g) v0 v1 v2 v3 v4 v5 v6 v7 v8 v9
  exact ⟨h1.os.trans h.1, h1.tape.trans h.2.1, h1.output.trans h.2.2.1, Nat.le_trans h.2.2.2.1 h1.size, fun b hb hn => (setTen_other (by omega) _ _ _ _ _ _ _ _ _ _).trans (h.2.2.2.2 b hb hn)⟩
set_option maxHeartbeats 4000000 in
theorem getI_any {w : World} {bl r M : Nat} {n m : Int} {p q : List Lk} {l : Nat} {e : Ent} (h : BudI w bl r M n m (p ++ (l, e) :: q)) :
    Calls Tryd.prog 35 #[.pointer (some ⟨bl, 0, none⟩), .string e.key] w fun x w' => x = .returned (.tuple #[e.x.val, .bool true]) ∧ BudI w' bl r M n m (p ++ q ++ [(l, e)]) ∧ Touch (bl :: M :: r :: (p ++ (l, e) :: q).map Prod.fst) w w' := by
  obtain ⟨W0, hW0⟩ : ∃ W0, w.alloc (.cells #[.string ⟨#[]⟩, .int .i64 0, .string ⟨#[]⟩, .int .i64 0, .slice none 0 0, .string ⟨#[]⟩, .int .i64 0, .int .i64 0, .slice none 0 0, .int .i64 0] 60) = W0 := ⟨_, rfl⟩
  have b0 : Below w.heap.size w W0 := by rw [← hW0]; exact (Below.refl w.heap.size w).alloc (Nat.le_refl _) _
  have bx : Box10 W0 w.heap.size 60 zeI.x := by rw [← hW0]; exact heap_new w _ _ rfl
  have hlow0 := h.low
  have h0 := h.below b0 hlow0
  have HW := Lib.hid hW0; have BX := Lib.hid bx; have HB0 := Lib.hid b0; have HLOW := Lib.hid hlow0
  clear h hW0 bx b0 hlow0
  have hkey := h0.ks (l, e) (by simp)
  have hblk : blkOf (kvL (p ++ (l, e) :: q)) e.key = some l := blk_some h0.kn (by simp [kvL])
  have k1 := findI_any h0 e.key hkey
  rw [hblk] at k1
  simp only [ptrO, ptr] at k1
  have K1 := Lib.hid k1
  clear k1
  have hs := h0.ring.2
  rw [seg_app] at hs
  have hl : LnkV 89 W0 l e (ptr (lst r p)) (ptr (hd q r)) := hs.2.1
  clear hs
  obtain ⟨e1, va1, vf1, ha⟩ := h0.ring.at (lst r p) (by
    rcases @lst_mem p r with hm | ⟨_, hm⟩
    · rw [List.map_append]; exact List.mem_cons_of_mem _ (List.mem_append_left _ hm)
    · rw [hm]; exact List.mem_cons_self)
  obtain ⟨e2, va2, vf2, hz⟩ := h0.ring.at (hd q r) (by
    rcases @hd_mem q r with hm | ⟨_, hm⟩
    · rw [List.map_append, List.map_cons]; exact List.mem_cons_of_mem _ (List.mem_append_right _ (List.mem_cons_of_mem _ hm))
    · rw [hm]; exact List.mem_cons_self)
  have k2 := outI_any l (lst r p) (hd q r) W0 hl.cells.2.2.2.1 hl.cells.2.2.2.2.1 ⟨_, ha.cells.2.2.2.2.1⟩ ⟨_, hz.cells.2.2.2.1⟩ (ha.cells.2.2.2.2.2.1 13) (hz.cells.2.2.2.2.2.1 12)
  have K2 := Lib.hid k2
  clear k2
  have HH := Lib.hid h0
  clear h0 hl ha hz
  go_enter Tryd.func35, Tryd.ntmps35
  go_upto_region 1 with (fail)
  rw [HW.out]
  go_wp2_with fail
  (with_reducible refine K1.out.mono ?_)
  rintro x w1 ⟨rfl, rfl⟩
  go_wp2_with fail
  (with_reducible refine K2.out.mono ?_)
  rintro x w1 ⟨⟨v, rfl⟩, k, rfl⟩
  obtain ⟨w1, hw1, hbl, hMM, ⟨va, vf, hl⟩, hring, htc⟩ := dropI_mem HH.out k
  rw [← hw1]
  clear hw1
  have k3 : ∀ c, c ∈ r :: (p ++ q).map Prod.fst → c ≠ l := fun c hc x => by
    have hperm : (p ++ (l, e) :: q).Perm ((l, e) :: (p ++ q)) := List.perm_middle
    have := HH.out.nd
    rw [List.nodup_cons, List.nodup_cons] at this
    have h2 := (((hperm.map Prod.fst).cons r).nodup_iff).1 this.2.2
    rw [List.map_cons, List.nodup_cons, List.nodup_cons] at h2
    subst x
    rcases List.mem_cons.1 hc with rfl | hc
    · exact h2.1 (by simp)
    · exact h2.2.1 hc
  have hlst : lst r (p ++ q) ∈ r :: (p ++ q).map Prod.fst := by
    rcases @lst_mem (p ++ q) r with hm | ⟨_, hm⟩
    · exact List.mem_cons_of_mem _ hm
    · rw [hm]; exact List.mem_cons_self
  have hbln : bl ≠ l := fun x => by
    have := HH.out.nd
    rw [List.nodup_cons] at this
    exact this.1 (by rw [x]; simp)
  have c4 : w1.cell? ⟨bl, 4, none⟩ = some (ptr r) := by simp [World.cell?, hbl, HH.out.blk]
  obtain ⟨e3, va3, vf3, h3⟩ := hring.at _ hlst
  have k4 := lastI_any bl r l (lst r (p ++ q)) w1 c4 hring.1.cells.2.2.2.1 ⟨_, hl.cells.2.2.2.1⟩ ⟨_, hl.cells.2.2.2.2.1⟩ ⟨_, h3.cells.2.2.2.2.1⟩ (hl.cells.2.2.2.2.2.1 12) (hl.cells.2.2.2.2.2.1 13) (h3.cells.2.2.2.2.2.1 13) (hring.1.cells.2.2.2.2.2.1 12) hbln (k3 r List.mem_cons_self) (k3 _ hlst)
  have K4 := Lib.hid k4
  clear k4 c4 h3
  have H1 := Lib.hid (And.intro hbl (And.intro hMM (And.intro hl (And.intro hring htc))))
  clear hbl hMM hl hring htc
  go_wp2_with fail
  (with_reducible refine K4.out.mono ?_)
  rintro x w2 ⟨⟨v2, rfl⟩, k5, hw2⟩
  have fin := moveI HH.out H1.out.1 H1.out.2.1 H1.out.2.2.1 H1.out.2.2.2.1 H1.out.2.2.2.2 k5 hw2
  clear hw2
  have c2 : HvAt w2 l e.x := by
    obtain ⟨va, vf, hk⟩ := fin.1.ring.2.mem (l := l) (e := e) (by simp)
    exact hk.cells.2.2.1
  obtain ⟨x0, x1, x2, x3, x4, x5, x6, x7, x8, x9⟩ := c2
  have hnf : ∀ b ∈ bl :: M :: r :: (p ++ q ++ [(l, e)]).map Prod.fst, b ≠ w.heap.size := fun b hb => by
    have hb2 : b ∈ bl :: M :: r :: (p ++ (l, e) :: q).map Prod.fst := by
      simp only [List.map_append, List.map_cons, List.map_nil, List.mem_cons, List.mem_append, List.not_mem_nil, or_false] at hb ⊢
      rcases hb with h | h | h | (h | h) | h <;> simp [h]
    have := HLOW.out b hb2; omega
  have hx2 : Box10 w2 w.heap.size 60 zeI.x := BX.out.of (fin.2.2.2.2.2 _ BX.out.lt (fun hm => by have := HLOW.out _ hm; omega))
  obtain ⟨⟨g0, g1, g2, g3, g4, g5, g6, g7, g8, g9⟩, ⟨q0, q1, q2, q3, q4, q5, q6, q7, q8, q9⟩, glt⟩ := hx2.ten
  unfold zeI at g0 g1 g2 g3 g4 g5 g6 g7 g8 g9
  simp only at g0 g1 g2 g3 g4 g5 g6 g7 g8 g9
  have HF := Lib.hid fin; have HNF := Lib.hid hnf
  clear fin hnf hx2
  go_wp2_with fail
  refine bodyPost_ret_by (v := .tuple #[e.x.val, .bool true]) ?_ rfl ?_
  · rw [results_cell_tmp rfl]
    go_simp
    rfl
  · exact ⟨rfl, HF.out.1.of (fun b hb => setTen_other (HNF.out b hb) _ _ _ _ _ _ _ _ _ _), (Touch.of_below HB0.out HF.out.2).setTen (Nat.le_refl _) _ _ _ _ _ _ _ _ _ _⟩
set_option maxHeartbeats 4000000 in
theorem getI_none {w : World} {bl r M : Nat} {n m : Int} {xs : List Lk} (h : BudI w bl r M n m xs) (key : ByteArray) (hkey : key.size ≤ maxLen) (hno : blkOf (kvL xs) key = none) :
    Calls Tryd.prog 35 #[.pointer (some ⟨bl, 0, none⟩), .string key] w fun x w' => x = .returned (.tuple #[zeI.x.val, .bool false]) ∧ Below w.heap.size w w' := by
  obtain ⟨W0, hW0⟩ : ∃ W0, w.alloc (.cells #[.string ⟨#[]⟩, .int .i64 0, .string ⟨#[]⟩, .int .i64 0, .slice none 0 0, .string ⟨#[]⟩, .int .i64 0, .int .i64 0, .slice none 0 0, .int .i64 0] 60) = W0 := ⟨_, rfl⟩
  have b0 : Below w.heap.size w W0 := by rw [← hW0]; exact (Below.refl w.heap.size w).alloc (Nat.le_refl _) _
  have bx : Box10 W0 w.heap.size 60 zeI.x := by rw [← hW0]; exact heap_new w _ _ rfl
  have k1 := findI_any (h.below b0 h.low) key hkey
  rw [hno] at k1
  simp only [ptrO] at k1
  have K1 := Lib.hid k1; have HW := Lib.hid hW0
  obtain ⟨⟨g0, g1, g2, g3, g4, g5, g6, g7, g8, g9⟩, ⟨q0, q1, q2, q3, q4, q5, q6, q7, q8, q9⟩, glt⟩ := bx.ten
  unfold zeI at *
  unfold Hv.val
  simp only at *
  clear k1 h bx hW0
  go_enter Tryd.func35, Tryd.ntmps35
  go_upto_region 1 with (fail)
  rw [HW.out]
  go_wp2_with fail
  (with_reducible refine K1.out.mono ?_)
  rintro x w1 ⟨rfl, rfl⟩
  go_wp2_with fail
  refine bodyPost_ret_by (v := .tuple #[.agg #[.string ⟨#[]⟩, .int .i64 0, .string ⟨#[]⟩, .int .i64 0, .slice none 0 0, .string ⟨#[]⟩, .int .i64 0, .int .i64 0, .slice none 0 0, .int .i64 0], .bool false]) ?_ rfl ?_
  · rw [results_cell_tmp rfl]
    go_simp
  · exact ⟨rfl, setTen_below b0 (Nat.le_refl _) _ _ _ _ _ _ _ _ _ _⟩
set_option maxHeartbeats 2000000 in
theorem lenI_any {w : World} {bl r M : Nat} {n m : Int} {xs : List Lk} (h : BudI w bl r M n m xs) :
    Calls Tryd.prog 38 #[.pointer (some ⟨bl, 0, none⟩)] w fun x w' => x = .returned (goInt xs.length) ∧ w = w' := by
  have c3 : w.cell? ⟨bl, 3, none⟩ = some (.map (some M)) := by simp [World.cell?, h.blk]
  have hl : (Builtin.len_ #[90] 3 #[.map (some M)]).run Tryd.prog w = .ok (goInt (kvL xs).length) w := mv_len Tryd.underlying90 h.mp _
  have e1 : (kvL xs).length = xs.length := by simp [kvL]
  rw [e1] at hl
  clear e1
  have k1 := isI_any h
  have K1 := Lib.hid k1
  clear k1
  go_enter Tryd.func38, Tryd.ntmps38
  go_wp2_with fail
  (with_reducible refine K1.out.mono ?_)
  rintro x w1 ⟨rfl, rfl⟩
  go_wp2
  go_ret
  exact ⟨rfl, rfl⟩
set_option maxHeartbeats 2000000 in
theorem bytesI_any {w : World} {bl r M : Nat} {n m : Int} {xs : List Lk} (h : BudI w bl r M n m xs) :
    Calls Tryd.prog 39 #[.pointer (some ⟨bl, 0, none⟩)] w fun x w' => x = .returned (.int .i64 (sumL xs)) ∧ w = w' := by
  have c2 : w.cell? ⟨bl, 2, none⟩ = some (.int .i64 (sumL xs)) := by simp [World.cell?, h.blk]
  have k1 := isI_any h
  have K1 := Lib.hid k1
  clear k1
  go_enter Tryd.func39, Tryd.ntmps39
  go_wp2_with fail
  (with_reducible refine K1.out.mono ?_)
  rintro x w1 ⟨rfl, rfl⟩
  go_wp2
  go_ret
  exact ⟨rfl, rfl⟩
end Go.Proofs.YtokhlmoanlcjmaaDoor
/- Budgets: what is kept and what goes, in plain lists; no walk in sight. -/
namespace Go.Proofs.YtokhlmoanlcjmaaDoor
open Go.RowKit

def keyIs (k : ByteArray) (e : Ent) : Bool := e.key.data.toList == k.data.toList
theorem keyIs_iff {k : ByteArray} {e : Ent} : keyIs k e = true ↔ e.key = k := by
  unfold keyIs
  constructor
  · intro h; exact str_eq _ _ (by simpa using h)
  · rintro rfl; simp
theorem keyIs_false {k : ByteArray} {e : Ent} : keyIs k e = false ↔ e.key ≠ k := by
  rw [← Bool.not_eq_true, keyIs_iff]
def delE (k : ByteArray) (es : List Ent) : List Ent := es.filter fun e => !keyIs k e
def findE (k : ByteArray) (es : List Ent) : Option Ent := es.find? (keyIs k)
def hasE (k : ByteArray) (es : List Ent) : Bool := (findE k es).isSome
def getE (k : ByteArray) (es : List Ent) : List Ent := match findE k es with
  | none => es
  | some e => delE k es ++ [e]
def sumE : List Ent → Int
  | [] => 0
  | e :: t => e.size + sumE t
def overE (n m : Int) (es : List Ent) : Bool := decide (n < (es.length : Int)) || decide (m < sumE es)
def evE (n m : Int) : List Ent → List ByteArray × List Ent
  | [] => ([], [])
  | e :: t => if overE n m (e :: t) then (e.key :: (evE n m t).1, (evE n m t).2) else ([], e :: t)
def putE (n m : Int) (k : ByteArray) (s : Int) (x : Hv) (es : List Ent) : List ByteArray × List Ent :=
  if m < s then (if hasE k es then [k] else [], delE k es) else evE n m (delE k es ++ [⟨k, max 0 s, x⟩])
theorem sumE_app : ∀ (p q : List Ent), sumE (p ++ q) = sumE p + sumE q
  | [], q => by simp [sumE]
  | e :: t, q => by rw [List.cons_append, sumE, sumE, sumE_app t q]; omega
theorem sumL_map : ∀ (xs : List Lk), sumL xs = sumE (xs.map Prod.snd)
  | [] => rfl
  | (b, e) :: t => by rw [sumL, List.map_cons, sumE, sumL_map t]
/-- A key is there once, or nowhere. -/
theorem split_key (k : ByteArray) : ∀ (es : List Ent), (es.map (·.key)).Nodup → (findE k es = none ∧ delE k es = es ∧ ∀ e ∈ es, e.key ≠ k) ∨ ∃ p e q, es = p ++ e :: q ∧ e.key = k ∧ findE k es = some e ∧ delE k es = p ++ q
  | [], _ => Or.inl ⟨rfl, rfl, by simp⟩
  | x :: t, h => by
    rw [List.map_cons, List.nodup_cons] at h
    by_cases hx : x.key = k
    · right
      refine ⟨[], x, t, rfl, hx, ?_, ?_⟩
      · unfold findE; rw [List.find?_cons, keyIs_iff.2 hx]
      · unfold delE
        rw [List.filter_cons, keyIs_iff.2 hx]
        simp only [Bool.not_true, Bool.false_eq_true, if_false, List.nil_append]
        rw [List.filter_eq_self]
        intro e he
        have : e.key ≠ k := fun e2 => h.1 (List.mem_map.2 ⟨e, he, by rw [e2, hx]⟩)
        rw [keyIs_false.2 this]; rfl
    · have hx2 := keyIs_false.2 hx
      rcases split_key k t h.2 with ⟨h1, h2, h3⟩ | ⟨p, e, q, h1, h2, h3, h4⟩
      · left
        refine ⟨?_, ?_, ?_⟩
        · unfold findE at *; rw [List.find?_cons, hx2]; exact h1
        · unfold delE at *; rw [List.filter_cons, hx2]; simp [h2]
        · intro e he
          rcases List.mem_cons.1 he with rfl | he
          · exact hx
          · exact h3 e he
      · right
        refine ⟨x :: p, e, q, by rw [h1]; rfl, h2, ?_, ?_⟩
        · unfold findE at *; rw [List.find?_cons, hx2]; exact h3
        · unfold delE at *; rw [List.filter_cons, hx2]; simp [h4]
/-- The same of the links. -/
theorem split_keyL (k : ByteArray) : ∀ (xs : List Lk), ((kvL xs).map Prod.fst).Nodup → (findE k (xs.map Prod.snd) = none ∧ delE k (xs.map Prod.snd) = xs.map Prod.snd ∧ blkOf (kvL xs) k = none ∧ ∀ p ∈ xs, p.2.key ≠ k) ∨
    ∃ p l e q, xs = p ++ (l, e) :: q ∧ e.key = k ∧ findE k (xs.map Prod.snd) = some e ∧ delE k (xs.map Prod.snd) = (p ++ q).map Prod.snd ∧ ∀ x ∈ p ++ q, x.2.key ≠ k := by
  intro xs hnd
  have hk : (kvL xs).map Prod.fst = (xs.map Prod.snd).map (·.key) := by simp [kvL]
  rw [hk] at hnd
  rcases split_key k (xs.map Prod.snd) hnd with ⟨h1, h2, h3⟩ | ⟨p, e, q, h1, h2, h3, h4⟩
  · left
    refine ⟨h1, h2, blk_none (fun x hx => ?_), fun x hx => h3 _ (List.mem_map.2 ⟨x, hx, rfl⟩)⟩
    unfold kvL at hx
    obtain ⟨y, hy, rfl⟩ := List.mem_map.1 hx
    exact h3 _ (List.mem_map.2 ⟨y, hy, rfl⟩)
  · right
    obtain ⟨p', r', rfl, rfl, h5⟩ := List.map_eq_append_iff.1 h1
    obtain ⟨⟨l, e'⟩, q', rfl, rfl, rfl⟩ := List.map_eq_cons_iff.1 h5
    refine ⟨p', l, e', q', rfl, h2, h3, by rw [h4, List.map_append], fun x hx e2 => ?_⟩
    rw [List.map_append, List.map_cons, List.map_append, List.map_cons] at hnd
    have hp := (List.perm_middle (a := e'.key) (l₁ := (p'.map Prod.snd).map (·.key)) (l₂ := (q'.map Prod.snd).map (·.key))).nodup_iff.1 hnd
    rw [List.nodup_cons] at hp
    refine hp.1 ?_
    rw [h2, ← e2, ← List.map_append, ← List.map_append]
    exact List.mem_map.2 ⟨x.2, List.mem_map.2 ⟨x, hx, rfl⟩, rfl⟩
theorem evE_len (n m : Int) : ∀ (es : List Ent), (evE n m es).1.length ≤ es.length ∧ (evE n m es).2.length ≤ es.length
  | [] => ⟨Nat.le_refl _, Nat.le_refl _⟩
  | e :: t => by
    have ih := evE_len n m t
    rw [evE]
    split
    · simp only [List.length_cons]; omega
    · simp
theorem evE_end {n m : Int} (hn : 1 ≤ n) (hm : 1 ≤ m) : ∀ (es : List Ent), ((evE n m es).2.length : Int) ≤ n ∧ sumE (evE n m es).2 ≤ m
  | [] => by rw [evE]; simp only [List.length_nil, sumE]; omega
  | e :: t => by
    have ih := evE_end hn hm t
    rw [evE]
    split
    · exact ih
    · rename_i h
      unfold overE at h
      simp at h
      simp only [List.length_cons]
      exact ⟨by omega, h.2⟩
theorem Touch.mono {fp fp' : List Nat} {w w' : World} (h : Touch fp w w') (hs : ∀ b ∈ fp, b ∈ fp' ∨ w.heap.size ≤ b) : Touch fp' w w' :=
  ⟨h.1, h.2.1, h.2.2.1, h.2.2.2.1, fun b hb hn => h.2.2.2.2 b hb (fun x => by
    rcases hs b x with h' | h'
    · exact hn h'
    · omega)⟩
theorem Touch.trans {fp fp' : List Nat} {w w1 w' : World} (h : Touch fp w w1) (h2 : Touch fp' w1 w') (hs : ∀ b ∈ fp', b ∈ fp ∨ w.heap.size ≤ b) : Touch fp w w' :=
  ⟨h2.1.trans h.1, h2.2.1.trans h.2.1, h2.2.2.1.trans h.2.2.1, Nat.le_trans h.2.2.2.1 h2.2.2.2.1, fun b hb hn => (h2.2.2.2.2 b (Nat.lt_of_lt_of_le hb h.2.2.2.1) (fun x => by
    rcases hs b x with h' | h'
    · exact hn h'
    · omega)).trans (h.2.2.2.2 b hb hn)⟩
theorem Touch.below {fp : List Nat} {w w' : World} {B : Nat} (h : Touch fp w w') (hs : ∀ b ∈ fp, B ≤ b) (hB : B ≤ w.heap.size) : Below B w w' :=
  ⟨h.1, h.2.1, h.2.2.1, h.2.2.2.1, fun b hb => h.2.2.2.2 b (by omega) (fun x => by have := hs b x; omega)⟩
theorem Touch.ofBelow {fp : List Nat} {w w' : World} {B : Nat} (h : Below B w w') (hs : ∀ b, B ≤ b → b < w.heap.size → b ∈ fp) : Touch fp w w' :=
  ⟨h.os, h.tape, h.output, h.size, fun b hb hn => h.block b (by
    rcases Nat.lt_or_ge b B with h' | h'
    · exact h'
    · exact absurd (hs b h' hb) hn)⟩
theorem Touch.kept {w w' : World} (h : Below w.heap.size w w') (fp : List Nat) : Touch fp w w' := Touch.ofBelow h (fun b h1 h2 => absurd h2 (by omega))

section
variable {P : Program} {w : World} {tp te : TypeId} {n : Nat}
theorem neq_ptr_same (hp : P.underlying tp = some (.pointer te)) (hte : (P.info? te).map (·.size) = some (n + 1)) (a : Nat) : (binOp .neq tp (.pointer (some ⟨a, 0, none⟩)) (.pointer (some ⟨a, 0, none⟩))).run P w = .ok (.bool false) w := by
  obtain ⟨j, hj, _⟩ := Option.map_eq_some_iff.1 hte
  have h : ∀ d : Nat, (Op.equalIn (d + 1) tp (.pointer (some ⟨a, 0, none⟩)) (.pointer (some ⟨a, 0, none⟩))).run P w = .ok true w := fun d => by
    simp [Op.equalIn, run_underlying hp, typeInfo, sizeOf, run_sameAddr_same, hj]
  simp only [binOp]
  simp [Op.equal, Op.maxDepth, h 9999]
theorem neq_ptr_other (hp : P.underlying tp = some (.pointer te)) (hte : (P.info? te).map (·.size) = some (n + 1)) {a b : Nat} {ca cb : Array Value} {ta tb : TypeId} (hne : a ≠ b) (ha : w.heap[a]? = some (.cells ca ta (0, 0))) (hb : w.heap[b]? = some (.cells cb tb (0, 0))) :
    (binOp .neq tp (.pointer (some ⟨a, 0, none⟩)) (.pointer (some ⟨b, 0, none⟩))).run P w = .ok (.bool true) w := by
  obtain ⟨j, hj, hs⟩ := Option.map_eq_some_iff.1 hte
  have hne2 : (⟨a, 0, none⟩ : Addr) ≠ ⟨b, 0, none⟩ := fun e => by cases e; exact hne rfl
  have h : ∀ d : Nat, (Op.equalIn (d + 1) tp (.pointer (some ⟨a, 0, none⟩)) (.pointer (some ⟨b, 0, none⟩))).run P w = .ok false w := fun d => by
    simp [Op.equalIn, run_underlying hp, typeInfo, sizeOf, run_sameAddr_other w hne2 ha hb, hj, hs]
  simp only [binOp]
  simp [Op.equal, Op.maxDepth, h 9999]
end
theorem Touch.alloc {fp : List Nat} {w w' : World} (h : Touch fp w w') (o : Obj) : Touch fp w (w'.alloc o) :=
  ⟨h.1, h.2.1, h.2.2.1, by have := h.2.2.2.1; simp only [World.alloc, Array.size_push]; omega, fun b hb hn => (Below.heap_alloc _ _ _ (Nat.lt_of_lt_of_le hb h.2.2.2.1)).trans (h.2.2.2.2 b hb hn)⟩
def strs (ks : List ByteArray) : List (List UInt8) := ks.map fun k => k.data.toList
theorem str_back (k : ByteArray) : (⟨k.data.toList.toArray⟩ : ByteArray) = k := by cases k; simp
theorem sumL_nn {xs : List Lk} (h : ∀ p ∈ xs, 0 ≤ p.2.size ∧ p.2.size ≤ 1073741824) (hl : xs.length ≤ 5000) : 0 ≤ sumL xs ∧ sumL xs ≤ 5368709120000 := by
  have := sumL_le xs h
  omega
theorem OwnS.touch {B : Nat} {v : Value} {ls : List (List UInt8)} {w w' : World} {fp : List Nat} (h : OwnS B v ls w) (ht : Touch fp w w') (hfp : ∀ b ∈ fp, b < B ∨ w.heap.size ≤ b) : OwnS B v ls w' := by
  obtain ⟨h1, h2⟩ := h
  refine ⟨h1, ?_⟩
  rcases h2 with h2 | ⟨g, cap, cur, hv, hg, hh, r⟩
  · exact Or.inl h2
  · refine Or.inr ⟨g, cap, cur, hv, hg, ?_, r⟩
    have hlt : g < w.heap.size := by
      rcases Nat.lt_or_ge g w.heap.size with h' | h'
      · exact h'
      · simp [Array.getElem?_eq_none h'] at hh
    rw [ht.2.2.2.2 g hlt (fun x => by rcases hfp g x with h | h <;> omega)]; exact hh
theorem OwnS.lt' {B : Nat} {v : Value} {ls : List (List UInt8)} {w : World} (h : OwnS B v ls w) (g : Nat) (hg : v.ownBlock = some g) : B ≤ g := by
  rcases h.2 with ⟨rfl, _⟩ | ⟨g', cap, cur, rfl, h1, _⟩
  · cases hg
  · cases hg; exact h1
theorem Touch.belowR {fp : List Nat} {w w1 w' : World} (h : Touch fp w w1) (hb : Below w.heap.size w1 w') : Touch fp w w' :=
  ⟨hb.os.trans h.1, hb.tape.trans h.2.1, hb.output.trans h.2.2.1, Nat.le_trans h.2.2.2.1 hb.size, fun b h1 h2 => (hb.block b h1).trans (h.2.2.2.2 b h1 h2)⟩
def rowLen : Value → Nat
  | .slice _ n _ => n
  | _ => 0
theorem alloc_sz (w : World) (o : Obj) : (w.alloc o).heap.size = w.heap.size + 1 := by simp only [World.alloc, Array.size_push]
def keysL (xs : List Lk) : List ByteArray := xs.map fun p => p.2.key
theorem sumE_sub {es' es : List Ent} (h : es'.Sublist es) : (∀ e ∈ es, 0 ≤ e.size) → sumE es' ≤ sumE es := by
  induction h with
  | slnil => intro _; exact Int.le_refl _
  | cons a h ih =>
    intro hs
    have h1 := ih (fun e he => hs e (List.mem_cons_of_mem _ he))
    have h2 := hs a List.mem_cons_self
    rw [sumE]; omega
  | cons_cons a h ih =>
    intro hs
    have h1 := ih (fun e he => hs e (List.mem_cons_of_mem _ he))
    rw [sumE, sumE]; omega
def valE (z : Hv) (k : ByteArray) (es : List Ent) : Hv := match findE k es with
  | some e => e.x
  | none => z
end Go.Proofs.YtokhlmoanlcjmaaDoor
/- Put and Keys of budget.Budget (printed by wip/tools/budh.py). -/
namespace Go.Proofs.YtokhlmoanlcjmaaDoor
open Go.RowKit
open Go.ChangeMaps (setBlock)
set_option maxRecDepth 100000

/-- The link made, the map's entry put, the sum turned. -/
theorem putI_mem {w w2 w3 : World} {bl r M : Nat} {n m : Int} {xs : List Lk} (h : BudI w bl r M n m xs) (e : Ent) (s' : Int) {va vf : Value} {o : _} (k : Nat)
    (hw2 : w2 = setBlock (w.alloc (.cells #[.string e.key, .int .i64 e.size, .string e.x.key, .int .i64 e.x.st, .string e.x.re, .int .i64 e.x.mi, .slice e.x.fA e.x.fn e.x.fc, .string e.x.bo, .int .i64 e.x.asked, .int .i64 e.x.got, .slice e.x.vA e.x.vn e.x.vc, .int .i64 e.x.num, va, vf] 89 (0, 0))) M o) (hm : MapV w2 M (kvL xs ++ [(e.key, w.heap.size)]))
    (hw3 : w3 = (w2.setCell ⟨bl, 2, none⟩ (.int .i64 s')).drewN k) :
    w3.heap[bl]? = some (.cells #[.int .i64 n, .int .i64 m, .int .i64 s', .map (some M), ptr r] 92 (0, 0)) ∧ MapV w3 M (kvL (xs ++ [(w.heap.size, e)])) ∧ LnkV 89 w3 w.heap.size e va vf ∧ Ring 89 zeI w3 r xs ∧ Touch (bl :: M :: r :: xs.map Prod.fst) w w3 := by
  have hlow := h.low
  have hnd := h.nd
  rw [List.nodup_cons, List.nodup_cons] at hnd
  obtain ⟨hbn, hMn, hrn⟩ := hnd
  obtain ⟨es, cl, hM0, _⟩ := h.mp
  have hM : (w.alloc (.cells #[.string e.key, .int .i64 e.size, .string e.x.key, .int .i64 e.x.st, .string e.x.re, .int .i64 e.x.mi, .slice e.x.fA e.x.fn e.x.fc, .string e.x.bo, .int .i64 e.x.asked, .int .i64 e.x.got, .slice e.x.vA e.x.vn e.x.vc, .int .i64 e.x.num, va, vf] 89 (0, 0))).heap[M]? = some (.map es cl) := (Below.heap_alloc _ _ _ (hlow M (by simp))).trans hM0
  have hoth : ∀ b, b ≠ M → w2.heap[b]? = (w.alloc (.cells #[.string e.key, .int .i64 e.size, .string e.x.key, .int .i64 e.x.st, .string e.x.re, .int .i64 e.x.mi, .slice e.x.fA e.x.fn e.x.fc, .string e.x.bo, .int .i64 e.x.asked, .int .i64 e.x.got, .slice e.x.vA e.x.vn e.x.vc, .int .i64 e.x.num, va, vf] 89 (0, 0))).heap[b]? := fun b hne => by rw [hw2]; exact Go.ChangeMaps.heap_setBlock_other hM _ hne
  have hbl2 : w2.heap[bl]? = w.heap[bl]? := (hoth bl (fun x => hbn (by rw [x]; simp))).trans (Below.heap_alloc _ _ _ (hlow bl (by simp)))
  have h3 : ∀ b, b ≠ bl → w3.heap[b]? = w2.heap[b]? := fun b hne => by rw [hw3, World.heap_drewN, heap_set_ne _ _ _ _ _ hne]
  refine ⟨?_, ?_, ?_, ?_, ?_⟩
  · rw [hw3, World.heap_drewN]
    have := hbl2.trans h.blk
    simp [World.setCell, Array.getElem?_modify, this]
  · have e1 : kvL (xs ++ [(w.heap.size, e)]) = kvL xs ++ [(e.key, w.heap.size)] := by simp [kvL]
    rw [e1]
    exact hm.of (h3 M (fun x => hbn (by rw [← x]; simp)))
  · have hlb : w.heap.size ≠ bl := fun x => by have := hlow bl (by simp); omega
    have hlM : w.heap.size ≠ M := fun x => by have := hlow M (by simp); omega
    unfold LnkV
    rw [h3 _ hlb, hoth _ hlM]
    exact heap_alloc_last w _
  · refine h.ring.of (fun b hb => ?_)
    rw [h3 b (fun x => hbn (by rw [← x]; exact List.mem_cons_of_mem _ hb)), hoth b (fun x => hMn (by rw [← x]; exact hb))]
    exact Below.heap_alloc _ _ _ (hlow b (List.mem_cons_of_mem _ (List.mem_cons_of_mem _ hb)))
  · have t1 : Touch (bl :: M :: r :: xs.map Prod.fst) w w2 := by
      have t0 := (Touch.refl (bl :: M :: r :: xs.map Prod.fst) w).alloc (.cells #[.string e.key, .int .i64 e.size, .string e.x.key, .int .i64 e.x.st, .string e.x.re, .int .i64 e.x.mi, .slice e.x.fA e.x.fn e.x.fc, .string e.x.bo, .int .i64 e.x.asked, .int .i64 e.x.got, .slice e.x.vA e.x.vn e.x.vc, .int .i64 e.x.num, va, vf] 89 (0, 0))
      refine ⟨by rw [hw2]; exact t0.1, by rw [hw2]; exact t0.2.1, by rw [hw2]; exact t0.2.2.1, ?_, fun b h1 h2 => (hoth b (fun x => h2 (by rw [x]; simp))).trans (t0.2.2.2.2 b h1 h2)⟩
      rw [hw2]
      exact Nat.le_trans t0.2.2.2.1 (by simp [setBlock])
    rw [hw3]
    exact (t1.setCell bl 2 _ (by simp)).drewN k
theorem putI_last {w w3 w4 : World} {bl r M : Nat} {n m : Int} {xs : List Lk} {e : Ent} {va vf : Value} (h : BudI w bl r M n m xs) (hno : ∀ p ∈ xs, p.2.key ≠ e.key) (hkey : e.key.size ≤ maxLen) (hsz : 0 ≤ e.size ∧ e.size ≤ 1073741824) (hlen : xs.length < 5000)
    (hb : w3.heap[bl]? = some (.cells #[.int .i64 n, .int .i64 m, .int .i64 (sumL xs + e.size), .map (some M), ptr r] 92 (0, 0))) (hm : MapV w3 M (kvL (xs ++ [(w.heap.size, e)]))) (hl : LnkV 89 w3 w.heap.size e va vf) (hring : Ring 89 zeI w3 r xs)
    (ht : Touch (bl :: M :: r :: xs.map Prod.fst) w w3) (k : Nat) (hw4 : w4 = ((((w3.setCell ⟨w.heap.size, 12, none⟩ (ptr (lst r xs))).setCell ⟨w.heap.size, 13, none⟩ (ptr r)).setCell ⟨lst r xs, 13, none⟩ (ptr w.heap.size)).setCell ⟨r, 12, none⟩ (ptr w.heap.size)).drewN k) :
    BudI w4 bl r M n m (xs ++ [(w.heap.size, e)]) ∧ Touch (bl :: M :: r :: xs.map Prod.fst) w w4 := by
  have hlow := h.low
  have hnd := h.nd
  have hnd0 := hnd
  rw [List.nodup_cons, List.nodup_cons] at hnd0
  obtain ⟨hbn, hMn, hrn⟩ := hnd0
  have hlx : w.heap.size ∉ bl :: M :: r :: xs.map Prod.fst := fun x => Nat.lt_irrefl _ (hlow _ x)
  have hln : w.heap.size ∉ r :: xs.map Prod.fst := fun x => hlx (List.mem_cons_of_mem _ (List.mem_cons_of_mem _ x))
  have hlst : lst r xs ∈ r :: xs.map Prod.fst := by
    rcases @lst_mem xs r with hm | ⟨_, hm⟩
    · exact List.mem_cons_of_mem _ hm
    · rw [hm]; exact List.mem_cons_self
  have hno2 : ∀ c, c ∉ r :: xs.map Prod.fst → c ≠ w.heap.size → w4.heap[c]? = w3.heap[c]? := fun c hc hne => by
    rw [hw4, World.heap_drewN, heap_set_ne _ _ _ _ _ (fun x => hc (by rw [x]; exact List.mem_cons_self)), heap_set_ne _ _ _ _ _ (fun x => hc (by rw [x]; exact hlst)), heap_set_ne _ _ _ _ _ hne, heap_set_ne _ _ _ _ _ hne]
  have hbl : bl ≠ w.heap.size := fun x => hlx (by rw [← x]; simp)
  have hMl : M ≠ w.heap.size := fun x => hlx (by rw [← x]; simp)
  refine ⟨⟨?_, ?_, hm.of (hno2 M hMn hMl), ?_, ?_, ?_, by rw [List.length_append]; exact hlen, ?_⟩, ?_⟩
  · rw [hno2 bl (fun x => hbn (List.mem_cons_of_mem _ x)) hbl, hb]
    have e1 : sumL xs + e.size = sumL (xs ++ [(w.heap.size, e)]) := by rw [sumL_app, sumL, sumL]; omega
    rw [e1]
  · rw [hw4]
    exact (hring.last hl hrn hln).of (fun _ _ => rfl)
  · have e1 : bl :: M :: r :: (xs ++ [(w.heap.size, e)]).map Prod.fst = (bl :: M :: r :: xs.map Prod.fst) ++ [w.heap.size] := by simp
    rw [e1, List.nodup_append]
    exact ⟨hnd, by simp, fun a ha b hb' x => hlx (by rw [List.mem_singleton.1 hb'] at x; rw [← x]; exact ha)⟩
  · have e1 : (kvL (xs ++ [(w.heap.size, e)])).map Prod.fst = (kvL xs).map Prod.fst ++ [e.key] := by simp [kvL]
    rw [e1, List.nodup_append]
    refine ⟨h.kn, by simp, fun a ha b hb' x => ?_⟩
    rw [List.mem_singleton.1 hb'] at x
    obtain ⟨q, hq, rfl⟩ := List.mem_map.1 ha
    obtain ⟨p, hp, rfl⟩ := List.mem_map.1 hq
    exact hno p hp x
  · intro p hp
    rcases List.mem_append.1 hp with h' | h'
    · exact h.sz p h'
    · rw [List.mem_singleton.1 h']; exact hsz
  · intro p hp
    rcases List.mem_append.1 hp with h' | h'
    · exact h.ks p h'
    · rw [List.mem_singleton.1 h']; exact hkey
  · refine ⟨?_, ?_, ?_, ?_, fun b h1 h2 => ?_⟩
    · rw [hw4]; exact ht.1
    · rw [hw4]; exact ht.2.1
    · rw [hw4]; exact ht.2.2.1
    · rw [hw4]; simpa using ht.2.2.2.1
    · rw [hno2 b (fun x => h2 (List.mem_cons_of_mem _ (List.mem_cons_of_mem _ x))) (by omega)]
      exact ht.2.2.2.2 b h1 h2

/-- Drop, whatever the key. -/
theorem dropI_all {w : World} {bl r M : Nat} {n m : Int} {xs : List Lk} (h : BudI w bl r M n m xs) (key : ByteArray) (hkey : key.size ≤ maxLen) :
    Calls Tryd.prog 32 #[.pointer (some ⟨bl, 0, none⟩), .string key] w fun x w' => x = .returned (.bool (hasE key (xs.map Prod.snd))) ∧ ∃ ys, ys.map Prod.snd = delE key (xs.map Prod.snd) ∧ ys.Sublist xs ∧ (∀ p ∈ ys, p.2.key ≠ key) ∧ BudI w' bl r M n m ys ∧ Touch (bl :: M :: r :: xs.map Prod.fst) w w' := by
  rcases split_keyL key xs h.kn with ⟨h1, h2, h3, h4⟩ | ⟨p, l, e, q, rfl, rfl, h3, h4, h5⟩
  · refine (dropI_none h key hkey h3).mono ?_
    rintro x w' ⟨rfl, rfl⟩
    exact ⟨by unfold hasE; rw [h1]; rfl, xs, h2.symm, List.Sublist.refl _, h4, h, Touch.refl _ _⟩
  · refine (dropI_any h).mono ?_
    rintro x w' ⟨rfl, hb, ht⟩
    exact ⟨by unfold hasE; rw [h3]; rfl, p ++ q, h4.symm, (List.Sublist.refl p).append (List.sublist_cons_self _ _), h5, hb, ht⟩
theorem headKeyI {w : World} {bl r M : Nat} {n m : Int} {l : Nat} {e : Ent} {ys : List Lk} (h : BudI w bl r M n m ((l, e) :: ys)) : w.cell? ⟨r, 13, none⟩ = some (ptr l) ∧ w.cell? ⟨l, 0, none⟩ = some (.string e.key) := by
  obtain ⟨va, vf, hl⟩ := h.ring.2.mem (l := l) (e := e) (by simp)
  exact ⟨h.ring.1.cells.2.2.2.2.1, hl.cells.1⟩
def PutPostI (w : World) (bl r M : Nat) (n m : Int) (fp : List Nat) (ks : List ByteArray) (es : List Ent) (x : Ending) (w' : World) : Prop :=
  ∃ a cap ys, x = .returned (.slice a ks.length cap) ∧ ys.map Prod.snd = es ∧ BudI w' bl r M n m ys ∧ OwnS w.heap.size (.slice a ks.length cap) (strs ks) w' ∧ (∀ g, (Value.slice a ks.length cap).ownBlock = some g → g ∉ bl :: M :: r :: ys.map Prod.fst) ∧ Touch fp w w' ∧ (∀ b ∈ bl :: M :: r :: ys.map Prod.fst, b ∈ fp ∨ w.heap.size ≤ b)
theorem PutPostI.lift {w0 w : World} {bl r M : Nat} {n m : Int} {fp : List Nat} {ks : List ByteArray} {es : List Ent} {x : Ending} {w' : World} (hb : Below w0.heap.size w0 w) (h : PutPostI w bl r M n m fp ks es x w') : PutPostI w0 bl r M n m fp ks es x w' := by
  obtain ⟨a, cap, ys, h1, h2, h3, h4, h5, h6, h7⟩ := h
  exact ⟨a, cap, ys, h1, h2, h3, h4.base hb.size, h5, Touch.of_below hb h6, fun b hb' => (h7 b hb').imp id (fun h => Nat.le_trans hb.size h)⟩
set_option maxHeartbeats 8000000 in
theorem putI_big {w0 : World} {bl r M : Nat} {n m : Int} {xs : List Lk} (h0 : BudI w0 bl r M n m xs) (key : ByteArray) (hkey : key.size ≤ maxLen) (s : Int) (x0 : Hv) (hs : m < s) :
    Calls Tryd.prog 29 #[.pointer (some ⟨bl, 0, none⟩), .string key, .int .i64 s, x0.val] w0 (PutPostI w0 bl r M n m (bl :: M :: r :: xs.map Prod.fst) (putE n m key s x0 (xs.map Prod.snd)).1 (putE n m key s x0 (xs.map Prod.snd)).2) := by
  unfold Hv.val
  obtain ⟨w, hW0⟩ : ∃ w, w0.alloc (.cells #[.string x0.key, .int .i64 x0.st, .string x0.re, .int .i64 x0.mi, .slice x0.fA x0.fn x0.fc, .string x0.bo, .int .i64 x0.asked, .int .i64 x0.got, .slice x0.vA x0.vn x0.vc, .int .i64 x0.num] 60) = w := ⟨_, rfl⟩
  have b0 : Below w0.heap.size w0 w := by rw [← hW0]; exact (Below.refl w0.heap.size w0).alloc (Nat.le_refl _) _
  have bx : Box10 w w0.heap.size 60 x0 := by rw [← hW0]; exact heap_new w0 _ _ rfl
  have hlow0 := h0.low
  have h := h0.below b0 hlow0
  have HW := Lib.hid hW0; have HB0 := Lib.hid b0; have BX := Lib.hid bx; have HL0 := Lib.hid hlow0
  clear h0 hW0 b0 bx hlow0
  have e0 : putE n m key s x0 (xs.map Prod.snd) = (if hasE key (xs.map Prod.snd) then [key] else [], delE key (xs.map Prod.snd)) := by unfold putE; rw [if_pos hs]
  rw [e0]
  clear e0
  have k1 := isI_any h
  have K1 := Lib.hid k1
  have k2 := dropI_all h key hkey
  have K2 := Lib.hid k2
  have hlow := Lib.hid h.low
  clear k1 k2 h
  generalize hasE key (xs.map Prod.snd) = was at *
  obtain ⟨y, rfl⟩ : ∃ y : List UInt8, key = ⟨y.toArray⟩ := ⟨key.data.toList, (str_back key).symm⟩
  cases was
  · go_enter Tryd.func29, Tryd.ntmps29
    go_upto_region 1 with (fail)
    rw [HW.out]
    go_wp2_with fail
    (with_reducible refine K1.out.mono ?_)
    rintro z w1 ⟨rfl, rfl⟩
    go_wp2_with fail
    (with_reducible refine K2.out.mono ?_)
    rintro z w1 ⟨rfl, ys, h1, h2, h3, hB, ht⟩
    have c1 : w1.cell? ⟨bl, 1, none⟩ = some (.int .i64 m) := by simp [World.cell?, hB.blk]
    have t1 : decide (s > m) = true := by simpa using hs
    have HB := Lib.hid hB
    clear hB
    go_wp2
    go_ret
    exact PutPostI.lift HB0.out ⟨none, 0, ys, rfl, h1, HB.out, OwnS.nil _ _, (fun g hg => by cases hg), ht, fun b hb => Or.inl (((((h2.map Prod.fst).cons_cons r).cons_cons M).cons_cons bl).subset hb)⟩
  · go_enter Tryd.func29, Tryd.ntmps29
    go_upto_region 1 with (fail)
    rw [HW.out]
    go_wp2_with fail
    (with_reducible refine K1.out.mono ?_)
    rintro z w1 ⟨rfl, rfl⟩
    go_wp2_with fail
    (with_reducible refine K2.out.mono ?_)
    rintro z w1 ⟨rfl, ys, h1, h2, h3, hB, ht⟩
    have c1 : w1.cell? ⟨bl, 1, none⟩ = some (.int .i64 m) := by simp [World.cell?, hB.blk]
    have t1 : decide (s > m) = true := by simpa using hs
    have HB := Lib.hid hB
    have hsz : w.heap.size ≤ w1.heap.size := ht.2.2.2.1
    clear hB
    go_wp2_with (at_builtin; refine app_str w.heap.size y (OwnS.nil _ _) hsz (by decide) rfl _ _ rfl rfl rfl ?_)
    intro v' w2 hO hb2 hfar
    obtain ⟨oa, oc, rfl⟩ := hO.shape
    go_wp2
    go_ret
    have hsub := (((h2.map Prod.fst).cons_cons r).cons_cons M).cons_cons bl
    exact PutPostI.lift HB0.out ⟨oa, oc, ys, rfl, h1, HB.out.below hb2 (fun b hb => hlow.out b (hsub.subset hb)), hO, (fun g hg hn => by have := hlow.out g (hsub.subset hn); have := (hO.lt' g hg); omega), ht.belowR hb2, fun b hb => Or.inl (hsub.subset hb)⟩
theorem putI_pre {w : World} {bl r M : Nat} {n m : Int} {xs : List Lk} (h : BudI w bl r M n m xs) (e : Ent) {va vf : Value} {o : _} :
    (setBlock (w.alloc (.cells #[.string e.key, .int .i64 e.size, .string e.x.key, .int .i64 e.x.st, .string e.x.re, .int .i64 e.x.mi, .slice e.x.fA e.x.fn e.x.fc, .string e.x.bo, .int .i64 e.x.asked, .int .i64 e.x.got, .slice e.x.vA e.x.vn e.x.vc, .int .i64 e.x.num, va, vf] 89 (0, 0))) M o).cell? ⟨bl, 2, none⟩ = some (.int .i64 (sumL xs)) ∧ (setBlock (w.alloc (.cells #[.string e.key, .int .i64 e.size, .string e.x.key, .int .i64 e.x.st, .string e.x.re, .int .i64 e.x.mi, .slice e.x.fA e.x.fn e.x.fc, .string e.x.bo, .int .i64 e.x.asked, .int .i64 e.x.got, .slice e.x.vA e.x.vn e.x.vc, .int .i64 e.x.num, va, vf] 89 (0, 0))) M o).frozen? ⟨bl, 2, none⟩ = false ∧
      (setBlock (w.alloc (.cells #[.string e.key, .int .i64 e.size, .string e.x.key, .int .i64 e.x.st, .string e.x.re, .int .i64 e.x.mi, .slice e.x.fA e.x.fn e.x.fc, .string e.x.bo, .int .i64 e.x.asked, .int .i64 e.x.got, .slice e.x.vA e.x.vn e.x.vc, .int .i64 e.x.num, va, vf] 89 (0, 0))) M o).cell? ⟨w.heap.size, 1, none⟩ = some (.int .i64 e.size) := by
  have hlow := h.low
  have hnd := h.nd
  rw [List.nodup_cons, List.nodup_cons] at hnd
  obtain ⟨hbn, hMn, hrn⟩ := hnd
  obtain ⟨es, cl, hM0, _⟩ := h.mp
  have hM : (w.alloc (.cells #[.string e.key, .int .i64 e.size, .string e.x.key, .int .i64 e.x.st, .string e.x.re, .int .i64 e.x.mi, .slice e.x.fA e.x.fn e.x.fc, .string e.x.bo, .int .i64 e.x.asked, .int .i64 e.x.got, .slice e.x.vA e.x.vn e.x.vc, .int .i64 e.x.num, va, vf] 89 (0, 0))).heap[M]? = some (.map es cl) := (Below.heap_alloc _ _ _ (hlow M (by simp))).trans hM0
  have hoth : ∀ b, b ≠ M → (setBlock (w.alloc (.cells #[.string e.key, .int .i64 e.size, .string e.x.key, .int .i64 e.x.st, .string e.x.re, .int .i64 e.x.mi, .slice e.x.fA e.x.fn e.x.fc, .string e.x.bo, .int .i64 e.x.asked, .int .i64 e.x.got, .slice e.x.vA e.x.vn e.x.vc, .int .i64 e.x.num, va, vf] 89 (0, 0))) M o).heap[b]? = (w.alloc (.cells #[.string e.key, .int .i64 e.size, .string e.x.key, .int .i64 e.x.st, .string e.x.re, .int .i64 e.x.mi, .slice e.x.fA e.x.fn e.x.fc, .string e.x.bo, .int .i64 e.x.asked, .int .i64 e.x.got, .slice e.x.vA e.x.vn e.x.vc, .int .i64 e.x.num, va, vf] 89 (0, 0))).heap[b]? := fun b hne => Go.ChangeMaps.heap_setBlock_other hM _ hne
  have hbl2 := (hoth bl (fun x => hbn (by rw [x]; simp))).trans ((Below.heap_alloc _ _ _ (hlow bl (by simp))).trans h.blk)
  have hl2 := (hoth w.heap.size (fun x => by have := hlow M (by simp); omega)).trans (heap_alloc_last w _)
  exact ⟨by simp [World.cell?, hbl2], by simp [World.frozen?, hbl2], by simp [World.cell?, hl2]⟩
set_option maxHeartbeats 8000000 in
theorem putI_small {w0 : World} {bl r M : Nat} {n m : Int} {xs : List Lk} (h0 : BudI w0 bl r M n m xs) (hn : 1 ≤ n ∧ n ≤ 4096) (hm : 1 ≤ m ∧ m ≤ 1073741824) (hxn : (xs.length : Int) ≤ n) (key : ByteArray) (hkey : key.size ≤ maxLen) (s : Int) (x0 : Hv) (hs : ¬ m < s) :
    Calls Tryd.prog 29 #[.pointer (some ⟨bl, 0, none⟩), .string key, .int .i64 s, x0.val] w0 (PutPostI w0 bl r M n m (bl :: M :: r :: xs.map Prod.fst) (putE n m key s x0 (xs.map Prod.snd)).1 (putE n m key s x0 (xs.map Prod.snd)).2) := by
  unfold Hv.val
  obtain ⟨w, hW0⟩ : ∃ w, w0.alloc (.cells #[.string x0.key, .int .i64 x0.st, .string x0.re, .int .i64 x0.mi, .slice x0.fA x0.fn x0.fc, .string x0.bo, .int .i64 x0.asked, .int .i64 x0.got, .slice x0.vA x0.vn x0.vc, .int .i64 x0.num] 60) = w := ⟨_, rfl⟩
  have b0 : Below w0.heap.size w0 w := by rw [← hW0]; exact (Below.refl w0.heap.size w0).alloc (Nat.le_refl _) _
  have bx : Box10 w w0.heap.size 60 x0 := by rw [← hW0]; exact heap_new w0 _ _ rfl
  have hlow0 := h0.low
  have h := h0.below b0 hlow0
  have HW := Lib.hid hW0; have HB0 := Lib.hid b0; have BX := Lib.hid bx; have HL0 := Lib.hid hlow0
  clear h0 hW0 b0 bx hlow0
  have e0 : putE n m key s x0 (xs.map Prod.snd) = evE n m (delE key (xs.map Prod.snd) ++ [⟨key, max 0 s, x0⟩]) := by unfold putE; rw [if_neg hs]
  rw [e0]
  clear e0
  obtain ⟨R, hR⟩ : ∃ R, evE n m (delE key (xs.map Prod.snd) ++ [⟨key, max 0 s, x0⟩]) = R := ⟨_, rfl⟩
  rw [hR]
  have HR := Lib.hid hR
  clear hR
  have k1 := isI_any h
  have K1 := Lib.hid k1
  have k2 := dropI_all h key hkey
  have K2 := Lib.hid k2
  have hlow := Lib.hid h.low
  clear k1 k2 h
  generalize hasE key (xs.map Prod.snd) = was at *
  go_enter Tryd.func29, Tryd.ntmps29
  go_upto_region 1 with (fail)
  rw [HW.out]
  go_wp2_with fail
  (with_reducible refine K1.out.mono ?_)
  rintro z w1 ⟨rfl, rfl⟩
  go_wp2_with fail
  (with_reducible refine K2.out.mono ?_)
  rintro z w1 ⟨rfl, ys, h1, h2, h3, hB, ht⟩
  have c1 : w1.cell? ⟨bl, 1, none⟩ = some (.int .i64 m) := by simp [World.cell?, hB.blk]
  obtain ⟨⟨g0, g1, g2, g3, g4, g5, g6, g7, g8, g9⟩, _, _⟩ := (BX.out.of (ht.2.2.2.2 _ BX.out.lt (fun hm => by have := HL0.out _ hm; omega))).ten
  have t1 : decide (s > m) = false := by simpa using hs
  have HB := Lib.hid hB
  clear hB
  have hsz : w.heap.size ≤ w1.heap.size := ht.2.2.2.1
  have hlow1 := Lib.hid HB.out.low
  obtain ⟨z, hz0⟩ : ∃ z, z = max 0 s := ⟨_, rfl⟩
  have hz : (if 0 < s then s else 0) = z := by rw [hz0]; split <;> omega
  have hb3 : (w1.alloc (.cells #[.string key, .int .i64 z, .string x0.key, .int .i64 x0.st, .string x0.re, .int .i64 x0.mi, .slice x0.fA x0.fn x0.fc, .string x0.bo, .int .i64 x0.asked, .int .i64 x0.got, .slice x0.vA x0.vn x0.vc, .int .i64 x0.num, .pointer none, .pointer none] 89 (0, 0))).heap[bl]? = some (.cells #[.int .i64 n, .int .i64 m, .int .i64 (sumL ys), .map (some M), ptr r] 92 (0, 0)) := (Below.heap_alloc _ _ _ (hlow1.out bl (by simp))).trans HB.out.blk
  have c3 : (w1.alloc (.cells #[.string key, .int .i64 z, .string x0.key, .int .i64 x0.st, .string x0.re, .int .i64 x0.mi, .slice x0.fA x0.fn x0.fc, .string x0.bo, .int .i64 x0.asked, .int .i64 x0.got, .slice x0.vA x0.vn x0.vc, .int .i64 x0.num, .pointer none, .pointer none] 89 (0, 0))).cell? ⟨bl, 3, none⟩ = some (.map (some M)) := by simp [World.cell?, hb3]
  obtain ⟨o, hput, hmv⟩ := mv_put Tryd.underlying9 Tryd.underlying90 (HB.out.mp.of (w' := w1.alloc (.cells #[.string key, .int .i64 z, .string x0.key, .int .i64 x0.st, .string x0.re, .int .i64 x0.mi, .slice x0.fA x0.fn x0.fc, .string x0.bo, .int .i64 x0.asked, .int .i64 x0.got, .slice x0.vA x0.vn x0.vc, .int .i64 x0.num, .pointer none, .pointer none] 89 (0, 0))) (Below.heap_alloc _ _ _ (hlow1.out M (by simp)))) key hkey (fun p hp => by
    unfold kvL at hp
    obtain ⟨q, hq, rfl⟩ := List.mem_map.1 hp
    exact h3 q hq) w1.heap.size
  unfold ptr at hput
  have HZ := Lib.hid hz0
  clear hz0 hb3
  have HMV := Lib.hid hmv
  clear hmv
  obtain ⟨p1, p2, p3⟩ := putI_pre HB.out ⟨key, z, x0⟩ (va := .pointer none) (vf := .pointer none) (o := o)
  have hsum := sumL_nn HB.out.sz HB.out.len
  have hz1 : 0 ≤ z ∧ z ≤ 1073741824 := by rw [HZ.out]; omega
  have hwr : IntKind.i64.wrap (sumL ys + z) = sumL ys + z := by rw [IntKind.wrap_i64]; omega
  simp only at p1 p2 p3
  go_wp2
  have HP := Lib.hid (And.intro hput hsum)
  clear hput hsum
  (first | go_region | skip)
  obtain ⟨w3, hw3⟩ : ∃ w3, ((setBlock (w1.alloc (.cells #[.string key, .int .i64 z, .string x0.key, .int .i64 x0.st, .string x0.re, .int .i64 x0.mi, .slice x0.fA x0.fn x0.fc, .string x0.bo, .int .i64 x0.asked, .int .i64 x0.got, .slice x0.vA x0.vn x0.vc, .int .i64 x0.num, .pointer none, .pointer none] 89 (0, 0))) M o).setCell ⟨bl, 2, none⟩ (.int .i64 (sumL ys + z))).drew = w3 := ⟨_, rfl⟩
  rw [hw3]
  have hmem := putI_mem HB.out ⟨key, z, x0⟩ (sumL ys + z) 1 rfl HMV.out hw3.symm
  clear hw3 HMV HP p1 p2 p3 hwr hz c3 c1
  obtain ⟨q1, q2, q3, q4, q5⟩ := hmem
  have hlst : lst r ys ∈ r :: ys.map Prod.fst := by
    rcases @lst_mem ys r with hm | ⟨_, hm⟩
    · exact List.mem_cons_of_mem _ hm
    · rw [hm]; exact List.mem_cons_self
  obtain ⟨e3, va3, vf3, r3⟩ := q4.at _ hlst
  have c4 : w3.cell? ⟨bl, 4, none⟩ = some (ptr r) := by simp [World.cell?, q1]
  have hne : ∀ b ∈ bl :: M :: r :: ys.map Prod.fst, b ≠ w1.heap.size := fun b hb => Nat.ne_of_lt (hlow1.out b hb)
  have k4 := lastI_any bl r w1.heap.size (lst r ys) w3 c4 q4.1.cells.2.2.2.1 ⟨_, q3.cells.2.2.2.1⟩ ⟨_, q3.cells.2.2.2.2.1⟩ ⟨_, r3.cells.2.2.2.2.1⟩ (q3.cells.2.2.2.2.2.1 12) (q3.cells.2.2.2.2.2.1 13) (r3.cells.2.2.2.2.2.1 13) (q4.1.cells.2.2.2.2.2.1 12) (hne bl (by simp)) (hne r (by simp)) (hne _ (List.mem_cons_of_mem _ (List.mem_cons_of_mem _ hlst)))
  have K4 := Lib.hid k4
  have Q := Lib.hid (And.intro q1 (And.intro q2 (And.intro q3 (And.intro q4 q5))))
  clear k4 c4 r3 q1 q2 q3 q4 q5 hne hlst
  go_wp2_with fail
  (with_reducible refine K4.out.mono ?_)
  rintro z2 w4 ⟨⟨v2, rfl⟩, k5, hw4⟩
  have hyl : ys.length ≤ xs.length := h2.length_le
  have fin := putI_last HB.out h3 hkey hz1 (by omega) Q.out.1 Q.out.2.1 Q.out.2.2.1 Q.out.2.2.2.1 Q.out.2.2.2.2 k5 hw4
  clear hw4 K4 Q
  obtain ⟨f1, f2⟩ := fin
  have hlow4 := f1.low
  have hyl2 : ((ys ++ [(w1.heap.size, (⟨key, z, x0⟩ : Ent))]).length : Int) ≤ 4097 := by rw [List.length_append, List.length_singleton]; omega
  have hsub := (((h2.map Prod.fst).cons_cons r).cons_cons M).cons_cons bl
  have ht4 : Touch (bl :: M :: r :: xs.map Prod.fst) w w4 := ht.trans f2 (fun b hb => Or.inl (hsub.subset hb))
  have hfp : ∀ b ∈ bl :: M :: r :: (ys ++ [(w1.heap.size, (⟨key, z, x0⟩ : Ent))]).map Prod.fst, b ∈ bl :: M :: r :: xs.map Prod.fst ∨ w.heap.size ≤ b := fun b hb => by
    have e1 : bl :: M :: r :: (ys ++ [(w1.heap.size, (⟨key, z, x0⟩ : Ent))]).map Prod.fst = (bl :: M :: r :: ys.map Prod.fst) ++ [w1.heap.size] := by simp
    rw [e1] at hb
    rcases List.mem_append.1 hb with h' | h'
    · exact Or.inl (hsub.subset h')
    · rw [List.mem_singleton.1 h']; exact Or.inr hsz
  have he : delE key (xs.map Prod.snd) ++ [⟨key, z, x0⟩] = (ys ++ [(w1.heap.size, (⟨key, z, x0⟩ : Ent))]).map Prod.snd := by rw [← h1]; simp
  have hR := HR.out
  rw [← HZ.out, he] at hR
  clear HR
  have hsz4 : w.heap.size ≤ w4.heap.size := ht4.2.2.2.1
  generalize ys ++ [(w1.heap.size, (⟨key, z, x0⟩ : Ent))] = zs at *
  have HR := Lib.hid hR
  clear hR he hyl HB K1 K2 h1 h2 h3 ht f2 hlow1 hsub HZ hz1
  have HL := Lib.hid hlow4
  have F1 := Lib.hid f1
  have HT := Lib.hid ht4
  have HF := Lib.hid hfp
  clear hlow4 f1 ht4 hfp
  go_wp2_with fail
  go_loopw [8] (fun g wr => ∃ (ks : List ByteArray) (zz : List Lk), Hid (R = (ks ++ (evE n m (zz.map Prod.snd)).1, (evE n m (zz.map Prod.snd)).2)) ∧ zz.Sublist zs ∧ Hid (BudI wr bl r M n m zz) ∧ OwnS w4.heap.size g (strs ks) wr ∧ Hid (Touch (bl :: M :: r :: zs.map Prod.fst) w4 wr) ∧ ks.length + zz.length ≤ 4097) (fun g _ => 5000 - rowLen g)
  case atStart => exact ⟨[], zs, Lib.hid (by rw [HR.out]; rfl), List.Sublist.refl _, F1, OwnS.nil _ _, Lib.hid (Touch.refl _ _), by rw [List.length_nil]; omega⟩
  case round =>
    obtain ⟨ks, zz, HRR, hzs, HZ, hO, HTT, hlen⟩ := hrel
    obtain ⟨oa, oc, rfl⟩ := hO.shape
    have c0 : wr.cell? ⟨bl, 0, none⟩ = some (.int .i64 n) := by simp [World.cell?, HZ.out.blk]
    have c1 : wr.cell? ⟨bl, 1, none⟩ = some (.int .i64 m) := by simp [World.cell?, HZ.out.blk]
    have c2 : wr.cell? ⟨bl, 2, none⟩ = some (.int .i64 (sumL zz)) := by simp [World.cell?, HZ.out.blk]
    have c3 : wr.cell? ⟨bl, 3, none⟩ = some (.map (some M)) := by simp [World.cell?, HZ.out.blk]
    have hl : (Builtin.len_ #[90] 3 #[.map (some M)]).run Tryd.prog wr.drew = .ok (goInt (kvL zz).length) wr.drew := mv_len Tryd.underlying90 (HZ.out.mp.of (w' := wr.drew) rfl) _
    have e1 : (kvL zz).length = zz.length := by simp [kvL]
    rw [e1] at hl
    clear e1
    by_cases hov : n < (zz.length : Int)
    · have t0 : decide (n < (zz.length : Int)) = true := by simpa using hov
      have t2 : decide ((zz.length : Int) > n) = true := by simpa using hov
      go_wp2
      go_region
      have hne : zz ≠ [] := by rintro rfl; simp at hov; omega
      rcases zz with _ | ⟨⟨l, e⟩, tt⟩
      · exact absurd rfl hne
      obtain ⟨ek, es, ex⟩ := e
      obtain ⟨y, rfl⟩ : ∃ y : List UInt8, ek = ⟨y.toArray⟩ := ⟨ek.data.toList, (str_back ek).symm⟩
      have hov3 : overE n m (((l, (⟨⟨y.toArray⟩, es, ex⟩ : Ent)) :: tt).map Prod.snd) = true := by
        unfold overE
        rw [← sumL_map, List.length_map]
        rw [t0]; rfl
      have hev : R = ((ks ++ [⟨y.toArray⟩]) ++ (evE n m (tt.map Prod.snd)).1, (evE n m (tt.map Prod.snd)).2) := by
        rw [HRR.out, List.map_cons, evE]
        rw [List.map_cons] at hov3
        rw [if_pos hov3]
        simp
      have HEV := Lib.hid hev
      have HD : Hid (BudI wr.drew bl r M n m ((l, ⟨⟨y.toArray⟩, es, ex⟩) :: tt)) := Lib.hid (HZ.out.of (fun _ _ => rfl))
      have hO1 : OwnS w4.heap.size (.slice oa (strs ks).length oc) (strs ks) wr.drew := hO.drew
      have HT1 : Hid (Touch (bl :: M :: r :: zs.map Prod.fst) w4 wr.drew) := Lib.hid HTT.out.drew
      clear hev hov3 c0 c1 c2 c3 hl hO HZ HTT HRR hne
      generalize wr.drew = wd at *
      obtain ⟨d1, d2⟩ := headKeyI HD.out
      have d3 : wd.cell? ⟨bl, 4, none⟩ = some (ptr r) := by simp [World.cell?, HD.out.blk]
      unfold ptr at d1 d3
      simp only at d2
      have kd := dropI_any (p := []) (q := tt) HD.out
      simp only at kd
      have KD := Lib.hid kd
      clear kd
      have hkl : ks.length ≤ 4097 := by omega
      have hkt : ks.length + (tt.length + 1) ≤ 4097 := hlen
      clear hlen
      go_wp2_with fail
      (with_reducible refine KD.out.mono ?_)
      rintro zx w5 ⟨rfl, hb5, ht5⟩
      have hsubz := (((hzs.map Prod.fst).cons_cons r).cons_cons M).cons_cons bl
      have ht5' := ht5.mono (fp' := bl :: M :: r :: zs.map Prod.fst) (fun b hb => Or.inl (hsubz.subset hb))
      have ht6 := HT1.out.trans ht5' (fun b hb => Or.inl hb)
      have hO5 := hO1.touch ht5' (fun b hb => Or.inl (HL.out b hb))
      have hsz5 : w4.heap.size ≤ w5.heap.size := ht6.2.2.2.1
      have hkl2 : (strs ks).length ≤ 1000000000 := by unfold strs; rw [List.length_map]; omega
      have HB5 := Lib.hid hb5
      have HT6 := Lib.hid ht6
      clear hb5 ht6 ht5 ht5' KD
      go_wp2_with (at_builtin; refine app_str w4.heap.size y hO5 hsz5 hkl2 rfl _ _ rfl rfl rfl ?_)
      intro v' w6 hO6 hb6 hfar
      obtain ⟨oa6, oc6, rfl⟩ := hO6.shape
      have hst : strs (ks ++ [⟨y.toArray⟩]) = strs ks ++ [y] := by unfold strs; simp
      go_wp2
      go_roundw
      case rel =>
        have hzt : tt.Sublist zs := (List.sublist_cons_self _ _).trans hzs
        refine ⟨ks ++ [⟨y.toArray⟩], tt, HEV, hzt, Lib.hid (HB5.out.below hb6 (fun b hb => HL.out b (((((hzt.map Prod.fst).cons_cons r).cons_cons M).cons_cons bl).subset hb))), by rw [hst]; exact hO6, Lib.hid (HT6.out.belowR hb6), by rw [List.length_append, List.length_singleton]; omega⟩
      case measure =>
        simp only [rowLen]
        unfold strs
        rw [List.length_append, List.length_map, List.length_singleton]
        omega
    · have t2 : decide ((zz.length : Int) > n) = false := by simpa using hov
      by_cases hov2 : m < sumL zz
      · have t0 : decide (m < sumL zz) = true := by simpa using hov2
        have t3 : decide (sumL zz > m) = true := by simpa using hov2
        go_wp2
        go_region
        have hne : zz ≠ [] := by rintro rfl; simp [sumL] at hov2; omega
        rcases zz with _ | ⟨⟨l, e⟩, tt⟩
        · exact absurd rfl hne
        obtain ⟨ek, es, ex⟩ := e
        obtain ⟨y, rfl⟩ : ∃ y : List UInt8, ek = ⟨y.toArray⟩ := ⟨ek.data.toList, (str_back ek).symm⟩
        have hov3 : overE n m (((l, (⟨⟨y.toArray⟩, es, ex⟩ : Ent)) :: tt).map Prod.snd) = true := by
          unfold overE
          rw [← sumL_map, List.length_map]
          rw [t0, Bool.or_true]
        have hev : R = ((ks ++ [⟨y.toArray⟩]) ++ (evE n m (tt.map Prod.snd)).1, (evE n m (tt.map Prod.snd)).2) := by
          rw [HRR.out, List.map_cons, evE]
          rw [List.map_cons] at hov3
          rw [if_pos hov3]
          simp
        have HEV := Lib.hid hev
        have HD : Hid (BudI wr.drew bl r M n m ((l, ⟨⟨y.toArray⟩, es, ex⟩) :: tt)) := Lib.hid (HZ.out.of (fun _ _ => rfl))
        have hO1 : OwnS w4.heap.size (.slice oa (strs ks).length oc) (strs ks) wr.drew := hO.drew
        have HT1 : Hid (Touch (bl :: M :: r :: zs.map Prod.fst) w4 wr.drew) := Lib.hid HTT.out.drew
        clear hev hov3 c0 c1 c2 c3 hl hO HZ HTT HRR hne
        generalize wr.drew = wd at *
        obtain ⟨d1, d2⟩ := headKeyI HD.out
        have d3 : wd.cell? ⟨bl, 4, none⟩ = some (ptr r) := by simp [World.cell?, HD.out.blk]
        unfold ptr at d1 d3
        simp only at d2
        have kd := dropI_any (p := []) (q := tt) HD.out
        simp only at kd
        have KD := Lib.hid kd
        clear kd
        have hkl : ks.length ≤ 4097 := by omega
        have hkt : ks.length + (tt.length + 1) ≤ 4097 := hlen
        clear hlen
        go_wp2_with fail
        (with_reducible refine KD.out.mono ?_)
        rintro zx w5 ⟨rfl, hb5, ht5⟩
        have hsubz := (((hzs.map Prod.fst).cons_cons r).cons_cons M).cons_cons bl
        have ht5' := ht5.mono (fp' := bl :: M :: r :: zs.map Prod.fst) (fun b hb => Or.inl (hsubz.subset hb))
        have ht6 := HT1.out.trans ht5' (fun b hb => Or.inl hb)
        have hO5 := hO1.touch ht5' (fun b hb => Or.inl (HL.out b hb))
        have hsz5 : w4.heap.size ≤ w5.heap.size := ht6.2.2.2.1
        have hkl2 : (strs ks).length ≤ 1000000000 := by unfold strs; rw [List.length_map]; omega
        have HB5 := Lib.hid hb5
        have HT6 := Lib.hid ht6
        clear hb5 ht6 ht5 ht5' KD
        go_wp2_with (at_builtin; refine app_str w4.heap.size y hO5 hsz5 hkl2 rfl _ _ rfl rfl rfl ?_)
        intro v' w6 hO6 hb6 hfar
        obtain ⟨oa6, oc6, rfl⟩ := hO6.shape
        have hst : strs (ks ++ [⟨y.toArray⟩]) = strs ks ++ [y] := by unfold strs; simp
        go_wp2
        go_roundw
        case rel =>
          have hzt : tt.Sublist zs := (List.sublist_cons_self _ _).trans hzs
          refine ⟨ks ++ [⟨y.toArray⟩], tt, HEV, hzt, Lib.hid (HB5.out.below hb6 (fun b hb => HL.out b (((((hzt.map Prod.fst).cons_cons r).cons_cons M).cons_cons bl).subset hb))), by rw [hst]; exact hO6, Lib.hid (HT6.out.belowR hb6), by rw [List.length_append, List.length_singleton]; omega⟩
        case measure =>
          simp only [rowLen]
          unfold strs
          rw [List.length_append, List.length_map, List.length_singleton]
          omega
      · have t3 : decide (sumL zz > m) = false := by simpa using hov2
        go_wp2
        go_region
        have hov3 : overE n m (zz.map Prod.snd) = false := by
          unfold overE
          rw [← sumL_map, List.length_map]
          have z1 : decide (n < (zz.length : Int)) = false := by simpa using hov
          have z2 : decide (m < sumL zz) = false := by simpa using hov2
          rw [z1, z2]; rfl
        have hev : evE n m (zz.map Prod.snd) = ([], zz.map Prod.snd) := by
          cases zz with
          | nil => rfl
          | cons p tt =>
            rw [List.map_cons, evE]
            rw [List.map_cons] at hov3
            rw [hov3]; rfl
        have hRe : R = (ks, zz.map Prod.snd) := by rw [HRR.out, hev, List.append_nil]
        have hkl : (strs ks).length = ks.length := by unfold strs; rw [List.length_map]
        have HRE := Lib.hid (And.intro hRe hkl)
        clear hRe hev hov3 HRR HR hkl
        go_wp2
        go_ret
        rw [HRE.out.1]
        have hsubz := (((hzs.map Prod.fst).cons_cons r).cons_cons M).cons_cons bl
        have ho2 : OwnS w4.heap.size (.slice oa ks.length oc) (strs ks) wr := by
          have := hO
          rw [HRE.out.2] at this
          exact this
        refine PutPostI.lift HB0.out ⟨oa, oc, zz, ?_, rfl, HZ.out.of (fun _ _ => rfl), (ho2.base hsz4).drew, (fun g hg hn => ?_), HT.out.trans HTT.out.drew HF.out, fun b hb => HF.out b (hsubz.subset hb)⟩
        · rw [← HRE.out.2]; rfl
        · have x1 := ho2.lt' g hg
          have x2 := HL.out g (hsubz.subset hn)
          omega
theorem putI_any {w : World} {bl r M : Nat} {n m : Int} {xs : List Lk} (h : BudI w bl r M n m xs) (hn : 1 ≤ n ∧ n ≤ 4096) (hm : 1 ≤ m ∧ m ≤ 1073741824) (hxn : (xs.length : Int) ≤ n) (key : ByteArray) (hkey : key.size ≤ maxLen) (s : Int) (x0 : Hv) :
    Calls Tryd.prog 29 #[.pointer (some ⟨bl, 0, none⟩), .string key, .int .i64 s, x0.val] w (PutPostI w bl r M n m (bl :: M :: r :: xs.map Prod.fst) (putE n m key s x0 (xs.map Prod.snd)).1 (putE n m key s x0 (xs.map Prod.snd)).2) := by
  by_cases hs : m < s
  · exact putI_big h key hkey s x0 hs
  · exact putI_small h hn hm hxn key hkey s x0 hs

theorem linkI_size : (Tryd.prog.info? 89).map (·.size) = some (13 + 1) := by kernel_rfl
set_option maxHeartbeats 8000000 in
theorem keysI_any {w : World} {bl r M : Nat} {n m : Int} {xs : List Lk} (h : BudI w bl r M n m xs) :
    Calls Tryd.prog 33 #[.pointer (some ⟨bl, 0, none⟩)] w (TextsPost w (strs (keysL xs))) := by
  have k1 := isI_any h
  have K1 := Lib.hid k1
  have hlow := Lib.hid h.low
  have hx5 := h.len
  have c4 : w.cell? ⟨bl, 4, none⟩ = some (ptr r) := by simp [World.cell?, h.blk]
  have c5 : w.cell? ⟨r, 13, none⟩ = some (ptr (hd xs r)) := h.ring.1.cells.2.2.2.2.1
  unfold ptr at c4 c5
  have HB := Lib.hid h
  clear h k1
  go_enter Tryd.func33, Tryd.ntmps33
  go_wp2_with fail
  (with_reducible refine K1.out.mono ?_)
  rintro z w1 ⟨rfl, rfl⟩
  go_wp2_with fail
  go_loopw [2, 3] (fun out l wr => ∃ (p q : List Lk), Hid (xs = p ++ q) ∧ l = .pointer (some ⟨hd q r, 0, none⟩) ∧ Hid (BudI wr bl r M n m xs) ∧ OwnS w.heap.size out (strs (keysL p)) wr ∧ Below w.heap.size w wr) (fun out _ _ => xs.length - rowLen out)
  case atStart => exact ⟨[], xs, Lib.hid rfl, rfl, HB, OwnS.nil _ _, Below.refl _ _⟩
  case round =>
    obtain ⟨p, q, hpq, rfl, HBB, hO, hbw⟩ := hrel
    obtain ⟨oa, oc, rfl⟩ := hO.shape
    have c6 : wr.cell? ⟨bl, 4, none⟩ = some (ptr r) := by simp [World.cell?, HBB.out.blk]
    unfold ptr at c6
    have hpl : (strs (keysL p)).length = p.length := by unfold strs keysL; rw [List.length_map, List.length_map]
    have hxl : p.length + q.length = xs.length := by rw [hpq.out, List.length_append]
    have HPL := Lib.hid (And.intro hpl hxl)
    clear hpl hxl
    rcases q with _ | ⟨⟨l, e⟩, qq⟩
    · have e0 : hd [] r = r := rfl
      rw [e0]
      have hxe : keysL xs = keysL p := by rw [hpq.out, List.append_nil]
      rw [hxe]
      have hcmp := neq_ptr_same (w := wr) Tryd.underlying87 linkI_size r
      go_wp2
      go_ret
      rw [hxe]
      exact ⟨oa, oc, rfl, hO, hbw⟩
    · have e0 : hd ((l, e) :: qq) r = l := rfl
      rw [e0]
      have hs := HBB.out.ring.2
      rw [hpq.out, seg_app] at hs
      have hl : LnkV 89 wr l e (ptr (lst r p)) (ptr (hd qq r)) := hs.2.1
      have hlr : l ≠ r := fun x => by
        have := HBB.out.nd
        rw [List.nodup_cons, List.nodup_cons, List.nodup_cons] at this
        refine this.2.2.1 ?_
        rw [← x, hpq.out]
        simp
      obtain ⟨ek, es, ex⟩ := e
      obtain ⟨y, rfl⟩ : ∃ y : List UInt8, ek = ⟨y.toArray⟩ := ⟨ek.data.toList, (str_back ek).symm⟩
      have c0 : wr.cell? ⟨l, 0, none⟩ = some (.string ⟨y.toArray⟩) := hl.cells.1
      have c7 : wr.cell? ⟨l, 13, none⟩ = some (.pointer (some ⟨hd qq r, 0, none⟩)) := hl.cells.2.2.2.2.1
      have hll : l < w.heap.size := hlow.out l (by rw [hpq.out]; simp)
      have hn9 : (strs (keysL p)).length ≤ 1000000000 := by rw [HPL.out.1]; have := HPL.out.2; omega
      obtain ⟨er, var, vfr, hrr⟩ := HBB.out.ring.at r List.mem_cons_self
      have hcmp := neq_ptr_other Tryd.underlying87 linkI_size hlr hl hrr
      clear hs hl hrr
      go_wp2_with (at_builtin; refine app_str w.heap.size y hO hbw.size hn9 rfl _ _ rfl rfl rfl ?_)
      intro v' w2 hO2 hb2 hfar
      obtain ⟨oa2, oc2, rfl⟩ := hO2.shape
      have hB2 : Hid (BudI w2 bl r M n m xs) := Lib.hid (HBB.out.below hb2 hlow.out)
      have c8 : w2.cell? ⟨l, 13, none⟩ = some (.pointer (some ⟨hd qq r, 0, none⟩)) := (World.cell?_of_block (a := ⟨l, 13, none⟩) (hb2.block l hll)).trans c7
      have hbw2 : Below w.heap.size w w2 := hbw.trans (hb2.mono (Nat.le_refl _))
      have hst : strs (keysL (p ++ [(l, (⟨⟨y.toArray⟩, es, ex⟩ : Ent))])) = strs (keysL p) ++ [y] := by unfold strs keysL; simp
      have hpq2 : xs = (p ++ [(l, (⟨⟨y.toArray⟩, es, ex⟩ : Ent))]) ++ qq := by rw [hpq.out]; simp
      have HPQ2 := Lib.hid hpq2
      clear hpq2 c7 hcmp HBB hbw
      go_wp2
      go_roundw
      case rel => exact ⟨_, qq, HPQ2, rfl, hB2, by rw [hst]; exact hO2, hbw2⟩
      case measure =>
        simp only [rowLen]
        have h1 := HPL.out.1
        have h2 := HPL.out.2
        rw [List.length_cons] at h2
        rw [List.length_append, List.length_singleton]
        omega

set_option maxHeartbeats 8000000 in
theorem newI_none (n m : Int) (w : World) (h : ¬ ((1 ≤ n ∧ n ≤ 4096) ∧ (1 ≤ m ∧ m ≤ 1073741824))) :
    Calls Tryd.prog 26 #[.int .i64 n, .int .i64 m] w fun x w' => x = .returned (.pointer none) ∧ w = w' := by
  by_cases h1 : n < 1
  · go_enter Tryd.func26, Tryd.ntmps26
    go_wp2
    go_ret
    exact ⟨rfl, rfl⟩
  by_cases h2 : 4096 < n
  · go_enter Tryd.func26, Tryd.ntmps26
    go_wp2
    go_ret
    exact ⟨rfl, rfl⟩
  by_cases h3 : m < 1
  · go_enter Tryd.func26, Tryd.ntmps26
    go_wp2
    go_ret
    exact ⟨rfl, rfl⟩
  have h4 : 1073741824 < m := by omega
  go_enter Tryd.func26, Tryd.ntmps26
  go_wp2
  go_ret
  exact ⟨rfl, rfl⟩
set_option maxHeartbeats 8000000 in
theorem newI_any (n m : Int) (w : World) (hn : 1 ≤ n ∧ n ≤ 4096) (hm : 1 ≤ m ∧ m ≤ 1073741824) :
    Calls Tryd.prog 26 #[.int .i64 n, .int .i64 m] w fun x w' => ∃ bl r M, x = .returned (.pointer (some ⟨bl, 0, none⟩)) ∧ BudI w' bl r M n m [] ∧ Below w.heap.size w w' ∧ ∀ b ∈ [bl, M, r], w.heap.size ≤ b := by
  obtain ⟨h1, h2⟩ := hn
  obtain ⟨h3, h4⟩ := hm
  have t1 : decide (n < 1) = false := by simpa using h1
  have t2 : decide (n > 4096) = false := by simpa using h2
  have t3 : decide (m < 1) = false := by simpa using h3
  have t4 : decide (m > 1073741824) = false := by simpa using h4
  have hmk : ∀ w0 : World, (Instr.makeMap 90 none).run Tryd.prog w0 = .ok (.map (some w0.heap.size)) (w0.alloc (.map #[] 0)) := fun _ => rfl
  go_enter Tryd.func26, Tryd.ntmps26
  go_wp2
  go_ret
  refine ⟨w.heap.size + 2, w.heap.size, w.heap.size + 1, rfl, ?_, ((Below.refl _ w).alloc (Nat.le_refl _) _).alloc (by rw [alloc_sz]; omega) _ |>.alloc (by rw [alloc_sz, alloc_sz]; omega) _, by intro b hb; simp at hb; omega⟩
  generalize ho1 : Obj.cells #[Value.string ⟨#[]⟩, .int .i64 0, .string ⟨#[]⟩, .int .i64 0, .string ⟨#[]⟩, .int .i64 0, .slice none 0 0, .string ⟨#[]⟩, .int .i64 0, .int .i64 0, .slice none 0 0, .int .i64 0, .pointer (some ⟨w.heap.size, 0, none⟩), .pointer (some ⟨w.heap.size, 0, none⟩)] 89 (0, 0) = o1
  generalize ho3 : Obj.cells #[Value.int .i64 n, .int .i64 m, .int .i64 0, .map (some (w.heap.size + 1)), .pointer (some ⟨w.heap.size, 0, none⟩)] 92 (0, 0) = o3
  have s1 : (w.alloc o1).heap.size = w.heap.size + 1 := alloc_sz _ _
  have s2 : ((w.alloc o1).alloc (.map #[] 0)).heap.size = w.heap.size + 2 := by rw [alloc_sz, alloc_sz]
  have p1 : (((w.alloc o1).alloc (.map #[] 0)).alloc o3).heap[w.heap.size]? = some o1 := (Below.heap_alloc _ _ _ (by omega)).trans ((Below.heap_alloc _ _ _ (by omega)).trans (heap_alloc_last w o1))
  have p2 : (((w.alloc o1).alloc (.map #[] 0)).alloc o3).heap[w.heap.size + 1]? = some (.map #[] 0) := (Below.heap_alloc _ _ _ (by omega)).trans (by rw [← s1]; exact heap_alloc_last _ _)
  have p3 : (((w.alloc o1).alloc (.map #[] 0)).alloc o3).heap[w.heap.size + 2]? = some o3 := by rw [← s2]; exact heap_alloc_last _ _
  refine ⟨by rw [p3, ← ho3]; rfl, ⟨by unfold LnkV; rw [p1, ← ho1]; rfl, trivial⟩, ⟨#[], 0, p2, by simp [kvV, kvL], by simp [kvL]⟩, by simp, by simp [kvL], by simp, by simp, by simp⟩
end Go.Proofs.YtokhlmoanlcjmaaDoor
/- The contracts of budget.Budget over plain lists (printed by wip/tools/budh.py). -/
namespace Go.Proofs.YtokhlmoanlcjmaaDoor
open Go.RowKit
set_option maxRecDepth 100000

/-- A budget stands here, in these blocks, and keeps this. -/
def BQI (w : World) (fp : List Nat) (bl : Nat) (n m : Int) (es : List Ent) : Prop :=
  ∃ r M xs, fp = bl :: M :: r :: xs.map Prod.fst ∧ es = xs.map Prod.snd ∧ BudI w bl r M n m xs ∧ (1 ≤ n ∧ n ≤ 4096) ∧ (1 ≤ m ∧ m ≤ 1073741824) ∧ (es.length : Int) ≤ n ∧ sumE es ≤ m
/-- A call turned it to this. -/
def StI (w w' : World) (fp : List Nat) (bl : Nat) (n m : Int) (es : List Ent) : Prop := ∃ fp', BQI w' fp' bl n m es ∧ Touch fp w w' ∧ ∀ b ∈ fp', b ∈ fp ∨ w.heap.size ≤ b
theorem BQI.low {w : World} {fp : List Nat} {bl : Nat} {n m : Int} {es : List Ent} (h : BQI w fp bl n m es) : ∀ b ∈ fp, b < w.heap.size := by
  obtain ⟨r, M, xs, rfl, rfl, h, _⟩ := h
  exact h.low
theorem BQI.keep {w w' : World} {fp fp2 : List Nat} {bl : Nat} {n m : Int} {es : List Ent} (h : BQI w fp bl n m es) (ht : Touch fp2 w w') (hs : ∀ b ∈ fp, b ∉ fp2) : BQI w' fp bl n m es := by
  have hl := h.low
  obtain ⟨r, M, xs, rfl, rfl, h, r⟩ := h
  exact ⟨_, M, xs, rfl, rfl, h.of (fun b hb => ht.2.2.2.2 b (hl b hb) (hs b hb)), r⟩
theorem BQI.below {w w' : World} {fp : List Nat} {bl : Nat} {n m : Int} {es : List Ent} (h : BQI w fp bl n m es) (hb : Below w.heap.size w w') : BQI w' fp bl n m es := by
  have hl := h.low
  obtain ⟨r, M, xs, rfl, rfl, h, r⟩ := h
  exact ⟨_, M, xs, rfl, rfl, h.below hb hl, r⟩
theorem BQI.nd {w : World} {fp : List Nat} {bl : Nat} {n m : Int} {es : List Ent} (h : BQI w fp bl n m es) : (es.map (·.key)).Nodup := by
  obtain ⟨r, M, xs, rfl, rfl, h, _⟩ := h
  have := h.kn
  have e : (kvL xs).map Prod.fst = (xs.map Prod.snd).map (·.key) := by simp [kvL]
  rw [← e]; exact this
theorem BQI.sz {w : World} {fp : List Nat} {bl : Nat} {n m : Int} {es : List Ent} (h : BQI w fp bl n m es) : ∀ e ∈ es, (0 ≤ e.size ∧ e.size ≤ 1073741824) ∧ e.key.size ≤ maxLen := by
  obtain ⟨r, M, xs, rfl, rfl, h, _⟩ := h
  intro e he
  obtain ⟨p, hp, rfl⟩ := List.mem_map.1 he
  exact ⟨h.sz p hp, h.ks p hp⟩
theorem BQI.ends {w : World} {fp : List Nat} {bl : Nat} {n m : Int} {es : List Ent} (h : BQI w fp bl n m es) : (es.length : Int) ≤ n ∧ 0 ≤ sumE es ∧ sumE es ≤ m ∧ n ≤ 4096 ∧ m ≤ 1073741824 ∧ 1 ≤ n ∧ 1 ≤ m := by
  obtain ⟨r, M, xs, rfl, rfl, h, hn, hm, h1, h2⟩ := h
  have := sumL_nn h.sz h.len
  rw [sumL_map] at this
  exact ⟨h1, this.1, h2, hn.2, hm.2, hn.1, hm.1⟩
theorem StI.same {w : World} {fp : List Nat} {bl : Nat} {n m : Int} {es : List Ent} (h : BQI w fp bl n m es) : StI w w fp bl n m es := ⟨fp, h, Touch.refl _ _, fun _ hb => Or.inl hb⟩
theorem dropI_q {w : World} {fp : List Nat} {bl : Nat} {n m : Int} {es : List Ent} (h : BQI w fp bl n m es) (key : ByteArray) (hkey : key.size ≤ maxLen) :
    Calls Tryd.prog 32 #[.pointer (some ⟨bl, 0, none⟩), .string key] w fun x w' => x = .returned (.bool (hasE key es)) ∧ StI w w' fp bl n m (delE key es) := by
  obtain ⟨r, M, xs, rfl, rfl, h, hn, hm, h1, h2⟩ := h
  refine (dropI_all h key hkey).mono ?_
  rintro x w' ⟨rfl, ys, e1, e2, e3, hb, ht⟩
  refine ⟨rfl, _, ⟨r, M, ys, rfl, e1.symm, hb, hn, hm, ?_, ?_⟩, ht, fun b hb' => Or.inl (((((e2.map Prod.fst).cons_cons r).cons_cons M).cons_cons bl).subset hb')⟩
  · have := e2.length_le
    rw [← e1, List.length_map]
    rw [List.length_map] at h1
    omega
  · rw [← e1]
    exact Int.le_trans (sumE_sub (e2.map _) (fun e he => by obtain ⟨p, hp, rfl⟩ := List.mem_map.1 he; exact (h.sz p hp).1)) h2
theorem peekI_q {w : World} {fp : List Nat} {bl : Nat} {n m : Int} {es : List Ent} (h : BQI w fp bl n m es) (key : ByteArray) (hkey : key.size ≤ maxLen) :
    Calls Tryd.prog 31 #[.pointer (some ⟨bl, 0, none⟩), .string key] w fun x w' => x = .returned (.tuple #[(valE zeI.x key es).val, .bool (hasE key es)]) ∧ Below w.heap.size w w' := by
  obtain ⟨r, M, xs, rfl, rfl, h, hn, hm, h1, h2⟩ := h
  unfold valE hasE
  rcases split_keyL key xs h.kn with ⟨h1, h2, h3, h4⟩ | ⟨p, l, e, q, rfl, rfl, h3, h4, h5⟩
  · rw [h1]; exact peekI_none h key hkey h3
  · rw [h3]; exact peekI_any h (l := l) (e := e) (by simp)
theorem getI_q {w : World} {fp : List Nat} {bl : Nat} {n m : Int} {es : List Ent} (h : BQI w fp bl n m es) (key : ByteArray) (hkey : key.size ≤ maxLen) :
    Calls Tryd.prog 35 #[.pointer (some ⟨bl, 0, none⟩), .string key] w fun x w' => x = .returned (.tuple #[(valE zeI.x key es).val, .bool (hasE key es)]) ∧ StI w w' fp bl n m (getE key es) := by
  have h0 := h
  obtain ⟨r, M, xs, rfl, rfl, h, hn, hm, h1, h2⟩ := h
  unfold valE hasE getE
  rcases split_keyL key xs h.kn with ⟨e1, e2, e3, e4⟩ | ⟨p, l, e, q, rfl, rfl, e3, e4, e5⟩
  · rw [e1]
    refine (getI_none h key hkey e3).mono ?_
    rintro x w' ⟨rfl, hb⟩
    exact ⟨rfl, _, h0.below hb, Touch.of_below hb (Touch.refl _ _), fun _ hb => Or.inl hb⟩
  · rw [e3]
    refine (getI_any h).mono ?_
    rintro x w' ⟨rfl, hb, ht⟩
    refine ⟨rfl, _, ⟨r, M, p ++ q ++ [(l, e)], rfl, by show delE e.key ((p ++ (l, e) :: q).map Prod.snd) ++ [e] = _; rw [e4]; simp only [List.map_append, List.map_cons, List.map_nil], hb, hn, hm, ?_, ?_⟩, ht, fun b hb' => Or.inl ?_⟩
    · simp only [e4]
      simp only [List.length_append, List.length_map, List.length_cons, List.length_nil] at h1 ⊢
      omega
    · simp only [e4]
      simp only [List.map_append, List.map_cons, sumE_app, sumE] at h2 ⊢
      omega
    · simp only [List.map_append, List.map_cons, List.map_nil, List.mem_cons, List.mem_append, List.not_mem_nil, or_false] at hb' ⊢
      rcases hb' with h | h | h | (h | h) | h <;> simp [h]
theorem lenI_q {w : World} {fp : List Nat} {bl : Nat} {n m : Int} {es : List Ent} (h : BQI w fp bl n m es) :
    Calls Tryd.prog 38 #[.pointer (some ⟨bl, 0, none⟩)] w fun x w' => x = .returned (.int .i64 es.length) ∧ w = w' := by
  obtain ⟨r, M, xs, rfl, rfl, h, hn, hm, h1, h2⟩ := h
  refine (lenI_any h).mono ?_
  rintro x w' ⟨rfl, rfl⟩
  exact ⟨by rw [List.length_map]; rfl, rfl⟩
theorem bytesI_q {w : World} {fp : List Nat} {bl : Nat} {n m : Int} {es : List Ent} (h : BQI w fp bl n m es) :
    Calls Tryd.prog 39 #[.pointer (some ⟨bl, 0, none⟩)] w fun x w' => x = .returned (.int .i64 (sumE es)) ∧ w = w' := by
  obtain ⟨r, M, xs, rfl, rfl, h, hn, hm, h1, h2⟩ := h
  rw [← sumL_map]
  exact bytesI_any h
theorem keysI_q {w : World} {fp : List Nat} {bl : Nat} {n m : Int} {es : List Ent} (h : BQI w fp bl n m es) :
    Calls Tryd.prog 33 #[.pointer (some ⟨bl, 0, none⟩)] w (TextsPost w (strs (es.map (·.key)))) := by
  obtain ⟨r, M, xs, rfl, rfl, h, hn, hm, h1, h2⟩ := h
  have e : (xs.map Prod.snd).map (·.key) = keysL xs := by simp [keysL]
  rw [e]
  exact keysI_any h
theorem putI_q {w : World} {fp : List Nat} {bl : Nat} {n m : Int} {es : List Ent} (h : BQI w fp bl n m es) (key : ByteArray) (hkey : key.size ≤ maxLen) (s : Int) (x0 : Hv) :
    Calls Tryd.prog 29 #[.pointer (some ⟨bl, 0, none⟩), .string key, .int .i64 s, x0.val] w fun x w' => ∃ a cap fp', x = .returned (.slice a (putE n m key s x0 es).1.length cap) ∧ OwnS w.heap.size (.slice a (putE n m key s x0 es).1.length cap) (strs (putE n m key s x0 es).1) w' ∧
      BQI w' fp' bl n m (putE n m key s x0 es).2 ∧ Touch fp w w' ∧ (∀ b ∈ fp', b ∈ fp ∨ w.heap.size ≤ b) ∧ ∀ g, (Value.slice a (putE n m key s x0 es).1.length cap).ownBlock = some g → g ∉ fp' := by
  have hends : ((putE n m key s x0 es).2.length : Int) ≤ n ∧ sumE (putE n m key s x0 es).2 ≤ m := by
    have he := h.ends
    unfold putE
    split
    · have hs : (delE key es).Sublist es := List.filter_sublist
      have h1 := hs.length_le
      have h2 := sumE_sub hs (fun e he => (h.sz e he).1.1)
      exact ⟨by simp only; omega, by simp only; omega⟩
    · exact evE_end he.2.2.2.2.2.1 he.2.2.2.2.2.2 _
  obtain ⟨r, M, xs, rfl, rfl, h, hn, hm, h1, h2⟩ := h
  refine (putI_any h hn hm (by rw [List.length_map] at h1; exact h1) key hkey s x0).mono ?_
  rintro x w' ⟨a, cap, ys, rfl, e1, hb, hO, hg, ht, hf⟩
  exact ⟨a, cap, _, rfl, hO, ⟨r, M, ys, rfl, e1.symm, hb, hn, hm, hends.1, hends.2⟩, ht, hf, hg⟩
theorem newI_q (n m : Int) (w : World) (hn : 1 ≤ n ∧ n ≤ 4096) (hm : 1 ≤ m ∧ m ≤ 1073741824) :
    Calls Tryd.prog 26 #[.int .i64 n, .int .i64 m] w fun x w' => ∃ bl fp, x = .returned (.pointer (some ⟨bl, 0, none⟩)) ∧ BQI w' fp bl n m [] ∧ Below w.heap.size w w' ∧ ∀ b ∈ fp, w.heap.size ≤ b := by
  refine (newI_any n m w hn hm).mono ?_
  rintro x w' ⟨bl, r, M, rfl, hb, hbw, hf⟩
  exact ⟨bl, _, rfl, ⟨r, M, [], rfl, rfl, hb, hn, hm, by simp; omega, by simp [sumE]; omega⟩, hbw, hf⟩
/-- What kinds of blocks a budget stands in. -/
theorem BQI.kind {w : World} {fp : List Nat} {bl : Nat} {n m : Int} {es : List Ent} (h : BQI w fp bl n m es) : ∀ b ∈ fp, ∀ cs T z, w.heap[b]? = some (.cells cs T z) → T = 89 ∨ T = 92 := by
  obtain ⟨r, M, xs, rfl, rfl, h, hn, hm, h1, h2⟩ := h
  intro b hb cs T z hc
  rcases List.mem_cons.1 hb with rfl | hb
  · rw [h.blk] at hc
    injection hc with hc
    injection hc with _ hc _
    exact Or.inr hc.symm
  rcases List.mem_cons.1 hb with rfl | hb
  · obtain ⟨es, cl, h3, _⟩ := h.mp
    rw [h3] at hc
    cases hc
  · obtain ⟨e, va, vf, h3⟩ := h.ring.at b hb
    unfold LnkV at h3
    rw [h3] at hc
    injection hc with hc
    injection hc with _ hc _
    exact Or.inl hc.symm
end Go.Proofs.YtokhlmoanlcjmaaDoor
