/- Budgets: the links, the map, the list; no walk in sight. -/
import Derived.Test.YtheblhgmfkpllaaKit
import Derived.Maps.Keyed
import Derived.StringKeys
import Derived.ChangeMaps
namespace Go.Proofs.Ytheblhgmfkpllaa
open Go.RowKit

/-- What a link holds. -/
structure Ent where
  key : ByteArray
  size : Int
  x : Value
abbrev Lk := Nat × Ent
def ptr (b : Nat) : Value := .pointer (some ⟨b, 0, none⟩)
def hd (xs : List Lk) (z : Nat) : Nat := match xs with
  | [] => z
  | (b, _) :: _ => b
def lst : Nat → List Lk → Nat
  | a, [] => a
  | _, (b, _) :: t => lst b t
theorem hd_app (p q : List Lk) (z : Nat) : hd (p ++ q) z = hd p (hd q z) := by cases p <;> rfl
theorem lst_app : ∀ (p q : List Lk) (a : Nat), lst a (p ++ q) = lst (lst a p) q
  | [], _, _ => rfl
  | (b, _) :: t, q, _ => lst_app t q b
theorem hd_mem {xs : List Lk} {z : Nat} : hd xs z ∈ xs.map Prod.fst ∨ (xs = [] ∧ hd xs z = z) := by
  cases xs with
  | nil => exact Or.inr ⟨rfl, rfl⟩
  | cons p t => exact Or.inl (by simp [hd])
theorem lst_mem : ∀ {xs : List Lk} {a : Nat}, lst a xs ∈ xs.map Prod.fst ∨ (xs = [] ∧ lst a xs = a)
  | [], _ => Or.inr ⟨rfl, rfl⟩
  | (b, e) :: t, a => by
    left
    rcases @lst_mem t b with h | ⟨rfl, h⟩
    · rw [lst, List.map_cons]; exact List.mem_cons_of_mem _ h
    · rw [lst, List.map_cons]; simp [h]

section
variable (LT : TypeId)
def LnkV (w : World) (b : Nat) (e : Ent) (va vf : Value) : Prop := w.heap[b]? = some (.cells #[.string e.key, .int .i64 e.size, e.x, va, vf] LT (0, 0))
variable {LT}
theorem LnkV.set3 {w : World} {b : Nat} {e : Ent} {va vf : Value} (h : LnkV LT w b e va vf) (v : Value) : LnkV LT (w.setCell ⟨b, 3, none⟩ v) b e v vf := by
  unfold LnkV at *; simp [World.setCell, Array.getElem?_modify, h]
theorem LnkV.set4 {w : World} {b : Nat} {e : Ent} {va vf : Value} (h : LnkV LT w b e va vf) (v : Value) : LnkV LT (w.setCell ⟨b, 4, none⟩ v) b e va v := by
  unfold LnkV at *; simp [World.setCell, Array.getElem?_modify, h]
theorem heap_set_ne (w : World) (c j b : Nat) (v : Value) (h : b ≠ c) : (w.setCell ⟨c, j, none⟩ v).heap[b]? = w.heap[b]? := Below.heap_setCell _ _ _ _ h
theorem LnkV.other {w : World} {b c j : Nat} {e : Ent} {va vf v : Value} (h : LnkV LT w b e va vf) (hne : b ≠ c) : LnkV LT (w.setCell ⟨c, j, none⟩ v) b e va vf := (heap_set_ne w c j b v hne).trans h
theorem LnkV.of {w w' : World} {b : Nat} {e : Ent} {va vf : Value} (h : LnkV LT w b e va vf) (hb : w'.heap[b]? = w.heap[b]?) : LnkV LT w' b e va vf := hb.trans h
theorem LnkV.cells {w : World} {b : Nat} {e : Ent} {va vf : Value} (h : LnkV LT w b e va vf) : w.cell? ⟨b, 0, none⟩ = some (.string e.key) ∧ w.cell? ⟨b, 1, none⟩ = some (.int .i64 e.size) ∧ w.cell? ⟨b, 2, none⟩ = some e.x ∧ w.cell? ⟨b, 3, none⟩ = some va ∧ w.cell? ⟨b, 4, none⟩ = some vf ∧ (∀ j, w.frozen? ⟨b, j, none⟩ = false) ∧ b < w.heap.size := by
  have hl : b < w.heap.size := by
    rcases Nat.lt_or_ge b w.heap.size with h' | h'
    · exact h'
    · unfold LnkV at h; simp [Array.getElem?_eq_none h'] at h
  unfold LnkV at h
  refine ⟨?_, ?_, ?_, ?_, ?_, fun j => ?_, hl⟩ <;> simp [World.cell?, World.frozen?, h]
variable (LT)
def Seg (w : World) : Nat → List Lk → Nat → Prop
  | _, [], _ => True
  | a, (b, e) :: t, z => LnkV LT w b e (ptr a) (ptr (hd t z)) ∧ Seg w b t z
variable {LT}
theorem Seg.of {w w' : World} : ∀ {xs : List Lk} {a z : Nat}, Seg LT w a xs z → (∀ b ∈ xs.map Prod.fst, w'.heap[b]? = w.heap[b]?) → Seg LT w' a xs z
  | [], _, _, _, _ => trivial
  | (b, e) :: t, a, z, h, hb => ⟨h.1.of (hb b (by simp)), h.2.of (fun c hc => hb c (by rw [List.map_cons]; exact List.mem_cons_of_mem _ hc))⟩
theorem seg_app {w : World} : ∀ {p q : List Lk} {a z : Nat}, Seg LT w a (p ++ q) z ↔ Seg LT w a p (hd q z) ∧ Seg LT w (lst a p) q z
  | [], q, a, z => ⟨fun h => ⟨trivial, h⟩, fun h => h.2⟩
  | (b, e) :: t, q, a, z => by
    have ih := @seg_app w t q b z
    show (LnkV LT w b e (ptr a) (ptr (hd (t ++ q) z)) ∧ Seg LT w b (t ++ q) z) ↔ (LnkV LT w b e (ptr a) (ptr (hd t (hd q z))) ∧ Seg LT w b t (hd q z)) ∧ Seg LT w (lst b t) q z
    rw [ih, hd_app]
    exact ⟨fun ⟨h1, h2, h3⟩ => ⟨⟨h1, h2⟩, h3⟩, fun ⟨⟨h1, h2⟩, h3⟩ => ⟨h1, h2, h3⟩⟩
/-- The last one's way on is turned. -/
theorem Seg.setF {w : World} {p : List Lk} {a z z' : Nat} (h : Seg LT w a p z) (hne : p ≠ []) (hnd : (p.map Prod.fst).Nodup) : Seg LT (w.setCell ⟨lst a p, 4, none⟩ (ptr z')) a p z' := by
  obtain ⟨q, ⟨b, e⟩, rfl⟩ : ∃ q y, p = q ++ [y] := ⟨p.dropLast, p.getLast hne, (List.dropLast_concat_getLast hne).symm⟩
  rw [seg_app] at h ⊢
  rw [lst_app]
  show Seg LT _ a q b ∧ (LnkV LT _ b e _ _ ∧ True)
  have hb : b ∉ q.map Prod.fst := by
    rw [List.map_append, List.nodup_append] at hnd
    intro hm
    exact hnd.2.2 b hm b (by simp) rfl
  refine ⟨h.1.of (fun c hc => heap_set_ne _ _ _ _ _ (fun (x : c = b) => hb (by rw [← x]; exact hc))), h.2.1.set4 _, trivial⟩
/-- The first one's way back is turned. -/
theorem Seg.setA {w : World} {b : Nat} {e : Ent} {t : List Lk} {a a' z : Nat} (h : Seg LT w a ((b, e) :: t) z) (hb : b ∉ t.map Prod.fst) : Seg LT (w.setCell ⟨b, 3, none⟩ (ptr a')) a' ((b, e) :: t) z :=
  ⟨h.1.set3 _, h.2.of (fun c hc => heap_set_ne _ _ _ _ _ (fun x => hb (by rw [← x]; exact hc)))⟩
variable (LT)
def Ring (ze : Ent) (w : World) (r : Nat) (xs : List Lk) : Prop := LnkV LT w r ze (ptr (lst r xs)) (ptr (hd xs r)) ∧ Seg LT w r xs r
variable {LT}
theorem Ring.of {ze : Ent} {w w' : World} {r : Nat} {xs : List Lk} (h : Ring LT ze w r xs) (hb : ∀ b ∈ r :: xs.map Prod.fst, w'.heap[b]? = w.heap[b]?) : Ring LT ze w' r xs :=
  ⟨h.1.of (hb r (by simp)), h.2.of (fun b h' => hb b (List.mem_cons_of_mem _ h'))⟩
theorem Seg.at {w : World} : ∀ {xs : List Lk} {a z : Nat}, Seg LT w a xs z → ∀ c ∈ xs.map Prod.fst, ∃ e va vf, LnkV LT w c e va vf
  | (b, e) :: t, a, z, h, c, hc => by
    rw [List.map_cons] at hc
    rcases List.mem_cons.1 hc with rfl | hc
    · exact ⟨_, _, _, h.1⟩
    · exact h.2.at c hc
theorem Seg.mem {w : World} : ∀ {xs : List Lk} {a z : Nat}, Seg LT w a xs z → ∀ {l : Nat} {e : Ent}, (l, e) ∈ xs → ∃ va vf, LnkV LT w l e va vf
  | (b, e) :: t, a, z, h, l, e', hc => by
    rcases List.mem_cons.1 hc with hc | hc
    · cases hc; exact ⟨_, _, h.1⟩
    · exact h.2.mem hc
theorem Ring.at {ze : Ent} {w : World} {r : Nat} {xs : List Lk} (h : Ring LT ze w r xs) (c : Nat) (hc : c ∈ r :: xs.map Prod.fst) : ∃ e va vf, LnkV LT w c e va vf := by
  rcases List.mem_cons.1 hc with rfl | hc
  · exact ⟨_, _, _, h.1⟩
  · exact h.2.at c hc
/-- A link is taken out. -/
theorem Ring.out {ze : Ent} {w : World} {r l : Nat} {e : Ent} {p q : List Lk} (h : Ring LT ze w r (p ++ (l, e) :: q)) (hnd : (r :: (p ++ (l, e) :: q).map Prod.fst).Nodup) :
    Ring LT ze ((w.setCell ⟨lst r p, 4, none⟩ (ptr (hd q r))).setCell ⟨hd q r, 3, none⟩ (ptr (lst r p))) r (p ++ q) := by
  obtain ⟨hr, hs⟩ := h
  rw [seg_app] at hs
  obtain ⟨h1, h2⟩ := hs
  have h2' : Seg LT w l q r := h2.2
  have h1' : Seg LT w r p l := h1
  rw [lst_app, hd_app] at hr
  have hr' : LnkV LT w r ze (ptr (lst l q)) (ptr (hd p l)) := hr
  rw [List.nodup_cons, List.map_append, List.map_cons, List.nodup_append] at hnd
  obtain ⟨hrn, hpn, hqn, hpq⟩ := hnd
  rw [List.nodup_cons] at hqn
  have hrp : r ∉ p.map Prod.fst := fun hm => hrn (List.mem_append_left _ hm)
  have hrq : r ∉ q.map Prod.fst := fun hm => hrn (List.mem_append_right _ (List.mem_cons_of_mem _ hm))
  have hpq' : ∀ a ∈ p.map Prod.fst, ∀ b ∈ q.map Prod.fst, a ≠ b := fun a ha b hb => hpq a ha b (List.mem_cons_of_mem _ hb)
  have sp : Seg LT ((w.setCell ⟨lst r p, 4, none⟩ (ptr (hd q r))).setCell ⟨hd q r, 3, none⟩ (ptr (lst r p))) r p (hd q r) := by
    by_cases hp : p = []
    · subst hp; trivial
    · refine (h1'.setF hp hpn).of (fun c hc => heap_set_ne _ _ _ _ _ ?_)
      rintro rfl
      rcases @hd_mem q r with hm | ⟨_, hm⟩
      · exact hpq' _ hc _ hm rfl
      · rw [hm] at hc; exact hrp hc
  have sq : Seg LT ((w.setCell ⟨lst r p, 4, none⟩ (ptr (hd q r))).setCell ⟨hd q r, 3, none⟩ (ptr (lst r p))) (lst r p) q r := by
    cases q with
    | nil => trivial
    | cons y t =>
      obtain ⟨z, ez⟩ := y
      have h3 : Seg LT (w.setCell ⟨lst r p, 4, none⟩ (ptr (hd ((z, ez) :: t) r))) l ((z, ez) :: t) r := h2'.of (fun c hc => heap_set_ne _ _ _ _ _ (by
        rintro rfl
        rcases @lst_mem p r with hm | ⟨_, hm⟩
        · exact hpq' _ hm _ hc rfl
        · rw [hm] at hc; exact hrq hc))
      have hz : z ∉ t.map Prod.fst := by have := hqn.2; rw [List.map_cons, List.nodup_cons] at this; exact this.1
      exact h3.setA hz
  refine ⟨?_, seg_app.2 ⟨sp, sq⟩⟩
  rw [lst_app, hd_app]
  by_cases hp : p = []
  · subst hp
    have k := hr'.set4 (ptr (hd q r))
    by_cases hq : q = []
    · subst hq
      exact k.set3 (ptr r)
    · have hne : r ≠ hd q r := by
        intro x
        rcases @hd_mem q r with hm | ⟨hm, _⟩
        · exact hrq (by rw [x]; exact hm)
        · exact hq hm
      have := k.other (c := hd q r) (j := 3) (v := ptr r) hne
      have e : lst l q = lst r q := by
        cases q with
        | nil => exact absurd rfl hq
        | cons y t => rfl
      rw [e] at this
      exact this
  · have hl : lst r p ≠ r := by
      intro x
      rcases @lst_mem p r with hm | ⟨hm, _⟩
      · rw [x] at hm; exact hrp hm
      · exact hp hm
    have e2 : hd p l = hd p (hd q r) := by
      cases p with
      | nil => exact absurd rfl hp
      | cons y t => rfl
    rw [e2] at hr'
    have k := hr'.other (c := lst r p) (j := 4) (v := ptr (hd q r)) (fun x => hl x.symm)
    by_cases hq : q = []
    · subst hq
      exact k.set3 (ptr (lst r p))
    · have hne : r ≠ hd q r := by
        intro x
        rcases @hd_mem q r with hm | ⟨hm, _⟩
        · exact hrq (by rw [x]; exact hm)
        · exact hq hm
      have := k.other (c := hd q r) (j := 3) (v := ptr (lst r p)) hne
      have e : lst l q = lst (lst r p) q := by
        cases q with
        | nil => exact absurd rfl hq
        | cons y t => rfl
      rw [e] at this
      exact this
/-- A link is put at the end. -/
theorem Ring.last {ze : Ent} {w : World} {r l : Nat} {e : Ent} {va vf : Value} {xs : List Lk} (h : Ring LT ze w r xs) (hl : LnkV LT w l e va vf) (hnd : (r :: xs.map Prod.fst).Nodup) (hln : l ∉ r :: xs.map Prod.fst) :
    Ring LT ze ((((w.setCell ⟨l, 3, none⟩ (ptr (lst r xs))).setCell ⟨l, 4, none⟩ (ptr r)).setCell ⟨lst r xs, 4, none⟩ (ptr l)).setCell ⟨r, 3, none⟩ (ptr l)) r (xs ++ [(l, e)]) := by
  obtain ⟨hr, hs⟩ := h
  have hlr : l ≠ r := fun x => hln (by simp [x])
  have hlx : l ∉ xs.map Prod.fst := fun x => hln (List.mem_cons_of_mem _ x)
  rw [List.nodup_cons] at hnd
  have hll : l ≠ lst r xs := by
    rcases @lst_mem xs r with hm | ⟨_, hm⟩
    · intro x; exact hlx (by rw [x]; exact hm)
    · rw [hm]; exact hlr
  have hr2 := (hr.other (c := l) (j := 3) (v := ptr (lst r xs)) hlr.symm).other (c := l) (j := 4) (v := ptr r) hlr.symm
  have hs2 : Seg LT ((w.setCell ⟨l, 3, none⟩ (ptr (lst r xs))).setCell ⟨l, 4, none⟩ (ptr r)) r xs r := hs.of (fun c hc => by
    have hne : c ≠ l := fun x => hlx (by rw [← x]; exact hc)
    rw [heap_set_ne _ _ _ _ _ hne, heap_set_ne _ _ _ _ _ hne])
  have hl2 := ((hl.set3 (ptr (lst r xs))).set4 (ptr r)).other (c := lst r xs) (j := 4) (v := ptr l) hll
  have hl3 := hl2.other (c := r) (j := 3) (v := ptr l) hlr
  generalize (w.setCell ⟨l, 3, none⟩ (ptr (lst r xs))).setCell ⟨l, 4, none⟩ (ptr r) = w2 at *
  refine ⟨?_, seg_app.2 ⟨?_, hl3, trivial⟩⟩
  · rw [lst_app, hd_app]
    by_cases hx : xs = []
    · subst hx
      exact (hr2.set4 (ptr l)).set3 (ptr l)
    · have hne : r ≠ lst r xs := by
        intro x
        rcases @lst_mem xs r with hm | ⟨hm, _⟩
        · rw [← x] at hm; exact hnd.1 hm
        · exact hx hm
      have := (hr2.other (c := lst r xs) (j := 4) (v := ptr l) hne).set3 (ptr l)
      have e2 : hd xs r = hd xs (hd [(l, e)] r) := by
        cases xs with
        | nil => exact absurd rfl hx
        | cons y t => rfl
      rw [e2] at this
      exact this
  · by_cases hx : xs = []
    · subst hx; trivial
    · exact (hs2.setF hx hnd.2).of (fun c hc => heap_set_ne _ _ _ _ _ (fun x => hnd.1 (by rw [← x]; exact hc)))
end

/-! The map, in a view of its own. -/
def kvV (kv : List (ByteArray × Nat)) : List (Value × Value) := kv.map fun p => (.string p.1, ptr p.2)
def MapV (w : World) (M : Nat) (kv : List (ByteArray × Nat)) : Prop :=
  ∃ es clock, w.heap[M]? = some (.map es clock) ∧ (es.toList.map fun e => (e.key, e.val)).Perm (kvV kv) ∧ ∀ p ∈ kv, p.1.size ≤ maxLen
def blkOf (kv : List (ByteArray × Nat)) (k : ByteArray) : Option Nat := (kv.find? fun p => p.1.data.toList == k.data.toList).map Prod.snd
def ptrO : Option Nat → Value
  | none => .pointer none
  | some b => ptr b
theorem MapV.of {w w' : World} {M : Nat} {kv : List (ByteArray × Nat)} (h : MapV w M kv) (hb : w'.heap[M]? = w.heap[M]?) : MapV w' M kv := by
  obtain ⟨es, clock, h1, h2⟩ := h
  exact ⟨es, clock, hb.trans h1, h2⟩
def kvL (xs : List Lk) : List (ByteArray × Nat) := xs.map fun p => (p.2.key, p.1)
def sumL : List Lk → Int
  | [] => 0
  | (_, e) :: t => e.size + sumL t
theorem sumL_app : ∀ (p q : List Lk), sumL (p ++ q) = sumL p + sumL q
  | [], q => by simp [sumL]
  | (b, e) :: t, q => by rw [List.cons_append, sumL, sumL, sumL_app t q]; omega
theorem sumL_le : ∀ (xs : List Lk), (∀ p ∈ xs, 0 ≤ p.2.size ∧ p.2.size ≤ 1073741824) → 0 ≤ sumL xs ∧ sumL xs ≤ xs.length * 1073741824
  | [], _ => by simp [sumL]
  | (b, e) :: t, h => by
    have ih := sumL_le t (fun p hp => h p (by simp [hp]))
    have := h (b, e) (by simp)
    simp only at this
    rw [sumL, List.length_cons]
    omega
/-- Nothing that was there turned, but for these blocks. -/
def Touch (fp : List Nat) (w w' : World) : Prop := w'.os = w.os ∧ w'.tape = w.tape ∧ w'.output = w.output ∧ w.heap.size ≤ w'.heap.size ∧ ∀ b, b < w.heap.size → b ∉ fp → w'.heap[b]? = w.heap[b]?
theorem Touch.refl (fp : List Nat) (w : World) : Touch fp w w := ⟨rfl, rfl, rfl, Nat.le_refl _, fun _ _ _ => rfl⟩
theorem Touch.drewN {fp : List Nat} {w w' : World} (h : Touch fp w w') (n : Nat) : Touch fp w (w'.drewN n) := h
theorem Touch.drew {fp : List Nat} {w w' : World} (h : Touch fp w w') : Touch fp w w'.drew := h
theorem Touch.setCell {fp : List Nat} {w w' : World} (h : Touch fp w w') (c j : Nat) (v : Value) (hc : c ∈ fp) : Touch fp w (w'.setCell ⟨c, j, none⟩ v) :=
  ⟨h.1, h.2.1, h.2.2.1, Nat.le_trans h.2.2.2.1 (by simp), fun b hb hn => (heap_set_ne _ _ _ _ _ (fun e => hn (by rw [e]; exact hc))).trans (h.2.2.2.2 b hb hn)⟩
end Go.Proofs.Ytheblhgmfkpllaa
