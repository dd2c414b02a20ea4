/- Budgets: what is kept and what goes, in plain lists; no walk in sight. -/
import Derived.Test.YtheblhgmfkpllaaBudMap
import Derived.Test.YtheblhgmfkpllaaOwn
import Derived.LaidEql
namespace Go.Proofs.Ytheblhgmfkpllaa
open Go.RowKit

def keyIs (k : ByteArray) (e : Ent) : Bool := e.key.data.toList == k.data.toList
theorem keyIs_iff {k : ByteArray} {e : Ent} : keyIs k e = true ↔ e.key = k := by
  unfold keyIs
  constructor
  · intro h; exact str_eq _ _ (by simpa using h)
  · rintro rfl; simp
theorem keyIs_false {k : ByteArray} {e : Ent} : keyIs k e = false ↔ e.key ≠ k := by
  rw [← Bool.not_eq_true, keyIs_iff]
def delE (k : ByteArray) (es : List Ent) : List Ent := es.filter fun e => !keyIs k e
def findE (k : ByteArray) (es : List Ent) : Option Ent := es.find? (keyIs k)
def hasE (k : ByteArray) (es : List Ent) : Bool := (findE k es).isSome
def getE (k : ByteArray) (es : List Ent) : List Ent := match findE k es with
  | none => es
  | some e => delE k es ++ [e]
def sumE : List Ent → Int
  | [] => 0
  | e :: t => e.size + sumE t
def overE (n m : Int) (es : List Ent) : Bool := decide (n < (es.length : Int)) || decide (m < sumE es)
def evE (n m : Int) : List Ent → List ByteArray × List Ent
  | [] => ([], [])
  | e :: t => if overE n m (e :: t) then (e.key :: (evE n m t).1, (evE n m t).2) else ([], e :: t)
def putE (n m : Int) (k : ByteArray) (s : Int) (x : Value) (es : List Ent) : List ByteArray × List Ent :=
  if m < s then (if hasE k es then [k] else [], delE k es) else evE n m (delE k es ++ [⟨k, max 0 s, x⟩])
theorem sumE_app : ∀ (p q : List Ent), sumE (p ++ q) = sumE p + sumE q
  | [], q => by simp [sumE]
  | e :: t, q => by rw [List.cons_append, sumE, sumE, sumE_app t q]; omega
theorem sumL_map : ∀ (xs : List Lk), sumL xs = sumE (xs.map Prod.snd)
  | [] => rfl
  | (b, e) :: t => by rw [sumL, List.map_cons, sumE, sumL_map t]
/-- A key is there once, or nowhere. -/
theorem split_key (k : ByteArray) : ∀ (es : List Ent), (es.map (·.key)).Nodup → (findE k es = none ∧ delE k es = es ∧ ∀ e ∈ es, e.key ≠ k) ∨ ∃ p e q, es = p ++ e :: q ∧ e.key = k ∧ findE k es = some e ∧ delE k es = p ++ q
  | [], _ => Or.inl ⟨rfl, rfl, by simp⟩
  | x :: t, h => by
    rw [List.map_cons, List.nodup_cons] at h
    by_cases hx : x.key = k
    · right
      refine ⟨[], x, t, rfl, hx, ?_, ?_⟩
      · unfold findE; rw [List.find?_cons, keyIs_iff.2 hx]
      · unfold delE
        rw [List.filter_cons, keyIs_iff.2 hx]
        simp only [Bool.not_true, Bool.false_eq_true, if_false, List.nil_append]
        rw [List.filter_eq_self]
        intro e he
        have : e.key ≠ k := fun e2 => h.1 (List.mem_map.2 ⟨e, he, by rw [e2, hx]⟩)
        rw [keyIs_false.2 this]; rfl
    · have hx2 := keyIs_false.2 hx
      rcases split_key k t h.2 with ⟨h1, h2, h3⟩ | ⟨p, e, q, h1, h2, h3, h4⟩
      · left
        refine ⟨?_, ?_, ?_⟩
        · unfold findE at *; rw [List.find?_cons, hx2]; exact h1
        · unfold delE at *; rw [List.filter_cons, hx2]; simp [h2]
        · intro e he
          rcases List.mem_cons.1 he with rfl | he
          · exact hx
          · exact h3 e he
      · right
        refine ⟨x :: p, e, q, by rw [h1]; rfl, h2, ?_, ?_⟩
        · unfold findE at *; rw [List.find?_cons, hx2]; exact h3
        · unfold delE at *; rw [List.filter_cons, hx2]; simp [h4]
/-- The same of the links. -/
theorem split_keyL (k : ByteArray) : ∀ (xs : List Lk), ((kvL xs).map Prod.fst).Nodup → (findE k (xs.map Prod.snd) = none ∧ delE k (xs.map Prod.snd) = xs.map Prod.snd ∧ blkOf (kvL xs) k = none ∧ ∀ p ∈ xs, p.2.key ≠ k) ∨
    ∃ p l e q, xs = p ++ (l, e) :: q ∧ e.key = k ∧ findE k (xs.map Prod.snd) = some e ∧ delE k (xs.map Prod.snd) = (p ++ q).map Prod.snd ∧ ∀ x ∈ p ++ q, x.2.key ≠ k := by
  intro xs hnd
  have hk : (kvL xs).map Prod.fst = (xs.map Prod.snd).map (·.key) := by simp [kvL]
  rw [hk] at hnd
  rcases split_key k (xs.map Prod.snd) hnd with ⟨h1, h2, h3⟩ | ⟨p, e, q, h1, h2, h3, h4⟩
  · left
    refine ⟨h1, h2, blk_none (fun x hx => ?_), fun x hx => h3 _ (List.mem_map.2 ⟨x, hx, rfl⟩)⟩
    unfold kvL at hx
    obtain ⟨y, hy, rfl⟩ := List.mem_map.1 hx
    exact h3 _ (List.mem_map.2 ⟨y, hy, rfl⟩)
  · right
    obtain ⟨p', r', rfl, rfl, h5⟩ := List.map_eq_append_iff.1 h1
    obtain ⟨⟨l, e'⟩, q', rfl, rfl, rfl⟩ := List.map_eq_cons_iff.1 h5
    refine ⟨p', l, e', q', rfl, h2, h3, by rw [h4, List.map_append], fun x hx e2 => ?_⟩
    rw [List.map_append, List.map_cons, List.map_append, List.map_cons] at hnd
    have hp := (List.perm_middle (a := e'.key) (l₁ := (p'.map Prod.snd).map (·.key)) (l₂ := (q'.map Prod.snd).map (·.key))).nodup_iff.1 hnd
    rw [List.nodup_cons] at hp
    refine hp.1 ?_
    rw [h2, ← e2, ← List.map_append, ← List.map_append]
    exact List.mem_map.2 ⟨x.2, List.mem_map.2 ⟨x, hx, rfl⟩, rfl⟩
theorem evE_len (n m : Int) : ∀ (es : List Ent), (evE n m es).1.length ≤ es.length ∧ (evE n m es).2.length ≤ es.length
  | [] => ⟨Nat.le_refl _, Nat.le_refl _⟩
  | e :: t => by
    have ih := evE_len n m t
    rw [evE]
    split
    · simp only [List.length_cons]; omega
    · simp
theorem evE_end {n m : Int} (hn : 1 ≤ n) (hm : 1 ≤ m) : ∀ (es : List Ent), ((evE n m es).2.length : Int) ≤ n ∧ sumE (evE n m es).2 ≤ m
  | [] => by rw [evE]; simp only [List.length_nil, sumE]; omega
  | e :: t => by
    have ih := evE_end hn hm t
    rw [evE]
    split
    · exact ih
    · rename_i h
      unfold overE at h
      simp at h
      simp only [List.length_cons]
      exact ⟨by omega, h.2⟩
theorem Touch.mono {fp fp' : List Nat} {w w' : World} (h : Touch fp w w') (hs : ∀ b ∈ fp, b ∈ fp' ∨ w.heap.size ≤ b) : Touch fp' w w' :=
  ⟨h.1, h.2.1, h.2.2.1, h.2.2.2.1, fun b hb hn => h.2.2.2.2 b hb (fun x => by
    rcases hs b x with h' | h'
    · exact hn h'
    · omega)⟩
theorem Touch.trans {fp fp' : List Nat} {w w1 w' : World} (h : Touch fp w w1) (h2 : Touch fp' w1 w') (hs : ∀ b ∈ fp', b ∈ fp ∨ w.heap.size ≤ b) : Touch fp w w' :=
  ⟨h2.1.trans h.1, h2.2.1.trans h.2.1, h2.2.2.1.trans h.2.2.1, Nat.le_trans h.2.2.2.1 h2.2.2.2.1, fun b hb hn => (h2.2.2.2.2 b (Nat.lt_of_lt_of_le hb h.2.2.2.1) (fun x => by
    rcases hs b x with h' | h'
    · exact hn h'
    · omega)).trans (h.2.2.2.2 b hb hn)⟩
theorem Touch.below {fp : List Nat} {w w' : World} {B : Nat} (h : Touch fp w w') (hs : ∀ b ∈ fp, B ≤ b) (hB : B ≤ w.heap.size) : Below B w w' :=
  ⟨h.1, h.2.1, h.2.2.1, h.2.2.2.1, fun b hb => h.2.2.2.2 b (by omega) (fun x => by have := hs b x; omega)⟩
theorem Touch.ofBelow {fp : List Nat} {w w' : World} {B : Nat} (h : Below B w w') (hs : ∀ b, B ≤ b → b < w.heap.size → b ∈ fp) : Touch fp w w' :=
  ⟨h.os, h.tape, h.output, h.size, fun b hb hn => h.block b (by
    rcases Nat.lt_or_ge b B with h' | h'
    · exact h'
    · exact absurd (hs b h' hb) hn)⟩
theorem Touch.kept {w w' : World} (h : Below w.heap.size w w') (fp : List Nat) : Touch fp w w' := Touch.ofBelow h (fun b h1 h2 => absurd h2 (by omega))

section
variable {P : Program} {w : World} {tp te : TypeId} {n : Nat}
theorem neq_ptr_same (hp : P.underlying tp = some (.pointer te)) (hte : (P.info? te).map (·.size) = some (n + 1)) (a : Nat) : (binOp .neq tp (.pointer (some ⟨a, 0, none⟩)) (.pointer (some ⟨a, 0, none⟩))).run P w = .ok (.bool false) w := by
  obtain ⟨j, hj, _⟩ := Option.map_eq_some_iff.1 hte
  have h : ∀ d : Nat, (Op.equalIn (d + 1) tp (.pointer (some ⟨a, 0, none⟩)) (.pointer (some ⟨a, 0, none⟩))).run P w = .ok true w := fun d => by
    simp [Op.equalIn, run_underlying hp, typeInfo, sizeOf, run_sameAddr_same, hj]
  simp only [binOp]
  simp [Op.equal, Op.maxDepth, h 9999]
theorem neq_ptr_other (hp : P.underlying tp = some (.pointer te)) (hte : (P.info? te).map (·.size) = some (n + 1)) {a b : Nat} {ca cb : Array Value} {ta tb : TypeId} (hne : a ≠ b) (ha : w.heap[a]? = some (.cells ca ta (0, 0))) (hb : w.heap[b]? = some (.cells cb tb (0, 0))) :
    (binOp .neq tp (.pointer (some ⟨a, 0, none⟩)) (.pointer (some ⟨b, 0, none⟩))).run P w = .ok (.bool true) w := by
  obtain ⟨j, hj, hs⟩ := Option.map_eq_some_iff.1 hte
  have hne2 : (⟨a, 0, none⟩ : Addr) ≠ ⟨b, 0, none⟩ := fun e => by cases e; exact hne rfl
  have h : ∀ d : Nat, (Op.equalIn (d + 1) tp (.pointer (some ⟨a, 0, none⟩)) (.pointer (some ⟨b, 0, none⟩))).run P w = .ok false w := fun d => by
    simp [Op.equalIn, run_underlying hp, typeInfo, sizeOf, run_sameAddr_other w hne2 ha hb, hj, hs]
  simp only [binOp]
  simp [Op.equal, Op.maxDepth, h 9999]
end
theorem Touch.alloc {fp : List Nat} {w w' : World} (h : Touch fp w w') (o : Obj) : Touch fp w (w'.alloc o) :=
  ⟨h.1, h.2.1, h.2.2.1, by have := h.2.2.2.1; simp only [World.alloc, Array.size_push]; omega, fun b hb hn => (Below.heap_alloc _ _ _ (Nat.lt_of_lt_of_le hb h.2.2.2.1)).trans (h.2.2.2.2 b hb hn)⟩
def strs (ks : List ByteArray) : List (List UInt8) := ks.map fun k => k.data.toList
theorem str_back (k : ByteArray) : (⟨k.data.toList.toArray⟩ : ByteArray) = k := by cases k; simp
theorem sumL_nn {xs : List Lk} (h : ∀ p ∈ xs, 0 ≤ p.2.size ∧ p.2.size ≤ 1073741824) (hl : xs.length ≤ 5000) : 0 ≤ sumL xs ∧ sumL xs ≤ 5368709120000 := by
  have := sumL_le xs h
  omega
theorem OwnS.touch {B : Nat} {v : Value} {ls : List (List UInt8)} {w w' : World} {fp : List Nat} (h : OwnS B v ls w) (ht : Touch fp w w') (hfp : ∀ b ∈ fp, b < B ∨ w.heap.size ≤ b) : OwnS B v ls w' := by
  obtain ⟨h1, h2⟩ := h
  refine ⟨h1, ?_⟩
  rcases h2 with h2 | ⟨g, cap, cur, hv, hg, hh, r⟩
  · exact Or.inl h2
  · refine Or.inr ⟨g, cap, cur, hv, hg, ?_, r⟩
    have hlt : g < w.heap.size := by
      rcases Nat.lt_or_ge g w.heap.size with h' | h'
      · exact h'
      · simp [Array.getElem?_eq_none h'] at hh
    rw [ht.2.2.2.2 g hlt (fun x => by rcases hfp g x with h | h <;> omega)]; exact hh
theorem OwnS.lt' {B : Nat} {v : Value} {ls : List (List UInt8)} {w : World} (h : OwnS B v ls w) (g : Nat) (hg : v.ownBlock = some g) : B ≤ g := by
  rcases h.2 with ⟨rfl, _⟩ | ⟨g', cap, cur, rfl, h1, _⟩
  · cases hg
  · cases hg; exact h1
theorem Touch.belowR {fp : List Nat} {w w1 w' : World} (h : Touch fp w w1) (hb : Below w.heap.size w1 w') : Touch fp w w' :=
  ⟨hb.os.trans h.1, hb.tape.trans h.2.1, hb.output.trans h.2.2.1, Nat.le_trans h.2.2.2.1 hb.size, fun b h1 h2 => (hb.block b h1).trans (h.2.2.2.2 b h1 h2)⟩
def rowLen : Value → Nat
  | .slice _ n _ => n
  | _ => 0
theorem alloc_sz (w : World) (o : Obj) : (w.alloc o).heap.size = w.heap.size + 1 := by simp only [World.alloc, Array.size_push]
def keysL (xs : List Lk) : List ByteArray := xs.map fun p => p.2.key
theorem sumE_sub {es' es : List Ent} (h : es'.Sublist es) : (∀ e ∈ es, 0 ≤ e.size) → sumE es' ≤ sumE es := by
  induction h with
  | slnil => intro _; exact Int.le_refl _
  | cons a h ih =>
    intro hs
    have h1 := ih (fun e he => hs e (List.mem_cons_of_mem _ he))
    have h2 := hs a List.mem_cons_self
    rw [sumE]; omega
  | cons_cons a h ih =>
    intro hs
    have h1 := ih (fun e he => hs e (List.mem_cons_of_mem _ he))
    rw [sumE, sumE]; omega
def valE (z : Value) (k : ByteArray) (es : List Ent) : Value := match findE k es with
  | some e => e.x
  | none => z
end Go.Proofs.Ytheblhgmfkpllaa
