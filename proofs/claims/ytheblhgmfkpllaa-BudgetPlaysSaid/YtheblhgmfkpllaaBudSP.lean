/- Put and Keys of budget.Budget (printed by wip/tools/budp.py). -/
import Derived.Test.YtheblhgmfkpllaaBudS
import Derived.Test.YtheblhgmfkpllaaBudE
import Derived.Test.YtheblhgmfkpllaaOwn
import Derived.RegionTactic
import Derived.BigRegion
import Derived.ChangeAlike
import Derived.Deep.RegionHeld3
import Derived.Deep.WholeRow
namespace Go.Proofs.Ytheblhgmfkpllaa
open Go.RowKit
open Go.ChangeMaps (setBlock)
set_option maxRecDepth 100000

theorem BudS.low {w : World} {bl r M : Nat} {n m : Int} {xs : List Lk} (h : BudS w bl r M n m xs) : ∀ c ∈ bl :: M :: r :: xs.map Prod.fst, c < w.heap.size := by
  have hx : ∀ (c : Nat) (o : Obj), w.heap[c]? = some o → c < w.heap.size := fun c o ho => by
    rcases Nat.lt_or_ge c w.heap.size with h' | h'
    · exact h'
    · simp [Array.getElem?_eq_none h'] at ho
  intro c hc
  rcases List.mem_cons.1 hc with rfl | hc
  · exact hx _ _ h.blk
  rcases List.mem_cons.1 hc with rfl | hc
  · obtain ⟨es, cl, h1, _⟩ := h.mp; exact hx _ _ h1
  · obtain ⟨e, va, vf, h1⟩ := h.ring.at c hc
    exact hx _ _ h1
/-- The link made, the map's entry put, the sum turned. -/
theorem putS_mem {w w2 w3 : World} {bl r M : Nat} {n m : Int} {xs : List Lk} (h : BudS w bl r M n m xs) (e : Ent) (s' : Int) {va vf : Value} {o : _} (k : Nat)
    (hw2 : w2 = setBlock (w.alloc (.cells #[.string e.key, .int .i64 e.size, e.x, va, vf] 63 (0, 0))) M o) (hm : MapV w2 M (kvL xs ++ [(e.key, w.heap.size)]))
    (hw3 : w3 = (w2.setCell ⟨bl, 2, none⟩ (.int .i64 s')).drewN k) :
    w3.heap[bl]? = some (.cells #[.int .i64 n, .int .i64 m, .int .i64 s', .map (some M), ptr r] 66 (0, 0)) ∧ MapV w3 M (kvL (xs ++ [(w.heap.size, e)])) ∧ LnkV 63 w3 w.heap.size e va vf ∧ Ring 63 zeS w3 r xs ∧ Touch (bl :: M :: r :: xs.map Prod.fst) w w3 := by
  have hlow := h.low
  have hnd := h.nd
  rw [List.nodup_cons, List.nodup_cons] at hnd
  obtain ⟨hbn, hMn, hrn⟩ := hnd
  obtain ⟨es, cl, hM0, _⟩ := h.mp
  have hM : (w.alloc (.cells #[.string e.key, .int .i64 e.size, e.x, va, vf] 63 (0, 0))).heap[M]? = some (.map es cl) := (Below.heap_alloc _ _ _ (hlow M (by simp))).trans hM0
  have hoth : ∀ b, b ≠ M → w2.heap[b]? = (w.alloc (.cells #[.string e.key, .int .i64 e.size, e.x, va, vf] 63 (0, 0))).heap[b]? := fun b hne => by rw [hw2]; exact Go.ChangeMaps.heap_setBlock_other hM _ hne
  have hbl2 : w2.heap[bl]? = w.heap[bl]? := (hoth bl (fun x => hbn (by rw [x]; simp))).trans (Below.heap_alloc _ _ _ (hlow bl (by simp)))
  have h3 : ∀ b, b ≠ bl → w3.heap[b]? = w2.heap[b]? := fun b hne => by rw [hw3, World.heap_drewN, heap_set_ne _ _ _ _ _ hne]
  refine ⟨?_, ?_, ?_, ?_, ?_⟩
  · rw [hw3, World.heap_drewN]
    have := hbl2.trans h.blk
    simp [World.setCell, Array.getElem?_modify, this]
  · have e1 : kvL (xs ++ [(w.heap.size, e)]) = kvL xs ++ [(e.key, w.heap.size)] := by simp [kvL]
    rw [e1]
    exact hm.of (h3 M (fun x => hbn (by rw [← x]; simp)))
  · have hlb : w.heap.size ≠ bl := fun x => by have := hlow bl (by simp); omega
    have hlM : w.heap.size ≠ M := fun x => by have := hlow M (by simp); omega
    unfold LnkV
    rw [h3 _ hlb, hoth _ hlM]
    exact heap_alloc_last w _
  · refine h.ring.of (fun b hb => ?_)
    rw [h3 b (fun x => hbn (by rw [← x]; exact List.mem_cons_of_mem _ hb)), hoth b (fun x => hMn (by rw [← x]; exact hb))]
    exact Below.heap_alloc _ _ _ (hlow b (List.mem_cons_of_mem _ (List.mem_cons_of_mem _ hb)))
  · have t1 : Touch (bl :: M :: r :: xs.map Prod.fst) w w2 := by
      have t0 := (Touch.refl (bl :: M :: r :: xs.map Prod.fst) w).alloc (.cells #[.string e.key, .int .i64 e.size, e.x, va, vf] 63 (0, 0))
      refine ⟨by rw [hw2]; exact t0.1, by rw [hw2]; exact t0.2.1, by rw [hw2]; exact t0.2.2.1, ?_, fun b h1 h2 => (hoth b (fun x => h2 (by rw [x]; simp))).trans (t0.2.2.2.2 b h1 h2)⟩
      rw [hw2]
      exact Nat.le_trans t0.2.2.2.1 (by simp [setBlock])
    rw [hw3]
    exact (t1.setCell bl 2 _ (by simp)).drewN k
theorem putS_last {w w3 w4 : World} {bl r M : Nat} {n m : Int} {xs : List Lk} {e : Ent} {va vf : Value} (h : BudS w bl r M n m xs) (hno : ∀ p ∈ xs, p.2.key ≠ e.key) (hkey : e.key.size ≤ maxLen) (hsz : 0 ≤ e.size ∧ e.size ≤ 1073741824) (hlen : xs.length < 5000)
    (hb : w3.heap[bl]? = some (.cells #[.int .i64 n, .int .i64 m, .int .i64 (sumL xs + e.size), .map (some M), ptr r] 66 (0, 0))) (hm : MapV w3 M (kvL (xs ++ [(w.heap.size, e)]))) (hl : LnkV 63 w3 w.heap.size e va vf) (hring : Ring 63 zeS w3 r xs)
    (ht : Touch (bl :: M :: r :: xs.map Prod.fst) w w3) (k : Nat) (hw4 : w4 = ((((w3.setCell ⟨w.heap.size, 3, none⟩ (ptr (lst r xs))).setCell ⟨w.heap.size, 4, none⟩ (ptr r)).setCell ⟨lst r xs, 4, none⟩ (ptr w.heap.size)).setCell ⟨r, 3, none⟩ (ptr w.heap.size)).drewN k) :
    BudS w4 bl r M n m (xs ++ [(w.heap.size, e)]) ∧ Touch (bl :: M :: r :: xs.map Prod.fst) w w4 := by
  have hlow := h.low
  have hnd := h.nd
  have hnd0 := hnd
  rw [List.nodup_cons, List.nodup_cons] at hnd0
  obtain ⟨hbn, hMn, hrn⟩ := hnd0
  have hlx : w.heap.size ∉ bl :: M :: r :: xs.map Prod.fst := fun x => Nat.lt_irrefl _ (hlow _ x)
  have hln : w.heap.size ∉ r :: xs.map Prod.fst := fun x => hlx (List.mem_cons_of_mem _ (List.mem_cons_of_mem _ x))
  have hlst : lst r xs ∈ r :: xs.map Prod.fst := by
    rcases @lst_mem xs r with hm | ⟨_, hm⟩
    · exact List.mem_cons_of_mem _ hm
    · rw [hm]; exact List.mem_cons_self
  have hno2 : ∀ c, c ∉ r :: xs.map Prod.fst → c ≠ w.heap.size → w4.heap[c]? = w3.heap[c]? := fun c hc hne => by
    rw [hw4, World.heap_drewN, heap_set_ne _ _ _ _ _ (fun x => hc (by rw [x]; exact List.mem_cons_self)), heap_set_ne _ _ _ _ _ (fun x => hc (by rw [x]; exact hlst)), heap_set_ne _ _ _ _ _ hne, heap_set_ne _ _ _ _ _ hne]
  have hbl : bl ≠ w.heap.size := fun x => hlx (by rw [← x]; simp)
  have hMl : M ≠ w.heap.size := fun x => hlx (by rw [← x]; simp)
  refine ⟨⟨?_, ?_, hm.of (hno2 M hMn hMl), ?_, ?_, ?_, by rw [List.length_append]; exact hlen, ?_⟩, ?_⟩
  · rw [hno2 bl (fun x => hbn (List.mem_cons_of_mem _ x)) hbl, hb]
    have e1 : sumL xs + e.size = sumL (xs ++ [(w.heap.size, e)]) := by rw [sumL_app, sumL, sumL]; omega
    rw [e1]
  · rw [hw4]
    exact (hring.last hl hrn hln).of (fun _ _ => rfl)
  · have e1 : bl :: M :: r :: (xs ++ [(w.heap.size, e)]).map Prod.fst = (bl :: M :: r :: xs.map Prod.fst) ++ [w.heap.size] := by simp
    rw [e1, List.nodup_append]
    exact ⟨hnd, by simp, fun a ha b hb' x => hlx (by rw [List.mem_singleton.1 hb'] at x; rw [← x]; exact ha)⟩
  · have e1 : (kvL (xs ++ [(w.heap.size, e)])).map Prod.fst = (kvL xs).map Prod.fst ++ [e.key] := by simp [kvL]
    rw [e1, List.nodup_append]
    refine ⟨h.kn, by simp, fun a ha b hb' x => ?_⟩
    rw [List.mem_singleton.1 hb'] at x
    obtain ⟨q, hq, rfl⟩ := List.mem_map.1 ha
    obtain ⟨p, hp, rfl⟩ := List.mem_map.1 hq
    exact hno p hp x
  · intro p hp
    rcases List.mem_append.1 hp with h' | h'
    · exact h.sz p h'
    · rw [List.mem_singleton.1 h']; exact hsz
  · intro p hp
    rcases List.mem_append.1 hp with h' | h'
    · exact h.ks p h'
    · rw [List.mem_singleton.1 h']; exact hkey
  · refine ⟨?_, ?_, ?_, ?_, fun b h1 h2 => ?_⟩
    · rw [hw4]; exact ht.1
    · rw [hw4]; exact ht.2.1
    · rw [hw4]; exact ht.2.2.1
    · rw [hw4]; simpa using ht.2.2.2.1
    · rw [hno2 b (fun x => h2 (List.mem_cons_of_mem _ (List.mem_cons_of_mem _ x))) (by omega)]
      exact ht.2.2.2.2 b h1 h2

theorem BudS.of {w w' : World} {bl r M : Nat} {n m : Int} {xs : List Lk} (h : BudS w bl r M n m xs) (hb : ∀ b ∈ bl :: M :: r :: xs.map Prod.fst, w'.heap[b]? = w.heap[b]?) : BudS w' bl r M n m xs :=
  ⟨(hb bl (by simp)).trans h.blk, h.ring.of (fun b hb' => hb b (List.mem_cons_of_mem _ (List.mem_cons_of_mem _ hb'))), h.mp.of (hb M (by simp)), h.nd, h.kn, h.sz, h.len, h.ks⟩
theorem BudS.below {w w' : World} {bl r M B : Nat} {n m : Int} {xs : List Lk} (h : BudS w bl r M n m xs) (hb : Below B w w') (hB : ∀ b ∈ bl :: M :: r :: xs.map Prod.fst, b < B) : BudS w' bl r M n m xs :=
  h.of fun b hb' => hb.block b (hB b hb')
/-- Drop, whatever the key. -/
theorem dropS_all {w : World} {bl r M : Nat} {n m : Int} {xs : List Lk} (h : BudS w bl r M n m xs) (key : ByteArray) (hkey : key.size ≤ maxLen) :
    Calls Try.prog 24 #[.pointer (some ⟨bl, 0, none⟩), .string key] w fun x w' => x = .returned (.bool (hasE key (xs.map Prod.snd))) ∧ ∃ ys, ys.map Prod.snd = delE key (xs.map Prod.snd) ∧ ys.Sublist xs ∧ (∀ p ∈ ys, p.2.key ≠ key) ∧ BudS w' bl r M n m ys ∧ Touch (bl :: M :: r :: xs.map Prod.fst) w w' := by
  rcases split_keyL key xs h.kn with ⟨h1, h2, h3, h4⟩ | ⟨p, l, e, q, rfl, rfl, h3, h4, h5⟩
  · refine (dropS_none h key hkey h3).mono ?_
    rintro x w' ⟨rfl, rfl⟩
    exact ⟨by unfold hasE; rw [h1]; rfl, xs, h2.symm, List.Sublist.refl _, h4, h, Touch.refl _ _⟩
  · refine (dropS_any h).mono ?_
    rintro x w' ⟨rfl, hb, ht⟩
    exact ⟨by unfold hasE; rw [h3]; rfl, p ++ q, h4.symm, (List.Sublist.refl p).append (List.sublist_cons_self _ _), h5, hb, ht⟩
theorem headKeyS {w : World} {bl r M : Nat} {n m : Int} {l : Nat} {e : Ent} {ys : List Lk} (h : BudS w bl r M n m ((l, e) :: ys)) : w.cell? ⟨r, 4, none⟩ = some (ptr l) ∧ w.cell? ⟨l, 0, none⟩ = some (.string e.key) := by
  obtain ⟨va, vf, hl⟩ := h.ring.2.mem (l := l) (e := e) (by simp)
  exact ⟨h.ring.1.cells.2.2.2.2.1, hl.cells.1⟩
def PutPostS (w : World) (bl r M : Nat) (n m : Int) (fp : List Nat) (ks : List ByteArray) (es : List Ent) (x : Ending) (w' : World) : Prop :=
  ∃ a cap ys, x = .returned (.slice a ks.length cap) ∧ ys.map Prod.snd = es ∧ BudS w' bl r M n m ys ∧ OwnS w.heap.size (.slice a ks.length cap) (strs ks) w' ∧ (∀ g, (Value.slice a ks.length cap).ownBlock = some g → g ∉ bl :: M :: r :: ys.map Prod.fst) ∧ Touch fp w w' ∧ (∀ b ∈ bl :: M :: r :: ys.map Prod.fst, b ∈ fp ∨ w.heap.size ≤ b)
set_option maxHeartbeats 8000000 in
theorem putS_big {w : World} {bl r M : Nat} {n m : Int} {xs : List Lk} (h : BudS w bl r M n m xs) (key : ByteArray) (hkey : key.size ≤ maxLen) (s : Int) (x0 : ByteArray) (hs : m < s) :
    Calls Try.prog 19 #[.pointer (some ⟨bl, 0, none⟩), .string key, .int .i64 s, .string x0] w (PutPostS w bl r M n m (bl :: M :: r :: xs.map Prod.fst) (putE n m key s (.string x0) (xs.map Prod.snd)).1 (putE n m key s (.string x0) (xs.map Prod.snd)).2) := by
  have e0 : putE n m key s (.string x0) (xs.map Prod.snd) = (if hasE key (xs.map Prod.snd) then [key] else [], delE key (xs.map Prod.snd)) := by unfold putE; rw [if_pos hs]
  rw [e0]
  clear e0
  have k1 := isS_any h
  have K1 := Lib.hid k1
  have k2 := dropS_all h key hkey
  have K2 := Lib.hid k2
  have hlow := Lib.hid h.low
  clear k1 k2 h
  generalize hasE key (xs.map Prod.snd) = was at *
  obtain ⟨y, rfl⟩ : ∃ y : List UInt8, key = ⟨y.toArray⟩ := ⟨key.data.toList, (str_back key).symm⟩
  cases was
  · go_enter Try.func19, Try.ntmps19
    go_wp2_with fail
    (with_reducible refine K1.out.mono ?_)
    rintro z w1 ⟨rfl, rfl⟩
    go_wp2_with fail
    (with_reducible refine K2.out.mono ?_)
    rintro z w1 ⟨rfl, ys, h1, h2, h3, hB, ht⟩
    have c1 : w1.cell? ⟨bl, 1, none⟩ = some (.int .i64 m) := by simp [World.cell?, hB.blk]
    have t1 : decide (s > m) = true := by simpa using hs
    have HB := Lib.hid hB
    clear hB
    go_wp2
    go_ret
    exact ⟨none, 0, ys, rfl, h1, HB.out, OwnS.nil _ _, (fun g hg => by cases hg), ht, fun b hb => Or.inl (((((h2.map Prod.fst).cons_cons r).cons_cons M).cons_cons bl).subset hb)⟩
  · go_enter Try.func19, Try.ntmps19
    go_wp2_with fail
    (with_reducible refine K1.out.mono ?_)
    rintro z w1 ⟨rfl, rfl⟩
    go_wp2_with fail
    (with_reducible refine K2.out.mono ?_)
    rintro z w1 ⟨rfl, ys, h1, h2, h3, hB, ht⟩
    have c1 : w1.cell? ⟨bl, 1, none⟩ = some (.int .i64 m) := by simp [World.cell?, hB.blk]
    have t1 : decide (s > m) = true := by simpa using hs
    have HB := Lib.hid hB
    have hsz : w.heap.size ≤ w1.heap.size := ht.2.2.2.1
    clear hB
    go_wp2_with (at_builtin; refine app_str w.heap.size y (OwnS.nil _ _) hsz (by decide) rfl _ _ rfl rfl rfl ?_)
    intro v' w2 hO hb2 hfar
    obtain ⟨oa, oc, rfl⟩ := hO.shape
    go_wp2
    go_ret
    have hsub := (((h2.map Prod.fst).cons_cons r).cons_cons M).cons_cons bl
    exact ⟨oa, oc, ys, rfl, h1, HB.out.below hb2 (fun b hb => hlow.out b (hsub.subset hb)), hO, (fun g hg hn => by have := hlow.out g (hsub.subset hn); have := (hO.lt' g hg); omega), ht.belowR hb2, fun b hb => Or.inl (hsub.subset hb)⟩
theorem putS_pre {w : World} {bl r M : Nat} {n m : Int} {xs : List Lk} (h : BudS w bl r M n m xs) (e : Ent) {va vf : Value} {o : _} :
    (setBlock (w.alloc (.cells #[.string e.key, .int .i64 e.size, e.x, va, vf] 63 (0, 0))) M o).cell? ⟨bl, 2, none⟩ = some (.int .i64 (sumL xs)) ∧ (setBlock (w.alloc (.cells #[.string e.key, .int .i64 e.size, e.x, va, vf] 63 (0, 0))) M o).frozen? ⟨bl, 2, none⟩ = false ∧
      (setBlock (w.alloc (.cells #[.string e.key, .int .i64 e.size, e.x, va, vf] 63 (0, 0))) M o).cell? ⟨w.heap.size, 1, none⟩ = some (.int .i64 e.size) := by
  have hlow := h.low
  have hnd := h.nd
  rw [List.nodup_cons, List.nodup_cons] at hnd
  obtain ⟨hbn, hMn, hrn⟩ := hnd
  obtain ⟨es, cl, hM0, _⟩ := h.mp
  have hM : (w.alloc (.cells #[.string e.key, .int .i64 e.size, e.x, va, vf] 63 (0, 0))).heap[M]? = some (.map es cl) := (Below.heap_alloc _ _ _ (hlow M (by simp))).trans hM0
  have hoth : ∀ b, b ≠ M → (setBlock (w.alloc (.cells #[.string e.key, .int .i64 e.size, e.x, va, vf] 63 (0, 0))) M o).heap[b]? = (w.alloc (.cells #[.string e.key, .int .i64 e.size, e.x, va, vf] 63 (0, 0))).heap[b]? := fun b hne => Go.ChangeMaps.heap_setBlock_other hM _ hne
  have hbl2 := (hoth bl (fun x => hbn (by rw [x]; simp))).trans ((Below.heap_alloc _ _ _ (hlow bl (by simp))).trans h.blk)
  have hl2 := (hoth w.heap.size (fun x => by have := hlow M (by simp); omega)).trans (heap_alloc_last w _)
  exact ⟨by simp [World.cell?, hbl2], by simp [World.frozen?, hbl2], by simp [World.cell?, hl2]⟩
set_option maxHeartbeats 8000000 in
theorem putS_small {w : World} {bl r M : Nat} {n m : Int} {xs : List Lk} (h : BudS w bl r M n m xs) (hn : 1 ≤ n ∧ n ≤ 4096) (hm : 1 ≤ m ∧ m ≤ 1073741824) (hxn : (xs.length : Int) ≤ n) (key : ByteArray) (hkey : key.size ≤ maxLen) (s : Int) (x0 : ByteArray) (hs : ¬ m < s) :
    Calls Try.prog 19 #[.pointer (some ⟨bl, 0, none⟩), .string key, .int .i64 s, .string x0] w (PutPostS w bl r M n m (bl :: M :: r :: xs.map Prod.fst) (putE n m key s (.string x0) (xs.map Prod.snd)).1 (putE n m key s (.string x0) (xs.map Prod.snd)).2) := by
  have e0 : putE n m key s (.string x0) (xs.map Prod.snd) = evE n m (delE key (xs.map Prod.snd) ++ [⟨key, max 0 s, .string x0⟩]) := by unfold putE; rw [if_neg hs]
  rw [e0]
  clear e0
  obtain ⟨R, hR⟩ : ∃ R, evE n m (delE key (xs.map Prod.snd) ++ [⟨key, max 0 s, .string x0⟩]) = R := ⟨_, rfl⟩
  rw [hR]
  have HR := Lib.hid hR
  clear hR
  have k1 := isS_any h
  have K1 := Lib.hid k1
  have k2 := dropS_all h key hkey
  have K2 := Lib.hid k2
  have hlow := Lib.hid h.low
  clear k1 k2 h
  generalize hasE key (xs.map Prod.snd) = was at *
  go_enter Try.func19, Try.ntmps19
  go_wp2_with fail
  (with_reducible refine K1.out.mono ?_)
  rintro z w1 ⟨rfl, rfl⟩
  go_wp2_with fail
  (with_reducible refine K2.out.mono ?_)
  rintro z w1 ⟨rfl, ys, h1, h2, h3, hB, ht⟩
  have c1 : w1.cell? ⟨bl, 1, none⟩ = some (.int .i64 m) := by simp [World.cell?, hB.blk]
  have t1 : decide (s > m) = false := by simpa using hs
  have HB := Lib.hid hB
  clear hB
  have hsz : w.heap.size ≤ w1.heap.size := ht.2.2.2.1
  have hlow1 := Lib.hid HB.out.low
  obtain ⟨z, hz0⟩ : ∃ z, z = max 0 s := ⟨_, rfl⟩
  have hz : (if 0 < s then s else 0) = z := by rw [hz0]; split <;> omega
  have hb3 : (w1.alloc (.cells #[.string key, .int .i64 z, .string x0, .pointer none, .pointer none] 63 (0, 0))).heap[bl]? = some (.cells #[.int .i64 n, .int .i64 m, .int .i64 (sumL ys), .map (some M), ptr r] 66 (0, 0)) := (Below.heap_alloc _ _ _ (hlow1.out bl (by simp))).trans HB.out.blk
  have c3 : (w1.alloc (.cells #[.string key, .int .i64 z, .string x0, .pointer none, .pointer none] 63 (0, 0))).cell? ⟨bl, 3, none⟩ = some (.map (some M)) := by simp [World.cell?, hb3]
  obtain ⟨o, hput, hmv⟩ := mv_put Try.underlying9 Try.underlying64 (HB.out.mp.of (w' := w1.alloc (.cells #[.string key, .int .i64 z, .string x0, .pointer none, .pointer none] 63 (0, 0))) (Below.heap_alloc _ _ _ (hlow1.out M (by simp)))) key hkey (fun p hp => by
    unfold kvL at hp
    obtain ⟨q, hq, rfl⟩ := List.mem_map.1 hp
    exact h3 q hq) w1.heap.size
  unfold ptr at hput
  have HZ := Lib.hid hz0
  clear hz0 hb3
  have HMV := Lib.hid hmv
  clear hmv
  obtain ⟨p1, p2, p3⟩ := putS_pre HB.out ⟨key, z, .string x0⟩ (va := .pointer none) (vf := .pointer none) (o := o)
  have hsum := sumL_nn HB.out.sz HB.out.len
  have hz1 : 0 ≤ z ∧ z ≤ 1073741824 := by rw [HZ.out]; omega
  have hwr : IntKind.i64.wrap (sumL ys + z) = sumL ys + z := by rw [IntKind.wrap_i64]; omega
  simp only at p1 p2 p3
  go_wp2
  have HP := Lib.hid (And.intro hput hsum)
  clear hput hsum
  go_region
  obtain ⟨w3, hw3⟩ : ∃ w3, ((setBlock (w1.alloc (.cells #[.string key, .int .i64 z, .string x0, .pointer none, .pointer none] 63 (0, 0))) M o).setCell ⟨bl, 2, none⟩ (.int .i64 (sumL ys + z))).drew = w3 := ⟨_, rfl⟩
  rw [hw3]
  have hmem := putS_mem HB.out ⟨key, z, .string x0⟩ (sumL ys + z) 1 rfl HMV.out hw3.symm
  clear hw3 HMV HP p1 p2 p3 hwr hz c3 c1
  obtain ⟨q1, q2, q3, q4, q5⟩ := hmem
  have hlst : lst r ys ∈ r :: ys.map Prod.fst := by
    rcases @lst_mem ys r with hm | ⟨_, hm⟩
    · exact List.mem_cons_of_mem _ hm
    · rw [hm]; exact List.mem_cons_self
  obtain ⟨e3, va3, vf3, r3⟩ := q4.at _ hlst
  have c4 : w3.cell? ⟨bl, 4, none⟩ = some (ptr r) := by simp [World.cell?, q1]
  have hne : ∀ b ∈ bl :: M :: r :: ys.map Prod.fst, b ≠ w1.heap.size := fun b hb => Nat.ne_of_lt (hlow1.out b hb)
  have k4 := lastS_any bl r w1.heap.size (lst r ys) w3 c4 q4.1.cells.2.2.2.1 ⟨_, q3.cells.2.2.2.1⟩ ⟨_, q3.cells.2.2.2.2.1⟩ ⟨_, r3.cells.2.2.2.2.1⟩ (q3.cells.2.2.2.2.2.1 3) (q3.cells.2.2.2.2.2.1 4) (r3.cells.2.2.2.2.2.1 4) (q4.1.cells.2.2.2.2.2.1 3) (hne bl (by simp)) (hne r (by simp)) (hne _ (List.mem_cons_of_mem _ (List.mem_cons_of_mem _ hlst)))
  have K4 := Lib.hid k4
  have Q := Lib.hid (And.intro q1 (And.intro q2 (And.intro q3 (And.intro q4 q5))))
  clear k4 c4 r3 q1 q2 q3 q4 q5 hne hlst
  go_wp2_with fail
  (with_reducible refine K4.out.mono ?_)
  rintro z2 w4 ⟨⟨v2, rfl⟩, k5, hw4⟩
  have hyl : ys.length ≤ xs.length := h2.length_le
  have fin := putS_last HB.out h3 hkey hz1 (by omega) Q.out.1 Q.out.2.1 Q.out.2.2.1 Q.out.2.2.2.1 Q.out.2.2.2.2 k5 hw4
  clear hw4 K4 Q
  obtain ⟨f1, f2⟩ := fin
  have hlow4 := f1.low
  have hyl2 : ((ys ++ [(w1.heap.size, (⟨key, z, .string x0⟩ : Ent))]).length : Int) ≤ 4097 := by rw [List.length_append, List.length_singleton]; omega
  have hsub := (((h2.map Prod.fst).cons_cons r).cons_cons M).cons_cons bl
  have ht4 : Touch (bl :: M :: r :: xs.map Prod.fst) w w4 := ht.trans f2 (fun b hb => Or.inl (hsub.subset hb))
  have hfp : ∀ b ∈ bl :: M :: r :: (ys ++ [(w1.heap.size, (⟨key, z, .string x0⟩ : Ent))]).map Prod.fst, b ∈ bl :: M :: r :: xs.map Prod.fst ∨ w.heap.size ≤ b := fun b hb => by
    have e1 : bl :: M :: r :: (ys ++ [(w1.heap.size, (⟨key, z, .string x0⟩ : Ent))]).map Prod.fst = (bl :: M :: r :: ys.map Prod.fst) ++ [w1.heap.size] := by simp
    rw [e1] at hb
    rcases List.mem_append.1 hb with h' | h'
    · exact Or.inl (hsub.subset h')
    · rw [List.mem_singleton.1 h']; exact Or.inr hsz
  have he : delE key (xs.map Prod.snd) ++ [⟨key, z, .string x0⟩] = (ys ++ [(w1.heap.size, (⟨key, z, .string x0⟩ : Ent))]).map Prod.snd := by rw [← h1]; simp
  have hR := HR.out
  rw [← HZ.out, he] at hR
  clear HR
  have hsz4 : w.heap.size ≤ w4.heap.size := ht4.2.2.2.1
  generalize ys ++ [(w1.heap.size, (⟨key, z, .string x0⟩ : Ent))] = zs at *
  have HR := Lib.hid hR
  clear hR he hyl HB K1 K2 h1 h2 h3 ht f2 hlow1 hsub HZ hz1
  have HL := Lib.hid hlow4
  have F1 := Lib.hid f1
  have HT := Lib.hid ht4
  have HF := Lib.hid hfp
  clear hlow4 f1 ht4 hfp
  go_wp2_with fail
  go_loopw [8] (fun g wr => ∃ (ks : List ByteArray) (zz : List Lk), Hid (R = (ks ++ (evE n m (zz.map Prod.snd)).1, (evE n m (zz.map Prod.snd)).2)) ∧ zz.Sublist zs ∧ Hid (BudS wr bl r M n m zz) ∧ OwnS w4.heap.size g (strs ks) wr ∧ Hid (Touch (bl :: M :: r :: zs.map Prod.fst) w4 wr) ∧ ks.length + zz.length ≤ 4097) (fun g _ => 5000 - rowLen g)
  case atStart => exact ⟨[], zs, Lib.hid (by rw [HR.out]; rfl), List.Sublist.refl _, F1, OwnS.nil _ _, Lib.hid (Touch.refl _ _), by rw [List.length_nil]; omega⟩
  case round =>
    obtain ⟨ks, zz, HRR, hzs, HZ, hO, HTT, hlen⟩ := hrel
    obtain ⟨oa, oc, rfl⟩ := hO.shape
    have c0 : wr.cell? ⟨bl, 0, none⟩ = some (.int .i64 n) := by simp [World.cell?, HZ.out.blk]
    have c1 : wr.cell? ⟨bl, 1, none⟩ = some (.int .i64 m) := by simp [World.cell?, HZ.out.blk]
    have c2 : wr.cell? ⟨bl, 2, none⟩ = some (.int .i64 (sumL zz)) := by simp [World.cell?, HZ.out.blk]
    have c3 : wr.cell? ⟨bl, 3, none⟩ = some (.map (some M)) := by simp [World.cell?, HZ.out.blk]
    have hl : (Builtin.len_ #[64] 3 #[.map (some M)]).run Try.prog wr.drew = .ok (goInt (kvL zz).length) wr.drew := mv_len Try.underlying64 (HZ.out.mp.of (w' := wr.drew) rfl) _
    have e1 : (kvL zz).length = zz.length := by simp [kvL]
    rw [e1] at hl
    clear e1
    by_cases hov : n < (zz.length : Int)
    · have t0 : decide (n < (zz.length : Int)) = true := by simpa using hov
      have t2 : decide ((zz.length : Int) > n) = true := by simpa using hov
      go_wp2
      go_region
      have hne : zz ≠ [] := by rintro rfl; simp at hov; omega
      rcases zz with _ | ⟨⟨l, e⟩, tt⟩
      · exact absurd rfl hne
      obtain ⟨ek, es, ex⟩ := e
      obtain ⟨y, rfl⟩ : ∃ y : List UInt8, ek = ⟨y.toArray⟩ := ⟨ek.data.toList, (str_back ek).symm⟩
      have hov3 : overE n m (((l, (⟨⟨y.toArray⟩, es, ex⟩ : Ent)) :: tt).map Prod.snd) = true := by
        unfold overE
        rw [← sumL_map, List.length_map]
        rw [t0]; rfl
      have hev : R = ((ks ++ [⟨y.toArray⟩]) ++ (evE n m (tt.map Prod.snd)).1, (evE n m (tt.map Prod.snd)).2) := by
        rw [HRR.out, List.map_cons, evE]
        rw [List.map_cons] at hov3
        rw [if_pos hov3]
        simp
      have HEV := Lib.hid hev
      have HD : Hid (BudS wr.drew bl r M n m ((l, ⟨⟨y.toArray⟩, es, ex⟩) :: tt)) := Lib.hid (HZ.out.of (fun _ _ => rfl))
      have hO1 : OwnS w4.heap.size (.slice oa (strs ks).length oc) (strs ks) wr.drew := hO.drew
      have HT1 : Hid (Touch (bl :: M :: r :: zs.map Prod.fst) w4 wr.drew) := Lib.hid HTT.out.drew
      clear hev hov3 c0 c1 c2 c3 hl hO HZ HTT HRR hne
      generalize wr.drew = wd at *
      obtain ⟨d1, d2⟩ := headKeyS HD.out
      have d3 : wd.cell? ⟨bl, 4, none⟩ = some (ptr r) := by simp [World.cell?, HD.out.blk]
      unfold ptr at d1 d3
      simp only at d2
      have kd := dropS_any (p := []) (q := tt) HD.out
      simp only at kd
      have KD := Lib.hid kd
      clear kd
      have hkl : ks.length ≤ 4097 := by omega
      have hkt : ks.length + (tt.length + 1) ≤ 4097 := hlen
      clear hlen
      go_wp2_with fail
      (with_reducible refine KD.out.mono ?_)
      rintro zx w5 ⟨rfl, hb5, ht5⟩
      have hsubz := (((hzs.map Prod.fst).cons_cons r).cons_cons M).cons_cons bl
      have ht5' := ht5.mono (fp' := bl :: M :: r :: zs.map Prod.fst) (fun b hb => Or.inl (hsubz.subset hb))
      have ht6 := HT1.out.trans ht5' (fun b hb => Or.inl hb)
      have hO5 := hO1.touch ht5' (fun b hb => Or.inl (HL.out b hb))
      have hsz5 : w4.heap.size ≤ w5.heap.size := ht6.2.2.2.1
      have hkl2 : (strs ks).length ≤ 1000000000 := by unfold strs; rw [List.length_map]; omega
      have HB5 := Lib.hid hb5
      have HT6 := Lib.hid ht6
      clear hb5 ht6 ht5 ht5' KD
      go_wp2_with (at_builtin; refine app_str w4.heap.size y hO5 hsz5 hkl2 rfl _ _ rfl rfl rfl ?_)
      intro v' w6 hO6 hb6 hfar
      obtain ⟨oa6, oc6, rfl⟩ := hO6.shape
      have hst : strs (ks ++ [⟨y.toArray⟩]) = strs ks ++ [y] := by unfold strs; simp
      go_wp2
      go_roundw
      case rel =>
        have hzt : tt.Sublist zs := (List.sublist_cons_self _ _).trans hzs
        refine ⟨ks ++ [⟨y.toArray⟩], tt, HEV, hzt, Lib.hid (HB5.out.below hb6 (fun b hb => HL.out b (((((hzt.map Prod.fst).cons_cons r).cons_cons M).cons_cons bl).subset hb))), by rw [hst]; exact hO6, Lib.hid (HT6.out.belowR hb6), by rw [List.length_append, List.length_singleton]; omega⟩
      case measure =>
        simp only [rowLen]
        unfold strs
        rw [List.length_append, List.length_map, List.length_singleton]
        omega
    · have t2 : decide ((zz.length : Int) > n) = false := by simpa using hov
      by_cases hov2 : m < sumL zz
      · have t0 : decide (m < sumL zz) = true := by simpa using hov2
        have t3 : decide (sumL zz > m) = true := by simpa using hov2
        go_wp2
        go_region
        have hne : zz ≠ [] := by rintro rfl; simp [sumL] at hov2; omega
        rcases zz with _ | ⟨⟨l, e⟩, tt⟩
        · exact absurd rfl hne
        obtain ⟨ek, es, ex⟩ := e
        obtain ⟨y, rfl⟩ : ∃ y : List UInt8, ek = ⟨y.toArray⟩ := ⟨ek.data.toList, (str_back ek).symm⟩
        have hov3 : overE n m (((l, (⟨⟨y.toArray⟩, es, ex⟩ : Ent)) :: tt).map Prod.snd) = true := by
          unfold overE
          rw [← sumL_map, List.length_map]
          rw [t0, Bool.or_true]
        have hev : R = ((ks ++ [⟨y.toArray⟩]) ++ (evE n m (tt.map Prod.snd)).1, (evE n m (tt.map Prod.snd)).2) := by
          rw [HRR.out, List.map_cons, evE]
          rw [List.map_cons] at hov3
          rw [if_pos hov3]
          simp
        have HEV := Lib.hid hev
        have HD : Hid (BudS wr.drew bl r M n m ((l, ⟨⟨y.toArray⟩, es, ex⟩) :: tt)) := Lib.hid (HZ.out.of (fun _ _ => rfl))
        have hO1 : OwnS w4.heap.size (.slice oa (strs ks).length oc) (strs ks) wr.drew := hO.drew
        have HT1 : Hid (Touch (bl :: M :: r :: zs.map Prod.fst) w4 wr.drew) := Lib.hid HTT.out.drew
        clear hev hov3 c0 c1 c2 c3 hl hO HZ HTT HRR hne
        generalize wr.drew = wd at *
        obtain ⟨d1, d2⟩ := headKeyS HD.out
        have d3 : wd.cell? ⟨bl, 4, none⟩ = some (ptr r) := by simp [World.cell?, HD.out.blk]
        unfold ptr at d1 d3
        simp only at d2
        have kd := dropS_any (p := []) (q := tt) HD.out
        simp only at kd
        have KD := Lib.hid kd
        clear kd
        have hkl : ks.length ≤ 4097 := by omega
        have hkt : ks.length + (tt.length + 1) ≤ 4097 := hlen
        clear hlen
        go_wp2_with fail
        (with_reducible refine KD.out.mono ?_)
        rintro zx w5 ⟨rfl, hb5, ht5⟩
        have hsubz := (((hzs.map Prod.fst).cons_cons r).cons_cons M).cons_cons bl
        have ht5' := ht5.mono (fp' := bl :: M :: r :: zs.map Prod.fst) (fun b hb => Or.inl (hsubz.subset hb))
        have ht6 := HT1.out.trans ht5' (fun b hb => Or.inl hb)
        have hO5 := hO1.touch ht5' (fun b hb => Or.inl (HL.out b hb))
        have hsz5 : w4.heap.size ≤ w5.heap.size := ht6.2.2.2.1
        have hkl2 : (strs ks).length ≤ 1000000000 := by unfold strs; rw [List.length_map]; omega
        have HB5 := Lib.hid hb5
        have HT6 := Lib.hid ht6
        clear hb5 ht6 ht5 ht5' KD
        go_wp2_with (at_builtin; refine app_str w4.heap.size y hO5 hsz5 hkl2 rfl _ _ rfl rfl rfl ?_)
        intro v' w6 hO6 hb6 hfar
        obtain ⟨oa6, oc6, rfl⟩ := hO6.shape
        have hst : strs (ks ++ [⟨y.toArray⟩]) = strs ks ++ [y] := by unfold strs; simp
        go_wp2
        go_roundw
        case rel =>
          have hzt : tt.Sublist zs := (List.sublist_cons_self _ _).trans hzs
          refine ⟨ks ++ [⟨y.toArray⟩], tt, HEV, hzt, Lib.hid (HB5.out.below hb6 (fun b hb => HL.out b (((((hzt.map Prod.fst).cons_cons r).cons_cons M).cons_cons bl).subset hb))), by rw [hst]; exact hO6, Lib.hid (HT6.out.belowR hb6), by rw [List.length_append, List.length_singleton]; omega⟩
        case measure =>
          simp only [rowLen]
          unfold strs
          rw [List.length_append, List.length_map, List.length_singleton]
          omega
      · have t3 : decide (sumL zz > m) = false := by simpa using hov2
        go_wp2
        go_region
        have hov3 : overE n m (zz.map Prod.snd) = false := by
          unfold overE
          rw [← sumL_map, List.length_map]
          have z1 : decide (n < (zz.length : Int)) = false := by simpa using hov
          have z2 : decide (m < sumL zz) = false := by simpa using hov2
          rw [z1, z2]; rfl
        have hev : evE n m (zz.map Prod.snd) = ([], zz.map Prod.snd) := by
          cases zz with
          | nil => rfl
          | cons p tt =>
            rw [List.map_cons, evE]
            rw [List.map_cons] at hov3
            rw [hov3]; rfl
        have hRe : R = (ks, zz.map Prod.snd) := by rw [HRR.out, hev, List.append_nil]
        have hkl : (strs ks).length = ks.length := by unfold strs; rw [List.length_map]
        have HRE := Lib.hid (And.intro hRe hkl)
        clear hRe hev hov3 HRR HR hkl
        go_wp2
        go_ret
        rw [HRE.out.1]
        have hsubz := (((hzs.map Prod.fst).cons_cons r).cons_cons M).cons_cons bl
        have ho2 : OwnS w4.heap.size (.slice oa ks.length oc) (strs ks) wr := by
          have := hO
          rw [HRE.out.2] at this
          exact this
        refine ⟨oa, oc, zz, ?_, rfl, HZ.out.of (fun _ _ => rfl), (ho2.base hsz4).drew, (fun g hg hn => ?_), HT.out.trans HTT.out.drew HF.out, fun b hb => HF.out b (hsubz.subset hb)⟩
        · rw [← HRE.out.2]; rfl
        · have x1 := ho2.lt' g hg
          have x2 := HL.out g (hsubz.subset hn)
          omega
theorem putS_any {w : World} {bl r M : Nat} {n m : Int} {xs : List Lk} (h : BudS w bl r M n m xs) (hn : 1 ≤ n ∧ n ≤ 4096) (hm : 1 ≤ m ∧ m ≤ 1073741824) (hxn : (xs.length : Int) ≤ n) (key : ByteArray) (hkey : key.size ≤ maxLen) (s : Int) (x0 : ByteArray) :
    Calls Try.prog 19 #[.pointer (some ⟨bl, 0, none⟩), .string key, .int .i64 s, .string x0] w (PutPostS w bl r M n m (bl :: M :: r :: xs.map Prod.fst) (putE n m key s (.string x0) (xs.map Prod.snd)).1 (putE n m key s (.string x0) (xs.map Prod.snd)).2) := by
  by_cases hs : m < s
  · exact putS_big h key hkey s x0 hs
  · exact putS_small h hn hm hxn key hkey s x0 hs

theorem linkS_size : (Try.prog.info? 63).map (·.size) = some (4 + 1) := by kernel_rfl
set_option maxHeartbeats 8000000 in
theorem keysS_any {w : World} {bl r M : Nat} {n m : Int} {xs : List Lk} (h : BudS w bl r M n m xs) :
    Calls Try.prog 38 #[.pointer (some ⟨bl, 0, none⟩)] w (TextsPost w (strs (keysL xs))) := by
  have k1 := isS_any h
  have K1 := Lib.hid k1
  have hlow := Lib.hid h.low
  have hx5 := h.len
  have c4 : w.cell? ⟨bl, 4, none⟩ = some (ptr r) := by simp [World.cell?, h.blk]
  have c5 : w.cell? ⟨r, 4, none⟩ = some (ptr (hd xs r)) := h.ring.1.cells.2.2.2.2.1
  unfold ptr at c4 c5
  have HB := Lib.hid h
  clear h k1
  go_enter Try.func38, Try.ntmps38
  go_wp2_with fail
  (with_reducible refine K1.out.mono ?_)
  rintro z w1 ⟨rfl, rfl⟩
  go_wp2_with fail
  go_loopw [2, 3] (fun out l wr => ∃ (p q : List Lk), Hid (xs = p ++ q) ∧ l = .pointer (some ⟨hd q r, 0, none⟩) ∧ Hid (BudS wr bl r M n m xs) ∧ OwnS w.heap.size out (strs (keysL p)) wr ∧ Below w.heap.size w wr) (fun out _ _ => xs.length - rowLen out)
  case atStart => exact ⟨[], xs, Lib.hid rfl, rfl, HB, OwnS.nil _ _, Below.refl _ _⟩
  case round =>
    obtain ⟨p, q, hpq, rfl, HBB, hO, hbw⟩ := hrel
    obtain ⟨oa, oc, rfl⟩ := hO.shape
    have c6 : wr.cell? ⟨bl, 4, none⟩ = some (ptr r) := by simp [World.cell?, HBB.out.blk]
    unfold ptr at c6
    have hpl : (strs (keysL p)).length = p.length := by unfold strs keysL; rw [List.length_map, List.length_map]
    have hxl : p.length + q.length = xs.length := by rw [hpq.out, List.length_append]
    have HPL := Lib.hid (And.intro hpl hxl)
    clear hpl hxl
    rcases q with _ | ⟨⟨l, e⟩, qq⟩
    · have e0 : hd [] r = r := rfl
      rw [e0]
      have hxe : keysL xs = keysL p := by rw [hpq.out, List.append_nil]
      rw [hxe]
      have hcmp := neq_ptr_same (w := wr) Try.underlying61 linkS_size r
      go_wp2
      go_ret
      rw [hxe]
      exact ⟨oa, oc, rfl, hO, hbw⟩
    · have e0 : hd ((l, e) :: qq) r = l := rfl
      rw [e0]
      have hs := HBB.out.ring.2
      rw [hpq.out, seg_app] at hs
      have hl : LnkV 63 wr l e (ptr (lst r p)) (ptr (hd qq r)) := hs.2.1
      have hlr : l ≠ r := fun x => by
        have := HBB.out.nd
        rw [List.nodup_cons, List.nodup_cons, List.nodup_cons] at this
        refine this.2.2.1 ?_
        rw [← x, hpq.out]
        simp
      obtain ⟨ek, es, ex⟩ := e
      obtain ⟨y, rfl⟩ : ∃ y : List UInt8, ek = ⟨y.toArray⟩ := ⟨ek.data.toList, (str_back ek).symm⟩
      have c0 : wr.cell? ⟨l, 0, none⟩ = some (.string ⟨y.toArray⟩) := hl.cells.1
      have c7 : wr.cell? ⟨l, 4, none⟩ = some (.pointer (some ⟨hd qq r, 0, none⟩)) := hl.cells.2.2.2.2.1
      have hll : l < w.heap.size := hlow.out l (by rw [hpq.out]; simp)
      have hn9 : (strs (keysL p)).length ≤ 1000000000 := by rw [HPL.out.1]; have := HPL.out.2; omega
      obtain ⟨er, var, vfr, hrr⟩ := HBB.out.ring.at r List.mem_cons_self
      have hcmp := neq_ptr_other Try.underlying61 linkS_size hlr hl hrr
      clear hs hl hrr
      go_wp2_with (at_builtin; refine app_str w.heap.size y hO hbw.size hn9 rfl _ _ rfl rfl rfl ?_)
      intro v' w2 hO2 hb2 hfar
      obtain ⟨oa2, oc2, rfl⟩ := hO2.shape
      have hB2 : Hid (BudS w2 bl r M n m xs) := Lib.hid (HBB.out.below hb2 hlow.out)
      have c8 : w2.cell? ⟨l, 4, none⟩ = some (.pointer (some ⟨hd qq r, 0, none⟩)) := (World.cell?_of_block (a := ⟨l, 4, none⟩) (hb2.block l hll)).trans c7
      have hbw2 : Below w.heap.size w w2 := hbw.trans (hb2.mono (Nat.le_refl _))
      have hst : strs (keysL (p ++ [(l, (⟨⟨y.toArray⟩, es, ex⟩ : Ent))])) = strs (keysL p) ++ [y] := by unfold strs keysL; simp
      have hpq2 : xs = (p ++ [(l, (⟨⟨y.toArray⟩, es, ex⟩ : Ent))]) ++ qq := by rw [hpq.out]; simp
      have HPQ2 := Lib.hid hpq2
      clear hpq2 c7 hcmp HBB hbw
      go_wp2
      go_roundw
      case rel => exact ⟨_, qq, HPQ2, rfl, hB2, by rw [hst]; exact hO2, hbw2⟩
      case measure =>
        simp only [rowLen]
        have h1 := HPL.out.1
        have h2 := HPL.out.2
        rw [List.length_cons] at h2
        rw [List.length_append, List.length_singleton]
        omega

set_option maxHeartbeats 8000000 in
theorem newS_none (n m : Int) (w : World) (h : ¬ ((1 ≤ n ∧ n ≤ 4096) ∧ (1 ≤ m ∧ m ≤ 1073741824))) :
    Calls Try.prog 18 #[.int .i64 n, .int .i64 m] w fun x w' => x = .returned (.pointer none) ∧ w = w' := by
  by_cases h1 : n < 1
  · go_enter Try.func18, Try.ntmps18
    go_wp2
    go_ret
    exact ⟨rfl, rfl⟩
  by_cases h2 : 4096 < n
  · go_enter Try.func18, Try.ntmps18
    go_wp2
    go_ret
    exact ⟨rfl, rfl⟩
  by_cases h3 : m < 1
  · go_enter Try.func18, Try.ntmps18
    go_wp2
    go_ret
    exact ⟨rfl, rfl⟩
  have h4 : 1073741824 < m := by omega
  go_enter Try.func18, Try.ntmps18
  go_wp2
  go_ret
  exact ⟨rfl, rfl⟩
set_option maxHeartbeats 8000000 in
theorem newS_any (n m : Int) (w : World) (hn : 1 ≤ n ∧ n ≤ 4096) (hm : 1 ≤ m ∧ m ≤ 1073741824) :
    Calls Try.prog 18 #[.int .i64 n, .int .i64 m] w fun x w' => ∃ bl r M, x = .returned (.pointer (some ⟨bl, 0, none⟩)) ∧ BudS w' bl r M n m [] ∧ Below w.heap.size w w' ∧ ∀ b ∈ [bl, M, r], w.heap.size ≤ b := by
  obtain ⟨h1, h2⟩ := hn
  obtain ⟨h3, h4⟩ := hm
  have t1 : decide (n < 1) = false := by simpa using h1
  have t2 : decide (n > 4096) = false := by simpa using h2
  have t3 : decide (m < 1) = false := by simpa using h3
  have t4 : decide (m > 1073741824) = false := by simpa using h4
  have hmk : ∀ w0 : World, (Instr.makeMap 64 none).run Try.prog w0 = .ok (.map (some w0.heap.size)) (w0.alloc (.map #[] 0)) := fun _ => rfl
  go_enter Try.func18, Try.ntmps18
  go_wp2
  go_ret
  refine ⟨w.heap.size + 2, w.heap.size, w.heap.size + 1, rfl, ?_, ((Below.refl _ w).alloc (Nat.le_refl _) _).alloc (by rw [alloc_sz]; omega) _ |>.alloc (by rw [alloc_sz, alloc_sz]; omega) _, by intro b hb; simp at hb; omega⟩
  generalize ho1 : Obj.cells #[Value.string ⟨#[]⟩, .int .i64 0, .string ⟨#[]⟩, .pointer (some ⟨w.heap.size, 0, none⟩), .pointer (some ⟨w.heap.size, 0, none⟩)] 63 (0, 0) = o1
  generalize ho3 : Obj.cells #[Value.int .i64 n, .int .i64 m, .int .i64 0, .map (some (w.heap.size + 1)), .pointer (some ⟨w.heap.size, 0, none⟩)] 66 (0, 0) = o3
  have s1 : (w.alloc o1).heap.size = w.heap.size + 1 := alloc_sz _ _
  have s2 : ((w.alloc o1).alloc (.map #[] 0)).heap.size = w.heap.size + 2 := by rw [alloc_sz, alloc_sz]
  have p1 : (((w.alloc o1).alloc (.map #[] 0)).alloc o3).heap[w.heap.size]? = some o1 := (Below.heap_alloc _ _ _ (by omega)).trans ((Below.heap_alloc _ _ _ (by omega)).trans (heap_alloc_last w o1))
  have p2 : (((w.alloc o1).alloc (.map #[] 0)).alloc o3).heap[w.heap.size + 1]? = some (.map #[] 0) := (Below.heap_alloc _ _ _ (by omega)).trans (by rw [← s1]; exact heap_alloc_last _ _)
  have p3 : (((w.alloc o1).alloc (.map #[] 0)).alloc o3).heap[w.heap.size + 2]? = some o3 := by rw [← s2]; exact heap_alloc_last _ _
  refine ⟨by rw [p3, ← ho3]; rfl, ⟨by unfold LnkV; rw [p1, ← ho1]; rfl, trivial⟩, ⟨#[], 0, p2, by simp [kvV, kvL], by simp [kvL]⟩, by simp, by simp [kvL], by simp, by simp, by simp⟩
end Go.Proofs.Ytheblhgmfkpllaa
