/- The walks of budget.Budget[int] (printed by wip/tools/bud.py). -/
import Derived.Test.YtheblhgmfkpllaaBudMap
import Derived.RegionTactic
import Derived.BigRegion
import Derived.ChangeAlike
import Derived.Deep.RegionHeld3
namespace Go.Proofs.Ytheblhgmfkpllaa
open Go.RowKit
set_option maxRecDepth 100000

set_option maxHeartbeats 4000000 in
theorem outI_any (l a z : Nat) (w : World) (h3 : w.cell? ⟨l, 3, none⟩ = some (ptr a)) (h4 : w.cell? ⟨l, 4, none⟩ = some (ptr z)) (ha : ∃ u, w.cell? ⟨a, 4, none⟩ = some u) (hz : ∃ u, w.cell? ⟨z, 3, none⟩ = some u) (hfa : w.frozen? ⟨a, 4, none⟩ = false) (hfz : w.frozen? ⟨z, 3, none⟩ = false) :
    Calls Try.prog 41 #[.pointer (some ⟨l, 0, none⟩)] w fun e w' => (∃ v, e = .returned v) ∧ ∃ n, w' = ((w.setCell ⟨a, 4, none⟩ (ptr z)).setCell ⟨z, 3, none⟩ (ptr a)).drewN n := by
  obtain ⟨u1, ha⟩ := ha
  obtain ⟨u2, hz⟩ := hz
  unfold ptr at *
  go_enter Try.func41, Try.ntmps41
  go_wp2
  go_region
  go_end0
  exact ⟨⟨_, rfl⟩, 1, rfl⟩
set_option maxHeartbeats 4000000 in
theorem lastI_any (bl r l a : Nat) (w : World) (hb : w.cell? ⟨bl, 4, none⟩ = some (ptr r)) (hr : w.cell? ⟨r, 3, none⟩ = some (ptr a)) (h3 : ∃ u, w.cell? ⟨l, 3, none⟩ = some u) (h4 : ∃ u, w.cell? ⟨l, 4, none⟩ = some u) (ha : ∃ u, w.cell? ⟨a, 4, none⟩ = some u)
    (f3 : w.frozen? ⟨l, 3, none⟩ = false) (f4 : w.frozen? ⟨l, 4, none⟩ = false) (fa : w.frozen? ⟨a, 4, none⟩ = false) (fr : w.frozen? ⟨r, 3, none⟩ = false) (h1 : bl ≠ l) (h2 : r ≠ l) (h5 : a ≠ l) :
    Calls Try.prog 42 #[.pointer (some ⟨bl, 0, none⟩), .pointer (some ⟨l, 0, none⟩)] w fun e w' => (∃ v, e = .returned v) ∧ ∃ n, w' = ((((w.setCell ⟨l, 3, none⟩ (ptr a)).setCell ⟨l, 4, none⟩ (ptr r)).setCell ⟨a, 4, none⟩ (ptr l)).setCell ⟨r, 3, none⟩ (ptr l)).drewN n := by
  obtain ⟨u1, h3⟩ := h3
  obtain ⟨u2, h4⟩ := h4
  obtain ⟨u3, ha⟩ := ha
  unfold ptr at *
  go_enter Try.func42, Try.ntmps42
  go_wp2
  go_region
  have q1 : ((w.setCell ⟨l, 3, none⟩ (.pointer (some ⟨a, 0, none⟩))).setCell ⟨l, 4, none⟩ (.pointer (some ⟨r, 0, none⟩))).drew.cell? ⟨bl, 4, none⟩ = some (.pointer (some ⟨r, 0, none⟩)) := by
    rw [World.cell?_drew, World.cell?_setCell_other _ _ _ _ (by intro e; cases e; exact h1 rfl), World.cell?_setCell_other _ _ _ _ (by intro e; cases e)]; exact hb
  have q2 : ((w.setCell ⟨l, 3, none⟩ (.pointer (some ⟨a, 0, none⟩))).setCell ⟨l, 4, none⟩ (.pointer (some ⟨r, 0, none⟩))).drew.cell? ⟨r, 3, none⟩ = some (.pointer (some ⟨a, 0, none⟩)) := by
    rw [World.cell?_drew, World.cell?_setCell_other _ _ _ _ (by intro e; cases e), World.cell?_setCell_other _ _ _ _ (by intro e; cases e; exact h2 rfl)]; exact hr
  have q3 : ((w.setCell ⟨l, 3, none⟩ (.pointer (some ⟨a, 0, none⟩))).setCell ⟨l, 4, none⟩ (.pointer (some ⟨r, 0, none⟩))).drew.cell? ⟨a, 4, none⟩ = some u3 := by
    rw [World.cell?_drew, World.cell?_setCell_other _ _ _ _ (by intro e; cases e; exact h5 rfl), World.cell?_setCell_other _ _ _ _ (by intro e; cases e)]; exact ha
  have q4 : ((w.setCell ⟨l, 3, none⟩ (.pointer (some ⟨a, 0, none⟩))).setCell ⟨l, 4, none⟩ (.pointer (some ⟨r, 0, none⟩))).drew.frozen? ⟨a, 4, none⟩ = false := by
    rw [World.frozen?_drew, World.frozen?_setCell, World.frozen?_setCell]; exact fa
  have q5 : ((w.setCell ⟨l, 3, none⟩ (.pointer (some ⟨a, 0, none⟩))).setCell ⟨l, 4, none⟩ (.pointer (some ⟨r, 0, none⟩))).drew.frozen? ⟨r, 3, none⟩ = false := by
    rw [World.frozen?_drew, World.frozen?_setCell, World.frozen?_setCell]; exact fr
  obtain ⟨W, hW⟩ : ∃ W, ((w.setCell ⟨l, 3, none⟩ (.pointer (some ⟨a, 0, none⟩))).setCell ⟨l, 4, none⟩ (.pointer (some ⟨r, 0, none⟩))).drew = W := ⟨_, rfl⟩
  rw [hW] at q1 q2 q3 q4 q5 ⊢
  have HW := Lib.hid hW
  clear hW hb hr h3 h4 ha f3 f4 fa fr
  go_wp2
  go_region
  go_end0
  refine ⟨⟨_, rfl⟩, 2, ?_⟩
  rw [← HW.out]
  rfl

def zeI : Ent := ⟨⟨#[]⟩, 0, .int .i64 0⟩
structure BudI (w : World) (bl r M : Nat) (n m : Int) (xs : List Lk) : Prop where
  blk : w.heap[bl]? = some (.cells #[.int .i64 n, .int .i64 m, .int .i64 (sumL xs), .map (some M), ptr r] 54 (0, 0))
  ring : Ring 57 zeI w r xs
  mp : MapV w M (kvL xs)
  nd : (bl :: M :: r :: xs.map Prod.fst).Nodup
  kn : ((kvL xs).map Prod.fst).Nodup
  sz : ∀ p ∈ xs, 0 ≤ p.2.size ∧ p.2.size ≤ 1073741824
  len : xs.length ≤ 5000
  ks : ∀ p ∈ xs, p.2.key.size ≤ maxLen
theorem zeroMI (w : World) : (zeroValue 52).run Try.prog w = .ok (.pointer none) w := by kernel_rfl
set_option maxHeartbeats 2000000 in
theorem isI_any {w : World} {bl r M : Nat} {n m : Int} {xs : List Lk} (h : BudI w bl r M n m xs) :
    Calls Try.prog 28 #[.pointer (some ⟨bl, 0, none⟩)] w fun e w' => e = .returned (.bool true) ∧ w = w' := by
  have c4 : w.cell? ⟨bl, 4, none⟩ = some (ptr r) := by simp [World.cell?, h.blk]
  unfold ptr at c4
  go_enter Try.func28, Try.ntmps28
  go_wp2
  go_ret
  exact ⟨rfl, rfl⟩
set_option maxHeartbeats 2000000 in
theorem findI_any {w : World} {bl r M : Nat} {n m : Int} {xs : List Lk} (h : BudI w bl r M n m xs) (key : ByteArray) (hkey : key.size ≤ maxLen) :
    Calls Try.prog 29 #[.pointer (some ⟨bl, 0, none⟩), .string key] w fun e w' => e = .returned (ptrO (blkOf (kvL xs) key)) ∧ w = w' := by
  have c3 : w.cell? ⟨bl, 3, none⟩ = some (.map (some M)) := by simp [World.cell?, h.blk]
  have hl := mv_lookup Try.underlying9 Try.underlying51 h.mp h.kn (zeroMI w) key hkey
  have k1 := isI_any h
  have K1 := Lib.hid k1
  clear k1
  go_enter Try.func29, Try.ntmps29
  go_wp2_with fail
  (with_reducible refine K1.out.mono ?_)
  rintro e w1 ⟨rfl, rfl⟩
  go_wp2
  go_ret
  exact ⟨rfl, rfl⟩

/-- What taking a link out leaves in memory. -/
theorem dropI_mem {w : World} {bl r M : Nat} {n m : Int} {p q : List Lk} {l : Nat} {e : Ent} (h : BudI w bl r M n m (p ++ (l, e) :: q)) (k : Nat) :
    ∃ w1 : World, w1 = (((w.setCell ⟨lst r p, 4, none⟩ (ptr (hd q r))).setCell ⟨hd q r, 3, none⟩ (ptr (lst r p))).drewN k) ∧
      w1.heap[bl]? = w.heap[bl]? ∧ w1.heap[M]? = w.heap[M]? ∧ (∃ va vf, LnkV 57 w1 l e va vf) ∧ Ring 57 zeI w1 r (p ++ q) ∧
      Touch (bl :: M :: r :: (p ++ (l, e) :: q).map Prod.fst) w w1 := by
  have hnd := h.nd
  rw [List.nodup_cons, List.nodup_cons] at hnd
  obtain ⟨hbn, hMn, hrn⟩ := hnd
  have hp : lst r p ∈ r :: (p ++ (l, e) :: q).map Prod.fst := by
    rcases @lst_mem p r with hm | ⟨_, hm⟩
    · rw [List.map_append]; exact List.mem_cons_of_mem _ (List.mem_append_left _ hm)
    · rw [hm]; exact List.mem_cons_self
  have hq : hd q r ∈ r :: (p ++ (l, e) :: q).map Prod.fst := by
    rcases @hd_mem q r with hm | ⟨_, hm⟩
    · rw [List.map_append, List.map_cons]; exact List.mem_cons_of_mem _ (List.mem_append_right _ (List.mem_cons_of_mem _ hm))
    · rw [hm]; exact List.mem_cons_self
  have hno : ∀ c, c ∉ r :: (p ++ (l, e) :: q).map Prod.fst → (((w.setCell ⟨lst r p, 4, none⟩ (ptr (hd q r))).setCell ⟨hd q r, 3, none⟩ (ptr (lst r p))).drewN k).heap[c]? = w.heap[c]? := fun c hc => by
    rw [World.heap_drewN, heap_set_ne _ _ _ _ _ (fun x => hc (by rw [x]; exact hq)), heap_set_ne _ _ _ _ _ (fun x => hc (by rw [x]; exact hp))]
  refine ⟨_, rfl, hno bl (fun x => hbn (List.mem_cons_of_mem _ x)), hno M hMn, ?_, ?_, ?_⟩
  · have hs := h.ring.2
    rw [seg_app] at hs
    have hl : LnkV 57 w l e (ptr (lst r p)) (ptr (hd q r)) := hs.2.1
    rw [List.nodup_cons, List.map_append, List.map_cons, List.nodup_append] at hrn
    obtain ⟨h1, h2, h3, h4⟩ := hrn
    rw [List.nodup_cons] at h3
    have e1 : l ≠ lst r p := by
      intro x
      rcases @lst_mem p r with hm | ⟨_, hm⟩
      · exact h4 _ hm l (by simp) x.symm
      · rw [hm] at x; exact h1 (List.mem_append_right _ (by rw [x]; simp))
    have e2 : l ≠ hd q r := by
      intro x
      rcases @hd_mem q r with hm | ⟨_, hm⟩
      · exact h3.1 (by rw [x]; exact hm)
      · rw [hm] at x; exact h1 (List.mem_append_right _ (by rw [x]; simp))
    exact ⟨_, _, ((hl.other e1).other e2).of rfl⟩
  · exact (h.ring.out hrn).of (fun _ _ => rfl)
  · exact (((Touch.refl _ w).setCell _ 4 _ (List.mem_cons_of_mem _ (List.mem_cons_of_mem _ hp))).setCell _ 3 _ (List.mem_cons_of_mem _ (List.mem_cons_of_mem _ hq))).drewN k
theorem dropI_fin {w w1 w2 : World} {bl r M : Nat} {n m : Int} {p q : List Lk} {l : Nat} {e : Ent} (h : BudI w bl r M n m (p ++ (l, e) :: q)) (hb : w1.heap[bl]? = w.heap[bl]?) (hring : Ring 57 zeI w1 r (p ++ q)) (k : Nat)
    (ht : Touch (bl :: M :: r :: (p ++ (l, e) :: q).map Prod.fst) w w1) (hw2 : w2 = (w1.setCell ⟨bl, 2, none⟩ (.int .i64 (sumL (p ++ q)))).drewN k) {o : _} (hM : ∃ es c, w2.heap[M]? = some (.map es c)) (hm : MapV (Go.ChangeMaps.setBlock w2 M o) M (kvL (p ++ q))) :
    BudI (Go.ChangeMaps.setBlock w2 M o) bl r M n m (p ++ q) ∧ Touch (bl :: M :: r :: (p ++ (l, e) :: q).map Prod.fst) w (Go.ChangeMaps.setBlock w2 M o) := by
  obtain ⟨es, c, hM⟩ := hM
  have hnd := h.nd
  have hnd0 := hnd
  rw [List.nodup_cons, List.nodup_cons] at hnd0
  obtain ⟨hbn, hMn, hrn⟩ := hnd0
  have hsub : (p ++ q).Sublist (p ++ (l, e) :: q) := (List.Sublist.refl p).append (List.sublist_cons_self _ _)
  have hsubf := hsub.map Prod.fst
  have hoth : ∀ b, b ≠ M → (Go.ChangeMaps.setBlock w2 M o).heap[b]? = w2.heap[b]? := fun b hne => Go.ChangeMaps.heap_setBlock_other hM _ hne
  have hMb : bl ≠ M := fun x => hbn (by rw [x]; simp)
  refine ⟨⟨?_, ?_, hm, hnd.sublist (((hsubf.cons_cons r).cons_cons M).cons_cons bl), ?_, fun x hx => h.sz x (hsub.subset hx), Nat.le_trans hsub.length_le h.len, fun x hx => h.ks x (hsub.subset hx)⟩, ?_⟩
  · rw [hoth bl hMb, hw2, World.heap_drewN]
    have := h.blk
    rw [← hb] at this
    simp [World.setCell, Array.getElem?_modify, this]
  · refine hring.of (fun b hb' => ?_)
    have hin : b ∈ r :: (p ++ (l, e) :: q).map Prod.fst := (hsubf.cons_cons r).subset hb'
    rw [hoth b (fun x => hMn (by rw [← x]; exact hin)), hw2, World.heap_drewN, heap_set_ne _ _ _ _ _ (fun x => hbn (by rw [← x]; exact List.mem_cons_of_mem _ hin))]
  · exact h.kn.sublist ((hsub.map _).map _)
  · have t2 : Touch (bl :: M :: r :: (p ++ (l, e) :: q).map Prod.fst) w w2 := by rw [hw2]; exact (ht.setCell bl 2 _ (by simp)).drewN k
    refine ⟨t2.1, t2.2.1, t2.2.2.1, Nat.le_trans t2.2.2.2.1 (by simp [Go.ChangeMaps.setBlock]), fun b h1 h2 => ?_⟩
    rw [hoth b (fun x => h2 (by rw [x]; simp))]
    exact t2.2.2.2.2 b h1 h2
theorem dropI_sum {p q : List Lk} {l : Nat} {e : Ent} (hs : ∀ x ∈ p ++ (l, e) :: q, 0 ≤ x.2.size ∧ x.2.size ≤ 1073741824) (hl : (p ++ (l, e) :: q).length ≤ 5000) :
    IntKind.i64.wrap (sumL (p ++ (l, e) :: q) - e.size) = sumL (p ++ q) := by
  have h1 := sumL_le (p ++ q) (fun x hx => hs x (((List.Sublist.refl p).append (List.sublist_cons_self _ _)).subset hx))
  have hl2 : (p ++ q).length ≤ 5000 := Nat.le_trans ((List.Sublist.refl p).append (List.sublist_cons_self _ _)).length_le hl
  have e1 : sumL (p ++ (l, e) :: q) - e.size = sumL (p ++ q) := by
    rw [sumL_app, sumL_app]
    show sumL p + (e.size + sumL q) - e.size = _
    omega
  rw [e1]
  rw [IntKind.wrap_i64]; omega
set_option maxHeartbeats 4000000 in
theorem dropI_any {w : World} {bl r M : Nat} {n m : Int} {p q : List Lk} {l : Nat} {e : Ent} (h : BudI w bl r M n m (p ++ (l, e) :: q)) :
    Calls Try.prog 27 #[.pointer (some ⟨bl, 0, none⟩), .string e.key] w fun x w' => x = .returned (.bool true) ∧ BudI w' bl r M n m (p ++ q) ∧ Touch (bl :: M :: r :: (p ++ (l, e) :: q).map Prod.fst) w w' := by
  have hkey := h.ks (l, e) (by simp)
  have hblk : blkOf (kvL (p ++ (l, e) :: q)) e.key = some l := blk_some h.kn (by simp [kvL])
  have k1 := findI_any h e.key hkey
  rw [hblk] at k1
  simp only [ptrO, ptr] at k1
  have K1 := Lib.hid k1
  clear k1
  have hs := h.ring.2
  rw [seg_app] at hs
  have hl : LnkV 57 w l e (ptr (lst r p)) (ptr (hd q r)) := hs.2.1
  clear hs
  obtain ⟨e1, va1, vf1, ha⟩ := h.ring.at (lst r p) (by
    rcases @lst_mem p r with hm | ⟨_, hm⟩
    · rw [List.map_append]; exact List.mem_cons_of_mem _ (List.mem_append_left _ hm)
    · rw [hm]; exact List.mem_cons_self)
  obtain ⟨e2, va2, vf2, hz⟩ := h.ring.at (hd q r) (by
    rcases @hd_mem q r with hm | ⟨_, hm⟩
    · rw [List.map_append, List.map_cons]; exact List.mem_cons_of_mem _ (List.mem_append_right _ (List.mem_cons_of_mem _ hm))
    · rw [hm]; exact List.mem_cons_self)
  have k2 := outI_any l (lst r p) (hd q r) w hl.cells.2.2.2.1 hl.cells.2.2.2.2.1 ⟨_, ha.cells.2.2.2.2.1⟩ ⟨_, hz.cells.2.2.2.1⟩ (ha.cells.2.2.2.2.2.1 4) (hz.cells.2.2.2.2.2.1 3)
  have K2 := Lib.hid k2
  clear k2
  have k3 : IntKind.i64.wrap (sumL (p ++ (l, e) :: q) - e.size) = sumL (p ++ q) := dropI_sum h.sz h.len
  have HH := Lib.hid h
  clear h hl ha hz
  go_enter Try.func27, Try.ntmps27
  go_wp2_with fail
  (with_reducible refine K1.out.mono ?_)
  rintro x w1 ⟨rfl, rfl⟩
  go_wp2_with fail
  (with_reducible refine K2.out.mono ?_)
  rintro x w1 ⟨⟨v, rfl⟩, k, rfl⟩
  obtain ⟨w1, hw1, hbl, hMM, ⟨va, vf, hl⟩, hring, htc⟩ := dropI_mem HH.out k
  rw [← hw1]
  clear hw1
  have c2 : w1.cell? ⟨bl, 2, none⟩ = some (.int .i64 (sumL (p ++ (l, e) :: q))) := by simp [World.cell?, hbl, HH.out.blk]
  have f2 : w1.frozen? ⟨bl, 2, none⟩ = false := by simp [World.frozen?, hbl, HH.out.blk]
  have c1 : w1.cell? ⟨l, 1, none⟩ = some (.int .i64 e.size) := hl.cells.2.1
  have HB := Lib.hid hbl
  have HL := Lib.hid hl
  clear hbl hl
  go_wp2
  go_region
  obtain ⟨w2, hw2⟩ : ∃ w2, (w1.setCell ⟨bl, 2, none⟩ (.int .i64 (sumL (p ++ q)))).drew = w2 := ⟨_, rfl⟩
  rw [hw2]
  have hM2 : w2.heap[M]? = w.heap[M]? := by
    rw [← hw2]
    refine (heap_set_ne _ _ _ _ _ (fun x => ?_)).trans hMM
    have := HH.out.nd
    rw [List.nodup_cons] at this
    exact this.1 (by rw [← x]; simp)
  have c3 : w2.cell? ⟨bl, 3, none⟩ = some (.map (some M)) := by
    rw [← hw2, World.cell?_drew, World.cell?_setCell_other _ _ _ _ (by intro e; cases e)]
    simp [World.cell?, HB.out, HH.out.blk]
  have hmv : MapV w2 M (kvL (p ++ (l, e) :: q)) := HH.out.mp.of hM2
  obtain ⟨o, hrun, hmv2⟩ := mv_del Try.underlying9 Try.underlying51 hmv HH.out.kn e.key hkey (p := kvL p) (q := kvL q) (b := l) (by simp [kvL]) 0
  have hes : ∃ es c, w2.heap[M]? = some (.map es c) := by
    obtain ⟨es, c, h1, _⟩ := hmv
    exact ⟨es, c, h1⟩
  have fin := dropI_fin HH.out HB.out hring 1 htc hw2.symm (o := o) hes (by rw [kvL, List.map_append]; exact hmv2)
  have HF := Lib.hid fin
  clear fin hmv hmv2 hes hw2 hring htc hM2 hMM
  go_wp2
  go_ret
  exact ⟨rfl, HF.out⟩
set_option maxHeartbeats 4000000 in
theorem dropI_none {w : World} {bl r M : Nat} {n m : Int} {xs : List Lk} (h : BudI w bl r M n m xs) (key : ByteArray) (hkey : key.size ≤ maxLen) (hno : blkOf (kvL xs) key = none) :
    Calls Try.prog 27 #[.pointer (some ⟨bl, 0, none⟩), .string key] w fun x w' => x = .returned (.bool false) ∧ w = w' := by
  have k1 := findI_any h key hkey
  rw [hno] at k1
  simp only [ptrO] at k1
  have K1 := Lib.hid k1
  clear k1
  go_enter Try.func27, Try.ntmps27
  go_wp2_with fail
  (with_reducible refine K1.out.mono ?_)
  rintro x w1 ⟨rfl, rfl⟩
  go_wp2
  go_ret
  exact ⟨rfl, rfl⟩
set_option maxHeartbeats 4000000 in
theorem peekI_none {w : World} {bl r M : Nat} {n m : Int} {xs : List Lk} (h : BudI w bl r M n m xs) (key : ByteArray) (hkey : key.size ≤ maxLen) (hno : blkOf (kvL xs) key = none) :
    Calls Try.prog 10 #[.pointer (some ⟨bl, 0, none⟩), .string key] w fun x w' => x = .returned (.tuple #[zeI.x, .bool false]) ∧ w = w' := by
  have k1 := findI_any h key hkey
  rw [hno] at k1
  simp only [ptrO] at k1
  have K1 := Lib.hid k1
  clear k1
  go_enter Try.func10, Try.ntmps10
  go_wp2_with fail
  (with_reducible refine K1.out.mono ?_)
  rintro x w1 ⟨rfl, rfl⟩
  go_wp2
  go_ret2
  exact ⟨rfl, rfl⟩
set_option maxHeartbeats 4000000 in
theorem peekI_any {w : World} {bl r M : Nat} {n m : Int} {xs : List Lk} (h : BudI w bl r M n m xs) {l : Nat} {e : Ent} (hm : (l, e) ∈ xs) :
    Calls Try.prog 10 #[.pointer (some ⟨bl, 0, none⟩), .string e.key] w fun x w' => x = .returned (.tuple #[e.x, .bool true]) ∧ w = w' := by
  have hblk : blkOf (kvL xs) e.key = some l := blk_some h.kn (List.mem_map.2 ⟨(l, e), hm, rfl⟩)
  have k1 := findI_any h e.key (h.ks _ hm)
  rw [hblk] at k1
  simp only [ptrO, ptr] at k1
  have K1 := Lib.hid k1
  clear k1
  obtain ⟨va, vf, hlk⟩ := h.ring.2.mem hm
  have c2 : w.cell? ⟨l, 2, none⟩ = some e.x := hlk.cells.2.2.1
  clear hlk
  go_enter Try.func10, Try.ntmps10
  go_wp2_with fail
  (with_reducible refine K1.out.mono ?_)
  rintro x w1 ⟨rfl, rfl⟩
  go_wp2
  go_ret2
  exact ⟨rfl, rfl⟩
/-- A link taken out and put at the end. -/
theorem moveI {w w1 w2 : World} {bl r M : Nat} {n m : Int} {p q : List Lk} {l : Nat} {e : Ent} {va vf : Value} (h : BudI w bl r M n m (p ++ (l, e) :: q)) (hbl : w1.heap[bl]? = w.heap[bl]?) (hM : w1.heap[M]? = w.heap[M]?) (hlk : LnkV 57 w1 l e va vf) (hring : Ring 57 zeI w1 r (p ++ q))
    (ht : Touch (bl :: M :: r :: (p ++ (l, e) :: q).map Prod.fst) w w1) (k : Nat) (hw2 : w2 = ((((w1.setCell ⟨l, 3, none⟩ (ptr (lst r (p ++ q)))).setCell ⟨l, 4, none⟩ (ptr r)).setCell ⟨lst r (p ++ q), 4, none⟩ (ptr l)).setCell ⟨r, 3, none⟩ (ptr l)).drewN k) :
    BudI w2 bl r M n m (p ++ q ++ [(l, e)]) ∧ Touch (bl :: M :: r :: (p ++ (l, e) :: q).map Prod.fst) w w2 := by
  have hperm : (p ++ q ++ [(l, e)]).Perm (p ++ (l, e) :: q) := (List.perm_append_singleton _ _).trans List.perm_middle.symm
  have hpf := hperm.map Prod.fst
  have hnd := h.nd
  have hnd0 := hnd
  rw [List.nodup_cons, List.nodup_cons] at hnd0
  obtain ⟨hbn, hMn, hrn⟩ := hnd0
  have hrn2 : (r :: (p ++ q ++ [(l, e)]).map Prod.fst).Nodup := ((hpf.cons r).nodup_iff).2 hrn
  have hrn3 := hrn2
  rw [List.map_append, ← List.cons_append, List.nodup_append] at hrn3
  have hln : l ∉ r :: (p ++ q).map Prod.fst := fun hm => hrn3.2.2 l hm l (by simp) rfl
  have hin : ∀ c, c ∈ r :: (p ++ q).map Prod.fst → c ∈ r :: (p ++ (l, e) :: q).map Prod.fst := fun c hc => (hpf.cons r).mem_iff.1 (by rw [List.map_append, ← List.cons_append]; exact List.mem_append_left _ hc)
  have hlin : l ∈ r :: (p ++ (l, e) :: q).map Prod.fst := List.mem_cons_of_mem _ (List.mem_map.2 ⟨(l, e), by simp, rfl⟩)
  have hlst : lst r (p ++ q) ∈ r :: (p ++ (l, e) :: q).map Prod.fst := hin _ (by
    rcases @lst_mem (p ++ q) r with hm | ⟨_, hm⟩
    · exact List.mem_cons_of_mem _ hm
    · rw [hm]; exact List.mem_cons_self)
  have hno : ∀ c, c ∉ r :: (p ++ (l, e) :: q).map Prod.fst → w2.heap[c]? = w1.heap[c]? := fun c hc => by
    rw [hw2, World.heap_drewN, heap_set_ne _ _ _ _ _ (fun x => hc (by rw [x]; exact List.mem_cons_self)), heap_set_ne _ _ _ _ _ (fun x => hc (by rw [x]; exact hlst)), heap_set_ne _ _ _ _ _ (fun x => hc (by rw [x]; exact hlin)), heap_set_ne _ _ _ _ _ (fun x => hc (by rw [x]; exact hlin))]
  have f2 : ∀ c ∈ r :: (p ++ (l, e) :: q).map Prod.fst, c ∈ bl :: M :: r :: (p ++ (l, e) :: q).map Prod.fst := fun c hc => List.mem_cons_of_mem _ (List.mem_cons_of_mem _ hc)
  refine ⟨⟨?_, ?_, ?_, (((hpf.cons r).cons M).cons bl).nodup_iff.2 hnd, ?_, fun x hx => h.sz x (hperm.mem_iff.1 hx), ?_, fun x hx => h.ks x (hperm.mem_iff.1 hx)⟩, ?_⟩
  · rw [hno bl (fun x => hbn (List.mem_cons_of_mem _ x)), hbl, h.blk]
    have e1 : sumL (p ++ (l, e) :: q) = sumL (p ++ q ++ [(l, e)]) := by
      rw [sumL_app, sumL_app, sumL_app, sumL, sumL, sumL]; omega
    rw [e1]
  · have := hring.last hlk hrn3.1 hln
    rw [hw2]
    exact this.of (fun _ _ => rfl)
  · obtain ⟨es, c, h1, h2, h3⟩ := h.mp
    refine ⟨es, c, by rw [hno M hMn, hM, h1], h2.trans ?_, fun x hx => h3 x ?_⟩
    · exact ((hperm.map fun x : Lk => (x.2.key, x.1)).map _).symm
    · exact (hperm.map fun x : Lk => (x.2.key, x.1)).mem_iff.1 hx
  · exact (((hperm.map _).map _).nodup_iff).2 h.kn
  · rw [hperm.length_eq]; exact h.len
  · rw [hw2]
    exact ((((ht.setCell l 3 _ (f2 _ hlin)).setCell l 4 _ (f2 _ hlin)).setCell _ 4 _ (f2 _ hlst)).setCell r 3 _ (f2 _ List.mem_cons_self)).drewN k
set_option maxHeartbeats 4000000 in
theorem getI_any {w : World} {bl r M : Nat} {n m : Int} {p q : List Lk} {l : Nat} {e : Ent} (h : BudI w bl r M n m (p ++ (l, e) :: q)) :
    Calls Try.prog 25 #[.pointer (some ⟨bl, 0, none⟩), .string e.key] w fun x w' => x = .returned (.tuple #[e.x, .bool true]) ∧ BudI w' bl r M n m (p ++ q ++ [(l, e)]) ∧ Touch (bl :: M :: r :: (p ++ (l, e) :: q).map Prod.fst) w w' := by
  have hkey := h.ks (l, e) (by simp)
  have hblk : blkOf (kvL (p ++ (l, e) :: q)) e.key = some l := blk_some h.kn (by simp [kvL])
  have k1 := findI_any h e.key hkey
  rw [hblk] at k1
  simp only [ptrO, ptr] at k1
  have K1 := Lib.hid k1
  clear k1
  have hs := h.ring.2
  rw [seg_app] at hs
  have hl : LnkV 57 w l e (ptr (lst r p)) (ptr (hd q r)) := hs.2.1
  clear hs
  obtain ⟨e1, va1, vf1, ha⟩ := h.ring.at (lst r p) (by
    rcases @lst_mem p r with hm | ⟨_, hm⟩
    · rw [List.map_append]; exact List.mem_cons_of_mem _ (List.mem_append_left _ hm)
    · rw [hm]; exact List.mem_cons_self)
  obtain ⟨e2, va2, vf2, hz⟩ := h.ring.at (hd q r) (by
    rcases @hd_mem q r with hm | ⟨_, hm⟩
    · rw [List.map_append, List.map_cons]; exact List.mem_cons_of_mem _ (List.mem_append_right _ (List.mem_cons_of_mem _ hm))
    · rw [hm]; exact List.mem_cons_self)
  have k2 := outI_any l (lst r p) (hd q r) w hl.cells.2.2.2.1 hl.cells.2.2.2.2.1 ⟨_, ha.cells.2.2.2.2.1⟩ ⟨_, hz.cells.2.2.2.1⟩ (ha.cells.2.2.2.2.2.1 4) (hz.cells.2.2.2.2.2.1 3)
  have K2 := Lib.hid k2
  clear k2
  have HH := Lib.hid h
  clear h hl ha hz
  go_enter Try.func25, Try.ntmps25
  go_wp2_with fail
  (with_reducible refine K1.out.mono ?_)
  rintro x w1 ⟨rfl, rfl⟩
  go_wp2_with fail
  (with_reducible refine K2.out.mono ?_)
  rintro x w1 ⟨⟨v, rfl⟩, k, rfl⟩
  obtain ⟨w1, hw1, hbl, hMM, ⟨va, vf, hl⟩, hring, htc⟩ := dropI_mem HH.out k
  rw [← hw1]
  clear hw1
  have k3 : ∀ c, c ∈ r :: (p ++ q).map Prod.fst → c ≠ l := fun c hc x => by
    have hperm : (p ++ (l, e) :: q).Perm ((l, e) :: (p ++ q)) := List.perm_middle
    have := HH.out.nd
    rw [List.nodup_cons, List.nodup_cons] at this
    have h2 := (((hperm.map Prod.fst).cons r).nodup_iff).1 this.2.2
    rw [List.map_cons, List.nodup_cons, List.nodup_cons] at h2
    subst x
    rcases List.mem_cons.1 hc with rfl | hc
    · exact h2.1 (by simp)
    · exact h2.2.1 hc
  have hlst : lst r (p ++ q) ∈ r :: (p ++ q).map Prod.fst := by
    rcases @lst_mem (p ++ q) r with hm | ⟨_, hm⟩
    · exact List.mem_cons_of_mem _ hm
    · rw [hm]; exact List.mem_cons_self
  have hbln : bl ≠ l := fun x => by
    have := HH.out.nd
    rw [List.nodup_cons] at this
    exact this.1 (by rw [x]; simp)
  have c4 : w1.cell? ⟨bl, 4, none⟩ = some (ptr r) := by simp [World.cell?, hbl, HH.out.blk]
  obtain ⟨e3, va3, vf3, h3⟩ := hring.at _ hlst
  have k4 := lastI_any bl r l (lst r (p ++ q)) w1 c4 hring.1.cells.2.2.2.1 ⟨_, hl.cells.2.2.2.1⟩ ⟨_, hl.cells.2.2.2.2.1⟩ ⟨_, h3.cells.2.2.2.2.1⟩ (hl.cells.2.2.2.2.2.1 3) (hl.cells.2.2.2.2.2.1 4) (h3.cells.2.2.2.2.2.1 4) (hring.1.cells.2.2.2.2.2.1 3) hbln (k3 r List.mem_cons_self) (k3 _ hlst)
  have K4 := Lib.hid k4
  clear k4 c4 h3
  have H1 := Lib.hid (And.intro hbl (And.intro hMM (And.intro hl (And.intro hring htc))))
  clear hbl hMM hl hring htc
  go_wp2_with fail
  (with_reducible refine K4.out.mono ?_)
  rintro x w2 ⟨⟨v2, rfl⟩, k5, hw2⟩
  have fin := moveI HH.out H1.out.1 H1.out.2.1 H1.out.2.2.1 H1.out.2.2.2.1 H1.out.2.2.2.2 k5 hw2
  clear hw2
  have c2 : w2.cell? ⟨l, 2, none⟩ = some e.x := by
    obtain ⟨va, vf, hk⟩ := fin.1.ring.2.mem (l := l) (e := e) (by simp)
    exact hk.cells.2.2.1
  have HF := Lib.hid fin
  clear fin
  go_wp2
  go_ret2
  exact ⟨rfl, HF.out⟩
set_option maxHeartbeats 4000000 in
theorem getI_none {w : World} {bl r M : Nat} {n m : Int} {xs : List Lk} (h : BudI w bl r M n m xs) (key : ByteArray) (hkey : key.size ≤ maxLen) (hno : blkOf (kvL xs) key = none) :
    Calls Try.prog 25 #[.pointer (some ⟨bl, 0, none⟩), .string key] w fun x w' => x = .returned (.tuple #[zeI.x, .bool false]) ∧ w = w' := by
  have k1 := findI_any h key hkey
  rw [hno] at k1
  simp only [ptrO] at k1
  have K1 := Lib.hid k1
  clear k1
  go_enter Try.func25, Try.ntmps25
  go_wp2_with fail
  (with_reducible refine K1.out.mono ?_)
  rintro x w1 ⟨rfl, rfl⟩
  go_wp2
  go_ret2
  exact ⟨rfl, rfl⟩
set_option maxHeartbeats 2000000 in
theorem lenI_any {w : World} {bl r M : Nat} {n m : Int} {xs : List Lk} (h : BudI w bl r M n m xs) :
    Calls Try.prog 13 #[.pointer (some ⟨bl, 0, none⟩)] w fun x w' => x = .returned (goInt xs.length) ∧ w = w' := by
  have c3 : w.cell? ⟨bl, 3, none⟩ = some (.map (some M)) := by simp [World.cell?, h.blk]
  have hl : (Builtin.len_ #[51] 3 #[.map (some M)]).run Try.prog w = .ok (goInt (kvL xs).length) w := mv_len Try.underlying51 h.mp _
  have e1 : (kvL xs).length = xs.length := by simp [kvL]
  rw [e1] at hl
  clear e1
  have k1 := isI_any h
  have K1 := Lib.hid k1
  clear k1
  go_enter Try.func13, Try.ntmps13
  go_wp2_with fail
  (with_reducible refine K1.out.mono ?_)
  rintro x w1 ⟨rfl, rfl⟩
  go_wp2
  go_ret
  exact ⟨rfl, rfl⟩
set_option maxHeartbeats 2000000 in
theorem bytesI_any {w : World} {bl r M : Nat} {n m : Int} {xs : List Lk} (h : BudI w bl r M n m xs) :
    Calls Try.prog 14 #[.pointer (some ⟨bl, 0, none⟩)] w fun x w' => x = .returned (.int .i64 (sumL xs)) ∧ w = w' := by
  have c2 : w.cell? ⟨bl, 2, none⟩ = some (.int .i64 (sumL xs)) := by simp [World.cell?, h.blk]
  have k1 := isI_any h
  have K1 := Lib.hid k1
  clear k1
  go_enter Try.func14, Try.ntmps14
  go_wp2_with fail
  (with_reducible refine K1.out.mono ?_)
  rintro x w1 ⟨rfl, rfl⟩
  go_wp2
  go_ret
  exact ⟨rfl, rfl⟩
end Go.Proofs.Ytheblhgmfkpllaa
