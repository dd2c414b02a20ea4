/- Joined out of the texts RefCopy, RRefWith (wip/tools/merge.py). -/
import Derived.Test.YtgmmjhcklhajiaaGreatDoorPm5
/- The document's Copy and in (layer 20). -/
namespace Go.Proofs.YtgmmjhcklhajiaaGreatDoor
open Go.RowKit
set_option maxRecDepth 100000

theorem take_in20 {ls : List (List UInt8)} {nm : List UInt8} {k : Nat} (h : k < ls.length) : hasL (ls.take (k + 1)) nm = (hasL (ls.take k) nm || (lowerL ls[k] == lowerL nm)) := by
  unfold hasL
  rw [List.take_succ_eq_append_getElem h, List.any_append]
  simp
set_option maxHeartbeats 4000000 in
theorem in20_any (N : Option Addr) (n c : Nat) (ls : List (List UInt8)) (nm : List UInt8) (w : World) (hr : Rd N n 1 (strsV ls) w) (hn : n ≤ 1000000) (hl : ∀ l ∈ ls, l.length ≤ 1000000) (hm : nm.length ≤ 1000000) :
    Calls Tryz.prog 51 #[.slice N n c, .string ⟨nm.toArray⟩] w fun e w' => e = .returned (.bool (hasL ls nm)) ∧ Below w.heap.size w w' := by
  obtain rfl := hr.str
  have hyes : ∀ k (h : k < ls.length), (lowerL ls[k] == lowerL nm) = true → hasL ls nm = true := by
    intro k h e
    unfold hasL
    rw [List.any_eq_true]
    exact ⟨ls[k], List.getElem_mem _, e⟩
  have hst : ∀ k (h : k < ls.length), hasL (ls.take k) nm = false → (lowerL ls[k] == lowerL nm) = false → hasL (ls.take (k + 1)) nm = false := by
    intro k h h1 h2
    rw [take_in20 h, h1, h2]; rfl
  have hend : ∀ k, k = ls.length → hasL (ls.take k) nm = false → hasL ls nm = false := by
    intro k hk h
    subst hk
    rwa [List.take_length] at h
  have kl := fun W => rlower_any ⟨nm.toArray⟩ W (by rw [Lib.size_eq]; exact hm)
  simp only at kl
  have HR := Lib.hid hr; have HL := Lib.hid hl; have HY := Lib.hid hyes; have HS := Lib.hid hst; have HE := Lib.hid hend; have KL := Lib.hid kl
  clear hr hl hyes hst hend kl
  generalize hasL ls nm = out at *
  go_enter Tryz.func51, Tryz.ntmps51
  go_wp2_with fail
  go_loopw [5] (fun i wr => ∃ k : Nat, k ≤ ls.length ∧ i = .int .i64 k ∧ Hid (hasL (ls.take k) nm = false) ∧ Below w.heap.size w wr) (fun i _ => ls.length - (intOf i).toNat)
  case atStart => exact ⟨0, Nat.zero_le _, rfl, Lib.hid rfl, Below.refl _ _⟩
  case round =>
    obtain ⟨k, hk, rfl, HN, hbr⟩ := hrel
    by_cases hlt : k < ls.length
    · obtain ⟨b, o, rfl, hl', c0⟩ := (HR.out.below hbr).str_at (k := k) hlt
      have h1 := HY.out k hlt
      have h2 := HS.out k hlt HN.out
      have h3 := HL.out ls[k] (List.getElem_mem _)
      generalize ls[k] = x at *
      have kx := rlower_any ⟨x.toArray⟩ wr (by rw [Lib.size_eq]; exact h3)
      simp only at kx
      have KX := Lib.hid kx
      clear kx HY HS HE HN HL h3
      cases he : (lowerL x == lowerL nm)
      · have HN2 := Lib.hid (h2 he)
        clear h1 h2
        go_wp2_with fail
        (with_reducible refine KX.out.mono ?_)
        rintro e w1 ⟨rfl, hb1⟩
        have hB1 := hbr.trans (hb1.mono hbr.size)
        go_wp2_with fail
        (with_reducible refine (KL.out _).mono ?_)
        rintro e w2 ⟨rfl, hb2⟩
        have hB2 := hB1.trans (hb2.mono hB1.size)
        go_wp2
        go_roundw
        case rel => exact ⟨k + 1, by omega, by go_num, HN2, hB2⟩
        case measure => simp [intOf]; omega
      · have ho := h1 he
        subst ho
        clear h1 h2
        go_wp2_with fail
        (with_reducible refine KX.out.mono ?_)
        rintro e w1 ⟨rfl, hb1⟩
        have hB1 := hbr.trans (hb1.mono hbr.size)
        go_wp2_with fail
        (with_reducible refine (KL.out _).mono ?_)
        rintro e w2 ⟨rfl, hb2⟩
        have hB2 := hB1.trans (hb2.mono hB1.size)
        go_wp2
        go_ret
        exact ⟨rfl, hB2⟩
    · have ho := HE.out k (by omega) HN.out
      subst ho
      clear HY HS HE HN HL
      go_wp2
      go_ret
      exact ⟨rfl, hbr⟩

/-- A row that the call made stays while another one grows. -/
theorem own_grown {B : Nat} {e : TypeId} {size : Nat} {v : Value} {n : Nat} {xs : List Value} {w w1 : World} {o : Option Nat} (h : w.ownsRow B e size v n xs) (hg : w.grownBy w1 o) (hne : ∀ g, v.ownBlock = some g → o ≠ some g) : w1.ownsRow B e size v n xs := by
  obtain ⟨h1, h2⟩ := h
  refine ⟨h1, ?_⟩
  rcases h2 with h2 | ⟨g, cap, cur, hv, hgB, hh, r⟩
  · exact Or.inl h2
  · refine Or.inr ⟨g, cap, cur, hv, hgB, ?_, r⟩
    have hgl : g < w.heap.size := by
      rcases Nat.lt_or_ge g w.heap.size with h' | h'
      · exact h'
      · simp [Array.getElem?_eq_none h'] at hh
    rw [hg.block g hgl (fun x => hne g (by rw [hv]; rfl) x.symm)]
    exact hh
theorem own_far {B : Nat} {e : TypeId} {size : Nat} {v : Value} {n : Nat} {xs : List Value} {w w1 : World} {u u' : Value} (h : w.ownsRow B e size v n xs) (hf : Far w w1 u u') (hne : ∀ g, v.ownBlock = some g → u.ownBlock ≠ some g) : w1.ownsRow B e size v n xs ∧ ∀ g, v.ownBlock = some g → u'.ownBlock ≠ some g := by
  have hlt := h.lt
  refine ⟨own_grown h hf.1 hne, fun g hg => ?_⟩
  rcases hf.2 with h2 | h2
  · rw [h2]; exact hne g hg
  · intro x
    have h3 := h2 _ x
    have h4 := (hlt g hg).2
    omega

set_option maxHeartbeats 16000000 in
theorem copy20_any (st mi asked got : Int) (re bo : ByteArray) (A V : Option Addr) (n c m d : Nat) (xs vs : List Fld) (w : World) (hr : Rd A n 2 (fldsV xs) w) (hv : Rd V m 2 (fldsV vs) w) (hn : n ≤ 1000) (hm : m ≤ 1000) :
    Calls Tryz.prog 14 #[.agg #[.int .i64 st, .string re, .int .i64 mi, .slice A n c, .string bo, .int .i64 asked, .int .i64 got, .slice V m d]] w fun e w' => ∃ a c' b d', e = .returned (.agg #[.int .i64 st, .string re, .int .i64 mi, .slice a n c', .string bo, .int .i64 asked, .int .i64 got, .slice b m d']) ∧ Rd a n 2 (fldsV xs) w' ∧ Rd b m 2 (fldsV vs) w' ∧ Below w.heap.size w w' := by
  obtain rfl := hr.fld; obtain rfl := hv.fld
  obtain ⟨W1, hW1⟩ : ∃ W1, w.alloc (.cells #[.int .i64 st, .string re, .int .i64 mi, .slice A xs.length c, .string bo, .int .i64 asked, .int .i64 got, .slice V vs.length d] 26) = W1 := ⟨_, rfl⟩
  have b1 : Below w.heap.size w W1 := by rw [← hW1]; exact (Below.refl w.heap.size w).alloc (Nat.le_refl _) _
  have z1 : W1.heap.size = w.heap.size + 1 := by rw [← hW1]; simp
  have x1 : W1.heap[w.heap.size]? = some (.cells #[.int .i64 st, .string re, .int .i64 mi, .slice A xs.length c, .string bo, .int .i64 asked, .int .i64 got, .slice V vs.length d] 26 (0, 0)) := by rw [← hW1]; exact heap_new w _ _ rfl
  obtain ⟨W2, hW2⟩ : ∃ W2, W1.alloc (.cells #[.int .i64 0, .string ⟨#[]⟩, .int .i64 0, .slice none 0 0, .string ⟨#[]⟩, .int .i64 0, .int .i64 0, .slice none 0 0] 26) = W2 := ⟨_, rfl⟩
  have b2 : Below W1.heap.size W1 W2 := by rw [← hW2]; exact (Below.refl W1.heap.size W1).alloc (Nat.le_refl _) _
  have z2 : W2.heap.size = w.heap.size + 2 := by rw [← hW2]; simp [z1]
  have x2 : W2.heap[w.heap.size + 1]? = some (.cells #[.int .i64 0, .string ⟨#[]⟩, .int .i64 0, .slice none 0 0, .string ⟨#[]⟩, .int .i64 0, .int .i64 0, .slice none 0 0] 26 (0, 0)) := by rw [← hW2]; exact heap_new W1 _ _ z1
  obtain ⟨W3, hW3⟩ : ∃ W3, W2.alloc (.cells #[.int .i64 st, .string re, .int .i64 mi, .slice A xs.length c, .string bo, .int .i64 asked, .int .i64 got, .slice V vs.length d] 26) = W3 := ⟨_, rfl⟩
  have b3 : Below W2.heap.size W2 W3 := by rw [← hW3]; exact (Below.refl W2.heap.size W2).alloc (Nat.le_refl _) _
  have z3 : W3.heap.size = w.heap.size + 3 := by rw [← hW3]; simp [z2]
  have x3 : W3.heap[w.heap.size + 2]? = some (.cells #[.int .i64 st, .string re, .int .i64 mi, .slice A xs.length c, .string bo, .int .i64 asked, .int .i64 got, .slice V vs.length d] 26 (0, 0)) := by rw [← hW3]; exact heap_new W2 _ _ z2
  have y1 := (b3.block w.heap.size (by omega)).trans ((b2.block w.heap.size (by omega)).trans x1)
  have y2 := (b3.block (w.heap.size + 1) (by omega)).trans x2
  have hB3 : Below w.heap.size w W3 := bt (bt b1 b2) b3
  obtain ⟨W4, hW4⟩ : ∃ W4, W3.setCell ⟨w.heap.size + 2, 7, none⟩ (.slice none 0 0) = W4 := ⟨_, rfl⟩
  have z4 : W4.heap.size = w.heap.size + 3 := by rw [← hW4]; simp [z3]
  have hB4 : Below w.heap.size w W4 := by rw [← hW4]; exact hB3.setCell (p := ⟨w.heap.size + 2, 7, none⟩) (by show w.heap.size ≤ w.heap.size + 2; omega) _
  have u1 : W4.heap[w.heap.size]? = some (.cells #[.int .i64 st, .string re, .int .i64 mi, .slice A xs.length c, .string bo, .int .i64 asked, .int .i64 got, .slice V vs.length d] 26 (0, 0)) := by rw [← hW4]; exact heap_setO y1 (by show w.heap.size ≠ w.heap.size + 2; omega)
  have u2 : W4.heap[w.heap.size + 1]? = some (.cells #[.int .i64 0, .string ⟨#[]⟩, .int .i64 0, .slice none 0 0, .string ⟨#[]⟩, .int .i64 0, .int .i64 0, .slice none 0 0] 26 (0, 0)) := by rw [← hW4]; exact heap_setO y2 (by show w.heap.size + 1 ≠ w.heap.size + 2; omega)
  have u3 : W4.heap[w.heap.size + 2]? = some (.cells #[.int .i64 st, .string re, .int .i64 mi, .slice A xs.length c, .string bo, .int .i64 asked, .int .i64 got, .slice none 0 0] 26 (0, 0)) := by
    rw [← hW4]
    have := heap_setN (j := 7) (v := .slice none 0 0) x3
    simpa using this
  have HV := Lib.hid (hv.below hB4)
  have HR := Lib.hid (fun W (hb : Below w.heap.size w W) => hr.below hb)
  have hzv : ([] : List Fld).length + vs.length ≤ 1000000000 := by simp; omega
  have hzx : ([] : List Fld).length + xs.length ≤ 1000000000 := by simp; omega
  have c0 := (of_heap x3 0).1; have c7 := (of_heap x3 7).1; have f7 := (of_heap x3 7).2.1
  have e7 := (of_heap u1 7).1; have o7 := (of_heap u3 7).1
  have HW1 := Lib.hid hW1; have HW2 := Lib.hid hW2; have HW3 := Lib.hid hW3; have HW4 := Lib.hid hW4; have U1 := Lib.hid u1; have U2 := Lib.hid u2; have U3 := Lib.hid u3; have HB4 := Lib.hid hB4; have Z4 := Lib.hid z4
  have d0 := (of_heap y1 0).1; have d1 := (of_heap y1 1).1; have d2 := (of_heap y1 2).1; have d3 := (of_heap y1 3).1; have d4 := (of_heap y1 4).1; have d5 := (of_heap y1 5).1; have d6 := (of_heap y1 6).1; have d7 := (of_heap y1 7).1
  simp only [List.getElem?_toArray, List.getElem?_cons_succ, List.getElem?_cons_zero] at c0 c7 e7 o7 d0 d1 d2 d3 d4 d5 d6 d7
  clear hW1 hW2 hW3 hW4 u1 u2 u3 hB4 hB3 y1 y2 x1 x2 x3 b1 b2 b3 z1 z2 z3 z4 hr hv
  go_enter Tryz.func14, Tryz.ntmps14
  go_upto_region 2 with (fail)
  rw [HW1.out, HW2.out, HW3.out]
  go_upto_region 3 with (fail)
  rw [HW4.out]
  go_wp2_with (at_builtin; refine app_flds W4.heap.size (OwnF.nil _ _) (Nat.le_refl _) HV.out hzv rfl _ _ rfl rfl rfl ?_)
  intro v5 w5 hO5 hb5 _
  obtain ⟨a5, c5, rfl⟩ := hO5.shape
  have z5 := Z4.out
  have p1 := (hb5.block w.heap.size (by omega)).trans U1.out
  have p2 := (hb5.block (w.heap.size + 1) (by omega)).trans U2.out
  have p3 := (hb5.block (w.heap.size + 2) (by omega)).trans U3.out
  have hs5 := hb5.size
  obtain ⟨W6, hW6⟩ : ∃ W6, (w5.setCell ⟨w.heap.size + 2, 7, none⟩ (.slice a5 vs.length c5)).setCell ⟨w.heap.size + 2, 3, none⟩ (.slice none 0 0) = W6 := ⟨_, rfl⟩
  have hB5 := HB4.out.trans (hb5.mono (by omega))
  have hB6 : Below w.heap.size w W6 := by rw [← hW6]; exact (hB5.setCell (p := ⟨w.heap.size + 2, 7, none⟩) (by show w.heap.size ≤ w.heap.size + 2; omega) _).setCell (p := ⟨w.heap.size + 2, 3, none⟩) (by show w.heap.size ≤ w.heap.size + 2; omega) _
  have z6 : W6.heap.size = w5.heap.size := by rw [← hW6]; simp
  have q1 : W6.heap[w.heap.size]? = some (.cells #[.int .i64 st, .string re, .int .i64 mi, .slice A xs.length c, .string bo, .int .i64 asked, .int .i64 got, .slice V vs.length d] 26 (0, 0)) := by rw [← hW6]; exact heap_setO (heap_setO p1 (by show w.heap.size ≠ w.heap.size + 2; omega)) (by show w.heap.size ≠ w.heap.size + 2; omega)
  have q2 : W6.heap[w.heap.size + 1]? = some (.cells #[.int .i64 0, .string ⟨#[]⟩, .int .i64 0, .slice none 0 0, .string ⟨#[]⟩, .int .i64 0, .int .i64 0, .slice none 0 0] 26 (0, 0)) := by rw [← hW6]; exact heap_setO (heap_setO p2 (by show w.heap.size + 1 ≠ w.heap.size + 2; omega)) (by show w.heap.size + 1 ≠ w.heap.size + 2; omega)
  have q3 : W6.heap[w.heap.size + 2]? = some (.cells #[.int .i64 st, .string re, .int .i64 mi, .slice none 0 0, .string bo, .int .i64 asked, .int .i64 got, .slice a5 vs.length c5] 26 (0, 0)) := by
    rw [← hW6]
    have := heap_setN (j := 3) (v := .slice none 0 0) (heap_setN (j := 7) (v := .slice a5 vs.length c5) p3)
    simpa using this
  have hO6 : OwnF W4.heap.size (.slice a5 vs.length c5) vs W6 := by
    rw [← hW6]
    exact ownsRow_setCell_below (a := ⟨w.heap.size + 2, 3, none⟩) (ownsRow_setCell_below (a := ⟨w.heap.size + 2, 7, none⟩) hO5 (by show w.heap.size + 2 < _; omega) _) (by show w.heap.size + 2 < _; omega) _
  clear c0 c7 f7 e7 o7 d0 d1 d2 d3 d4 d5 d6 d7
  have c7 := (of_heap p3 7).1; have f7 := (of_heap p3 7).2.1; have f3 := (of_heap p3 3).2.1; have c3 := (of_heap p3 3).1
  have e3 := (of_heap q1 3).1; have o3 := (of_heap q3 3).1
  simp only [List.getElem?_toArray, List.getElem?_cons_succ, List.getElem?_cons_zero] at c7 c3 e3 o3
  have HW6 := Lib.hid hW6; have HB6 := Lib.hid hB6; have Q1 := Lib.hid q1; have Q2 := Lib.hid q2; have Q3 := Lib.hid q3; have HO6 := Lib.hid hO6; have Z6 := Lib.hid z6
  clear hW6 hB6 q1 q2 q3 hO6 p1 p2 p3 hO5 hb5 hB5 z6 U1 U2 U3
  go_upto_region 5 with (fail)
  rw [HW6.out]
  clear c7 f7 f3 c3
  have r3 := (of_heap Q3.out 3).2.1
  go_wp2_with (at_builtin; refine app_flds W6.heap.size (OwnF.nil _ _) (Nat.le_refl _) (HR.out _ HB6.out) hzx rfl _ _ rfl rfl rfl ?_)
  intro v8 w8 hO8 hb8 _
  obtain ⟨a8, c8, rfl⟩ := hO8.shape
  have z6 := Z6.out
  have p2 := (hb8.block (w.heap.size + 1) (by omega)).trans Q2.out
  have p3 := (hb8.block (w.heap.size + 2) (by omega)).trans Q3.out
  have hO9 := OwnF.below HO6.out hb8
  have hB8 := HB6.out.trans (hb8.mono (by omega))
  clear e3 o3 r3
  have i0 := (of_heap p3 0).1; have i1 := (of_heap p3 1).1; have i2 := (of_heap p3 2).1; have i3 := (of_heap p3 3).1; have i4 := (of_heap p3 4).1; have i5 := (of_heap p3 5).1; have i6 := (of_heap p3 6).1; have i7 := (of_heap p3 7).1; have k3 := (of_heap p3 3).2.1
  have j0 := (of_heap p2 0).1; have j1 := (of_heap p2 1).1; have j2 := (of_heap p2 2).1; have j3 := (of_heap p2 3).1; have j4 := (of_heap p2 4).1; have j5 := (of_heap p2 5).1; have j6 := (of_heap p2 6).1; have j7 := (of_heap p2 7).1
  have l0 := (of_heap p2 0).2.1; have l1 := (of_heap p2 1).2.1; have l2 := (of_heap p2 2).2.1; have l3 := (of_heap p2 3).2.1; have l4 := (of_heap p2 4).2.1; have l5 := (of_heap p2 5).2.1; have l6 := (of_heap p2 6).2.1; have l7 := (of_heap p2 7).2.1
  simp only [List.getElem?_toArray, List.getElem?_cons_succ, List.getElem?_cons_zero] at i0 i1 i2 i3 i4 i5 i6 i7 j0 j1 j2 j3 j4 j5 j6 j7
  have HO8 := Lib.hid hO8; have HO9 := Lib.hid hO9; have HB8 := Lib.hid hB8
  clear hO8 hO9 hB8 p2 p3 hb8
  go_wp2_with fail
  refine bodyPost_ret_by (v := .agg #[.int .i64 st, .string re, .int .i64 mi, .slice a8 xs.length c8, .string bo, .int .i64 asked, .int .i64 got, .slice a5 vs.length c5]) ?_ rfl ?_
  · rw [results_cell_one rfl]
    go_simp
  · refine ⟨a8, c8, a5, c5, rfl, ?_, ?_, ?_⟩
    · exact (OwnF.rd (set8_ownF (E := w.heap.size + 1) (by omega) (ownsRow_setCell_below (a := ⟨w.heap.size + 2, 3, none⟩) HO8.out (by show w.heap.size + 2 < _; omega) _))).2
    · exact (OwnF.rd (set8_ownF (E := w.heap.size + 1) (by omega) (ownsRow_setCell_below (a := ⟨w.heap.size + 2, 3, none⟩) HO9.out (by show w.heap.size + 2 < _; omega) _))).2
    · exact set8_below' (by omega) (HB8.out.setCell (p := ⟨w.heap.size + 2, 3, none⟩) (by show w.heap.size ≤ w.heap.size + 2; omega) _)
end Go.Proofs.YtgmmjhcklhajiaaGreatDoor
/- The document's With (layer 20). -/
namespace Go.Proofs.YtgmmjhcklhajiaaGreatDoor
open Go.RowKit
set_option maxRecDepth 100000

/-- Two rows of the call's own that grow beside each other. -/
def TwoSt (B : Nat) (br nv : Value) (fs : List Fld) (w : World) : Prop :=
  OwnF B br fs w ∧ OwnS B nv (dated2 ++ fs.map (·.1)) w ∧ (∀ g, br.ownBlock = some g → nv.ownBlock ≠ some g) ∧ ∀ g, nv.ownBlock = some g → br.ownBlock ≠ some g
theorem TwoSt.below {B : Nat} {br nv : Value} {fs : List Fld} {w w1 : World} (h : TwoSt B br nv fs w) (hb : Below w.heap.size w w1) : TwoSt B br nv fs w1 := ⟨h.1.below hb, h.2.1.below hb, h.2.2⟩
def keepB (ns : List (List UInt8)) (f : Fld) : Bool := !hasL ns f.1
theorem keepB_step (ns : List (List UInt8)) (l : List Fld) (k : Nat) (h : k < l.length) : (l.take (k + 1)).filter (keepB ns) = if keepB ns l[k] = true then (l.take k).filter (keepB ns) ++ [l[k]] else (l.take k).filter (keepB ns) := by
  rw [List.take_succ_eq_append_getElem h, List.filter_append, List.filter_cons, List.filter_nil]
  split <;> simp
theorem keepB_le (ns : List (List UInt8)) (l : List Fld) (k : Nat) : ((l.take k).filter (keepB ns)).length ≤ l.length := by
  have h1 := List.length_filter_le (keepB ns) (l.take k)
  rw [List.length_take] at h1
  omega
theorem own_set {B g : Nat} {v : Value} {fs : List Fld} {w : World} (j : Nat) (x : Value) (h : OwnF B v fs w) (hne : v.ownBlock ≠ some g) : OwnF B v fs (w.setCell ⟨g, j, none⟩ x) :=
  own_grown h (setCell_grown w g j x) (fun k hk e => hne (by rw [hk, ← e]))
set_option maxHeartbeats 32000000 in
theorem rwith20_any (st mi asked got rst rmi t0 t1 : Int) (re bo rre rbo : ByteArray) (A V R : Option Addr) (n c m d k l : Nat) (xs vs rep : List Fld) (w : World) (hr : Rd A n 2 (fldsV xs) w) (hv : Rd V m 2 (fldsV vs) w) (hq : Rd R k 2 (fldsV rep) w) (hn : n ≤ 100) (hs : sumF xs ≤ 7000) (hm : m ≤ 100) (hk : k ≤ 100) (hsq : sumF rep ≤ 7000) :
    Calls Tryz.prog 16 #[.agg #[.int .i64 st, .string re, .int .i64 mi, .slice A n c, .string bo, .int .i64 asked, .int .i64 got, .slice V m d], .agg #[.int .i64 rst, .string rre, .int .i64 rmi, .slice R k l, .string rbo], .int .i64 t0, .int .i64 t1] w fun e w' => ∃ a c', e = .returned (.agg #[.int .i64 st, .string re, .int .i64 mi, .slice a (withL xs rep).length c', .string bo, .int .i64 t0, .int .i64 t1, .slice V m d]) ∧ Rd a (withL xs rep).length 2 (fldsV (withL xs rep)) w' ∧ Below w.heap.size w w' := by
  obtain rfl := hr.fld; obtain rfl := hv.fld; obtain rfl := hq.fld
  obtain ⟨W1, hW1⟩ : ∃ W1, w.alloc (.cells #[.int .i64 st, .string re, .int .i64 mi, .slice A xs.length c, .string bo, .int .i64 asked, .int .i64 got, .slice V vs.length d] 26) = W1 := ⟨_, rfl⟩
  have b1 : Below w.heap.size w W1 := by rw [← hW1]; exact (Below.refl w.heap.size w).alloc (Nat.le_refl _) _
  have z1 : W1.heap.size = w.heap.size + 1 := by rw [← hW1]; simp
  have x1 : W1.heap[w.heap.size]? = some (.cells #[.int .i64 st, .string re, .int .i64 mi, .slice A xs.length c, .string bo, .int .i64 asked, .int .i64 got, .slice V vs.length d] 26 (0, 0)) := by rw [← hW1]; exact heap_new w _ _ rfl
  obtain ⟨W2, hW2⟩ : ∃ W2, W1.alloc (.cells #[.int .i64 rst, .string rre, .int .i64 rmi, .slice R rep.length l, .string rbo] 24) = W2 := ⟨_, rfl⟩
  have b2 : Below W1.heap.size W1 W2 := by rw [← hW2]; exact (Below.refl _ W1).alloc (Nat.le_refl _) _
  have z2 : W2.heap.size = w.heap.size + 2 := by rw [← hW2]; simp [z1]
  have x2 : W2.heap[w.heap.size + 1]? = some (.cells #[.int .i64 rst, .string rre, .int .i64 rmi, .slice R rep.length l, .string rbo] 24 (0, 0)) := by rw [← hW2]; exact heap_new W1 _ _ z1
  obtain ⟨W3, hW3⟩ : ∃ W3, W2.alloc (.cells #[.int .i64 0, .string ⟨#[]⟩, .int .i64 0, .slice none 0 0, .string ⟨#[]⟩, .int .i64 0, .int .i64 0, .slice none 0 0] 26) = W3 := ⟨_, rfl⟩
  have b3 : Below W2.heap.size W2 W3 := by rw [← hW3]; exact (Below.refl _ W2).alloc (Nat.le_refl _) _
  have z3 : W3.heap.size = w.heap.size + 3 := by rw [← hW3]; simp [z2]
  have x3 : W3.heap[w.heap.size + 2]? = some (.cells #[.int .i64 0, .string ⟨#[]⟩, .int .i64 0, .slice none 0 0, .string ⟨#[]⟩, .int .i64 0, .int .i64 0, .slice none 0 0] 26 (0, 0)) := by rw [← hW3]; exact heap_new W2 _ _ z2
  have y1 := (b3.block _ (by omega)).trans ((b2.block _ (by omega)).trans x1)
  have y2 := (b3.block _ (by omega)).trans x2
  have hB3 : Below w.heap.size w W3 := bt (bt b1 b2) b3
  have k1 := rhop_any R rep.length l rep W3 (hq.below hB3) (by omega) (by omega)
  have hhm := hopL_mem rep (by omega)
  have hhl := hopL_le rep
  have hbr : bringsL rep = rep.filter (keepB (hopL rep ++ own5)) := rfl
  have hwl : withL xs rep = xs.filter (keepB (dated2 ++ (bringsL rep).map (·.1))) ++ bringsL rep := rfl
  rw [hwl]
  rw [hbr]
  have hkb : ∀ f : Fld, keepB (hopL rep ++ own5) f = !(hasL (hopL rep) f.1 || hasL own5 f.1) := fun f => by unfold keepB; rw [hasL_app]
  have hqs : ∀ f ∈ rep, f.1.length ≤ 7000 := fun f hf => by have := sumF_mem hf; omega
  have hxs : ∀ f ∈ xs, f.1.length ≤ 7000 := fun f hf => by have := sumF_mem hf; omega
  have hst1 := keepB_step (hopL rep ++ own5) rep
  have hle1 := keepB_le (hopL rep ++ own5) rep
  have hst2 := keepB_step (dated2 ++ (rep.filter (keepB (hopL rep ++ own5))).map (·.1)) xs
  have hle2 := keepB_le (dated2 ++ (rep.filter (keepB (hopL rep ++ own5))).map (·.1)) xs
  have hnm : ∀ x ∈ dated2 ++ (rep.filter (keepB (hopL rep ++ own5))).map (·.1), x.length ≤ 1000000 := by
    intro x hx
    rcases List.mem_append.1 hx with h | h
    · have := (show ∀ x ∈ dated2, x.length ≤ 1000000 by decide) x h; exact this
    · obtain ⟨f, hf, rfl⟩ := List.mem_map.1 h
      have := hqs f (List.mem_filter.1 hf).1; omega
  have hfin : (rep.filter (keepB (hopL rep ++ own5))).length ≤ 100 := by have := List.length_filter_le (keepB (hopL rep ++ own5)) rep; omega
  generalize hp0 : hopL rep = hp at *
  obtain ⟨q, hqe⟩ : ∃ q, keepB (hp ++ own5) = q := ⟨_, rfl⟩
  rw [hqe] at hkb hst1 hle1 hst2 hle2 hnm hfin ⊢
  have HQX := Lib.hid (fun W (hb : Below w.heap.size w W) => hq.below hb); have HRX := Lib.hid (fun W (hb : Below w.heap.size w W) => hr.below hb)
  have K1 := Lib.hid k1; have HHM := Lib.hid hhm; have HKB := Lib.hid hkb; have HQS := Lib.hid hqs; have HXS := Lib.hid hxs; have HST1 := Lib.hid hst1; have HLE1 := Lib.hid hle1; have HST2 := Lib.hid hst2; have HLE2 := Lib.hid hle2; have HNM := Lib.hid hnm
  have HW1 := Lib.hid hW1; have HW2 := Lib.hid hW2; have HW3 := Lib.hid hW3; have Y1 := Lib.hid y1; have Y2 := Lib.hid y2; have Y3 := Lib.hid x3; have Z3 := Lib.hid z3; have HB3 := Lib.hid hB3
  have r1 : W3.cell? ⟨w.heap.size + 1, 3, none⟩ = some (.slice R rep.length l) := (of_heap y2 3).1
  clear k1 hhm hkb hqs hxs hst1 hle1 hst2 hle2 hnm hW1 hW2 hW3 y1 y2 x3 x1 x2 b1 b2 b3 z1 z2 z3 hB3 hr hv hq hbr hwl hqe hp0
  go_enter Tryz.func16, Tryz.ntmps16
  go_upto_region 1 with (fail)
  rw [HW1.out, HW2.out, HW3.out]
  go_wp2_with fail
  (with_reducible refine K1.out.mono ?_)
  rintro e w4 ⟨ha, hc, rfl, ho, hb⟩
  have RH := Lib.hid ho.rd.2
  have HB4 := Lib.hid (bt HB3.out hb)
  have hs4 := hb.size
  have P1 := Lib.hid ((hb.block w.heap.size (by have := Z3.out; omega)).trans Y1.out); have P2 := Lib.hid ((hb.block (w.heap.size + 1) (by have := Z3.out; omega)).trans Y2.out); have P3 := Lib.hid ((hb.block (w.heap.size + 2) (by have := Z3.out; omega)).trans Y3.out)
  clear hb ho K1 Y1 Y2 Y3 HW1 HW2 HW3 r1 HB3
  go_upto_region 3 with (fail)
  obtain ⟨W5, hY⟩ : ∃ W, w4.alloc (.cells #[.string ⟨#[99, 111, 110, 116, 101, 110, 116, 45, 108, 101, 110, 103, 116, 104]⟩, .string ⟨#[99, 111, 110, 116, 101, 110, 116, 45, 101, 110, 99, 111, 100, 105, 110, 103]⟩, .string ⟨#[99, 111, 110, 116, 101, 110, 116, 45, 116, 121, 112, 101]⟩, .string ⟨#[99, 111, 110, 116, 101, 110, 116, 45, 114, 97, 110, 103, 101]⟩, .string ⟨#[118, 97, 114, 121]⟩] 9) = W := ⟨_, rfl⟩
  have hb : Below w4.heap.size w4 W5 := by rw [← hY]; exact (Below.refl w4.heap.size w4).alloc (Nat.le_refl _) _
  have R5 : Hid (Rd (some ⟨w4.heap.size, 0, none⟩) 5 1 (strsV own5) W5) := Lib.hid (by rw [← hY]; exact (OwnS.new w4 own5 (by decide)).rd.2)
  rw [hY]
  have hs5 := hb.size
  have P1 := Lib.hid ((hb.block w.heap.size (by have := Z3.out; omega)).trans P1.out); have P2 := Lib.hid ((hb.block (w.heap.size + 1) (by have := Z3.out; omega)).trans P2.out); have P3 := Lib.hid ((hb.block (w.heap.size + 2) (by have := Z3.out; omega)).trans P3.out)
  have RH := Lib.hid (RH.out.below hb)
  have HB5 := Lib.hid (bt HB4.out hb)
  clear hb hY HB4
  go_upto_region 5 with (fail)
  obtain ⟨W6, hY⟩ : ∃ W, W5.alloc (.cells #[.string ⟨#[97, 103, 101]⟩, .string ⟨#[100, 97, 116, 101]⟩] 9) = W := ⟨_, rfl⟩
  have hb : Below W5.heap.size W5 W6 := by rw [← hY]; exact (Below.refl W5.heap.size W5).alloc (Nat.le_refl _) _
  have hN : OwnS W5.heap.size (.slice (some ⟨W5.heap.size, 0, none⟩) 2 2) dated2 W6 := by rw [← hY]; exact OwnS.new W5 dated2 (by decide)
  rw [hY]
  have hT0 : TwoSt W5.heap.size (.slice none 0 0) (.slice (some ⟨W5.heap.size, 0, none⟩) 2 2) ([] : List Fld) W6 := ⟨OwnF.nil _ _, hN, (fun g h => by cases h), (fun g _ h => by cases h)⟩
  have HT0 := Lib.hid hT0; have HB6 := Lib.hid hb
  have hz5 : w.heap.size + 2 < W5.heap.size := by have := Z3.out; omega
  clear hb hY hN hT0 hs4 hs5
  go_wp2_with fail
  go_loopw [14, 11, 13] (fun i br nv wr => ∃ k : Nat, k ≤ rep.length ∧ i = .int .i64 k ∧ Hid (TwoSt W5.heap.size br nv ((rep.take k).filter q) wr) ∧ Below W5.heap.size W5 wr) (fun i _ _ _ => rep.length - (intOf i).toNat)
  case atStart => exact ⟨0, Nat.zero_le _, rfl, HT0, HB6.out⟩
  case round =>
    clear HT0 HB6
    obtain ⟨k, hk', rfl, HO, hbw⟩ := hrel
    obtain ⟨oa, oc, rfl⟩ := HO.out.1.shape
    obtain ⟨na, nc, rfl⟩ := HO.out.2.1.shape
    obtain ⟨lb, hlb⟩ : ∃ n, ((rep.take k).filter q).length = n := ⟨_, rfl⟩
    obtain ⟨ln, hln⟩ : ∃ n, (dated2 ++ ((rep.take k).filter q).map (·.1)).length = n := ⟨_, rfl⟩
    rw [hlb, hln] at HO ⊢
    have hBw := HB5.out.trans (hbw.mono (by omega))
    have e2 := (hbw.block (w.heap.size + 1) (by omega)).trans P2.out
    have q3 := (of_heap e2 3).1
    simp only [List.getElem?_toArray, List.getElem?_cons_succ, List.getElem?_cons_zero] at q3
    by_cases hlt : k < rep.length
    · obtain ⟨b, o, rfl, hl, d0, d1⟩ := (HQX.out _ hBw).fld_at (k := k) hlt
      have hst := HST1.out k hlt
      have hll := HLE1.out k
      have hkb := HKB.out rep[k]
      have hfl := HQS.out rep[k] (List.getElem_mem _)
      generalize rep[k] = f at *
      obtain ⟨fn, fv⟩ := f
      simp only at d0 d1 hkb hfl
      have hll2 : (dated2 ++ ((rep.take k).filter q).map (·.1)).length ≤ 1000000000 := by rw [List.length_append, List.length_map]; have : dated2.length = 2 := rfl; omega
      rw [hlb] at hll
      generalize (rep.take k).filter q = acc at *
      obtain ⟨W7, hY⟩ : ∃ W, wr.alloc (.cells #[.string ⟨fn.toArray⟩, .string ⟨fv.toArray⟩] 55) = W := ⟨_, rfl⟩
      have b7 : Below wr.heap.size wr W7 := by rw [← hY]; exact (Below.refl wr.heap.size wr).alloc (Nat.le_refl _) _
      have x7 : W7.heap[wr.heap.size]? = some (.cells #[.string ⟨fn.toArray⟩, .string ⟨fv.toArray⟩] 55 (0, 0)) := by rw [← hY]; exact heap_new wr _ _ rfl
      have hpl := (of_heap x7 0).2.2
      have v0 := (of_heap x7 0).1; have v1 := (of_heap x7 1).1
      simp only [List.getElem?_toArray, List.getElem?_cons_succ, List.getElem?_cons_zero] at v0 v1
      have hblt := HO.out.1.lt
      have HO7 := Lib.hid (HO.out.below b7)
      have hB7 := hbw.trans (b7.mono hbw.size)
      have KI1 := Lib.hid (in20_any ha hp.length hc hp fn W7 ((RH.out.below hbw).below b7) (by omega) HHM.out (by omega))
      have KI2 := Lib.hid (fun W (hb : Below W5.heap.size W5 W) => in20_any (some ⟨w4.heap.size, 0, none⟩) 5 5 own5 fn W (R5.out.below hb) (by omega) (by decide) (by omega))
      have HY := Lib.hid hY; have X7 := Lib.hid x7; have HST := Lib.hid hst
      clear hY x7 hst b7 HST1 HLE1 HKB HQS HO HST2 HLE2 HNM HXS
      cases hh : hasL hp fn
      · rw [hh] at KI1 hkb
        cases ho5 : hasL own5 fn
        · rw [ho5] at hkb KI2
          have hq1 : q (fn, fv) = true := hkb
          go_upto_region 9 with (fail)
          rw [HY.out]
          go_wp2_with fail
          (with_reducible refine KI1.out.mono ?_)
          rintro e w8 ⟨rfl, hb8⟩
          have hB8 := hB7.trans (hb8.mono hB7.size)
          have u0 := (hb8.cell (p := ⟨wr.heap.size, 0, none⟩) hpl).trans v0
          have u1 := (hb8.cell (p := ⟨wr.heap.size, 1, none⟩) hpl).trans v1
          have hpl8 := Nat.lt_of_lt_of_le hpl hb8.size
          have HO8 := Lib.hid (HO7.out.below hb8)
          clear v0 v1 hb8 hpl q3
          go_wp2_with fail
          (with_reducible refine (KI2.out _ hB8).mono ?_)
          rintro e w9 ⟨rfl, hb9⟩
          have hB9 := hB8.trans (hb9.mono hB8.size)
          have v0 := (hb9.cell (p := ⟨wr.heap.size, 0, none⟩) hpl8).trans u0
          have v1 := (hb9.cell (p := ⟨wr.heap.size, 1, none⟩) hpl8).trans u1
          have hpl9 := Nat.lt_of_lt_of_le hpl8 hb9.size
          have HO9 := Lib.hid (HO8.out.below hb9)
          have hs9 := hB9.size
          clear u0 u1 hb9 KI1 KI2 HO8 HO7 d0 d1
          go_wp2_with (at_builtin; refine app_fld W5.heap.size (fn, fv) HO9.out.1 hs9 (by omega) rfl _ _ rfl rfl rfl ?_)
          intro v10 w10 hO10 hb10 hf10
          have hn10 := own_far HO9.out.2.1 hf10 HO9.out.2.2.2
          have hpx : (Value.slice oa lb oc).ownBlock ≠ some wr.heap.size := by
            intro x
            have := (hblt _ x).2
            omega
          have g0 := (World.cell?_of_block (a := ⟨wr.heap.size, 0, none⟩) (hf10.1.block wr.heap.size hpl9 (fun x => hpx x.symm))).trans v0
          obtain ⟨a10, c10, rfl⟩ := hO10.shape
          have hB10 := hB9.trans hb10
          have hs10 := hB10.size
          have HO10 := Lib.hid hO10; have HN10 := Lib.hid hn10
          clear v0 v1 hO10 hn10 hb10 hf10 HO9 hpx
          go_wp2_with (at_builtin; refine app_str W5.heap.size fn HN10.out.1 hs10 hll2 rfl _ _ rfl rfl rfl ?_)
          intro v11 w11 hO11 hb11 hf11
          have hn11 := own_far HO10.out hf11 (fun g h x => HN10.out.2 g x h)
          obtain ⟨a11, c11, rfl⟩ := hO11.shape
          have hB11 := hB10.trans hb11
          have hacc : (rep.take (k + 1)).filter q = acc ++ [(fn, fv)] := by rw [HST.out, if_pos hq1]
          have hlst : (dated2 ++ acc.map (·.1)) ++ [fn] = dated2 ++ ((rep.take (k + 1)).filter q).map (·.1) := by rw [hacc]; simp
          have hT : TwoSt W5.heap.size (.slice a10 (acc ++ [(fn, fv)]).length c10) (.slice a11 ((dated2 ++ acc.map (·.1)) ++ [fn]).length c11) ((rep.take (k + 1)).filter q) w11 := by
            refine ⟨?_, ?_, hn11.2, fun g h x => hn11.2 g x h⟩
            · rw [hacc]; exact hn11.1
            · rw [← hlst]; exact hO11
          have e9 : (acc ++ [(fn, fv)]).length = lb + 1 := by rw [List.length_append, hlb]; rfl
          rw [e9, List.append_assoc] at hT
          have HT := Lib.hid hT
          clear e9 hT hO11 hn11 hb11 hf11 hacc hlst HO10 HN10 hlb hln
          go_wp2
          go_roundw
          case rel => exact ⟨k + 1, by omega, by go_num, HT, hB11⟩
          case measure => simp [intOf]; omega
        · rw [ho5] at hkb KI2
          have hq1 : q (fn, fv) = false := hkb
          go_upto_region 9 with (fail)
          rw [HY.out]
          go_wp2_with fail
          (with_reducible refine KI1.out.mono ?_)
          rintro e w8 ⟨rfl, hb8⟩
          have hB8 := hB7.trans (hb8.mono hB7.size)
          have u0 := (hb8.cell (p := ⟨wr.heap.size, 0, none⟩) hpl).trans v0
          have HO8 := Lib.hid (HO7.out.below hb8)
          clear v0 v1 hb8 hpl q3
          go_wp2_with fail
          (with_reducible refine (KI2.out _ hB8).mono ?_)
          rintro e w9 ⟨rfl, hb9⟩
          have hB9 := hB8.trans (hb9.mono hB8.size)
          have HO9 := Lib.hid (HO8.out.below hb9)
          have hacc : (rep.take (k + 1)).filter q = acc := by rw [HST.out, if_neg (by rw [hq1]; simp)]
          have HACC := Lib.hid hacc
          clear hacc u0 hb9 KI1 KI2 HO8 HO7 d0 d1
          go_wp2
          go_roundw
          case rel => exact ⟨k + 1, by omega, by go_num, by rw [HACC.out]; exact HO9, hB9⟩
          case measure => simp [intOf]; omega
      · rw [hh] at KI1 hkb
        have hq1 : q (fn, fv) = false := by rw [hkb]; rfl
        go_upto_region 9 with (fail)
        rw [HY.out]
        go_wp2_with fail
        (with_reducible refine KI1.out.mono ?_)
        rintro e w8 ⟨rfl, hb8⟩
        have hB8 := hB7.trans (hb8.mono hB7.size)
        have HO8 := Lib.hid (HO7.out.below hb8)
        have hacc : (rep.take (k + 1)).filter q = acc := by rw [HST.out, if_neg (by rw [hq1]; simp)]
        have HACC := Lib.hid hacc
        clear hacc hb8 KI1 KI2 HO7 d0 d1 v0 v1 q3
        go_wp2
        go_roundw
        case rel => exact ⟨k + 1, by omega, by go_num, by rw [HACC.out]; exact HO8, hB8⟩
        case measure => simp [intOf]; omega
    · have hke : k = rep.length := by omega
      subst hke
      obtain ⟨wo, hwo⟩ : ∃ wo : World, wo = wr := ⟨_, rfl⟩
      subst hwo
      rw [List.take_length] at HO hlb hln
      have HLB := Lib.hid hlb; have HLN := Lib.hid hln
      have rb := HO.out.1.rd.2; have rn := HO.out.2.1.rd.2
      have hST2 := HST2.out; have hLE2 := HLE2.out
      generalize hfl : rep.filter q = fl at *
      obtain ⟨nl, hnl⟩ : ∃ l, dated2 ++ fl.map (·.1) = l := ⟨_, rfl⟩
      rw [hnl] at hST2 hLE2 rn hln
      have hnm2 := HNM.out
      rw [hnl] at hnm2
      have HNL := Lib.hid hnl
      have hfq : fl.length ≤ 100 := hfin
      have hln2 : nl.length ≤ 1000 := by rw [← hnl, List.length_append, List.length_map]; have : dated2.length = 2 := rfl; omega
      have RB := Lib.hid rb; have RN := Lib.hid rn; have HS2 := Lib.hid hST2; have HL2 := Lib.hid hLE2; have HN2 := Lib.hid hnm2
      rw [← hlb, ← hln]
      clear rb rn hST2 hLE2 hnm2 hnl hlb hln HST1 HLE1 HST2 HLE2 HNM HKB HQS HO hlt hk' e2 HLB HLN
      have hso := hbw.size
      have P1o := Lib.hid ((hbw.block w.heap.size (by omega)).trans P1.out); have P3o := Lib.hid ((hbw.block (w.heap.size + 2) (by omega)).trans P3.out)
      have HBo := Lib.hid hBw
      clear hBw hbw P1 P2 P3
      go_wp2_with fail
      clear q3
      go_loopw [16, 12] (fun i sv wr => ∃ j : Nat, j ≤ xs.length ∧ i = .int .i64 j ∧ Hid (OwnF wo.heap.size sv ((xs.take j).filter (keepB nl)) wr) ∧ Below wo.heap.size wo wr) (fun i _ _ => xs.length - (intOf i).toNat)
      case atStart => exact ⟨0, Nat.zero_le _, rfl, Lib.hid (OwnF.nil _ _), Below.refl _ _⟩
      case round =>
        obtain ⟨j, hj', rfl, HO, hbw⟩ := hrel
        obtain ⟨sa, sc, rfl⟩ := HO.out.shape
        obtain ⟨ls, hls⟩ : ∃ n, ((xs.take j).filter (keepB nl)).length = n := ⟨_, rfl⟩
        rw [hls] at HO ⊢
        have hBw := HBo.out.trans (hbw.mono (by omega))
        have e1 := (hbw.block w.heap.size (by omega)).trans P1o.out
        have q3 := (of_heap e1 3).1; have hEl := (of_heap e1 3).2.2
        simp only [List.getElem?_toArray, List.getElem?_cons_succ, List.getElem?_cons_zero] at q3
        by_cases hlt : j < xs.length
        · obtain ⟨b, o, rfl, hl, d0, d1⟩ := (HRX.out _ hBw).fld_at (k := j) hlt
          have hst := HS2.out j hlt
          have hll := HL2.out j
          have hfx := HXS.out xs[j] (List.getElem_mem _)
          generalize xs[j] = f at *
          obtain ⟨fn, fv⟩ := f
          simp only at d0 d1 hfx
          have hkf : keepB nl (fn, fv) = !hasL nl fn := rfl
          rw [hls] at hll
          generalize (xs.take j).filter (keepB nl) = acc at *
          have KI := Lib.hid (in20_any na nl.length nc nl fn wr (RN.out.below hbw) (by omega) HN2.out (by omega))
          have HST := Lib.hid hst
          clear hst HS2 HL2 HN2 HXS
          cases hh : hasL nl fn
          · rw [hh] at KI hkf
            go_wp2_with fail
            (with_reducible refine KI.out.mono ?_)
            rintro e w8 ⟨rfl, hb8⟩
            have hB8 := hbw.trans (hb8.mono hbw.size)
            have g3 := (hb8.cell (p := ⟨w.heap.size, 3, none⟩) hEl).trans q3
            have g0 := (hb8.cell (p := ⟨b, o + j * 2, none⟩) hl).trans d0
            have g1 := (hb8.cell (p := ⟨b, o + j * 2 + 1, none⟩) hl).trans d1
            have HO8 := Lib.hid (HO.out.below hb8)
            have hs8 := hB8.size
            clear q3 d0 d1 hb8 KI HO
            go_wp2_with (at_builtin; refine app_fld wo.heap.size (fn, fv) HO8.out hs8 (by omega) rfl _ _ rfl rfl rfl ?_)
            intro v10 w10 hO10 hb10 _
            obtain ⟨a10, c10, rfl⟩ := hO10.shape
            have hB10 := hB8.trans hb10
            have hacc : (xs.take (j + 1)).filter (keepB nl) = acc ++ [(fn, fv)] := by rw [HST.out, if_pos (by rw [hkf]; rfl)]
            have hT : OwnF wo.heap.size (.slice a10 (acc ++ [(fn, fv)]).length c10) ((xs.take (j + 1)).filter (keepB nl)) w10 := by rw [hacc]; exact hO10
            have HT := Lib.hid hT
            clear hT hacc hO10 hb10 HO8 hls
            go_wp2
            go_roundw
            case rel => exact ⟨j + 1, by omega, by go_num, HT, hB10⟩
            case measure => simp [intOf]; omega
          · rw [hh] at KI hkf
            go_wp2_with fail
            (with_reducible refine KI.out.mono ?_)
            rintro e w8 ⟨rfl, hb8⟩
            have hB8 := hbw.trans (hb8.mono hbw.size)
            have HO8 := Lib.hid (HO.out.below hb8)
            have hacc : (xs.take (j + 1)).filter (keepB nl) = acc := by rw [HST.out, if_neg (by rw [hkf]; simp)]
            have HACC := Lib.hid hacc
            clear hacc hb8 KI HO q3 d0 d1
            go_wp2
            go_roundw
            case rel => exact ⟨j + 1, by omega, by go_num, by rw [HACC.out]; exact HO8, hB8⟩
            case measure => simp [intOf]; omega
        · have hje : j = xs.length := by omega
          subst hje
          rw [List.take_length] at HO hls
          have hlx := List.length_filter_le (keepB nl) xs
          obtain ⟨sl, hsl⟩ : ∃ s, xs.filter (keepB nl) = s := ⟨_, rfl⟩
          rw [hsl] at HO hls hlx
          have HSL := Lib.hid hsl
          have c0 := (of_heap e1 0).1; have c1 := (of_heap e1 1).1; have c2 := (of_heap e1 2).1; have c3 := (of_heap e1 3).1; have c4 := (of_heap e1 4).1; have c5 := (of_heap e1 5).1; have c6 := (of_heap e1 6).1; have c7 := (of_heap e1 7).1
          simp only [List.getElem?_toArray, List.getElem?_cons_succ, List.getElem?_cons_zero] at c0 c1 c2 c3 c4 c5 c6 c7
          have hblt := HO.out.lt
          have hge0 := hbw.size
          obtain ⟨Y, hY⟩ : ∃ W, wr.alloc (.cells #[.int .i64 st, .string re, .int .i64 mi, .slice A xs.length c, .string bo, .int .i64 asked, .int .i64 got, .slice V vs.length d] 26) = W := ⟨_, rfl⟩
          have bY : Below wr.heap.size wr Y := by rw [← hY]; exact (Below.refl wr.heap.size wr).alloc (Nat.le_refl _) _
          have xY : Y.heap[wr.heap.size]? = some (.cells #[.int .i64 st, .string re, .int .i64 mi, .slice A xs.length c, .string bo, .int .i64 asked, .int .i64 got, .slice V vs.length d] 26 (0, 0)) := by rw [← hY]; exact heap_new wr _ _ rfl
          have zY : Y.heap.size = wr.heap.size + 1 := by rw [← hY]; simp
          have hBY := hbw.trans (bY.mono hbw.size)
          have HOY := Lib.hid (HO.out.below bY)
          have RBY := Lib.hid (RB.out.below hBY)
          have hsY := hBY.size
          have XY := Lib.hid xY; have HY := Lib.hid hY; have ZY := Lib.hid zY; have HBY := Lib.hid hBY; have HLS := Lib.hid hls
          have hbs : sl.length + fl.length ≤ 1000000000 := by omega
          clear hY xY zY bY hBY HO hbw hBw e1 q3 HS2 HL2 HN2 HXS hls hsl
          go_upto_region 18 with (fail)
          rw [HY.out]
          clear c0 c1 c2 c3 c4 c5 c6 c7
          rw [← HLS.out] at HOY ⊢
          go_wp2_with (at_builtin; refine app_flds wo.heap.size HOY.out hsY RBY.out hbs rfl _ _ rfl rfl rfl ?_)
          intro v20 w20 hO20 hb20 hf20
          have hpl : wr.heap.size < Y.heap.size := by have := ZY.out; omega
          have hpx : (Value.slice sa sl.length sc).ownBlock ≠ some wr.heap.size := by
            intro x
            rw [HLS.out] at x
            have := (hblt _ x).2
            omega
          have pP := (hf20.1.block wr.heap.size hpl (fun x => hpx x.symm)).trans XY.out
          have hpv : v20.ownBlock ≠ some wr.heap.size := by
            rcases hf20.2 with h | h
            · rw [h]; exact hpx
            · intro x; have := h _ x; have := ZY.out; omega
          obtain ⟨a20, c20, rfl⟩ := hO20.shape
          have pR := ((HBY.out.trans hb20).block (w.heap.size + 2) (by omega)).trans P3o.out
          have i0 := (of_heap pP 0).1; have i1 := (of_heap pP 1).1; have i2 := (of_heap pP 2).1; have i3 := (of_heap pP 3).1; have i4 := (of_heap pP 4).1; have i5 := (of_heap pP 5).1; have i6 := (of_heap pP 6).1; have i7 := (of_heap pP 7).1
          have k3 := (of_heap pP 3).2.1; have k5 := (of_heap pP 5).2.1; have k6 := (of_heap pP 6).2.1
          have j0 := (of_heap pR 0).1; have j1 := (of_heap pR 1).1; have j2 := (of_heap pR 2).1; have j3 := (of_heap pR 3).1; have j4 := (of_heap pR 4).1; have j5 := (of_heap pR 5).1; have j6 := (of_heap pR 6).1; have j7 := (of_heap pR 7).1
          have l0 := (of_heap pR 0).2.1; have l1 := (of_heap pR 1).2.1; have l2 := (of_heap pR 2).2.1; have l3 := (of_heap pR 3).2.1; have l4 := (of_heap pR 4).2.1; have l5 := (of_heap pR 5).2.1; have l6 := (of_heap pR 6).2.1; have l7 := (of_heap pR 7).2.1
          simp only [List.getElem?_toArray, List.getElem?_cons_succ, List.getElem?_cons_zero] at i0 i1 i2 i3 i4 i5 i6 i7 j0 j1 j2 j3 j4 j5 j6 j7
          have hne : wr.heap.size ≠ w.heap.size + 2 := by omega
          have HO20 := Lib.hid hO20; have HPV := Lib.hid hpv
          have HB20 := Lib.hid (HBo.out.trans ((HBY.out.trans hb20).mono (by omega)))
          clear hO20 hb20 hf20 pP pR hpx hpv HOY RBY XY
          go_wp2_with fail
          refine bodyPost_ret_by (v := .agg #[.int .i64 st, .string re, .int .i64 mi, .slice a20 (sl ++ fl).length c20, .string bo, .int .i64 t0, .int .i64 t1, .slice V vs.length d]) ?_ rfl ?_
          · rw [results_cell_one rfl]
            go_simp
          · have h1 := own_set 3 (.slice a20 (sl.length + fl.length) c20) HO20.out HPV.out
            have h2 := own_set 5 (.int .i64 t0) h1 HPV.out
            have h3 := own_set 6 (.int .i64 t1) h2 HPV.out
            rw [hfl, HNL.out, HSL.out]
            refine ⟨a20, c20, rfl, (OwnF.rd (set8_ownF (E := w.heap.size + 2) (by omega) h3)).2, ?_⟩
            exact set8_below' (by omega) (((HB20.out.setCell (p := ⟨wr.heap.size, 3, none⟩) (by show w.heap.size ≤ wr.heap.size; omega) _).setCell (p := ⟨wr.heap.size, 5, none⟩) (by show w.heap.size ≤ wr.heap.size; omega) _).setCell (p := ⟨wr.heap.size, 6, none⟩) (by show w.heap.size ≤ wr.heap.size; omega) _)
end Go.Proofs.YtgmmjhcklhajiaaGreatDoor
