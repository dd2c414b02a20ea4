/- The walk of the document's Find (layer 11). -/
import Derived.Test.YtfoabdpfadgafaaDoorSay
import Derived.Test.YtfoabdpfadgafaaDoorOwnD
import Derived.Test.YtfoabdpfadgafaaDoorRSame
namespace Go.Proofs.YtfoabdpfadgafaaDoor
open Go.RowKit
set_option maxRecDepth 100000

theorem At4.below {W W1 : World} {a : Nat} {v0 v1 v2 v3 : Value} (h : At4 W a v0 v1 v2 v3) (hb : Below W.heap.size W W1) : At4 W1 a v0 v1 v2 v3 :=
  ⟨(hb.cell (p := ⟨a, 0, none⟩) h.lt).trans h.c0, (hb.cell (p := ⟨a, 1, none⟩) h.lt).trans h.c1, (hb.cell (p := ⟨a, 2, none⟩) h.lt).trans h.c2, (hb.cell (p := ⟨a, 3, none⟩) h.lt).trans h.c3, (hb.frozen (p := ⟨a, 0, none⟩) h.lt).trans h.f0, (hb.frozen (p := ⟨a, 1, none⟩) h.lt).trans h.f1, (hb.frozen (p := ⟨a, 2, none⟩) h.lt).trans h.f2, (hb.frozen (p := ⟨a, 3, none⟩) h.lt).trans h.f3, Nat.lt_of_lt_of_le h.lt hb.size⟩
theorem find_take_none {xs : List Dir} {p : Dir → Bool} {k : Nat} (h : k < xs.length) (hn : (xs.take k).find? p = none) (hp : p xs[k] = false) : (xs.take (k + 1)).find? p = none := by
  rw [List.take_succ_eq_append_getElem h, List.find?_append, hn]; simp [hp]
theorem find_take_some {xs : List Dir} {p : Dir → Bool} {k : Nat} (h : k < xs.length) (hn : (xs.take k).find? p = none) (hp : p xs[k] = true) : xs.find? p = some xs[k] := by
  have e : xs = xs.take (k + 1) ++ xs.drop (k + 1) := (List.take_append_drop _ _).symm
  have e2 : (xs.take (k + 1)).find? p = some xs[k] := by rw [List.take_succ_eq_append_getElem h, List.find?_append, hn]; simp [hp]
  have e3 : (xs.take (k + 1) ++ xs.drop (k + 1)).find? p = some xs[k] := by rw [List.find?_append, e2]; rfl
  rw [← e] at e3; exact e3

set_option maxHeartbeats 8000000 in
theorem rfind_any (A : Option Addr) (n c : Nat) (xs : List Dir) (nm : ByteArray) (w : World) (hr : Rd A n 4 (dirsV xs) w) (hn : n ≤ 1000000) (hx : ∀ d ∈ xs, d.name.length ≤ 140737488351232) (hnm : nm.size ≤ 140737488351232) :
    Calls Tryd.prog 21 #[.slice A n c, .string nm] w fun e w' => e = .returned (saidV (findO xs nm.data.toList)) ∧ Below w.heap.size w w' := by
  obtain rfl := hr.dir
  obtain ⟨W0, hW0⟩ : ∃ W0, w.alloc (.cells #[.string ⟨#[]⟩, .string ⟨#[]⟩, .bool false, .string ⟨#[]⟩] 29) = W0 := ⟨_, rfl⟩
  have hB0 : Below w.heap.size w W0 := by rw [← hW0]; exact (Below.refl w.heap.size w).alloc (Nat.le_refl _) _
  have h4 := at4_alloc w (.string ⟨#[]⟩) (.string ⟨#[]⟩) (.bool false) (.string ⟨#[]⟩) 29
  rw [hW0] at h4
  have HW0 := Lib.hid hW0; clear hW0
  have hstep := fun k (h : k < xs.length) => @find_take_none xs (fun d => lowerL d.name == lowerL nm.data.toList) k h
  have hhit := fun k (h : k < xs.length) => @find_take_some xs (fun d => lowerL d.name == lowerL nm.data.toList) k h
  have hend : ∀ k, k = xs.length → (xs.take k).find? (fun d => lowerL d.name == lowerL nm.data.toList) = none → findO xs nm.data.toList = none := fun k hk h => by
    subst hk; rw [List.take_length] at h; exact h
  have hfo : findO xs nm.data.toList = xs.find? (fun d => lowerL d.name == lowerL nm.data.toList) := rfl
  rw [← hfo] at hhit
  clear hfo
  generalize findO xs nm.data.toList = out at *
  have HR := Lib.hid hr; have HX := Lib.hid hx; have HS := Lib.hid hstep; have HH := Lib.hid hhit; have HE := Lib.hid hend
  have hb0 := Below.refl W0.heap.size W0
  clear hr hx hstep hhit hend
  go_enter Tryd.func21, Tryd.ntmps21
  go_wp2_with fail
  rw [HW0.out]
  go_loopw [6] (fun i wr => ∃ k : Nat, k ≤ xs.length ∧ i = .int .i64 k ∧ Hid ((xs.take k).find? (fun d => lowerL d.name == lowerL nm.data.toList) = none) ∧ Below W0.heap.size W0 wr) (fun i _ => xs.length - (intOf i).toNat)
  case atStart => exact ⟨0, Nat.zero_le _, rfl, Lib.hid (by simp), hb0⟩
  case round =>
    clear hb0
    obtain ⟨k, hk, rfl, HN, hbr⟩ := hrel
    by_cases hlt : k < xs.length
    · obtain ⟨b, o, rfl, hl, x0, x1, x2, x3⟩ := (HR.out.below (hB0.trans (hbr.mono hB0.size))).dir_at (k := k) hlt
      have hd := HX.out xs[k] (List.getElem_mem _)
      have hst := HS.out k hlt HN.out
      have hht := HH.out k hlt HN.out
      generalize xs[k] = d at *
      obtain ⟨dn, dv, dh, df⟩ := d
      simp only at x0 x1 x2 x3 hd hst hht
      have k1 := rsame_wide ⟨dn.toArray⟩ nm wr (by rw [Lib.size_eq]; exact hd) hnm
      simp only at k1
      cases hq : (lowerL dn == lowerL nm.data.toList)
      · rw [hq] at k1
        have HN2 := Lib.hid (hst hq)
        have K1 := Lib.hid k1
        clear hst hht k1 hq hd HS HH HE HX HN
        go_wp2_with fail
        refine K1.out.mono ?_
        rintro e w1 ⟨rfl, hb1⟩
        go_wp2
        go_roundw
        case rel => exact ⟨k + 1, by omega, by go_num, HN2, bt hbr hb1⟩
        case measure => simp [intOf]; omega
      · rw [hq] at k1
        have ho := hht hq
        subst ho
        have K1 := Lib.hid k1
        clear hst hht k1 hq hd HS HH HE HX HN
        go_wp2_with fail
        refine K1.out.mono ?_
        rintro e w1 ⟨rfl, hb1⟩
        have hB1 := bt hbr hb1
        have x0' := (hb1.cell (p := ⟨b, o + k * 4, none⟩) hl).trans x0
        have x1' := (hb1.cell (p := ⟨b, o + k * 4 + 1, none⟩) hl).trans x1
        have x2' := (hb1.cell (p := ⟨b, o + k * 4 + 2, none⟩) hl).trans x2
        have x3' := (hb1.cell (p := ⟨b, o + k * 4 + 3, none⟩) hl).trans x3
        obtain ⟨g0, g1, g2, g3, q0, q1, q2, q3, glt⟩ := h4.below hB1
        have hBw := hB0.trans (hB1.mono hB0.size)
        clear x0 x1 x2 x3 hb1 hB1
        go_wp2_with fail
        refine bodyPost_ret_by (v := .tuple #[.agg #[.string ⟨dn.toArray⟩, .string ⟨dv.toArray⟩, .bool dh, .string ⟨df.toArray⟩], .bool true]) ?_ rfl ?_
        · rw [results_cell_tmp rfl]
          go_simp
        · exact ⟨rfl, (((hBw.setCell (p := ⟨w.heap.size, 0, none⟩) (Nat.le_refl _) _).setCell (p := ⟨w.heap.size, 1, none⟩) (Nat.le_refl _) _).setCell (p := ⟨w.heap.size, 2, none⟩) (Nat.le_refl _) _).setCell (p := ⟨w.heap.size, 3, none⟩) (Nat.le_refl _) _⟩
    · have ho := HE.out k (by omega) HN.out
      subst ho
      clear HS HH HE HX HN
      obtain ⟨g0, g1, g2, g3, q0, q1, q2, q3, glt⟩ := h4.below hbr
      have hBw := hB0.trans (hbr.mono hB0.size)
      go_wp2_with fail
      refine bodyPost_ret_by (v := .tuple #[.agg #[.string ⟨#[]⟩, .string ⟨#[]⟩, .bool false, .string ⟨#[]⟩], .bool false]) ?_ rfl ?_
      · rw [results_cell_tmp rfl]
        go_simp
      · exact ⟨rfl, (((hBw.setCell (p := ⟨w.heap.size, 0, none⟩) (Nat.le_refl _) _).setCell (p := ⟨w.heap.size, 1, none⟩) (Nat.le_refl _) _).setCell (p := ⟨w.heap.size, 2, none⟩) (Nat.le_refl _) _).setCell (p := ⟨w.heap.size, 3, none⟩) (Nat.le_refl _) _⟩
end Go.Proofs.YtfoabdpfadgafaaDoor
