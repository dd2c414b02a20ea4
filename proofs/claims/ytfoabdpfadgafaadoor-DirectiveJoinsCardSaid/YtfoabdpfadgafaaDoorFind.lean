/- The walk of directive.Find (layer 11). -/
import Derived.Test.YtfoabdpfadgafaaDoorRFind
import Derived.Test.YtfoabdpfadgafaaDoorSame
namespace Go.Proofs.YtfoabdpfadgafaaDoor
open Go.RowKit
set_option maxRecDepth 100000

/-- The first that it holds for. -/
def firstI (p : Dir → Bool) (xs : List Dir) : Int := match xs.findIdx? p with | some k => k | none => -1

set_option maxHeartbeats 4000000 in
theorem findF_any (T : Nat) (nm : ByteArray) (d : Dir) (w : World) (hT : w.cell? ⟨T, 0, none⟩ = some (.string nm)) (hTw : T < w.heap.size) (hd : d.name.length ≤ 140737488351232) (hnm : nm.size ≤ 140737488351232) :
    Calls Tryd.prog 42 #[.agg #[.string ⟨d.name.toArray⟩, .string ⟨d.value.toArray⟩, .bool d.has, .string ⟨d.for_.toArray⟩], .pointer (some ⟨T, 0, none⟩)] w fun e w' => e = .returned (.bool (lowerL d.name == lowerL nm.data.toList)) ∧ Below w.heap.size w w' := by
  obtain ⟨dn, dv, dh, df⟩ := d
  simp only at hd
  have hal := (Below.refl w.heap.size w).alloc (Nat.le_refl _) (.cells #[.string ⟨dn.toArray⟩, .string ⟨dv.toArray⟩, .bool dh, .string ⟨df.toArray⟩] 29)
  have k1 := fun W => tsame_wide ⟨dn.toArray⟩ nm W (by rw [Lib.size_eq]; exact hd) hnm
  simp only at k1
  have hT2 := (hal.cell (p := ⟨T, 0, none⟩) hTw).trans hT
  have K1 := Lib.hid k1; clear k1
  go_enter Tryd.func42, Tryd.ntmps42
  go_wp2_with fail
  refine (K1.out _).mono ?_
  rintro e w1 ⟨rfl, hb1⟩
  go_wp2
  go_ret
  exact ⟨rfl, hal.trans (hb1.mono (by simp))⟩

set_option maxHeartbeats 4000000 in
theorem indexF_any (T : Nat) (nm : ByteArray) (A : Option Addr) (n c : Nat) (xs : List Dir) (w : World) (hr : Rd A n 4 (dirsV xs) w) (hn : n ≤ 1000000) (hT : w.cell? ⟨T, 0, none⟩ = some (.string nm)) (hTw : T < w.heap.size) (hx : ∀ d ∈ xs, d.name.length ≤ 140737488351232) (hnm : nm.size ≤ 140737488351232) :
    Calls Tryd.prog 41 #[.slice A n c, .func (.func 42) #[] #[.pointer (some ⟨T, 0, none⟩)]] w fun e w' => e = .returned (.int .i64 (firstI (fun d => lowerL d.name == lowerL nm.data.toList) xs)) ∧ Below w.heap.size w w' := by
  obtain rfl := hr.dir
  have hstep := fun k (h : k < xs.length) => @find_take_none xs (fun d => lowerL d.name == lowerL nm.data.toList) k h
  have hhit : ∀ k (h : k < xs.length), (xs.take k).find? (fun d => lowerL d.name == lowerL nm.data.toList) = none → (lowerL (xs[k]).name == lowerL nm.data.toList) = true → firstI (fun d => lowerL d.name == lowerL nm.data.toList) xs = k := by
    intro k h hno hp
    unfold firstI
    rw [show xs.findIdx? (fun d => lowerL d.name == lowerL nm.data.toList) = some k from by
      rw [List.findIdx?_eq_some_iff_getElem]
      refine ⟨h, hp, fun j hj => ?_⟩
      rw [List.find?_eq_none] at hno
      refine hno xs[j] ?_
      rw [List.mem_take_iff_getElem]
      exact ⟨j, by omega, rfl⟩]
  have hend : ∀ k, k = xs.length → (xs.take k).find? (fun d => lowerL d.name == lowerL nm.data.toList) = none → firstI (fun d => lowerL d.name == lowerL nm.data.toList) xs = -1 := by
    intro k hk h
    subst hk
    rw [List.take_length] at h
    unfold firstI
    rw [show xs.findIdx? (fun d => lowerL d.name == lowerL nm.data.toList) = none from by
      rw [List.findIdx?_eq_none_iff]
      rw [List.find?_eq_none] at h
      intro x hx'; simpa using h x hx']
  have hc := fun d W h1 h2 h3 => findF_any T nm d W h1 h2 h3 hnm
  generalize firstI (fun d => lowerL d.name == lowerL nm.data.toList) xs = out at *
  have HR := Lib.hid hr; have HX := Lib.hid hx; have HS := Lib.hid hstep; have HH := Lib.hid hhit; have HE := Lib.hid hend; have HC := Lib.hid hc; have HT := Lib.hid hT
  clear hr hx hstep hhit hend hc hT
  go_enter Tryd.func41, Tryd.ntmps41
  go_wp2_with fail
  go_loopw [8] (fun i wr => ∃ k : Nat, k ≤ xs.length ∧ i = .int .i64 k ∧ Hid ((xs.take k).find? (fun d => lowerL d.name == lowerL nm.data.toList) = none) ∧ Below w.heap.size w wr) (fun i _ => xs.length - (intOf i).toNat)
  case atStart => exact ⟨0, Nat.zero_le _, rfl, Lib.hid (by simp), Below.refl _ _⟩
  case round =>
    obtain ⟨k, hk, rfl, HN, hbr⟩ := hrel
    by_cases hlt : k < xs.length
    · obtain ⟨b, o, rfl, hl, x0, x1, x2, x3⟩ := (HR.out.below hbr).dir_at (k := k) hlt
      have hd := HX.out xs[k] (List.getElem_mem _)
      have hst := HS.out k hlt HN.out
      have hht := HH.out k hlt HN.out
      have k1 := HC.out xs[k] wr ((hbr.cell (p := ⟨T, 0, none⟩) hTw).trans HT.out) (Nat.lt_of_lt_of_le hTw hbr.size) hd
      generalize xs[k] = d at *
      obtain ⟨dn, dv, dh, df⟩ := d
      simp only at x0 x1 x2 x3 hd hst hht k1
      cases hq : (lowerL dn == lowerL nm.data.toList)
      · rw [hq] at k1
        have HN2 := Lib.hid (hst hq)
        have K1 := Lib.hid k1
        clear hst hht k1 hq hd HS HH HE HX HN HC
        go_wp2_with fail
        refine K1.out.mono ?_
        rintro e w1 ⟨rfl, hb1⟩
        have hB1 := hbr.trans (hb1.mono hbr.size)
        go_wp2
        go_roundw
        case rel => exact ⟨k + 1, by omega, by go_num, HN2, hB1⟩
        case measure => simp [intOf]; omega
      · rw [hq] at k1
        have ho := hht hq
        subst ho
        have K1 := Lib.hid k1
        clear hst hht k1 hq hd HS HH HE HX HN HC
        go_wp2_with fail
        refine K1.out.mono ?_
        rintro e w1 ⟨rfl, hb1⟩
        have hB1 := hbr.trans (hb1.mono hbr.size)
        go_wp2
        go_ret
        exact ⟨rfl, hB1⟩
    · have ho := HE.out k (by omega) HN.out
      subst ho
      clear HS HH HE HX HN HC
      go_wp2
      go_ret
      exact ⟨rfl, hbr⟩
theorem firstI_find (p : Dir → Bool) (xs : List Dir) : (xs.find? p = none ∧ firstI p xs = -1) ∨ ∃ k, ∃ h : k < xs.length, xs.find? p = some xs[k] ∧ firstI p xs = (k : Int) := by
  unfold firstI
  cases hi : xs.findIdx? p with
  | none =>
    refine Or.inl ⟨?_, rfl⟩
    rw [List.findIdx?_eq_none_iff] at hi
    rw [List.find?_eq_none]
    intro x hx; simpa using hi x hx
  | some k =>
    rw [List.findIdx?_eq_some_iff_getElem] at hi
    obtain ⟨h, hp, hno⟩ := hi
    refine Or.inr ⟨k, h, ?_, rfl⟩
    refine find_take_some h ?_ hp
    rw [List.find?_eq_none]
    intro x hx
    rw [List.mem_take_iff_getElem] at hx
    obtain ⟨j, hj, rfl⟩ := hx
    have := hno j (by omega)
    simpa using this

set_option maxHeartbeats 4000000 in
theorem find_any (A : Option Addr) (n c : Nat) (xs : List Dir) (nm : ByteArray) (w : World) (hr : Rd A n 4 (dirsV xs) w) (hn : n ≤ 1000000) (hx : ∀ d ∈ xs, d.name.length ≤ 140737488351232) (hnm : nm.size ≤ 140737488351232) :
    Calls Tryd.prog 20 #[.slice A n c, .string nm] w fun e w' => e = .returned (saidV (findO xs nm.data.toList)) ∧ Below w.heap.size w w' := by
  obtain rfl := hr.dir
  obtain ⟨W0, hW0⟩ : ∃ W0, w.alloc (.cells #[.string nm] 9) = W0 := ⟨_, rfl⟩
  have hB0 : Below w.heap.size w W0 := by rw [← hW0]; exact (Below.refl _ w).alloc (Nat.le_refl _) _
  have hT0 : W0.cell? ⟨w.heap.size, 0, none⟩ = some (.string nm) := by rw [← hW0]; exact World.cell?_alloc_mark w _ _ _ 0
  have z0 : W0.heap.size = w.heap.size + 1 := by rw [← hW0]; simp
  obtain ⟨W1, hW1⟩ : ∃ W1, W0.alloc (.cells #[.string ⟨#[]⟩, .string ⟨#[]⟩, .bool false, .string ⟨#[]⟩] 29) = W1 := ⟨_, rfl⟩
  have hb01 : Below W0.heap.size W0 W1 := by rw [← hW1]; exact (Below.refl _ W0).alloc (Nat.le_refl _) _
  have hB1 : Below w.heap.size w W1 := hB0.trans (hb01.mono hB0.size)
  have h4 := at4_alloc W0 (.string ⟨#[]⟩) (.string ⟨#[]⟩) (.bool false) (.string ⟨#[]⟩) 29
  rw [hW1, z0] at h4
  have hTw0 : w.heap.size < W0.heap.size := by omega
  have hT : W1.cell? ⟨w.heap.size, 0, none⟩ = some (.string nm) := (hb01.cell (p := ⟨w.heap.size, 0, none⟩) hTw0).trans hT0
  have hTw : w.heap.size < W1.heap.size := Nat.lt_of_lt_of_le hTw0 hb01.size
  have k1 := indexF_any w.heap.size nm A xs.length c xs W1 (hr.below hB1) hn hT hTw hx hnm
  have hcase := firstI_find (fun d => lowerL d.name == lowerL nm.data.toList) xs
  have hfo : findO xs nm.data.toList = xs.find? (fun d => lowerL d.name == lowerL nm.data.toList) := rfl
  rw [hfo]
  clear hfo
  generalize xs.find? (fun d => lowerL d.name == lowerL nm.data.toList) = out at *
  generalize firstI (fun d => lowerL d.name == lowerL nm.data.toList) xs = ix at *
  have HR := Lib.hid (hr.below hB1); have HW0 := Lib.hid hW0; have HW1 := Lib.hid hW1; have K1 := Lib.hid k1
  clear hr hW0 hW1 k1 hx hT hT0 z0 hTw0
  rcases hcase with ⟨rfl, rfl⟩ | ⟨k, hk, rfl, rfl⟩
  · go_enter Tryd.func20, Tryd.ntmps20
    go_wp2_with fail
    rw [HW0.out, HW1.out]
    refine K1.out.mono ?_
    rintro e w2 ⟨rfl, hb2⟩
    have hB2 := hB1.trans (hb2.mono hB1.size)
    obtain ⟨g0, g1, g2, g3, q0, q1, q2, q3, glt⟩ := h4.below hb2
    clear hb2
    go_wp2_with fail
    refine bodyPost_ret_by (v := .tuple #[.agg #[.string ⟨#[]⟩, .string ⟨#[]⟩, .bool false, .string ⟨#[]⟩], .bool false]) ?_ rfl ?_
    · rw [results_cell_tmp rfl]
      go_simp
    · exact ⟨rfl, (((hB2.setCell (p := ⟨w.heap.size + 1, 0, none⟩) (Nat.le_succ _) _).setCell (p := ⟨w.heap.size + 1, 1, none⟩) (Nat.le_succ _) _).setCell (p := ⟨w.heap.size + 1, 2, none⟩) (Nat.le_succ _) _).setCell (p := ⟨w.heap.size + 1, 3, none⟩) (Nat.le_succ _) _⟩
  · obtain ⟨d, hd⟩ : ∃ d, xs[k] = d := ⟨_, rfl⟩
    rw [hd]
    have HD := Lib.hid hd
    clear hd
    obtain ⟨dn, dv, dh, df⟩ := d
    go_enter Tryd.func20, Tryd.ntmps20
    go_wp2_with fail
    rw [HW0.out, HW1.out]
    refine K1.out.mono ?_
    rintro e w2 ⟨rfl, hb2⟩
    have hB2 := hB1.trans (hb2.mono hB1.size)
    obtain ⟨b, o, rfl, hl, x0, x1, x2, x3⟩ := (HR.out.below hb2).dir_at (k := k) hk
    rw [HD.out] at x0 x1 x2 x3
    simp only at x0 x1 x2 x3
    obtain ⟨g0, g1, g2, g3, q0, q1, q2, q3, glt⟩ := h4.below hb2
    clear hb2
    go_wp2_with fail
    refine bodyPost_ret_by (v := .tuple #[.agg #[.string ⟨dn.toArray⟩, .string ⟨dv.toArray⟩, .bool dh, .string ⟨df.toArray⟩], .bool true]) ?_ rfl ?_
    · rw [results_cell_tmp rfl]
      go_simp
    · exact ⟨rfl, (((hB2.setCell (p := ⟨w.heap.size + 1, 0, none⟩) (Nat.le_succ _) _).setCell (p := ⟨w.heap.size + 1, 1, none⟩) (Nat.le_succ _) _).setCell (p := ⟨w.heap.size + 1, 2, none⟩) (Nat.le_succ _) _).setCell (p := ⟨w.heap.size + 1, 3, none⟩) (Nat.le_succ _) _⟩
end Go.Proofs.YtfoabdpfadgafaaDoor
