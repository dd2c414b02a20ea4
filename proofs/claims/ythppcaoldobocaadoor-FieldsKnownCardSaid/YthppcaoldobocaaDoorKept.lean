/- The walks of fields.kept and slices.ContainsFunc, over any closure (printed by wip/tools/kept.py). -/
import Derived.Test.YthppcaoldobocaaDoorOwnF
import Derived.Test.YthppcaoldobocaaDoorFieldSpec
namespace Go.Proofs.YthppcaoldobocaaDoor
open Go.RowKit
set_option maxRecDepth 100000

/-- Nothing that was there turned, but for one block. -/
def Beside (T : Nat) (w w' : World) : Prop := Below T w w' ∧ ∀ b, b < w.heap.size → b ≠ T → w'.heap[b]? = w.heap[b]?
theorem Beside.of {T : Nat} {w w' : World} (h : Below w.heap.size w w') (hT : T ≤ w.heap.size) : Beside T w w' := ⟨h.mono hT, fun _ hb _ => h.block _ hb⟩
theorem Beside.trans {T : Nat} {a b c : World} (h : Beside T a b) (k : Beside T b c) : Beside T a c :=
  ⟨h.1.trans k.1, fun i hi hne => (k.2 i (Nat.lt_of_lt_of_le hi h.1.size) hne).trans (h.2 i hi hne)⟩
theorem Beside.cell {T : Nat} {w w' : World} (h : Beside T w w') {b : Nat} (j : Nat) (hb : b < w.heap.size) (hne : b ≠ T) : w'.cell? ⟨b, j, none⟩ = w.cell? ⟨b, j, none⟩ := by
  simp only [World.cell?, h.2 b hb hne]
theorem Beside.setCell (T j : Nat) (w : World) (v : Value) : Beside T w (w.setCell ⟨T, j, none⟩ v) :=
  ⟨(Below.refl T w).setCell (Nat.le_refl _) _, fun _ _ hne => Below.heap_setCell _ _ _ _ hne⟩
theorem own_beside {B T : Nat} {e : TypeId} {size : Nat} {v : Value} {n : Nat} {xs : List Value} {w w1 : World} (h : w.ownsRow B e size v n xs) (hb : Beside T w w1) (hT : T < B) : w1.ownsRow B e size v n xs := by
  obtain ⟨h1, h2⟩ := h
  refine ⟨h1, ?_⟩
  rcases h2 with h2 | ⟨g, cap, cur, hv, hg, hh, r⟩
  · exact Or.inl h2
  · refine Or.inr ⟨g, cap, cur, hv, hg, ?_, r⟩
    have hlt : g < w.heap.size := by
      rcases Nat.lt_or_ge g w.heap.size with h' | h'
      · exact h'
      · simp [Array.getElem?_eq_none h'] at hh
    rw [hb.2 g hlt (by omega)]; exact hh
theorem OwnF.beside {B T : Nat} {v : Value} {fs : List Fld} {w w1 : World} (h : OwnF B v fs w) (hb : Beside T w w1) (hT : T < B) : OwnF B v fs w1 := own_beside h hb hT
theorem steps_len {fs : Nat → List Fld} {xs : List Fld} {p : Nat → Bool} (h0 : fs 0 = []) (hf : ∀ k (h : k < xs.length), fs (k + 1) = bif p k then fs k ++ [xs[k]] else fs k) : ∀ k, k ≤ xs.length → (fs k).length ≤ k
  | 0, _ => by rw [h0]; simp
  | k + 1, h => by
    have ih := steps_len h0 hf k (by omega)
    rw [hf k (by omega)]
    cases p k
    · rw [cond_false]; omega
    · rw [cond_true, List.length_append, List.length_singleton]; omega

set_option maxHeartbeats 4000000 in
theorem keptDel_any (p1 : Value) (T : Nat) (ws : World) (A : Option Addr) (n c : Nat) (xs : List Fld) (w : World) (hr : Rd A n 2 (fldsV xs) ws) (hn : n ≤ 1000000) (hws : Below ws.heap.size ws w) (hT : ws.heap.size ≤ T) (hTw : T < w.heap.size) (Inv : Nat → World → Prop) (p : Nat → Bool) (fs : Nat → List Fld) (h0 : fs 0 = []) (hf : ∀ k (h : k < xs.length), fs (k + 1) = bif p k then fs k ++ [xs[k]] else fs k) (hI : Inv 0 w)
    (hst : ∀ k W W', Inv k W → Below w.heap.size W W' → Inv k W')
    (hc : ∀ k (h : k < xs.length) W, Inv k W → w.heap.size ≤ W.heap.size → Calls Tryd.prog 52 #[.agg #[.string ⟨(xs[k]).1.toArray⟩, .string ⟨(xs[k]).2.toArray⟩], p1] W fun e W' => e = .returned (.bool (p k)) ∧ Inv (k + 1) W' ∧ Beside T W W') :
    Calls Tryd.prog 50 #[.slice A n c, .func (.func 52) #[] #[p1]] w fun e w' => ∃ a cap, e = .returned (.slice a (fs xs.length).length cap) ∧ OwnF w.heap.size (.slice a (fs xs.length).length cap) (fs xs.length) w' ∧ Below T w w' ∧ Inv xs.length w' := by
  obtain rfl := hr.fld
  have hlen := steps_len h0 hf
  have H0 := Lib.hid h0; have HF := Lib.hid hf; have HST := Lib.hid hst; have HC := Lib.hid hc; have HR := Lib.hid hr; have HI := Lib.hid hI; have HL := Lib.hid hlen
  have HWS := Lib.hid hws
  clear h0 hf hst hc hr hI hlen hws
  go_enter Tryd.func50, Tryd.ntmps50
  go_wp2
  go_loopw [9, 4] (fun i out wr => ∃ k : Nat, k ≤ xs.length ∧ i = .int .i64 k ∧ Hid (OwnF w.heap.size out (fs k) wr) ∧ Below T w wr ∧ Hid (Inv k wr)) (fun i _ _ => xs.length - (intOf i).toNat)
  case atStart => exact ⟨0, Nat.zero_le _, rfl, by rw [H0.out]; exact Lib.hid (OwnF.nil _ _), Below.refl _ _, HI⟩
  case round =>
    clear HI H0
    obtain ⟨k, hk, rfl, HO, hbw, HI⟩ := hrel
    obtain ⟨oa, oc, rfl⟩ := HO.out.shape
    have hsz := hbw.size
    by_cases hlt : k < xs.length
    · obtain ⟨b, o, rfl, hl, c1, c2⟩ := (HR.out.below (HWS.out.trans (hbw.mono hT))).fld_at (k := k) hlt
      have hnx := HF.out k hlt
      have hll := HL.out k hk
      have k1 := fun W h => HC.out k hlt W (HST.out k wr W HI.out h)
      generalize xs[k] = f at *
      obtain ⟨f1, f2⟩ := f
      simp only at c1 c2 k1
      have hAl : Below w.heap.size wr (wr.alloc (.cells #[.string ⟨f1.toArray⟩, .string ⟨f2.toArray⟩] 37)) := ((Below.refl wr.heap.size wr).alloc (Nat.le_refl _) _).mono hsz
      have hO1 := HO.out.below ((Below.refl wr.heap.size wr).alloc (Nat.le_refl _) (.cells #[.string ⟨f1.toArray⟩, .string ⟨f2.toArray⟩] 37))
      have HO1 := Lib.hid hO1
      have hfl : (fs k).length ≤ 1000000000 := by omega
      generalize fs k = fk at *
      have K1 := Lib.hid (k1 _ hAl (by simp; omega)); have HNX := Lib.hid hnx
      clear k1 hnx HO hO1 HI HF HC HL
      cases hp : p k
      · rw [hp] at HNX K1
        go_wp2_with fail
        refine K1.out.mono ?_
        rintro e w1 ⟨rfl, hI1, hb1⟩
        have hB1 := (hbw.trans (hAl.mono (by omega))).trans hb1.1
        have HO2 := Lib.hid (HO1.out.beside hb1 hTw); have HI1 := Lib.hid hI1
        clear hI1 hb1 hAl K1
        go_wp2
        go_roundw
        case rel => exact ⟨k + 1, by omega, by go_num, by rw [HNX.out]; exact HO2, hB1, HI1⟩
        case measure => simp [intOf]; omega
      · rw [hp] at HNX K1
        go_wp2_with fail
        refine K1.out.mono ?_
        rintro e w1 ⟨rfl, hI1, hb1⟩
        have hB1 := (hbw.trans (hAl.mono (by omega))).trans hb1.1
        have d0 : w1.cell? ⟨wr.heap.size, 0, none⟩ = some (.string ⟨f1.toArray⟩) := (hb1.cell 0 (by simp) (by omega)).trans (World.cell?_alloc_mark wr _ _ _ 0)
        have d1 : w1.cell? ⟨wr.heap.size, 1, none⟩ = some (.string ⟨f2.toArray⟩) := (hb1.cell 1 (by simp) (by omega)).trans (World.cell?_alloc_mark wr _ _ _ 1)
        have HO2 := Lib.hid (HO1.out.beside hb1 hTw); have HI1 := Lib.hid hI1
        have hs1 := hb1.1.size
        have hs2 : w.heap.size ≤ w1.heap.size := by simp at hs1; omega
        clear hI1 hb1 hAl K1 HO1 hs1
        go_wp2_with (at_builtin; refine app_fld w.heap.size (f1, f2) HO2.out hs2 hfl rfl _ _ rfl rfl rfl ?_)
        intro v' w2 hO3 hb2 _
        have HO3 : Hid (OwnF w.heap.size v' (fs (k + 1)) w2) := by rw [HNX.out]; exact Lib.hid hO3
        have HI2 := Lib.hid (HST.out (k + 1) w1 w2 HI1.out hb2)
        have hB2 := hB1.trans (hb2.mono (by omega))
        clear hO3 hb2 HI1 d0 d1 HNX
        go_wp2
        go_roundw
        case rel => exact ⟨k + 1, by omega, by go_num, HO3, hB2, HI2⟩
        case measure => simp [intOf]; omega
    · have hke : k = xs.length := by omega
      subst hke
      clear HF HC HST HL
      go_wp2
      go_ret
      exact ⟨oa, oc, rfl, HO.out, hbw, HI.out⟩

set_option maxHeartbeats 4000000 in
theorem keptSet_any (p1 p2 : Value) (T : Nat) (ws : World) (A : Option Addr) (n c : Nat) (xs : List Fld) (w : World) (hr : Rd A n 2 (fldsV xs) ws) (hn : n ≤ 1000000) (hws : Below ws.heap.size ws w) (hT : ws.heap.size ≤ T) (hTw : T < w.heap.size) (Inv : Nat → World → Prop) (p : Nat → Bool) (fs : Nat → List Fld) (h0 : fs 0 = []) (hf : ∀ k (h : k < xs.length), fs (k + 1) = bif p k then fs k ++ [xs[k]] else fs k) (hI : Inv 0 w)
    (hst : ∀ k W W', Inv k W → Below w.heap.size W W' → Inv k W')
    (hc : ∀ k (h : k < xs.length) W, Inv k W → w.heap.size ≤ W.heap.size → Calls Tryd.prog 51 #[.agg #[.string ⟨(xs[k]).1.toArray⟩, .string ⟨(xs[k]).2.toArray⟩], p1, p2] W fun e W' => e = .returned (.bool (p k)) ∧ Inv (k + 1) W' ∧ Beside T W W') :
    Calls Tryd.prog 50 #[.slice A n c, .func (.func 51) #[] #[p1, p2]] w fun e w' => ∃ a cap, e = .returned (.slice a (fs xs.length).length cap) ∧ OwnF w.heap.size (.slice a (fs xs.length).length cap) (fs xs.length) w' ∧ Below T w w' ∧ Inv xs.length w' := by
  obtain rfl := hr.fld
  have hlen := steps_len h0 hf
  have H0 := Lib.hid h0; have HF := Lib.hid hf; have HST := Lib.hid hst; have HC := Lib.hid hc; have HR := Lib.hid hr; have HI := Lib.hid hI; have HL := Lib.hid hlen
  have HWS := Lib.hid hws
  clear h0 hf hst hc hr hI hlen hws
  go_enter Tryd.func50, Tryd.ntmps50
  go_wp2
  go_loopw [9, 4] (fun i out wr => ∃ k : Nat, k ≤ xs.length ∧ i = .int .i64 k ∧ Hid (OwnF w.heap.size out (fs k) wr) ∧ Below T w wr ∧ Hid (Inv k wr)) (fun i _ _ => xs.length - (intOf i).toNat)
  case atStart => exact ⟨0, Nat.zero_le _, rfl, by rw [H0.out]; exact Lib.hid (OwnF.nil _ _), Below.refl _ _, HI⟩
  case round =>
    clear HI H0
    obtain ⟨k, hk, rfl, HO, hbw, HI⟩ := hrel
    obtain ⟨oa, oc, rfl⟩ := HO.out.shape
    have hsz := hbw.size
    by_cases hlt : k < xs.length
    · obtain ⟨b, o, rfl, hl, c1, c2⟩ := (HR.out.below (HWS.out.trans (hbw.mono hT))).fld_at (k := k) hlt
      have hnx := HF.out k hlt
      have hll := HL.out k hk
      have k1 := fun W h => HC.out k hlt W (HST.out k wr W HI.out h)
      generalize xs[k] = f at *
      obtain ⟨f1, f2⟩ := f
      simp only at c1 c2 k1
      have hAl : Below w.heap.size wr (wr.alloc (.cells #[.string ⟨f1.toArray⟩, .string ⟨f2.toArray⟩] 37)) := ((Below.refl wr.heap.size wr).alloc (Nat.le_refl _) _).mono hsz
      have hO1 := HO.out.below ((Below.refl wr.heap.size wr).alloc (Nat.le_refl _) (.cells #[.string ⟨f1.toArray⟩, .string ⟨f2.toArray⟩] 37))
      have HO1 := Lib.hid hO1
      have hfl : (fs k).length ≤ 1000000000 := by omega
      generalize fs k = fk at *
      have K1 := Lib.hid (k1 _ hAl (by simp; omega)); have HNX := Lib.hid hnx
      clear k1 hnx HO hO1 HI HF HC HL
      cases hp : p k
      · rw [hp] at HNX K1
        go_wp2_with fail
        refine K1.out.mono ?_
        rintro e w1 ⟨rfl, hI1, hb1⟩
        have hB1 := (hbw.trans (hAl.mono (by omega))).trans hb1.1
        have HO2 := Lib.hid (HO1.out.beside hb1 hTw); have HI1 := Lib.hid hI1
        clear hI1 hb1 hAl K1
        go_wp2
        go_roundw
        case rel => exact ⟨k + 1, by omega, by go_num, by rw [HNX.out]; exact HO2, hB1, HI1⟩
        case measure => simp [intOf]; omega
      · rw [hp] at HNX K1
        go_wp2_with fail
        refine K1.out.mono ?_
        rintro e w1 ⟨rfl, hI1, hb1⟩
        have hB1 := (hbw.trans (hAl.mono (by omega))).trans hb1.1
        have d0 : w1.cell? ⟨wr.heap.size, 0, none⟩ = some (.string ⟨f1.toArray⟩) := (hb1.cell 0 (by simp) (by omega)).trans (World.cell?_alloc_mark wr _ _ _ 0)
        have d1 : w1.cell? ⟨wr.heap.size, 1, none⟩ = some (.string ⟨f2.toArray⟩) := (hb1.cell 1 (by simp) (by omega)).trans (World.cell?_alloc_mark wr _ _ _ 1)
        have HO2 := Lib.hid (HO1.out.beside hb1 hTw); have HI1 := Lib.hid hI1
        have hs1 := hb1.1.size
        have hs2 : w.heap.size ≤ w1.heap.size := by simp at hs1; omega
        clear hI1 hb1 hAl K1 HO1 hs1
        go_wp2_with (at_builtin; refine app_fld w.heap.size (f1, f2) HO2.out hs2 hfl rfl _ _ rfl rfl rfl ?_)
        intro v' w2 hO3 hb2 _
        have HO3 : Hid (OwnF w.heap.size v' (fs (k + 1)) w2) := by rw [HNX.out]; exact Lib.hid hO3
        have HI2 := Lib.hid (HST.out (k + 1) w1 w2 HI1.out hb2)
        have hB2 := hB1.trans (hb2.mono (by omega))
        clear hO3 hb2 HI1 d0 d1 HNX
        go_wp2
        go_roundw
        case rel => exact ⟨k + 1, by omega, by go_num, HO3, hB2, HI2⟩
        case measure => simp [intOf]; omega
    · have hke : k = xs.length := by omega
      subst hke
      clear HF HC HST HL
      go_wp2
      go_ret
      exact ⟨oa, oc, rfl, HO.out, hbw, HI.out⟩

/-- Where the first one stands of which something is so; below nought: nowhere. -/
def AnyPost (q : List UInt8 → Bool) (ls : List (List UInt8)) (w : World) (e : Ending) (w' : World) : Prop := ∃ i : Int, e = .returned (.int .i64 i) ∧ decide (0 ≤ i) = ls.any q ∧ Below w.heap.size w w'
set_option maxHeartbeats 4000000 in
theorem indexDel_any (p1 : Value) (q : List UInt8 → Bool) (A : Option Addr) (n c : Nat) (ls : List (List UInt8)) (w : World) (hr : Rd A n 1 (strsV ls) w) (hn : n ≤ 1000000)
    (hc : ∀ l ∈ ls, ∀ W, Below w.heap.size w W → Calls Tryd.prog 54 #[.string ⟨l.toArray⟩, p1] W fun e W' => e = .returned (.bool (q l)) ∧ Below W.heap.size W W') :
    Calls Tryd.prog 71 #[.slice A n c, .func (.func 54) #[] #[p1]] w (AnyPost q ls w) := by
  obtain rfl := hr.str
  have hB := Below.refl w.heap.size w
  have HR := Lib.hid hr; have HC := Lib.hid hc; clear hr hc
  go_enter Tryd.func71, Tryd.ntmps71
  go_wp2
  go_loopw [8] (fun i wr => ∃ k : Nat, k ≤ ls.length ∧ i = .int .i64 k ∧ Hid ((ls.take k).any q = false) ∧ Below w.heap.size w wr) (fun i _ => ls.length - (intOf i).toNat)
  case atStart => exact ⟨0, Nat.zero_le _, rfl, Lib.hid rfl, hB⟩
  case round =>
    clear hB
    obtain ⟨k, hk, rfl, HA, hbw⟩ := hrel
    by_cases hlt : k < ls.length
    · obtain ⟨b, o, rfl, hl, c1⟩ := (HR.out.below hbw).str_at (k := k) hlt
      have k1 := HC.out ls[k] (List.getElem_mem _) wr hbw
      have hbad : q ls[k] = true → Hid (decide ((0 : Int) ≤ (k : Int)) = ls.any q) := by
        intro h
        refine Lib.hid ?_
        have : ls.any q = true := by rw [List.any_eq_true]; exact ⟨ls[k], List.getElem_mem _, h⟩
        rw [this]; simp
      have hgood : q ls[k] = false → Hid ((ls.take (k + 1)).any q = false) := by
        intro h
        refine Lib.hid ?_
        rw [List.take_succ_eq_append_getElem hlt, List.any_append, HA.out]
        simp [h]
      generalize ls[k] = p at *
      have HBAD := Lib.hid hbad; have HGOOD := Lib.hid hgood; clear hbad hgood HA
      cases hq : q p
      · rw [hq] at k1
        have hf := HGOOD.out hq
        have K1 := Lib.hid k1; clear k1 hq
        go_wp2_with fail
        refine K1.out.mono ?_
        rintro e w1 ⟨rfl, hb1⟩
        go_wp2
        go_roundw
        case rel => exact ⟨k + 1, by omega, by go_num, hf, bt hbw hb1⟩
        case measure => simp [intOf]; omega
      · rw [hq] at k1
        have hf := HBAD.out hq
        have K1 := Lib.hid k1; clear k1 hq
        go_wp2_with fail
        refine K1.out.mono ?_
        rintro e w1 ⟨rfl, hb1⟩
        go_wp2
        go_ret
        exact ⟨k, rfl, hf.out, bt hbw hb1⟩
    · have hke : k = ls.length := by omega
      subst hke
      have ha := HA.out
      rw [List.take_length] at ha
      have HA2 := Lib.hid ha; clear ha HA
      go_wp2
      go_ret
      exact ⟨-1, rfl, by rw [HA2.out]; rfl, hbw⟩
set_option maxHeartbeats 1000000 in
theorem containsDel_any (p1 : Value) (q : List UInt8 → Bool) (A : Option Addr) (n c : Nat) (ls : List (List UInt8)) (w : World) (hr : Rd A n 1 (strsV ls) w) (hn : n ≤ 1000000)
    (hc : ∀ l ∈ ls, ∀ W, Below w.heap.size w W → Calls Tryd.prog 54 #[.string ⟨l.toArray⟩, p1] W fun e W' => e = .returned (.bool (q l)) ∧ Below W.heap.size W W') :
    Calls Tryd.prog 53 #[.slice A n c, .func (.func 54) #[] #[p1]] w fun e w' => e = .returned (.bool (ls.any q)) ∧ Below w.heap.size w w' := by
  have k1 := indexDel_any p1 q A n c ls w hr hn hc
  have K1 := Lib.hid k1; clear k1 hc
  go_enter Tryd.func53, Tryd.ntmps53
  go_wp2_with fail
  refine K1.out.mono ?_
  rintro e w1 ⟨i, rfl, hi, hb1⟩
  have HI := Lib.hid hi; clear hi
  go_wp2
  go_ret
  exact ⟨by rw [← HI.out]; rfl, hb1⟩
end Go.Proofs.YthppcaoldobocaaDoor
