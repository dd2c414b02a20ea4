/- A name set: the plain law, and both walks. -/
import Derived.Test.YthppcaoldobocaaDoorKept
import Derived.Test.YthppcaoldobocaaDoorDel04
import Derived.Test.YthppcaoldobocaaDoorSame
import Derived.Test.YthppcaoldobocaaDoorRLow
import Derived.Laws.OwnMore
import Derived.Deep.RegionHeld3
namespace Go.Proofs.YthppcaoldobocaaDoor
open Go.RowKit
set_option maxRecDepth 100000

def sameN (nm : List UInt8) (f : Fld) : Bool := lowerL f.1 == lowerL nm
def setP (nm v : List UInt8) : Bool → List Fld → List Fld
  | _, [] => []
  | th, f :: r => bif sameN nm f then (bif th then setP nm v true r else (f.1, v) :: setP nm v true r) else f :: setP nm v th r
def keepP (nm : List UInt8) : Bool → List Fld → List Fld
  | _, [] => []
  | th, f :: r => bif sameN nm f then (bif th then keepP nm true r else f :: keepP nm true r) else f :: keepP nm th r
def setL (xs : List Fld) (nm v : List UInt8) : List Fld := setP nm v false xs ++ (bif xs.any (sameN nm) then [] else [(nm, v)])
def updF (nm v : List UInt8) (f : Fld) : Fld := bif sameN nm f then (f.1, v) else f

theorem sameN_val (nm v : List UInt8) (f : Fld) : sameN nm (f.1, v) = sameN nm f := rfl
theorem keepP_snoc (nm : List UInt8) (f : Fld) : ∀ (th : Bool) (xs : List Fld), keepP nm th (xs ++ [f]) = keepP nm th xs ++ (bif sameN nm f then (bif (th || xs.any (sameN nm)) then [] else [f]) else [f])
  | th, [] => by cases h : sameN nm f <;> cases th <;> simp [keepP, h]
  | th, g :: r => by
    have ih := fun t => keepP_snoc nm f t r
    rw [List.cons_append, keepP, keepP, ih, ih, List.any_cons]
    cases hg : sameN nm g <;> cases th <;> simp
theorem setP_snoc (nm v : List UInt8) (f : Fld) : ∀ (th : Bool) (xs : List Fld), setP nm v th (xs ++ [f]) = setP nm v th xs ++ (bif sameN nm f then (bif (th || xs.any (sameN nm)) then [] else [(f.1, v)]) else [f])
  | th, [] => by cases h : sameN nm f <;> cases th <;> simp [setP, h]
  | th, g :: r => by
    have ih := fun t => setP_snoc nm v f t r
    rw [List.cons_append, setP, setP, ih, ih, List.any_cons]
    cases hg : sameN nm g <;> cases th <;> simp
theorem keepP_map (nm v : List UInt8) : ∀ (th : Bool) (xs : List Fld), (keepP nm th xs).map (updF nm v) = setP nm v th xs
  | _, [] => rfl
  | th, f :: r => by
    have ih := fun t => keepP_map nm v t r
    rw [keepP, setP]
    cases h : sameN nm f <;> cases th <;> simp [ih, updF, h]
theorem keepP_none (nm : List UInt8) : ∀ (th : Bool) (xs : List Fld), xs.any (sameN nm) = false → keepP nm th xs = xs
  | _, [], _ => rfl
  | th, f :: r, h => by
    rw [List.any_cons, Bool.or_eq_false_iff] at h
    rw [keepP, h.1, cond_false, keepP_none nm th r h.2]
theorem setP_none (nm v : List UInt8) : ∀ (th : Bool) (xs : List Fld), xs.any (sameN nm) = false → setP nm v th xs = xs
  | _, [], _ => rfl
  | th, f :: r, h => by
    rw [List.any_cons, Bool.or_eq_false_iff] at h
    rw [setP, h.1, cond_false, setP_none nm v th r h.2]
theorem keepP_le (nm : List UInt8) : ∀ (th : Bool) (xs : List Fld), (keepP nm th xs).length ≤ xs.length
  | _, [] => Nat.le_refl _
  | th, f :: r => by
    have ih := fun t => keepP_le nm t r
    have h1 := ih true; have h2 := ih th
    rw [keepP]
    cases sameN nm f <;> cases th <;> simp <;> omega
theorem setP_le (nm v : List UInt8) (th : Bool) (xs : List Fld) : (setP nm v th xs).length ≤ xs.length := by
  rw [← keepP_map, List.length_map]; exact keepP_le nm th xs
theorem keepP_mem (nm : List UInt8) : ∀ (th : Bool) (xs : List Fld), ∀ f ∈ keepP nm th xs, f ∈ xs
  | _, [], f, h => by simp [keepP] at h
  | th, g :: r, f, h => by
    have ih := fun t => keepP_mem nm t r f
    rw [keepP] at h
    cases hg : sameN nm g <;> rw [hg] at h
    · rw [cond_false] at h
      rcases List.mem_cons.1 h with rfl | h
      · simp
      · exact List.mem_cons_of_mem _ (ih _ h)
    · cases th
      · simp only [cond_true, cond_false] at h
        rcases List.mem_cons.1 h with rfl | h
        · simp
        · exact List.mem_cons_of_mem _ (ih _ h)
      · simp only [cond_true] at h
        exact List.mem_cons_of_mem _ (ih _ h)

set_option maxHeartbeats 4000000 in
theorem setf_any (f : Fld) (nm : ByteArray) (nb T : Nat) (th : Bool) (w : World) (h1 : w.cell? ⟨nb, 0, none⟩ = some (.string nm)) (h2 : w.heap[T]? = some (.cells #[.bool th] 4 (0, 0))) (hnb : nb < w.heap.size) (hne : nb ≠ T) (hf : f.1.length ≤ 1000000) (hn : nm.size ≤ 1000000) :
    Calls Tryd.prog 51 #[.agg #[.string ⟨f.1.toArray⟩, .string ⟨f.2.toArray⟩], .pointer (some ⟨nb, 0, none⟩), .pointer (some ⟨T, 0, none⟩)] w fun e w' => e = .returned (.bool (bif sameN nm.data.toList f then !th else true)) ∧ w'.heap[T]? = some (.cells #[.bool (th || sameN nm.data.toList f)] 4 (0, 0)) ∧ Beside T w w' := by
  obtain ⟨f1, f2⟩ := f
  simp only at hf ⊢
  have k1 := fun w => tsame_any ⟨f1.toArray⟩ nm w (by rw [Lib.size_eq]; exact hf) hn
  simp only at k1
  have hs : sameN nm.data.toList (f1, f2) = (lowerL f1 == lowerL nm.data.toList) := rfl
  rw [hs]
  clear hs
  generalize (lowerL f1 == lowerL nm.data.toList) = sm at *
  have K1 := Lib.hid k1; clear k1
  have hT := (of_heap h2 0).2.2
  have hAl := (Below.refl w.heap.size w).alloc (Nat.le_refl _) (.cells #[.string ⟨f1.toArray⟩, .string ⟨f2.toArray⟩] 37)
  have c0 : (w.alloc (.cells #[.string ⟨f1.toArray⟩, .string ⟨f2.toArray⟩] 37)).cell? ⟨nb, 0, none⟩ = some (.string nm) := (hAl.cell (p := ⟨nb, 0, none⟩) hnb).trans h1
  have HT := Lib.hid h2; have HN := Lib.hid hne
  have HAl := Lib.hid hAl
  clear h2 hAl hne
  cases th <;> cases sm
  all_goals
    go_enter Tryd.func51, Tryd.ntmps51
    go_wp2_with fail
    refine (K1.out _).mono ?_
    rintro e w1 ⟨rfl, hb1⟩
    have hB1 := HAl.out.trans (hb1.mono (by simp))
    have hh : w1.heap[T]? = _ := (hB1.block T hT).trans HT.out
    obtain ⟨d0, d1, d2⟩ := of_heap hh 0
    have d3 : w1.cell? ⟨T, 0, none⟩ = some (.bool _) := d0
    have HH := Lib.hid hh; have HB := Lib.hid hB1
    clear hh d0 hb1 hB1
    go_wp2
    go_ret
    exact ⟨rfl, heap_set HH.out, (Beside.of HB.out (by omega)).trans (Beside.setCell T 0 _ _)⟩

/-! Fields in a row of the call's own: read, and their values written. -/
theorem OwnF.at {B n cap : Nat} {a : Option Addr} {fs : List Fld} {w : World} (h : OwnF B (.slice a n cap) fs w) {k : Nat} (hk : k < fs.length) :
    ∃ g, a = some ⟨g, 0, none⟩ ∧ n = fs.length ∧ B ≤ g ∧ g < w.heap.size ∧ w.cell? ⟨g, k * 2, none⟩ = some (.string ⟨(fs[k]).1.toArray⟩) ∧ w.cell? ⟨g, k * 2 + 1, none⟩ = some (.string ⟨(fs[k]).2.toArray⟩) ∧ w.frozen? ⟨g, k * 2 + 1, none⟩ = false := by
  obtain ⟨hn, hr⟩ := h.rd
  obtain ⟨b, o, e, hl, c1, c2⟩ := hr.fld_at hk
  rcases h.2 with ⟨hv, h0⟩ | ⟨g, cp, cur, hv, hg, hh, _⟩
  · omega
  · cases hv
    cases e
    rw [Nat.zero_add] at c1 c2
    exact ⟨b, rfl, hn, hg, hl, c1, c2, by simp [World.frozen?, hh]⟩
theorem fldsV_set : ∀ (fs : List Fld) (k : Nat) (hk : k < fs.length) (v : List UInt8), fldsV (fs.set k ((fs[k]).1, v)) = (fldsV fs).set (k * 2 + 1) (.string ⟨v.toArray⟩)
  | [], k, hk, _ => by simp at hk
  | x :: r, 0, _, v => by simp [fldsV, fldV]
  | x :: r, k + 1, hk, v => by
    have ih := fldsV_set r k (by simpa using hk) v
    have e : ∀ l : List Fld, fldsV (x :: l) = (.string ⟨x.1.toArray⟩) :: (.string ⟨x.2.toArray⟩) :: fldsV l := fun _ => rfl
    rw [List.set_cons_succ, e, e, show (k + 1) * 2 + 1 = (k * 2 + 1) + 1 + 1 from by omega, List.set_cons_succ, List.set_cons_succ, ← ih]
    rfl
theorem OwnF.stored {B n cap g : Nat} {fs : List Fld} {w : World} (h : OwnF B (.slice (some ⟨g, 0, none⟩) n cap) fs w) {k : Nat} (hk : k < fs.length) (v : List UInt8) :
    OwnF B (.slice (some ⟨g, 0, none⟩) n cap) (fs.set k ((fs[k]).1, v)) (w.setCell ⟨g, k * 2 + 1, none⟩ (.string ⟨v.toArray⟩)) := by
  have hn := h.rd.1
  subst hn
  unfold OwnF at *
  rw [List.length_set, fldsV_set fs k hk v]
  exact (h.stored (k * 2 + 1) _).1
def updK (nm v : List UInt8) (ks : List Fld) (k : Nat) : List Fld := (ks.take k).map (updF nm v) ++ ks.drop k
theorem updK_len (nm v : List UInt8) (ks : List Fld) (k : Nat) : (updK nm v ks k).length = ks.length := by
  unfold updK; rw [List.length_append, List.length_map, List.length_take, List.length_drop]; omega
theorem updK_at (nm v : List UInt8) (ks : List Fld) (k : Nat) (h : k < ks.length) (h' : k < (updK nm v ks k).length) : (updK nm v ks k)[k] = ks[k] := by
  have e : (updK nm v ks k)[k]? = some ks[k] := by
    have hl : ((ks.take k).map (updF nm v)).length = k := by rw [List.length_map, List.length_take]; omega
    unfold updK
    rw [List.getElem?_append_right (by omega), hl, Nat.sub_self, List.getElem?_drop, Nat.add_zero, List.getElem?_eq_getElem h]
  rw [List.getElem?_eq_getElem h'] at e
  exact Option.some.inj e
theorem updK_step (nm v : List UInt8) (ks : List Fld) (k : Nat) (h : k < ks.length) : updK nm v ks (k + 1) = (updK nm v ks k).set k (updF nm v ks[k]) := by
  have hl : ((ks.take k).map (updF nm v)).length = k := by rw [List.length_map, List.length_take]; omega
  unfold updK
  rw [List.set_append_right k _ (by omega), hl, Nat.sub_self, List.drop_eq_getElem_cons h, List.set_cons_zero, List.take_succ_eq_append_getElem h, List.map_append]
  simp
theorem updK_all (nm v : List UInt8) (ks : List Fld) : updK nm v ks ks.length = ks.map (updF nm v) := by
  unfold updK; rw [List.take_length, List.drop_length, List.append_nil]
def pickP (nm : List UInt8) (xs : List Fld) (k : Nat) : Bool := match xs[k]? with | some f => bif sameN nm f then !(xs.take k).any (sameN nm) else true | none => false
theorem pickP_at (nm : List UInt8) (xs : List Fld) (k : Nat) (h : k < xs.length) : pickP nm xs k = bif sameN nm xs[k] then !(xs.take k).any (sameN nm) else true := by
  unfold pickP; rw [List.getElem?_eq_getElem h]

set_option maxHeartbeats 8000000 in
theorem set_any (A : Option Addr) (n c : Nat) (xs : List Fld) (nm vl : List UInt8) (w : World) (hr : Rd A n 2 (fldsV xs) w) (hn : n ≤ 1000000) (hs : ∀ f ∈ xs, f.1.length ≤ 1000000) (hnm : nm.length ≤ 1000000) :
    Calls Tryd.prog 26 #[.slice A n c, .string ⟨nm.toArray⟩, .string ⟨vl.toArray⟩] w (FieldsPost w (setL xs nm vl)) := by
  obtain ⟨W1, hW1⟩ : ∃ W1, w.alloc (.cells #[.string ⟨nm.toArray⟩] 9) = W1 := ⟨_, rfl⟩
  obtain ⟨W2, hW2⟩ : ∃ W2, W1.alloc (.cells #[.bool false] 4) = W2 := ⟨_, rfl⟩
  have z1 : W1.heap.size = w.heap.size + 1 := by rw [← hW1]; simp
  have z2 : W2.heap.size = w.heap.size + 2 := by rw [← hW2]; simp; omega
  have hB1 : Below w.heap.size w W1 := by rw [← hW1]; exact (Below.refl w.heap.size w).alloc (Nat.le_refl _) _
  have hB2 : Below w.heap.size w W2 := by rw [← hW2]; exact hB1.alloc hB1.size _
  have hN1 : W1.cell? ⟨w.heap.size, 0, none⟩ = some (.string ⟨nm.toArray⟩) := by rw [← hW1]; exact World.cell?_alloc_mark w _ _ _ 0
  have hN2 : W2.cell? ⟨w.heap.size, 0, none⟩ = some (.string ⟨nm.toArray⟩) := by
    rw [← hW2]; exact ((((Below.refl W1.heap.size W1).alloc (Nat.le_refl _) _).cell (p := ⟨w.heap.size, 0, none⟩) (by show w.heap.size < _; omega))).trans hN1
  have hT2 : W2.heap[w.heap.size + 1]? = some (.cells #[.bool false] 4 (0, 0)) := by rw [← hW2]; exact heap_new W1 _ _ z1
  have hnz : (⟨nm.toArray⟩ : ByteArray).size ≤ 1000000 := by rw [Lib.size_eq]; exact hnm
  have k1 := keptSet_any (.pointer (some ⟨w.heap.size, 0, none⟩)) (.pointer (some ⟨w.heap.size + 1, 0, none⟩)) (w.heap.size + 1) w A n c xs W2 hr hn hB2 (by omega) (by omega)
    (fun k W => W.cell? ⟨w.heap.size, 0, none⟩ = some (.string ⟨nm.toArray⟩) ∧ W.heap[w.heap.size + 1]? = some (.cells #[.bool ((xs.take k).any (sameN nm))] 4 (0, 0)) ∧ w.heap.size + 2 ≤ W.heap.size) (pickP nm xs) (fun k => keepP nm false (xs.take k)) rfl
    (by
      intro k hk
      rw [pickP_at _ _ _ hk, List.take_succ_eq_append_getElem hk, keepP_snoc, Bool.false_or]
      cases sameN nm xs[k] <;> cases (xs.take k).any (sameN nm) <;> simp)
    ⟨hN2, hT2, by omega⟩
    (by
      rintro k W W' ⟨h1, h2, h3⟩ hb
      exact ⟨(hb.cell (p := ⟨w.heap.size, 0, none⟩) (by show w.heap.size < _; omega)).trans h1, (hb.block _ (by omega)).trans h2, Nat.le_trans h3 hb.size⟩)
    (by
      rintro k hk W ⟨h1, h2, h3⟩ hsz
      rw [pickP_at _ _ _ hk]
      refine (setf_any xs[k] ⟨nm.toArray⟩ w.heap.size (w.heap.size + 1) _ W h1 h2 (by omega) (by omega) (hs _ (List.getElem_mem _)) hnz).mono ?_
      rintro e W' ⟨rfl, h4, hb⟩
      refine ⟨rfl, ⟨(hb.cell 0 (by omega) (by omega)).trans h1, ?_, Nat.le_trans h3 hb.1.size⟩, hb⟩
      rw [h4, List.take_succ_eq_append_getElem hk, List.any_append]
      simp)
  have hlast : keepP nm false (xs.take xs.length) = keepP nm false xs := by rw [List.take_length]
  have hall : (xs.take xs.length).any (sameN nm) = xs.any (sameN nm) := by rw [List.take_length]
  simp only [hlast, hall] at k1
  have hkl := keepP_le nm false xs
  have hxn := hr.fld
  have hkm := keepP_mem nm false xs
  have hks : ∀ f ∈ keepP nm false xs, f.1.length ≤ 1000000 := fun f hf => hs f (hkm f hf)
  have HW1 := Lib.hid hW1; have HW2 := Lib.hid hW2
  clear hW1 hW2
  cases hany : xs.any (sameN nm)
  · have hset : setL xs nm vl = xs ++ [(nm, vl)] := by unfold setL; rw [setP_none nm vl false xs hany, hany]; rfl
    rw [keepP_none nm false xs hany, hany] at k1
    rw [hset]
    have HK := Lib.hid k1
    have hxl : xs.length ≤ 1000000000 := by omega
    have hnsz : w.heap.size < W2.heap.size := by omega
    clear k1 hset hkl hkm hks hs hr hlast hall hany hxn hn hN1 hT2 hN2
    go_enter Tryd.func26, Tryd.ntmps26
    go_wp2_with fail
    rw [HW1.out, HW2.out]
    refine HK.out.mono ?_
    rintro e w1 ⟨a1, c1, rfl, ho1, hb1, h3, h4, h5⟩
    have hB3 := hB2.trans (hb1.mono (by omega))
    have HO1 := Lib.hid (ho1.base (B' := w.heap.size) (by omega))
    obtain ⟨d0, d1, d2⟩ := of_heap h4 0
    have d3 : w1.cell? ⟨w.heap.size + 1, 0, none⟩ = some (.bool false) := d0
    have hw1 := hB3.size
    clear ho1 hb1 d0 h4 HK HW1 HW2
    go_wp2_with (at_builtin; refine app_fld w.heap.size (nm, vl) HO1.out hw1 hxl rfl _ _ rfl rfl rfl ?_)
    intro v' w2 hO2 hb2 _
    obtain ⟨a2, c2, rfl⟩ := hO2.shape
    have HO2 := Lib.hid hO2
    have hB4 := hB3.trans hb2
    clear hO2 hb2 HO1
    go_wp2
    go_ret
    exact ⟨a2, c2, rfl, HO2.out, hB4⟩
  · have hset : setL xs nm vl = setP nm vl false xs := by unfold setL; rw [hany]; simp
    rw [hset, ← keepP_map, ← updK_all]
    rw [hany] at k1
    generalize keepP nm false xs = ks at *
    have hstep := updK_step nm vl ks
    have hlen := updK_len nm vl ks
    have hat := updK_at nm vl ks
    have HK := Lib.hid k1; have HST := Lib.hid hstep; have HLEN := Lib.hid hlen; have HAT := Lib.hid hat; have HKS := Lib.hid hks
    have hkn : ks.length ≤ 1000000 := by omega
    clear k1 hset hkl hkm hks hs hr hlast hall hany hxn hn hN1 hT2 hN2 hstep hlen hat
    go_enter Tryd.func26, Tryd.ntmps26
    go_wp2_with fail
    rw [HW1.out, HW2.out]
    refine HK.out.mono ?_
    rintro e w1 ⟨a1, c1, rfl, ho1, hb1, h3, h4, h5⟩
    have hB3 := hB2.trans (hb1.mono (by omega))
    have ho0 : OwnF W2.heap.size (.slice a1 ks.length c1) (updK nm vl ks 0) w1 := by unfold updK; simpa using ho1
    have HO0 := Lib.hid ho0
    obtain ⟨d0, d1, d2⟩ := of_heap h4 0
    have d3 : w1.cell? ⟨w.heap.size + 1, 0, none⟩ = some (.bool true) := d0
    have hw1 : W2.heap.size ≤ w1.heap.size := by rw [z2]; exact h5
    have HN := Lib.hid h3
    clear ho0 ho1 hb1 d0 h4 HK HW1 HW2 h3
    go_wp2_with fail
    go_loopw [23] (fun i wr => ∃ k : Nat, k ≤ ks.length ∧ i = .int .i64 k ∧ Hid (OwnF W2.heap.size (.slice a1 ks.length c1) (updK nm vl ks k) wr) ∧ Below W2.heap.size w1 wr) (fun i _ => ks.length - (intOf i).toNat)
    case atStart => exact ⟨0, Nat.zero_le _, rfl, HO0, Below.refl _ _⟩
    case round =>
      clear HO0 d3 d1
      obtain ⟨k, hk, rfl, HO, hbw⟩ := hrel
      by_cases hlt : k < ks.length
      · have hlt2 : k < (updK nm vl ks k).length := by rw [HLEN.out]; exact hlt
        obtain ⟨g, rfl, -, hg, hgl, e1, e2, e3⟩ := HO.out.at hlt2
        have hea := HAT.out k hlt hlt2
        have hst := HST.out k hlt
        have hf1 := HKS.out ks[k] (List.getElem_mem _)
        have hsto := fun W (hW : Below wr.heap.size wr W) => (HO.out.below hW).stored hlt2 vl
        have hsame : sameN nm ks[k] = false → updK nm vl ks (k + 1) = updK nm vl ks k := by
          intro h
          rw [hst]
          unfold updF
          rw [h, cond_false, ← hea]
          exact List.set_getElem_self hlt2
        rw [hea] at e1 e2
        rw [show updF nm vl ks[k] = bif sameN nm ks[k] then (ks[k].1, vl) else ks[k] from rfl] at hst
        simp only [hea] at hsto
        generalize ks[k] = f at *
        obtain ⟨f1, f2⟩ := f
        have k2 := fun w => tsame_any ⟨f1.toArray⟩ ⟨nm.toArray⟩ w (by rw [Lib.size_eq]; exact hf1) hnz
        have hsn : sameN nm (f1, f2) = (lowerL f1 == lowerL nm) := rfl
        simp only at k2 e1 e2 hsto
        have hN : wr.cell? ⟨w.heap.size, 0, none⟩ = some (.string ⟨nm.toArray⟩) := (hbw.cell (p := ⟨w.heap.size, 0, none⟩) (by show w.heap.size < W2.heap.size; omega)).trans HN.out
        have hnl : w.heap.size < wr.heap.size := by have := hbw.size; omega
        have kc : ∀ w', Below wr.heap.size wr w' → w'.cell? ⟨g, k * 2, none⟩ = some (.string ⟨f1.toArray⟩) ∧ w'.cell? ⟨w.heap.size, 0, none⟩ = some (.string ⟨nm.toArray⟩) ∧ Below wr.heap.size wr w' := fun w' h => ⟨(h.cell (p := ⟨g, k * 2, none⟩) hgl).trans e1, (h.cell (p := ⟨w.heap.size, 0, none⟩) hnl).trans hN, h⟩
        have kd : ∀ w', Below wr.heap.size wr w' → w'.cell? ⟨g, k * 2 + 1, none⟩ = some (.string ⟨f2.toArray⟩) ∧ w'.frozen? ⟨g, k * 2 + 1, none⟩ = false := fun w' h => ⟨(h.cell (p := ⟨g, k * 2 + 1, none⟩) hgl).trans e2, (h.frozen (p := ⟨g, k * 2 + 1, none⟩) hgl).trans e3⟩
        have KC := Lib.hid kc; have KD := Lib.hid kd; have HSTO := Lib.hid hsto
        clear kc kd hsto e1 e2 e3 hN hea hf1
        have hb0 := Below.refl wr.heap.size wr
        cases hq : (lowerL f1 == lowerL nm)
        · rw [hq] at k2 hsn
          have hnx := hsame hsn
          have HNX := Lib.hid hnx; have K2 := Lib.hid k2
          clear hnx k2 hsame hst hsn hq
          go_wp2_with fail
          go_region_held3 (fun w' => w'.cell? ⟨g, k * 2, none⟩ = some (.string ⟨f1.toArray⟩) ∧ w'.cell? ⟨w.heap.size, 0, none⟩ = some (.string ⟨nm.toArray⟩) ∧ Below wr.heap.size wr w') (first | exact KC.out _ hb0 | exact KC.out _ hb0.drew | exact KC.out _ d2 | exact KC.out _ d2.drew) (first | (obtain ⟨_, _, g3⟩ := ‹_ ∧ _ ∧ Below wr.heap.size wr _›; with_reducible refine (K2.out _).mono ?_; rintro e w2 ⟨rfl, hb2⟩; have d2 := g3.trans (hb2.mono g3.size)) | fail)
          all_goals
            have HO2 : Hid (OwnF W2.heap.size (.slice (some ⟨g, 0, none⟩) ks.length c1) (updK nm vl ks (k + 1)) w2) := by rw [HNX.out]; exact Lib.hid (HO.out.below d2)
            have hB5 := hbw.trans (d2.mono (B' := W2.heap.size) (by have := hbw.size; omega))
            go_wp2_with fail
            go_roundw
            case rel => exact ⟨k + 1, by omega, by go_num, HO2, hB5⟩
            case measure => simp [intOf]; omega
        · rw [hq] at k2 hsn
          rw [hsn, cond_true] at hst
          have HNX := Lib.hid hst; have K2 := Lib.hid k2
          clear k2 hsame hst hsn hq
          go_wp2_with fail
          go_region_held3 (fun w' => w'.cell? ⟨g, k * 2, none⟩ = some (.string ⟨f1.toArray⟩) ∧ w'.cell? ⟨w.heap.size, 0, none⟩ = some (.string ⟨nm.toArray⟩) ∧ Below wr.heap.size wr w') (first | exact KC.out _ hb0 | exact KC.out _ hb0.drew | exact KC.out _ d2 | exact KC.out _ d2.drew) (first | (obtain ⟨_, _, g3⟩ := ‹_ ∧ _ ∧ Below wr.heap.size wr _›; with_reducible refine (K2.out _).mono ?_; rintro e w2 ⟨rfl, hb2⟩; have d2 := g3.trans (hb2.mono g3.size)) | fail)
          all_goals
            have HO2 : Hid (OwnF W2.heap.size (.slice (some ⟨g, 0, none⟩) ks.length c1) (updK nm vl ks (k + 1)) (w2.setCell ⟨g, k * 2 + 1, none⟩ (.string ⟨vl.toArray⟩))) := by rw [HNX.out]; exact Lib.hid (HSTO.out _ d2)
            have hB5 := (hbw.trans (d2.mono (B' := W2.heap.size) (by have := hbw.size; omega))).setCell (p := ⟨g, k * 2 + 1, none⟩) hg (.string ⟨vl.toArray⟩)
            obtain ⟨x1, x2⟩ := KD.out _ d2
            have gl2 : g < w2.heap.size := Nat.lt_of_lt_of_le hgl d2.size
            go_wp2_with fail
            go_roundw
            case rel => exact ⟨k + 1, by omega, by go_num, HO2, hB5⟩
            case measure => simp [intOf]; omega
      · have hke : k = ks.length := by omega
        subst hke
        have hll := HLEN.out ks.length
        have ho := HO.out
        generalize updK nm vl ks ks.length = q at *
        have ho2 : OwnF w.heap.size (.slice a1 q.length c1) q wr := by rw [hll]; exact ho.base (by omega)
        have HO2 := Lib.hid ho2
        have HL := Lib.hid hll
        clear ho ho2 hll HO HST HLEN HAT HKS
        go_wp2
        go_ret
        exact ⟨a1, c1, by simp [HL.out], HO2.out, hB3.trans (hbw.mono (by omega))⟩
end Go.Proofs.YthppcaoldobocaaDoor
