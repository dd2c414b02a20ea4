/- The walks of vary.Select, vary.Matches. -/
import Derived.Test.YtdlajobnnnmojaaDoorVaryValue
import Derived.Test.YtdlajobnnnmojaaDoorOwnF
import Derived.Deep.RegionHeld3
namespace Go.Proofs.YtdlajobnnnmojaaDoor
open Go.RowKit

def selectL (names : List (List UInt8)) (xs : List Fld) : List Fld := names.map fun nm => (nm, valueL xs nm)
def matchesL (es xs : List Fld) : Bool := es.all fun f => valueL xs f.1 == f.2

set_option maxRecDepth 100000 in
set_option maxHeartbeats 2000000 in
theorem select_any (N : Option Addr) (nn nc : Nat) (names : List (List UInt8)) (A : Option Addr) (n c : Nat) (xs : List Fld) (w : World) (hN : Rd N nn 1 (strsV names) w) (hnn : nn ≤ 1000000) (hnl : ∀ x ∈ names, x.length ≤ 1000000)
    (hr : Rd A n 2 (fldsV xs) w) (hn : n ≤ 1000) (hs : ∀ f ∈ xs, f.1.length ≤ 1000000 ∧ f.2.length ≤ 1000000) :
    Calls Tryd.prog 14 #[.slice N nn nc, .slice A n c] w (FieldsPost w (selectL names xs)) := by
  obtain rfl := hN.str
  have hB := Below.refl w.heap.size w
  have k1 : ∀ (w' : World) (nm : List UInt8), Below w.heap.size w w' → nm.length ≤ 1000000 → Calls Tryd.prog 33 #[.slice A n c, .string ⟨nm.toArray⟩] w' fun e w2 => e = .returned (.string ⟨(valueL xs nm).toArray⟩) ∧ Below w'.heap.size w' w2 :=
    fun w' nm hb hl => vvalue_any A n c xs ⟨nm.toArray⟩ w' (hr.below hb) hn hs (by rw [Lib.size_eq]; exact hl)
  have K1 := Lib.hid k1; have HN := Lib.hid hN; have HL := Lib.hid hnl
  clear k1 hr hs hN hnl
  go_enter Tryd.func14, Tryd.ntmps14
  go_wp2
  go_loopw [13, 6] (fun i out wr => ∃ k : Nat, k ≤ names.length ∧ i = .int .i64 k ∧ Hid (OwnF w.heap.size out (selectL (names.take k) xs) wr) ∧ Below w.heap.size w wr) (fun i _ _ => names.length - (intOf i).toNat)
  case atStart => exact ⟨0, Nat.zero_le _, rfl, Lib.hid (OwnF.nil _ _), hB⟩
  case round =>
    clear hB
    obtain ⟨k, hk, rfl, HO, hbw⟩ := hrel
    by_cases hlt : k < names.length
    · obtain ⟨b, o, rfl, hl, c1⟩ := (HN.out.below hbw).str_at (k := k) hlt
      have hv := HL.out names[k] (List.getElem_mem _)
      have hsn : selectL (names.take (k + 1)) xs = selectL (names.take k) xs ++ [(names[k], valueL xs names[k])] := by rw [take_snocL names k hlt]; unfold selectL; rw [List.map_append]; rfl
      have hlen : (selectL (names.take k) xs).length ≤ 1000000000 := by unfold selectL; rw [List.length_map, List.length_take]; omega
      generalize names[k] = nm at *
      have Hsn := Lib.hid hsn; clear hsn
      go_wp2_with fail
      refine (K1.out _ nm hbw hv).mono ?_
      rintro e w2 ⟨rfl, hb2⟩
      have hb3 := hbw.trans (hb2.mono hbw.size)
      have HO2 := Lib.hid (HO.out.below hb2)
      go_wp2_with (at_builtin; refine app_fld w.heap.size (nm, valueL xs nm) HO2.out hb3.size hlen rfl _ _ rfl rfl rfl ?_)
      intro v' w3 hO3 hb4 _
      have hbn := hb3.trans hb4
      have HO3 : Hid (OwnF w.heap.size v' (selectL (names.take (k + 1)) xs) w3) := by rw [Hsn.out]; exact Lib.hid hO3
      clear hO3 hb4 hb3 hb2 HO2 HO
      go_wp2
      go_roundw
      case rel => exact ⟨k + 1, by omega, by go_num, HO3, hbn⟩
      case measure => simp [intOf]; omega
    · have hke : k = names.length := by omega
      subst hke
      have ho := HO.out
      rw [List.take_length] at ho
      obtain ⟨la, lc, rfl⟩ := ho.shape
      have HO1 := Lib.hid ho; clear ho HO
      go_wp2
      go_ret
      exact ⟨la, lc, rfl, HO1.out, hbw⟩

/-- An entry, by value. -/
def entV (st : Int) (re : ByteArray) (mi : Int) (fa : Option Addr) (fn fc : Nat) (bo : ByteArray) (asd gt : Int) (va : Option Addr) (vn vc : Nat) : Value :=
  .agg #[.int .i64 st, .string re, .int .i64 mi, .slice fa fn fc, .string bo, .int .i64 asd, .int .i64 gt, .slice va vn vc]

set_option maxRecDepth 100000 in
set_option maxHeartbeats 4000000 in
theorem matches_any (st : Int) (re : ByteArray) (mi : Int) (fa : Option Addr) (fn fc : Nat) (bo : ByteArray) (asd gt : Int) (va : Option Addr) (vn vc : Nat) (es : List Fld) (A : Option Addr) (n c : Nat) (xs : List Fld) (w : World)
    (hE : Rd va vn 2 (fldsV es) w) (hvn : vn ≤ 1000000) (hel : ∀ f ∈ es, f.1.length ≤ 1000000)
    (hr : Rd A n 2 (fldsV xs) w) (hn : n ≤ 1000) (hs : ∀ f ∈ xs, f.1.length ≤ 1000000 ∧ f.2.length ≤ 1000000) :
    Calls Tryd.prog 16 #[entV st re mi fa fn fc bo asd gt va vn vc, .slice A n c] w fun e w' => e = .returned (.bool (matchesL es xs)) ∧ Below w.heap.size w w' := by
  obtain rfl := hE.fld
  have hB := (Below.refl w.heap.size w).alloc (Nat.le_refl _) (.cells #[.int .i64 st, .string re, .int .i64 mi, .slice fa fn fc, .string bo, .int .i64 asd, .int .i64 gt, .slice va es.length vc] 33)
  have k1 : ∀ (w' : World) (nm : List UInt8), Below w.heap.size w w' → nm.length ≤ 1000000 → Calls Tryd.prog 33 #[.slice A n c, .string ⟨nm.toArray⟩] w' fun e w2 => e = .returned (.string ⟨(valueL xs nm).toArray⟩) ∧ Below w'.heap.size w' w2 :=
    fun w' nm hb hl => vvalue_any A n c xs ⟨nm.toArray⟩ w' (hr.below hb) hn hs (by rw [Lib.size_eq]; exact hl)
  have hY : ∀ k (h : k < es.length), (valueL xs (es[k]).1 == (es[k]).2) = false → matchesL es xs = false := by
    intro k h hk
    unfold matchesL
    rw [List.all_eq_false]
    exact ⟨es[k], List.getElem_mem _, by simp [hk]⟩
  have hZ : (∀ k (h : k < es.length), (valueL xs (es[k]).1 == (es[k]).2) = true) → matchesL es xs = true := by
    intro h
    unfold matchesL
    rw [List.all_eq_true]
    intro f hf
    obtain ⟨k, hk, e⟩ := List.mem_iff_getElem.1 hf
    rw [← e]; exact h k hk
  have K1 := Lib.hid k1; have HE := Lib.hid hE; have HL := Lib.hid hel; have HY := Lib.hid hY; have HZ := Lib.hid hZ
  clear k1 hr hs hE hel hY hZ
  generalize matchesL es xs = out at *
  unfold entV
  go_enter Tryd.func16, Tryd.ntmps16
  go_wp2
  go_loopw [13] (fun i wr => ∃ k : Nat, k ≤ es.length ∧ i = .int .i64 k ∧ Hid (∀ j (h : j < es.length), j < k → (valueL xs (es[j]).1 == (es[j]).2) = true) ∧ Below w.heap.size w wr) (fun i _ => es.length - (intOf i).toNat)
  case atStart => exact ⟨0, Nat.zero_le _, rfl, Lib.hid (fun j h hj => absurd hj (by omega)), hB⟩
  case round =>
    clear hB
    obtain ⟨k, hk, rfl, HA, hbw⟩ := hrel
    by_cases hlt : k < es.length
    · obtain ⟨b, o, rfl, hl, c1, c2⟩ := (HE.out.below hbw).fld_at (k := k) hlt
      have hv := HL.out es[k] (List.getElem_mem _)
      have hy := HY.out k hlt
      have hz : (valueL xs (es[k]).1 == (es[k]).2) = true → Hid (∀ j (h : j < es.length), j < k + 1 → (valueL xs (es[j]).1 == (es[j]).2) = true) := by
        intro e
        refine Lib.hid fun j h hj => ?_
        by_cases hjk : j = k
        · subst hjk; exact e
        · exact HA.out j h (by omega)
      generalize es[k] = f at *
      obtain ⟨f1, f2⟩ := f
      simp only at c1 c2 hv hy hz
      have Hy := Lib.hid hy; have Hz := Lib.hid hz; clear hy hz HA
      go_wp2_with fail
      obtain ⟨W, hW⟩ : ∃ W, wr.alloc (.cells #[.string ⟨f1.toArray⟩, .string ⟨f2.toArray⟩] 41) = W := ⟨_, rfl⟩
      have e1 : W.cell? ⟨wr.heap.size, 0, none⟩ = some (.string ⟨f1.toArray⟩) := by rw [← hW]; exact World.cell?_alloc_mark wr _ _ _ 0
      have e2 : W.cell? ⟨wr.heap.size, 1, none⟩ = some (.string ⟨f2.toArray⟩) := by rw [← hW]; exact World.cell?_alloc_mark wr _ _ _ 1
      have e3 : Below w.heap.size w W := by rw [← hW]; exact hbw.alloc hbw.size _
      have e4 : wr.heap.size < W.heap.size := by rw [← hW]; simp
      rw [hW]
      clear hW c1 c2
      cases hq : (valueL xs f1 == f2)
      · have hf := Hy.out hq
        have Hf := Lib.hid hf
        have q2 : (!valueL xs f1 == f2) = true := by rw [hq]; rfl
        clear hf
        go_region_held3 (fun w' => w'.cell? ⟨wr.heap.size, 0, none⟩ = some (.string ⟨f1.toArray⟩) ∧ w'.cell? ⟨wr.heap.size, 1, none⟩ = some (.string ⟨f2.toArray⟩) ∧ Below w.heap.size w w' ∧ wr.heap.size < w'.heap.size) (first | exact ⟨e1, e2, e3, e4⟩ | exact ⟨e1, e2, e3.drew, e4⟩ | exact ⟨d1, d2, d3, d4⟩ | exact ⟨d1, d2, d3.drew, d4⟩) (first | (go_at_call 33; obtain ⟨g1, g2, g3, g4⟩ := ‹_ ∧ _ ∧ Below w.heap.size w _ ∧ _ < _›; refine (K1.out _ f1 g3 hv).mono ?_; rintro e w2 ⟨rfl, hb2⟩; have d1 := (hb2.cell (p := ⟨wr.heap.size, 0, none⟩) g4).trans g1; have d2 := (hb2.cell (p := ⟨wr.heap.size, 1, none⟩) g4).trans g2; have d3 := g3.trans (hb2.mono g3.size); have d4 := Nat.lt_of_lt_of_le g4 hb2.size))
        obtain ⟨g1, g2, g3, g4⟩ := ‹_ ∧ _ ∧ Below w.heap.size w _ ∧ _ < _›
        go_wp2
        go_ret
        rw [Hf.out]
        exact ⟨rfl, g3⟩
      · have hz := Hz.out hq
        have q2 : (!valueL xs f1 == f2) = false := by rw [hq]; rfl
        go_region_held3 (fun w' => w'.cell? ⟨wr.heap.size, 0, none⟩ = some (.string ⟨f1.toArray⟩) ∧ w'.cell? ⟨wr.heap.size, 1, none⟩ = some (.string ⟨f2.toArray⟩) ∧ Below w.heap.size w w' ∧ wr.heap.size < w'.heap.size) (first | exact ⟨e1, e2, e3, e4⟩ | exact ⟨e1, e2, e3.drew, e4⟩ | exact ⟨d1, d2, d3, d4⟩ | exact ⟨d1, d2, d3.drew, d4⟩) (first | (go_at_call 33; obtain ⟨g1, g2, g3, g4⟩ := ‹_ ∧ _ ∧ Below w.heap.size w _ ∧ _ < _›; refine (K1.out _ f1 g3 hv).mono ?_; rintro e w2 ⟨rfl, hb2⟩; have d1 := (hb2.cell (p := ⟨wr.heap.size, 0, none⟩) g4).trans g1; have d2 := (hb2.cell (p := ⟨wr.heap.size, 1, none⟩) g4).trans g2; have d3 := g3.trans (hb2.mono g3.size); have d4 := Nat.lt_of_lt_of_le g4 hb2.size))
        obtain ⟨g1, g2, g3, g4⟩ := ‹_ ∧ _ ∧ Below w.heap.size w _ ∧ _ < _›
        go_wp2
        go_roundw
        case rel => exact ⟨k + 1, by omega, by go_num, hz, g3⟩
        case measure => simp [intOf]; omega
    · have hf := HZ.out (fun j h => HA.out j h (by omega))
      have Hf := Lib.hid hf
      clear hf
      go_wp2
      go_ret
      rw [Hf.out]
      exact ⟨rfl, hbw⟩
end Go.Proofs.YtdlajobnnnmojaaDoor
