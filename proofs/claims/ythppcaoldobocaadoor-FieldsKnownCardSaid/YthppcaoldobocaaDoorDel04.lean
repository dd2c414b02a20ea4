/- Names taken out: the plain law, and both walks. -/
import Derived.Test.YthppcaoldobocaaDoorKept
import Derived.Test.YthppcaoldobocaaDoorSame
import Derived.Test.YthppcaoldobocaaDoorRLow
namespace Go.Proofs.YthppcaoldobocaaDoor
open Go.RowKit
set_option maxRecDepth 100000

def hasL (names : List (List UInt8)) (nm : List UInt8) : Bool := names.any fun n => lowerL n == lowerL nm
def delL (xs : List Fld) (names : List (List UInt8)) : List Fld := xs.filter fun f => !hasL names f.1
theorem delL_le (xs : List Fld) (names : List (List UInt8)) : (delL xs names).length ≤ xs.length := List.length_filter_le _ _
/-- Is the element at a place one of which something is so? -/
def atP (q : Fld → Bool) (xs : List Fld) (k : Nat) : Bool := match xs[k]? with | some f => q f | none => false
theorem atP_at (q : Fld → Bool) (xs : List Fld) (k : Nat) (h : k < xs.length) : atP q xs k = q xs[k] := by
  unfold atP; rw [List.getElem?_eq_getElem h]

theorem delff_any (l : List UInt8) (b : Nat) (f1 : List UInt8) (w : World) (h : w.cell? ⟨b, 0, none⟩ = some (.string ⟨f1.toArray⟩)) (h1 : l.length ≤ 1000000) (h2 : f1.length ≤ 1000000) :
    Calls Tryd.prog 54 #[.string ⟨l.toArray⟩, .pointer (some ⟨b, 0, none⟩)] w fun e w' => e = .returned (.bool (lowerL l == lowerL f1)) ∧ Below w.heap.size w w' := by
  have k1 := tsame_any ⟨l.toArray⟩ ⟨f1.toArray⟩ w (by rw [Lib.size_eq]; exact h1) (by rw [Lib.size_eq]; exact h2)
  simp only at k1
  generalize (lowerL l == lowerL f1) = out at *
  have K1 := Lib.hid k1; clear k1
  go_enter Tryd.func54, Tryd.ntmps54
  go_wp2_with fail
  refine K1.out.mono ?_
  rintro e w1 ⟨rfl, hb1⟩
  go_wp2
  go_ret
  exact ⟨rfl, hb1⟩

set_option maxHeartbeats 2000000 in
theorem delf_any (f : Fld) (nb : Nat) (N : Option Addr) (nn nc : Nat) (names : List (List UInt8)) (w : World) (h : w.cell? ⟨nb, 0, none⟩ = some (.slice N nn nc)) (hnb : nb < w.heap.size) (hr : Rd N nn 1 (strsV names) w) (hn : nn ≤ 1000000) (hl : ∀ l ∈ names, l.length ≤ 1000000) (hf : f.1.length ≤ 1000000) :
    Calls Tryd.prog 52 #[.agg #[.string ⟨f.1.toArray⟩, .string ⟨f.2.toArray⟩], .pointer (some ⟨nb, 0, none⟩)] w fun e w' => e = .returned (.bool (!hasL names f.1)) ∧ Below w.heap.size w w' := by
  obtain ⟨f1, f2⟩ := f
  simp only at hf ⊢
  have hAl := (Below.refl w.heap.size w).alloc (Nat.le_refl _) (.cells #[.string ⟨f1.toArray⟩, .string ⟨f2.toArray⟩] 37)
  have k1 := containsDel_any (.pointer (some ⟨w.heap.size, 0, none⟩)) (fun l => lowerL l == lowerL f1) N nn nc names (w.alloc (.cells #[.string ⟨f1.toArray⟩, .string ⟨f2.toArray⟩] 37)) (hr.below hAl) hn (by
    intro l hl' W hW
    exact delff_any l w.heap.size f1 W ((hW.cell (p := ⟨w.heap.size, 0, none⟩) (by simp)).trans (World.cell?_alloc_mark w _ _ _ 0)) (hl l hl') hf)
  have he : (names.any fun l => lowerL l == lowerL f1) = hasL names f1 := rfl
  rw [he] at k1
  generalize hasL names f1 = out at *
  have c0 : (w.alloc (.cells #[.string ⟨f1.toArray⟩, .string ⟨f2.toArray⟩] 37)).cell? ⟨nb, 0, none⟩ = some (.slice N nn nc) := (hAl.cell (p := ⟨nb, 0, none⟩) hnb).trans h
  have K1 := Lib.hid k1; clear k1 he hr hl
  go_enter Tryd.func52, Tryd.ntmps52
  go_wp2_with fail
  refine K1.out.mono ?_
  rintro e w1 ⟨rfl, hb1⟩
  go_wp2
  go_ret
  exact ⟨rfl, hAl.trans (hb1.mono (by simp))⟩

set_option maxHeartbeats 2000000 in
theorem del_any (A : Option Addr) (n c : Nat) (xs : List Fld) (N : Option Addr) (nn nc : Nat) (names : List (List UInt8)) (w : World) (hr : Rd A n 2 (fldsV xs) w) (hn : n ≤ 1000000) (hs : ∀ f ∈ xs, f.1.length ≤ 1000000)
    (hR : Rd N nn 1 (strsV names) w) (hnn : nn ≤ 1000000) (hl : ∀ l ∈ names, l.length ≤ 1000000) :
    Calls Tryd.prog 28 #[.slice A n c, .slice N nn nc] w (FieldsPost w (delL xs names)) := by
  have hAl := (Below.refl w.heap.size w).alloc (Nat.le_refl _) (.cells #[.slice N nn nc] 38)
  have hlast : (xs.take xs.length).filter (fun f => !hasL names f.1) = delL xs names := by rw [List.take_length]; rfl
  have k1 := keptDel_any (.pointer (some ⟨w.heap.size, 0, none⟩)) w.heap.size w A n c xs (w.alloc (.cells #[.slice N nn nc] 38)) hr hn hAl (Nat.le_refl _) (by simp)
    (fun _ W => Below w.heap.size w W ∧ W.cell? ⟨w.heap.size, 0, none⟩ = some (.slice N nn nc) ∧ w.heap.size < W.heap.size) (atP (fun f => !hasL names f.1) xs) (fun k => (xs.take k).filter fun f => !hasL names f.1) rfl
    (by
      intro k hk
      rw [atP_at _ _ _ hk, List.take_succ_eq_append_getElem hk, List.filter_append]
      cases hq : (!hasL names xs[k].1) <;> simp [hq])
    ⟨hAl, World.cell?_alloc_mark w _ _ _ 0, by simp⟩
    (by
      rintro k W W' ⟨h1, h2, h3⟩ hb
      exact ⟨h1.trans (hb.mono (by simp)), (hb.cell (p := ⟨w.heap.size, 0, none⟩) (by simp)).trans h2, Nat.lt_of_lt_of_le h3 hb.size⟩)
    (by
      rintro k hk W ⟨h1, h2, h3⟩ hsz
      rw [atP_at _ _ _ hk]
      refine (delf_any xs[k] w.heap.size N nn nc names W h2 h3 (hR.below h1) hnn hl (hs _ (List.getElem_mem _))).mono ?_
      rintro e W' ⟨rfl, hb⟩
      exact ⟨rfl, ⟨h1.trans (hb.mono h1.size), (hb.cell (p := ⟨w.heap.size, 0, none⟩) h3).trans h2, Nat.lt_of_lt_of_le h3 hb.size⟩, Beside.of hb (by omega)⟩)
  simp only [hlast] at k1
  generalize delL xs names = fs at *
  have K1 := Lib.hid k1; clear k1 hr hs hR hl hlast hn hnn
  go_enter Tryd.func28, Tryd.ntmps28
  go_wp2_with fail
  refine K1.out.mono ?_
  rintro e w1 ⟨a1, c1, rfl, ho1, hb1, -⟩
  have HO1 := Lib.hid (ho1.base (B' := w.heap.size) (by simp)); clear ho1
  go_wp2
  go_ret
  exact ⟨a1, c1, rfl, HO1.out, hAl.trans hb1⟩

/-! The document's. -/
theorem rhas_any (N : Option Addr) (n c : Nat) (ls : List (List UInt8)) (nm : List UInt8) (w : World) (hr : Rd N n 1 (strsV ls) w) (hn : n ≤ 1000000) (hl : ∀ l ∈ ls, l.length ≤ 1000000) (hm : nm.length ≤ 1000000) :
    Calls Tryd.prog 55 #[.slice N n c, .string ⟨nm.toArray⟩] w fun e w' => e = .returned (.bool (hasL ls nm)) ∧ Below w.heap.size w w' := by
  obtain rfl := hr.str
  have hY : ∀ k (h : k < ls.length), (lowerL ls[k] == lowerL nm) = true → hasL ls nm = true := by
    intro k h e
    unfold hasL
    rw [List.any_eq_true]; exact ⟨ls[k], List.getElem_mem _, e⟩
  have hN : hasL (ls.take ls.length) nm = false → hasL ls nm = false := by rw [List.take_length]; exact id
  have hS : ∀ k (h : k < ls.length), hasL (ls.take k) nm = false → (lowerL ls[k] == lowerL nm) = false → hasL (ls.take (k + 1)) nm = false := by
    intro k h e n
    unfold hasL at *
    rw [List.take_succ_eq_append_getElem h, List.any_append, e]
    simp [n]
  have k2 := fun w => rlower_any ⟨nm.toArray⟩ w (by rw [Lib.size_eq]; exact hm)
  simp only at k2
  have HY := Lib.hid hY; have HN := Lib.hid hN; have HS := Lib.hid hS; have HR := Lib.hid hr; have HL := Lib.hid hl; have K2 := Lib.hid k2; clear hY hN hS hr hl k2
  generalize hasL ls nm = out at *
  have hB := Below.refl w.heap.size w
  go_enter Tryd.func55, Tryd.ntmps55
  go_wp2
  go_loopw [5] (fun i wr => ∃ k : Nat, k ≤ ls.length ∧ i = .int .i64 k ∧ Below w.heap.size w wr ∧ Hid (hasL (ls.take k) nm = false)) (fun i _ => ls.length - (intOf i).toNat)
  case atStart => exact ⟨0, Nat.zero_le _, rfl, hB, Lib.hid rfl⟩
  case round =>
    clear hB
    obtain ⟨k, hk, rfl, hbw, Hall⟩ := hrel
    by_cases hlt : k < ls.length
    · obtain ⟨b, o, rfl, hl, c1⟩ := (HR.out.below hbw).str_at (k := k) hlt
      have hy := HY.out k hlt
      have hs := HS.out k hlt Hall.out
      have hll := HL.out ls[k] (List.getElem_mem _)
      generalize ls[k] = l at *
      have k1 := fun w => rlower_any ⟨l.toArray⟩ w (by rw [Lib.size_eq]; exact hll)
      simp only at k1
      have Hy := Lib.hid hy; have Hs := Lib.hid hs; have K1 := Lib.hid k1; clear hy hs k1
      cases hq : (lowerL l == lowerL nm)
      · have hf := Hs.out hq
        have Hf := Lib.hid hf; have Hq := Lib.hid hq; clear hf hq Hs Hy
        go_wp2_with fail
        refine (K1.out _).mono ?_
        rintro e w1 ⟨rfl, hb1⟩
        go_wp2_with fail
        refine (K2.out _).mono ?_
        rintro e w2 ⟨rfl, hb2⟩
        have hB2 := bt (bt hbw hb1) hb2
        have q1 := Hq.out
        go_wp2
        go_roundw
        case rel => exact ⟨k + 1, by omega, by go_num, hB2, Hf⟩
        case measure => simp [intOf]; omega
      · have hf := Hy.out hq
        have Hf := Lib.hid hf; have Hq := Lib.hid hq; clear hf hq Hs Hy
        go_wp2_with fail
        refine (K1.out _).mono ?_
        rintro e w1 ⟨rfl, hb1⟩
        go_wp2_with fail
        refine (K2.out _).mono ?_
        rintro e w2 ⟨rfl, hb2⟩
        have hB2 := bt (bt hbw hb1) hb2
        have q1 := Hq.out
        go_wp2
        go_ret
        exact ⟨by rw [Hf.out]; rfl, hB2⟩
    · have hke : k = ls.length := by omega
      subst hke
      have hf := HN.out Hall.out
      have Hf := Lib.hid hf; clear hf
      go_wp2
      go_ret
      exact ⟨by rw [Hf.out]; rfl, hbw⟩

theorem delL_snoc (xs : List Fld) (names : List (List UInt8)) (k : Nat) (h : k < xs.length) : delL (xs.take (k + 1)) names = bif !hasL names xs[k].1 then delL (xs.take k) names ++ [xs[k]] else delL (xs.take k) names := by
  unfold delL
  rw [List.take_succ_eq_append_getElem h, List.filter_append]
  cases hq : (!hasL names xs[k].1) <;> simp [hq]
set_option maxHeartbeats 4000000 in
theorem rdel_any (A : Option Addr) (n c : Nat) (xs : List Fld) (N : Option Addr) (nn nc : Nat) (names : List (List UInt8)) (w : World) (hr : Rd A n 2 (fldsV xs) w) (hn : n ≤ 1000000) (hs : ∀ f ∈ xs, f.1.length ≤ 1000000)
    (hR : Rd N nn 1 (strsV names) w) (hnn : nn ≤ 1000000) (hl : ∀ l ∈ names, l.length ≤ 1000000) :
    Calls Tryd.prog 29 #[.slice A n c, .slice N nn nc] w (FieldsPost w (delL xs names)) := by
  obtain rfl := hr.fld
  have hB := Below.refl w.heap.size w
  have hsn := delL_snoc xs names
  have hlast : delL (xs.take xs.length) names = delL xs names := by rw [List.take_length]
  have hlen : ∀ k, (delL (xs.take k) names).length ≤ 1000000 := by
    intro k; have h1 := delL_le (xs.take k) names; rw [List.length_take] at h1; omega
  have k1 := fun f (hf : f ∈ xs) w h => rhas_any N nn nc names f.1 w h hnn hl (hs f hf)
  have HR := Lib.hid hr; have HRN := Lib.hid hR; have HSN := Lib.hid hsn; have HLA := Lib.hid hlast; have K1 := Lib.hid k1; have HLEN := Lib.hid hlen
  clear hr hR hsn hlast k1 hs hl hlen
  generalize delL xs names = out at *
  go_enter Tryd.func29, Tryd.ntmps29
  go_wp2
  go_loopw [6, 5] (fun i out wr => ∃ k : Nat, k ≤ xs.length ∧ i = .int .i64 k ∧ Hid (OwnF w.heap.size out (delL (xs.take k) names) wr) ∧ Below w.heap.size w wr) (fun i _ _ => xs.length - (intOf i).toNat)
  case atStart => exact ⟨0, Nat.zero_le _, rfl, Lib.hid (OwnF.nil _ _), hB⟩
  case round =>
    clear hB
    obtain ⟨k, hk, rfl, HO, hbw⟩ := hrel
    obtain ⟨oa, oc, rfl⟩ := HO.out.shape
    by_cases hlt : k < xs.length
    · obtain ⟨b, o, rfl, hl, c1, c2⟩ := (HR.out.below hbw).fld_at (k := k) hlt
      have hsn := HSN.out k hlt
      have k1 := K1.out xs[k] (List.getElem_mem _)
      have hle := HLEN.out k
      generalize xs[k] = f at *
      obtain ⟨f1, f2⟩ := f
      simp only at c1 c2 k1 hsn
      generalize delL (xs.take k) names = dk at *
      have HSN2 := Lib.hid hsn; have KK := Lib.hid k1
      clear k1 hsn HSN K1 HLEN
      cases hq : hasL names f1
      · rw [hq] at KK HSN2
        go_wp2_with fail
        refine (KK.out _ (HRN.out.below hbw)).mono ?_
        rintro e w1 ⟨rfl, hb1⟩
        have hB1 := bt hbw hb1
        have d1 := (hb1.cell (p := ⟨b, o + k * 2, none⟩) hl).trans c1
        have d2 := (hb1.cell (p := ⟨b, o + k * 2 + 1, none⟩) hl).trans c2
        have HO1 := Lib.hid (HO.out.below hb1)
        have hfl : dk.length ≤ 1000000000 := by omega
        clear c1 c2 hb1 KK HO
        go_wp2_with (at_builtin; refine app_fld w.heap.size (f1, f2) HO1.out hB1.size hfl rfl _ _ rfl rfl rfl ?_)
        intro v' w2 hO2 hb2 _
        have HO2 : Hid (OwnF w.heap.size v' (delL (xs.take (k + 1)) names) w2) := by rw [HSN2.out]; exact Lib.hid hO2
        have hB2 := hB1.trans hb2
        clear hO2 hb2 d1 d2 HSN2 HO1
        go_wp2
        go_roundw
        case rel => exact ⟨k + 1, by omega, by go_num, HO2, hB2⟩
        case measure => simp [intOf]; omega
      · rw [hq] at KK HSN2
        go_wp2_with fail
        refine (KK.out _ (HRN.out.below hbw)).mono ?_
        rintro e w1 ⟨rfl, hb1⟩
        have hB1 := bt hbw hb1
        have HO1 : Hid (OwnF w.heap.size (.slice oa dk.length oc) (delL (xs.take (k + 1)) names) w1) := by rw [HSN2.out]; exact Lib.hid (HO.out.below hb1)
        clear hb1 KK HO HSN2
        go_wp2
        go_roundw
        case rel => exact ⟨k + 1, by omega, by go_num, HO1, hB1⟩
        case measure => simp [intOf]; omega
    · have hke : k = xs.length := by omega
      subst hke
      have ho := HO.out
      rw [HLA.out] at ho
      have hll : (delL (xs.take xs.length) names).length = out.length := by rw [HLA.out]
      clear HO HSN K1 HLEN
      generalize delL (xs.take xs.length) names = q at *
      have hq := HLA.out
      subst hq
      have HO := Lib.hid ho
      clear ho hll HLA
      go_wp2
      go_ret
      exact ⟨oa, oc, rfl, HO.out, hbw⟩
end Go.Proofs.YthppcaoldobocaaDoor
