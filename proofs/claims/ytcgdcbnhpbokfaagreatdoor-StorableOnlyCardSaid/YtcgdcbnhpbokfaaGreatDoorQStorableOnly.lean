/- Joined out of the texts OpenAsk, Of16, May16, Without13, With16, StorOnly, StorOnlyL (wip/tools/merge.py). -/
import Derived.Test.YtcgdcbnhpbokfaaGreatDoorPz6
import Derived.Deep.RegionHeld3
import Derived.IntWalk
/- A question that came in by value (method, device, fields), opened (printed by wip/tools/stmayl.py). -/
namespace Go.Proofs.YtcgdcbnhpbokfaaGreatDoor
open Go.ChangeShapes Go.WideShapes Go.RowKit
set_option maxRecDepth 100000

section
variable {H : Type} {enc : TypeId × Value → H} {W : World}
theorem three16_of {α : Type} : ∀ (l : List α), l.length = 3 → ∃ a b c, l = [a, b, c]
  | [a, b, c], _ => ⟨a, b, c, rfl⟩
theorem open_asked {base : Nat} {v : Value} {d : DataW H} {p : List MemPlace} (hv : Value.okWide Tryz.prog W .any base 40 v) (h : DataW.Trod enc Tryz.prog W 0 (fun _ => true) true 40 v d p) (hr : Reach 40 d) :
    ∃ (me dev : ByteArray) (A : Option Addr) (n c : Nat) (xs : List Fld), v = .agg #[.string me, .string dev, .slice A n c] ∧ Rd A n 2 (fldsV xs) W ∧ n * 32 ≤ reachBytes ∧ (∀ f ∈ xs, f.1.length ≤ reachBytes ∧ f.2.length ≤ reachBytes) := by
  obtain ⟨cs, rfl, hsz⟩ := okWide_struct Tryz.underlying40 hv
  obtain ⟨fuel, hf⟩ := h
  obtain ⟨l⟩ := cs
  have hf' : DataW.trod enc Tryz.prog W 0 (fun _ => true) true fuel 40 l = some (d, p) := hf
  have hc3 : Tryz.prog.cellsOf 40 = 3 := by kernel_rfl
  have hcs : Tryz.prog.cellsOf 9 = 1 := by kernel_rfl
  have hcf : Tryz.prog.cellsOf 22 = 1 := by kernel_rfl
  obtain ⟨ys, n', _, hx, hcl, hyl, hg⟩ := DataW.trod_struct Tryz.underlying40 hf'
  obtain ⟨c0, c1, c2, rfl⟩ := three16_of l (hcl.trans hc3)
  obtain ⟨y0, y1, y2, rfl⟩ := three16_of ys hyl
  have g0 : DataW.trod enc Tryz.prog W 0 (fun _ => true) true n' 9 (([c0, c1, c2].drop 0).take (Tryz.prog.cellsOf 9)) = some y0 := hg 0 _ rfl
  have g1 : DataW.trod enc Tryz.prog W 0 (fun _ => true) true n' 9 (([c0, c1, c2].drop 1).take (Tryz.prog.cellsOf 9)) = some y1 := hg 1 _ rfl
  have g2 : DataW.trod enc Tryz.prog W 0 (fun _ => true) true n' 22 (([c0, c1, c2].drop 2).take (Tryz.prog.cellsOf 22)) = some y2 := hg 2 _ rfl
  rw [hcs] at g0 g1
  rw [hcf] at g2
  have hd : d = .agg [y0.1, y1.1, y2.1] := (Prod.mk.inj hx).1
  rw [hd] at hr
  have r2 : Reach 22 y2.1 := reach_part Tryz.underlying40 hr (j := 2) rfl rfl
  obtain ⟨s0, e0, _⟩ := DataW.trod_string Tryz.underlying9 (cs := [c0]) g0
  obtain ⟨s1, e1, _⟩ := DataW.trod_string Tryz.underlying9 (cs := [c1]) g1
  obtain ⟨A, n, c, xs, e2, hR, hn, hl⟩ := open_flds (cs := [c2]) g2 r2
  simp only [List.cons.injEq, and_true] at e0 e1 e2
  subst e0; subst e1; subst e2
  exact ⟨s0, s1, A, n, c, xs, rfl, hR, hn, hl⟩
end
end Go.Proofs.YtcgdcbnhpbokfaaGreatDoor
/- The walk of the law's of (layer 16). -/
namespace Go.Proofs.YtcgdcbnhpbokfaaGreatDoor
open Go.RowKit
theorem take_snocP {α : Type} (l : List α) (k : Nat) (h : k < l.length) : l.take (k + 1) = l.take k ++ [l[k]] := List.take_succ_eq_append_getElem h

def ofP : List (List UInt8) → List Fld
  | a :: b :: r => (a, b) :: ofP r
  | _ => []
theorem ofP_len : ∀ ls : List (List UInt8), (ofP ls).length = ls.length / 2
  | [] => rfl
  | [_] => by simp [ofP]
  | a :: b :: r => by rw [ofP, List.length_cons, ofP_len r, List.length_cons, List.length_cons]; omega
theorem ofP_at : ∀ (ls : List (List UInt8)) (k : Nat) (h : k < (ofP ls).length), ∃ (h1 : 2 * k < ls.length) (h2 : 2 * k + 1 < ls.length), (ofP ls)[k] = (ls[2 * k], ls[2 * k + 1])
  | [], k, h => by simp [ofP] at h
  | [_], k, h => by simp [ofP] at h
  | a :: b :: r, 0, h => ⟨by simp, by simp, rfl⟩
  | a :: b :: r, k + 1, h => by
    obtain ⟨h1, h2, e⟩ := ofP_at r k (by simpa [ofP] using h)
    refine ⟨by simp; omega, by simp; omega, ?_⟩
    have e1 : (a :: b :: r)[2 * (k + 1)]'(by simp; omega) = r[2 * k] := by
      simp only [show 2 * (k + 1) = 2 * k + 1 + 1 from by omega, List.getElem_cons_succ]
    have e2 : (a :: b :: r)[2 * (k + 1) + 1]'(by simp; omega) = r[2 * k + 1] := by
      simp only [show 2 * (k + 1) + 1 = (2 * k + 1) + 1 + 1 from by omega, List.getElem_cons_succ]
    rw [e1, e2, ← e]; rfl

set_option maxRecDepth 100000 in
set_option maxHeartbeats 4000000 in
theorem of16_any (A : Option Addr) (n c : Nat) (ls : List (List UInt8)) (w : World) (hr : Rd A n 1 (strsV ls) w) (hn : n ≤ 1000000) :
    Calls Tryz.prog 32 #[.slice A n c] w (FieldsPost w (ofP ls)) := by
  obtain rfl := hr.str
  have hB := Below.refl w.heap.size w
  have hlen := ofP_len ls
  have hat := ofP_at ls
  generalize ofP ls = fs at *
  have hle : 2 * fs.length ≤ ls.length := by omega
  have hle2 : ls.length ≤ 2 * fs.length + 1 := by omega
  have HR := Lib.hid hr; have HAT := Lib.hid hat; clear hr hat hlen
  go_enter Tryz.func32, Tryz.ntmps32
  go_wp2
  go_loopw [4, 3] (fun i out wr => ∃ k : Nat, k ≤ fs.length ∧ i = .int .i64 (2 * k : Nat) ∧ Hid (OwnF w.heap.size out (fs.take k) wr) ∧ Below w.heap.size w wr) (fun i _ _ => 2 * fs.length + 1 - (intOf i).toNat)
  case atStart => exact ⟨0, Nat.zero_le _, rfl, Lib.hid (OwnF.nil _ _), hB⟩
  case round =>
    clear hB
    obtain ⟨k, hk, rfl, HO, hbw⟩ := hrel
    by_cases hlt : k < fs.length
    · obtain ⟨h1, h2, hf⟩ := HAT.out k hlt
      obtain ⟨b, o, rfl, hl, c0⟩ := HR.out.str_at (k := 2 * k) h1
      obtain ⟨b', o', e, hl', c1⟩ := HR.out.str_at (k := 2 * k + 1) h2
      cases e
      have hsn := take_snocP fs k hlt
      rw [hf] at hsn
      have hlen : (fs.take k).length ≤ 1000000000 := by rw [List.length_take]; omega
      generalize ls[2 * k] = x at *
      generalize ls[2 * k + 1] = y at *
      obtain ⟨j, hj⟩ : ∃ j, 2 * k = j := ⟨_, rfl⟩
      rw [hj] at h1 h2 c0 c1 ⊢
      have HJ := Lib.hid hj
      have hjn : 2 * (k + 1) = j + 2 := by omega
      have HJN := Lib.hid hjn
      have hmeas : j + 1 ≤ 2 * fs.length := by omega
      clear hj hjn
      have kc : ∀ w', Below w.heap.size w w' → w'.cell? ⟨b, o + j, none⟩ = some (.string ⟨x.toArray⟩) ∧ w'.cell? ⟨b, o + (j + 1), none⟩ = some (.string ⟨y.toArray⟩) ∧ Below w.heap.size w w' := fun w' h => ⟨(h.cell (p := ⟨b, o + j, none⟩) hl).trans c0, (h.cell (p := ⟨b, o + (j + 1), none⟩) hl).trans c1, h⟩
      have KC := Lib.hid kc; have Hsn := Lib.hid hsn; clear kc c0 c1 hsn hf
      go_wp2_with fail
      have j0 : (0 : Int) ≤ (j : Int) := by omega
      have j1 : (j : Int) < (ls.length : Int) := by omega
      have j2 : IntKind.i64.wrap ((j : Int) + 1) = (j : Int) + 1 := IntWalk.i64_in _ (by omega)
      have j3 : (0 : Int) ≤ (j : Int) + 1 := by omega
      have j4 : (j : Int) + 1 < (ls.length : Int) := by omega
      have j5 : ((j : Int) + 1).toNat = j + 1 := by omega
      go_region_held3 (fun w' => w'.cell? ⟨b, o + j, none⟩ = some (.string ⟨x.toArray⟩) ∧ w'.cell? ⟨b, o + (j + 1), none⟩ = some (.string ⟨y.toArray⟩) ∧ Below w.heap.size w w') (first | exact KC.out _ hbw | exact KC.out _ hbw.drew | exact KC.out _ (hbw.drew.alloc hbw.size _) | exact KC.out _ hb5 | assumption) (first | (refine step_fld w.heap.size (x, y) HO.out.drew hbw.size hlen rfl _ _ rfl rfl rfl ?_; intro v' w3 hO3 hb4 _; have hb5 := hbw.drew.trans hb4) | fail)
      have HO3 : Hid (OwnF w.heap.size v' (fs.take (k + 1)) w3) := by rw [Hsn.out]; exact Lib.hid hO3
      clear hO3 j0 j1 j2 j3 j4 j5
      go_wp2
      go_roundw
      case rel => exact ⟨k + 1, by omega, by rw [HJN.out]; go_num, HO3, hb5⟩
      case measure => simp [intOf]; omega
    · have hke : k = fs.length := by omega
      subst hke
      have ho := HO.out
      rw [List.take_length] at ho
      obtain ⟨la, lc, rfl⟩ := ho.shape
      have HO1 := Lib.hid ho; clear ho HO
      go_wp2
      go_ret
      exact ⟨la, lc, rfl, HO1.out, hbw⟩
end Go.Proofs.YtcgdcbnhpbokfaaGreatDoor
/- The walks of the law's may, works (layer 16; printed by wip/tools/known16.py). -/
namespace Go.Proofs.YtcgdcbnhpbokfaaGreatDoor
open Go.RowKit
set_option maxRecDepth 100000

def smallP (ls : List (List UInt8)) : Bool := decide (ls.length ≤ 100) && decide (sumF (ofP ls) ≤ 7500)
set_option maxHeartbeats 4000000 in
theorem may16_any (A : Option Addr) (n c : Nat) (ls : List (List UInt8)) (w : World) (b : Bool) (hE : DEnv w) (hr : Rd A n 1 (strsV ls) w) (hs : smallP ls = true) (hb : mayF mGET [] 200 (ofP ls) 100 [100] = b) :
    Calls Tryz.prog 30 #[.slice A n c] w fun e w' => e = .returned (.bool b) ∧ Below w.heap.size w w' := by
  unfold smallP at hs
  rw [Bool.and_eq_true, decide_eq_true_eq, decide_eq_true_eq] at hs
  have hn := hr.str
  have k1 := of16_any A n c ls w hr (by omega)
  have hlen := ofP_len ls
  have k2 := fun a c' W (hb' : Below w.heap.size w W) (h : Rd a (ofP ls).length 2 (fldsV (ofP ls)) W) => stMay_any ⟨#[71, 69, 84]⟩ ⟨#[100]⟩ none 0 0 [] 200 0 100 100 ⟨#[]⟩ ⟨#[]⟩ a none (ofP ls).length c' 0 0 (ofP ls) W (hE.below hb') Rd.nil (by decide) (by decide) h (by omega) hs.2 (by decide)
  rw [show mayF (⟨#[71, 69, 84]⟩ : ByteArray).data.toList [] 200 (ofP ls) 100 (⟨#[100]⟩ : ByteArray).data.toList = b from hb] at k2
  generalize ofP ls = fs at *
  unfold entV FieldsPost at *
  have K1 := Lib.hid k1; have K2 := Lib.hid k2
  clear k1 k2 hb hr hs hlen hE hn
  go_enter Tryz.func30, Tryz.ntmps30
  go_wp2_with fail
  (with_reducible refine K1.out.mono ?_)
  rintro e w1 ⟨a, c', rfl, ho, hb1⟩
  have R1 := Lib.hid (OwnF.rd ho).2
  clear ho
  go_wp2_with fail
  (with_reducible refine (K2.out _ _ _ hb1 R1.out).mono ?_)
  rintro e w2 ⟨rfl, hb2⟩
  go_wp2
  go_ret
  exact ⟨rfl, bt hb1 hb2⟩
theorem may16_new (ls : List (List UInt8)) (w : World) (b : Bool) (hE : DEnv w) (hs : smallP ls = true) (hb : mayF mGET [] 200 (ofP ls) 100 [100] = b) :
    Calls Tryz.prog 30 #[.slice (some ⟨w.heap.size, 0, none⟩) ls.length ls.length] (w.alloc (.cells (strsV ls).toArray 9)) fun e w' => e = .returned (.bool b) ∧ Below w.heap.size w w' :=
  (may16_any _ _ _ ls _ b (hE.below ((Below.refl w.heap.size w).alloc (Nat.le_refl _) _)) (Rd.newL w ls 9) hs hb).mono fun _ _ ⟨h1, h2⟩ => ⟨h1, ((Below.refl w.heap.size w).alloc (Nat.le_refl _) _).trans (h2.mono (by simp))⟩
theorem mk16_0 (w : World) (hE : DEnv w) : Calls Tryz.prog 30 #[.slice (some ⟨w.heap.size, 0, none⟩) 2 2] (w.alloc (.cells #[.string ⟨#[99, 97, 99, 104, 101, 45, 99, 111, 110, 116, 114, 111, 108]⟩, .string ⟨#[109, 97, 120, 45, 97, 103, 101, 61, 53]⟩] 9)) fun e w' => e = .returned (.bool true) ∧ Below w.heap.size w w' :=
  may16_new [[99, 97, 99, 104, 101, 45, 99, 111, 110, 116, 114, 111, 108], [109, 97, 120, 45, 97, 103, 101, 61, 53]] w true hE (by kernel_rfl) (by kernel_rfl)
theorem mk16_1 (w : World) (hE : DEnv w) : Calls Tryz.prog 30 #[.slice (some ⟨w.heap.size, 0, none⟩) 2 2] (w.alloc (.cells #[.string ⟨#[99, 97, 99, 104, 101, 45, 99, 111, 110, 116, 114, 111, 108]⟩, .string ⟨#[109, 97, 120, 45, 97, 103, 101, 61, 53, 44, 32, 110, 111, 45, 115, 116, 111, 114, 101]⟩] 9)) fun e w' => e = .returned (.bool false) ∧ Below w.heap.size w w' :=
  may16_new [[99, 97, 99, 104, 101, 45, 99, 111, 110, 116, 114, 111, 108], [109, 97, 120, 45, 97, 103, 101, 61, 53, 44, 32, 110, 111, 45, 115, 116, 111, 114, 101]] w false hE (by kernel_rfl) (by kernel_rfl)
theorem mk16_nil (w : World) (hE : DEnv w) : Calls Tryz.prog 30 #[.slice none 0 0] w fun e w' => e = .returned (.bool false) ∧ Below w.heap.size w w' :=
  may16_any none 0 0 [] w false hE Rd.nil (by kernel_rfl) (by kernel_rfl)
set_option maxHeartbeats 8000000 in
theorem works16_any (w0 : World) (hE : DEnv w0) :
    Calls Tryz.prog 24 #[] w0 fun e w' => e = .returned (.bool true) ∧ Below w0.heap.size w0 w' := by
  have HB0 := Lib.hid (Below.refl w0.heap.size w0)
  go_enter Tryz.func24, Tryz.ntmps24
  have kk := mk16_0 w0 (hE.below HB0.out)
  have KK := Lib.hid kk
  clear kk
  go_wp2_with fail
  (with_reducible refine KK.out.mono ?_)
  rintro e w1 ⟨rfl, hb⟩
  have HB1 := Lib.hid (bt HB0.out hb)
  clear hb KK HB0
  have kk := mk16_1 w1 (hE.below HB1.out)
  have KK := Lib.hid kk
  clear kk
  go_wp2_with fail
  (with_reducible refine KK.out.mono ?_)
  rintro e w2 ⟨rfl, hb⟩
  have HB2 := Lib.hid (bt HB1.out hb)
  clear hb KK HB1
  have kk := mk16_nil w2 (hE.below HB2.out)
  have KK := Lib.hid kk
  clear kk
  go_wp2_with fail
  (with_reducible refine KK.out.mono ?_)
  rintro e w3 ⟨rfl, hb⟩
  have HB3 := Lib.hid (bt HB2.out hb)
  clear hb KK HB2
  go_wp2
  go_ret
  exact ⟨rfl, HB3.out⟩
end Go.Proofs.YtcgdcbnhpbokfaaGreatDoor
/- The walk of the law's without (layer 13). -/
namespace Go.Proofs.YtcgdcbnhpbokfaaGreatDoor
open Go.RowKit
set_option maxRecDepth 100000

theorem set8_ownW {w : World} {E B : Nat} {v : Value} {fs : List Fld} {v0 v1 v2 v3 v4 v5 v6 v7 : Value} (hl : E < B) (h : OwnF B v fs w) : OwnF B v fs (set8 w E v0 v1 v2 v3 v4 v5 v6 v7) := by
  unfold set8
  exact ownsRow_setCell_below (a := ⟨E, 7, none⟩) (ownsRow_setCell_below (a := ⟨E, 6, none⟩) (ownsRow_setCell_below (a := ⟨E, 5, none⟩) (ownsRow_setCell_below (a := ⟨E, 4, none⟩) (ownsRow_setCell_below (a := ⟨E, 3, none⟩) (ownsRow_setCell_below (a := ⟨E, 2, none⟩) (ownsRow_setCell_below (a := ⟨E, 1, none⟩) (ownsRow_setCell_below (a := ⟨E, 0, none⟩) h hl _) hl _) hl _) hl _) hl _) hl _) hl _) hl _
theorem set8_belowW {B : Nat} {w w1 : World} {E : Nat} {v0 v1 v2 v3 v4 v5 v6 v7 : Value} (hl : B ≤ E) (h : Below B w w1) : Below B w (set8 w1 E v0 v1 v2 v3 v4 v5 v6 v7) := by
  unfold set8
  exact (((((((h.setCell (p := ⟨E, 0, none⟩) hl _).setCell (p := ⟨E, 1, none⟩) hl _).setCell (p := ⟨E, 2, none⟩) hl _).setCell (p := ⟨E, 3, none⟩) hl _).setCell (p := ⟨E, 4, none⟩) hl _).setCell (p := ⟨E, 5, none⟩) hl _).setCell (p := ⟨E, 6, none⟩) hl _).setCell (p := ⟨E, 7, none⟩) hl _
def othP (nm : List UInt8) (f : Fld) : Bool := !(lowerL f.1 == lowerL nm)
end Go.Proofs.YtcgdcbnhpbokfaaGreatDoor
/- The law's with (layer 16): an entry with a field more (printed by wip/tools/with16.py). -/
namespace Go.Proofs.YtcgdcbnhpbokfaaGreatDoor
open Go.RowKit
set_option maxRecDepth 100000

theorem EntAt.froz {b : Nat} {st : Int} {re : ByteArray} {mi : Int} {A : Option Addr} {n c : Nat} {bo : ByteArray} {asked got : Int} {V : Option Addr} {m d : Nat} {w : World} (h : EntAt b st re mi A n c bo asked got V m d w) (j : Nat) : w.frozen? ⟨b, j, none⟩ = false := (of_heap h j).2.1
theorem EntAt.set3 {b : Nat} {st : Int} {re : ByteArray} {mi : Int} {A : Option Addr} {n c : Nat} {bo : ByteArray} {asked got : Int} {V : Option Addr} {m d : Nat} {w : World} (h : EntAt b st re mi A n c bo asked got V m d w) (A' : Option Addr) (n' c' : Nat) : EntAt b st re mi A' n' c' bo asked got V m d (w.setCell ⟨b, 3, none⟩ (.slice A' n' c')) := by
  unfold EntAt at *
  have := heap_setN (j := 3) (v := .slice A' n' c') h
  simpa using this
set_option maxHeartbeats 16000000 in
theorem with16_any (st mi asked got : Int) (re bo : ByteArray) (A V : Option Addr) (n c m d : Nat) (xs : List Fld) (f1 f2 : List UInt8) (w : World) (hr : Rd A n 2 (fldsV xs) w) (hn : n ≤ 1000) :
    Calls Tryz.prog 27 #[.agg #[.int .i64 st, .string re, .int .i64 mi, .slice A n c, .string bo, .int .i64 asked, .int .i64 got, .slice V m d], .agg #[.string ⟨f1.toArray⟩, .string ⟨f2.toArray⟩]] w fun e w' => ∃ a c', e = .returned (.agg #[.int .i64 st, .string re, .int .i64 mi, .slice a (n + 1) c', .string bo, .int .i64 asked, .int .i64 got, .slice V m d]) ∧ OwnF w.heap.size (.slice a (n + 1) c') (xs ++ [(f1, f2)]) w' ∧ Below w.heap.size w w' := by
  obtain rfl := hr.fld
  obtain ⟨W1, hW1⟩ : ∃ W, w.alloc (.cells #[.int .i64 st, .string re, .int .i64 mi, .slice A xs.length c, .string bo, .int .i64 asked, .int .i64 got, .slice V m d] 30) = W := ⟨_, rfl⟩
  have b1 : Below w.heap.size w W1 := by rw [← hW1]; exact (Below.refl w.heap.size w).alloc (Nat.le_refl _) _
  have z1 : W1.heap.size = w.heap.size + 1 := by rw [← hW1]; simp
  have x1 : EntAt w.heap.size st re mi A xs.length c bo asked got V m d W1 := by rw [← hW1]; exact heap_new w _ _ rfl
  obtain ⟨W2, hW2⟩ : ∃ W, W1.alloc (.cells #[.string ⟨f1.toArray⟩, .string ⟨f2.toArray⟩] 44) = W := ⟨_, rfl⟩
  have b2 : Below W1.heap.size W1 W2 := by rw [← hW2]; exact (Below.refl W1.heap.size W1).alloc (Nat.le_refl _) _
  have z2 : W2.heap.size = w.heap.size + 2 := by rw [← hW2]; simp [z1]
  have x2 : W2.heap[w.heap.size + 1]? = some (.cells #[.string ⟨f1.toArray⟩, .string ⟨f2.toArray⟩] 44 (0, 0)) := by rw [← hW2]; exact heap_new W1 _ _ z1
  obtain ⟨W3, hW3⟩ : ∃ W, W2.alloc (.cells #[.int .i64 0, .string ⟨#[]⟩, .int .i64 0, .slice none 0 0, .string ⟨#[]⟩, .int .i64 0, .int .i64 0, .slice none 0 0] 30) = W := ⟨_, rfl⟩
  have b3 : Below W2.heap.size W2 W3 := by rw [← hW3]; exact (Below.refl W2.heap.size W2).alloc (Nat.le_refl _) _
  have z3 : W3.heap.size = w.heap.size + 3 := by rw [← hW3]; simp [z2]
  have x3 : EntAt (w.heap.size + 2) 0 ⟨#[]⟩ 0 none 0 0 ⟨#[]⟩ 0 0 none 0 0 W3 := by rw [← hW3]; exact heap_new W2 _ _ z2
  obtain ⟨W4, hW4⟩ : ∃ W, W3.alloc (.cells #[.int .i64 st, .string re, .int .i64 mi, .slice none 0 0, .string bo, .int .i64 asked, .int .i64 got, .slice V m d] 30) = W := ⟨_, rfl⟩
  have b4 : Below W3.heap.size W3 W4 := by rw [← hW4]; exact (Below.refl W3.heap.size W3).alloc (Nat.le_refl _) _
  have z4 : W4.heap.size = w.heap.size + 4 := by rw [← hW4]; simp [z3]
  have x4 : EntAt (w.heap.size + 3) st re mi none 0 0 bo asked got V m d W4 := by rw [← hW4]; exact heap_new W3 _ _ z3
  have hWW : (((w.alloc (.cells #[.int .i64 st, .string re, .int .i64 mi, .slice A xs.length c, .string bo, .int .i64 asked, .int .i64 got, .slice V m d] 30)).alloc (.cells #[.string ⟨f1.toArray⟩, .string ⟨f2.toArray⟩] 44)).alloc (.cells #[.int .i64 0, .string ⟨#[]⟩, .int .i64 0, .slice none 0 0, .string ⟨#[]⟩, .int .i64 0, .int .i64 0, .slice none 0 0] 30)).alloc (.cells #[.int .i64 st, .string re, .int .i64 mi, .slice none 0 0, .string bo, .int .i64 asked, .int .i64 got, .slice V m d] 30) = W4 := by rw [hW1, hW2, hW3, hW4]
  have y1 := ((x1.below b2).below b3).below b4
  have y2 := (b4.block (w.heap.size + 1) (by omega)).trans ((b3.block (w.heap.size + 1) (by omega)).trans x2)
  have y3 := x3.below b4
  have hB4 : Below w.heap.size w W4 := bt (bt (bt b1 b2) b3) b4
  have HWW := Lib.hid hWW; have Y2 := Lib.hid y2; have Y3 := Lib.hid y3; have X4 := Lib.hid x4; have HB4 := Lib.hid hB4; have HR4 := Lib.hid (hr.below hB4); have Z4 := Lib.hid z4
  have hz : ([] : List Fld).length + xs.length ≤ 1000000000 := by simp; omega
  have hO4 : w.heap.size + 3 < W4.heap.size := by omega
  have c3 := y1.cells.2.2.2.1
  have k3 := x4.cells.2.2.2.1
  clear hW1 hW2 hW3 hW4 b1 b2 b3 b4 z1 z2 z3 z4 x1 x2 x3 x4 y1 y2 y3 hWW hB4 hr
  go_enter Tryz.func27, Tryz.ntmps27
  go_upto_region 3 with (fail)
  rw [HWW.out]
  go_wp2_with (at_builtin; refine app_flds W4.heap.size (OwnF.nil _ _) (Nat.le_refl _) HR4.out hz rfl _ _ rfl rfl rfl ?_)
  intro v5 w5 hO5 hb5 _
  have hO5' : OwnF W4.heap.size v5 xs w5 := hO5
  obtain ⟨a5, c5, rfl⟩ := OwnF.shape hO5'
  have x5 := X4.out.below hb5
  have k5 := x5.cells.2.2.2.1
  have q5 := x5.froz 3
  have hb6 : Below (w.heap.size + 3) W4 (w5.setCell ⟨w.heap.size + 3, 3, none⟩ (.slice a5 xs.length c5)) := (hb5.mono (Nat.le_of_lt hO4)).setCell (p := ⟨w.heap.size + 3, 3, none⟩) (Nat.le_refl _) _
  have x6 := x5.set3 a5 xs.length c5
  have o6 : OwnF W4.heap.size (.slice a5 xs.length c5) xs (w5.setCell ⟨w.heap.size + 3, 3, none⟩ (.slice a5 xs.length c5)) := ownsRow_setCell_below (a := ⟨w.heap.size + 3, 3, none⟩) hO5' hO4 _
  obtain ⟨W6, hW6⟩ : ∃ W, w5.setCell ⟨w.heap.size + 3, 3, none⟩ (.slice a5 xs.length c5) = W := ⟨_, rfl⟩
  rw [hW6] at hb6 x6 o6
  have HB6 := Lib.hid hb6; have X6 := Lib.hid x6; have O6 := Lib.hid o6; have HW6 := Lib.hid hW6
  have f6 := (hb6.block (w.heap.size + 1) (by omega)).trans Y2.out
  have g0 := (of_heap f6 0).1; have g1 := (of_heap f6 1).1
  simp only [List.getElem?_toArray, List.getElem?_cons_succ, List.getElem?_cons_zero] at g0 g1
  have k6 := x6.cells.2.2.2.1
  have hs6 : W4.heap.size ≤ W6.heap.size := hb6.size
  have hn6 : xs.length ≤ 1000000000 := by omega
  clear hO5 hO5' x5 hb6 x6 o6 hW6 f6 c3 k3 hb5 X4
  go_upto_region 4 with (fail)
  rw [HW6.out]
  clear k5 q5
  go_wp2_with (at_builtin; refine app_fld W4.heap.size (f1, f2) O6.out hs6 hn6 rfl _ _ rfl rfl rfl ?_)
  intro v7 w7 hO7 hb7 _
  obtain ⟨a7, c7, rfl⟩ := OwnF.shape hO7
  have hb7' : Below (w.heap.size + 3) W4 w7 := HB6.out.trans (hb7.mono (Nat.le_of_lt hO4))
  have x7 : EntAt (w.heap.size + 3) st re mi a5 xs.length c5 bo asked got V m d w7 := (hb7.block (w.heap.size + 3) hO4).trans X6.out
  have k7 := x7.cells.2.2.2.1
  have q7 := x7.froz 3
  have x8 := x7.set3 a7 (xs ++ [(f1, f2)]).length c7
  have o8 : OwnF W4.heap.size (.slice a7 (xs ++ [(f1, f2)]).length c7) (xs ++ [(f1, f2)]) (w7.setCell ⟨w.heap.size + 3, 3, none⟩ (.slice a7 (xs ++ [(f1, f2)]).length c7)) := ownsRow_setCell_below (a := ⟨w.heap.size + 3, 3, none⟩) hO7 hO4 _
  have hb8 : Below (w.heap.size + 3) W4 (w7.setCell ⟨w.heap.size + 3, 3, none⟩ (.slice a7 (xs ++ [(f1, f2)]).length c7)) := hb7'.setCell (p := ⟨w.heap.size + 3, 3, none⟩) (Nat.le_refl _) _
  have hln : (xs ++ [(f1, f2)]).length = xs.length + 1 := by simp
  rw [hln] at x8 o8 hb8
  obtain ⟨W8, hW8⟩ : ∃ W, w7.setCell ⟨w.heap.size + 3, 3, none⟩ (.slice a7 (xs.length + 1) c7) = W := ⟨_, rfl⟩
  rw [hW8] at x8 o8 hb8
  have y8 := (hb8.block (w.heap.size + 2) (by omega)).trans Y3.out
  have HW8 := Lib.hid hW8; have O8 := Lib.hid o8; have HB8 := Lib.hid (HB4.out.trans (hb8.mono (by omega)))
  obtain ⟨e0, e1, e2, e3, e4, e5, e6, e7, _⟩ := x8.cells
  obtain ⟨d0, d1, d2, d3, d4, d5, d6, d7, _⟩ := EntAt.cells y8
  have l0 := EntAt.froz y8 0; have l1 := EntAt.froz y8 1; have l2 := EntAt.froz y8 2; have l3 := EntAt.froz y8 3; have l4 := EntAt.froz y8 4; have l5 := EntAt.froz y8 5; have l6 := EntAt.froz y8 6; have l7 := EntAt.froz y8 7
  clear hO7 hb7 hb7' x7 x8 o8 hb8 hW8 X6 O6 HB6 Y2 Y3 g0 g1 k6 y8 hln
  go_upto_region 5 with (fail)
  rw [HW8.out]
  clear k7 q7
  go_wp2_with fail
  refine bodyPost_ret_by (v := .agg #[.int .i64 st, .string re, .int .i64 mi, .slice a7 (xs.length + 1) c7, .string bo, .int .i64 asked, .int .i64 got, .slice V m d]) ?_ rfl ?_
  · rw [results_cell_one rfl]
    go_simp
  · refine ⟨a7, c7, rfl, ?_, set8_belowW (by omega) HB8.out⟩
    exact OwnF.base (set8_ownW (by omega) O8.out) (by omega)
end Go.Proofs.YtcgdcbnhpbokfaaGreatDoor
/- StorableOnly: the walk of the law (printed by wip/tools/storonly.py). -/
namespace Go.Proofs.YtcgdcbnhpbokfaaGreatDoor
open Go.RowKit Go.ChangeShapes Go.WideShapes
set_option maxRecDepth 100000

theorem EntAt.set4 {b : Nat} {st : Int} {re : ByteArray} {mi : Int} {A : Option Addr} {n c : Nat} {bo : ByteArray} {asked got : Int} {V : Option Addr} {m d : Nat} {w : World} (h : EntAt b st re mi A n c bo asked got V m d w) (bo' : ByteArray) : EntAt b st re mi A n c bo' asked got V m d (w.setCell ⟨b, 4, none⟩ (.string bo')) := by
  unfold EntAt at *
  have := heap_setN (j := 4) (v := .string bo') h
  simpa using this
theorem EntAt.set1 {b : Nat} {st : Int} {re : ByteArray} {mi : Int} {A : Option Addr} {n c : Nat} {bo : ByteArray} {asked got : Int} {V : Option Addr} {m d : Nat} {w : World} (h : EntAt b st re mi A n c bo asked got V m d w) (re' : ByteArray) : EntAt b st re' mi A n c bo asked got V m d (w.setCell ⟨b, 1, none⟩ (.string re')) := by
  unfold EntAt at *
  have := heap_setN (j := 1) (v := .string re') h
  simpa using this
theorem sumF_put (xs : List Fld) (f : Fld) : sumF (xs ++ [f]) = sumF xs + (f.1.length + f.2.length) := by
  unfold sumF
  simp
theorem newF16 (w : World) (a b : List UInt8) (T : TypeId) : Rd (some ⟨w.heap.size, 0, none⟩) 1 2 (fldsV [(a, b)]) (w.alloc (.cells #[.string ⟨a.toArray⟩, .string ⟨b.toArray⟩] T)) := by
  refine ⟨rfl, fun _ => ⟨w.heap.size, 0, rfl, by simp, fun j u hu => ?_⟩⟩
  rw [Nat.zero_add, World.cell?_alloc_mark]
  match j, hu with
  | 0, hu => exact hu
  | 1, hu => exact hu
set_option maxHeartbeats 64000000 in
theorem storableOnly_any (me dev : ByteArray) (QA : Option Addr) (qn qc : Nat) (qs : List Fld) (st mi asked got : Int) (re bo : ByteArray) (A V : Option Addr) (n c m d : Nat) (xs : List Fld) (f1 f2 : List UInt8) (w : World) (hE : DEnv w) (hq : Rd QA qn 2 (fldsV qs) w) (hqn : qn ≤ 140737488355328) (hqs : ∀ f ∈ qs, f.1.length ≤ 140737488355328 ∧ f.2.length ≤ 140737488355328) (hr : Rd A n 2 (fldsV xs) w) (hn : n ≤ 140737488355328) (hs : ∀ f ∈ xs, f.1.length ≤ 140737488355328 ∧ f.2.length ≤ 140737488355328) (hbo : bo.size ≤ 140737488355328) (hg : -9223372036854775808 ≤ got ∧ got ≤ 9223372036854775807) :
    Calls Tryz.prog 7 #[.agg #[.string me, .string dev, .slice QA qn qc], entV st re mi A n c bo asked got V m d, .agg #[.string ⟨f1.toArray⟩, .string ⟨f2.toArray⟩]] w fun e w' => e = .returned (.bool true) ∧ Below w.heap.size w w' := by
  obtain ⟨W1, hW1⟩ : ∃ W, w.alloc (.cells #[.string me, .string dev, .slice QA qn qc] 40) = W := ⟨_, rfl⟩
  have b1 : Below w.heap.size w W1 := by rw [← hW1]; exact (Below.refl w.heap.size w).alloc (Nat.le_refl _) _
  have z1 : W1.heap.size = w.heap.size + 1 := by rw [← hW1]; simp
  have x1 : W1.heap[w.heap.size]? = some (.cells #[.string me, .string dev, .slice QA qn qc] 40 (0, 0)) := by rw [← hW1]; exact heap_new w _ _ rfl
  obtain ⟨W2, hW2⟩ : ∃ W, W1.alloc (.cells #[.int .i64 st, .string re, .int .i64 mi, .slice A n c, .string bo, .int .i64 asked, .int .i64 got, .slice V m d] 30) = W := ⟨_, rfl⟩
  have b2 : Below W1.heap.size W1 W2 := by rw [← hW2]; exact (Below.refl W1.heap.size W1).alloc (Nat.le_refl _) _
  have z2 : W2.heap.size = w.heap.size + 2 := by rw [← hW2]; simp [z1]
  have x2 : EntAt (w.heap.size + 1) st re mi A n c bo asked got V m d W2 := by rw [← hW2]; exact heap_new W1 _ _ z1
  have x1 := (b2.block w.heap.size (by omega)).trans x1
  obtain ⟨W3, hW3⟩ : ∃ W, W2.alloc (.cells #[.string ⟨f1.toArray⟩, .string ⟨f2.toArray⟩] 44) = W := ⟨_, rfl⟩
  have b3 : Below W2.heap.size W2 W3 := by rw [← hW3]; exact (Below.refl W2.heap.size W2).alloc (Nat.le_refl _) _
  have z3 : W3.heap.size = w.heap.size + 3 := by rw [← hW3]; simp [z2]
  have x3 : W3.heap[w.heap.size + 2]? = some (.cells #[.string ⟨f1.toArray⟩, .string ⟨f2.toArray⟩] 44 (0, 0)) := by rw [← hW3]; exact heap_new W2 _ _ z2
  have x1 := (b3.block w.heap.size (by omega)).trans x1
  have x2 := x2.below b3
  have hB3 := bt (bt b1 b2) b3
  have hWW : ((w.alloc (.cells #[.string me, .string dev, .slice QA qn qc] 40)).alloc (.cells #[.int .i64 st, .string re, .int .i64 mi, .slice A n c, .string bo, .int .i64 asked, .int .i64 got, .slice V m d] 30)).alloc (.cells #[.string ⟨f1.toArray⟩, .string ⟨f2.toArray⟩] 44) = W3 := by rw [hW1, hW2]; exact hW3
  have kc : ∀ w', Below W3.heap.size W3 w' → w'.cell? ⟨w.heap.size, 0, none⟩ = some (.string me) ∧ w'.cell? ⟨w.heap.size, 1, none⟩ = some (.string dev) ∧ w'.cell? ⟨w.heap.size, 2, none⟩ = some (.slice QA qn qc) ∧ w'.cell? ⟨w.heap.size + 1, 0, none⟩ = some (.int .i64 st) ∧ w'.cell? ⟨w.heap.size + 1, 1, none⟩ = some (.string re) ∧ w'.cell? ⟨w.heap.size + 1, 2, none⟩ = some (.int .i64 mi) ∧ w'.cell? ⟨w.heap.size + 1, 3, none⟩ = some (.slice A n c) ∧ w'.cell? ⟨w.heap.size + 1, 4, none⟩ = some (.string bo) ∧ w'.cell? ⟨w.heap.size + 1, 5, none⟩ = some (.int .i64 asked) ∧ w'.cell? ⟨w.heap.size + 1, 6, none⟩ = some (.int .i64 got) ∧ w'.cell? ⟨w.heap.size + 1, 7, none⟩ = some (.slice V m d) ∧ w'.cell? ⟨w.heap.size + 2, 0, none⟩ = some (.string ⟨f1.toArray⟩) ∧ w'.cell? ⟨w.heap.size + 2, 1, none⟩ = some (.string ⟨f2.toArray⟩) ∧ Below W3.heap.size W3 w' := fun w' hb => by
    obtain ⟨a0, a1, a2, a3, a4, a5, a6, a7, _⟩ := (x2.below hb).cells
    have yr := (hb.block w.heap.size (by omega)).trans x1
    have yf := (hb.block (w.heap.size + 2) (by omega)).trans x3
    have q0 := (of_heap yr 0).1; have q1 := (of_heap yr 1).1; have q2 := (of_heap yr 2).1
    have g0 := (of_heap yf 0).1; have g1 := (of_heap yf 1).1
    simp only [List.getElem?_toArray, List.getElem?_cons_succ, List.getElem?_cons_zero] at q0 q1 q2 g0 g1
    exact ⟨q0, q1, q2, a0, a1, a2, a3, a4, a5, a6, a7, g0, g1, hb⟩
  obtain ⟨fq, hfq⟩ : ∃ b, few16 qs = b := ⟨_, rfl⟩
  obtain ⟨fx, hfx⟩ : ∃ b, few16 xs = b := ⟨_, rfl⟩
  obtain ⟨bm, hbm⟩ : ∃ b, decide ((me.size : Int) > 300) = b := ⟨_, rfl⟩
  obtain ⟨bd, hbd⟩ : ∃ b, decide ((dev.size : Int) > 300) = b := ⟨_, rfl⟩
  obtain ⟨bf, hbf⟩ : ∃ b, decide ((f1.length : Int) > 300) = b := ⟨_, rfl⟩
  obtain ⟨bg, hbg⟩ : ∃ b, decide ((f2.length : Int) > 300) = b := ⟨_, rfl⟩
  have kq := fun W (hb : Below W3.heap.size W3 W) => few16_any QA qn qc qs W ((hq.below hB3).below hb) hqn hqs
  have kx := fun W (hb : Below W3.heap.size W3 W) => few16_any A n c xs W ((hr.below hB3).below hb) hn hs
  rw [hfq] at kq
  rw [hfx] at kx
  have HA := Lib.hid (fun W (hb : Below W3.heap.size W3 W) => works16_any W ((hE.below hB3).below hb))
  have KC := Lib.hid kc; have KQ := Lib.hid kq; have KX := Lib.hid kx; have HWW := Lib.hid hWW; have HB3 := Lib.hid hB3; have HFQ := Lib.hid hfq; have HFX := Lib.hid hfx; have HBM := Lib.hid hbm; have HBD := Lib.hid hbd; have HBF := Lib.hid hbf; have HBG := Lib.hid hbg
  have HQ := Lib.hid (hq.below hB3); have HR := Lib.hid (hr.below hB3); have HE := Lib.hid (hE.below hB3); have HG := Lib.hid hg; have HBO := Lib.hid hbo; have HZ3 := Lib.hid z3
  clear kc kq kx hWW hB3 hfq hfx hbm hbd hbf hbg hq hr hE hg hW1 hW2 hW3 b1 b2 b3 z1 z2 z3 x1 x2 x3 hqs hs hqn hn hbo
  unfold entV at *
  go_enter Tryz.func7, Tryz.ntmps7
  go_upto_region 1 with (fail)
  rw [HWW.out]
  go_cut [50] (fun sc wx => sc = .bool (!fq || !fx || bm || bd || bf || bg) ∧ Below W3.heap.size W3 wx)
  case first =>
    obtain ⟨d0, d1, d2, c0, c1, c2, c3, c4, c5, c6, c7, r0, r1, _⟩ := KC.out _ (Below.refl _ _)
    cases h1 : fq
    · rw [h1] at KQ
      go_wp2_with fail
      (with_reducible refine (KQ.out _ (Below.refl _ _)).mono ?_)
      rintro e y1 ⟨rfl, hy1⟩
      clear d0 d1 d2 c0 c1 c2 c3 c4 c5 c6 c7 r0 r1
      go_wp2
      go_meet
      exact ⟨by rw [h1]; rfl, hy1⟩
    rw [h1] at KQ
    go_wp2_with fail
    (with_reducible refine (KQ.out _ (Below.refl _ _)).mono ?_)
    rintro e y1 ⟨rfl, hy1⟩
    clear d0 d1 d2 c0 c1 c2 c3 c4 c5 c6 c7 r0 r1
    obtain ⟨d0, d1, d2, c0, c1, c2, c3, c4, c5, c6, c7, r0, r1, _⟩ := KC.out _ hy1
    cases h2 : fx
    · rw [h2] at KX
      go_wp2_with fail
      (with_reducible refine (KX.out _ hy1).mono ?_)
      rintro e y2 ⟨rfl, hy2⟩
      clear d0 d1 d2 c0 c1 c2 c3 c4 c5 c6 c7 r0 r1
      go_wp2
      go_meet
      exact ⟨by rw [h1, h2]; rfl, bt hy1 hy2⟩
    rw [h2] at KX
    go_wp2_with fail
    (with_reducible refine (KX.out _ hy1).mono ?_)
    rintro e y2 ⟨rfl, hy2⟩
    have hy := bt hy1 hy2
    clear hy1 hy2
    clear d0 d1 d2 c0 c1 c2 c3 c4 c5 c6 c7 r0 r1
    obtain ⟨d0, d1, d2, c0, c1, c2, c3, c4, c5, c6, c7, r0, r1, _⟩ := KC.out _ hy
    have t1 := HBM.out
    have t2 := HBD.out
    have t3 := HBF.out
    have t4 := HBG.out
    cases h3 : bm
    rotate_left
    · rw [h3] at t1
      clear t2 t3 t4
      go_wp2
      go_meet
      exact ⟨by rw [h1, h2, h3]; rfl, hy⟩
    rw [h3] at t1
    cases h4 : bd
    rotate_left
    · rw [h4] at t2
      clear t3 t4
      go_wp2
      go_meet
      exact ⟨by rw [h1, h2, h3, h4]; rfl, hy⟩
    rw [h4] at t2
    cases h5 : bf
    rotate_left
    · rw [h5] at t3
      clear t4
      go_wp2
      go_meet
      exact ⟨by rw [h1, h2, h3, h4, h5]; rfl, hy⟩
    rw [h5] at t3
    cases h6 : bg
    · rw [h6] at t4
      go_wp2
      go_meet
      exact ⟨by rw [h1, h2, h3, h4, h5, h6]; rfl, hy⟩
    · rw [h6] at t4
      go_wp2
      go_meet
      exact ⟨by rw [h1, h2, h3, h4, h5, h6]; rfl, hy⟩
  case rest =>
    obtain ⟨rfl, hcb⟩ := hcut
    obtain ⟨p, hp⟩ : ∃ p, (!fq || !fx || bm || bd || bf || bg) = p := ⟨_, rfl⟩
    rw [hp]
    cases p
    rotate_left
    · clear hp
      go_wp2_with fail
      (with_reducible refine (HA.out _ hcb).mono ?_)
      rintro e w2 ⟨rfl, hb2⟩
      go_wp2
      go_ret
      exact ⟨rfl, bt HB3.out (bt hcb hb2)⟩
    have e1 : fq = true := by revert hp; cases fq <;> simp
    have e2 : fx = true := by revert hp; cases fx <;> simp
    have e3 : bf = false := by revert hp; cases bf <;> simp
    have e4 : bg = false := by revert hp; cases bg <;> simp
    have l5 : f1.length ≤ 300 := by have := HBF.out; rw [e3] at this; simp at this; omega
    have l6 : f2.length ≤ 300 := by have := HBG.out; rw [e4] at this; simp at this; omega
    obtain ⟨l1, l2⟩ := few16_yes (HFQ.out.trans e1)
    obtain ⟨l3, l4⟩ := few16_yes (HFX.out.trans e2)
    have hqf := HQ.out.fld; have hxf := HR.out.fld
    have km := fun (me' : ByteArray) (QA' : Option Addr) (qn' qc' : Nat) (qs' : List Fld) (re' bo' : ByteArray) (A' : Option Addr) (n' c' : Nat) (xs' : List Fld) W (hb : Below W3.heap.size W3 W) (hq' : Rd QA' qn' 2 (fldsV qs') W) (i1 : qn' ≤ 100) (i2 : sumF qs' ≤ 7500) (hr' : Rd A' n' 2 (fldsV xs') W) (i3 : n' ≤ 100) (i4 : sumF xs' ≤ 7500) => stMay_any me' dev QA' qn' qc' qs' st mi asked got re' bo' A' V n' c' m d xs' W (HE.out.below hb) hq' i1 i2 hr' i3 i4 HG.out
    unfold entV at km
    have k1 := fun W (hb : Below W3.heap.size W3 W) => km me QA qn qc qs re bo A n c xs W hb (HQ.out.below hb) (by omega) (by omega) (HR.out.below hb) (by omega) (by omega)
    have k2 := fun re' bo' W (hb : Below W3.heap.size W3 W) => km me QA qn qc qs re' bo' A n c xs W hb (HQ.out.below hb) (by omega) (by omega) (HR.out.below hb) (by omega) (by omega)
    have k3 := fun W (hb : Below W3.heap.size W3 W) => km me none 0 0 [] re bo A n c xs W hb Rd.nil (by omega) (by simp [sumF]) (HR.out.below hb) (by omega) (by omega)
    have k4 := fun W (hb : Below W3.heap.size W3 W) => km ⟨#[80, 79, 83, 84]⟩ QA qn qc qs re bo A n c xs W hb (HQ.out.below hb) (by omega) (by omega) (HR.out.below hb) (by omega) (by omega)
    rw [may_not (m := (⟨#[80, 79, 83, 84]⟩ : ByteArray).data.toList) _ _ _ _ _ (by decide)] at k4
    have k5 := fun (g1 g2 : List UInt8) (hl : g1.length + g2.length ≤ 600) a' c' W (hb : Below W3.heap.size W3 W) (h : Rd a' (n + 1) 2 (fldsV (xs ++ [(g1, g2)])) W) => km me QA qn qc qs re bo a' (n + 1) c' (xs ++ [(g1, g2)]) W hb (HQ.out.below hb) (by omega) (by omega) h (by omega) (by rw [sumF_put]; show sumF xs + (g1.length + g2.length) ≤ _; omega)
    have k6 := fun a' c' W (hb : Below W3.heap.size W3 W) (h : Rd a' (qn + 1) 2 (fldsV (qs ++ [vNoStore])) W) => km me a' (qn + 1) c' (qs ++ [vNoStore]) re bo A n c xs W hb h (by omega) (by rw [sumF_put]; have : vNoStore.1.length + vNoStore.2.length ≤ 100 := (by decide); omega) (HR.out.below hb) (by omega) (by omega)
    have hget : mayF me.data.toList qs st xs got dev.data.toList = true → (me.toList == [71, 69, 84]) = true := fun h => by rw [Lib.toList_data]; rw [may_get h]; rfl
    have hal : mayF me.data.toList qs st xs got dev.data.toList = true → mayF me.data.toList [] st xs got dev.data.toList = true := may_alone
    have h6 : mayF me.data.toList (qs ++ [vNoStore]) st xs got dev.data.toList = false := asked0 _ _ _ _ _ _
    have hoth : hasL counts7 f1 = false → mayF me.data.toList qs st (xs ++ [(f1, f2)]) got dev.data.toList = mayF me.data.toList qs st xs got dev.data.toList := fun h => may_other _ _ _ _ _ _ (f1, f2) h
    have hnv0 : mayF me.data.toList qs st (xs ++ [vNoStore]) got dev.data.toList = false := never0 _ _ _ _ _ _
    have hnv1 : mayF me.data.toList qs st (xs ++ [vPrivate]) got dev.data.toList = false := never1 _ _ _ _ _ _
    have hnv2 : (dev.data.toList = [] ∨ valuesL xs fSC = []) → mayF me.data.toList qs st (xs ++ [vSurNo]) got dev.data.toList = false := never2 _ _ _ _ _ _
    have hnv3 : mayF me.data.toList qs st (xs ++ [vVary]) got dev.data.toList = false := never3 _ _ _ _ _ _
    rw [h6] at k6
    clear km h6
    obtain ⟨M, hM⟩ : ∃ M, mayF me.data.toList qs st xs got dev.data.toList = M := ⟨_, rfl⟩
    rw [hM] at k1 k2 hget hal hoth
    obtain ⟨M0, hM0⟩ : ∃ M, mayF me.data.toList [] st xs got dev.data.toList = M := ⟨_, rfl⟩
    rw [hM0] at k3 hal
    clear hM hM0
    have K1 := Lib.hid k1; have K2 := Lib.hid k2; have K3 := Lib.hid k3; have K4 := Lib.hid k4; have K5 := Lib.hid k5; have K6 := Lib.hid k6
    have HGET := Lib.hid hget; have HAL := Lib.hid hal; have HOTH := Lib.hid hoth; have HN0 := Lib.hid hnv0; have HN1 := Lib.hid hnv1; have HN2 := Lib.hid hnv2; have HN3 := Lib.hid hnv3
    have HL1 := Lib.hid l1; have HL2 := Lib.hid l2; have HL3 := Lib.hid l3; have HL4 := Lib.hid l4; have HL5 := Lib.hid l5; have HL6 := Lib.hid l6; have HQF := Lib.hid hqf; have HXF := Lib.hid hxf
    have HCB := Lib.hid hcb
    clear k1 k2 k3 k4 k5 k6 hget hal hoth hnv0 hnv1 hnv2 hnv3 e1 e2 e3 e4 l1 l2 l3 l4 l5 l6 hqf hxf hp KQ KX HFQ HFX HBM HBD HBF HBG
    obtain ⟨d0, d1, d2, c0, c1, c2, c3, c4, c5, c6, c7, r0, r1, _⟩ := KC.out _ hcb
    clear hcb
    go_wp2_with fail
    (with_reducible refine (K1.out _ HCB.out).mono ?_)
    rintro e w3 ⟨rfl, hb3⟩
    have hB4 := bt HCB.out hb3
    clear hb3
    clear d0 d1 d2 c0 c1 c2 c3 c4 c5 c6 c7 r0 r1
    obtain ⟨d0, d1, d2, c0, c1, c2, c3, c4, c5, c6, c7, r0, r1, _⟩ := KC.out _ hB4
    have HB4 := Lib.hid hB4
    clear hB4
    obtain ⟨WX, hWX⟩ : ∃ W, w3.alloc (.cells #[.int .i64 st, .string re, .int .i64 mi, .slice A n c, .string bo, .int .i64 asked, .int .i64 got, .slice V m d] 30) = W := ⟨_, rfl⟩
    have bx : Below w3.heap.size w3 WX := by rw [← hWX]; exact (Below.refl w3.heap.size w3).alloc (Nat.le_refl _) _
    have xx : EntAt w3.heap.size st re mi A n c bo asked got V m d WX := by rw [← hWX]; exact heap_new w3 _ _ rfl
    have HWX := Lib.hid hWX; have BX := Lib.hid (bt HB4.out bx); have XX := Lib.hid xx
    clear hWX bx xx
    go_upto_region 5 with (fail)
    rw [HWX.out]
    clear d0 d1 d2 c0 c1 c2 c3 c4 c5 c6 c7 r0 r1
    obtain ⟨d0, d1, d2, c0, c1, c2, c3, c4, c5, c6, c7, r0, r1, _⟩ := KC.out _ BX.out
    have s1 := XX.out.froz 1; have s4 := XX.out.froz 4
    obtain ⟨e0, e1, e2, e3, e4, e5, e6, e7, el⟩ := XX.out.cells
    have hbo1 : ¬ (9223372036854775807 < bo.size + 1) := by have := HBO.out; omega
    have hle : w.heap.size ≤ w3.heap.size := by have h1 := HB3.out.size; have h2 := HB4.out.size; omega
    have hle3 : W3.heap.size ≤ w3.heap.size := HB4.out.size
    go_upto_region 7 with (fail)
    obtain ⟨WY, hWY⟩ : ∃ W, (WX.setCell ⟨w3.heap.size, 4, none⟩ (.string (bo ++ ⟨#[120]⟩))).setCell ⟨w3.heap.size, 1, none⟩ (.string ⟨#[111, 116, 104, 101, 114]⟩) = W := ⟨_, rfl⟩
    have xy : EntAt w3.heap.size st ⟨#[111, 116, 104, 101, 114]⟩ mi A n c (bo ++ ⟨#[120]⟩) asked got V m d WY := by rw [← hWY]; exact (XX.out.set4 _).set1 _
    have by_ : Below W3.heap.size W3 WY := by rw [← hWY]; exact (BX.out.setCell (p := ⟨w3.heap.size, 4, none⟩) hle3 _).setCell (p := ⟨w3.heap.size, 1, none⟩) hle3 _
    have HWY := Lib.hid hWY; have BY := Lib.hid by_; have XY := Lib.hid xy
    clear hWY xy by_ s1 s4 e0 e1 e2 e3 e4 e5 e6 e7 el hbo1 hle hle3
    clear d0 d1 d2 c0 c1 c2 c3 c4 c5 c6 c7 r0 r1
    rw [HWY.out]
    obtain ⟨d0, d1, d2, c0, c1, c2, c3, c4, c5, c6, c7, r0, r1, _⟩ := KC.out _ BY.out
    obtain ⟨e0, e1, e2, e3, e4, e5, e6, e7, el⟩ := XY.out.cells
    have t1 : (M != M) = false := by simp
    go_wp2_with fail
    (with_reducible refine (K2.out _ _ _ BY.out).mono ?_)
    rintro e w5 ⟨rfl, hb5⟩
    clear e0 e1 e2 e3 e4 e5 e6 e7 el
    clear d0 d1 d2 c0 c1 c2 c3 c4 c5 c6 c7 r0 r1
    have HB5 := Lib.hid (bt BY.out hb5)
    clear hb5
    go_upto_region 9 with (fail)
    clear t1
    go_cut [104] (fun sc wx => sc = .bool false ∧ Below W3.heap.size W3 wx)
    case first =>
      obtain ⟨d0, d1, d2, c0, c1, c2, c3, c4, c5, c6, c7, r0, r1, _⟩ := KC.out _ HB5.out
      cases M
      · go_wp2
        go_meet
        exact ⟨rfl, HB5.out⟩
      · have hm0 : M0 = true := HAL.out rfl
        subst hm0
        have t2 : (me.toList == [71, 69, 84]) = true := HGET.out rfl
        go_wp2_with fail
        (with_reducible refine (K3.out _ HB5.out).mono ?_)
        rintro e y1 ⟨rfl, hy1⟩
        have hy := bt HB5.out hy1
        clear d0 d1 d2 c0 c1 c2 c3 c4 c5 c6 c7 r0 r1
        obtain ⟨d0, d1, d2, c0, c1, c2, c3, c4, c5, c6, c7, r0, r1, _⟩ := KC.out _ hy
        clear hy1
        go_wp2_with fail
        (with_reducible refine (K4.out _ hy).mono ?_)
        rintro e y2 ⟨rfl, hy2⟩
        clear d0 d1 d2 c0 c1 c2 c3 c4 c5 c6 c7 r0 r1
        go_wp2
        go_meet
        exact ⟨rfl, bt hy hy2⟩
    case rest =>
      obtain ⟨rfl, hcb⟩ := hcut
      obtain ⟨WN, hWN⟩ : ∃ W, wc.alloc (.cells #[.string ⟨#[67, 97, 99, 104, 101, 45, 67, 111, 110, 116, 114, 111, 108]⟩, .string ⟨#[110, 111, 45, 115, 116, 111, 114, 101]⟩, .string ⟨#[67, 97, 99, 104, 101, 45, 67, 111, 110, 116, 114, 111, 108]⟩, .string ⟨#[112, 114, 105, 118, 97, 116, 101, 61, 34, 120, 34]⟩, .string ⟨#[83, 117, 114, 114, 111, 103, 97, 116, 101, 45, 67, 111, 110, 116, 114, 111, 108]⟩, .string ⟨#[110, 111, 45, 115, 116, 111, 114, 101]⟩, .string ⟨#[86, 97, 114, 121]⟩, .string ⟨#[42]⟩] 44) = W := ⟨_, rfl⟩
      have bn : Below wc.heap.size wc WN := by rw [← hWN]; exact (Below.refl wc.heap.size wc).alloc (Nat.le_refl _) _
      have xn : WN.heap[wc.heap.size]? = some (.cells #[.string ⟨#[67, 97, 99, 104, 101, 45, 67, 111, 110, 116, 114, 111, 108]⟩, .string ⟨#[110, 111, 45, 115, 116, 111, 114, 101]⟩, .string ⟨#[67, 97, 99, 104, 101, 45, 67, 111, 110, 116, 114, 111, 108]⟩, .string ⟨#[112, 114, 105, 118, 97, 116, 101, 61, 34, 120, 34]⟩, .string ⟨#[83, 117, 114, 114, 111, 103, 97, 116, 101, 45, 67, 111, 110, 116, 114, 111, 108]⟩, .string ⟨#[110, 111, 45, 115, 116, 111, 114, 101]⟩, .string ⟨#[86, 97, 114, 121]⟩, .string ⟨#[42]⟩] 44 (0, 0)) := by rw [← hWN]; exact heap_new wc _ _ rfl
      have zn : wc.heap.size < WN.heap.size := by rw [← hWN]; simp
      have BN := Lib.hid (bt hcb bn)
      have HWN := Lib.hid hWN; have XN := Lib.hid xn; have ZN := Lib.hid zn
      clear hWN bn xn zn hcb K2 K3 K4 HAL HGET HBO
      go_upto_region 12 with (fail)
      rw [HWN.out]
      go_wp2_with fail
      have hnv : ∀ k : Nat, k < 4 → ∃ g1 g2 : List UInt8, g1.length + g2.length ≤ 600 ∧ (∀ w', Below WN.heap.size WN w' → w'.cell? ⟨wc.heap.size, k * 2, none⟩ = some (.string ⟨g1.toArray⟩) ∧ w'.cell? ⟨wc.heap.size, k * 2 + 1, none⟩ = some (.string ⟨g2.toArray⟩)) ∧ (mayF me.data.toList qs st (xs ++ [(g1, g2)]) got dev.data.toList = true → k = 2 ∧ (!(dev.toList == []) && decide (0 < (valuesL xs fSC).length)) = true) := by
        intro k hk
        have hc : ∀ w', Below WN.heap.size WN w' → ∀ j v, (#[.string ⟨#[67, 97, 99, 104, 101, 45, 67, 111, 110, 116, 114, 111, 108]⟩, .string ⟨#[110, 111, 45, 115, 116, 111, 114, 101]⟩, .string ⟨#[67, 97, 99, 104, 101, 45, 67, 111, 110, 116, 114, 111, 108]⟩, .string ⟨#[112, 114, 105, 118, 97, 116, 101, 61, 34, 120, 34]⟩, .string ⟨#[83, 117, 114, 114, 111, 103, 97, 116, 101, 45, 67, 111, 110, 116, 114, 111, 108]⟩, .string ⟨#[110, 111, 45, 115, 116, 111, 114, 101]⟩, .string ⟨#[86, 97, 114, 121]⟩, .string ⟨#[42]⟩] : Array Value)[j]? = some v → w'.cell? ⟨wc.heap.size, j, none⟩ = some v := fun w' hb j v hv => by
          have h1 := (of_heap ((hb.block wc.heap.size ZN.out).trans XN.out) j).1
          rw [h1]; exact hv
        rcases (by omega : k = 0 ∨ k = 1 ∨ k = 2 ∨ k = 3) with rfl | rfl | rfl | rfl
        · exact ⟨vNoStore.1, vNoStore.2, by decide, fun w' hb => ⟨hc w' hb 0 _ rfl, hc w' hb 1 _ rfl⟩, fun h => by have h2 := HN0.out; rw [show (xs ++ [(vNoStore.1, vNoStore.2)]) = xs ++ [vNoStore] from rfl, h2] at h; cases h⟩
        · exact ⟨vPrivate.1, vPrivate.2, by decide, fun w' hb => ⟨hc w' hb 2 _ rfl, hc w' hb 3 _ rfl⟩, fun h => by have h2 := HN1.out; rw [show (xs ++ [(vPrivate.1, vPrivate.2)]) = xs ++ [vPrivate] from rfl, h2] at h; cases h⟩
        · refine ⟨vSurNo.1, vSurNo.2, by decide, fun w' hb => ⟨hc w' hb 4 _ rfl, hc w' hb 5 _ rfl⟩, fun h => ⟨rfl, ?_⟩⟩
          rw [Bool.and_eq_true]
          constructor
          · cases hd : (dev.toList == [])
            · rfl
            · have h2 := HN2.out (Or.inl (by rw [← Lib.toList_data]; exact beq_iff_eq.1 hd))
              rw [show (xs ++ [(vSurNo.1, vSurNo.2)]) = xs ++ [vSurNo] from rfl, h2] at h; cases h
          · rw [decide_eq_true_eq]
            rcases Nat.eq_zero_or_pos (valuesL xs fSC).length with hz | hz
            · have h2 := HN2.out (Or.inr (List.length_eq_zero_iff.1 hz))
              rw [show (xs ++ [(vSurNo.1, vSurNo.2)]) = xs ++ [vSurNo] from rfl, h2] at h; cases h
            · exact hz
        · exact ⟨vVary.1, vVary.2, by decide, fun w' hb => ⟨hc w' hb 6 _ rfl, hc w' hb 7 _ rfl⟩, fun h => by have h2 := HN3.out; rw [show (xs ++ [(vVary.1, vVary.2)]) = xs ++ [vVary] from rfl, h2] at h; cases h⟩
      have HNV := Lib.hid hnv
      have kw := fun g1 g2 W (hb : Below WN.heap.size WN W) => with16_any st mi asked got re bo A V n c m d xs g1 g2 W (HR.out.below (bt BN.out hb)) (by have := HL3.out; have := HXF.out; omega)
      have kv := fun W (hb : Below W3.heap.size W3 W) => values_any A n c xs ⟨#[115, 117, 114, 114, 111, 103, 97, 116, 101, 45, 99, 111, 110, 116, 114, 111, 108]⟩ W (HR.out.below hb) (by have := HL3.out; have := HXF.out; omega) (fun f hf => by have := sumF_mem hf; have := HL4.out; omega) (by decide)
      rw [show (⟨#[115, 117, 114, 114, 111, 103, 97, 116, 101, 45, 99, 111, 110, 116, 114, 111, 108]⟩ : ByteArray).data.toList = fSC from rfl] at kv
      have KW := Lib.hid kw; have KV := Lib.hid kv
      obtain ⟨o2, ho2⟩ : ∃ b, (!(dev.toList == []) && decide (0 < (valuesL xs fSC).length)) = b := ⟨_, rfl⟩
      have HO2 := Lib.hid ho2
      clear hnv kw kv ho2 HN0 HN1 HN2 HN3
      go_loopw [10] (fun i wr => ∃ k : Nat, k ≤ 4 ∧ i = .int .i64 k ∧ Below WN.heap.size WN wr) (fun i _ => 4 - (intOf i).toNat)
      case atStart => exact ⟨0, by omega, rfl, Below.refl _ _⟩
      case round =>
        obtain ⟨k, hk, rfl, hbw⟩ := hrel
        by_cases hlt : k < 4
        · have t1 : decide ((k : Int) < 4) = true := by simp; omega
          obtain ⟨g1, g2, hgl, hcell, hprop⟩ := HNV.out k hlt
          have kc2 : ∀ w', Below WN.heap.size WN w' → w'.cell? ⟨w.heap.size + 1, 0, none⟩ = some (.int .i64 st) ∧ w'.cell? ⟨w.heap.size + 1, 1, none⟩ = some (.string re) ∧ w'.cell? ⟨w.heap.size + 1, 2, none⟩ = some (.int .i64 mi) ∧ w'.cell? ⟨w.heap.size + 1, 3, none⟩ = some (.slice A n c) ∧ w'.cell? ⟨w.heap.size + 1, 4, none⟩ = some (.string bo) ∧ w'.cell? ⟨w.heap.size + 1, 5, none⟩ = some (.int .i64 asked) ∧ w'.cell? ⟨w.heap.size + 1, 6, none⟩ = some (.int .i64 got) ∧ w'.cell? ⟨w.heap.size + 1, 7, none⟩ = some (.slice V m d) ∧ w'.cell? ⟨wc.heap.size, k * 2, none⟩ = some (.string ⟨g1.toArray⟩) ∧ w'.cell? ⟨wc.heap.size, k * 2 + 1, none⟩ = some (.string ⟨g2.toArray⟩) ∧ Below WN.heap.size WN w' := fun w' hb => by
            obtain ⟨_, _, _, a0, a1, a2, a3, a4, a5, a6, a7, _⟩ := KC.out _ (bt BN.out hb)
            obtain ⟨i0, i1⟩ := hcell w' hb
            exact ⟨a0, a1, a2, a3, a4, a5, a6, a7, i0, i1, hb⟩
          have KC2 := Lib.hid kc2
          have hd0 : Below WN.heap.size WN wr.drew := hbw.drew
          have hpw : IntKind.i64.wrap ((k : Int) + 1) = ((k + 1 : Nat) : Int) := by rw [IntKind.wrap_i64]; omega
          have HPW := Lib.hid hpw
          have HPR := Lib.hid hprop; have HGL := Lib.hid hgl
          clear kc2 hcell hprop hgl hpw
          go_upto_region 15 with (fail)
          clear t1
          go_cut [11] (fun s11 wx => ∃ (T : Nat) (a1 : Option Addr) (k1 : Nat), s11 = .pointer (some ⟨T, 0, none⟩) ∧ Hid (EntAt T st re mi a1 (n + 1) k1 bo asked got V m d wx) ∧ Hid (Rd a1 (n + 1) 2 (fldsV (xs ++ [(g1, g2)])) wx) ∧ Below WN.heap.size WN wx)
          case first =>
            have hk0 : (0 : Int) ≤ k := by omega
            have hk1 : (k : Int) < 4 := by omega
            obtain ⟨c0, c1, c2, c3, c4, c5, c6, c7, i0, i1, _⟩ := KC2.out _ hbw
            refine wp_region_held_drew (S := (fun w' => w'.cell? ⟨w.heap.size + 1, 0, none⟩ = some (.int .i64 st) ∧ w'.cell? ⟨w.heap.size + 1, 1, none⟩ = some (.string re) ∧ w'.cell? ⟨w.heap.size + 1, 2, none⟩ = some (.int .i64 mi) ∧ w'.cell? ⟨w.heap.size + 1, 3, none⟩ = some (.slice A n c) ∧ w'.cell? ⟨w.heap.size + 1, 4, none⟩ = some (.string bo) ∧ w'.cell? ⟨w.heap.size + 1, 5, none⟩ = some (.int .i64 asked) ∧ w'.cell? ⟨w.heap.size + 1, 6, none⟩ = some (.int .i64 got) ∧ w'.cell? ⟨w.heap.size + 1, 7, none⟩ = some (.slice V m d) ∧ w'.cell? ⟨wc.heap.size, k * 2, none⟩ = some (.string ⟨g1.toArray⟩) ∧ w'.cell? ⟨wc.heap.size, k * 2 + 1, none⟩ = some (.string ⟨g2.toArray⟩) ∧ Below WN.heap.size WN w')) (by kernel_rfl) (KC2.out _ hd0) (fun hHeld => ?_)
            refine tkS 0 hHeld ?_
            try simp only [Act.put, ps1, ps2, ps3]
            refine tkS 1 hHeld ?_
            try simp only [Act.put, ps1, ps2, ps3]
            refine tkS 2 hHeld ?_
            try simp only [Act.put, ps1, ps2, ps3]
            refine tkS 3 hHeld ?_
            try simp only [Act.put, ps1, ps2, ps3]
            refine tkS 4 hHeld ?_
            try simp only [Act.put, ps1, ps2, ps3]
            refine wpAnyH_ready (rs := [5, 6]) (by kernel_rfl) (by simp) (AllReadyH.cons (by simp only [List.getElem?_toArray, List.getElem?_cons_succ, List.getElem?_cons_zero]; exact rfl) (fun K hK => ?_) (AllReadyH.cons (by simp only [List.getElem?_toArray, List.getElem?_cons_succ, List.getElem?_cons_zero]; exact rfl) (fun K hK => ?_) AllReadyH.nil))
            · rw [if_pos (by rfl)]
              go_simp
              (with_reducible refine (KW.out g1 g2 _ hd0).mono ?_)
              rintro e w1 ⟨a1, k1, rfl, ho1, hb1⟩
              have hd1 := bt hd0 hb1
              go_wp2_with fail
              refine hK.out _ _ (KC2.out _ hd1) (fun hHeld => ?_)
              clear hK K
              try simp only [Act.put, ps1, ps2, ps3]
              refine wpAnyH_ready (rs := [6]) (by kernel_rfl) (by simp) (AllReadyH.cons (by simp only [List.getElem?_toArray, List.getElem?_cons_succ, List.getElem?_cons_zero]; exact rfl) (fun K hK => ?_) AllReadyH.nil)
              rw [if_pos (by rfl)]
              go_simp
              have hal3 := hd1.alloc hd1.size (.cells #[.int .i64 0, .string ⟨#[]⟩, .int .i64 0, .slice none 0 0, .string ⟨#[]⟩, .int .i64 0, .int .i64 0, .slice none 0 0] 30)
              refine hK.out _ _ (KC2.out _ hal3) (fun hHeld => ?_)
              clear hK K
              try simp only [Act.put, ps1, ps2, ps3]
              refine wpAnyH_ready (rs := [7]) (by kernel_rfl) (by simp) (AllReadyH.cons (by simp only [List.getElem?_toArray, List.getElem?_cons_succ, List.getElem?_cons_zero]; exact rfl) (fun K hK => ?_) AllReadyH.nil)
              rw [if_pos (by rfl)]
              go_simp
              have hfin := hd1.alloc hd1.size (.cells #[.int .i64 st, .string re, .int .i64 mi, .slice a1 (n + 1) k1, .string bo, .int .i64 asked, .int .i64 got, .slice V m d] 30)
              refine hK.out _ _ (KC2.out _ hfin) (fun hHeld => ?_)
              clear hK K
              try simp only [Act.put, ps1, ps2, ps3]
              have hx1 : EntAt w1.heap.size st re mi a1 (n + 1) k1 bo asked got V m d (w1.alloc (.cells #[.int .i64 st, .string re, .int .i64 mi, .slice a1 (n + 1) k1, .string bo, .int .i64 asked, .int .i64 got, .slice V m d] 30)) := heap_new w1 _ _ rfl
              have hro : Rd a1 (n + 1) 2 (fldsV (xs ++ [(g1, g2)])) w1 := by have e := (OwnF.rd ho1).1; have r := (OwnF.rd ho1).2; rw [← e] at r; exact r
              have hrr := hro.below ((Below.refl w1.heap.size w1).alloc (Nat.le_refl _) (.cells #[.int .i64 st, .string re, .int .i64 mi, .slice a1 (n + 1) k1, .string bo, .int .i64 asked, .int .i64 got, .slice V m d] 30))
              refine wpAnyH_done (by kernel_rfl) ?_ _
              clear hHeld
              go_wp2
              go_meet
              exact ⟨_, _, _, rfl, Lib.hid hx1, Lib.hid hrr, hfin⟩
            · rw [if_pos (by rfl)]
              go_simp
              have hdA : Below WN.heap.size WN ((wr.alloc (.cells #[.int .i64 0, .string ⟨#[]⟩, .int .i64 0, .slice none 0 0, .string ⟨#[]⟩, .int .i64 0, .int .i64 0, .slice none 0 0] 30)).drew) := hd0.alloc hd0.size _
              refine hK.out _ _ (KC2.out _ hdA) (fun hHeld => ?_)
              clear hK K
              try simp only [Act.put, ps1, ps2, ps3]
              have hbk : ((wr.alloc (.cells #[.int .i64 0, .string ⟨#[]⟩, .int .i64 0, .slice none 0 0, .string ⟨#[]⟩, .int .i64 0, .int .i64 0, .slice none 0 0] 30)).drew).heap[wr.heap.size]? = some (.cells #[.int .i64 0, .string ⟨#[]⟩, .int .i64 0, .slice none 0 0, .string ⟨#[]⟩, .int .i64 0, .int .i64 0, .slice none 0 0] 30 (0, 0)) := heap_new (wr.drew) _ _ rfl
              have hbl : wr.heap.size < ((wr.alloc (.cells #[.int .i64 0, .string ⟨#[]⟩, .int .i64 0, .slice none 0 0, .string ⟨#[]⟩, .int .i64 0, .int .i64 0, .slice none 0 0] 30)).drew).heap.size := by simp
              have hle : WN.heap.size ≤ wr.heap.size := hbw.size
              obtain ⟨WA, hWA⟩ : ∃ W, ((wr.alloc (.cells #[.int .i64 0, .string ⟨#[]⟩, .int .i64 0, .slice none 0 0, .string ⟨#[]⟩, .int .i64 0, .int .i64 0, .slice none 0 0] 30)).drew) = W := ⟨_, rfl⟩
              rw [hWA] at hdA hbk hbl ⊢
              rw [hWA] at hHeld
              clear hWA
              refine wpAnyH_ready (rs := [5]) (by kernel_rfl) (by simp) (AllReadyH.cons (by simp only [List.getElem?_toArray, List.getElem?_cons_succ, List.getElem?_cons_zero]; exact rfl) (fun K hK => ?_) AllReadyH.nil)
              rw [if_pos (by rfl)]
              go_simp
              (with_reducible refine (KW.out g1 g2 _ hdA).mono ?_)
              rintro e w1 ⟨a1, k1, rfl, ho1, hb1⟩
              have hd1 := bt hdA hb1
              go_wp2_with fail
              refine hK.out _ _ (KC2.out _ hd1) (fun hHeld => ?_)
              clear hK K
              try simp only [Act.put, ps1, ps2, ps3]
              have hbk := (hb1.block wr.heap.size hbl).trans hbk
              have p0 := (of_heap hbk 0).2.1
              have p1 := (of_heap hbk 1).2.1
              have p2 := (of_heap hbk 2).2.1
              have p3 := (of_heap hbk 3).2.1
              have p4 := (of_heap hbk 4).2.1
              have p5 := (of_heap hbk 5).2.1
              have p6 := (of_heap hbk 6).2.1
              have p7 := (of_heap hbk 7).2.1
              have q0 := (of_heap hbk 0).1
              have q1 := (of_heap hbk 1).1
              have q2 := (of_heap hbk 2).1
              have q3 := (of_heap hbk 3).1
              have q4 := (of_heap hbk 4).1
              have q5 := (of_heap hbk 5).1
              have q6 := (of_heap hbk 6).1
              have q7 := (of_heap hbk 7).1
              simp only [List.getElem?_toArray, List.getElem?_cons_succ, List.getElem?_cons_zero] at q0 q1 q2 q3 q4 q5 q6 q7
              refine wpAnyH_ready (rs := [7]) (by kernel_rfl) (by simp) (AllReadyH.cons (by simp only [List.getElem?_toArray, List.getElem?_cons_succ, List.getElem?_cons_zero]; exact rfl) (fun K hK => ?_) AllReadyH.nil)
              rw [if_pos (by rfl)]
              go_simp
              have hfin : Below WN.heap.size WN ((((((((w1.setCell ⟨wr.heap.size, 0, none⟩ (.int .i64 st)).setCell ⟨wr.heap.size, 1, none⟩ (.string re)).setCell ⟨wr.heap.size, 2, none⟩ (.int .i64 mi)).setCell ⟨wr.heap.size, 3, none⟩ (.slice a1 (n + 1) k1)).setCell ⟨wr.heap.size, 4, none⟩ (.string bo)).setCell ⟨wr.heap.size, 5, none⟩ (.int .i64 asked)).setCell ⟨wr.heap.size, 6, none⟩ (.int .i64 got)).setCell ⟨wr.heap.size, 7, none⟩ (.slice V m d)) := ((((((((hd1.setCell (p := ⟨wr.heap.size, 0, none⟩) hle _).setCell (p := ⟨wr.heap.size, 1, none⟩) hle _).setCell (p := ⟨wr.heap.size, 2, none⟩) hle _).setCell (p := ⟨wr.heap.size, 3, none⟩) hle _).setCell (p := ⟨wr.heap.size, 4, none⟩) hle _).setCell (p := ⟨wr.heap.size, 5, none⟩) hle _).setCell (p := ⟨wr.heap.size, 6, none⟩) hle _).setCell (p := ⟨wr.heap.size, 7, none⟩) hle _)
              refine hK.out _ _ (KC2.out _ hfin) (fun hHeld => ?_)
              clear hK K
              try simp only [Act.put, ps1, ps2, ps3]
              have hx0 := (heap_setN (j := 7) (v := .slice V m d) (heap_setN (j := 6) (v := .int .i64 got) (heap_setN (j := 5) (v := .int .i64 asked) (heap_setN (j := 4) (v := .string bo) (heap_setN (j := 3) (v := .slice a1 (n + 1) k1) (heap_setN (j := 2) (v := .int .i64 mi) (heap_setN (j := 1) (v := .string re) (heap_setN (j := 0) (v := .int .i64 st) hbk))))))))
              simp only [List.setIfInBounds_toArray, List.set_cons_zero, List.set_cons_succ] at hx0
              have hx1 : EntAt wr.heap.size st re mi a1 (n + 1) k1 bo asked got V m d ((((((((w1.setCell ⟨wr.heap.size, 0, none⟩ (.int .i64 st)).setCell ⟨wr.heap.size, 1, none⟩ (.string re)).setCell ⟨wr.heap.size, 2, none⟩ (.int .i64 mi)).setCell ⟨wr.heap.size, 3, none⟩ (.slice a1 (n + 1) k1)).setCell ⟨wr.heap.size, 4, none⟩ (.string bo)).setCell ⟨wr.heap.size, 5, none⟩ (.int .i64 asked)).setCell ⟨wr.heap.size, 6, none⟩ (.int .i64 got)).setCell ⟨wr.heap.size, 7, none⟩ (.slice V m d)) := hx0
              have hrr : Rd a1 (n + 1) 2 (fldsV (xs ++ [(g1, g2)])) ((((((((w1.setCell ⟨wr.heap.size, 0, none⟩ (.int .i64 st)).setCell ⟨wr.heap.size, 1, none⟩ (.string re)).setCell ⟨wr.heap.size, 2, none⟩ (.int .i64 mi)).setCell ⟨wr.heap.size, 3, none⟩ (.slice a1 (n + 1) k1)).setCell ⟨wr.heap.size, 4, none⟩ (.string bo)).setCell ⟨wr.heap.size, 5, none⟩ (.int .i64 asked)).setCell ⟨wr.heap.size, 6, none⟩ (.int .i64 got)).setCell ⟨wr.heap.size, 7, none⟩ (.slice V m d)) := by have h9 := set8_ownW (E := wr.heap.size) (v0 := .int .i64 st) (v1 := .string re) (v2 := .int .i64 mi) (v3 := .slice a1 (n + 1) k1) (v4 := .string bo) (v5 := .int .i64 asked) (v6 := .int .i64 got) (v7 := .slice V m d) hbl ho1; have e := (OwnF.rd h9).1; have r := (OwnF.rd h9).2; rw [← e] at r; exact r
              refine wpAnyH_done (by kernel_rfl) ?_ _
              clear hHeld
              go_wp2
              go_meet
              exact ⟨_, _, _, rfl, Lib.hid hx1, Lib.hid hrr, hfin⟩
          case rest =>
            obtain ⟨T, a1, k1, rfl, XT, RT, hcb⟩ := hcut
            have HC3 := Lib.hid (bt BN.out hcb); have HCN := Lib.hid hcb
            obtain ⟨ow, how⟩ : ∃ b, (decide (k = 2) && o2) = b := ⟨_, rfl⟩
            have HOW := Lib.hid how
            clear how hcb hbw hd0
            go_upto_region 16 with (fail)
            go_cut [12] (fun s12 wx => s12 = .bool ow ∧ Below wc.heap.size wc wx)
            case first =>
              obtain ⟨d0, d1, d2, c0, c1, c2, c3, c4, c5, c6, c7, r0, r1, _⟩ := KC.out _ HC3.out
              by_cases h2 : k = 2
              · subst h2
                have t2 := HO2.out
                cases hd : (dev.toList == [])
                · rw [hd] at t2
                  go_wp2_with fail
                  (with_reducible refine (KV.out _ HC3.out).mono ?_)
                  rintro e y1 ⟨a2, k2, rfl, ho, hy1⟩
                  clear ho
                  clear d0 d1 d2 c0 c1 c2 c3 c4 c5 c6 c7 r0 r1
                  have t3 : decide (((valuesL xs fSC).length : Int) > 0) = ow := by rw [← HOW.out, ← t2]; simp
                  have t4 : decide (0 < (valuesL xs fSC).length) = ow := by rw [← HOW.out, ← t2]; simp
                  clear t2
                  go_wp2
                  go_meet
                  exact ⟨by first | rfl | (rw [← t3]; done) | (rw [← t4]; done) | (simp [t4]; done), hy1⟩
                · rw [hd] at t2
                  have t5 : ow = false := by rw [← HOW.out, ← t2]; simp
                  clear t2
                  go_wp2
                  go_meet
                  exact ⟨by rw [t5], Below.refl _ _⟩
              · have t2 : ((k : Int) == 2) = false := by simp; omega
                have t5 : ow = false := by rw [← HOW.out]; simp [h2]
                clear h2
                go_wp2
                go_meet
                exact ⟨by rw [t5], Below.refl _ _⟩
            case rest =>
              obtain ⟨rfl, hcb⟩ := hcut
              have XT2 := Lib.hid (XT.out.below hcb); have RT2 := Lib.hid (RT.out.below hcb); have HC4 := Lib.hid (bt HC3.out hcb); have HCN2 := Lib.hid (bt HCN.out hcb)
              obtain ⟨P, hP⟩ : ∃ P, mayF me.data.toList qs st (xs ++ [(g1, g2)]) got dev.data.toList = P := ⟨_, rfl⟩
              have k5 := K5.out g1 g2 HGL.out
              have hpr := HPR.out
              rw [hP] at k5 hpr
              have K5a := Lib.hid k5
              clear hcb k5 hP HPR HGL XT RT HC3 HCN KC2
              obtain ⟨d0, d1, d2, c0, c1, c2, c3, c4, c5, c6, c7, r0, r1, _⟩ := KC.out _ HC4.out
              obtain ⟨e0, e1, e2, e3, e4, e5, e6, e7, el⟩ := XT2.out.cells
              have hpw := HPW.out
              cases P
              · clear hpr
                go_wp2_with fail
                (with_reducible refine (K5a.out _ _ _ HC4.out RT2.out).mono ?_)
                rintro e w9 ⟨rfl, h9⟩
                clear e0 e1 e2 e3 e4 e5 e6 e7 el
                clear d0 d1 d2 c0 c1 c2 c3 c4 c5 c6 c7 r0 r1
                go_wp2
                go_roundw
                case rel => exact ⟨k + 1, by omega, rfl, bt HCN2.out h9⟩
                case measure => simp [intOf]; omega
              · have how : ow = true := by obtain ⟨h8, h9⟩ := hpr rfl; rw [← HOW.out, ← HO2.out, h9, h8]; rfl
                clear hpr
                subst how
                go_wp2_with fail
                (with_reducible refine (K5a.out _ _ _ HC4.out RT2.out).mono ?_)
                rintro e w9 ⟨rfl, h9⟩
                clear e0 e1 e2 e3 e4 e5 e6 e7 el
                clear d0 d1 d2 c0 c1 c2 c3 c4 c5 c6 c7 r0 r1
                go_wp2
                go_roundw
                case rel => exact ⟨k + 1, by omega, rfl, bt HCN2.out h9⟩
                case measure => simp [intOf]; omega
        · have hk4 : k = 4 := by omega
          subst hk4
          have HBW := Lib.hid (bt BN.out hbw); have HBW0 := Lib.hid hbw
          have XQ := Lib.hid (HQ.out.below HBW.out)
          have xnw := (hbw.block wc.heap.size ZN.out).trans XN.out
          have XNW := Lib.hid xnw
          have znw := Nat.lt_of_lt_of_le ZN.out hbw.size
          have ZNW := Lib.hid znw
          have hz : ([] : List Fld).length + qn ≤ 1000000000 := by have h1 := HQF.out; have h2 := HL1.out; simp; omega
          obtain ⟨d0, d1, d2, c0, c1, c2, c3, c4, c5, c6, c7, r0, r1, _⟩ := KC.out _ HBW.out
          clear xnw znw hk hlt hbw HNV KW KV HO2
          go_upto_region 20 with (fail)
          go_wp2_with (at_builtin; refine app_flds wr.heap.size (OwnF.nil _ _) (Nat.le_refl _) XQ.out hz rfl _ _ rfl rfl rfl ?_)
          intro v5 w5 hO5 hb5 _
          have hO5' : OwnF wr.heap.size v5 qs w5 := hO5
          obtain ⟨a5, k5, rfl⟩ := OwnF.shape hO5'
          have HB5b := Lib.hid (bt HBW.out hb5)
          have HB5c := Lib.hid hb5
          have yn := (hb5.block wc.heap.size ZNW.out).trans XNW.out
          have n0 := (of_heap yn 0).1; have n1 := (of_heap yn 1).1
          simp only [List.getElem?_toArray, List.getElem?_cons_succ, List.getElem?_cons_zero] at n0 n1
          have hs5 : wr.heap.size ≤ w5.heap.size := hb5.size
          have hn5 : qs.length ≤ 1000000000 := by have h2 := HL1.out; omega
          have O5 := Lib.hid hO5'
          clear hO5 hO5' hb5 yn hz
          clear d0 d1 d2 c0 c1 c2 c3 c4 c5 c6 c7 r0 r1
          obtain ⟨d0, d1, d2, c0, c1, c2, c3, c4, c5, c6, c7, r0, r1, _⟩ := KC.out _ HB5b.out
          go_upto_region 21 with (fail)
          go_wp2_with (at_builtin; refine app_fld wr.heap.size ([67, 97, 99, 104, 101, 45, 67, 111, 110, 116, 114, 111, 108], [110, 111, 45, 115, 116, 111, 114, 101]) O5.out hs5 hn5 rfl _ _ rfl rfl rfl ?_)
          intro v7 w7 hO7 hb7 _
          obtain ⟨a7, k7, rfl⟩ := OwnF.shape hO7
          have HB7 := Lib.hid (bt HBW.out (HB5c.out.trans hb7))
          have r7 : Rd a7 (qn + 1) 2 (fldsV (qs ++ [vNoStore])) w7 := by
            have e := (OwnF.rd hO7).1; have r := (OwnF.rd hO7).2
            have e2 : (qs ++ [([67, 97, 99, 104, 101, 45, 67, 111, 110, 116, 114, 111, 108], [110, 111, 45, 115, 116, 111, 114, 101])]).length = qn + 1 := by rw [HQF.out]; simp
            rw [e2] at r
            exact r
          have R7 := Lib.hid r7
          have e7 : (qs ++ [([67, 97, 99, 104, 101, 45, 67, 111, 110, 116, 114, 111, 108], [110, 111, 45, 115, 116, 111, 114, 101])]).length = qn + 1 := by rw [HQF.out]; simp
          rw [e7]
          clear hO7 hb7 r7 e7 n0 n1 O5 hs5 hn5
          clear d0 d1 d2 c0 c1 c2 c3 c4 c5 c6 c7 r0 r1
          obtain ⟨d0, d1, d2, c0, c1, c2, c3, c4, c5, c6, c7, r0, r1, _⟩ := KC.out _ HB7.out
          go_wp2_with fail
          (with_reducible refine (K6.out _ _ _ HB7.out R7.out).mono ?_)
          rintro e w8 ⟨rfl, hb8⟩
          have hB8 := bt HB7.out hb8
          clear d0 d1 d2 c0 c1 c2 c3 c4 c5 c6 c7 r0 r1
          obtain ⟨d0, d1, d2, c0, c1, c2, c3, c4, c5, c6, c7, r0, r1, _⟩ := KC.out _ hB8
          obtain ⟨W9, hW9⟩ : ∃ W, w8.alloc (.cells #[.string ⟨f1.toArray⟩, .string ⟨f2.toArray⟩] 44) = W := ⟨_, rfl⟩
          have z9 : W9.heap.size = w8.heap.size + 1 := by rw [← hW9]; simp
          have b9 : Below w8.heap.size w8 W9 := by rw [← hW9]; exact (Below.refl w8.heap.size w8).alloc (Nat.le_refl _) _
          have q9 : Rd (some ⟨w8.heap.size, 0, none⟩) 1 2 (fldsV [(f1, f2)]) W9 := by rw [← hW9]; exact newF16 w8 f1 f2 _
          obtain ⟨WD, hWD⟩ : ∃ W, W9.alloc (.cells #[.string ⟨#[99, 97, 99, 104, 101, 45, 99, 111, 110, 116, 114, 111, 108]⟩, .string ⟨#[115, 117, 114, 114, 111, 103, 97, 116, 101, 45, 99, 111, 110, 116, 114, 111, 108]⟩, .string ⟨#[118, 97, 114, 121]⟩, .string ⟨#[101, 116, 97, 103]⟩, .string ⟨#[108, 97, 115, 116, 45, 109, 111, 100, 105, 102, 105, 101, 100]⟩, .string ⟨#[101, 120, 112, 105, 114, 101, 115]⟩, .string ⟨#[100, 97, 116, 101]⟩] 9) = W := ⟨_, rfl⟩
          have bD : Below W9.heap.size W9 WD := by rw [← hWD]; exact (Below.refl W9.heap.size W9).alloc (Nat.le_refl _) _
          have qD : Rd (some ⟨w8.heap.size + 1, 0, none⟩) 7 1 (strsV counts7) WD := by rw [← z9, ← hWD]; exact Rd.newL W9 counts7 _
          have q9 := q9.below bD
          have hWW9 : (w8.alloc (.cells #[.string ⟨f1.toArray⟩, .string ⟨f2.toArray⟩] 44)).alloc (.cells #[.string ⟨#[99, 97, 99, 104, 101, 45, 99, 111, 110, 116, 114, 111, 108]⟩, .string ⟨#[115, 117, 114, 114, 111, 103, 97, 116, 101, 45, 99, 111, 110, 116, 114, 111, 108]⟩, .string ⟨#[118, 97, 114, 121]⟩, .string ⟨#[101, 116, 97, 103]⟩, .string ⟨#[108, 97, 115, 116, 45, 109, 111, 100, 105, 102, 105, 101, 100]⟩, .string ⟨#[101, 120, 112, 105, 114, 101, 115]⟩, .string ⟨#[100, 97, 116, 101]⟩] 9) = WD := by rw [hW9]; exact hWD
          have kd := del_any (some ⟨w8.heap.size, 0, none⟩) 1 1 [(f1, f2)] (some ⟨w8.heap.size + 1, 0, none⟩) 7 7 counts7 WD q9 (by omega) (fun f hf => by have h1 := HL5.out; rw [List.mem_singleton.1 hf]; show f1.length ≤ _; omega) qD (by omega) (by decide)
          have HBD := Lib.hid (bt hB8 (bt b9 bD)); have HWD := Lib.hid hWW9
          clear hW9 hWD z9 b9 q9 bD qD hWW9 hb8
          go_upto_region 26 with (fail)
          rw [HWD.out]
          clear d0 d1 d2 c0 c1 c2 c3 c4 c5 c6 c7 r0 r1
          clear hB8
          cases hh : hasL counts7 f1
          · have e9 : delL [(f1, f2)] counts7 = [(f1, f2)] := by simp [delL, hh]
            rw [e9] at kd
            have KD := Lib.hid kd
            have k7 := fun a1 k1 W (hb : Below W3.heap.size W3 W) (h : Rd a1 (n + 1) 2 (fldsV (xs ++ [(f1, f2)])) W) => K5.out f1 f2 (by have h1 := HL5.out; have h2 := HL6.out; omega) a1 k1 W hb h
            rw [HOTH.out hh] at k7
            have kf := fun W (hb : Below W3.heap.size W3 W) => with16_any st mi asked got re bo A V n c m d xs f1 f2 W (HR.out.below hb) (by have h1 := HL3.out; have h2 := HXF.out; omega)
            have K7 := Lib.hid k7; have KF := Lib.hid kf
            have e1 : (M == M) = true := by simp
            clear kd k7 kf e9
            go_wp2_with fail
            (with_reducible refine KD.out.mono ?_)
            rintro e wE ⟨aE, kE, rfl, hoE, hbE⟩
            clear hoE
            have hBE := bt HBD.out hbE
            have hd0 := hBE.drew
            obtain ⟨d0, d1, d2, c0, c1, c2, c3, c4, c5, c6, c7, r0, r1, _⟩ := KC.out _ hBE
            go_upto_region 28 with (fail)
            refine wp_region_held_drew (S := (fun w' => w'.cell? ⟨w.heap.size, 0, none⟩ = some (.string me) ∧ w'.cell? ⟨w.heap.size, 1, none⟩ = some (.string dev) ∧ w'.cell? ⟨w.heap.size, 2, none⟩ = some (.slice QA qn qc) ∧ w'.cell? ⟨w.heap.size + 1, 0, none⟩ = some (.int .i64 st) ∧ w'.cell? ⟨w.heap.size + 1, 1, none⟩ = some (.string re) ∧ w'.cell? ⟨w.heap.size + 1, 2, none⟩ = some (.int .i64 mi) ∧ w'.cell? ⟨w.heap.size + 1, 3, none⟩ = some (.slice A n c) ∧ w'.cell? ⟨w.heap.size + 1, 4, none⟩ = some (.string bo) ∧ w'.cell? ⟨w.heap.size + 1, 5, none⟩ = some (.int .i64 asked) ∧ w'.cell? ⟨w.heap.size + 1, 6, none⟩ = some (.int .i64 got) ∧ w'.cell? ⟨w.heap.size + 1, 7, none⟩ = some (.slice V m d) ∧ w'.cell? ⟨w.heap.size + 2, 0, none⟩ = some (.string ⟨f1.toArray⟩) ∧ w'.cell? ⟨w.heap.size + 2, 1, none⟩ = some (.string ⟨f2.toArray⟩) ∧ Below W3.heap.size W3 w')) (by kernel_rfl) (KC.out _ hd0) (fun hHeld => ?_)
            refine tkS 0 hHeld ?_
            try simp only [Act.put, ps1, ps2, ps3]
            refine tkS 1 hHeld ?_
            try simp only [Act.put, ps1, ps2, ps3]
            refine tkS 2 hHeld ?_
            try simp only [Act.put, ps1, ps2, ps3]
            refine tkS 3 hHeld ?_
            try simp only [Act.put, ps1, ps2, ps3]
            refine tkS 4 hHeld ?_
            try simp only [Act.put, ps1, ps2, ps3]
            refine tkS 5 hHeld ?_
            try simp only [Act.put, ps1, ps2, ps3]
            refine tkS 7 hHeld ?_
            try simp only [Act.put, ps1, ps2, ps3]
            refine tkS 8 hHeld ?_
            try simp only [Act.put, ps1, ps2, ps3]
            refine tkS 10 hHeld ?_
            try simp only [Act.put, ps1, ps2, ps3]
            refine wpAnyH_ready (rs := [6]) (by kernel_rfl) (by simp) (AllReadyH.cons (by simp only [List.getElem?_toArray, List.getElem?_cons_succ, List.getElem?_cons_zero]; exact rfl) (fun K hK => ?_) AllReadyH.nil)
            rw [if_pos (by rfl)]
            go_simp
            (with_reducible refine (KF.out _ hd0).mono ?_); rintro e v1 ⟨a1, k1, rfl, ho1, hv1⟩; have hd1 := bt hd0 hv1; have r1 : Rd a1 (n + 1) 2 (fldsV (xs ++ [(f1, f2)])) v1 := (by have e := (OwnF.rd ho1).1; have r := (OwnF.rd ho1).2; rw [← e] at r; exact r); go_wp2_with fail
            refine hK.out _ _ (KC.out _ hd1) (fun hHeld => ?_)
            clear hK K
            try simp only [Act.put, ps1, ps2, ps3]
            refine wpAnyH_ready (rs := [9]) (by kernel_rfl) (by simp) (AllReadyH.cons (by simp only [List.getElem?_toArray, List.getElem?_cons_succ, List.getElem?_cons_zero]; exact rfl) (fun K hK => ?_) AllReadyH.nil)
            rw [if_pos (by rfl)]
            go_simp
            (with_reducible refine (K7.out _ _ _ hd1 r1).mono ?_); rintro e v2 ⟨rfl, hv2⟩; have hd2 := bt hd1 hv2; go_wp2_with fail
            refine hK.out _ _ (KC.out _ hd2) (fun hHeld => ?_)
            clear hK K
            try simp only [Act.put, ps1, ps2, ps3]
            refine tkS 11 hHeld ?_
            try simp only [Act.put, ps1, ps2, ps3]
            refine tkS 12 hHeld ?_
            try simp only [Act.put, ps1, ps2, ps3]
            refine wpAnyH_ready (rs := [13]) (by kernel_rfl) (by simp) (AllReadyH.cons (by simp only [List.getElem?_toArray, List.getElem?_cons_succ, List.getElem?_cons_zero]; exact rfl) (fun K hK => ?_) AllReadyH.nil)
            rw [if_pos (by rfl)]
            go_simp
            (with_reducible refine (HA.out _ hd2).mono ?_); rintro e v3 ⟨rfl, hv3⟩; have hd3 := bt hd2 hv3; go_wp2_with fail
            refine hK.out _ _ (KC.out _ hd3) (fun hHeld => ?_)
            clear hK K
            try simp only [Act.put, ps1, ps2, ps3]
            refine tkS 14 hHeld ?_
            try simp only [Act.put, ps1, ps2, ps3]
            refine tkS 15 hHeld ?_
            try simp only [Act.put, ps1, ps2, ps3]
            refine wpAnyH_done (by kernel_rfl) ?_ _
            clear hHeld
            go_wp2
            go_ret
            exact ⟨rfl, bt HB3.out hd3⟩
          · have e9 : delL [(f1, f2)] counts7 = [] := by simp [delL, hh]
            rw [e9] at kd
            have KD := Lib.hid kd
            clear kd e9
            go_wp2_with fail
            (with_reducible refine KD.out.mono ?_)
            rintro e wE ⟨aE, kE, rfl, hoE, hbE⟩
            clear hoE
            have hBE := bt HBD.out hbE
            go_wp2_with fail
            (with_reducible refine (HA.out _ hBE).mono ?_)
            rintro e wF ⟨rfl, hbF⟩
            go_wp2
            go_ret
            exact ⟨rfl, bt HB3.out (bt hBE hbF)⟩
end Go.Proofs.YtcgdcbnhpbokfaaGreatDoor
/- StorableOnly: the law as it is handed in. -/
namespace Go.Proofs.YtcgdcbnhpbokfaaGreatDoor
open Go.RowKit Go.ChangeShapes Go.WideShapes
set_option maxRecDepth 100000

theorem storableOnly_law {H : Type} {enc : TypeId × Value → H} {W : World} {base0 base1 base2 : Nat}
    (v0 : Value) (hv0 : Value.okWide Tryz.prog W .any base0 40 v0) {d0 : DataW H} {p0 : List MemPlace} (h0 : DataW.Trod enc Tryz.prog W 0 (fun _ => true) true 40 v0 d0 p0) (hr0 : Reach 40 d0)
    (v1 : Value) (hv1 : Value.okWide Tryz.prog W .any base1 30 v1) {d1 : DataW H} {p1 : List MemPlace} (h1 : DataW.Trod enc Tryz.prog W 0 (fun _ => true) true 30 v1 d1 p1) (hr1 : Reach 30 d1)
    (v2 : Value) (hv2 : Value.okWide Tryz.prog W .any base2 44 v2) {d2 : DataW H} {p2 : List MemPlace} (h2 : DataW.Trod enc Tryz.prog W 0 (fun _ => true) true 44 v2 d2 p2) (hr2 : Reach 44 d2)
    (w : World) (hw : w = W) (hE : DEnv W) :
    Calls Tryz.prog 7 #[v0, v1, v2] w fun e w' => e = .returned (.bool true) ∧ Below w.heap.size w w' := by
  subst hw
  obtain ⟨me, dev, QA, qn, qc, qs, rfl, hQ, hqn, hql⟩ := open_asked hv0 h0 hr0
  obtain ⟨st, re, mi, A, n, c, bo, xs, asd, gt, va, vn, vc, es, rfl, ⟨hR, hn, hl, _, hbo⟩, wa, wg, _⟩ := open_entry hv1 h1 hr1
  obtain ⟨⟨f1, f2⟩, rfl, hf1, hf2⟩ := open_fld_v hv2 h2 hr2
  have hwf : ∀ z : Int, (Lit.int .i64 z).wf = true → -9223372036854775808 ≤ z ∧ z ≤ 9223372036854775807 := by
    intro z hz
    have e1 : IntKind.i64.min = -9223372036854775808 := by decide
    have e2 : IntKind.i64.max = 9223372036854775807 := by decide
    simp [Lit.wf] at hz
    omega
  exact storableOnly_any me dev QA qn qc qs st mi asd gt re bo A va n c vn vc xs f1 f2 w hE hQ (by unfold reachBytes at hqn; omega) (fun f hf => by have := hql f hf; unfold reachBytes at this; omega) hR (by unfold reachBytes at hn; omega) (fun f hf => by have := hl f hf; unfold reachBytes at this; omega) (by unfold reachBytes at hbo; omega) (hwf _ wg)
end Go.Proofs.YtcgdcbnhpbokfaaGreatDoor
