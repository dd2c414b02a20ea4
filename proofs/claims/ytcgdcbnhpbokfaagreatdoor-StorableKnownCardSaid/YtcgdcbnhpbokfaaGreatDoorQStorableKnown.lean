/- Joined out of the texts Of16, May16, StorKnown (wip/tools/merge.py). -/
import Derived.Test.YtcgdcbnhpbokfaaGreatDoorPz5
import Derived.Deep.RegionHeld3
import Derived.IntWalk
/- The walk of the law's of (layer 16). -/
namespace Go.Proofs.YtcgdcbnhpbokfaaGreatDoor
open Go.RowKit
theorem take_snocP {α : Type} (l : List α) (k : Nat) (h : k < l.length) : l.take (k + 1) = l.take k ++ [l[k]] := List.take_succ_eq_append_getElem h

def ofP : List (List UInt8) → List Fld
  | a :: b :: r => (a, b) :: ofP r
  | _ => []
theorem ofP_len : ∀ ls : List (List UInt8), (ofP ls).length = ls.length / 2
  | [] => rfl
  | [_] => by simp [ofP]
  | a :: b :: r => by rw [ofP, List.length_cons, ofP_len r, List.length_cons, List.length_cons]; omega
theorem ofP_at : ∀ (ls : List (List UInt8)) (k : Nat) (h : k < (ofP ls).length), ∃ (h1 : 2 * k < ls.length) (h2 : 2 * k + 1 < ls.length), (ofP ls)[k] = (ls[2 * k], ls[2 * k + 1])
  | [], k, h => by simp [ofP] at h
  | [_], k, h => by simp [ofP] at h
  | a :: b :: r, 0, h => ⟨by simp, by simp, rfl⟩
  | a :: b :: r, k + 1, h => by
    obtain ⟨h1, h2, e⟩ := ofP_at r k (by simpa [ofP] using h)
    refine ⟨by simp; omega, by simp; omega, ?_⟩
    have e1 : (a :: b :: r)[2 * (k + 1)]'(by simp; omega) = r[2 * k] := by
      simp only [show 2 * (k + 1) = 2 * k + 1 + 1 from by omega, List.getElem_cons_succ]
    have e2 : (a :: b :: r)[2 * (k + 1) + 1]'(by simp; omega) = r[2 * k + 1] := by
      simp only [show 2 * (k + 1) + 1 = (2 * k + 1) + 1 + 1 from by omega, List.getElem_cons_succ]
    rw [e1, e2, ← e]; rfl

set_option maxRecDepth 100000 in
set_option maxHeartbeats 4000000 in
theorem of16_any (A : Option Addr) (n c : Nat) (ls : List (List UInt8)) (w : World) (hr : Rd A n 1 (strsV ls) w) (hn : n ≤ 1000000) :
    Calls Tryz.prog 32 #[.slice A n c] w (FieldsPost w (ofP ls)) := by
  obtain rfl := hr.str
  have hB := Below.refl w.heap.size w
  have hlen := ofP_len ls
  have hat := ofP_at ls
  generalize ofP ls = fs at *
  have hle : 2 * fs.length ≤ ls.length := by omega
  have hle2 : ls.length ≤ 2 * fs.length + 1 := by omega
  have HR := Lib.hid hr; have HAT := Lib.hid hat; clear hr hat hlen
  go_enter Tryz.func32, Tryz.ntmps32
  go_wp2
  go_loopw [4, 3] (fun i out wr => ∃ k : Nat, k ≤ fs.length ∧ i = .int .i64 (2 * k : Nat) ∧ Hid (OwnF w.heap.size out (fs.take k) wr) ∧ Below w.heap.size w wr) (fun i _ _ => 2 * fs.length + 1 - (intOf i).toNat)
  case atStart => exact ⟨0, Nat.zero_le _, rfl, Lib.hid (OwnF.nil _ _), hB⟩
  case round =>
    clear hB
    obtain ⟨k, hk, rfl, HO, hbw⟩ := hrel
    by_cases hlt : k < fs.length
    · obtain ⟨h1, h2, hf⟩ := HAT.out k hlt
      obtain ⟨b, o, rfl, hl, c0⟩ := HR.out.str_at (k := 2 * k) h1
      obtain ⟨b', o', e, hl', c1⟩ := HR.out.str_at (k := 2 * k + 1) h2
      cases e
      have hsn := take_snocP fs k hlt
      rw [hf] at hsn
      have hlen : (fs.take k).length ≤ 1000000000 := by rw [List.length_take]; omega
      generalize ls[2 * k] = x at *
      generalize ls[2 * k + 1] = y at *
      obtain ⟨j, hj⟩ : ∃ j, 2 * k = j := ⟨_, rfl⟩
      rw [hj] at h1 h2 c0 c1 ⊢
      have HJ := Lib.hid hj
      have hjn : 2 * (k + 1) = j + 2 := by omega
      have HJN := Lib.hid hjn
      have hmeas : j + 1 ≤ 2 * fs.length := by omega
      clear hj hjn
      have kc : ∀ w', Below w.heap.size w w' → w'.cell? ⟨b, o + j, none⟩ = some (.string ⟨x.toArray⟩) ∧ w'.cell? ⟨b, o + (j + 1), none⟩ = some (.string ⟨y.toArray⟩) ∧ Below w.heap.size w w' := fun w' h => ⟨(h.cell (p := ⟨b, o + j, none⟩) hl).trans c0, (h.cell (p := ⟨b, o + (j + 1), none⟩) hl).trans c1, h⟩
      have KC := Lib.hid kc; have Hsn := Lib.hid hsn; clear kc c0 c1 hsn hf
      go_wp2_with fail
      have j0 : (0 : Int) ≤ (j : Int) := by omega
      have j1 : (j : Int) < (ls.length : Int) := by omega
      have j2 : IntKind.i64.wrap ((j : Int) + 1) = (j : Int) + 1 := IntWalk.i64_in _ (by omega)
      have j3 : (0 : Int) ≤ (j : Int) + 1 := by omega
      have j4 : (j : Int) + 1 < (ls.length : Int) := by omega
      have j5 : ((j : Int) + 1).toNat = j + 1 := by omega
      go_region_held3 (fun w' => w'.cell? ⟨b, o + j, none⟩ = some (.string ⟨x.toArray⟩) ∧ w'.cell? ⟨b, o + (j + 1), none⟩ = some (.string ⟨y.toArray⟩) ∧ Below w.heap.size w w') (first | exact KC.out _ hbw | exact KC.out _ hbw.drew | exact KC.out _ (hbw.drew.alloc hbw.size _) | exact KC.out _ hb5 | assumption) (first | (refine step_fld w.heap.size (x, y) HO.out.drew hbw.size hlen rfl _ _ rfl rfl rfl ?_; intro v' w3 hO3 hb4 _; have hb5 := hbw.drew.trans hb4) | fail)
      have HO3 : Hid (OwnF w.heap.size v' (fs.take (k + 1)) w3) := by rw [Hsn.out]; exact Lib.hid hO3
      clear hO3 j0 j1 j2 j3 j4 j5
      go_wp2
      go_roundw
      case rel => exact ⟨k + 1, by omega, by rw [HJN.out]; go_num, HO3, hb5⟩
      case measure => simp [intOf]; omega
    · have hke : k = fs.length := by omega
      subst hke
      have ho := HO.out
      rw [List.take_length] at ho
      obtain ⟨la, lc, rfl⟩ := ho.shape
      have HO1 := Lib.hid ho; clear ho HO
      go_wp2
      go_ret
      exact ⟨la, lc, rfl, HO1.out, hbw⟩
end Go.Proofs.YtcgdcbnhpbokfaaGreatDoor
/- The walks of the law's may, works (layer 16; printed by wip/tools/known16.py). -/
namespace Go.Proofs.YtcgdcbnhpbokfaaGreatDoor
open Go.RowKit
set_option maxRecDepth 100000

def smallP (ls : List (List UInt8)) : Bool := decide (ls.length ≤ 100) && decide (sumF (ofP ls) ≤ 7500)
set_option maxHeartbeats 4000000 in
theorem may16_any (A : Option Addr) (n c : Nat) (ls : List (List UInt8)) (w : World) (b : Bool) (hE : DEnv w) (hr : Rd A n 1 (strsV ls) w) (hs : smallP ls = true) (hb : mayF mGET [] 200 (ofP ls) 100 [100] = b) :
    Calls Tryz.prog 30 #[.slice A n c] w fun e w' => e = .returned (.bool b) ∧ Below w.heap.size w w' := by
  unfold smallP at hs
  rw [Bool.and_eq_true, decide_eq_true_eq, decide_eq_true_eq] at hs
  have hn := hr.str
  have k1 := of16_any A n c ls w hr (by omega)
  have hlen := ofP_len ls
  have k2 := fun a c' W (hb' : Below w.heap.size w W) (h : Rd a (ofP ls).length 2 (fldsV (ofP ls)) W) => stMay_any ⟨#[71, 69, 84]⟩ ⟨#[100]⟩ none 0 0 [] 200 0 100 100 ⟨#[]⟩ ⟨#[]⟩ a none (ofP ls).length c' 0 0 (ofP ls) W (hE.below hb') Rd.nil (by decide) (by decide) h (by omega) hs.2 (by decide)
  rw [show mayF (⟨#[71, 69, 84]⟩ : ByteArray).data.toList [] 200 (ofP ls) 100 (⟨#[100]⟩ : ByteArray).data.toList = b from hb] at k2
  generalize ofP ls = fs at *
  unfold entV FieldsPost at *
  have K1 := Lib.hid k1; have K2 := Lib.hid k2
  clear k1 k2 hb hr hs hlen hE hn
  go_enter Tryz.func30, Tryz.ntmps30
  go_wp2_with fail
  (with_reducible refine K1.out.mono ?_)
  rintro e w1 ⟨a, c', rfl, ho, hb1⟩
  have R1 := Lib.hid (OwnF.rd ho).2
  clear ho
  go_wp2_with fail
  (with_reducible refine (K2.out _ _ _ hb1 R1.out).mono ?_)
  rintro e w2 ⟨rfl, hb2⟩
  go_wp2
  go_ret
  exact ⟨rfl, bt hb1 hb2⟩
theorem may16_new (ls : List (List UInt8)) (w : World) (b : Bool) (hE : DEnv w) (hs : smallP ls = true) (hb : mayF mGET [] 200 (ofP ls) 100 [100] = b) :
    Calls Tryz.prog 30 #[.slice (some ⟨w.heap.size, 0, none⟩) ls.length ls.length] (w.alloc (.cells (strsV ls).toArray 9)) fun e w' => e = .returned (.bool b) ∧ Below w.heap.size w w' :=
  (may16_any _ _ _ ls _ b (hE.below ((Below.refl w.heap.size w).alloc (Nat.le_refl _) _)) (Rd.newL w ls 9) hs hb).mono fun _ _ ⟨h1, h2⟩ => ⟨h1, ((Below.refl w.heap.size w).alloc (Nat.le_refl _) _).trans (h2.mono (by simp))⟩
theorem mk16_0 (w : World) (hE : DEnv w) : Calls Tryz.prog 30 #[.slice (some ⟨w.heap.size, 0, none⟩) 2 2] (w.alloc (.cells #[.string ⟨#[99, 97, 99, 104, 101, 45, 99, 111, 110, 116, 114, 111, 108]⟩, .string ⟨#[109, 97, 120, 45, 97, 103, 101, 61, 53]⟩] 9)) fun e w' => e = .returned (.bool true) ∧ Below w.heap.size w w' :=
  may16_new [[99, 97, 99, 104, 101, 45, 99, 111, 110, 116, 114, 111, 108], [109, 97, 120, 45, 97, 103, 101, 61, 53]] w true hE (by kernel_rfl) (by kernel_rfl)
theorem mk16_1 (w : World) (hE : DEnv w) : Calls Tryz.prog 30 #[.slice (some ⟨w.heap.size, 0, none⟩) 2 2] (w.alloc (.cells #[.string ⟨#[99, 97, 99, 104, 101, 45, 99, 111, 110, 116, 114, 111, 108]⟩, .string ⟨#[109, 97, 120, 45, 97, 103, 101, 61, 53, 44, 32, 110, 111, 45, 115, 116, 111, 114, 101]⟩] 9)) fun e w' => e = .returned (.bool false) ∧ Below w.heap.size w w' :=
  may16_new [[99, 97, 99, 104, 101, 45, 99, 111, 110, 116, 114, 111, 108], [109, 97, 120, 45, 97, 103, 101, 61, 53, 44, 32, 110, 111, 45, 115, 116, 111, 114, 101]] w false hE (by kernel_rfl) (by kernel_rfl)
theorem mk16_nil (w : World) (hE : DEnv w) : Calls Tryz.prog 30 #[.slice none 0 0] w fun e w' => e = .returned (.bool false) ∧ Below w.heap.size w w' :=
  may16_any none 0 0 [] w false hE Rd.nil (by kernel_rfl) (by kernel_rfl)
set_option maxHeartbeats 8000000 in
theorem works16_any (w0 : World) (hE : DEnv w0) :
    Calls Tryz.prog 24 #[] w0 fun e w' => e = .returned (.bool true) ∧ Below w0.heap.size w0 w' := by
  have HB0 := Lib.hid (Below.refl w0.heap.size w0)
  go_enter Tryz.func24, Tryz.ntmps24
  have kk := mk16_0 w0 (hE.below HB0.out)
  have KK := Lib.hid kk
  clear kk
  go_wp2_with fail
  (with_reducible refine KK.out.mono ?_)
  rintro e w1 ⟨rfl, hb⟩
  have HB1 := Lib.hid (bt HB0.out hb)
  clear hb KK HB0
  have kk := mk16_1 w1 (hE.below HB1.out)
  have KK := Lib.hid kk
  clear kk
  go_wp2_with fail
  (with_reducible refine KK.out.mono ?_)
  rintro e w2 ⟨rfl, hb⟩
  have HB2 := Lib.hid (bt HB1.out hb)
  clear hb KK HB1
  have kk := mk16_nil w2 (hE.below HB2.out)
  have KK := Lib.hid kk
  clear kk
  go_wp2_with fail
  (with_reducible refine KK.out.mono ?_)
  rintro e w3 ⟨rfl, hb⟩
  have HB3 := Lib.hid (bt HB2.out hb)
  clear hb KK HB2
  go_wp2
  go_ret
  exact ⟨rfl, HB3.out⟩
end Go.Proofs.YtcgdcbnhpbokfaaGreatDoor
/- StorableKnown (printed by wip/tools/known16.py). -/
namespace Go.Proofs.YtcgdcbnhpbokfaaGreatDoor
open Go.RowKit
set_option maxRecDepth 100000

theorem mk16_2 (w : World) (hE : DEnv w) : Calls Tryz.prog 30 #[.slice (some ⟨w.heap.size, 0, none⟩) 2 2] (w.alloc (.cells #[.string ⟨#[67, 97, 99, 104, 101, 45, 67, 111, 110, 116, 114, 111, 108]⟩, .string ⟨#[109, 97, 120, 45, 97, 103, 101, 61, 48]⟩] 9)) fun e w' => e = .returned (.bool false) ∧ Below w.heap.size w w' :=
  may16_new [[67, 97, 99, 104, 101, 45, 67, 111, 110, 116, 114, 111, 108], [109, 97, 120, 45, 97, 103, 101, 61, 48]] w false hE (by kernel_rfl) (by kernel_rfl)
theorem mk16_3 (w : World) (hE : DEnv w) : Calls Tryz.prog 30 #[.slice (some ⟨w.heap.size, 0, none⟩) 2 2] (w.alloc (.cells #[.string ⟨#[69, 84, 97, 103]⟩, .string ⟨#[34, 97, 34]⟩] 9)) fun e w' => e = .returned (.bool true) ∧ Below w.heap.size w w' :=
  may16_new [[69, 84, 97, 103], [34, 97, 34]] w true hE (by kernel_rfl) (by kernel_rfl)
theorem mk16_4 (w : World) (hE : DEnv w) : Calls Tryz.prog 30 #[.slice (some ⟨w.heap.size, 0, none⟩) 2 2] (w.alloc (.cells #[.string ⟨#[76, 97, 115, 116, 45, 77, 111, 100, 105, 102, 105, 101, 100]⟩, .string ⟨#[84, 104, 117, 44, 32, 48, 49, 32, 74, 97, 110, 32, 49, 57, 55, 48, 32, 48, 48, 58, 48, 48, 58, 53, 48, 32, 71, 77, 84]⟩] 9)) fun e w' => e = .returned (.bool true) ∧ Below w.heap.size w w' :=
  may16_new [[76, 97, 115, 116, 45, 77, 111, 100, 105, 102, 105, 101, 100], [84, 104, 117, 44, 32, 48, 49, 32, 74, 97, 110, 32, 49, 57, 55, 48, 32, 48, 48, 58, 48, 48, 58, 53, 48, 32, 71, 77, 84]] w true hE (by kernel_rfl) (by kernel_rfl)
theorem mk16_5 (w : World) (hE : DEnv w) : Calls Tryz.prog 30 #[.slice (some ⟨w.heap.size, 0, none⟩) 2 2] (w.alloc (.cells #[.string ⟨#[69, 84, 97, 103]⟩, .string ⟨#[97]⟩] 9)) fun e w' => e = .returned (.bool false) ∧ Below w.heap.size w w' :=
  may16_new [[69, 84, 97, 103], [97]] w false hE (by kernel_rfl) (by kernel_rfl)
theorem mk16_6 (w : World) (hE : DEnv w) : Calls Tryz.prog 30 #[.slice (some ⟨w.heap.size, 0, none⟩) 2 2] (w.alloc (.cells #[.string ⟨#[99, 97, 99, 104, 101, 45, 99, 111, 110, 116, 114, 111, 108]⟩, .string ⟨#[112, 114, 105, 118, 97, 116, 101, 44, 32, 109, 97, 120, 45, 97, 103, 101, 61, 53]⟩] 9)) fun e w' => e = .returned (.bool false) ∧ Below w.heap.size w w' :=
  may16_new [[99, 97, 99, 104, 101, 45, 99, 111, 110, 116, 114, 111, 108], [112, 114, 105, 118, 97, 116, 101, 44, 32, 109, 97, 120, 45, 97, 103, 101, 61, 53]] w false hE (by kernel_rfl) (by kernel_rfl)
theorem mk16_7 (w : World) (hE : DEnv w) : Calls Tryz.prog 30 #[.slice (some ⟨w.heap.size, 0, none⟩) 2 2] (w.alloc (.cells #[.string ⟨#[99, 97, 99, 104, 101, 45, 99, 111, 110, 116, 114, 111, 108]⟩, .string ⟨#[109, 97, 120, 45, 97, 103, 101, 61, 53, 44, 32, 34]⟩] 9)) fun e w' => e = .returned (.bool false) ∧ Below w.heap.size w w' :=
  may16_new [[99, 97, 99, 104, 101, 45, 99, 111, 110, 116, 114, 111, 108], [109, 97, 120, 45, 97, 103, 101, 61, 53, 44, 32, 34]] w false hE (by kernel_rfl) (by kernel_rfl)
theorem mk16_8 (w : World) (hE : DEnv w) : Calls Tryz.prog 30 #[.slice (some ⟨w.heap.size, 0, none⟩) 2 2] (w.alloc (.cells #[.string ⟨#[115, 117, 114, 114, 111, 103, 97, 116, 101, 45, 99, 111, 110, 116, 114, 111, 108]⟩, .string ⟨#[109, 97, 120, 45, 97, 103, 101, 61, 53]⟩] 9)) fun e w' => e = .returned (.bool true) ∧ Below w.heap.size w w' :=
  may16_new [[115, 117, 114, 114, 111, 103, 97, 116, 101, 45, 99, 111, 110, 116, 114, 111, 108], [109, 97, 120, 45, 97, 103, 101, 61, 53]] w true hE (by kernel_rfl) (by kernel_rfl)
theorem mk16_9 (w : World) (hE : DEnv w) : Calls Tryz.prog 30 #[.slice (some ⟨w.heap.size, 0, none⟩) 2 2] (w.alloc (.cells #[.string ⟨#[115, 117, 114, 114, 111, 103, 97, 116, 101, 45, 99, 111, 110, 116, 114, 111, 108]⟩, .string ⟨#[109, 97, 120, 45, 97, 103, 101, 61, 53, 44, 32, 110, 111, 45, 115, 116, 111, 114, 101, 59, 100]⟩] 9)) fun e w' => e = .returned (.bool false) ∧ Below w.heap.size w w' :=
  may16_new [[115, 117, 114, 114, 111, 103, 97, 116, 101, 45, 99, 111, 110, 116, 114, 111, 108], [109, 97, 120, 45, 97, 103, 101, 61, 53, 44, 32, 110, 111, 45, 115, 116, 111, 114, 101, 59, 100]] w false hE (by kernel_rfl) (by kernel_rfl)
theorem mk16_10 (w : World) (hE : DEnv w) : Calls Tryz.prog 30 #[.slice (some ⟨w.heap.size, 0, none⟩) 2 2] (w.alloc (.cells #[.string ⟨#[115, 117, 114, 114, 111, 103, 97, 116, 101, 45, 99, 111, 110, 116, 114, 111, 108]⟩, .string ⟨#[109, 97, 120, 45, 97, 103, 101, 61, 53, 44, 32, 110, 111, 45, 115, 116, 111, 114, 101, 59, 101]⟩] 9)) fun e w' => e = .returned (.bool true) ∧ Below w.heap.size w w' :=
  may16_new [[115, 117, 114, 114, 111, 103, 97, 116, 101, 45, 99, 111, 110, 116, 114, 111, 108], [109, 97, 120, 45, 97, 103, 101, 61, 53, 44, 32, 110, 111, 45, 115, 116, 111, 114, 101, 59, 101]] w true hE (by kernel_rfl) (by kernel_rfl)
theorem mk16_11 (w : World) (hE : DEnv w) : Calls Tryz.prog 30 #[.slice (some ⟨w.heap.size, 0, none⟩) 4 4] (w.alloc (.cells #[.string ⟨#[99, 97, 99, 104, 101, 45, 99, 111, 110, 116, 114, 111, 108]⟩, .string ⟨#[109, 97, 120, 45, 97, 103, 101, 61, 53]⟩, .string ⟨#[118, 97, 114, 121]⟩, .string ⟨#[42]⟩] 9)) fun e w' => e = .returned (.bool false) ∧ Below w.heap.size w w' :=
  may16_new [[99, 97, 99, 104, 101, 45, 99, 111, 110, 116, 114, 111, 108], [109, 97, 120, 45, 97, 103, 101, 61, 53], [118, 97, 114, 121], [42]] w false hE (by kernel_rfl) (by kernel_rfl)
theorem mk16_12 (w : World) (hE : DEnv w) : Calls Tryz.prog 30 #[.slice (some ⟨w.heap.size, 0, none⟩) 4 4] (w.alloc (.cells #[.string ⟨#[99, 97, 99, 104, 101, 45, 99, 111, 110, 116, 114, 111, 108]⟩, .string ⟨#[109, 97, 120, 45, 97, 103, 101, 61, 53]⟩, .string ⟨#[118, 97, 114, 121]⟩, .string ⟨#[97]⟩] 9)) fun e w' => e = .returned (.bool true) ∧ Below w.heap.size w w' :=
  may16_new [[99, 97, 99, 104, 101, 45, 99, 111, 110, 116, 114, 111, 108], [109, 97, 120, 45, 97, 103, 101, 61, 53], [118, 97, 114, 121], [97]] w true hE (by kernel_rfl) (by kernel_rfl)
theorem mk16_13 (w : World) (hE : DEnv w) : Calls Tryz.prog 30 #[.slice (some ⟨w.heap.size, 0, none⟩) 4 4] (w.alloc (.cells #[.string ⟨#[115, 117, 114, 114, 111, 103, 97, 116, 101, 45, 99, 111, 110, 116, 114, 111, 108]⟩, .string ⟨#[109, 97, 120, 45, 97, 103, 101, 61, 53]⟩, .string ⟨#[99, 97, 99, 104, 101, 45, 99, 111, 110, 116, 114, 111, 108]⟩, .string ⟨#[110, 111, 45, 115, 116, 111, 114, 101]⟩] 9)) fun e w' => e = .returned (.bool false) ∧ Below w.heap.size w w' :=
  may16_new [[115, 117, 114, 114, 111, 103, 97, 116, 101, 45, 99, 111, 110, 116, 114, 111, 108], [109, 97, 120, 45, 97, 103, 101, 61, 53], [99, 97, 99, 104, 101, 45, 99, 111, 110, 116, 114, 111, 108], [110, 111, 45, 115, 116, 111, 114, 101]] w false hE (by kernel_rfl) (by kernel_rfl)
theorem dput50 (w : World) (hE : DEnv w) : Calls Tryz.prog 31 #[.int .i64 50] w fun e w' => e = .returned (.string ⟨#[84, 104, 117, 44, 32, 48, 49, 32, 74, 97, 110, 32, 49, 57, 55, 48, 32, 48, 48, 58, 48, 48, 58, 53, 48, 32, 71, 77, 84]⟩) ∧ Below w.heap.size w w' := by
  have k := dput_in 50 w hE (by decide)
  rwa [show (⟨(dputL 50).toArray⟩ : ByteArray) = ⟨#[84, 104, 117, 44, 32, 48, 49, 32, 74, 97, 110, 32, 49, 57, 55, 48, 32, 48, 48, 58, 48, 48, 58, 53, 48, 32, 71, 77, 84]⟩ from by kernel_rfl] at k
def fE : List (List UInt8) := [[99, 97, 99, 104, 101, 45, 99, 111, 110, 116, 114, 111, 108], [109, 97, 120, 45, 97, 103, 101, 61, 53]]
def fP : List (List UInt8) := [[99, 97, 99, 104, 101, 45, 99, 111, 110, 116, 114, 111, 108], [109, 97, 120, 45, 97, 103, 101, 61, 53, 44, 32, 112, 117, 98, 108, 105, 99]]
def fS : List (List UInt8) := [[65, 117, 116, 104, 111, 114, 105, 122, 97, 116, 105, 111, 110], [120]]
def fN : List (List UInt8) := [[99, 97, 99, 104, 101, 45, 99, 111, 110, 116, 114, 111, 108], [78, 111, 45, 83, 116, 111, 114, 101]]
def fC : List (List UInt8) := [[99, 111, 111, 107, 105, 101], [97, 61, 98]]
theorem of16_new (ls : List (List UInt8)) (k : Nat) (hk : ls.length = k) (h : ls.length ≤ 1000000) (fs : List Fld) (hf : ofP ls = fs) (w : World) :
    Calls Tryz.prog 32 #[.slice (some ⟨w.heap.size, 0, none⟩) k k] (w.alloc (.cells (strsV ls).toArray 9)) fun e w' => ∃ a cap, e = .returned (.slice a fs.length cap) ∧ Rd a fs.length 2 (fldsV fs) w' ∧ Below w.heap.size w w' := by
  subst hk
  subst hf
  refine (of16_any _ _ _ ls _ (Rd.newL w ls 9) h).mono ?_
  rintro e w' ⟨a, cap, rfl, ho, hb⟩
  exact ⟨a, cap, rfl, (OwnF.rd ho).2, bt ((Below.refl w.heap.size w).alloc (Nat.le_refl _) _) hb⟩
theorem of_fE (w : World) : Calls Tryz.prog 32 #[.slice (some ⟨w.heap.size, 0, none⟩) 2 2] (w.alloc (.cells #[.string ⟨#[99, 97, 99, 104, 101, 45, 99, 111, 110, 116, 114, 111, 108]⟩, .string ⟨#[109, 97, 120, 45, 97, 103, 101, 61, 53]⟩] 9)) fun e w' => ∃ a cap, e = .returned (.slice a 1 cap) ∧ Rd a 1 2 (fldsV [([99, 97, 99, 104, 101, 45, 99, 111, 110, 116, 114, 111, 108], [109, 97, 120, 45, 97, 103, 101, 61, 53])]) w' ∧ Below w.heap.size w w' :=
  of16_new fE 2 rfl (by decide) [([99, 97, 99, 104, 101, 45, 99, 111, 110, 116, 114, 111, 108], [109, 97, 120, 45, 97, 103, 101, 61, 53])] rfl w
theorem of_fP (w : World) : Calls Tryz.prog 32 #[.slice (some ⟨w.heap.size, 0, none⟩) 2 2] (w.alloc (.cells #[.string ⟨#[99, 97, 99, 104, 101, 45, 99, 111, 110, 116, 114, 111, 108]⟩, .string ⟨#[109, 97, 120, 45, 97, 103, 101, 61, 53, 44, 32, 112, 117, 98, 108, 105, 99]⟩] 9)) fun e w' => ∃ a cap, e = .returned (.slice a 1 cap) ∧ Rd a 1 2 (fldsV [([99, 97, 99, 104, 101, 45, 99, 111, 110, 116, 114, 111, 108], [109, 97, 120, 45, 97, 103, 101, 61, 53, 44, 32, 112, 117, 98, 108, 105, 99])]) w' ∧ Below w.heap.size w w' :=
  of16_new fP 2 rfl (by decide) [([99, 97, 99, 104, 101, 45, 99, 111, 110, 116, 114, 111, 108], [109, 97, 120, 45, 97, 103, 101, 61, 53, 44, 32, 112, 117, 98, 108, 105, 99])] rfl w
theorem of_fS (w : World) : Calls Tryz.prog 32 #[.slice (some ⟨w.heap.size, 0, none⟩) 2 2] (w.alloc (.cells #[.string ⟨#[65, 117, 116, 104, 111, 114, 105, 122, 97, 116, 105, 111, 110]⟩, .string ⟨#[120]⟩] 9)) fun e w' => ∃ a cap, e = .returned (.slice a 1 cap) ∧ Rd a 1 2 (fldsV [([65, 117, 116, 104, 111, 114, 105, 122, 97, 116, 105, 111, 110], [120])]) w' ∧ Below w.heap.size w w' :=
  of16_new fS 2 rfl (by decide) [([65, 117, 116, 104, 111, 114, 105, 122, 97, 116, 105, 111, 110], [120])] rfl w
theorem of_fN (w : World) : Calls Tryz.prog 32 #[.slice (some ⟨w.heap.size, 0, none⟩) 2 2] (w.alloc (.cells #[.string ⟨#[99, 97, 99, 104, 101, 45, 99, 111, 110, 116, 114, 111, 108]⟩, .string ⟨#[78, 111, 45, 83, 116, 111, 114, 101]⟩] 9)) fun e w' => ∃ a cap, e = .returned (.slice a 1 cap) ∧ Rd a 1 2 (fldsV [([99, 97, 99, 104, 101, 45, 99, 111, 110, 116, 114, 111, 108], [78, 111, 45, 83, 116, 111, 114, 101])]) w' ∧ Below w.heap.size w w' :=
  of16_new fN 2 rfl (by decide) [([99, 97, 99, 104, 101, 45, 99, 111, 110, 116, 114, 111, 108], [78, 111, 45, 83, 116, 111, 114, 101])] rfl w
theorem of_fC (w : World) : Calls Tryz.prog 32 #[.slice (some ⟨w.heap.size, 0, none⟩) 2 2] (w.alloc (.cells #[.string ⟨#[99, 111, 111, 107, 105, 101]⟩, .string ⟨#[97, 61, 98]⟩] 9)) fun e w' => ∃ a cap, e = .returned (.slice a 1 cap) ∧ Rd a 1 2 (fldsV [([99, 111, 111, 107, 105, 101], [97, 61, 98])]) w' ∧ Below w.heap.size w w' :=
  of16_new fC 2 rfl (by decide) [([99, 111, 111, 107, 105, 101], [97, 61, 98])] rfl w
theorem may16_m1 (QA : Option Addr) (qc : Nat) (A : Option Addr) (c : Nat) (w : World) (hE : DEnv w) (hq : Rd QA 1 2 (fldsV [([65, 117, 116, 104, 111, 114, 105, 122, 97, 116, 105, 111, 110], [120])]) w) (hr : Rd A 1 2 (fldsV [([99, 97, 99, 104, 101, 45, 99, 111, 110, 116, 114, 111, 108], [109, 97, 120, 45, 97, 103, 101, 61, 53])]) w) :
    Calls Tryz.prog 25 #[.string ⟨#[71, 69, 84]⟩, .slice QA 1 qc, .agg #[.int .i64 200, .string ⟨#[]⟩, .int .i64 0, .slice A 1 c, .string ⟨#[]⟩, .int .i64 0, .int .i64 0, .slice none 0 0], .string ⟨#[100]⟩] w fun e w' => e = .returned (.bool false) ∧ Below w.heap.size w w' := by
  have k := stMay_any ⟨#[71, 69, 84]⟩ ⟨#[100]⟩ QA 1 qc [([65, 117, 116, 104, 111, 114, 105, 122, 97, 116, 105, 111, 110], [120])] 200 0 0 0 ⟨#[]⟩ ⟨#[]⟩ A none 1 c 0 0 [([99, 97, 99, 104, 101, 45, 99, 111, 110, 116, 114, 111, 108], [109, 97, 120, 45, 97, 103, 101, 61, 53])] w hE hq (by decide) (by decide +kernel) hr (by decide) (by decide +kernel) (by decide)
  rwa [show mayF (⟨#[71, 69, 84]⟩ : ByteArray).data.toList [([65, 117, 116, 104, 111, 114, 105, 122, 97, 116, 105, 111, 110], [120])] 200 [([99, 97, 99, 104, 101, 45, 99, 111, 110, 116, 114, 111, 108], [109, 97, 120, 45, 97, 103, 101, 61, 53])] 0 (⟨#[100]⟩ : ByteArray).data.toList = false from by kernel_rfl] at k
theorem may16_m2 (QA : Option Addr) (qc : Nat) (A : Option Addr) (c : Nat) (w : World) (hE : DEnv w) (hq : Rd QA 1 2 (fldsV [([65, 117, 116, 104, 111, 114, 105, 122, 97, 116, 105, 111, 110], [120])]) w) (hr : Rd A 1 2 (fldsV [([99, 97, 99, 104, 101, 45, 99, 111, 110, 116, 114, 111, 108], [109, 97, 120, 45, 97, 103, 101, 61, 53, 44, 32, 112, 117, 98, 108, 105, 99])]) w) :
    Calls Tryz.prog 25 #[.string ⟨#[71, 69, 84]⟩, .slice QA 1 qc, .agg #[.int .i64 200, .string ⟨#[]⟩, .int .i64 0, .slice A 1 c, .string ⟨#[]⟩, .int .i64 0, .int .i64 0, .slice none 0 0], .string ⟨#[100]⟩] w fun e w' => e = .returned (.bool true) ∧ Below w.heap.size w w' := by
  have k := stMay_any ⟨#[71, 69, 84]⟩ ⟨#[100]⟩ QA 1 qc [([65, 117, 116, 104, 111, 114, 105, 122, 97, 116, 105, 111, 110], [120])] 200 0 0 0 ⟨#[]⟩ ⟨#[]⟩ A none 1 c 0 0 [([99, 97, 99, 104, 101, 45, 99, 111, 110, 116, 114, 111, 108], [109, 97, 120, 45, 97, 103, 101, 61, 53, 44, 32, 112, 117, 98, 108, 105, 99])] w hE hq (by decide) (by decide +kernel) hr (by decide) (by decide +kernel) (by decide)
  rwa [show mayF (⟨#[71, 69, 84]⟩ : ByteArray).data.toList [([65, 117, 116, 104, 111, 114, 105, 122, 97, 116, 105, 111, 110], [120])] 200 [([99, 97, 99, 104, 101, 45, 99, 111, 110, 116, 114, 111, 108], [109, 97, 120, 45, 97, 103, 101, 61, 53, 44, 32, 112, 117, 98, 108, 105, 99])] 0 (⟨#[100]⟩ : ByteArray).data.toList = true from by kernel_rfl] at k
theorem may16_m3 (A : Option Addr) (c : Nat) (w : World) (hE : DEnv w) (hr : Rd A 1 2 (fldsV [([99, 97, 99, 104, 101, 45, 99, 111, 110, 116, 114, 111, 108], [109, 97, 120, 45, 97, 103, 101, 61, 53])]) w) :
    Calls Tryz.prog 25 #[.string ⟨#[71, 69, 84]⟩, .slice none 0 0, .agg #[.int .i64 302, .string ⟨#[]⟩, .int .i64 0, .slice A 1 c, .string ⟨#[]⟩, .int .i64 0, .int .i64 0, .slice none 0 0], .string ⟨#[100]⟩] w fun e w' => e = .returned (.bool false) ∧ Below w.heap.size w w' := by
  have k := stMay_any ⟨#[71, 69, 84]⟩ ⟨#[100]⟩ none 0 0 [] 302 0 0 0 ⟨#[]⟩ ⟨#[]⟩ A none 1 c 0 0 [([99, 97, 99, 104, 101, 45, 99, 111, 110, 116, 114, 111, 108], [109, 97, 120, 45, 97, 103, 101, 61, 53])] w hE Rd.nil (by decide) (by decide) hr (by decide) (by decide +kernel) (by decide)
  rwa [show mayF (⟨#[71, 69, 84]⟩ : ByteArray).data.toList [] 302 [([99, 97, 99, 104, 101, 45, 99, 111, 110, 116, 114, 111, 108], [109, 97, 120, 45, 97, 103, 101, 61, 53])] 0 (⟨#[100]⟩ : ByteArray).data.toList = false from by kernel_rfl] at k
theorem may16_m4 (A : Option Addr) (c : Nat) (w : World) (hE : DEnv w) (hr : Rd A 1 2 (fldsV [([99, 97, 99, 104, 101, 45, 99, 111, 110, 116, 114, 111, 108], [109, 97, 120, 45, 97, 103, 101, 61, 53])]) w) :
    Calls Tryz.prog 25 #[.string ⟨#[72, 69, 65, 68]⟩, .slice none 0 0, .agg #[.int .i64 200, .string ⟨#[]⟩, .int .i64 0, .slice A 1 c, .string ⟨#[]⟩, .int .i64 0, .int .i64 0, .slice none 0 0], .string ⟨#[100]⟩] w fun e w' => e = .returned (.bool false) ∧ Below w.heap.size w w' := by
  have k := stMay_any ⟨#[72, 69, 65, 68]⟩ ⟨#[100]⟩ none 0 0 [] 200 0 0 0 ⟨#[]⟩ ⟨#[]⟩ A none 1 c 0 0 [([99, 97, 99, 104, 101, 45, 99, 111, 110, 116, 114, 111, 108], [109, 97, 120, 45, 97, 103, 101, 61, 53])] w hE Rd.nil (by decide) (by decide) hr (by decide) (by decide +kernel) (by decide)
  rwa [show mayF (⟨#[72, 69, 65, 68]⟩ : ByteArray).data.toList [] 200 [([99, 97, 99, 104, 101, 45, 99, 111, 110, 116, 114, 111, 108], [109, 97, 120, 45, 97, 103, 101, 61, 53])] 0 (⟨#[100]⟩ : ByteArray).data.toList = false from by kernel_rfl] at k
theorem may16_m5 (A : Option Addr) (c : Nat) (w : World) (hE : DEnv w) (hr : Rd A 1 2 (fldsV [([99, 97, 99, 104, 101, 45, 99, 111, 110, 116, 114, 111, 108], [109, 97, 120, 45, 97, 103, 101, 61, 53])]) w) :
    Calls Tryz.prog 25 #[.string ⟨#[103, 101, 116]⟩, .slice none 0 0, .agg #[.int .i64 200, .string ⟨#[]⟩, .int .i64 0, .slice A 1 c, .string ⟨#[]⟩, .int .i64 0, .int .i64 0, .slice none 0 0], .string ⟨#[100]⟩] w fun e w' => e = .returned (.bool false) ∧ Below w.heap.size w w' := by
  have k := stMay_any ⟨#[103, 101, 116]⟩ ⟨#[100]⟩ none 0 0 [] 200 0 0 0 ⟨#[]⟩ ⟨#[]⟩ A none 1 c 0 0 [([99, 97, 99, 104, 101, 45, 99, 111, 110, 116, 114, 111, 108], [109, 97, 120, 45, 97, 103, 101, 61, 53])] w hE Rd.nil (by decide) (by decide) hr (by decide) (by decide +kernel) (by decide)
  rwa [show mayF (⟨#[103, 101, 116]⟩ : ByteArray).data.toList [] 200 [([99, 97, 99, 104, 101, 45, 99, 111, 110, 116, 114, 111, 108], [109, 97, 120, 45, 97, 103, 101, 61, 53])] 0 (⟨#[100]⟩ : ByteArray).data.toList = false from by kernel_rfl] at k
theorem may16_m6 (QA : Option Addr) (qc : Nat) (A : Option Addr) (c : Nat) (w : World) (hE : DEnv w) (hq : Rd QA 1 2 (fldsV [([99, 97, 99, 104, 101, 45, 99, 111, 110, 116, 114, 111, 108], [78, 111, 45, 83, 116, 111, 114, 101])]) w) (hr : Rd A 1 2 (fldsV [([99, 97, 99, 104, 101, 45, 99, 111, 110, 116, 114, 111, 108], [109, 97, 120, 45, 97, 103, 101, 61, 53])]) w) :
    Calls Tryz.prog 25 #[.string ⟨#[71, 69, 84]⟩, .slice QA 1 qc, .agg #[.int .i64 200, .string ⟨#[]⟩, .int .i64 0, .slice A 1 c, .string ⟨#[]⟩, .int .i64 0, .int .i64 0, .slice none 0 0], .string ⟨#[100]⟩] w fun e w' => e = .returned (.bool false) ∧ Below w.heap.size w w' := by
  have k := stMay_any ⟨#[71, 69, 84]⟩ ⟨#[100]⟩ QA 1 qc [([99, 97, 99, 104, 101, 45, 99, 111, 110, 116, 114, 111, 108], [78, 111, 45, 83, 116, 111, 114, 101])] 200 0 0 0 ⟨#[]⟩ ⟨#[]⟩ A none 1 c 0 0 [([99, 97, 99, 104, 101, 45, 99, 111, 110, 116, 114, 111, 108], [109, 97, 120, 45, 97, 103, 101, 61, 53])] w hE hq (by decide) (by decide +kernel) hr (by decide) (by decide +kernel) (by decide)
  rwa [show mayF (⟨#[71, 69, 84]⟩ : ByteArray).data.toList [([99, 97, 99, 104, 101, 45, 99, 111, 110, 116, 114, 111, 108], [78, 111, 45, 83, 116, 111, 114, 101])] 200 [([99, 97, 99, 104, 101, 45, 99, 111, 110, 116, 114, 111, 108], [109, 97, 120, 45, 97, 103, 101, 61, 53])] 0 (⟨#[100]⟩ : ByteArray).data.toList = false from by kernel_rfl] at k
theorem may16_m7 (QA : Option Addr) (qc : Nat) (A : Option Addr) (c : Nat) (w : World) (hE : DEnv w) (hq : Rd QA 1 2 (fldsV [([99, 111, 111, 107, 105, 101], [97, 61, 98])]) w) (hr : Rd A 1 2 (fldsV [([99, 97, 99, 104, 101, 45, 99, 111, 110, 116, 114, 111, 108], [109, 97, 120, 45, 97, 103, 101, 61, 53])]) w) :
    Calls Tryz.prog 25 #[.string ⟨#[71, 69, 84]⟩, .slice QA 1 qc, .agg #[.int .i64 200, .string ⟨#[]⟩, .int .i64 0, .slice A 1 c, .string ⟨#[]⟩, .int .i64 0, .int .i64 0, .slice none 0 0], .string ⟨#[100]⟩] w fun e w' => e = .returned (.bool true) ∧ Below w.heap.size w w' := by
  have k := stMay_any ⟨#[71, 69, 84]⟩ ⟨#[100]⟩ QA 1 qc [([99, 111, 111, 107, 105, 101], [97, 61, 98])] 200 0 0 0 ⟨#[]⟩ ⟨#[]⟩ A none 1 c 0 0 [([99, 97, 99, 104, 101, 45, 99, 111, 110, 116, 114, 111, 108], [109, 97, 120, 45, 97, 103, 101, 61, 53])] w hE hq (by decide) (by decide +kernel) hr (by decide) (by decide +kernel) (by decide)
  rwa [show mayF (⟨#[71, 69, 84]⟩ : ByteArray).data.toList [([99, 111, 111, 107, 105, 101], [97, 61, 98])] 200 [([99, 97, 99, 104, 101, 45, 99, 111, 110, 116, 114, 111, 108], [109, 97, 120, 45, 97, 103, 101, 61, 53])] 0 (⟨#[100]⟩ : ByteArray).data.toList = true from by kernel_rfl] at k
set_option maxHeartbeats 32000000 in
theorem storableKnown_any (w0 : World) (hE : DEnv w0) :
    Calls Tryz.prog 8 #[] w0 fun e w' => e = .returned (.bool true) ∧ Below w0.heap.size w0 w' := by
  have HB0 := Lib.hid (Below.refl w0.heap.size w0)
  go_enter Tryz.func8, Tryz.ntmps8
  have kk := works16_any w0 (hE.below HB0.out)
  have KK := Lib.hid kk
  clear kk
  go_wp2_with fail
  (with_reducible refine KK.out.mono ?_)
  rintro e w1 ⟨rfl, hb⟩
  have HB1 := Lib.hid (bt HB0.out hb)
  clear hb KK HB0
  have kk := mk16_2 w1 (hE.below HB1.out)
  have KK := Lib.hid kk
  clear kk
  go_wp2_with fail
  (with_reducible refine KK.out.mono ?_)
  rintro e w2 ⟨rfl, hb⟩
  have HB2 := Lib.hid (bt HB1.out hb)
  clear hb KK HB1
  have kk := mk16_3 w2 (hE.below HB2.out)
  have KK := Lib.hid kk
  clear kk
  go_wp2_with fail
  (with_reducible refine KK.out.mono ?_)
  rintro e w3 ⟨rfl, hb⟩
  have HB3 := Lib.hid (bt HB2.out hb)
  clear hb KK HB2
  have kk := dput50 w3 (hE.below HB3.out)
  have KK := Lib.hid kk
  clear kk
  go_wp2_with fail
  (with_reducible refine KK.out.mono ?_)
  rintro e w4 ⟨rfl, hb⟩
  have HB4 := Lib.hid (bt HB3.out hb)
  clear hb KK HB3
  have kk := mk16_4 w4 (hE.below HB4.out)
  have KK := Lib.hid kk
  clear kk
  go_wp2_with fail
  (with_reducible refine KK.out.mono ?_)
  rintro e w5 ⟨rfl, hb⟩
  have HB5 := Lib.hid (bt HB4.out hb)
  clear hb KK HB4
  have kk := mk16_5 w5 (hE.below HB5.out)
  have KK := Lib.hid kk
  clear kk
  go_wp2_with fail
  (with_reducible refine KK.out.mono ?_)
  rintro e w6 ⟨rfl, hb⟩
  have HB6 := Lib.hid (bt HB5.out hb)
  clear hb KK HB5
  have kk := mk16_6 w6 (hE.below HB6.out)
  have KK := Lib.hid kk
  clear kk
  go_wp2_with fail
  (with_reducible refine KK.out.mono ?_)
  rintro e w7 ⟨rfl, hb⟩
  have HB7 := Lib.hid (bt HB6.out hb)
  clear hb KK HB6
  have kk := mk16_7 w7 (hE.below HB7.out)
  have KK := Lib.hid kk
  clear kk
  go_wp2_with fail
  (with_reducible refine KK.out.mono ?_)
  rintro e w8 ⟨rfl, hb⟩
  have HB8 := Lib.hid (bt HB7.out hb)
  clear hb KK HB7
  have kk := mk16_8 w8 (hE.below HB8.out)
  have KK := Lib.hid kk
  clear kk
  go_wp2_with fail
  (with_reducible refine KK.out.mono ?_)
  rintro e w9 ⟨rfl, hb⟩
  have HB9 := Lib.hid (bt HB8.out hb)
  clear hb KK HB8
  have kk := mk16_9 w9 (hE.below HB9.out)
  have KK := Lib.hid kk
  clear kk
  go_wp2_with fail
  (with_reducible refine KK.out.mono ?_)
  rintro e w10 ⟨rfl, hb⟩
  have HB10 := Lib.hid (bt HB9.out hb)
  clear hb KK HB9
  have kk := mk16_10 w10 (hE.below HB10.out)
  have KK := Lib.hid kk
  clear kk
  go_wp2_with fail
  (with_reducible refine KK.out.mono ?_)
  rintro e w11 ⟨rfl, hb⟩
  have HB11 := Lib.hid (bt HB10.out hb)
  clear hb KK HB10
  have kk := mk16_11 w11 (hE.below HB11.out)
  have KK := Lib.hid kk
  clear kk
  go_wp2_with fail
  (with_reducible refine KK.out.mono ?_)
  rintro e w12 ⟨rfl, hb⟩
  have HB12 := Lib.hid (bt HB11.out hb)
  clear hb KK HB11
  have kk := mk16_12 w12 (hE.below HB12.out)
  have KK := Lib.hid kk
  clear kk
  go_wp2_with fail
  (with_reducible refine KK.out.mono ?_)
  rintro e w13 ⟨rfl, hb⟩
  have HB13 := Lib.hid (bt HB12.out hb)
  clear hb KK HB12
  have kk := mk16_13 w13 (hE.below HB13.out)
  have KK := Lib.hid kk
  clear kk
  go_wp2_with fail
  (with_reducible refine KK.out.mono ?_)
  rintro e w14 ⟨rfl, hb⟩
  have HB14 := Lib.hid (bt HB13.out hb)
  clear hb KK HB13
  have kk := of_fE w14
  have KK := Lib.hid kk
  clear kk
  go_wp2_with fail
  (with_reducible refine KK.out.mono ?_)
  rintro e u0 ⟨a0, c0, rfl, hr0, hb⟩
  have HQ := Lib.hid (bt HB14.out hb)
  clear hb KK HB14
  have R0 := Lib.hid hr0
  clear hr0
  obtain ⟨V0, hV⟩ : ∃ W, u0.alloc (.cells #[.int .i64 200, .string ⟨#[]⟩, .int .i64 0, .slice a0 1 c0, .string ⟨#[]⟩, .int .i64 0, .int .i64 0, .slice none 0 0] 30) = W := ⟨_, rfl⟩
  have bv : Below u0.heap.size u0 V0 := by rw [← hV]; exact (Below.refl u0.heap.size u0).alloc (Nat.le_refl _) _
  have X0 : Hid (EntAt u0.heap.size 200 ⟨#[]⟩ 0 a0 1 c0 ⟨#[]⟩ 0 0 none 0 0 V0) := Lib.hid (by rw [← hV]; exact heap_new u0 _ _ rfl)
  replace R0 := Lib.hid (R0.out.below bv)
  have HE0 := Lib.hid (bt HQ.out bv)
  have HV := Lib.hid hV
  clear hV bv HQ
  go_upto_region 6 with (fail)
  rw [HV.out]
  clear HV
  have kk := of_fP V0
  have KK := Lib.hid kk
  clear kk
  go_wp2_with fail
  (with_reducible refine KK.out.mono ?_)
  rintro e u1 ⟨a1, c1, rfl, hr1, hb⟩
  replace R0 := Lib.hid (R0.out.below hb)
  replace X0 := Lib.hid (X0.out.below hb)
  have HQ := Lib.hid (bt HE0.out hb)
  clear hb KK HE0
  have R1 := Lib.hid hr1
  clear hr1
  obtain ⟨V1, hV⟩ : ∃ W, u1.alloc (.cells #[.int .i64 200, .string ⟨#[]⟩, .int .i64 0, .slice a1 1 c1, .string ⟨#[]⟩, .int .i64 0, .int .i64 0, .slice none 0 0] 30) = W := ⟨_, rfl⟩
  have bv : Below u1.heap.size u1 V1 := by rw [← hV]; exact (Below.refl u1.heap.size u1).alloc (Nat.le_refl _) _
  have X1 : Hid (EntAt u1.heap.size 200 ⟨#[]⟩ 0 a1 1 c1 ⟨#[]⟩ 0 0 none 0 0 V1) := Lib.hid (by rw [← hV]; exact heap_new u1 _ _ rfl)
  replace R1 := Lib.hid (R1.out.below bv)
  replace R0 := Lib.hid (R0.out.below bv)
  replace X0 := Lib.hid (X0.out.below bv)
  have HE1 := Lib.hid (bt HQ.out bv)
  have HV := Lib.hid hV
  clear hV bv HQ
  go_upto_region 7 with (fail)
  rw [HV.out]
  clear HV
  have kk := of_fE V1
  have KK := Lib.hid kk
  clear kk
  go_wp2_with fail
  (with_reducible refine KK.out.mono ?_)
  rintro e u2 ⟨a2, c2, rfl, hr2, hb⟩
  replace R0 := Lib.hid (R0.out.below hb)
  replace X0 := Lib.hid (X0.out.below hb)
  replace R1 := Lib.hid (R1.out.below hb)
  replace X1 := Lib.hid (X1.out.below hb)
  have HQ := Lib.hid (bt HE1.out hb)
  clear hb KK HE1
  have R2 := Lib.hid hr2
  clear hr2
  obtain ⟨V2, hV⟩ : ∃ W, u2.alloc (.cells #[.int .i64 302, .string ⟨#[]⟩, .int .i64 0, .slice a2 1 c2, .string ⟨#[]⟩, .int .i64 0, .int .i64 0, .slice none 0 0] 30) = W := ⟨_, rfl⟩
  have bv : Below u2.heap.size u2 V2 := by rw [← hV]; exact (Below.refl u2.heap.size u2).alloc (Nat.le_refl _) _
  have X2 : Hid (EntAt u2.heap.size 302 ⟨#[]⟩ 0 a2 1 c2 ⟨#[]⟩ 0 0 none 0 0 V2) := Lib.hid (by rw [← hV]; exact heap_new u2 _ _ rfl)
  replace R2 := Lib.hid (R2.out.below bv)
  replace R0 := Lib.hid (R0.out.below bv)
  replace X0 := Lib.hid (X0.out.below bv)
  replace R1 := Lib.hid (R1.out.below bv)
  replace X1 := Lib.hid (X1.out.below bv)
  have HE2 := Lib.hid (bt HQ.out bv)
  have HV := Lib.hid hV
  clear hV bv HQ
  go_upto_region 8 with (fail)
  rw [HV.out]
  clear HV
  have kk := of_fS V2
  have KK := Lib.hid kk
  clear kk
  go_wp2_with fail
  (with_reducible refine KK.out.mono ?_)
  rintro e us ⟨qs, ds, rfl, hr, hb⟩
  replace R0 := Lib.hid (R0.out.below hb)
  replace X0 := Lib.hid (X0.out.below hb)
  replace R1 := Lib.hid (R1.out.below hb)
  replace X1 := Lib.hid (X1.out.below hb)
  replace R2 := Lib.hid (R2.out.below hb)
  replace X2 := Lib.hid (X2.out.below hb)
  have HUs := Lib.hid (bt HE2.out hb)
  clear hb KK HE2
  have RQs := Lib.hid hr
  clear hr
  have kc : ∀ w', Below us.heap.size us w' → w'.cell? ⟨u0.heap.size, 0, none⟩ = some (.int .i64 200) ∧ w'.cell? ⟨u0.heap.size, 1, none⟩ = some (.string ⟨#[]⟩) ∧ w'.cell? ⟨u0.heap.size, 2, none⟩ = some (.int .i64 0) ∧ w'.cell? ⟨u0.heap.size, 3, none⟩ = some (.slice a0 1 c0) ∧ w'.cell? ⟨u0.heap.size, 4, none⟩ = some (.string ⟨#[]⟩) ∧ w'.cell? ⟨u0.heap.size, 5, none⟩ = some (.int .i64 0) ∧ w'.cell? ⟨u0.heap.size, 6, none⟩ = some (.int .i64 0) ∧ w'.cell? ⟨u0.heap.size, 7, none⟩ = some (.slice none 0 0) ∧ w'.cell? ⟨u1.heap.size, 0, none⟩ = some (.int .i64 200) ∧ w'.cell? ⟨u1.heap.size, 1, none⟩ = some (.string ⟨#[]⟩) ∧ w'.cell? ⟨u1.heap.size, 2, none⟩ = some (.int .i64 0) ∧ w'.cell? ⟨u1.heap.size, 3, none⟩ = some (.slice a1 1 c1) ∧ w'.cell? ⟨u1.heap.size, 4, none⟩ = some (.string ⟨#[]⟩) ∧ w'.cell? ⟨u1.heap.size, 5, none⟩ = some (.int .i64 0) ∧ w'.cell? ⟨u1.heap.size, 6, none⟩ = some (.int .i64 0) ∧ w'.cell? ⟨u1.heap.size, 7, none⟩ = some (.slice none 0 0) ∧ w'.cell? ⟨u2.heap.size, 0, none⟩ = some (.int .i64 302) ∧ w'.cell? ⟨u2.heap.size, 1, none⟩ = some (.string ⟨#[]⟩) ∧ w'.cell? ⟨u2.heap.size, 2, none⟩ = some (.int .i64 0) ∧ w'.cell? ⟨u2.heap.size, 3, none⟩ = some (.slice a2 1 c2) ∧ w'.cell? ⟨u2.heap.size, 4, none⟩ = some (.string ⟨#[]⟩) ∧ w'.cell? ⟨u2.heap.size, 5, none⟩ = some (.int .i64 0) ∧ w'.cell? ⟨u2.heap.size, 6, none⟩ = some (.int .i64 0) ∧ w'.cell? ⟨u2.heap.size, 7, none⟩ = some (.slice none 0 0) ∧ Below us.heap.size us w' := fun w' h => by
    obtain ⟨x0, x1, x2, x3, x4, x5, x6, x7, _⟩ := (X0.out.below h).cells
    obtain ⟨y0, y1, y2, y3, y4, y5, y6, y7, _⟩ := (X1.out.below h).cells
    obtain ⟨z0, z1, z2, z3, z4, z5, z6, z7, _⟩ := (X2.out.below h).cells
    exact ⟨x0, x1, x2, x3, x4, x5, x6, x7, y0, y1, y2, y3, y4, y5, y6, y7, z0, z1, z2, z3, z4, z5, z6, z7, h⟩
  have km1 := fun W (hb : Below us.heap.size us W) => may16_m1 qs ds a0 c0 W (hE.below (bt HUs.out hb)) (RQs.out.below hb) (R0.out.below hb)
  have km2 := fun W (hb : Below us.heap.size us W) => may16_m2 qs ds a1 c1 W (hE.below (bt HUs.out hb)) (RQs.out.below hb) (R1.out.below hb)
  have km3 := fun W (hb : Below us.heap.size us W) => may16_m3 a2 c2 W (hE.below (bt HUs.out hb)) (R2.out.below hb)
  have km4 := fun W (hb : Below us.heap.size us W) => may16_m4 a0 c0 W (hE.below (bt HUs.out hb)) (R0.out.below hb)
  have km5 := fun W (hb : Below us.heap.size us W) => may16_m5 a0 c0 W (hE.below (bt HUs.out hb)) (R0.out.below hb)
  have km6 := fun q d W (hb : Below us.heap.size us W) hq => may16_m6 q d a0 c0 W (hE.below (bt HUs.out hb)) hq (R0.out.below hb)
  have km7 := fun q d W (hb : Below us.heap.size us W) hq => may16_m7 q d a0 c0 W (hE.below (bt HUs.out hb)) hq (R0.out.below hb)
  have kwk := fun W (hb : Below us.heap.size us W) => works16_any W (hE.below (bt HUs.out hb))
  have KC := Lib.hid kc; have KM1 := Lib.hid km1; have KM2 := Lib.hid km2; have KM3 := Lib.hid km3; have KM4 := Lib.hid km4; have KM5 := Lib.hid km5; have KM6 := Lib.hid km6; have KM7 := Lib.hid km7; have KWK := Lib.hid kwk
  have hB0 : Below us.heap.size us us.drew := (Below.refl _ _).drew
  clear kc km1 km2 km3 km4 km5 km6 km7 kwk RQs R0 R1 R2 X0 X1 X2
  go_wp2_with fail
  refine wp_region_held_drew (S := (fun w' => w'.cell? ⟨u0.heap.size, 0, none⟩ = some (.int .i64 200) ∧ w'.cell? ⟨u0.heap.size, 1, none⟩ = some (.string ⟨#[]⟩) ∧ w'.cell? ⟨u0.heap.size, 2, none⟩ = some (.int .i64 0) ∧ w'.cell? ⟨u0.heap.size, 3, none⟩ = some (.slice a0 1 c0) ∧ w'.cell? ⟨u0.heap.size, 4, none⟩ = some (.string ⟨#[]⟩) ∧ w'.cell? ⟨u0.heap.size, 5, none⟩ = some (.int .i64 0) ∧ w'.cell? ⟨u0.heap.size, 6, none⟩ = some (.int .i64 0) ∧ w'.cell? ⟨u0.heap.size, 7, none⟩ = some (.slice none 0 0) ∧ w'.cell? ⟨u1.heap.size, 0, none⟩ = some (.int .i64 200) ∧ w'.cell? ⟨u1.heap.size, 1, none⟩ = some (.string ⟨#[]⟩) ∧ w'.cell? ⟨u1.heap.size, 2, none⟩ = some (.int .i64 0) ∧ w'.cell? ⟨u1.heap.size, 3, none⟩ = some (.slice a1 1 c1) ∧ w'.cell? ⟨u1.heap.size, 4, none⟩ = some (.string ⟨#[]⟩) ∧ w'.cell? ⟨u1.heap.size, 5, none⟩ = some (.int .i64 0) ∧ w'.cell? ⟨u1.heap.size, 6, none⟩ = some (.int .i64 0) ∧ w'.cell? ⟨u1.heap.size, 7, none⟩ = some (.slice none 0 0) ∧ w'.cell? ⟨u2.heap.size, 0, none⟩ = some (.int .i64 302) ∧ w'.cell? ⟨u2.heap.size, 1, none⟩ = some (.string ⟨#[]⟩) ∧ w'.cell? ⟨u2.heap.size, 2, none⟩ = some (.int .i64 0) ∧ w'.cell? ⟨u2.heap.size, 3, none⟩ = some (.slice a2 1 c2) ∧ w'.cell? ⟨u2.heap.size, 4, none⟩ = some (.string ⟨#[]⟩) ∧ w'.cell? ⟨u2.heap.size, 5, none⟩ = some (.int .i64 0) ∧ w'.cell? ⟨u2.heap.size, 6, none⟩ = some (.int .i64 0) ∧ w'.cell? ⟨u2.heap.size, 7, none⟩ = some (.slice none 0 0) ∧ Below us.heap.size us w')) (by kernel_rfl) (KC.out _ hB0) (fun hHeld => ?_)
  refine tkS 0 hHeld ?_
  try simp only [Act.put, ps1, ps2, ps3]
  refine tkS 1 hHeld ?_
  try simp only [Act.put, ps1, ps2, ps3]
  refine wpAnyH_ready (rs := [2]) (by kernel_rfl) (by simp) (AllReadyH.cons (by simp only [List.getElem?_toArray, List.getElem?_cons_succ, List.getElem?_cons_zero]; exact rfl) (fun K hK => ?_) AllReadyH.nil)
  rw [if_pos (by rfl)]
  go_simp
  (with_reducible refine (KM1.out _ hB0).mono ?_); rintro e t1 ⟨rfl, hb1⟩; have hB1 := bt hB0 hb1; go_wp2_with fail
  refine hK.out _ _ (KC.out _ hB1) (fun hHeld => ?_)
  clear hK K
  try simp only [Act.put, ps1, ps2, ps3]
  refine tkS 3 hHeld ?_
  try simp only [Act.put, ps1, ps2, ps3]
  refine tkS 4 hHeld ?_
  try simp only [Act.put, ps1, ps2, ps3]
  refine tkS 5 hHeld ?_
  try simp only [Act.put, ps1, ps2, ps3]
  refine tkS 6 hHeld ?_
  try simp only [Act.put, ps1, ps2, ps3]
  refine wpAnyH_ready (rs := [7]) (by kernel_rfl) (by simp) (AllReadyH.cons (by simp only [List.getElem?_toArray, List.getElem?_cons_succ, List.getElem?_cons_zero]; exact rfl) (fun K hK => ?_) AllReadyH.nil)
  rw [if_pos (by rfl)]
  go_simp
  (with_reducible refine (KM2.out _ hB1).mono ?_); rintro e t2 ⟨rfl, hb2⟩; have hB2 := bt hB1 hb2; go_wp2_with fail
  refine hK.out _ _ (KC.out _ hB2) (fun hHeld => ?_)
  clear hK K
  try simp only [Act.put, ps1, ps2, ps3]
  refine tkS 8 hHeld ?_
  try simp only [Act.put, ps1, ps2, ps3]
  refine tkS 9 hHeld ?_
  try simp only [Act.put, ps1, ps2, ps3]
  refine tkS 10 hHeld ?_
  try simp only [Act.put, ps1, ps2, ps3]
  refine wpAnyH_ready (rs := [11]) (by kernel_rfl) (by simp) (AllReadyH.cons (by simp only [List.getElem?_toArray, List.getElem?_cons_succ, List.getElem?_cons_zero]; exact rfl) (fun K hK => ?_) AllReadyH.nil)
  rw [if_pos (by rfl)]
  go_simp
  (with_reducible refine (KM3.out _ hB2).mono ?_); rintro e t3 ⟨rfl, hb3⟩; have hB3 := bt hB2 hb3; go_wp2_with fail
  refine hK.out _ _ (KC.out _ hB3) (fun hHeld => ?_)
  clear hK K
  try simp only [Act.put, ps1, ps2, ps3]
  refine tkS 12 hHeld ?_
  try simp only [Act.put, ps1, ps2, ps3]
  refine tkS 13 hHeld ?_
  try simp only [Act.put, ps1, ps2, ps3]
  refine tkS 14 hHeld ?_
  try simp only [Act.put, ps1, ps2, ps3]
  refine tkS 15 hHeld ?_
  try simp only [Act.put, ps1, ps2, ps3]
  refine wpAnyH_ready (rs := [16]) (by kernel_rfl) (by simp) (AllReadyH.cons (by simp only [List.getElem?_toArray, List.getElem?_cons_succ, List.getElem?_cons_zero]; exact rfl) (fun K hK => ?_) AllReadyH.nil)
  rw [if_pos (by rfl)]
  go_simp
  (with_reducible refine (KM4.out _ hB3).mono ?_); rintro e t4 ⟨rfl, hb4⟩; have hB4 := bt hB3 hb4; go_wp2_with fail
  refine hK.out _ _ (KC.out _ hB4) (fun hHeld => ?_)
  clear hK K
  try simp only [Act.put, ps1, ps2, ps3]
  refine tkS 17 hHeld ?_
  try simp only [Act.put, ps1, ps2, ps3]
  refine tkS 18 hHeld ?_
  try simp only [Act.put, ps1, ps2, ps3]
  refine tkS 19 hHeld ?_
  try simp only [Act.put, ps1, ps2, ps3]
  refine tkS 20 hHeld ?_
  try simp only [Act.put, ps1, ps2, ps3]
  refine wpAnyH_ready (rs := [21]) (by kernel_rfl) (by simp) (AllReadyH.cons (by simp only [List.getElem?_toArray, List.getElem?_cons_succ, List.getElem?_cons_zero]; exact rfl) (fun K hK => ?_) AllReadyH.nil)
  rw [if_pos (by rfl)]
  go_simp
  (with_reducible refine (KM5.out _ hB4).mono ?_); rintro e t5 ⟨rfl, hb5⟩; have hB5 := bt hB4 hb5; go_wp2_with fail
  refine hK.out _ _ (KC.out _ hB5) (fun hHeld => ?_)
  clear hK K
  try simp only [Act.put, ps1, ps2, ps3]
  refine tkS 22 hHeld ?_
  try simp only [Act.put, ps1, ps2, ps3]
  refine tkS 23 hHeld ?_
  try simp only [Act.put, ps1, ps2, ps3]
  refine tkS 24 hHeld ?_
  try simp only [Act.put, ps1, ps2, ps3]
  refine tkS 27 hHeld ?_
  try simp only [Act.put, ps1, ps2, ps3]
  refine wpAnyH_ready (rs := [25]) (by kernel_rfl) (by simp) (AllReadyH.cons (by simp only [List.getElem?_toArray, List.getElem?_cons_succ, List.getElem?_cons_zero]; exact rfl) (fun K hK => ?_) AllReadyH.nil)
  rw [if_pos (by rfl)]
  go_simp
  skip
  refine hK.out _ _ (KC.out _ (hB5.alloc hB5.size (.cells #[.string ⟨#[99, 97, 99, 104, 101, 45, 99, 111, 110, 116, 114, 111, 108]⟩, .string ⟨#[78, 111, 45, 83, 116, 111, 114, 101]⟩] 9))) (fun hHeld => ?_)
  clear hK K
  try simp only [Act.put, ps1, ps2, ps3]
  refine wpAnyH_ready (rs := [26]) (by kernel_rfl) (by simp) (AllReadyH.cons (by simp only [List.getElem?_toArray, List.getElem?_cons_succ, List.getElem?_cons_zero]; exact rfl) (fun K hK => ?_) AllReadyH.nil)
  rw [if_pos (by rfl)]
  go_simp
  (with_reducible refine (of_fN t5).mono ?_); rintro e t6 ⟨q6, d6, rfl, hr6, hb6⟩; have hB6 := bt hB5 hb6; go_wp2_with fail
  refine hK.out _ _ (KC.out _ hB6) (fun hHeld => ?_)
  clear hK K
  try simp only [Act.put, ps1, ps2, ps3]
  refine wpAnyH_ready (rs := [28]) (by kernel_rfl) (by simp) (AllReadyH.cons (by simp only [List.getElem?_toArray, List.getElem?_cons_succ, List.getElem?_cons_zero]; exact rfl) (fun K hK => ?_) AllReadyH.nil)
  rw [if_pos (by rfl)]
  go_simp
  (with_reducible refine (KM6.out q6 d6 _ hB6 hr6).mono ?_); rintro e t7 ⟨rfl, hb7⟩; have hB7 := bt hB6 hb7; go_wp2_with fail
  refine hK.out _ _ (KC.out _ hB7) (fun hHeld => ?_)
  clear hK K
  try simp only [Act.put, ps1, ps2, ps3]
  refine tkS 29 hHeld ?_
  try simp only [Act.put, ps1, ps2, ps3]
  refine tkS 30 hHeld ?_
  try simp only [Act.put, ps1, ps2, ps3]
  refine tkS 31 hHeld ?_
  try simp only [Act.put, ps1, ps2, ps3]
  refine tkS 34 hHeld ?_
  try simp only [Act.put, ps1, ps2, ps3]
  refine wpAnyH_ready (rs := [32]) (by kernel_rfl) (by simp) (AllReadyH.cons (by simp only [List.getElem?_toArray, List.getElem?_cons_succ, List.getElem?_cons_zero]; exact rfl) (fun K hK => ?_) AllReadyH.nil)
  rw [if_pos (by rfl)]
  go_simp
  skip
  refine hK.out _ _ (KC.out _ (hB7.alloc hB7.size (.cells #[.string ⟨#[99, 111, 111, 107, 105, 101]⟩, .string ⟨#[97, 61, 98]⟩] 9))) (fun hHeld => ?_)
  clear hK K
  try simp only [Act.put, ps1, ps2, ps3]
  refine wpAnyH_ready (rs := [33]) (by kernel_rfl) (by simp) (AllReadyH.cons (by simp only [List.getElem?_toArray, List.getElem?_cons_succ, List.getElem?_cons_zero]; exact rfl) (fun K hK => ?_) AllReadyH.nil)
  rw [if_pos (by rfl)]
  go_simp
  (with_reducible refine (of_fC t7).mono ?_); rintro e t8 ⟨q8, d8, rfl, hr8, hb8⟩; have hB8 := bt hB7 hb8; go_wp2_with fail
  refine hK.out _ _ (KC.out _ hB8) (fun hHeld => ?_)
  clear hK K
  try simp only [Act.put, ps1, ps2, ps3]
  refine wpAnyH_ready (rs := [35]) (by kernel_rfl) (by simp) (AllReadyH.cons (by simp only [List.getElem?_toArray, List.getElem?_cons_succ, List.getElem?_cons_zero]; exact rfl) (fun K hK => ?_) AllReadyH.nil)
  rw [if_pos (by rfl)]
  go_simp
  (with_reducible refine (KM7.out q8 d8 _ hB8 hr8).mono ?_); rintro e t9 ⟨rfl, hb9⟩; have hB9 := bt hB8 hb9; go_wp2_with fail
  refine hK.out _ _ (KC.out _ hB9) (fun hHeld => ?_)
  clear hK K
  try simp only [Act.put, ps1, ps2, ps3]
  refine tkS 36 hHeld ?_
  try simp only [Act.put, ps1, ps2, ps3]
  refine tkS 37 hHeld ?_
  try simp only [Act.put, ps1, ps2, ps3]
  refine wpAnyH_ready (rs := [38]) (by kernel_rfl) (by simp) (AllReadyH.cons (by simp only [List.getElem?_toArray, List.getElem?_cons_succ, List.getElem?_cons_zero]; exact rfl) (fun K hK => ?_) AllReadyH.nil)
  rw [if_pos (by rfl)]
  go_simp
  (with_reducible refine (KWK.out _ hB9).mono ?_); rintro e t10 ⟨rfl, hb10⟩; have hB10 := bt hB9 hb10; go_wp2_with fail
  refine hK.out _ _ (KC.out _ hB10) (fun hHeld => ?_)
  clear hK K
  try simp only [Act.put, ps1, ps2, ps3]
  refine tkS 39 hHeld ?_
  try simp only [Act.put, ps1, ps2, ps3]
  refine tkS 40 hHeld ?_
  try simp only [Act.put, List.setIfInBounds_toArray, List.set_cons_zero]
  refine wpAnyH_done (by kernel_rfl) ?_ _
  clear hHeld
  go_wp2
  go_ret
  exact ⟨rfl, bt HUs.out hB10⟩
theorem storableKnown_law (w : World) (h : DEnv w) : Calls Tryz.prog 8 #[] w fun e w' => e = .returned (.bool true) ∧ Below w.heap.size w w' := storableKnown_any w h
end Go.Proofs.YtcgdcbnhpbokfaaGreatDoor
