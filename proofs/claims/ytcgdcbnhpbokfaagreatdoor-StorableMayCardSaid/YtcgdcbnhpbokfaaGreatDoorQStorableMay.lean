/- Joined out of the texts OpenAsk, Of16, May16, In15, RNames, EtagB, EtagTag, EtagR, RefStor, StorMayL (wip/tools/merge.py). -/
import Derived.Test.YtcgdcbnhpbokfaaGreatDoorPz6
import Derived.Deep.RegionHeld3
import Derived.IntWalk
/- A question that came in by value (method, device, fields), opened (printed by wip/tools/stmayl.py). -/
namespace Go.Proofs.YtcgdcbnhpbokfaaGreatDoor
open Go.ChangeShapes Go.WideShapes Go.RowKit
set_option maxRecDepth 100000

section
variable {H : Type} {enc : TypeId × Value → H} {W : World}
theorem three16_of {α : Type} : ∀ (l : List α), l.length = 3 → ∃ a b c, l = [a, b, c]
  | [a, b, c], _ => ⟨a, b, c, rfl⟩
theorem open_asked {base : Nat} {v : Value} {d : DataW H} {p : List MemPlace} (hv : Value.okWide Tryz.prog W .any base 40 v) (h : DataW.Trod enc Tryz.prog W 0 (fun _ => true) true 40 v d p) (hr : Reach 40 d) :
    ∃ (me dev : ByteArray) (A : Option Addr) (n c : Nat) (xs : List Fld), v = .agg #[.string me, .string dev, .slice A n c] ∧ Rd A n 2 (fldsV xs) W ∧ n * 32 ≤ reachBytes ∧ (∀ f ∈ xs, f.1.length ≤ reachBytes ∧ f.2.length ≤ reachBytes) := by
  obtain ⟨cs, rfl, hsz⟩ := okWide_struct Tryz.underlying40 hv
  obtain ⟨fuel, hf⟩ := h
  obtain ⟨l⟩ := cs
  have hf' : DataW.trod enc Tryz.prog W 0 (fun _ => true) true fuel 40 l = some (d, p) := hf
  have hc3 : Tryz.prog.cellsOf 40 = 3 := by kernel_rfl
  have hcs : Tryz.prog.cellsOf 9 = 1 := by kernel_rfl
  have hcf : Tryz.prog.cellsOf 22 = 1 := by kernel_rfl
  obtain ⟨ys, n', _, hx, hcl, hyl, hg⟩ := DataW.trod_struct Tryz.underlying40 hf'
  obtain ⟨c0, c1, c2, rfl⟩ := three16_of l (hcl.trans hc3)
  obtain ⟨y0, y1, y2, rfl⟩ := three16_of ys hyl
  have g0 : DataW.trod enc Tryz.prog W 0 (fun _ => true) true n' 9 (([c0, c1, c2].drop 0).take (Tryz.prog.cellsOf 9)) = some y0 := hg 0 _ rfl
  have g1 : DataW.trod enc Tryz.prog W 0 (fun _ => true) true n' 9 (([c0, c1, c2].drop 1).take (Tryz.prog.cellsOf 9)) = some y1 := hg 1 _ rfl
  have g2 : DataW.trod enc Tryz.prog W 0 (fun _ => true) true n' 22 (([c0, c1, c2].drop 2).take (Tryz.prog.cellsOf 22)) = some y2 := hg 2 _ rfl
  rw [hcs] at g0 g1
  rw [hcf] at g2
  have hd : d = .agg [y0.1, y1.1, y2.1] := (Prod.mk.inj hx).1
  rw [hd] at hr
  have r2 : Reach 22 y2.1 := reach_part Tryz.underlying40 hr (j := 2) rfl rfl
  obtain ⟨s0, e0, _⟩ := DataW.trod_string Tryz.underlying9 (cs := [c0]) g0
  obtain ⟨s1, e1, _⟩ := DataW.trod_string Tryz.underlying9 (cs := [c1]) g1
  obtain ⟨A, n, c, xs, e2, hR, hn, hl⟩ := open_flds (cs := [c2]) g2 r2
  simp only [List.cons.injEq, and_true] at e0 e1 e2
  subst e0; subst e1; subst e2
  exact ⟨s0, s1, A, n, c, xs, rfl, hR, hn, hl⟩
end
end Go.Proofs.YtcgdcbnhpbokfaaGreatDoor
/- The walk of the law's of (layer 16). -/
namespace Go.Proofs.YtcgdcbnhpbokfaaGreatDoor
open Go.RowKit
theorem take_snocP {α : Type} (l : List α) (k : Nat) (h : k < l.length) : l.take (k + 1) = l.take k ++ [l[k]] := List.take_succ_eq_append_getElem h

def ofP : List (List UInt8) → List Fld
  | a :: b :: r => (a, b) :: ofP r
  | _ => []
theorem ofP_len : ∀ ls : List (List UInt8), (ofP ls).length = ls.length / 2
  | [] => rfl
  | [_] => by simp [ofP]
  | a :: b :: r => by rw [ofP, List.length_cons, ofP_len r, List.length_cons, List.length_cons]; omega
theorem ofP_at : ∀ (ls : List (List UInt8)) (k : Nat) (h : k < (ofP ls).length), ∃ (h1 : 2 * k < ls.length) (h2 : 2 * k + 1 < ls.length), (ofP ls)[k] = (ls[2 * k], ls[2 * k + 1])
  | [], k, h => by simp [ofP] at h
  | [_], k, h => by simp [ofP] at h
  | a :: b :: r, 0, h => ⟨by simp, by simp, rfl⟩
  | a :: b :: r, k + 1, h => by
    obtain ⟨h1, h2, e⟩ := ofP_at r k (by simpa [ofP] using h)
    refine ⟨by simp; omega, by simp; omega, ?_⟩
    have e1 : (a :: b :: r)[2 * (k + 1)]'(by simp; omega) = r[2 * k] := by
      simp only [show 2 * (k + 1) = 2 * k + 1 + 1 from by omega, List.getElem_cons_succ]
    have e2 : (a :: b :: r)[2 * (k + 1) + 1]'(by simp; omega) = r[2 * k + 1] := by
      simp only [show 2 * (k + 1) + 1 = (2 * k + 1) + 1 + 1 from by omega, List.getElem_cons_succ]
    rw [e1, e2, ← e]; rfl

set_option maxRecDepth 100000 in
set_option maxHeartbeats 4000000 in
theorem of16_any (A : Option Addr) (n c : Nat) (ls : List (List UInt8)) (w : World) (hr : Rd A n 1 (strsV ls) w) (hn : n ≤ 1000000) :
    Calls Tryz.prog 32 #[.slice A n c] w (FieldsPost w (ofP ls)) := by
  obtain rfl := hr.str
  have hB := Below.refl w.heap.size w
  have hlen := ofP_len ls
  have hat := ofP_at ls
  generalize ofP ls = fs at *
  have hle : 2 * fs.length ≤ ls.length := by omega
  have hle2 : ls.length ≤ 2 * fs.length + 1 := by omega
  have HR := Lib.hid hr; have HAT := Lib.hid hat; clear hr hat hlen
  go_enter Tryz.func32, Tryz.ntmps32
  go_wp2
  go_loopw [4, 3] (fun i out wr => ∃ k : Nat, k ≤ fs.length ∧ i = .int .i64 (2 * k : Nat) ∧ Hid (OwnF w.heap.size out (fs.take k) wr) ∧ Below w.heap.size w wr) (fun i _ _ => 2 * fs.length + 1 - (intOf i).toNat)
  case atStart => exact ⟨0, Nat.zero_le _, rfl, Lib.hid (OwnF.nil _ _), hB⟩
  case round =>
    clear hB
    obtain ⟨k, hk, rfl, HO, hbw⟩ := hrel
    by_cases hlt : k < fs.length
    · obtain ⟨h1, h2, hf⟩ := HAT.out k hlt
      obtain ⟨b, o, rfl, hl, c0⟩ := HR.out.str_at (k := 2 * k) h1
      obtain ⟨b', o', e, hl', c1⟩ := HR.out.str_at (k := 2 * k + 1) h2
      cases e
      have hsn := take_snocP fs k hlt
      rw [hf] at hsn
      have hlen : (fs.take k).length ≤ 1000000000 := by rw [List.length_take]; omega
      generalize ls[2 * k] = x at *
      generalize ls[2 * k + 1] = y at *
      obtain ⟨j, hj⟩ : ∃ j, 2 * k = j := ⟨_, rfl⟩
      rw [hj] at h1 h2 c0 c1 ⊢
      have HJ := Lib.hid hj
      have hjn : 2 * (k + 1) = j + 2 := by omega
      have HJN := Lib.hid hjn
      have hmeas : j + 1 ≤ 2 * fs.length := by omega
      clear hj hjn
      have kc : ∀ w', Below w.heap.size w w' → w'.cell? ⟨b, o + j, none⟩ = some (.string ⟨x.toArray⟩) ∧ w'.cell? ⟨b, o + (j + 1), none⟩ = some (.string ⟨y.toArray⟩) ∧ Below w.heap.size w w' := fun w' h => ⟨(h.cell (p := ⟨b, o + j, none⟩) hl).trans c0, (h.cell (p := ⟨b, o + (j + 1), none⟩) hl).trans c1, h⟩
      have KC := Lib.hid kc; have Hsn := Lib.hid hsn; clear kc c0 c1 hsn hf
      go_wp2_with fail
      have j0 : (0 : Int) ≤ (j : Int) := by omega
      have j1 : (j : Int) < (ls.length : Int) := by omega
      have j2 : IntKind.i64.wrap ((j : Int) + 1) = (j : Int) + 1 := IntWalk.i64_in _ (by omega)
      have j3 : (0 : Int) ≤ (j : Int) + 1 := by omega
      have j4 : (j : Int) + 1 < (ls.length : Int) := by omega
      have j5 : ((j : Int) + 1).toNat = j + 1 := by omega
      go_region_held3 (fun w' => w'.cell? ⟨b, o + j, none⟩ = some (.string ⟨x.toArray⟩) ∧ w'.cell? ⟨b, o + (j + 1), none⟩ = some (.string ⟨y.toArray⟩) ∧ Below w.heap.size w w') (first | exact KC.out _ hbw | exact KC.out _ hbw.drew | exact KC.out _ (hbw.drew.alloc hbw.size _) | exact KC.out _ hb5 | assumption) (first | (refine step_fld w.heap.size (x, y) HO.out.drew hbw.size hlen rfl _ _ rfl rfl rfl ?_; intro v' w3 hO3 hb4 _; have hb5 := hbw.drew.trans hb4) | fail)
      have HO3 : Hid (OwnF w.heap.size v' (fs.take (k + 1)) w3) := by rw [Hsn.out]; exact Lib.hid hO3
      clear hO3 j0 j1 j2 j3 j4 j5
      go_wp2
      go_roundw
      case rel => exact ⟨k + 1, by omega, by rw [HJN.out]; go_num, HO3, hb5⟩
      case measure => simp [intOf]; omega
    · have hke : k = fs.length := by omega
      subst hke
      have ho := HO.out
      rw [List.take_length] at ho
      obtain ⟨la, lc, rfl⟩ := ho.shape
      have HO1 := Lib.hid ho; clear ho HO
      go_wp2
      go_ret
      exact ⟨la, lc, rfl, HO1.out, hbw⟩
end Go.Proofs.YtcgdcbnhpbokfaaGreatDoor
/- The walks of the law's may, works (layer 16; printed by wip/tools/known16.py). -/
namespace Go.Proofs.YtcgdcbnhpbokfaaGreatDoor
open Go.RowKit
set_option maxRecDepth 100000

def smallP (ls : List (List UInt8)) : Bool := decide (ls.length ≤ 100) && decide (sumF (ofP ls) ≤ 7500)
set_option maxHeartbeats 4000000 in
theorem may16_any (A : Option Addr) (n c : Nat) (ls : List (List UInt8)) (w : World) (b : Bool) (hE : DEnv w) (hr : Rd A n 1 (strsV ls) w) (hs : smallP ls = true) (hb : mayF mGET [] 200 (ofP ls) 100 [100] = b) :
    Calls Tryz.prog 30 #[.slice A n c] w fun e w' => e = .returned (.bool b) ∧ Below w.heap.size w w' := by
  unfold smallP at hs
  rw [Bool.and_eq_true, decide_eq_true_eq, decide_eq_true_eq] at hs
  have hn := hr.str
  have k1 := of16_any A n c ls w hr (by omega)
  have hlen := ofP_len ls
  have k2 := fun a c' W (hb' : Below w.heap.size w W) (h : Rd a (ofP ls).length 2 (fldsV (ofP ls)) W) => stMay_any ⟨#[71, 69, 84]⟩ ⟨#[100]⟩ none 0 0 [] 200 0 100 100 ⟨#[]⟩ ⟨#[]⟩ a none (ofP ls).length c' 0 0 (ofP ls) W (hE.below hb') Rd.nil (by decide) (by decide) h (by omega) hs.2 (by decide)
  rw [show mayF (⟨#[71, 69, 84]⟩ : ByteArray).data.toList [] 200 (ofP ls) 100 (⟨#[100]⟩ : ByteArray).data.toList = b from hb] at k2
  generalize ofP ls = fs at *
  unfold entV FieldsPost at *
  have K1 := Lib.hid k1; have K2 := Lib.hid k2
  clear k1 k2 hb hr hs hlen hE hn
  go_enter Tryz.func30, Tryz.ntmps30
  go_wp2_with fail
  (with_reducible refine K1.out.mono ?_)
  rintro e w1 ⟨a, c', rfl, ho, hb1⟩
  have R1 := Lib.hid (OwnF.rd ho).2
  clear ho
  go_wp2_with fail
  (with_reducible refine (K2.out _ _ _ hb1 R1.out).mono ?_)
  rintro e w2 ⟨rfl, hb2⟩
  go_wp2
  go_ret
  exact ⟨rfl, bt hb1 hb2⟩
theorem may16_new (ls : List (List UInt8)) (w : World) (b : Bool) (hE : DEnv w) (hs : smallP ls = true) (hb : mayF mGET [] 200 (ofP ls) 100 [100] = b) :
    Calls Tryz.prog 30 #[.slice (some ⟨w.heap.size, 0, none⟩) ls.length ls.length] (w.alloc (.cells (strsV ls).toArray 9)) fun e w' => e = .returned (.bool b) ∧ Below w.heap.size w w' :=
  (may16_any _ _ _ ls _ b (hE.below ((Below.refl w.heap.size w).alloc (Nat.le_refl _) _)) (Rd.newL w ls 9) hs hb).mono fun _ _ ⟨h1, h2⟩ => ⟨h1, ((Below.refl w.heap.size w).alloc (Nat.le_refl _) _).trans (h2.mono (by simp))⟩
theorem mk16_0 (w : World) (hE : DEnv w) : Calls Tryz.prog 30 #[.slice (some ⟨w.heap.size, 0, none⟩) 2 2] (w.alloc (.cells #[.string ⟨#[99, 97, 99, 104, 101, 45, 99, 111, 110, 116, 114, 111, 108]⟩, .string ⟨#[109, 97, 120, 45, 97, 103, 101, 61, 53]⟩] 9)) fun e w' => e = .returned (.bool true) ∧ Below w.heap.size w w' :=
  may16_new [[99, 97, 99, 104, 101, 45, 99, 111, 110, 116, 114, 111, 108], [109, 97, 120, 45, 97, 103, 101, 61, 53]] w true hE (by kernel_rfl) (by kernel_rfl)
theorem mk16_1 (w : World) (hE : DEnv w) : Calls Tryz.prog 30 #[.slice (some ⟨w.heap.size, 0, none⟩) 2 2] (w.alloc (.cells #[.string ⟨#[99, 97, 99, 104, 101, 45, 99, 111, 110, 116, 114, 111, 108]⟩, .string ⟨#[109, 97, 120, 45, 97, 103, 101, 61, 53, 44, 32, 110, 111, 45, 115, 116, 111, 114, 101]⟩] 9)) fun e w' => e = .returned (.bool false) ∧ Below w.heap.size w w' :=
  may16_new [[99, 97, 99, 104, 101, 45, 99, 111, 110, 116, 114, 111, 108], [109, 97, 120, 45, 97, 103, 101, 61, 53, 44, 32, 110, 111, 45, 115, 116, 111, 114, 101]] w false hE (by kernel_rfl) (by kernel_rfl)
theorem mk16_nil (w : World) (hE : DEnv w) : Calls Tryz.prog 30 #[.slice none 0 0] w fun e w' => e = .returned (.bool false) ∧ Below w.heap.size w w' :=
  may16_any none 0 0 [] w false hE Rd.nil (by kernel_rfl) (by kernel_rfl)
set_option maxHeartbeats 8000000 in
theorem works16_any (w0 : World) (hE : DEnv w0) :
    Calls Tryz.prog 24 #[] w0 fun e w' => e = .returned (.bool true) ∧ Below w0.heap.size w0 w' := by
  have HB0 := Lib.hid (Below.refl w0.heap.size w0)
  go_enter Tryz.func24, Tryz.ntmps24
  have kk := mk16_0 w0 (hE.below HB0.out)
  have KK := Lib.hid kk
  clear kk
  go_wp2_with fail
  (with_reducible refine KK.out.mono ?_)
  rintro e w1 ⟨rfl, hb⟩
  have HB1 := Lib.hid (bt HB0.out hb)
  clear hb KK HB0
  have kk := mk16_1 w1 (hE.below HB1.out)
  have KK := Lib.hid kk
  clear kk
  go_wp2_with fail
  (with_reducible refine KK.out.mono ?_)
  rintro e w2 ⟨rfl, hb⟩
  have HB2 := Lib.hid (bt HB1.out hb)
  clear hb KK HB1
  have kk := mk16_nil w2 (hE.below HB2.out)
  have KK := Lib.hid kk
  clear kk
  go_wp2_with fail
  (with_reducible refine KK.out.mono ?_)
  rintro e w3 ⟨rfl, hb⟩
  have HB3 := Lib.hid (bt HB2.out hb)
  clear hb KK HB2
  go_wp2
  go_ret
  exact ⟨rfl, HB3.out⟩
end Go.Proofs.YtcgdcbnhpbokfaaGreatDoor
/- The walk of the document's in (layer 15). -/
namespace Go.Proofs.YtcgdcbnhpbokfaaGreatDoor
open Go.RowKit

set_option maxHeartbeats 2000000 in
theorem in15_any (A : Option Addr) (n c : Nat) (ls : List (List UInt8)) (nm : List UInt8) (w : World) (h : Rd A n 1 (strsV ls) w) (hn : n ≤ 1000000) :
    Calls Tryz.prog 134 #[.slice A n c, .string ⟨nm.toArray⟩] w fun e w' => e = .returned (.bool (ls.contains nm)) ∧ w = w' := by
  obtain rfl := h.str
  have hY : ∀ k (h : k < ls.length), (ls[k] == nm) = true → ls.contains nm = true := by
    intro k h e
    rw [List.contains_iff_mem, ← beq_iff_eq.1 e]; exact List.getElem_mem _
  have hN : ∀ k, ls.length ≤ k → (ls.take k).contains nm = false → ls.contains nm = false := by
    intro k h e; rwa [List.take_of_length_le h] at e
  have hS : ∀ k (h : k < ls.length), (ls.take k).contains nm = false → (ls[k] == nm) = false → (ls.take (k + 1)).contains nm = false := by
    intro k h e n
    have n2 : nm ≠ ls[k] := fun x => (beq_eq_false_iff_ne.1 n) x.symm
    have e2 : nm ∉ ls.take k := by simpa using e
    rw [List.take_succ_eq_append_getElem h, List.contains_eq_mem, decide_eq_false_iff_not, List.mem_append]
    rintro (x | x)
    · exact e2 x
    · exact n2 (List.mem_singleton.1 x)
  have HY := Lib.hid hY; have HN := Lib.hid hN; have HS := Lib.hid hS; have HR := Lib.hid h; clear hY hN hS h
  generalize ls.contains nm = out at *
  go_enter Tryz.func134, Tryz.ntmps134
  go_wp2
  go_loop [5] (fun i => ∃ k : Nat, k ≤ ls.length ∧ i = .int .i64 k ∧ Hid ((ls.take k).contains nm = false)) (fun i => ls.length - (intOf i).toNat)
  case atStart => exact ⟨0, Nat.zero_le _, rfl, by show _ = _; simp⟩
  case round =>
    obtain ⟨k, hk, rfl, Hall⟩ := hrel
    by_cases hlt : k < ls.length
    · obtain ⟨b, o, rfl, hl, c1⟩ := HR.out.str_at (k := k) hlt
      have hy := HY.out k hlt
      have hs := HS.out k hlt Hall.out
      generalize ls[k] = l at *
      have Hy := Lib.hid hy; have Hs := Lib.hid hs; clear hy hs
      cases hq : (l == nm)
      · have hf := Hs.out hq
        have Hf := Lib.hid hf; clear hf
        go_wp2
        go_round
        case rel => exact ⟨k + 1, by omega, by go_num, Hf⟩
        case measure => simp [intOf]; omega
      · have hf := Hy.out hq
        have Hf := Lib.hid hf; clear hf
        go_wp2
        go_ret
        exact ⟨by rw [Hf.out]; rfl, rfl⟩
    · have hf := HN.out k (by omega) Hall.out
      have Hf := Lib.hid hf; clear hf
      go_wp2
      go_ret
      exact ⟨by rw [Hf.out]; rfl, rfl⟩
end Go.Proofs.YtcgdcbnhpbokfaaGreatDoor
/- The walk of the document's Names (layer 15). -/
namespace Go.Proofs.YtcgdcbnhpbokfaaGreatDoor
open Go.RowKit

theorem low_42 (c : UInt8) : lowb c = 42 ↔ c = 42 := by
  by_cases h : (decide (65 ≤ c.toNat) && decide (c.toNat ≤ 90)) = true
  · have h1 : lowb c = c + 32 := by unfold lowb; rw [h]; rfl
    have h2 : (c + 32).toNat = c.toNat + 32 := by
      simp at h; rw [UInt8.toNat_add]; simp; omega
    simp at h
    rw [h1, ← UInt8.toNat_inj, ← UInt8.toNat_inj, h2]
    show c.toNat + 32 = 42 ↔ c.toNat = 42
    omega
  · have h' : (decide (65 ≤ c.toNat) && decide (c.toNat ≤ 90)) = false := by simpa using h
    have h1 : lowb c = c := by unfold lowb; rw [h']; rfl
    rw [h1]
theorem star_low (l : List UInt8) : (lowerL l == [42]) = (l == [42]) := by
  unfold lowerL
  match l with
  | [] => rfl
  | [c] =>
    rw [Bool.eq_iff_iff, beq_iff_eq, beq_iff_eq]
    simp [low_42]
  | a :: b :: r =>
    rw [Bool.eq_iff_iff, beq_iff_eq, beq_iff_eq]
    simp
theorem nameOk_eq (p : List UInt8) : nameOk (lowerL p) = (tokenL p && !(p == [42])) := by unfold nameOk; rw [token_low, star_low]

set_option maxRecDepth 100000 in
set_option maxHeartbeats 4000000 in
theorem rnames_any (st : Int) (re : ByteArray) (mi : Int) (A : Option Addr) (n c : Nat) (bo : ByteArray) (xs : List Fld) (w : World) (hr : Rd A n 2 (fldsV xs) w) (hn : n ≤ 1000) (hs : ∀ f ∈ xs, f.1.length ≤ 1000000 ∧ f.2.length ≤ 1000000) :
    Calls Tryz.prog 77 #[repV st re mi A n c bo] w (NamesPost w (namesO xs)) := by
  obtain ⟨W0, hW0⟩ : ∃ W0, w.alloc (.cells #[.int .i64 st, .string re, .int .i64 mi, .slice A n c, .string bo] 26) = W0 := ⟨_, rfl⟩
  have hB0 : Below w.heap.size w W0 := by rw [← hW0]; exact (Below.refl w.heap.size w).alloc (Nat.le_refl _) _
  have hV0 : W0.cell? ⟨w.heap.size, 3, none⟩ = some (.slice A n c) := by rw [← hW0]; exact World.cell?_alloc_mark w _ _ _ 3
  have k0 := rvalues_any A n c xs ⟨varyW.toArray⟩ W0 (hr.below hB0) (by omega) (fun f hf => (hs f hf).1) (by decide)
  have hvl := valuesL_le xs varyW
  have hxn := hr.fld
  have hvb : ∀ v ∈ valuesL xs varyW, v.length ≤ 1000000 := by
    intro v hv
    obtain ⟨f, hf, e⟩ := valuesL_mem hv
    rw [← e]; exact (hs f hf).2
  have hvn : (valuesL xs varyW).length ≤ 1000 := by omega
  simp only at k0
  obtain ⟨tot, htot⟩ : ∃ t, namesO xs = t := ⟨_, rfl⟩
  rw [htot]
  have ht2 : namesVs [] (valuesL xs varyW) = tot := htot
  clear hvl hxn hr hs htot
  generalize valuesL xs varyW = vs at *
  have K0 := Lib.hid k0; have HVB := Lib.hid hvb; have HT := Lib.hid ht2; have HW0 := Lib.hid hW0; clear k0 hvb ht2 hW0
  unfold repV
  go_enter Tryz.func77, Tryz.ntmps77
  go_upto_region 1 with (fail)
  rw [HW0.out]
  go_wp2_with fail
  refine K0.out.mono ?_
  rintro e w2 ⟨va, vc, rfl, ho2, hb2⟩
  have HV := Lib.hid ho2.rd.2
  have hB2 := hB0.trans (hb2.mono hB0.size)
  clear ho2 hb2 hB0 hV0
  have hg0 := Below.refl w2.heap.size w2
  go_wp2_with fail
  go_loopw [6, 4] (fun i l wr => ∃ (k : Nat) (acc : List (List UInt8)), k ≤ vs.length ∧ i = .int .i64 k ∧ acc.length ≤ 64 * k ∧ Hid (OwnS w2.heap.size l acc wr) ∧ Below w2.heap.size w2 wr ∧ Hid (namesVs acc (vs.drop k) = tot)) (fun i _ _ => vs.length - (intOf i).toNat)
  case atStart => exact ⟨0, [], Nat.zero_le _, rfl, by simp, Lib.hid (OwnS.nil _ _), hg0, by rw [List.drop_zero]; exact HT⟩
  case round =>
    clear hg0 HT
    obtain ⟨k, acc, hk, rfl, hacc, HO, hgr, HT⟩ := hrel
    by_cases hlt : k < vs.length
    · obtain ⟨b, o, rfl, hl, c1⟩ := (HV.out.below hgr).str_at (k := k) hlt
      have hv := HVB.out vs[k] (List.getElem_mem _)
      have hdr := HT.out
      rw [drop_consL vs k hlt] at hdr
      generalize vs[k] = v at *
      rw [namesVs] at hdr
      have hpl := splitL_le' 44 v
      have hpt := Nat.le_trans (split_total 44 v) hv
      have k1 := fun w => rsplit_any ⟨v.toArray⟩ 44 w (by rw [Lib.size_eq]; exact hv)
      simp only at k1
      generalize splitL 44 v = r at *
      obtain ⟨ps, er⟩ := r
      simp only at hpl hpt hdr
      have K1 := Lib.hid k1; have HD := Lib.hid hdr
      clear k1 hdr hv
      go_wp2_with fail
      refine (K1.out _).mono ?_
      rintro e w3 ⟨pa, pc, rfl, ho3, hb3⟩
      simp only at ho3
      have hgr3 : Below w2.heap.size w2 w3 := hgr.trans (hb3.mono hgr.size)
      have hbw : Below w.heap.size w w3 := hB2.trans (hgr3.mono hB2.size)
      cases he : (er == 0)
      · have n1 : (er != 0) = true := by simp [bne, he]
        have hd := HD.out
        rw [he, cond_false] at hd
        subst hd
        go_wp2
        go_ret2
        exact NamesPost.none hbw
      · have n1 : (er != 0) = false := by simp [bne, he]
        have hd := HD.out
        rw [he, cond_true] at hd
        have hd2 : tailO (namesPs acc ps) (vs.drop (k + 1)) = tot := hd
        obtain ⟨tp, htp⟩ : ∃ t, namesPs acc ps = t := ⟨_, rfl⟩
        rw [htp] at hd2
        have HD2 := Lib.hid hd2; have HTP := Lib.hid htp
        clear hd hd2 htp HD HT
        have hst : Hid (OwnS w2.heap.size u4 acc w3 ∧ Rd pa ps.length 1 (strsV ps) w3 ∧ Sep u4 pa ps.length) := by
          refine Lib.hid ⟨HO.out.below hb3, ho3.rd.2, ?_⟩
          intro _ g o e x
          have h1 := (HO.out.lt g x).2
          have h2 := own_new ho3 g o e
          omega
        clear HO ho3 hb3 hbw hgr K1 c1
        go_wp2_with fail
        obtain ⟨wo, rfl⟩ : ∃ wo : World, wo = wr := ⟨_, rfl⟩
        go_loopw [9, 4] (fun j l wi => ∃ (m : Nat) (ac : List (List UInt8)), m ≤ ps.length ∧ j = .int .i64 m ∧ ac.length ≤ 64 * k + m ∧ Hid (OwnS w2.heap.size l ac wi ∧ Rd pa ps.length 1 (strsV ps) wi ∧ Sep l pa ps.length) ∧ Below w2.heap.size w2 wi ∧ Hid (namesPs ac (ps.drop m) = tp)) (fun j _ _ => ps.length - (intOf j).toNat)
        case atStart => exact ⟨0, acc, Nat.zero_le _, rfl, hacc, hst, hgr3, by rw [List.drop_zero]; exact HTP⟩
        case round =>
          clear hst hgr3 HTP
          obtain ⟨m, ac, hm, rfl, hac, HI, hgi, HTP⟩ := hrel
          by_cases hlm : m < ps.length
          · obtain ⟨b2, o2, rfl, hl2, c2⟩ := HI.out.2.1.str_at (k := m) hlm
            have hpp := Nat.le_trans (total_mem (List.getElem_mem hlm)) hpt
            have hdr := HTP.out
            rw [drop_consL ps m hlm, namesPs, nameOk_eq] at hdr
            generalize ps[m] = p at *
            have k4 := fun w => rlower_any ⟨p.toArray⟩ w (by rw [Lib.size_eq]; exact hpp)
            have k5 := fun w => rtoken_any ⟨p.toArray⟩ w (by rw [Lib.size_eq]; exact hpp)
            simp only at k4 k5
            generalize lowerL p = nm at *
            have K4 := Lib.hid k4; have K5 := Lib.hid k5; have HD := Lib.hid hdr
            clear k4 k5 hdr hpp
            have hbw5 : Below w.heap.size w wr := hB2.trans (hgi.mono hB2.size)
            cases hst : (p == [42])
            · cases htk : tokenL p
              · have ht : tot = none := by
                  have h1 := HD.out
                  rw [htk, Bool.false_and, cond_false] at h1
                  have h2 := HD2.out
                  rw [← h1] at h2
                  exact h2.symm
                subst ht
                have HTK := Lib.hid htk; clear htk
                go_wp2_with (go_at_call 133; refine (K5.out _).mono ?_; rintro e w6 ⟨rfl, rfl⟩; rw [HTK.out])
                go_ret2
                exact NamesPost.none hbw5
              · have h1 := HD.out
                rw [htk, hst] at h1
                have HN := Lib.hid h1
                have HTK := Lib.hid htk
                clear htk h1 HD
                go_wp2_with fail
                refine (K5.out _).mono ?_
                rintro e w6 ⟨rfl, rfl⟩
                rw [HTK.out]
                go_wp2_with fail
                refine (K4.out _).mono ?_
                rintro e w4 ⟨rfl, hb4⟩
                have hgr4 := hgi.trans (hb4.mono hgi.size)
                have hst4 : Hid (OwnS w2.heap.size u4 ac w4 ∧ Rd (some ⟨b2, o2, none⟩) ps.length 1 (strsV ps) w4 ∧ Sep u4 (some ⟨b2, o2, none⟩) ps.length) := Lib.hid ⟨HI.out.1.below hb4, HI.out.2.1.below hb4, HI.out.2.2⟩
                clear HI hb4 c2
                obtain ⟨ua, uc, rfl⟩ := hst4.out.1.shape
                have k6 := in15_any ua ac.length uc ac nm w4 hst4.out.1.rd.2 (by omega)
                have K6 := Lib.hid k6; clear k6
                go_wp2_with fail
                refine K6.out.mono ?_
                rintro e w6 ⟨rfl, rfl⟩
                have hadd : addN ac nm = bif ac.contains nm then ac else ac ++ [nm] := rfl
                have hal := addN_le ac nm
                cases hct : ac.contains nm
                · rw [hct, cond_false] at hadd
                  have HADD := Lib.hid hadd
                  clear hct hadd hst
                  go_wp2_with (at_builtin; refine app_str w2.heap.size nm hst4.out.1 hgr4.size (by omega) rfl _ _ rfl rfl rfl ?_)
                  intro v' w7 hO7 hb7 hfar7
                  have hI7 : Hid (OwnS w2.heap.size v' (addN ac nm) w7 ∧ Rd (some ⟨b2, o2, none⟩) ps.length 1 (strsV ps) w7 ∧ Sep v' (some ⟨b2, o2, none⟩) ps.length) := by
                    obtain ⟨r1, r2⟩ := hst4.out.2.1.far hfar7 hst4.out.2.2
                    refine Lib.hid ⟨?_, r1, r2⟩
                    rw [HADD.out]; exact hO7
                  have hgr7 := hgr4.trans hb7
                  clear hO7 hb7 hfar7 hst4
                  go_wp2
                  go_roundw
                  case rel => exact ⟨m + 1, addN ac nm, by omega, by go_num, by omega, hI7, hgr7, HN⟩
                  case measure => simp [intOf]; omega
                · rw [hct, cond_true] at hadd
                  have hI7 : Hid (OwnS w2.heap.size (.slice ua ac.length uc) (addN ac nm) w4 ∧ Rd (some ⟨b2, o2, none⟩) ps.length 1 (strsV ps) w4 ∧ Sep (.slice ua ac.length uc) (some ⟨b2, o2, none⟩) ps.length) := by rw [hadd]; exact hst4
                  clear hct hadd hst hst4
                  go_wp2
                  go_roundw
                  case rel => exact ⟨m + 1, addN ac nm, by omega, by go_num, by omega, hI7, hgr4, HN⟩
                  case measure => simp [intOf]; omega
            · have ht : tot = none := by
                have h1 := HD.out
                rw [hst, Bool.not_true, Bool.and_false, cond_false] at h1
                have h2 := HD2.out
                rw [← h1] at h2
                exact h2.symm
              subst ht
              go_wp2_with (go_at_call 133; refine (K5.out _).mono ?_; rintro e w6 ⟨rfl, rfl⟩)
              go_ret2
              exact NamesPost.none hbw5
          · have hme : m = ps.length := by omega
            subst hme
            have h1 := HTP.out
            rw [List.drop_length, namesPs] at h1
            have h2 := HD2.out
            rw [← h1] at h2
            have HT2 : Hid (namesVs ac (vs.drop (k + 1)) = tot) := Lib.hid h2
            have hI : Hid (OwnS w2.heap.size u4 ac wr) := Lib.hid HI.out.1
            clear HI h1 h2 HTP HD2
            go_wp2
            go_roundw
            case rel => exact ⟨k + 1, ac, by omega, by go_num, by omega, hI, hgi, HT2⟩
            case measure => simp [intOf]; omega
    · have hke : k = vs.length := by omega
      subst hke
      have ht := HT.out
      rw [List.drop_length, namesVs] at ht
      subst ht
      obtain ⟨la, lc, rfl⟩ := HO.out.shape
      have hbw : Below w.heap.size w wr := hB2.trans (hgr.mono hB2.size)
      go_wp2
      go_ret2
      exact ⟨la, lc, rfl, HO.out.base hB2.size, hbw⟩
end Go.Proofs.YtcgdcbnhpbokfaaGreatDoor
/- The walks of etag.Parse, Strong, Weak and of the law's works. -/
namespace Go.Proofs.YtcgdcbnhpbokfaaGreatDoor
open Go.RowKit
def Ent.same (x y : Ent) : Bool := x.right && y.right && (x.tag.data.toList == y.tag.data.toList)
def Ent.sure (x y : Ent) : Bool := x.same y && !x.weak && !y.weak
set_option maxHeartbeats 1000000 in
theorem same_any (x y : Ent) (w : World) :
    Calls Tryz.prog 89 #[x.val, y.val] w fun e w' => e = .returned (.bool (x.same y)) ∧ Below w.heap.size w w' := by
  obtain ⟨xw, xr, xt⟩ := x
  obtain ⟨yw, yr, yt⟩ := y
  unfold Ent.same Ent.val
  cases xr <;> cases yr
  all_goals
    go_enter Tryz.func89, Tryz.ntmps89
    go_wp2
    go_ret
    exact ⟨by simp [Lib.toList_data], ((Below.refl _ _).alloc (Nat.le_refl _) _).alloc (by simp) _⟩
set_option maxHeartbeats 1000000 in
theorem sure_any (x y : Ent) (w : World) :
    Calls Tryz.prog 90 #[x.val, y.val] w fun e w' => e = .returned (.bool (x.sure y)) ∧ Below w.heap.size w w' := by
  unfold Ent.sure
  have hsame := fun w => same_any x y w
  cases hh : x.same y
  · rw [hh] at hsame
    have H := Lib.hid hsame
    clear hsame hh
    obtain ⟨xw, xr, xt⟩ := x
    obtain ⟨yw, yr, yt⟩ := y
    unfold Ent.val at *
    go_enter Tryz.func90, Tryz.ntmps90
    go_wp2_with (go_at_call 89; refine (H.out _).mono ?_; rintro e w' ⟨rfl, hb⟩)
    go_ret
    exact ⟨by simp, (((Below.refl _ _).alloc (Nat.le_refl _) _).alloc (by simp) _).trans (hb.mono (by simp; omega))⟩
  · rw [hh] at hsame
    have H := Lib.hid hsame
    clear hsame hh
    obtain ⟨xw, xr, xt⟩ := x
    obtain ⟨yw, yr, yt⟩ := y
    unfold Ent.val at *
    cases xw
    all_goals
      go_enter Tryz.func90, Tryz.ntmps90
      go_wp2_with (go_at_call 89; refine (H.out _).mono ?_; rintro e w' ⟨rfl, hb⟩; have h1 := hb.cell (p := ⟨w.heap.size, 0, none⟩) (by simp; omega); have h2 := hb.cell (p := ⟨w.heap.size + 1, 0, none⟩) (by simp); simp [go_sem] at h1 h2)
      go_ret
      exact ⟨by simp, (((Below.refl _ _).alloc (Nat.le_refl _) _).alloc (by simp) _).trans (hb.mono (by simp; omega))⟩

set_option maxHeartbeats 1000000 in
theorem strong_any (a b : ByteArray) (w : World) (ha : a.size ≤ 8000) (hb : b.size ≤ 8000) :
    Calls Tryz.prog 36 #[.string a, .string b] w fun e w' => e = .returned (.bool ((ent a).sure (ent b))) ∧ Below w.heap.size w w' := by
  have hB := Below.refl w.heap.size w
  go_enter Tryz.func36, Tryz.ntmps36
  go_wp2_with (first | (go_at_call 94; refine (rd _ _ (by assumption)).mono ?_; rintro e w' ⟨rfl, hb⟩; replace hB := bt hB hb; clear hb) | (go_at_call 90; refine (sure_any _ _ _).mono ?_; rintro e w' ⟨rfl, hb⟩; replace hB := bt hB hb; clear hb) | (go_at_call 88; go_in))
  go_ret
  exact ⟨rfl, hB⟩
set_option maxHeartbeats 1000000 in
theorem weak_any (a b : ByteArray) (w : World) (ha : a.size ≤ 8000) (hb : b.size ≤ 8000) :
    Calls Tryz.prog 35 #[.string a, .string b] w fun e w' => e = .returned (.bool ((ent a).same (ent b))) ∧ Below w.heap.size w w' := by
  have hB := Below.refl w.heap.size w
  go_enter Tryz.func35, Tryz.ntmps35
  go_wp2_with (first | (go_at_call 94; refine (rd _ _ (by assumption)).mono ?_; rintro e w' ⟨rfl, hb⟩; replace hB := bt hB hb; clear hb) | (go_at_call 89; refine (same_any _ _ _).mono ?_; rintro e w' ⟨rfl, hb⟩; replace hB := bt hB hb; clear hb) | (go_at_call 88; go_in))
  go_ret
  exact ⟨rfl, hB⟩
/-! closed answers -/
set_option maxHeartbeats 1000000 in
theorem works_any (w : World) :
    Calls Tryz.prog 10 #[] w fun e w' => e = .returned (.bool true) ∧ Below w.heap.size w w' := by
  have h1 : (ent ⟨#[87, 47, 34, 97, 34]⟩).parse = .tuple #[.bool true, .string ⟨#[97]⟩, .int .i64 0] := by rfl
  have h2 : (ent ⟨#[97]⟩).parse = .tuple #[.bool false, .string ⟨#[]⟩, .int .i64 4] := by rfl
  have h3 : (ent ⟨#[87, 47, 34, 97, 34]⟩).same (ent ⟨#[34, 97, 34]⟩) = true := by rfl
  have h4 : (ent ⟨#[87, 47, 34, 97, 34]⟩).sure (ent ⟨#[34, 97, 34]⟩) = false := by rfl
  have h5 : (ent ⟨#[34, 97, 34]⟩).sure (ent ⟨#[34, 97, 34]⟩) = true := by rfl
  have H1 := Lib.hid h1; have H2 := Lib.hid h2; have H3 := Lib.hid h3; have H4 := Lib.hid h4; have H5 := Lib.hid h5
  clear h1 h2 h3 h4 h5
  have hB := Below.refl w.heap.size w
  go_enter Tryz.func10, Tryz.ntmps10
  go_wp2_with (first | (go_at_call 87; refine (parse_any _ _ (by decide)).mono ?_; rintro e w' ⟨rfl, hb⟩; replace hB := bt hB hb; clear hb; first | rw [H1.out] | rw [H2.out]) | (go_at_call 35; refine (weak_any _ _ _ (by decide) (by decide)).mono ?_; rintro e w' ⟨rfl, hb⟩; replace hB := bt hB hb; clear hb; rw [H3.out]) | (go_at_call 36; refine (strong_any _ _ _ (by decide) (by decide)).mono ?_; rintro e w' ⟨rfl, hb⟩; replace hB := bt hB hb; clear hb; first | rw [H4.out] | rw [H5.out]) | (go_at_call 33; go_in) | (go_at_call 34; go_in))
  go_ret
  exact ⟨rfl, hB⟩
end Go.Proofs.YtcgdcbnhpbokfaaGreatDoor
/- Which texts are tags, place by place: plain. -/
namespace Go.Proofs.YtcgdcbnhpbokfaaGreatDoor

/-- A byte of a tag at a place, as the document asks it. -/
def okAt (t : ByteArray) (j : Nat) (h : j < t.size) : Bool := if j = 0 ∨ j = t.size - 1 then t[j].toNat == 34 else okb t[j]
theorem tagged_iff (t : ByteArray) (h2 : 2 ≤ t.size) : tagged t = true ↔ ∀ j (h : j < t.size), okAt t j h = true := by
  have hx : (inner t).size = t.size - 2 := by unfold inner; simp [ByteArray.size_extract]; omega
  have hi : ∀ j (h : j < (inner t).size), (inner t)[j] = t[j + 1]'(by omega) := by
    intro j h
    have hg : (t.extract 1 (t.size - 1))[j]'h = t[1 + j]'(by omega) := ByteArray.getElem_extract h
    show (t.extract 1 (t.size - 1))[j]'h = _
    rw [hg]
    congr 1
    omega
  unfold tagged
  rw [dif_pos h2]
  constructor
  · intro h j hj
    rw [Bool.and_eq_true, Bool.and_eq_true] at h
    unfold okAt
    by_cases h0 : j = 0
    · subst h0; rw [if_pos (Or.inl rfl)]; exact h.1.1
    · by_cases h1 : j = t.size - 1
      · subst h1; rw [if_pos (Or.inr rfl)]; exact h.1.2
      · rw [if_neg (by omega)]
        have h3 := List.all_eq_true.1 h.2 ((inner t)[j - 1]'(by omega)) (by rw [at_list (inner t) (j - 1) (by omega)]; exact List.getElem_mem _)
        rw [hi (j - 1) (by omega)] at h3
        simpa [show j - 1 + 1 = j from by omega] using h3
  · intro h
    rw [Bool.and_eq_true, Bool.and_eq_true]
    refine ⟨⟨?_, ?_⟩, ?_⟩
    · have := h 0 (by omega); unfold okAt at this; rwa [if_pos (Or.inl rfl)] at this
    · have := h (t.size - 1) (by omega); unfold okAt at this; rwa [if_pos (Or.inr rfl)] at this
    · rw [List.all_eq_true]
      intro c hc
      obtain ⟨j, hj, e⟩ := List.mem_iff_getElem.1 hc
      have hj' : j < (inner t).size := by simpa using hj
      have h3 : (inner t)[j] = c := by rw [← e]; show (inner t).data[j] = _; simp
      rw [← h3, hi j hj']
      have := h (j + 1) (by omega)
      unfold okAt at this
      rwa [if_neg (by omega)] at this
end Go.Proofs.YtcgdcbnhpbokfaaGreatDoor
/- The walks of the document's Parse, Weak, Strong (layer 14). -/
namespace Go.Proofs.YtcgdcbnhpbokfaaGreatDoor
open Go.RowKit

theorem cut_yes (s : ByteArray) (h : Lib.hasPrefix s.data.toList [87, 47] = true) : cutP s ⟨#[87, 47]⟩ = s.extract 2 s.size := by
  unfold cutP
  rw [if_pos (show Lib.hasPrefix s.data.toList (⟨#[87, 47]⟩ : ByteArray).data.toList = true from h)]
  rfl
theorem cut_no (s : ByteArray) (h : Lib.hasPrefix s.data.toList [87, 47] = false) : cutP s ⟨#[87, 47]⟩ = s := by
  unfold cutP
  rw [if_neg (show ¬ Lib.hasPrefix s.data.toList (⟨#[87, 47]⟩ : ByteArray).data.toList = true from by rw [show (⟨#[87, 47]⟩ : ByteArray).data.toList = [87, 47] from rfl, h]; decide)]
theorem pre_list : ∀ (l : List UInt8), Lib.hasPrefix l [87, 47] = if h : 2 ≤ l.length then (l[0].toNat == 87 && l[1].toNat == 47) else false
  | [] => rfl
  | [a] => by simp [Lib.hasPrefix, List.isPrefixOf]
  | a :: b :: r => by
    have e : ∀ (x y : UInt8), (x == y) = (y.toNat == x.toNat) := fun x y => by rw [Bool.eq_iff_iff, beq_iff_eq, beq_iff_eq, UInt8.toNat_inj]; exact eq_comm
    rw [dif_pos (by simp)]
    show (87 == a && (47 == b && true)) = _
    rw [e, e]
    simp
theorem pre_eq (s : ByteArray) (h : 2 ≤ s.size) : Lib.hasPrefix s.data.toList [87, 47] = (s[0].toNat == 87 && s[1].toNat == 47) := by
  rw [pre_list, dif_pos (by simpa using h), at_list s 0 (by omega), at_list s 1 (by omega)]
theorem pre_short (s : ByteArray) (h : ¬ 2 ≤ s.size) : Lib.hasPrefix s.data.toList [87, 47] = false := by
  rw [pre_list, dif_neg (by simpa using h)]

set_option maxRecDepth 100000 in
set_option maxHeartbeats 2000000 in
theorem rparse14_any (s : ByteArray) (w : World) (hs : s.size ≤ 8000) :
    Calls Tryz.prog 78 #[.string s] w fun e w' => e = .returned (ent s).parse ∧ Below w.heap.size w w' := by
  have hcl := cutP_le s ⟨#[87, 47]⟩
  have hent : ent s = if tagged (cutP s ⟨#[87, 47]⟩) then ⟨Lib.hasPrefix s.data.toList [87, 47], true, inner (cutP s ⟨#[87, 47]⟩)⟩ else ⟨false, false, empt⟩ := rfl
  have Hent := Lib.hid hent; clear hent
  obtain ⟨P, hP⟩ : ∃ p, (ent s).parse = p := ⟨_, rfl⟩
  rw [hP]
  have HP := Lib.hid hP; clear hP
  go_enter Tryz.func78, Tryz.ntmps78
  go_upto_region 1 with (fail)
  go_cut [5] (fun s5 wx => s5 = .bool (Lib.hasPrefix s.data.toList [87, 47]) ∧ w = wx)
  case first =>
    clear HP Hent
    by_cases h2 : 2 ≤ s.size
    · have d2 : decide ((2 : Int) ≤ (s.size : Int)) = true := by simp; omega
      have hpe := pre_eq s h2
      cases h0 : ((s[0].toNat : Int) == 87) <;> cases h1 : ((s[1].toNat : Int) == 47)
      all_goals
        have e0 := (beq_cast s[0].toNat 87).trans h0
        have e1 := (beq_cast s[1].toNat 47).trans h1
        rw [e0, e1] at hpe
        simp only [Bool.and_true, Bool.and_false, Bool.and_self] at hpe
        have Hpe := Lib.hid hpe
        clear hpe e0 e1
        go_wp2
        go_meet
        exact ⟨by rw [Hpe.out], rfl⟩
    · have d2 : decide ((2 : Int) ≤ (s.size : Int)) = false := by simp; omega
      have hpe := pre_short s h2
      have Hpe := Lib.hid hpe
      clear hpe h2
      go_wp2
      go_meet
      exact ⟨by rw [Hpe.out], rfl⟩
  case rest =>
    obtain ⟨rfl, rfl⟩ := hcut
    obtain ⟨b, hb⟩ : ∃ b, Lib.hasPrefix s.data.toList [87, 47] = b := ⟨_, rfl⟩
    rw [hb] at Hent ⊢
    obtain ⟨t, ht⟩ : ∃ t, cutP s ⟨#[87, 47]⟩ = t := ⟨_, rfl⟩
    rw [ht] at Hent hcl
    have hct : t = if b then s.extract 2 s.size else s := by
      rw [← ht, ← hb]
      split
      · next h => exact cut_yes s h
      · next h => exact cut_no s (by simpa using h)
    have hb2 : b = true → 2 ≤ s.size := by
      intro e
      by_cases h2 : 2 ≤ s.size
      · exact h2
      · rw [pre_short s h2] at hb; rw [← hb] at e; cases e
    have Hct := Lib.hid hct; have Hb2 := Lib.hid hb2
    clear hb ht hct hb2
    go_upto_if 22 with (fail)
    go_cut [0] (fun s0 wx => s0 = .string t ∧ w = wx)
    case first =>
      clear HP Hent
      cases b
      · go_wp2
        go_meet
        exact ⟨by rw [Hct.out]; rfl, rfl⟩
      · have h2 := Hb2.out rfl
        go_wp2
        go_meet
        exact ⟨by rw [Hct.out]; rfl, rfl⟩
    case rest =>
      obtain ⟨rfl, rfl⟩ := hcut
      clear Hct Hb2
      have ht4 : t.size ≤ 8000 := by omega
      clear hcl
      by_cases h2 : 2 ≤ t.size
      · have d2 : decide ((t.size : Int) < 2) = false := by simp; omega
        have hY : (∀ j (h : j < t.size), okAt t j h = true) → P = .tuple #[.bool b, .string (inner t), .int .i64 0] := by
          intro h
          have := (tagged_iff t h2).2 h
          rw [← HP.out, Hent.out, this]; rfl
        have hN : ∀ k (h : k < t.size), okAt t k h = false → P = .tuple #[.bool false, .string empt, .int .i64 4] := by
          intro k h hk
          have : tagged t = false := by
            cases ht : tagged t
            · rfl
            · rw [(tagged_iff t h2).1 ht k h] at hk; cases hk
          rw [← HP.out, Hent.out, this]; rfl
        have HY := Lib.hid hY; have HN := Lib.hid hN
        clear HP Hent hY hN
        go_wp2
        go_loop [6] (fun i => ∃ k : Nat, k ≤ t.size ∧ i = .int .i64 k ∧ Hid (∀ j (h : j < t.size), j < k → okAt t j h = true)) (fun i => t.size - (intOf i).toNat)
        case atStart => exact ⟨0, Nat.zero_le _, rfl, Lib.hid (fun j h hj => absurd hj (by omega))⟩
        case round =>
          obtain ⟨k, hk, rfl, Hall⟩ := hrel
          by_cases hlt : k < t.size
          · have hu := u8_lt t[k]
            have hnext : okAt t k hlt = true → Hid (∀ j (h : j < t.size), j < k + 1 → okAt t j h = true) := by
              intro e
              refine Lib.hid fun j h hj => ?_
              by_cases hjk : j = k
              · subst hjk; exact e
              · exact Hall.out j h (by omega)
            have hbad := HN.out k hlt
            unfold okAt at hnext hbad
            have Hnext := Lib.hid hnext; have Hbad := Lib.hid hbad
            clear hnext hbad Hall
            have tri : (((k : Int) == 0) = true ∧ (k = 0 ∨ k = t.size - 1)) ∨ (((k : Int) == 0) = false ∧ ((k : Int) == (t.size : Int) - 1) = true ∧ (k = 0 ∨ k = t.size - 1)) ∨ (((k : Int) == 0) = false ∧ ((k : Int) == (t.size : Int) - 1) = false ∧ ¬ (k = 0 ∨ k = t.size - 1)) := by
              simp only [beq_iff_eq, beq_eq_false_iff_ne]; omega
            rcases tri with ⟨e1, he⟩ | ⟨e1, e2, he⟩ | ⟨e1, e2, he⟩
            · cases h34 : ((t[k].toNat : Int) == 34)
              · have n34 : ((t[k].toNat : Int) != 34) = true := by simp [bne, h34]
                have hf := Hbad.out (by rw [if_pos he]; exact (beq_cast t[k].toNat 34).trans h34)
                have Hf := Lib.hid hf
                clear hf he
                go_wp2
                go_ret3
                exact ⟨by rw [Hf.out]; rfl, Below.refl _ _⟩
              · have n34 : ((t[k].toNat : Int) != 34) = false := by simp [bne, h34]
                have hn := Hnext.out (by rw [if_pos he]; exact (beq_cast t[k].toNat 34).trans h34)
                clear he
                go_wp2
                go_round
                case rel => exact ⟨k + 1, by omega, by go_num, hn⟩
                case measure => simp [intOf]; omega
            · cases h34 : ((t[k].toNat : Int) == 34)
              · have n34 : ((t[k].toNat : Int) != 34) = true := by simp [bne, h34]
                have hf := Hbad.out (by rw [if_pos he]; exact (beq_cast t[k].toNat 34).trans h34)
                have Hf := Lib.hid hf
                clear hf he
                go_wp2
                go_ret3
                exact ⟨by rw [Hf.out]; rfl, Below.refl _ _⟩
              · have n34 : ((t[k].toNat : Int) != 34) = false := by simp [bne, h34]
                have hn := Hnext.out (by rw [if_pos he]; exact (beq_cast t[k].toNat 34).trans h34)
                clear he
                go_wp2
                go_round
                case rel => exact ⟨k + 1, by omega, by go_num, hn⟩
                case measure => simp [intOf]; omega
            · cases hok : okb t[k]
              · have hf := Hbad.out (by rw [if_neg he]; exact hok)
                have Hf := Lib.hid hf
                have hb' : decide ((t[k].toNat : Int) < 33) = true ∨ (decide ((t[k].toNat : Int) < 33) = false ∧ ((t[k].toNat : Int) == 34) = true) ∨ (decide ((t[k].toNat : Int) < 33) = false ∧ ((t[k].toNat : Int) == 34) = false ∧ ((t[k].toNat : Int) == 127) = true) := by simp [okb] at hok; simp; omega
                clear hf he hok
                rcases hb' with c1 | ⟨c1, c2⟩ | ⟨c1, c2, c3⟩
                all_goals
                  go_wp2
                  go_ret3
                  exact ⟨by rw [Hf.out]; rfl, Below.refl _ _⟩
              · have hn := Hnext.out (by rw [if_neg he]; exact hok)
                have c1 : decide ((t[k].toNat : Int) < 33) = false := by simp [okb] at hok; simp; omega
                have c2 : ((t[k].toNat : Int) == 34) = false := by simp [okb] at hok; simp; omega
                have c3 : ((t[k].toNat : Int) == 127) = false := by simp [okb] at hok; simp; omega
                clear he hok
                go_wp2
                go_round
                case rel => exact ⟨k + 1, by omega, by go_num, hn⟩
                case measure => simp [intOf]; omega
          · have hf := HY.out (fun j h => Hall.out j h (by omega))
            have Hf := Lib.hid hf
            clear hf
            go_wp2
            go_quiet (fail)
            go_wp2
            go_ret3
            exact ⟨by rw [Hf.out]; rfl, Go.below_drewN (Below.refl _ _) _⟩
      · have d2 : decide ((t.size : Int) < 2) = true := by simp; omega
        have hf : P = .tuple #[.bool false, .string empt, .int .i64 4] := by
          have : tagged t = false := by unfold tagged; rw [dif_neg h2]
          rw [← HP.out, Hent.out, this]; rfl
        have Hf := Lib.hid hf
        clear hf
        go_wp2
        go_ret3
        exact ⟨by rw [Hf.out]; rfl, Below.refl _ _⟩
end Go.Proofs.YtcgdcbnhpbokfaaGreatDoor
/- The document's Has and May (printed by wip/tools/refstor.py). -/
namespace Go.Proofs.YtcgdcbnhpbokfaaGreatDoor
open Go.RowKit
set_option maxRecDepth 100000

set_option maxHeartbeats 4000000 in
theorem rhas16_any (A : Option Addr) (n c : Nat) (xs : List Fld) (nm : ByteArray) (w : World) (hr : Rd A n 2 (fldsV xs) w) (hn : n ≤ 1000) (hs : sumF xs ≤ 800000) (hnm : nm.size ≤ 1000) :
    Calls Tryz.prog 76 #[.slice A n c, .string nm] w fun e w' => e = .returned (.bool (hasD (ccD xs) [nm.data.toList])) ∧ Below w.heap.size w w' := by
  have hfl := hr.fld
  have k1 := rvalues_any A n c xs ⟨#[99, 97, 99, 104, 101, 45, 99, 111, 110, 116, 114, 111, 108]⟩ w hr (by omega) (fun f hf => by have := sumF_mem hf; omega) (by decide)
  rw [show (⟨#[99, 97, 99, 104, 101, 45, 99, 111, 110, 116, 114, 111, 108]⟩ : ByteArray).data.toList = fCC from rfl] at k1
  have hvm : ∀ v ∈ valuesL xs fCC, v.length ≤ 800000 := fun v hv => by have := valuesL_sum hv; omega
  have hvl := valuesL_le xs fCC
  have k2 := fun a c' W (h : Rd a (valuesL xs fCC).length 1 (strsV (valuesL xs fCC)) W) => rdlist_any a (valuesL xs fCC).length c' (valuesL xs fCC) W h (by omega) (fun v hv => by have := hvm v hv; omega)
  have hfew := dlistL_few (valuesL xs fCC)
  have hln := dlist_lens hvm
  have k3 := fun a c' W (h : Rd a (dlistL (valuesL xs fCC)).length 4 (dirsV (dlistL (valuesL xs fCC))) W) => rfind_any a (dlistL (valuesL xs fCC)).length c' (dlistL (valuesL xs fCC)) nm W h (by omega) (fun x hx => by have := (hln x hx).1; omega) (by omega)
  have e0 : hasD (ccD xs) [nm.data.toList] = (findO (dlistL (valuesL xs fCC)) nm.data.toList).isSome := by unfold hasD ccD; simp
  rw [e0]
  clear e0 hfew hln hvm hvl hfl
  generalize findO (dlistL (valuesL xs fCC)) nm.data.toList = q at *
  generalize dlistL (valuesL xs fCC) = dl at *
  generalize valuesL xs fCC = vl at *
  have K1 := Lib.hid k1; have K2 := Lib.hid k2
  clear k1 k2 hr hs hnm hn
  cases q with
  | none =>
    unfold saidV at k3
    simp only at k3
    have K3 := Lib.hid k3; clear k3
    go_enter Tryz.func76, Tryz.ntmps76
    go_wp2_with fail
    (with_reducible refine K1.out.mono ?_)
    rintro e w1 ⟨a1, n1, rfl, ho1, hb1⟩
    have R1 := Lib.hid (OwnS.rd ho1).2
    clear ho1
    go_wp2_with fail
    (with_reducible refine (K2.out _ _ _ R1.out).mono ?_)
    rintro e w2 ⟨a2, n2, rfl, ho2, hb2⟩
    have R2 := Lib.hid (OwnD.rd ho2).2
    have hB2 := bt hb1 hb2
    clear ho2 R1 hb1 hb2
    go_wp2_with fail
    (with_reducible refine (K3.out _ _ _ R2.out).mono ?_)
    rintro e w3 ⟨rfl, hb3⟩
    have hB3 := bt hB2 hb3
    clear hB2 hb3
    have hB4 := hB3.alloc hB3.size (.cells #[.string ⟨#[]⟩, .string ⟨#[]⟩, .bool false, .string ⟨#[]⟩] 84)
    go_wp2
    go_ret
    exact ⟨rfl, hB4⟩
  | some x =>
    obtain ⟨dn, dv, dh, df⟩ := x
    unfold saidV at k3
    simp only at k3
    have K3 := Lib.hid k3; clear k3
    go_enter Tryz.func76, Tryz.ntmps76
    go_wp2_with fail
    (with_reducible refine K1.out.mono ?_)
    rintro e w1 ⟨a1, n1, rfl, ho1, hb1⟩
    have R1 := Lib.hid (OwnS.rd ho1).2
    clear ho1
    go_wp2_with fail
    (with_reducible refine (K2.out _ _ _ R1.out).mono ?_)
    rintro e w2 ⟨a2, n2, rfl, ho2, hb2⟩
    have R2 := Lib.hid (OwnD.rd ho2).2
    have hB2 := bt hb1 hb2
    clear ho2 R1 hb1 hb2
    go_wp2_with fail
    (with_reducible refine (K3.out _ _ _ R2.out).mono ?_)
    rintro e w3 ⟨rfl, hb3⟩
    have hB3 := bt hB2 hb3
    clear hB2 hb3
    have hB4 := hB3.alloc hB3.size (.cells #[.string ⟨dn.toArray⟩, .string ⟨dv.toArray⟩, .bool dh, .string ⟨df.toArray⟩] 84)
    go_wp2
    go_ret
    exact ⟨rfl, hB4⟩
theorem mm1 {a b c : Bool} (h : (!(a && b)) = true) : (a && (b && c)) = false := by revert h; cases a <;> cases b <;> simp
theorem mm2 {a b c : Bool} (h : (!(a && b)) = false) : (a && (b && c)) = c := by revert h; cases a <;> cases b <;> simp
theorem mm3 {a b c d e : Bool} (h : (a || b || c || d) = true) : ((!a && !(b || c) && !d) && e) = false := by revert h; cases a <;> cases b <;> cases c <;> cases d <;> simp
theorem mm4 {a b c d e : Bool} (h : (a || b || c || d) = false) : ((!a && !(b || c) && !d) && e) = e := by revert h; cases a <;> cases b <;> cases c <;> cases d <;> simp
theorem mm5 {a b c d e f : Bool} (h : (a && !b && !c && !d && !e) = true) : ((!a || (b || (c || d)) || e) && f) = false := by revert h; cases a <;> cases b <;> cases c <;> cases d <;> cases e <;> simp
theorem mm6 {a b c d e f : Bool} (h : (a && !b && !c && !d && !e) = false) : ((!a || (b || (c || d)) || e) && f) = f := by revert h; cases a <;> cases b <;> cases c <;> cases d <;> cases e <;> simp
theorem hasD_two (l : List Dir) (a b : List UInt8) : hasD l [a, b] = (hasD l [a] || hasD l [b]) := by simp [hasD]
theorem hasD_three (l : List Dir) (a b c : List UInt8) : hasD l [a, b, c] = (hasD l [a] || (hasD l [b] || hasD l [c])) := by simp [hasD]
set_option maxHeartbeats 32000000 in
theorem rmay_any (me dev : ByteArray) (QA : Option Addr) (qn qc : Nat) (qs : List Fld) (st mi asked got : Int) (re bo : ByteArray) (A V : Option Addr) (n c m d : Nat) (xs : List Fld) (w : World) (hq : Rd QA qn 2 (fldsV qs) w) (hqn : qn ≤ 100) (hqs : sumF qs ≤ 7500) (hr : Rd A n 2 (fldsV xs) w) (hn : n ≤ 100) (hs : sumF xs ≤ 7500) (hg : -9223372036854775808 ≤ got ∧ got ≤ 9223372036854775807) :
    Calls Tryz.prog 26 #[.string me, .slice QA qn qc, entV st re mi A n c bo asked got V m d, .string dev] w fun e w' => e = .returned (.bool (mayF me.data.toList qs st xs got dev.data.toList)) ∧ Below w.heap.size w w' := by
  obtain ⟨W1, hW1⟩ : ∃ W1, w.alloc (.cells #[.int .i64 st, .string re, .int .i64 mi, .slice A n c, .string bo, .int .i64 asked, .int .i64 got, .slice V m d] 30) = W1 := ⟨_, rfl⟩
  have b1 : Below w.heap.size w W1 := by rw [← hW1]; exact (Below.refl w.heap.size w).alloc (Nat.le_refl _) _
  have x1 : EntAt w.heap.size st re mi A n c bo asked got V m d W1 := by rw [← hW1]; exact heap_new w _ _ rfl
  have hfl := hr.fld; have hqf := hq.fld
  have kq := fun (nm : ByteArray) (hnm : nm.size ≤ 1000) W (hb : Below W1.heap.size W1 W) => rhas16_any QA qn qc qs nm W ((hq.below b1).below hb) (by omega) (by omega) hnm
  have kx := fun (nm : ByteArray) (hnm : nm.size ≤ 1000) W (hb : Below W1.heap.size W1 W) => rhas16_any A n c xs nm W ((hr.below b1).below hb) (by omega) (by omega) hnm
  have kq1 := kq ⟨#[110, 111, 45, 115, 116, 111, 114, 101]⟩ (by decide)
  have kx1 := kx ⟨#[110, 111, 45, 115, 116, 111, 114, 101]⟩ (by decide)
  have kx2 := kx ⟨#[112, 114, 105, 118, 97, 116, 101]⟩ (by decide)
  have kx3 := kx ⟨#[112, 117, 98, 108, 105, 99]⟩ (by decide)
  have kx4 := kx ⟨#[115, 45, 109, 97, 120, 97, 103, 101]⟩ (by decide)
  have kx5 := kx ⟨#[109, 117, 115, 116, 45, 114, 101, 118, 97, 108, 105, 100, 97, 116, 101]⟩ (by decide)
  clear kq kx
  rw [show (⟨#[110, 111, 45, 115, 116, 111, 114, 101]⟩ : ByteArray).data.toList = noStore from rfl] at kq1 kx1
  rw [show (⟨#[112, 114, 105, 118, 97, 116, 101]⟩ : ByteArray).data.toList = sPriv from rfl] at kx2
  rw [show (⟨#[112, 117, 98, 108, 105, 99]⟩ : ByteArray).data.toList = sPub from rfl] at kx3
  rw [show (⟨#[115, 45, 109, 97, 120, 97, 103, 101]⟩ : ByteArray).data.toList = fSMax from rfl] at kx4
  rw [show (⟨#[109, 117, 115, 116, 45, 114, 101, 118, 97, 108, 105, 100, 97, 116, 101]⟩ : ByteArray).data.toList = sMust from rfl] at kx5
  have kc := fun W (hb : Below W1.heap.size W1 W) => rcontrol_any st mi asked got re bo A V n c m d xs dev W ((hr.below b1).below hb) (by omega) (by omega)
  have kn := fun W (hb : Below W1.heap.size W1 W) => rnames_any st re mi A n c bo xs W ((hr.below b1).below hb) (by omega) (fun f hf => by have := sumF_mem hf; omega)
  have ka := fun W (hb : Below W1.heap.size W1 W) => rvalues_any QA qn qc qs ⟨#[97, 117, 116, 104, 111, 114, 105, 122, 97, 116, 105, 111, 110]⟩ W ((hq.below b1).below hb) (by omega) (fun f hf => by have := sumF_mem hf; omega) (by decide)
  rw [show (⟨#[97, 117, 116, 104, 111, 114, 105, 122, 97, 116, 105, 111, 110]⟩ : ByteArray).data.toList = fAuth from rfl] at ka
  have kl := fun W (hb : Below W1.heap.size W1 W) => rlife_any st mi asked got re bo A V n c m d xs dev W ((hr.below b1).below hb) (by omega) (by omega) hg
  have kt := fun W (hb : Below W1.heap.size W1 W) => rget_any A n c xs ⟨#[101, 116, 97, 103]⟩ W ((hr.below b1).below hb) (by omega) (by omega) (by decide)
  rw [show (⟨#[101, 116, 97, 103]⟩ : ByteArray).data.toList = fETag from rfl] at kt
  have ks := fun W (hb : Below W1.heap.size W1 W) => rget_any A n c xs ⟨#[108, 97, 115, 116, 45, 109, 111, 100, 105, 102, 105, 101, 100]⟩ W ((hr.below b1).below hb) (by omega) (by omega) (by decide)
  rw [show (⟨#[108, 97, 115, 116, 45, 109, 111, 100, 105, 102, 105, 101, 100]⟩ : ByteArray).data.toList = fLast from rfl] at ks
  have hgl := getL_le xs fETag
  have hgs := getL_le xs fLast
  have kp := fun W => rparse14_any ⟨(getL xs fETag).1.toArray⟩ W (by rw [Lib.size_eq]; show (getL xs fETag).1.length ≤ _; omega)
  have kd := fun W => iparse_any ⟨(getL xs fLast).1.toArray⟩ got (by rw [Lib.size_eq]; show (getL xs fLast).1.length ≤ _; omega) W
  rw [show (⟨(getL xs fLast).1.toArray⟩ : ByteArray).data.toList = (getL xs fLast).1 from rfl, ← date_eq] at kd
  have hau : (getL qs fAuth).2 = decide (0 < (valuesL qs fAuth).length) := rfl
  have hmay : mayF me.data.toList qs st xs got dev.data.toList = ((me.data.toList == mGET) && (okSt st && ((!hasD (ccD qs) [noStore] && !(hasD (ccD xs) [noStore] || hasD (ccD xs) [sPriv]) && !(ctlF xs dev.data.toList).noStore) && ((namesO xs).isSome && ((!decide (0 < (valuesL qs fAuth).length) || (hasD (ccD xs) [sPub] || (hasD (ccD xs) [fSMax] || hasD (ccD xs) [sMust])) || (ctlF xs dev.data.toList).hasAge) && (decide (0 < lifeF xs got dev.data.toList) || ((ent ⟨(getL xs fETag).1.toArray⟩).right || ((dateP (getL xs fLast).1 got).2 == 0)))))))) := by
    unfold mayF cond3 cond5 cond6 validF
    rw [hasD_two, hasD_three, hau]
  have e1 : (me.toList == [71, 69, 84]) = (me.data.toList == mGET) := by rw [Lib.toList_data]; rfl
  generalize hM : mayF me.data.toList qs st xs got dev.data.toList = M at *
  clear hM hau
  have e3 := e1
  clear e1
  generalize (me.data.toList == mGET) = bG at *
  obtain ⟨bS, hbS⟩ : ∃ b, okSt st = b := ⟨_, rfl⟩
  rw [hbS] at hmay
  generalize hasD (ccD qs) [noStore] = q1 at *
  generalize hasD (ccD xs) [noStore] = p1 at *
  generalize hasD (ccD xs) [sPriv] = p2 at *
  generalize hasD (ccD xs) [sPub] = p3 at *
  generalize hasD (ccD xs) [fSMax] = p4 at *
  generalize hasD (ccD xs) [sMust] = p5 at *
  generalize ctlF xs dev.data.toList = kk at *
  generalize lifeF xs got dev.data.toList = L at *
  obtain ⟨o0, o1, o2, o3, o4, o5⟩ := kk
  unfold ctlV at kc
  unfold NamesPost repV at kn
  unfold getV at kt ks
  generalize getL xs fETag = g at *
  generalize getL xs fLast = h at *
  obtain ⟨gv, gi⟩ := g
  obtain ⟨hv, hi⟩ := h
  generalize namesO xs = nO at *
  generalize optL nO = nL at *
  generalize nO.isSome = bN at *
  simp only at kc kn kt ks kp kd hmay hgl hgs
  generalize dateP hv got = r at *
  obtain ⟨t, er⟩ := r
  simp only at kd hmay
  unfold Ent.parse at kp
  generalize ent ⟨gv.toArray⟩ = en at *
  obtain ⟨ew, rt, et⟩ := en
  simp only at kp hmay
  generalize valuesL qs fAuth = av at *
  obtain ⟨au, hau⟩ : ∃ b, decide (0 < av.length) = b := ⟨_, rfl⟩
  have hau2 : decide ((av.length : Int) > 0) = au := by rw [← hau]; simp
  rw [hau] at hmay
  have HAV := Lib.hid hau
  clear hau
  have HM := Lib.hid hmay
  have HW1 := Lib.hid hW1; have B1 := Lib.hid b1; have X1 := Lib.hid x1; have HBS := Lib.hid hbS; have E3 := Lib.hid e3; have HAU := Lib.hid hau2
  have KQ1 := Lib.hid kq1; have KX1 := Lib.hid kx1; have KX2 := Lib.hid kx2; have KX3 := Lib.hid kx3; have KX4 := Lib.hid kx4; have KX5 := Lib.hid kx5
  have KC := Lib.hid kc; have KN := Lib.hid kn; have KA := Lib.hid ka; have KL := Lib.hid kl; have KT := Lib.hid kt; have KS := Lib.hid ks; have KD := Lib.hid kd
  obtain ⟨c0, c1, c2, c3, c4, c5, c6, c7, cl⟩ := x1.cells
  clear hmay hW1 b1 x1 hbS e3 hau2 kq1 kx1 kx2 kx3 kx4 kx5 kc kn ka kl kt ks kd hq hr hs hqs hfl hqf hgl hgs hg
  unfold entV at *
  go_enter Tryz.func26, Tryz.ntmps26
  go_upto_region 1 with (fail)
  rw [HW1.out]
  go_upto_region 3 with (fail)
  clear c0 c1 c2 c3 c4 c5 c6 c7 cl
  go_cut [47] (fun sc wx => sc = .bool (!(bG && bS)) ∧ Below W1.heap.size W1 wx)
  case first =>
    have e4 := E3.out
    have hbS := HBS.out
    cases hb : bG
    · rw [hb] at e4
      clear hbS
      go_wp2
      go_meet
      exact ⟨by rw [hb]; rfl, Below.refl _ _⟩
    · rw [hb] at e4
      by_cases h1 : st = 200
      · subst h1
        have hS : bS = true := by rw [← hbS]; simp [okSt]
        clear hbS
        go_wp2
        go_meet
        exact ⟨by rw [hb, hS]; rfl, Below.refl _ _⟩
      · have t1 : (st != 200) = true := by simp [h1]
        by_cases h2 : st = 301
        · subst h2
          have hS : bS = true := by rw [← hbS]; simp [okSt]
          clear hbS
          go_wp2
          go_meet
          exact ⟨by rw [hb, hS]; rfl, Below.refl _ _⟩
        · have t2 : (st != 301) = true := by simp [h2]
          by_cases h3 : st = 404
          · subst h3
            have hS : bS = true := by rw [← hbS]; simp [okSt]
            clear hbS
            go_wp2
            go_meet
            exact ⟨by rw [hb, hS]; rfl, Below.refl _ _⟩
          · have t3 : (st != 404) = true := by simp [h3]
            by_cases h4 : st = 410
            · subst h4
              have hS : bS = true := by rw [← hbS]; simp [okSt]
              clear hbS
              go_wp2
              go_meet
              exact ⟨by rw [hb, hS]; rfl, Below.refl _ _⟩
            · have hS : bS = false := by rw [← hbS]; simp [okSt, h1, h2, h3, h4]
              have t4 : (st != 410) = true := by simp [h4]
              clear hbS h1 h2 h3 h4
              go_wp2
              go_meet
              exact ⟨by rw [hb, hS]; rfl, Below.refl _ _⟩
  case rest =>
    obtain ⟨rfl, hcb⟩ := hcut
    obtain ⟨p, hp⟩ : ∃ p, (!(bG && bS)) = p := ⟨_, rfl⟩
    rw [hp]
    cases p
    rotate_left
    · have hM : M = false := by rw [HM.out]; exact mm1 hp
      have HM2 := Lib.hid hM
      clear hp hM
      go_wp2
      go_ret
      exact ⟨by rw [HM2.out]; rfl, bt B1.out hcb⟩
    have HM2 := Lib.hid (HM.out.trans (mm2 hp))
    clear hp HM E3 HBS
    have HCB := Lib.hid hcb
    obtain ⟨c0, c1, c2, c3, c4, c5, c6, c7, cl⟩ := (X1.out.below hcb).cells
    clear hcb
    go_wp2_with fail
    (with_reducible refine (KC.out _ HCB.out).mono ?_)
    rintro e w0 ⟨rfl, hb0⟩
    clear c0 c1 c2 c3 c4 c5 c6 c7 cl
    obtain ⟨W2, hW2⟩ : ∃ W, w0.alloc (.cells #[.bool o0, .bool o1, .bool o2, .bool o3, .int .i64 o4, .int .i64 o5] 36) = W := ⟨_, rfl⟩
    have hB2 : Below W1.heap.size W1 W2 := by rw [← hW2]; exact (bt HCB.out hb0).alloc (bt HCB.out hb0).size _
    have hz2 : w0.heap.size < W2.heap.size := by rw [← hW2]; simp
    have d0 : W2.cell? ⟨w0.heap.size, 0, none⟩ = some (.bool o0) := by rw [← hW2]; exact World.cell?_alloc_mark w0 _ _ _ 0
    have d3 : W2.cell? ⟨w0.heap.size, 3, none⟩ = some (.bool o3) := by rw [← hW2]; exact World.cell?_alloc_mark w0 _ _ _ 3
    have HW2 := Lib.hid hW2; have HB2 := Lib.hid hB2; have D0 := Lib.hid d0; have D3 := Lib.hid d3; have HZ2 := Lib.hid hz2
    clear hW2 hb0 hB2 d0 d3 HCB hz2
    go_upto_region 6 with (fail)
    rw [HW2.out]
    go_cut [64] (fun sc wx => sc = .bool (q1 || p1 || p2 || o0) ∧ Below W2.heap.size W2 wx)
    case first =>
      cases h1 : q1
      rotate_left
      · rw [h1] at KQ1
        go_wp2_with fail
        (with_reducible refine (KQ1.out _ HB2.out).mono ?_)
        rintro e y1 ⟨rfl, hy1⟩
        go_wp2
        go_meet
        exact ⟨by rw [h1]; rfl, hy1⟩
      rw [h1] at KQ1
      go_wp2_with fail
      (with_reducible refine (KQ1.out _ HB2.out).mono ?_)
      rintro e y1 ⟨rfl, hy1⟩
      cases h2 : p1
      rotate_left
      · rw [h2] at KX1
        go_wp2_with fail
        (with_reducible refine (KX1.out _ (bt HB2.out hy1)).mono ?_)
        rintro e y2 ⟨rfl, hy2⟩
        go_wp2
        go_meet
        exact ⟨by rw [h1, h2]; rfl, bt hy1 hy2⟩
      rw [h2] at KX1
      go_wp2_with fail
      (with_reducible refine (KX1.out _ (bt HB2.out hy1)).mono ?_)
      rintro e y2 ⟨rfl, hy2⟩
      have hy12 := bt hy1 hy2
      clear hy1 hy2
      cases h3 : p2
      rotate_left
      · rw [h3] at KX2
        go_wp2_with fail
        (with_reducible refine (KX2.out _ (bt HB2.out hy12)).mono ?_)
        rintro e y3 ⟨rfl, hy3⟩
        go_wp2
        go_meet
        exact ⟨by rw [h1, h2, h3]; rfl, bt hy12 hy3⟩
      rw [h3] at KX2
      go_wp2_with fail
      (with_reducible refine (KX2.out _ (bt HB2.out hy12)).mono ?_)
      rintro e y3 ⟨rfl, hy3⟩
      have hy := bt hy12 hy3
      have d0 := (hy.cell (p := ⟨w0.heap.size, 0, none⟩) HZ2.out).trans D0.out
      clear hy12 hy3
      go_wp2
      go_meet
      exact ⟨by rw [h1, h2, h3]; rfl, hy⟩
    case rest =>
      obtain ⟨rfl, hcb⟩ := hcut
      obtain ⟨p, hp⟩ : ∃ p, (q1 || p1 || p2 || o0) = p := ⟨_, rfl⟩
      rw [hp]
      have hB3 := bt HB2.out hcb
      cases p
      rotate_left
      · have hM : M = false := by rw [HM2.out]; exact mm3 hp
        have HM3 := Lib.hid hM
        clear hp hM
        go_wp2
        go_ret
        exact ⟨by rw [HM3.out]; rfl, bt B1.out hB3⟩
      have HM3 := Lib.hid (HM2.out.trans (mm4 hp))
      clear hp HM2 KQ1 KX1 KX2
      have HB3 := Lib.hid hB3
      have D3b := Lib.hid ((hcb.cell (p := ⟨w0.heap.size, 3, none⟩) HZ2.out).trans D3.out)
      have hz3 : w0.heap.size < _ := Nat.lt_of_lt_of_le HZ2.out hcb.size
      have HZ3 := Lib.hid hz3
      obtain ⟨c0, c1, c2, c3, c4, c5, c6, c7, cl⟩ := (X1.out.below hB3).cells
      clear hcb hB3 hz3 HZ2 D3 D0
      cases bN
      · go_wp2_with fail
        (with_reducible refine (KN.out _ HB3.out).mono ?_)
        rintro e w1 ⟨a1, d1, rfl, ho, hb1⟩
        clear ho c0 c1 c2 c3 c4 c5 c6 c7 cl
        go_wp2
        go_ret
        exact ⟨by rw [HM3.out]; rfl, bt B1.out (bt HB3.out hb1)⟩
      go_wp2_with fail
      (with_reducible refine (KN.out _ HB3.out).mono ?_)
      rintro e w1 ⟨a1, d1, rfl, ho, hb1⟩
      clear ho c0 c1 c2 c3 c4 c5 c6 c7 cl
      have HM4 := Lib.hid (HM3.out.trans (Bool.true_and _))
      have HB4 := Lib.hid (bt HB3.out hb1)
      have D3c := Lib.hid ((hb1.cell (p := ⟨w0.heap.size, 3, none⟩) HZ3.out).trans D3b.out)
      have HZ4 := Lib.hid (Nat.lt_of_lt_of_le HZ3.out hb1.size)
      clear hb1 HM3 D3b HZ3 HB3 KN
      go_wp2_with fail
      (with_reducible refine (KA.out _ HB4.out).mono ?_)
      rintro e w2 ⟨a2, d2, rfl, ho, hb2⟩
      have HB5 := Lib.hid (bt HB4.out hb2)
      have D3d := Lib.hid ((hb2.cell (p := ⟨w0.heap.size, 3, none⟩) HZ4.out).trans D3c.out)
      have HZ5 := Lib.hid (Nat.lt_of_lt_of_le HZ4.out hb2.size)
      clear ho hb2 D3c HZ4 HB4 KA
      go_upto_region 12 with (fail)
      go_cut [97] (fun sc wx => sc = .bool (au && !p3 && !p4 && !p5 && !o3) ∧ Below w2.heap.size w2 wx)
      case first =>
        have t1 := HAU.out
        have t2 := HAV.out
        cases h0 : au
        · rw [h0] at t1 t2
          go_wp2
          go_meet
          exact ⟨by rw [h0]; rfl, Below.refl _ _⟩
        rw [h0] at t1 t2
        cases h1 : p3
        rotate_left
        · rw [h1] at KX3
          go_wp2_with fail
          (with_reducible refine (KX3.out _ HB5.out).mono ?_)
          rintro e y1 ⟨rfl, hy1⟩
          go_wp2
          go_meet
          exact ⟨by rw [h0, h1]; rfl, hy1⟩
        rw [h1] at KX3
        go_wp2_with fail
        (with_reducible refine (KX3.out _ HB5.out).mono ?_)
        rintro e y1 ⟨rfl, hy1⟩
        cases h2 : p4
        rotate_left
        · rw [h2] at KX4
          go_wp2_with fail
          (with_reducible refine (KX4.out _ (bt HB5.out hy1)).mono ?_)
          rintro e y2 ⟨rfl, hy2⟩
          go_wp2
          go_meet
          exact ⟨by rw [h0, h1, h2]; rfl, bt hy1 hy2⟩
        rw [h2] at KX4
        go_wp2_with fail
        (with_reducible refine (KX4.out _ (bt HB5.out hy1)).mono ?_)
        rintro e y2 ⟨rfl, hy2⟩
        have hy12 := bt hy1 hy2
        clear hy1 hy2
        cases h3 : p5
        rotate_left
        · rw [h3] at KX5
          go_wp2_with fail
          (with_reducible refine (KX5.out _ (bt HB5.out hy12)).mono ?_)
          rintro e y3 ⟨rfl, hy3⟩
          go_wp2
          go_meet
          exact ⟨by rw [h0, h1, h2, h3]; rfl, bt hy12 hy3⟩
        rw [h3] at KX5
        go_wp2_with fail
        (with_reducible refine (KX5.out _ (bt HB5.out hy12)).mono ?_)
        rintro e y3 ⟨rfl, hy3⟩
        have hy := bt hy12 hy3
        have d3 := (hy.cell (p := ⟨w0.heap.size, 3, none⟩) HZ5.out).trans D3d.out
        clear hy12 hy3
        go_wp2
        go_meet
        exact ⟨by rw [h0, h1, h2, h3]; rfl, hy⟩
      case rest =>
        obtain ⟨rfl, hcb⟩ := hcut
        obtain ⟨p, hp⟩ : ∃ p, (au && !p3 && !p4 && !p5 && !o3) = p := ⟨_, rfl⟩
        rw [hp]
        have hB6 := bt HB5.out hcb
        cases p
        rotate_left
        · have hM : M = false := by rw [HM4.out]; exact mm5 hp
          have HM5 := Lib.hid hM
          clear hp hM
          go_wp2
          go_ret
          exact ⟨by rw [HM5.out]; rfl, bt B1.out hB6⟩
        have HM5 := Lib.hid (HM4.out.trans (mm6 hp))
        have HB6 := Lib.hid hB6
        obtain ⟨c0, c1, c2, c3, c4, c5, c6, c7, cl⟩ := (X1.out.below hB6).cells
        clear hp hcb hB6 HM4 KX3 KX4 KX5 HAU HAV D3d HZ5
        go_wp2_with fail
        (with_reducible refine (KL.out _ HB6.out).mono ?_)
        rintro e w3 ⟨rfl, hb3⟩
        clear c0 c1 c2 c3 c4 c5 c6 c7 cl
        have hB7 := bt HB6.out hb3
        by_cases hL : 0 < L
        · have t1 : decide (L > 0) = true := by simpa using hL
          have hM : M = true := by rw [HM5.out]; simp [hL]
          have HM6 := Lib.hid hM
          clear hM hL
          go_wp2
          go_ret
          exact ⟨by rw [HM6.out]; rfl, bt B1.out hB7⟩
        have t1 : decide (L > 0) = false := by simpa using hL
        have hM : M = (rt || (er == 0)) := by rw [HM5.out]; simp [hL]
        have HM6 := Lib.hid hM
        have HB7 := Lib.hid hB7
        clear hM hL HM5 hb3 hB7
        go_wp2_with fail
        (with_reducible refine (KT.out _ HB7.out).mono ?_)
        rintro e w4 ⟨rfl, hb4⟩
        have HB8 := Lib.hid (bt HB7.out hb4)
        clear hb4 t1
        cases rt
        · simp only [cond_false] at kp
          have KP := Lib.hid kp; clear kp
          go_wp2_with fail
          (with_reducible refine (KP.out _).mono ?_)
          rintro e w5 ⟨rfl, hb5⟩
          have HB9 := Lib.hid (bt HB8.out hb5)
          clear hb5
          go_wp2_with fail
          (with_reducible refine (KS.out _ HB9.out).mono ?_)
          rintro e w6 ⟨rfl, hb6⟩
          have HBA := Lib.hid (bt HB9.out hb6)
          obtain ⟨c0, c1, c2, c3, c4, c5, c6, c7, cl⟩ := (X1.out.below HBA.out).cells
          clear hb6
          go_wp2_with fail
          (with_reducible refine (KD.out _).mono ?_)
          rintro e w7 ⟨rfl, hb7⟩
          clear c0 c1 c2 c3 c4 c5 c6 c7 cl
          go_wp2
          go_ret
          exact ⟨by rw [HM6.out]; rfl, bt B1.out (bt HBA.out hb7)⟩
        · simp only [cond_true] at kp
          have KP := Lib.hid kp; clear kp
          go_wp2_with fail
          (with_reducible refine (KP.out _).mono ?_)
          rintro e w5 ⟨rfl, hb5⟩
          have HB9 := Lib.hid (bt HB8.out hb5)
          clear hb5
          go_wp2_with fail
          (with_reducible refine (KS.out _ HB9.out).mono ?_)
          rintro e w6 ⟨rfl, hb6⟩
          have HBA := Lib.hid (bt HB9.out hb6)
          obtain ⟨c0, c1, c2, c3, c4, c5, c6, c7, cl⟩ := (X1.out.below HBA.out).cells
          clear hb6
          go_wp2_with fail
          (with_reducible refine (KD.out _).mono ?_)
          rintro e w7 ⟨rfl, hb7⟩
          clear c0 c1 c2 c3 c4 c5 c6 c7 cl
          go_wp2
          go_ret
          exact ⟨by rw [HM6.out]; rfl, bt B1.out (bt HBA.out hb7)⟩
end Go.Proofs.YtcgdcbnhpbokfaaGreatDoor
/- StorableMay: the walk of the law, and the law as it is handed in (printed by wip/tools/stmayl.py). -/
namespace Go.Proofs.YtcgdcbnhpbokfaaGreatDoor
open Go.RowKit Go.ChangeShapes Go.WideShapes
set_option maxRecDepth 100000

set_option maxHeartbeats 32000000 in
theorem storableMay_any (me dev : ByteArray) (QA : Option Addr) (qn qc : Nat) (qs : List Fld) (st mi asked got : Int) (re bo : ByteArray) (A V : Option Addr) (n c m d : Nat) (xs : List Fld) (w : World) (hE : DEnv w) (hq : Rd QA qn 2 (fldsV qs) w) (hqn : qn ≤ 140737488355328) (hqs : ∀ f ∈ qs, f.1.length ≤ 140737488355328 ∧ f.2.length ≤ 140737488355328) (hr : Rd A n 2 (fldsV xs) w) (hn : n ≤ 140737488355328) (hs : ∀ f ∈ xs, f.1.length ≤ 140737488355328 ∧ f.2.length ≤ 140737488355328) (hg : -9223372036854775808 ≤ got ∧ got ≤ 9223372036854775807) :
    Calls Tryz.prog 6 #[.agg #[.string me, .string dev, .slice QA qn qc], entV st re mi A n c bo asked got V m d] w fun e w' => e = .returned (.bool true) ∧ Below w.heap.size w w' := by
  obtain ⟨W1, hW1⟩ : ∃ W, w.alloc (.cells #[.string me, .string dev, .slice QA qn qc] 40) = W := ⟨_, rfl⟩
  have b1 : Below w.heap.size w W1 := by rw [← hW1]; exact (Below.refl w.heap.size w).alloc (Nat.le_refl _) _
  have z1 : W1.heap.size = w.heap.size + 1 := by rw [← hW1]; simp
  have x1 : W1.heap[w.heap.size]? = some (.cells #[.string me, .string dev, .slice QA qn qc] 40 (0, 0)) := by rw [← hW1]; exact heap_new w _ _ rfl
  obtain ⟨W2, hW2⟩ : ∃ W, W1.alloc (.cells #[.int .i64 st, .string re, .int .i64 mi, .slice A n c, .string bo, .int .i64 asked, .int .i64 got, .slice V m d] 30) = W := ⟨_, rfl⟩
  have b2 : Below W1.heap.size W1 W2 := by rw [← hW2]; exact (Below.refl W1.heap.size W1).alloc (Nat.le_refl _) _
  have x2 : EntAt (w.heap.size + 1) st re mi A n c bo asked got V m d W2 := by rw [← hW2]; exact heap_new W1 _ _ z1
  have x1 := (b2.block w.heap.size (by omega)).trans x1
  have z2 : w.heap.size < W2.heap.size := by rw [← hW2]; simp [z1]; omega
  have hB2 := bt b1 b2
  have hWW : (w.alloc (.cells #[.string me, .string dev, .slice QA qn qc] 40)).alloc (.cells #[.int .i64 st, .string re, .int .i64 mi, .slice A n c, .string bo, .int .i64 asked, .int .i64 got, .slice V m d] 30) = W2 := by rw [hW1]; exact hW2
  have kc : ∀ w', Below W2.heap.size W2 w' → w'.cell? ⟨w.heap.size, 0, none⟩ = some (.string me) ∧ w'.cell? ⟨w.heap.size, 1, none⟩ = some (.string dev) ∧ w'.cell? ⟨w.heap.size, 2, none⟩ = some (.slice QA qn qc) ∧ w'.cell? ⟨w.heap.size + 1, 0, none⟩ = some (.int .i64 st) ∧ w'.cell? ⟨w.heap.size + 1, 1, none⟩ = some (.string re) ∧ w'.cell? ⟨w.heap.size + 1, 2, none⟩ = some (.int .i64 mi) ∧ w'.cell? ⟨w.heap.size + 1, 3, none⟩ = some (.slice A n c) ∧ w'.cell? ⟨w.heap.size + 1, 4, none⟩ = some (.string bo) ∧ w'.cell? ⟨w.heap.size + 1, 5, none⟩ = some (.int .i64 asked) ∧ w'.cell? ⟨w.heap.size + 1, 6, none⟩ = some (.int .i64 got) ∧ w'.cell? ⟨w.heap.size + 1, 7, none⟩ = some (.slice V m d) ∧ Below W2.heap.size W2 w' := fun w' hb => by
    obtain ⟨a0, a1, a2, a3, a4, a5, a6, a7, _⟩ := (x2.below hb).cells
    have yr := (hb.block w.heap.size z2).trans x1
    have q0 := (of_heap yr 0).1; have q1 := (of_heap yr 1).1; have q2 := (of_heap yr 2).1
    simp only [List.getElem?_toArray, List.getElem?_cons_succ, List.getElem?_cons_zero] at q0 q1 q2
    exact ⟨q0, q1, q2, a0, a1, a2, a3, a4, a5, a6, a7, hb⟩
  obtain ⟨fq, hfq⟩ : ∃ b, few16 qs = b := ⟨_, rfl⟩
  obtain ⟨fx, hfx⟩ : ∃ b, few16 xs = b := ⟨_, rfl⟩
  obtain ⟨bm, hbm⟩ : ∃ b, decide ((me.size : Int) > 300) = b := ⟨_, rfl⟩
  obtain ⟨bd, hbd⟩ : ∃ b, decide ((dev.size : Int) > 300) = b := ⟨_, rfl⟩
  have kq := fun W (hb : Below W2.heap.size W2 W) => few16_any QA qn qc qs W ((hq.below hB2).below hb) hqn hqs
  have kx := fun W (hb : Below W2.heap.size W2 W) => few16_any A n c xs W ((hr.below hB2).below hb) hn hs
  rw [hfq] at kq
  rw [hfx] at kx
  have HA := Lib.hid (fun W (hb : Below W2.heap.size W2 W) => works16_any W ((hE.below hB2).below hb))
  have KC := Lib.hid kc; have KQ := Lib.hid kq; have KX := Lib.hid kx; have HWW := Lib.hid hWW; have HB2 := Lib.hid hB2; have HFQ := Lib.hid hfq; have HFX := Lib.hid hfx; have HBM := Lib.hid hbm; have HBD := Lib.hid hbd
  have HQ := Lib.hid (hq.below hB2); have HR := Lib.hid (hr.below hB2); have HE := Lib.hid (hE.below hB2); have HG := Lib.hid hg
  clear kc kq kx hWW hB2 hfq hfx hbm hbd hq hr hE hg hW1 hW2 b1 b2 z1 z2 x1 x2 hqs hs hqn hn
  unfold entV at *
  go_enter Tryz.func6, Tryz.ntmps6
  go_upto_region 1 with (fail)
  rw [HWW.out]
  go_cut [27] (fun sc wx => sc = .bool (!fq || !fx || bm || bd) ∧ Below W2.heap.size W2 wx)
  case first =>
    obtain ⟨d0, d1, d2, c0, c1, c2, c3, c4, c5, c6, c7, _⟩ := KC.out _ (Below.refl _ _)
    cases h1 : fq
    · rw [h1] at KQ
      go_wp2_with fail
      (with_reducible refine (KQ.out _ (Below.refl _ _)).mono ?_)
      rintro e y1 ⟨rfl, hy1⟩
      clear d0 d1 d2 c0 c1 c2 c3 c4 c5 c6 c7
      go_wp2
      go_meet
      exact ⟨by rw [h1]; rfl, hy1⟩
    rw [h1] at KQ
    go_wp2_with fail
    (with_reducible refine (KQ.out _ (Below.refl _ _)).mono ?_)
    rintro e y1 ⟨rfl, hy1⟩
    clear d0 d1 d2 c0 c1 c2 c3 c4 c5 c6 c7
    obtain ⟨d0, d1, d2, c0, c1, c2, c3, c4, c5, c6, c7, _⟩ := KC.out _ hy1
    cases h2 : fx
    · rw [h2] at KX
      go_wp2_with fail
      (with_reducible refine (KX.out _ hy1).mono ?_)
      rintro e y2 ⟨rfl, hy2⟩
      clear d0 d1 d2 c0 c1 c2 c3 c4 c5 c6 c7
      go_wp2
      go_meet
      exact ⟨by rw [h1, h2]; rfl, bt hy1 hy2⟩
    rw [h2] at KX
    go_wp2_with fail
    (with_reducible refine (KX.out _ hy1).mono ?_)
    rintro e y2 ⟨rfl, hy2⟩
    have hy := bt hy1 hy2
    clear hy1 hy2
    clear d0 d1 d2 c0 c1 c2 c3 c4 c5 c6 c7
    obtain ⟨d0, d1, d2, c0, c1, c2, c3, c4, c5, c6, c7, _⟩ := KC.out _ hy
    have t1 := HBM.out
    have t2 := HBD.out
    cases h3 : bm
    rotate_left
    · rw [h3] at t1
      clear t2
      go_wp2
      go_meet
      exact ⟨by rw [h1, h2, h3]; rfl, hy⟩
    rw [h3] at t1
    cases h4 : bd
    · rw [h4] at t2
      go_wp2
      go_meet
      exact ⟨by rw [h1, h2, h3, h4]; rfl, hy⟩
    · rw [h4] at t2
      go_wp2
      go_meet
      exact ⟨by rw [h1, h2, h3, h4]; rfl, hy⟩
  case rest =>
    obtain ⟨rfl, hcb⟩ := hcut
    obtain ⟨p, hp⟩ : ∃ p, (!fq || !fx || bm || bd) = p := ⟨_, rfl⟩
    rw [hp]
    cases p
    rotate_left
    · clear hp
      go_wp2_with fail
      (with_reducible refine (HA.out _ hcb).mono ?_)
      rintro e w2 ⟨rfl, hb2⟩
      go_wp2
      go_ret
      exact ⟨rfl, bt HB2.out (bt hcb hb2)⟩
    have e1 : fq = true := by revert hp; cases fq <;> simp
    have e2 : fx = true := by revert hp; cases fx <;> simp
    obtain ⟨l1, l2⟩ := few16_yes (HFQ.out.trans e1)
    obtain ⟨l3, l4⟩ := few16_yes (HFX.out.trans e2)
    have hqf := HQ.out.fld; have hxf := HR.out.fld
    have k1 := fun W (hb : Below W2.heap.size W2 W) => stMay_any me dev QA qn qc qs st mi asked got re bo A V n c m d xs W (HE.out.below hb) (HQ.out.below hb) (by omega) (by omega) (HR.out.below hb) (by omega) (by omega) HG.out
    have k2 := fun W (hb : Below W2.heap.size W2 W) => rmay_any me dev QA qn qc qs st mi asked got re bo A V n c m d xs W (HQ.out.below hb) (by omega) (by omega) (HR.out.below hb) (by omega) (by omega) HG.out
    generalize mayF me.data.toList qs st xs got dev.data.toList = M at *
    unfold entV at k1 k2
    have e3 : (M == M) = true := by simp
    have K1 := Lib.hid k1; have K2 := Lib.hid k2; have HCB := Lib.hid hcb
    clear k1 k2 e1 e2 l1 l2 l3 l4 hqf hxf hp
    have hd0 := hcb.drew
    obtain ⟨d0, d1, d2, c0, c1, c2, c3, c4, c5, c6, c7, _⟩ := KC.out _ hcb
    clear hcb
    go_upto_region 3 with (fail)
    refine wp_region_held_drew (S := (fun w' => w'.cell? ⟨w.heap.size, 0, none⟩ = some (.string me) ∧ w'.cell? ⟨w.heap.size, 1, none⟩ = some (.string dev) ∧ w'.cell? ⟨w.heap.size, 2, none⟩ = some (.slice QA qn qc) ∧ w'.cell? ⟨w.heap.size + 1, 0, none⟩ = some (.int .i64 st) ∧ w'.cell? ⟨w.heap.size + 1, 1, none⟩ = some (.string re) ∧ w'.cell? ⟨w.heap.size + 1, 2, none⟩ = some (.int .i64 mi) ∧ w'.cell? ⟨w.heap.size + 1, 3, none⟩ = some (.slice A n c) ∧ w'.cell? ⟨w.heap.size + 1, 4, none⟩ = some (.string bo) ∧ w'.cell? ⟨w.heap.size + 1, 5, none⟩ = some (.int .i64 asked) ∧ w'.cell? ⟨w.heap.size + 1, 6, none⟩ = some (.int .i64 got) ∧ w'.cell? ⟨w.heap.size + 1, 7, none⟩ = some (.slice V m d) ∧ Below W2.heap.size W2 w')) (by kernel_rfl) (KC.out _ hd0) (fun hHeld => ?_)
    refine tkS 0 hHeld ?_
    try simp only [Act.put, ps1, ps2, ps3]
    refine tkS 1 hHeld ?_
    try simp only [Act.put, ps1, ps2, ps3]
    refine tkS 2 hHeld ?_
    try simp only [Act.put, ps1, ps2, ps3]
    refine tkS 3 hHeld ?_
    try simp only [Act.put, ps1, ps2, ps3]
    refine tkS 4 hHeld ?_
    try simp only [Act.put, ps1, ps2, ps3]
    refine tkS 5 hHeld ?_
    try simp only [Act.put, ps1, ps2, ps3]
    refine tkS 6 hHeld ?_
    try simp only [Act.put, ps1, ps2, ps3]
    refine tkS 8 hHeld ?_
    try simp only [Act.put, ps1, ps2, ps3]
    refine tkS 9 hHeld ?_
    try simp only [Act.put, ps1, ps2, ps3]
    refine tkS 10 hHeld ?_
    try simp only [Act.put, ps1, ps2, ps3]
    refine tkS 11 hHeld ?_
    try simp only [Act.put, ps1, ps2, ps3]
    refine tkS 12 hHeld ?_
    try simp only [Act.put, ps1, ps2, ps3]
    refine tkS 13 hHeld ?_
    try simp only [Act.put, ps1, ps2, ps3]
    refine tkS 14 hHeld ?_
    try simp only [Act.put, ps1, ps2, ps3]
    refine wpAnyH_ready (rs := [7]) (by kernel_rfl) (by simp) (AllReadyH.cons (by simp only [List.getElem?_toArray, List.getElem?_cons_succ, List.getElem?_cons_zero]; exact rfl) (fun K hK => ?_) AllReadyH.nil)
    rw [if_pos (by rfl)]
    go_simp
    (with_reducible refine (K1.out _ hd0).mono ?_); rintro e v1 ⟨rfl, hv1⟩; have hd1 := bt hd0 hv1; go_wp2_with fail
    refine hK.out _ _ (KC.out _ hd1) (fun hHeld => ?_)
    clear hK K
    try simp only [Act.put, ps1, ps2, ps3]
    refine wpAnyH_ready (rs := [15]) (by kernel_rfl) (by simp) (AllReadyH.cons (by simp only [List.getElem?_toArray, List.getElem?_cons_succ, List.getElem?_cons_zero]; exact rfl) (fun K hK => ?_) AllReadyH.nil)
    rw [if_pos (by rfl)]
    go_simp
    (with_reducible refine (K2.out _ hd1).mono ?_); rintro e v2 ⟨rfl, hv2⟩; have hd2 := bt hd1 hv2; go_wp2_with fail
    refine hK.out _ _ (KC.out _ hd2) (fun hHeld => ?_)
    clear hK K
    try simp only [Act.put, ps1, ps2, ps3]
    refine tkS 16 hHeld ?_
    try simp only [Act.put, ps1, ps2, ps3]
    refine tkS 17 hHeld ?_
    try simp only [Act.put, ps1, ps2, ps3]
    refine wpAnyH_ready (rs := [18]) (by kernel_rfl) (by simp) (AllReadyH.cons (by simp only [List.getElem?_toArray, List.getElem?_cons_succ, List.getElem?_cons_zero]; exact rfl) (fun K hK => ?_) AllReadyH.nil)
    rw [if_pos (by rfl)]
    go_simp
    (with_reducible refine (HA.out _ hd2).mono ?_); rintro e v3 ⟨rfl, hv3⟩; have hd3 := bt hd2 hv3; go_wp2_with fail
    refine hK.out _ _ (KC.out _ hd3) (fun hHeld => ?_)
    clear hK K
    try simp only [Act.put, ps1, ps2, ps3]
    refine tkS 19 hHeld ?_
    try simp only [Act.put, ps1, ps2, ps3]
    refine tkS 20 hHeld ?_
    try simp only [Act.put, ps1, ps2, ps3]
    refine wpAnyH_done (by kernel_rfl) ?_ _
    clear hHeld
    go_wp2
    go_ret
    exact ⟨rfl, bt HB2.out hd3⟩
theorem storableMay_law {H : Type} {enc : TypeId × Value → H} {W : World} {base0 base1 : Nat}
    (v0 : Value) (hv0 : Value.okWide Tryz.prog W .any base0 40 v0) {d0 : DataW H} {p0 : List MemPlace} (h0 : DataW.Trod enc Tryz.prog W 0 (fun _ => true) true 40 v0 d0 p0) (hr0 : Reach 40 d0)
    (v1 : Value) (hv1 : Value.okWide Tryz.prog W .any base1 30 v1) {d1 : DataW H} {p1 : List MemPlace} (h1 : DataW.Trod enc Tryz.prog W 0 (fun _ => true) true 30 v1 d1 p1) (hr1 : Reach 30 d1)
    (w : World) (hw : w = W) (hE : DEnv W) :
    Calls Tryz.prog 6 #[v0, v1] w fun e w' => e = .returned (.bool true) ∧ Below w.heap.size w w' := by
  subst hw
  obtain ⟨me, dev, QA, qn, qc, qs, rfl, hQ, hqn, hql⟩ := open_asked hv0 h0 hr0
  obtain ⟨st, re, mi, A, n, c, bo, xs, asd, gt, va, vn, vc, es, rfl, ⟨hR, hn, hl, _, _⟩, wa, wg, _⟩ := open_entry hv1 h1 hr1
  have hwf : ∀ z : Int, (Lit.int .i64 z).wf = true → -9223372036854775808 ≤ z ∧ z ≤ 9223372036854775807 := by
    intro z hz
    have e1 : IntKind.i64.min = -9223372036854775808 := by decide
    have e2 : IntKind.i64.max = 9223372036854775807 := by decide
    simp [Lit.wf] at hz
    omega
  exact storableMay_any me dev QA qn qc qs st mi asd gt re bo A va n c vn vc xs w hE hQ (by unfold reachBytes at hqn; omega) (fun f hf => by have := hql f hf; unfold reachBytes at this; omega) hR (by unfold reachBytes at hn; omega) (fun f hf => by have := hl f hf; unfold reachBytes at this; omega) (hwf _ wg)
end Go.Proofs.YtcgdcbnhpbokfaaGreatDoor
