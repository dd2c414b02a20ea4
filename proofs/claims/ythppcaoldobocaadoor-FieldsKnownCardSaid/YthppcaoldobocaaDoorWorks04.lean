/- The law's some, reads, fails, works (layer 4). -/
import Derived.Test.YthppcaoldobocaaDoorParse
import Derived.Test.YthppcaoldobocaaDoorGet
import Derived.Laws.OwnMore
namespace Go.Proofs.YthppcaoldobocaaDoor
open Go.RowKit
set_option maxRecDepth 100000

theorem OwnF.new (w : World) (fs : List Fld) (h : fs.length ≤ 1000000) : OwnF w.heap.size (.slice (some ⟨w.heap.size, 0, none⟩) fs.length fs.length) fs (w.alloc (.cells (fldsV fs).toArray 37)) := by
  refine ⟨fldsV_len fs, Or.inr ⟨w.heap.size, fs.length, (fldsV fs).toArray, rfl, Nat.le_refl _, ?_, Nat.le_refl _, ?_, ?_, ?_⟩⟩
  · exact heap_new _ _ _ rfl
  · unfold maxLen; omega
  · rw [List.size_toArray, fldsV_len]
  · exact List.take_of_length_le (by rw [fldsV_len]; exact Nat.le_refl _)
theorem Rd.newS (w : World) (ls : List (List UInt8)) (T : TypeId) : Rd (some ⟨w.heap.size, 0, none⟩) ls.length 1 (strsV ls) (w.alloc (.cells (strsV ls).toArray T)) := by
  refine ⟨by simp [strsV], fun _ => ⟨w.heap.size, 0, rfl, by simp, fun j u hu => ?_⟩⟩
  rw [Nat.zero_add, World.cell?_alloc_mark]
  simpa using hu
theorem parF_len : ∀ (n : Nat) (s : List UInt8) (acc : List Fld), acc.length ≤ 64 → (parF n s acc).1.length ≤ 64
  | 0, _, _, h => h
  | n + 1, s, acc, h => by
    unfold parF
    cases s.isEmpty <;> simp only [cond_true, cond_false]
    · cases (Lib.cut s crlf).2.2 <;> simp only [Bool.not_true, Bool.not_false, cond_true, cond_false]
      · simp
      · cases h6 : (acc.length == 64) <;> simp only [cond_true, cond_false]
        · cases (oneE (Lib.cut s crlf).1 != 0) <;> simp only [cond_true, cond_false]
          · refine parF_len n _ _ ?_
            simp at h6; simp; omega
          · simp
        · simp
    · exact h
theorem parseL_len (s : List UInt8) : (parseL s).1.length ≤ 64 := parF_len _ _ _ (by simp)
/-- Names and values, one behind the other. -/
def pairsL : List (List UInt8) → List Fld
  | a :: b :: r => (a, b) :: pairsL r
  | _ => []
theorem pairsL_len : ∀ ls : List (List UInt8), (pairsL ls).length = ls.length / 2
  | [] => rfl
  | [_] => by simp [pairsL]
  | a :: b :: r => by rw [pairsL, List.length_cons, pairsL_len r, List.length_cons, List.length_cons]; omega
theorem pairsL_at : ∀ (ls : List (List UInt8)) (k : Nat) (h1 : 2 * k + 1 < ls.length) (h : k < (pairsL ls).length), (pairsL ls)[k] = (ls[2 * k]'(by omega), ls[2 * k + 1])
  | [], k, h, _ => by simp at h
  | [_], k, h, _ => by simp at h
  | a :: b :: r, 0, _, _ => rfl
  | a :: b :: r, k + 1, h, h2 => by
    have e := pairsL_at r k (by simp at h; omega) (by simpa [pairsL] using h2)
    have e1 : (a :: b :: r)[2 * (k + 1)]'(by simp at h ⊢; omega) = r[2 * k]'(by simp at h; omega) := by
      simp only [show 2 * (k + 1) = 2 * k + 1 + 1 from by omega, List.getElem_cons_succ]
    have e2 : (a :: b :: r)[2 * (k + 1) + 1]'h = r[2 * k + 1]'(by simp at h; omega) := by
      simp only [show 2 * (k + 1) + 1 = (2 * k + 1) + 1 + 1 from by omega, List.getElem_cons_succ]
    rw [e1, e2, ← e]; rfl

def someL : List Fld := [([65], [98]), ([120], [121]), ([97], [99])]
theorem some_any (w : World) : Calls Tryd.prog 37 #[] w (FieldsPost w someL) := by
  go_enter Tryd.func37, Tryd.ntmps37
  go_wp2
  go_ret
  exact ⟨_, 3, rfl, OwnF.new w someL (by decide), (Below.refl w.heap.size w).alloc (Nat.le_refl _) _⟩

def failsL (s : List UInt8) (e : Int) : Bool := decide ((parseL s).1.length = 0) && ((parseL s).2 == e)
theorem fails_any (s : ByteArray) (x : Int) (w : World) (hM : MaxL w) (hs : s.size ≤ 1000000) :
    Calls Tryd.prog 35 #[.string s, .int .i64 x] w fun e w' => e = .returned (.bool (failsL s.data.toList x)) ∧ Below w.heap.size w w' := by
  have k1 := parse4_any s w hM hs
  unfold failsL
  generalize parseL s.data.toList = out at *
  obtain ⟨fs, er⟩ := out
  have K1 := Lib.hid k1; clear k1
  simp only
  cases h0 : ((fs.length : Int) == 0)
  · have h1 : decide (fs.length = 0) = false := by simp at h0; simpa using h0
    rw [h1]
    go_enter Tryd.func35, Tryd.ntmps35
    go_wp2_with fail
    refine K1.out.mono ?_
    rintro e w1 ⟨a1, c1, rfl, ho1, hb1⟩
    simp only
    go_wp2
    go_ret
    exact ⟨rfl, hb1⟩
  · have h1 : decide (fs.length = 0) = true := by simp at h0; simpa using h0
    rw [h1]
    go_enter Tryd.func35, Tryd.ntmps35
    go_wp2_with fail
    refine K1.out.mono ?_
    rintro e w1 ⟨a1, c1, rfl, ho1, hb1⟩
    simp only
    go_wp2
    go_ret
    exact ⟨rfl, hb1⟩

def readsL (s : List UInt8) (ls : List (List UInt8)) : Bool := ((parseL s).2 == 0) && (decide (2 * (parseL s).1.length = ls.length) && ((parseL s).1 == pairsL ls))
set_option maxHeartbeats 8000000 in
theorem reads_any (s : ByteArray) (A : Option Addr) (n c : Nat) (ls : List (List UInt8)) (w : World) (hM : MaxL w) (hs : s.size ≤ 1000000) (hr : Rd A n 1 (strsV ls) w) (hn : n ≤ 1000000) :
    Calls Tryd.prog 34 #[.string s, .slice A n c] w fun e w' => e = .returned (.bool (readsL s.data.toList ls)) ∧ Below w.heap.size w w' := by
  obtain rfl := hr.str
  have k1 := parse4_any s w hM hs
  have hl64 := parseL_len s.data.toList
  unfold readsL
  generalize parseL s.data.toList = out at *
  obtain ⟨fs, er⟩ := out
  have hl64 : fs.length ≤ 64 := hl64
  have K1 := Lib.hid k1; have HR := Lib.hid hr; clear k1 hr
  simp only
  cases h0 : (er == 0)
  · have n0 : (er != 0) = true := by simp [bne, h0]
    rw [Bool.false_and]
    go_enter Tryd.func34, Tryd.ntmps34
    go_wp2_with fail
    refine K1.out.mono ?_
    rintro e w1 ⟨a1, c1, rfl, ho1, hb1⟩
    simp only
    go_wp2
    go_ret
    exact ⟨rfl, hb1⟩
  · have n0 : (er != 0) = false := by simp [bne, h0]
    rw [Bool.true_and]
    by_cases h2 : 2 * fs.length = ls.length
    · rw [decide_eq_true h2, Bool.true_and]
      have hw : IntKind.i64.wrap (2 * (fs.length : Int)) = (ls.length : Int) := by rw [IntWalk.i64_in _ (by omega)]; omega
      have t1 : ((ls.length : Int) != (ls.length : Int)) = false := by simp
      have hat := pairsL_at ls
      have hpl := pairsL_len ls
      generalize pairsL ls = ps at *
      have hlen : fs.length = ps.length := by omega
      have HAT := Lib.hid hat; have HLEN := Lib.hid hlen; clear hat hpl hlen
      go_enter Tryd.func34, Tryd.ntmps34
      go_wp2_with fail
      refine K1.out.mono ?_
      rintro e w1 ⟨a1, c1, rfl, ho1, hb1⟩
      have HO1 := Lib.hid ho1; clear ho1
      simp only
      go_wp2_with fail
      go_loopw [7] (fun i wr => ∃ k : Nat, k ≤ fs.length ∧ i = .int .i64 k ∧ Below w1.heap.size w1 wr ∧ Hid (fs.take k = ps.take k)) (fun i _ => fs.length - (intOf i).toNat)
      case atStart => exact ⟨0, Nat.zero_le _, rfl, Below.refl _ _, by show _ = _; rfl⟩
      case round =>
        obtain ⟨k, hk, rfl, hbw, HT⟩ := hrel
        have hle := HLEN.out
        by_cases hlt : k < fs.length
        · have hl2 : k < ps.length := by omega
          obtain ⟨b1, o1, e1, _, d1, d2⟩ := (HO1.out.rd.2.below hbw).fld_at (k := k) hlt
          subst e1
          obtain ⟨b2, o2, e2, _, d3⟩ := ((HR.out.below hb1).below hbw).str_at (k := 2 * k) (by omega)
          obtain ⟨b3, o3, e3, _, d4⟩ := ((HR.out.below hb1).below hbw).str_at (k := 2 * k + 1) (by omega)
          subst e2
          cases e3
          have hpk := HAT.out k (by omega) hl2
          have hno : fs[k] ≠ ps[k] → Hid ((fs == ps) = false) := by
            intro h; refine Lib.hid ?_
            rw [beq_eq_false_iff_ne]; intro e; subst e; exact h rfl
          have hyes : fs[k] = ps[k] → Hid (fs.take (k + 1) = ps.take (k + 1)) := by
            intro h; refine Lib.hid ?_
            rw [List.take_succ_eq_append_getElem hlt, List.take_succ_eq_append_getElem hl2, HT.out, h]
          rw [hpk] at hno hyes
          clear hpk
          have j1 : IntKind.i64.wrap (2 * (k : Int)) = 2 * (k : Int) := IntWalk.i64_in _ (by omega)
          have j2 : IntKind.i64.wrap (2 * (k : Int) + 1) = 2 * (k : Int) + 1 := IntWalk.i64_in _ (by omega)
          have j3 : (2 * (k : Int)).toNat = 2 * k := by omega
          have j4 : (2 * (k : Int) + 1).toNat = 2 * k + 1 := by omega
          have j5 : (0 : Int) ≤ 2 * (k : Int) := by omega
          have j6 : (0 : Int) ≤ 2 * (k : Int) + 1 := by omega
          have j7 : 2 * (k : Int) < (ls.length : Int) := by omega
          have j8 : 2 * (k : Int) + 1 < (ls.length : Int) := by omega
          generalize fs[k] = f at *
          generalize ls[2 * k]'(by omega) = g1 at *
          generalize ls[2 * k + 1]'(by omega) = g2 at *
          obtain ⟨f1, f2⟩ := f
          simp only at d1 d2
          have HNO := Lib.hid hno; have HYES := Lib.hid hyes; clear hno hyes HT hle
          cases e1 : (f1 == g1) <;> cases e2 : (f2 == g2)
          all_goals first
            | (have HR := HNO.out (by intro h; cases h; simp at e1 e2)
               go_wp2
               go_quiet (fail)
               go_wp2
               go_ret
               rw [HR.out]
               exact ⟨rfl, Go.below_drewN (bt hb1 hbw) _⟩)
            | (have HN := HYES.out (by rw [beq_iff_eq.1 e1, beq_iff_eq.1 e2])
               go_wp2
               go_quiet (fail)
               go_wp2
               go_roundw
               case rel => exact ⟨k + 1, by omega, by go_num, Go.below_drewN hbw _, HN⟩
               case measure => simp [intOf]; omega)
        · have hke : k = fs.length := by omega
          subst hke
          have hr : (fs == ps) = true := by
            have := HT.out; rw [List.take_length, hle, List.take_length] at this; rw [this]; simp
          have HR := Lib.hid hr; clear hr hle
          go_wp2
          go_ret
          rw [HR.out]
          exact ⟨rfl, bt hb1 hbw⟩
    · rw [decide_eq_false h2, Bool.false_and]
      have hw : IntKind.i64.wrap (2 * (fs.length : Int)) = 2 * (fs.length : Int) := IntWalk.i64_in _ (by omega)
      have t1 : ((2 * (fs.length : Int)) != (ls.length : Int)) = true := by simp; omega
      go_enter Tryd.func34, Tryd.ntmps34
      go_wp2_with fail
      refine K1.out.mono ?_
      rintro e w1 ⟨a1, c1, rfl, ho1, hb1⟩
      simp only
      go_wp2_with fail
      go_ret
      exact ⟨rfl, hb1⟩

theorem works_a : readsL [65, 58, 98, 13, 10, 97, 58, 32, 32, 99, 32, 100, 32, 32, 13, 10] [[65], [98], [97], [99, 32, 100]] = true := by kernel_rfl
theorem works_b : failsL [65, 32, 58, 32, 98, 13, 10] 4 = true := by kernel_rfl
theorem works_c : getL someL [97] = ([98, 44, 32, 99], true) := by kernel_rfl
theorem works4_any (w : World) (hM : MaxL w) :
    Calls Tryd.prog 11 #[] w fun e w' => e = .returned (.bool true) ∧ Below w.heap.size w w' := by
  have k0 := fun (a : Option Addr) (c : Nat) (w : World) (h : Rd a 3 2 (fldsV someL) w) => get_any a 3 c someL ⟨#[97]⟩ w h (by decide) (by decide) (by decide)
  rw [show (⟨#[97]⟩ : ByteArray).data.toList = [97] from rfl, works_c] at k0
  have k1 := fun (w : World) (hM : MaxL w) => reads_any ⟨#[65, 58, 98, 13, 10, 97, 58, 32, 32, 99, 32, 100, 32, 32, 13, 10]⟩ (some ⟨w.heap.size, 0, none⟩) 4 4 [[65], [98], [97], [99, 32, 100]] (w.alloc (.cells #[.string ⟨#[65]⟩, .string ⟨#[98]⟩, .string ⟨#[97]⟩, .string ⟨#[99, 32, 100]⟩] 9)) (hM.below ((Below.refl w.heap.size w).alloc (Nat.le_refl _) _)) (by decide) (Rd.newS w [[65], [98], [97], [99, 32, 100]] 9) (by decide)
  rw [show (⟨#[65, 58, 98, 13, 10, 97, 58, 32, 32, 99, 32, 100, 32, 32, 13, 10]⟩ : ByteArray).data.toList = [65, 58, 98, 13, 10, 97, 58, 32, 32, 99, 32, 100, 32, 32, 13, 10] from rfl, works_a] at k1
  have k2 := fun (w : World) (hM : MaxL w) => fails_any ⟨#[65, 32, 58, 32, 98, 13, 10]⟩ 4 w hM (by decide)
  rw [show (⟨#[65, 32, 58, 32, 98, 13, 10]⟩ : ByteArray).data.toList = [65, 32, 58, 32, 98, 13, 10] from rfl, works_b] at k2
  have K0 := Lib.hid k0; have K1 := Lib.hid k1; have K2 := Lib.hid k2; clear k0 k1 k2
  go_enter Tryd.func11, Tryd.ntmps11
  go_wp2_with fail
  refine (some_any _).mono ?_
  rintro e w1 ⟨a1, c1, rfl, ho1, hb1⟩
  go_wp2_with fail
  refine (K0.out _ _ _ ho1.rd.2).mono ?_
  rintro e w2 ⟨rfl, hb2⟩
  have hB2 := bt hb1 hb2
  unfold getV
  simp only
  go_wp2_with fail
  refine (K1.out _ (hM.below hB2)).mono ?_
  rintro e w3 ⟨rfl, hb3⟩
  have hB3 := hB2.trans (((Below.refl w2.heap.size w2).alloc (Nat.le_refl _) _).trans (hb3.mono (by simp)) |>.mono hB2.size)
  go_wp2_with fail
  refine (K2.out _ (hM.below hB3)).mono ?_
  rintro e w4 ⟨rfl, hb4⟩
  go_wp2
  go_ret
  exact ⟨rfl, bt hB3 hb4⟩
end Go.Proofs.YthppcaoldobocaaDoor
