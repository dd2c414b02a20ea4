/- Joined out of the texts Date1, Date2, Date3, Date4, DateOk, Date5, Date6, Date7, Date8, Tick, Fresh1, RDateSpec, RDateEq, RDateTop, FreshIn, Box8 (wip/tools/dce.py). -/
import Derived.Test.YtcgdcbnhpbokfaaGreatDoorPz2
import Derived.Test.YtcgdcbnhpbokfaaGreatDoorShelf
import Derived.RegionTactic
import Derived.BigRegion
import Derived.Deep.RegionHeld3
import Derived.Laws.RangeString
import Derived.WalkMore
/- Dates: the walks of number, name, leap, long, ahead, year, two. -/
namespace Go.Proofs.YtcgdcbnhpbokfaaGreatDoor
open Go.RowKit
set_option maxRecDepth 100000

def intD : Value → Int
  | .int _ n => n
  | _ => 0
theorem dgI (c : UInt8) : dg c = (decide (48 ≤ (c.toNat : Int)) && decide ((c.toNat : Int) ≤ 57)) := by
  unfold dg; rw [Bool.eq_iff_iff]; simp; omega
theorem dnum_snoc : ∀ (l : List UInt8) (c : UInt8) (a : Int), dnum (l ++ [c]) a = 10 * dnum l a + ((c.toNat : Int) - 48)
  | [], c, a => rfl
  | x :: r, c, a => by rw [List.cons_append, dnum, dnum, dnum_snoc r c]
theorem dnum_le : ∀ (l : List UInt8), l.all dg = true → ∀ a : Int, 0 ≤ a → 0 ≤ dnum l a ∧ dnum l a < (a + 1) * 10 ^ l.length
  | [], _, a, ha => by simp [dnum]; omega
  | x :: r, h, a, ha => by
    rw [List.all_cons, Bool.and_eq_true] at h
    have hx := h.1
    unfold dg at hx
    simp at hx
    have ih := dnum_le r h.2 (10 * a + ((x.toNat : Int) - 48)) (by omega)
    rw [dnum, List.length_cons, Int.pow_succ]
    refine ⟨ih.1, Int.lt_of_lt_of_le ih.2 ?_⟩
    have h1 : (10 * a + ((x.toNat : Int) - 48) + 1) ≤ (a + 1) * 10 := by omega
    have h2 := Int.mul_le_mul_of_nonneg_right h1 (show (0 : Int) ≤ 10 ^ r.length from Int.le_of_lt (Int.pow_pos (by decide)))
    rw [Int.mul_comm (10 ^ r.length) 10, ← Int.mul_assoc]
    exact h2
set_option maxHeartbeats 4000000 in
theorem dnumber_any (s : ByteArray) (n : Nat) (hn : n ≤ 4) (w : World) :
    Calls Tryz.prog 185 #[.string s, .int .i64 n] w fun e w' => e = .returned (.tuple #[.int .i64 (dnumL s.data.toList n).1, .string ⟨(dnumL s.data.toList n).2.1.toArray⟩, .bool (dnumL s.data.toList n).2.2]) ∧ ∃ q, w' = w.drewN q := by
  obtain ⟨R, hR⟩ : ∃ R, dnumL s.data.toList n = R := ⟨_, rfl⟩
  rw [hR]
  unfold dnumL at hR
  rw [← Lib.size_eq] at hR
  by_cases hlt : s.size < n
  · have hR2 : R = (0, [], false) := by rw [← hR]; simp [hlt]
    subst hR2
    clear hR
    go_enter Tryz.func185, Tryz.ntmps185
    go_wp2
    go_ret3
    exact ⟨rfl, 0, rfl⟩
  · have hd : decide (s.size < n) = false := by simpa using hlt
    rw [hd] at hR
    simp only [cond_false] at hR
    have HR := Lib.hid hR
    clear hR hd
    go_enter Tryz.func185, Tryz.ntmps185
    go_wp2_with fail
    go_loopw [7, 14] (fun k i wr => ∃ j : Nat, j ≤ n ∧ i = .int .i64 j ∧ (∃ v, k = .int .i64 v ∧ Hid (v = dnum (s.data.toList.take j) 0)) ∧ Hid ((s.data.toList.take j).all dg = true) ∧ wr = w) (fun _ i _ => n - (intD i).toNat)
    case atStart => exact ⟨0, Nat.zero_le _, rfl, ⟨0, rfl, Lib.hid (by simp [dnum])⟩, Lib.hid (by simp), rfl⟩
    case round =>
      obtain ⟨j, hj, rfl, ⟨v, rfl, HV⟩, HALL, rfl⟩ := hrel
      by_cases hjn : j < n
      · have hjs : j < s.size := by omega
        have hu := u8_lt s[j]
        have hts := take_snoc s j hjs
        cases hdg : dg s[j]
        · have hbad : ∃ (b : Bool), (s.data.toList.take n).all dg = false := by
            refine ⟨true, ?_⟩
            rw [List.all_eq_false]
            exact ⟨s[j], by rw [List.mem_take_iff_getElem]; exact ⟨j, by rw [← Lib.size_eq]; omega, rfl⟩, by simp [hdg]⟩
          obtain ⟨_, hbad⟩ := hbad
          have hR2 : R = (0, [], false) := by rw [← HR.out, hbad]; rfl
          have hI := dgI s[j]
          rw [hdg] at hI
          subst hR2
          have hcase : (s[j].toNat : Int) < 48 ∨ (¬ (s[j].toNat : Int) < 48 ∧ 57 < (s[j].toNat : Int)) := by
            have := hI
            simp at this
            omega
          clear hI hdg hbad hts HR
          rcases hcase with hc | ⟨hc1, hc2⟩
          · have t1 : decide ((s[j].toNat : Int) < 48) = true := by simpa using hc
            go_wp2
            go_ret3
            exact ⟨rfl, 0, rfl⟩
          · have t1 : decide ((s[j].toNat : Int) < 48) = false := by simpa using hc1
            have t2 : decide ((s[j].toNat : Int) > 57) = true := by simpa using hc2
            go_wp2
            go_ret3
            exact ⟨rfl, 0, rfl⟩
        · have hI := dgI s[j]
          rw [hdg] at hI
          have hc : 48 ≤ (s[j].toNat : Int) ∧ (s[j].toNat : Int) ≤ 57 := by
            have := hI.symm
            simp at this
            omega
          have t1 : decide ((s[j].toNat : Int) < 48) = false := by simp; omega
          have t2 : decide ((s[j].toNat : Int) > 57) = false := by simp; omega
          have hb := dnum_le (s.data.toList.take j) HALL.out 0 (by omega)
          rw [← HV.out] at hb
          have hl4 : (s.data.toList.take j).length ≤ 3 := by rw [List.length_take]; omega
          have hp : ((10 : Int)) ^ (s.data.toList.take j).length ≤ 1000 := by
            generalize (s.data.toList.take j).length = L at hl4
            have h4 : L = 0 ∨ L = 1 ∨ L = 2 ∨ L = 3 := by omega
            rcases h4 with rfl | rfl | rfl | rfl <;> decide
          have hv : 0 ≤ v ∧ v ≤ 1000 := by omega
          have hw1 : IntKind.i64.wrap (10 * v) = 10 * v := by rw [IntKind.wrap_i64]; omega
          have hw2 : IntKind.u8.wrap ((s[j].toNat : Int) - 48) = (s[j].toNat : Int) - 48 := by rw [IntKind.wrap_u8]; omega
          have hw3 : IntKind.i64.wrap ((s[j].toNat : Int) - 48) = (s[j].toNat : Int) - 48 := by rw [IntKind.wrap_i64]; omega
          have hw4 : IntKind.i64.wrap (10 * v + ((s[j].toNat : Int) - 48)) = 10 * v + ((s[j].toNat : Int) - 48) := by rw [IntKind.wrap_i64]; omega
          have hw5 : IntKind.i64.wrap ((j : Int) + 1) = ((j + 1 : Nat) : Int) := by rw [IntKind.wrap_i64]; omega
          have hnext : 10 * v + ((s[j].toNat : Int) - 48) = dnum (s.data.toList.take (j + 1)) 0 := by rw [hts, dnum_snoc, ← HV.out]
          have hall : (s.data.toList.take (j + 1)).all dg = true := by rw [hts, List.all_append, HALL.out]; simp [hdg]
          have HN := Lib.hid hnext; have HA2 := Lib.hid hall
          clear hI hdg hb hp hl4 hnext hall hts HV HALL
          go_wp2
          go_roundw
          case rel => exact ⟨j + 1, hjn, rfl, ⟨_, rfl, HN⟩, HA2, trivial⟩
          case measure => simp [intD]; omega
      · have hjn2 : j = n := by omega
        subst hjn2
        have hR2 : R = (v, s.data.toList.drop j, true) := by rw [← HR.out, HALL.out, ← HV.out]; rfl
        have hns : j ≤ s.size := by omega
        subst hR2
        have hex : s.extract j s.size = ⟨(s.data.toList.drop j).toArray⟩ := by
          apply str_eq
          rw [Lib.extract_data]
          have : (s.data.toList.drop j).length ≤ s.size - j := by rw [List.length_drop, ← Lib.size_eq]; omega
          rw [List.take_of_length_le this]
        have HEX := Lib.hid hex
        clear HR HV HALL hex
        go_wp2
        go_region
        go_wp2
        go_ret3
        exact ⟨by rw [← HEX.out]; rfl, 1, rfl⟩
end Go.Proofs.YtcgdcbnhpbokfaaGreatDoor
/- Dates: the walks of leap, long, ahead, year, two. -/
namespace Go.Proofs.YtcgdcbnhpbokfaaGreatDoor
open Go.RowKit
set_option maxRecDepth 100000

set_option maxHeartbeats 2000000 in
theorem dleap_any (y : Int) (hy : 0 ≤ y ∧ y ≤ 100000) (w : World) :
    Calls Tryz.prog 136 #[.int .i64 y] w fun e w' => e = .returned (.bool (dleap y)) ∧ w' = w := by
  have e4 : y.tmod 4 = y % 4 := Int.tmod_eq_emod_of_nonneg hy.1
  have e100 : y.tmod 100 = y % 100 := Int.tmod_eq_emod_of_nonneg hy.1
  have e400 : y.tmod 400 = y % 400 := Int.tmod_eq_emod_of_nonneg hy.1
  obtain ⟨R, hR⟩ : ∃ R, dleap y = R := ⟨_, rfl⟩
  rw [hR]
  unfold dleap at hR
  have HR := Lib.hid hR
  clear hR
  by_cases h4 : y % 4 = 0
  · by_cases h100 : y % 100 = 0
    · by_cases h400 : y % 400 = 0
      · have hx : R = true := by rw [← HR.out]; simp [h4, h100, h400]
        subst hx
        clear HR
        go_enter Tryz.func136, Tryz.ntmps136
        go_wp2
        go_ret
        exact ⟨rfl, rfl⟩
      · have hx : R = false := by rw [← HR.out]; simp [h4, h100, h400]
        subst hx
        clear HR
        go_enter Tryz.func136, Tryz.ntmps136
        go_wp2
        go_ret
        exact ⟨by first | rfl | simp [h400], rfl⟩
    · have hx : R = true := by rw [← HR.out]; simp [h4, h100]
      subst hx
      clear HR
      go_enter Tryz.func136, Tryz.ntmps136
      go_wp2
      go_ret
      exact ⟨by first | rfl | simp [h100], rfl⟩
  · have h400 : ¬ y % 400 = 0 := by omega
    have hx : R = false := by rw [← HR.out]; simp [h4, h400]
    subst hx
    clear HR
    go_enter Tryz.func136, Tryz.ntmps136
    go_wp2
    go_ret
    exact ⟨by first | rfl | simp [h400], rfl⟩
set_option maxHeartbeats 2000000 in
theorem dlong_any (y m : Int) (hy : 0 ≤ y ∧ y ≤ 100000) (w : World) :
    Calls Tryz.prog 84 #[.int .i64 y, .int .i64 m] w fun e w' => e = .returned (.int .i64 (dlong y m)) ∧ w' = w := by
  by_cases h2 : m = 2
  · subst h2
    have hx : dlong y 2 = if dleap y = true then 29 else 28 := by unfold dlong; rw [if_pos rfl]
    have k := dleap_any y hy w
    rw [hx]
    generalize dleap y = b at *
    have K := Lib.hid k
    clear k hx
    cases b
    · go_enter Tryz.func84, Tryz.ntmps84
      go_wp2_with fail
      (with_reducible refine K.out.mono ?_)
      rintro e w1 ⟨rfl, rfl⟩
      go_wp2
      go_ret
      exact ⟨rfl, rfl⟩
    · go_enter Tryz.func84, Tryz.ntmps84
      go_wp2_with fail
      (with_reducible refine K.out.mono ?_)
      rintro e w1 ⟨rfl, rfl⟩
      go_wp2
      go_ret
      exact ⟨rfl, rfl⟩
  · by_cases h4 : m = 4 ∨ m = 6 ∨ m = 9 ∨ m = 11
    · have hx : dlong y m = 30 := by unfold dlong; rw [if_neg h2, if_pos h4]
      rw [hx]
      clear hx h2
      rcases h4 with rfl | rfl | rfl | rfl
      all_goals
        go_enter Tryz.func84, Tryz.ntmps84
        go_wp2
        go_ret
        exact ⟨rfl, rfl⟩
    · have hx : dlong y m = 31 := by unfold dlong; rw [if_neg h2, if_neg h4]
      rw [hx]
      have n4 : ¬ m = 4 := fun h => h4 (by simp [h])
      have n6 : ¬ m = 6 := fun h => h4 (by simp [h])
      have n9 : ¬ m = 9 := fun h => h4 (by simp [h])
      have n11 : ¬ m = 11 := fun h => h4 (by simp [h])
      clear hx h4
      go_enter Tryz.func84, Tryz.ntmps84
      go_wp2
      go_ret
      exact ⟨rfl, rfl⟩
set_option maxHeartbeats 2000000 in
theorem dahead_any (y : Int) (hy : 1970 ≤ y ∧ y ≤ 100000) (w : World) :
    Calls Tryz.prog 135 #[.int .i64 y] w fun e w' => e = .returned (.int .i64 (dahead y)) ∧ w' = w := by
  obtain ⟨R, hR⟩ : ∃ R, dahead y = R := ⟨_, rfl⟩
  rw [hR]
  unfold dahead at hR
  have e1 : (y - 1).tdiv 4 = (y - 1) / 4 := Int.tdiv_eq_ediv_of_nonneg (by omega)
  have e2 : (y - 1).tdiv 100 = (y - 1) / 100 := Int.tdiv_eq_ediv_of_nonneg (by omega)
  have e3 : (y - 1).tdiv 400 = (y - 1) / 400 := Int.tdiv_eq_ediv_of_nonneg (by omega)
  have w0 : IntKind.i64.wrap (y - 1) = y - 1 := by rw [IntKind.wrap_i64]; omega
  have w1 : IntKind.i64.wrap (y - 1970) = y - 1970 := by rw [IntKind.wrap_i64]; omega
  have w2 : IntKind.i64.wrap (365 * (y - 1970)) = 365 * (y - 1970) := by rw [IntKind.wrap_i64]; omega
  obtain ⟨a, ha⟩ : ∃ a, (y - 1) / 4 = a := ⟨_, rfl⟩
  obtain ⟨b, hb⟩ : ∃ b, (y - 1) / 100 = b := ⟨_, rfl⟩
  obtain ⟨c, hc⟩ : ∃ c, (y - 1) / 400 = c := ⟨_, rfl⟩
  rw [ha] at e1 hR; rw [hb] at e2 hR; rw [hc] at e3 hR
  have u1 : IntKind.i64.wrap a = a := by rw [IntKind.wrap_i64]; omega
  have u2 : IntKind.i64.wrap b = b := by rw [IntKind.wrap_i64]; omega
  have u3 : IntKind.i64.wrap c = c := by rw [IntKind.wrap_i64]; omega
  have v1 : IntKind.i64.wrap (365 * (y - 1970) + a) = 365 * (y - 1970) + a := by rw [IntKind.wrap_i64]; omega
  have v2 : IntKind.i64.wrap (365 * (y - 1970) + a - b) = 365 * (y - 1970) + a - b := by rw [IntKind.wrap_i64]; omega
  have v3 : IntKind.i64.wrap (365 * (y - 1970) + a - b + c) = 365 * (y - 1970) + a - b + c := by rw [IntKind.wrap_i64]; omega
  have v4 : IntKind.i64.wrap (365 * (y - 1970) + a - b + c - 492) = 365 * (y - 1970) + a - b + c - 492 := by rw [IntKind.wrap_i64]; omega
  have v5 : IntKind.i64.wrap (365 * (y - 1970) + a - b + c - 492 + 19) = 365 * (y - 1970) + a - b + c - 492 + 19 := by rw [IntKind.wrap_i64]; omega
  have v6 : IntKind.i64.wrap (365 * (y - 1970) + a - b + c - 492 + 19 - 4) = 365 * (y - 1970) + a - b + c - 492 + 19 - 4 := by rw [IntKind.wrap_i64]; omega
  have HR := Lib.hid hR
  clear ha hb hc hR
  rw [← HR.out]
  go_enter Tryz.func135, Tryz.ntmps135
  go_wp2
  go_ret
  exact ⟨rfl, rfl⟩
set_option maxHeartbeats 4000000 in
theorem dyear_any (d : Int) (hd : 0 ≤ d ∧ d ≤ 3000000) (w : World) :
    Calls Tryz.prog 83 #[.int .i64 d] w fun e w' => e = .returned (.tuple #[.int .i64 (dyearO d).1, .int .i64 (dyearO d).2]) ∧ w' = w := by
  obtain ⟨R, hR⟩ : ∃ R, dyear 9000 d (1970 + d / 366) = R := ⟨_, rfl⟩
  have hO : dyearO d = (R, d - dahead R) := by unfold dyearO; rw [hR]
  rw [hO]
  have e1 : d.tdiv 366 = d / 366 := Int.tdiv_eq_ediv_of_nonneg hd.1
  obtain ⟨a, ha⟩ : ∃ a, d / 366 = a := ⟨_, rfl⟩
  rw [ha] at e1 hR
  have hab : 0 ≤ a ∧ a ≤ 9000 := by omega
  have w0 : IntKind.i64.wrap a = a := by rw [IntKind.wrap_i64]; omega
  have w1 : IntKind.i64.wrap (1970 + a) = 1970 + a := by rw [IntKind.wrap_i64]; omega
  have hinv0 : dahead (1970 + a) ≤ d := by have := (dahead_ge (1970 + a) (by omega)).2; omega
  have HR := Lib.hid hR
  have HI := Lib.hid hinv0
  clear hR ha hO hinv0
  go_enter Tryz.func83, Tryz.ntmps83
  go_wp2_with fail
  go_loopw [2] (fun v wr => ∃ (y : Int) (f : Nat), v = .int .i64 y ∧ 1970 ≤ y ∧ y ≤ 90000 ∧ Hid (dahead y ≤ d) ∧ Hid (dyear f d y = R) ∧ Hid (d < 365 * (y - 1970) + 365 * f) ∧ wr = w) (fun v _ => 100000 - (intD v).toNat)
  case atStart => exact ⟨1970 + a, 9000, rfl, by omega, by omega, HI, HR, Lib.hid (by omega), rfl⟩
  case round =>
    obtain ⟨y, f, rfl, hy1, hy2, HA, HY, HF, rfl⟩ := hrel
    have hy3 : y ≤ 12000 := by have := (dahead_ge y hy1).1; have := HA.out; omega
    have k1 := dahead_any (y + 1) (by omega) wr
    have k2 := dahead_any y (by omega) wr
    have w2 : IntKind.i64.wrap (y + 1) = y + 1 := by rw [IntKind.wrap_i64]; omega
    have hge := dahead_ge y hy1
    have hge1 := dahead_ge (y + 1) (by omega)
    by_cases hle : dahead (y + 1) ≤ d
    · have hnext : ∃ f', dyear f' d (y + 1) = R ∧ d < 365 * (y + 1 - 1970) + 365 * f' := by
        cases f with
        | zero => have := HF.out; omega
        | succ f =>
          refine ⟨f, ?_, by have := HF.out; omega⟩
          have := HY.out
          rw [dyear, if_pos hle] at this
          exact this
      obtain ⟨f', hn1, hn2⟩ := hnext
      have HN := Lib.hid (And.intro hn1 (And.intro hn2 hle))
      have t1 : decide (dahead (y + 1) ≤ d) = true := by simpa using hle
      have K1 := Lib.hid k1
      clear k1 k2 hge hge1 hn1 hn2 hle HY HF
      go_wp2_with fail
      (with_reducible refine K1.out.mono ?_)
      rintro e w1 ⟨rfl, rfl⟩
      go_wp2
      go_roundw
      case rel => exact ⟨y + 1, f', rfl, by omega, by omega, Lib.hid HN.out.2.2, Lib.hid HN.out.1, Lib.hid HN.out.2.1, trivial⟩
      case measure => simp [intD]; omega
    · have hyR : y = R := by
        have := HY.out
        cases f with
        | zero => exact this
        | succ f => rw [dyear, if_neg hle] at this; exact this
      subst hyR
      have t1 : decide (dahead (y + 1) ≤ d) = false := by simpa using hle
      have w3 : IntKind.i64.wrap (d - dahead y) = d - dahead y := by rw [IntKind.wrap_i64]; omega
      have K1 := Lib.hid k1
      have K2 := Lib.hid k2
      clear k1 k2 hge hge1 hle HY HF
      go_wp2_with fail
      (with_reducible refine K1.out.mono ?_)
      rintro e w1 ⟨rfl, rfl⟩
      go_wp2_with fail
      (with_reducible refine K2.out.mono ?_)
      rintro e w1 ⟨rfl, rfl⟩
      go_wp2
      go_ret2
      exact ⟨rfl, rfl⟩
end Go.Proofs.YtcgdcbnhpbokfaaGreatDoor
/- Dates: the walks of name and of the names of the days. -/
namespace Go.Proofs.YtcgdcbnhpbokfaaGreatDoor
open Go.RowKit
set_option maxRecDepth 100000

/-- What the library's own texts read. -/
def DEnv (w : World) : Prop := MaxL w ∧ 0 < w.heap.size ∧ Lib.TabIs Tryz.prog w "strings.asciiSpace" .u8 Lib.asciiSpaceTab
theorem var_heap {P : Program} {w w' : World} {name : String} {k : IntKind} {zs : List Int} {g : Nat} (hg : P.globalNamed name = some g) (h : Lib.TabIs P w name k zs) (hb : w'.heap[g]? = w.heap[g]?) : Lib.TabIs P w' name k zs := by
  unfold Lib.TabIs World.var? at *
  rw [hg] at h ⊢
  simp only [Option.bind_some] at h ⊢
  rw [hb]
  exact h
theorem DEnv.below {w w' : World} (h : DEnv w) (hb : Below w.heap.size w w') : DEnv w' :=
  ⟨h.1.below hb, Nat.lt_of_lt_of_le h.2.1 hb.size, var_heap (g := 0) (by kernel_rfl) h.2.2 (hb.block _ h.2.1)⟩
def dayS : ByteArray := ⟨#[84, 104, 117, 114, 115, 100, 97, 121, 32, 70, 114, 105, 100, 97, 121, 32, 83, 97, 116, 117, 114, 100, 97, 121, 32, 83, 117, 110, 100, 97, 121, 32, 77, 111, 110, 100, 97, 121, 32, 84, 117, 101, 115, 100, 97, 121, 32, 87, 101, 100, 110, 101, 115, 100, 97, 121]⟩
theorem fields_days : Lib.fields dayS.data.toList = ddays := by decide +kernel
theorem ddays_any (w : World) (h : DEnv w) :
    Calls Tryz.prog 85 #[.string ⟨#[84, 104, 117, 114, 115, 100, 97, 121, 32, 70, 114, 105, 100, 97, 121, 32, 83, 97, 116, 117, 114, 100, 97, 121, 32, 83, 117, 110, 100, 97, 121, 32, 77, 111, 110, 100, 97, 121, 32, 84, 117, 101, 115, 100, 97, 121, 32, 87, 101, 100, 110, 101, 115, 100, 97, 121]⟩] w fun e w' => e = .returned (.slice (some ⟨w.heap.size, 0, none⟩) 7 7) ∧ Rd (some ⟨w.heap.size, 0, none⟩) 7 1 (strsV ddays) w' ∧ Below w.heap.size w w' := by
  have k := Tryz.strings_Fields dayS w (by decide) (by
    intro j b hb
    have := List.mem_of_getElem? hb
    have hall : (dayS.data.toList.all fun b => decide (b.toNat < 128)) = true := by decide +kernel
    simpa using List.all_eq_true.1 hall b this) h.2.2
  rw [fields_days] at k
  refine k.mono ?_
  rintro e w' ⟨rfl, rfl⟩
  refine ⟨rfl, ⟨rfl, fun _ => ⟨_, 0, rfl, by simp, fun j u hu => ?_⟩⟩, (Below.refl _ w).alloc (Nat.le_refl _) _⟩
  rw [Nat.zero_add, World.cell?_alloc_mark]
  simpa [strsV] using hu
set_option maxHeartbeats 4000000 in
theorem dname0_any (s : ByteArray) (b c : Nat) (w : World) (hr : Rd (some ⟨b, 0, none⟩) 7 1 (strsV ddays) w) :
    Calls Tryz.prog 184 #[.string s, .slice (some ⟨b, 0, none⟩) 7 c, .int .i64 0] w fun e w' => e = .returned (.tuple #[.int .i64 (dname s.data.toList 0 ddays 0).1, .string ⟨(dname s.data.toList 0 ddays 0).2.1.toArray⟩, .bool (dname s.data.toList 0 ddays 0).2.2]) ∧ w' = w := by
  obtain ⟨R, hR⟩ : ∃ R, dname s.data.toList 0 ddays 0 = R := ⟨_, rfl⟩
  rw [hR]
  have hlen : ∀ x ∈ ddays, 3 ≤ x.length := by decide
  have hl7 : ddays.length = 7 := rfl
  have HR := Lib.hid hR; have HRD := Lib.hid hr; have HLEN := Lib.hid hlen; have HL7 := Lib.hid hl7
  clear hR hr hlen hl7
  generalize ddays = ls at *
  go_enter Tryz.func184, Tryz.ntmps184
  go_wp2_with fail
  go_loopw [15] (fun i wr => ∃ j : Nat, j ≤ 7 ∧ i = .int .i64 j ∧ Hid (dname s.data.toList 0 (ls.drop j) j = R) ∧ wr = w) (fun i _ => 7 - (intD i).toNat)
  case atStart => exact ⟨0, Nat.zero_le _, rfl, HR, rfl⟩
  case round =>
    obtain ⟨j, hj, rfl, HD, rfl⟩ := hrel
    by_cases hj7 : j < 7
    · have hjl : j < ls.length := by rw [HL7.out]; exact hj7
      obtain ⟨b', o', e, _, d0⟩ := HRD.out.str_at hjl
      cases e
      have h3 := HLEN.out ls[j] (List.getElem_mem hjl)
      have hdr : ls.drop j = ls[j] :: ls.drop (j + 1) := List.drop_eq_getElem_cons hjl
      have hD := HD.out
      rw [hdr, dname] at hD
      generalize ls[j] = x at *
      obtain ⟨o, rfl⟩ : ∃ o : ByteArray, x = o.data.toList := ⟨⟨x.toArray⟩, by simp⟩
      rw [str_of, Nat.zero_add] at d0
      have i2 : IntKind.i64.wrap ((j : Int) + 1) = ((j + 1 : Nat) : Int) := by rw [IntKind.wrap_i64]; omega
      have j1 : IntKind.i64.wrap (j : Int) = j := by rw [IntKind.wrap_i64]; omega
      simp only [Nat.lt_irrefl, decide_false, cond_false] at hD
      have k1 := Tryz.strings_CutPrefix s o wr
      cases hp : Lib.hasPrefix s.data.toList o.data.toList
      · rw [hp] at hD k1
        simp only [cond_false] at hD
        have HD2 := Lib.hid hD
        have K1 := Lib.hid k1
        clear hD k1 hdr h3 hjl hp HD
        go_wp2_with fail
        (with_reducible refine K1.out.mono ?_)
        rintro e w1 ⟨rfl, rfl⟩
        go_wp2
        go_roundw
        case rel => exact ⟨j + 1, hj7, rfl, HD2, trivial⟩
        case measure => simp [intD]; omega
      · rw [hp] at hD k1
        simp only [cond_true] at hD
        have htp : Lib.trimPrefix s.data.toList o.data.toList = s.data.toList.drop o.data.toList.length := by unfold Lib.trimPrefix; rw [hp]; rfl
        rw [htp] at k1
        have HD2 := Lib.hid hD
        have K1 := Lib.hid k1
        clear hD k1 hdr h3 hjl hp HD htp
        go_wp2_with fail
        (with_reducible refine K1.out.mono ?_)
        rintro e w1 ⟨rfl, rfl⟩
        go_wp2
        go_ret3
        exact ⟨by rw [← HD2.out]; rfl, rfl⟩
    · have hj2 : j = 7 := by omega
      subst hj2
      have hD := HD.out
      rw [List.drop_eq_nil_of_le (by rw [HL7.out]; exact Nat.le_refl _), dname] at hD
      have HD2 := Lib.hid hD
      clear hD
      go_wp2
      go_ret3
      exact ⟨by rw [← HD2.out]; rfl, rfl⟩
set_option maxHeartbeats 4000000 in
theorem dname3_any (s : ByteArray) (b c : Nat) (w : World) (hr : Rd (some ⟨b, 0, none⟩) 7 1 (strsV ddays) w) :
    Calls Tryz.prog 184 #[.string s, .slice (some ⟨b, 0, none⟩) 7 c, .int .i64 3] w fun e w' => e = .returned (.tuple #[.int .i64 (dname s.data.toList 3 ddays 0).1, .string ⟨(dname s.data.toList 3 ddays 0).2.1.toArray⟩, .bool (dname s.data.toList 3 ddays 0).2.2]) ∧ w' = w := by
  obtain ⟨R, hR⟩ : ∃ R, dname s.data.toList 3 ddays 0 = R := ⟨_, rfl⟩
  rw [hR]
  have hlen : ∀ x ∈ ddays, 3 ≤ x.length := by decide
  have hl7 : ddays.length = 7 := rfl
  have HR := Lib.hid hR; have HRD := Lib.hid hr; have HLEN := Lib.hid hlen; have HL7 := Lib.hid hl7
  clear hR hr hlen hl7
  generalize ddays = ls at *
  go_enter Tryz.func184, Tryz.ntmps184
  go_wp2_with fail
  go_loopw [15] (fun i wr => ∃ j : Nat, j ≤ 7 ∧ i = .int .i64 j ∧ Hid (dname s.data.toList 3 (ls.drop j) j = R) ∧ wr = w) (fun i _ => 7 - (intD i).toNat)
  case atStart => exact ⟨0, Nat.zero_le _, rfl, HR, rfl⟩
  case round =>
    obtain ⟨j, hj, rfl, HD, rfl⟩ := hrel
    by_cases hj7 : j < 7
    · have hjl : j < ls.length := by rw [HL7.out]; exact hj7
      obtain ⟨b', o', e, _, d0⟩ := HRD.out.str_at hjl
      cases e
      have h3 := HLEN.out ls[j] (List.getElem_mem hjl)
      have hdr : ls.drop j = ls[j] :: ls.drop (j + 1) := List.drop_eq_getElem_cons hjl
      have hD := HD.out
      rw [hdr, dname] at hD
      generalize ls[j] = x at *
      obtain ⟨o, rfl⟩ : ∃ o : ByteArray, x = o.data.toList := ⟨⟨x.toArray⟩, by simp⟩
      rw [str_of, Nat.zero_add] at d0
      have i2 : IntKind.i64.wrap ((j : Int) + 1) = ((j + 1 : Nat) : Int) := by rw [IntKind.wrap_i64]; omega
      have j1 : IntKind.i64.wrap (j : Int) = j := by rw [IntKind.wrap_i64]; omega
      have hdec : decide (0 < 3) = true := rfl
      simp only [hdec, cond_true] at hD
      have hex : (o.extract 0 3).data.toList = o.data.toList.take 3 := by rw [Lib.extract_data]; simp
      have k1 := Tryz.strings_CutPrefix s (o.extract 0 3) wr
      rw [hex] at k1
      have hl3 : (o.data.toList.take 3).length = 3 := by rw [List.length_take]; omega
      rw [hl3] at hD
      have h3s : 3 ≤ o.size := by rw [Lib.size_eq]; exact h3
      cases hp : Lib.hasPrefix s.data.toList (o.data.toList.take 3)
      · rw [hp] at hD k1
        simp only [cond_false] at hD
        have HD2 := Lib.hid hD
        have K1 := Lib.hid k1
        clear hD k1 hdr h3 hjl hp HD hex hl3
        go_wp2_with fail
        (with_reducible refine K1.out.mono ?_)
        rintro e w1 ⟨rfl, rfl⟩
        go_wp2
        go_roundw
        case rel => exact ⟨j + 1, hj7, rfl, HD2, trivial⟩
        case measure => simp [intD]; omega
      · rw [hp] at hD k1
        simp only [cond_true] at hD
        have htp : Lib.trimPrefix s.data.toList (o.data.toList.take 3) = s.data.toList.drop (o.data.toList.take 3).length := by unfold Lib.trimPrefix; rw [hp]; rfl
        rw [htp, hl3] at k1
        have HD2 := Lib.hid hD
        have K1 := Lib.hid k1
        clear hD k1 hdr h3 hjl hp HD htp hex hl3
        go_wp2_with fail
        (with_reducible refine K1.out.mono ?_)
        rintro e w1 ⟨rfl, rfl⟩
        go_wp2
        go_ret3
        exact ⟨by rw [← HD2.out]; rfl, rfl⟩
    · have hj2 : j = 7 := by omega
      subst hj2
      have hD := HD.out
      rw [List.drop_eq_nil_of_le (by rw [HL7.out]; exact Nat.le_refl _), dname] at hD
      have HD2 := Lib.hid hD
      clear hD
      go_wp2
      go_ret3
      exact ⟨by rw [← HD2.out]; rfl, rfl⟩
end Go.Proofs.YtcgdcbnhpbokfaaGreatDoor
/- Dates: the walk of take, piece by piece (printed by wip/tools/date4.py). -/
namespace Go.Proofs.YtcgdcbnhpbokfaaGreatDoor
open Go.RowKit
set_option maxRecDepth 100000

/-- Nothing that was there turned, but for this block. -/
def ButB (mb : Nat) (w w' : World) : Prop := w'.os = w.os ∧ w'.tape = w.tape ∧ w'.output = w.output ∧ w.heap.size ≤ w'.heap.size ∧ ∀ b, b < w.heap.size → b ≠ mb → w'.heap[b]? = w.heap[b]?
theorem ButB.refl (mb : Nat) (w : World) : ButB mb w w := ⟨rfl, rfl, rfl, Nat.le_refl _, fun _ _ _ => rfl⟩
theorem ButB.ofBelow {mb : Nat} {w w' : World} (h : Below w.heap.size w w') : ButB mb w w' := ⟨h.os, h.tape, h.output, h.size, fun b hb _ => h.block b hb⟩
theorem ButB.trans {mb : Nat} {w w1 w' : World} (h : ButB mb w w1) (h2 : ButB mb w1 w') : ButB mb w w' :=
  ⟨h2.1.trans h.1, h2.2.1.trans h.2.1, h2.2.2.1.trans h.2.2.1, Nat.le_trans h.2.2.2.1 h2.2.2.2.1, fun b hb hn => (h2.2.2.2.2 b (Nat.lt_of_lt_of_le hb h.2.2.2.1) hn).trans (h.2.2.2.2 b hb hn)⟩
theorem ButB.set (mb j q : Nat) (w : World) (v : Value) : ButB mb w ((w.drewN q).setCell ⟨mb, j, none⟩ v) :=
  ⟨rfl, rfl, rfl, by simp, fun b _ hn => by simp [World.setCell, Array.getElem?_modify]; intro h; exact absurd h.symm hn⟩
theorem ButB.below {mb B : Nat} {w w' : World} (h : ButB mb w w') (hB : B ≤ mb) (hw : B ≤ w.heap.size) : Below B w w' := ⟨h.1, h.2.1, h.2.2.1, h.2.2.2.1, fun b hb => h.2.2.2.2 b (by omega) (by omega)⟩
def MomAt (mb : Nat) (m : Mom) (w : World) : Prop := w.heap[mb]? = some (.cells #[.int .i64 m.wd, .int .i64 m.day, .int .i64 m.month, .int .i64 m.year, .int .i64 m.hour, .int .i64 m.minute, .int .i64 m.second, .bool m.two] 170 (0, 0))
theorem MomAt.lt {mb : Nat} {m : Mom} {w : World} (h : MomAt mb m w) : mb < w.heap.size := by
  unfold MomAt at h
  rcases Nat.lt_or_ge mb w.heap.size with h' | h'
  · exact h'
  · simp [Array.getElem?_eq_none h'] at h
theorem MomAt.cells {mb : Nat} {m : Mom} {w : World} (h : MomAt mb m w) : w.cell? ⟨mb, 0, none⟩ = some (.int .i64 m.wd) ∧ w.cell? ⟨mb, 1, none⟩ = some (.int .i64 m.day) ∧ w.cell? ⟨mb, 2, none⟩ = some (.int .i64 m.month) ∧ w.cell? ⟨mb, 3, none⟩ = some (.int .i64 m.year) ∧ w.cell? ⟨mb, 4, none⟩ = some (.int .i64 m.hour) ∧ w.cell? ⟨mb, 5, none⟩ = some (.int .i64 m.minute) ∧ w.cell? ⟨mb, 6, none⟩ = some (.int .i64 m.second) ∧ w.cell? ⟨mb, 7, none⟩ = some (.bool m.two) ∧ ∀ j, w.frozen? ⟨mb, j, none⟩ = false := by
  unfold MomAt at h
  refine ⟨?_, ?_, ?_, ?_, ?_, ?_, ?_, ?_, fun j => ?_⟩ <;> first | simp [World.cell?, h] | simp [World.frozen?, h]
theorem MomAt.below {mb : Nat} {m : Mom} {w w' : World} (h : MomAt mb m w) (hb : Below w.heap.size w w') : MomAt mb m w' := (hb.block mb h.lt).trans h
theorem MomAt.set0 {mb q : Nat} {m : Mom} {w : World} (h : MomAt mb m w) (v : Int) : MomAt mb { m with wd := v } ((w.drewN q).setCell ⟨mb, 0, none⟩ (.int .i64 v)) := by
  unfold MomAt at *
  simp [World.setCell, Array.getElem?_modify, h]
theorem MomAt.set1 {mb q : Nat} {m : Mom} {w : World} (h : MomAt mb m w) (v : Int) : MomAt mb { m with day := v } ((w.drewN q).setCell ⟨mb, 1, none⟩ (.int .i64 v)) := by
  unfold MomAt at *
  simp [World.setCell, Array.getElem?_modify, h]
theorem MomAt.set2 {mb q : Nat} {m : Mom} {w : World} (h : MomAt mb m w) (v : Int) : MomAt mb { m with month := v } ((w.drewN q).setCell ⟨mb, 2, none⟩ (.int .i64 v)) := by
  unfold MomAt at *
  simp [World.setCell, Array.getElem?_modify, h]
theorem MomAt.set3 {mb q : Nat} {m : Mom} {w : World} (h : MomAt mb m w) (v : Int) : MomAt mb { m with year := v } ((w.drewN q).setCell ⟨mb, 3, none⟩ (.int .i64 v)) := by
  unfold MomAt at *
  simp [World.setCell, Array.getElem?_modify, h]
theorem MomAt.set4 {mb q : Nat} {m : Mom} {w : World} (h : MomAt mb m w) (v : Int) : MomAt mb { m with hour := v } ((w.drewN q).setCell ⟨mb, 4, none⟩ (.int .i64 v)) := by
  unfold MomAt at *
  simp [World.setCell, Array.getElem?_modify, h]
theorem MomAt.set5 {mb q : Nat} {m : Mom} {w : World} (h : MomAt mb m w) (v : Int) : MomAt mb { m with minute := v } ((w.drewN q).setCell ⟨mb, 5, none⟩ (.int .i64 v)) := by
  unfold MomAt at *
  simp [World.setCell, Array.getElem?_modify, h]
theorem MomAt.set6 {mb q : Nat} {m : Mom} {w : World} (h : MomAt mb m w) (v : Int) : MomAt mb { m with second := v } ((w.drewN q).setCell ⟨mb, 6, none⟩ (.int .i64 v)) := by
  unfold MomAt at *
  simp [World.setCell, Array.getElem?_modify, h]
theorem MomAt.set7 {mb q : Nat} {m : Mom} {w : World} (h : MomAt mb m w) (v : Bool) : MomAt mb { m with two := v } ((w.drewN q).setCell ⟨mb, 7, none⟩ (.bool v)) := by
  unfold MomAt at *
  simp [World.setCell, Array.getElem?_modify, h]
set_option maxHeartbeats 4000000 in
theorem dtake68_any (mb : Nat) (m : Mom) (s : ByteArray) (w : World) (_hE : DEnv w) (hm : MomAt mb m w) :
    Calls Tryz.prog 146 #[.pointer (some ⟨mb, 0, none⟩), .int .i32 68, .string s] w fun e w' => e = .returned (.tuple #[.string ⟨(dtake m 68 s.data.toList).2.1.toArray⟩, .bool (dtake m 68 s.data.toList).2.2]) ∧ ButB mb w w' ∧ MomAt mb (dtake m 68 s.data.toList).1 w' := by
  have hd : dtake m 68 s.data.toList = ({ m with day := (dnumL s.data.toList 2).1 }, (dnumL s.data.toList 2).2) := by unfold dtake; simp
  rw [hd]
  have k := dnumber_any s 2 (by decide) w
  rw [show ((2 : Nat) : Int) = 2 from rfl] at k
  generalize dnumL s.data.toList 2 = r at *
  obtain ⟨v, rest, is⟩ := r
  simp only at k ⊢
  obtain ⟨c0, c1, c2, c3, c4, c5, c6, c7, hf⟩ := hm.cells
  have f1 := hf 1
  have K := Lib.hid k; have HM := Lib.hid hm
  clear k hm hd hf
  go_enter Tryz.func146, Tryz.ntmps146
  go_wp2_with fail
  (with_reducible refine K.out.mono ?_)
  rintro e w1 ⟨rfl, q, rfl⟩
  go_wp2
  go_ret2
  exact ⟨rfl, ButB.set mb 1 q w _, HM.out.set1 (q := q) v⟩
set_option maxHeartbeats 4000000 in
theorem dtake89_any (mb : Nat) (m : Mom) (s : ByteArray) (w : World) (_hE : DEnv w) (hm : MomAt mb m w) :
    Calls Tryz.prog 146 #[.pointer (some ⟨mb, 0, none⟩), .int .i32 89, .string s] w fun e w' => e = .returned (.tuple #[.string ⟨(dtake m 89 s.data.toList).2.1.toArray⟩, .bool (dtake m 89 s.data.toList).2.2]) ∧ ButB mb w w' ∧ MomAt mb (dtake m 89 s.data.toList).1 w' := by
  have hd : dtake m 89 s.data.toList = ({ m with year := (dnumL s.data.toList 4).1 }, (dnumL s.data.toList 4).2) := by unfold dtake; simp
  rw [hd]
  have k := dnumber_any s 4 (by decide) w
  rw [show ((4 : Nat) : Int) = 4 from rfl] at k
  generalize dnumL s.data.toList 4 = r at *
  obtain ⟨v, rest, is⟩ := r
  simp only at k ⊢
  obtain ⟨c0, c1, c2, c3, c4, c5, c6, c7, hf⟩ := hm.cells
  have f3 := hf 3
  have K := Lib.hid k; have HM := Lib.hid hm
  clear k hm hd hf
  go_enter Tryz.func146, Tryz.ntmps146
  go_wp2_with fail
  (with_reducible refine K.out.mono ?_)
  rintro e w1 ⟨rfl, q, rfl⟩
  go_wp2
  go_ret2
  exact ⟨rfl, ButB.set mb 3 q w _, HM.out.set3 (q := q) v⟩
set_option maxHeartbeats 4000000 in
theorem dtake121_any (mb : Nat) (m : Mom) (s : ByteArray) (w : World) (_hE : DEnv w) (hm : MomAt mb m w) :
    Calls Tryz.prog 146 #[.pointer (some ⟨mb, 0, none⟩), .int .i32 121, .string s] w fun e w' => e = .returned (.tuple #[.string ⟨(dtake m 121 s.data.toList).2.1.toArray⟩, .bool (dtake m 121 s.data.toList).2.2]) ∧ ButB mb w w' ∧ MomAt mb (dtake m 121 s.data.toList).1 w' := by
  have hd : dtake m 121 s.data.toList = ({ m with year := (dnumL s.data.toList 2).1, two := true }, (dnumL s.data.toList 2).2) := by unfold dtake; simp
  rw [hd]
  have k := dnumber_any s 2 (by decide) w
  rw [show ((2 : Nat) : Int) = 2 from rfl] at k
  generalize dnumL s.data.toList 2 = r at *
  obtain ⟨v, rest, is⟩ := r
  simp only at k ⊢
  obtain ⟨c0, c1, c2, c3, c4, c5, c6, c7, hf⟩ := hm.cells
  have f3 := hf 3
  have f7 := hf 7
  have K := Lib.hid k; have HM := Lib.hid hm
  clear k hm hd hf
  go_enter Tryz.func146, Tryz.ntmps146
  go_wp2_with fail
  (with_reducible refine K.out.mono ?_)
  rintro e w1 ⟨rfl, q, rfl⟩
  have c7' : ((w.drewN q).setCell ⟨mb, 3, none⟩ (.int .i64 v)).cell? ⟨mb, 7, none⟩ = some (.bool m.two) := by
    rw [World.cell?_setCell_other _ _ _ _ (by intro e; cases e)]; exact c7
  have f7' : ((w.drewN q).setCell ⟨mb, 3, none⟩ (.int .i64 v)).frozen? ⟨mb, 7, none⟩ = false := by rw [World.frozen?_setCell]; exact f7
  go_wp2
  go_ret2
  exact ⟨rfl, (ButB.set mb 3 q w _).trans (ButB.set mb 7 0 _ _), MomAt.set7 (q := 0) (HM.out.set3 (q := q) v) true⟩
set_option maxHeartbeats 4000000 in
theorem dtake72_any (mb : Nat) (m : Mom) (s : ByteArray) (w : World) (_hE : DEnv w) (hm : MomAt mb m w) :
    Calls Tryz.prog 146 #[.pointer (some ⟨mb, 0, none⟩), .int .i32 72, .string s] w fun e w' => e = .returned (.tuple #[.string ⟨(dtake m 72 s.data.toList).2.1.toArray⟩, .bool (dtake m 72 s.data.toList).2.2]) ∧ ButB mb w w' ∧ MomAt mb (dtake m 72 s.data.toList).1 w' := by
  have hd : dtake m 72 s.data.toList = ({ m with hour := (dnumL s.data.toList 2).1 }, (dnumL s.data.toList 2).2) := by unfold dtake; simp
  rw [hd]
  have k := dnumber_any s 2 (by decide) w
  rw [show ((2 : Nat) : Int) = 2 from rfl] at k
  generalize dnumL s.data.toList 2 = r at *
  obtain ⟨v, rest, is⟩ := r
  simp only at k ⊢
  obtain ⟨c0, c1, c2, c3, c4, c5, c6, c7, hf⟩ := hm.cells
  have f4 := hf 4
  have K := Lib.hid k; have HM := Lib.hid hm
  clear k hm hd hf
  go_enter Tryz.func146, Tryz.ntmps146
  go_wp2_with fail
  (with_reducible refine K.out.mono ?_)
  rintro e w1 ⟨rfl, q, rfl⟩
  go_wp2
  go_ret2
  exact ⟨rfl, ButB.set mb 4 q w _, HM.out.set4 (q := q) v⟩
set_option maxHeartbeats 4000000 in
theorem dtake73_any (mb : Nat) (m : Mom) (s : ByteArray) (w : World) (_hE : DEnv w) (hm : MomAt mb m w) :
    Calls Tryz.prog 146 #[.pointer (some ⟨mb, 0, none⟩), .int .i32 73, .string s] w fun e w' => e = .returned (.tuple #[.string ⟨(dtake m 73 s.data.toList).2.1.toArray⟩, .bool (dtake m 73 s.data.toList).2.2]) ∧ ButB mb w w' ∧ MomAt mb (dtake m 73 s.data.toList).1 w' := by
  have hd : dtake m 73 s.data.toList = ({ m with minute := (dnumL s.data.toList 2).1 }, (dnumL s.data.toList 2).2) := by unfold dtake; simp
  rw [hd]
  have k := dnumber_any s 2 (by decide) w
  rw [show ((2 : Nat) : Int) = 2 from rfl] at k
  generalize dnumL s.data.toList 2 = r at *
  obtain ⟨v, rest, is⟩ := r
  simp only at k ⊢
  obtain ⟨c0, c1, c2, c3, c4, c5, c6, c7, hf⟩ := hm.cells
  have f5 := hf 5
  have K := Lib.hid k; have HM := Lib.hid hm
  clear k hm hd hf
  go_enter Tryz.func146, Tryz.ntmps146
  go_wp2_with fail
  (with_reducible refine K.out.mono ?_)
  rintro e w1 ⟨rfl, q, rfl⟩
  go_wp2
  go_ret2
  exact ⟨rfl, ButB.set mb 5 q w _, HM.out.set5 (q := q) v⟩
set_option maxHeartbeats 4000000 in
theorem dtake83_any (mb : Nat) (m : Mom) (s : ByteArray) (w : World) (_hE : DEnv w) (hm : MomAt mb m w) :
    Calls Tryz.prog 146 #[.pointer (some ⟨mb, 0, none⟩), .int .i32 83, .string s] w fun e w' => e = .returned (.tuple #[.string ⟨(dtake m 83 s.data.toList).2.1.toArray⟩, .bool (dtake m 83 s.data.toList).2.2]) ∧ ButB mb w w' ∧ MomAt mb (dtake m 83 s.data.toList).1 w' := by
  have hd : dtake m 83 s.data.toList = ({ m with second := (dnumL s.data.toList 2).1 }, (dnumL s.data.toList 2).2) := by unfold dtake; simp
  rw [hd]
  have k := dnumber_any s 2 (by decide) w
  rw [show ((2 : Nat) : Int) = 2 from rfl] at k
  generalize dnumL s.data.toList 2 = r at *
  obtain ⟨v, rest, is⟩ := r
  simp only at k ⊢
  obtain ⟨c0, c1, c2, c3, c4, c5, c6, c7, hf⟩ := hm.cells
  have f6 := hf 6
  have K := Lib.hid k; have HM := Lib.hid hm
  clear k hm hd hf
  go_enter Tryz.func146, Tryz.ntmps146
  go_wp2_with fail
  (with_reducible refine K.out.mono ?_)
  rintro e w1 ⟨rfl, q, rfl⟩
  go_wp2
  go_ret2
  exact ⟨rfl, ButB.set mb 6 q w _, HM.out.set6 (q := q) v⟩
set_option maxHeartbeats 4000000 in
theorem dtake119_any (mb : Nat) (m : Mom) (s : ByteArray) (w : World) (hE : DEnv w) (hm : MomAt mb m w) :
    Calls Tryz.prog 146 #[.pointer (some ⟨mb, 0, none⟩), .int .i32 119, .string s] w fun e w' => e = .returned (.tuple #[.string ⟨(dtake m 119 s.data.toList).2.1.toArray⟩, .bool (dtake m 119 s.data.toList).2.2]) ∧ ButB mb w w' ∧ MomAt mb (dtake m 119 s.data.toList).1 w' := by
  have hd : dtake m 119 s.data.toList = ({ m with wd := (dname s.data.toList 3 ddays 0).1 }, (dname s.data.toList 3 ddays 0).2) := by unfold dtake; simp
  rw [hd]
  have k0 := ddays_any w hE
  have k := fun w' hr => dname3_any s w.heap.size 7 w' hr
  generalize dname s.data.toList 3 ddays 0 = r at *
  obtain ⟨v, rest, is⟩ := r
  simp only at k ⊢
  have K0 := Lib.hid k0; have K := Lib.hid k; have HM := Lib.hid hm
  clear k0 k hm hd hE
  go_enter Tryz.func146, Tryz.ntmps146
  go_wp2_with fail
  (with_reducible refine K0.out.mono ?_)
  rintro e w1 ⟨rfl, hr, hb⟩
  have k1 := K.out w1 hr
  have hm1 := HM.out.below hb
  obtain ⟨c0, _, _, _, _, _, _, _, hf⟩ := hm1.cells
  have f0 := hf 0
  have K1 := Lib.hid k1; have HM1 := Lib.hid hm1; have HB := Lib.hid hb
  clear k1 hm1 hr hb hf
  go_wp2_with fail
  (with_reducible refine K1.out.mono ?_)
  rintro e w2 ⟨rfl, rfl⟩
  go_wp2
  go_ret2
  exact ⟨rfl, (ButB.ofBelow HB.out).trans (ButB.set mb 0 0 _ _), HM1.out.set0 (q := 0) v⟩
set_option maxHeartbeats 4000000 in
theorem dtake87_any (mb : Nat) (m : Mom) (s : ByteArray) (w : World) (hE : DEnv w) (hm : MomAt mb m w) :
    Calls Tryz.prog 146 #[.pointer (some ⟨mb, 0, none⟩), .int .i32 87, .string s] w fun e w' => e = .returned (.tuple #[.string ⟨(dtake m 87 s.data.toList).2.1.toArray⟩, .bool (dtake m 87 s.data.toList).2.2]) ∧ ButB mb w w' ∧ MomAt mb (dtake m 87 s.data.toList).1 w' := by
  have hd : dtake m 87 s.data.toList = ({ m with wd := (dname s.data.toList 0 ddays 0).1 }, (dname s.data.toList 0 ddays 0).2) := by unfold dtake; simp
  rw [hd]
  have k0 := ddays_any w hE
  have k := fun w' hr => dname0_any s w.heap.size 7 w' hr
  generalize dname s.data.toList 0 ddays 0 = r at *
  obtain ⟨v, rest, is⟩ := r
  simp only at k ⊢
  have K0 := Lib.hid k0; have K := Lib.hid k; have HM := Lib.hid hm
  clear k0 k hm hd hE
  go_enter Tryz.func146, Tryz.ntmps146
  go_wp2_with fail
  (with_reducible refine K0.out.mono ?_)
  rintro e w1 ⟨rfl, hr, hb⟩
  have k1 := K.out w1 hr
  have hm1 := HM.out.below hb
  obtain ⟨c0, _, _, _, _, _, _, _, hf⟩ := hm1.cells
  have f0 := hf 0
  have K1 := Lib.hid k1; have HM1 := Lib.hid hm1; have HB := Lib.hid hb
  clear k1 hm1 hr hb hf
  go_wp2_with fail
  (with_reducible refine K1.out.mono ?_)
  rintro e w2 ⟨rfl, rfl⟩
  go_wp2
  go_ret2
  exact ⟨rfl, (ButB.ofBelow HB.out).trans (ButB.set mb 0 0 _ _), HM1.out.set0 (q := 0) v⟩
set_option maxHeartbeats 4000000 in
theorem dtake44_any (mb : Nat) (m : Mom) (s : ByteArray) (w : World) (_hE : DEnv w) (hm : MomAt mb m w) :
    Calls Tryz.prog 146 #[.pointer (some ⟨mb, 0, none⟩), .int .i32 44, .string s] w fun e w' => e = .returned (.tuple #[.string ⟨(dtake m 44 s.data.toList).2.1.toArray⟩, .bool (dtake m 44 s.data.toList).2.2]) ∧ ButB mb w w' ∧ MomAt mb (dtake m 44 s.data.toList).1 w' := by
  have hd : dtake m 44 s.data.toList = (if Lib.hasPrefix s.data.toList [44] = true then (m, s.data.toList.drop 1, true) else (m, s.data.toList, false)) := by unfold dtake; simp
  rw [hd]
  have k := Tryz.strings_CutPrefix s ⟨#[44]⟩ w
  have e1 : (⟨#[44]⟩ : ByteArray).data.toList = [44] := rfl
  rw [e1] at k
  unfold Lib.trimPrefix at k
  rw [show ([44] : List UInt8).length = 1 from rfl] at k
  generalize s.data.toList.drop 1 = dr at *
  cases hp : Lib.hasPrefix s.data.toList [44]
  all_goals
    rw [hp] at k
    simp only [Bool.false_eq_true, if_false, if_true] at k ⊢
    have K := Lib.hid k; have HM := Lib.hid hm
    clear k hm hd hp e1
    go_enter Tryz.func146, Tryz.ntmps146
    go_wp2_with fail
    rw [show Utf8.encode 44 = ⟨#[44]⟩ from by decide +kernel]
    (with_reducible refine K.out.mono ?_)
    rintro e w1 ⟨rfl, rfl⟩
    go_wp2
    go_ret2
    exact ⟨rfl, ButB.refl _ _, HM.out⟩
set_option maxHeartbeats 4000000 in
theorem dtake32_any (mb : Nat) (m : Mom) (s : ByteArray) (w : World) (_hE : DEnv w) (hm : MomAt mb m w) :
    Calls Tryz.prog 146 #[.pointer (some ⟨mb, 0, none⟩), .int .i32 32, .string s] w fun e w' => e = .returned (.tuple #[.string ⟨(dtake m 32 s.data.toList).2.1.toArray⟩, .bool (dtake m 32 s.data.toList).2.2]) ∧ ButB mb w w' ∧ MomAt mb (dtake m 32 s.data.toList).1 w' := by
  have hd : dtake m 32 s.data.toList = (if Lib.hasPrefix s.data.toList [32] = true then (m, s.data.toList.drop 1, true) else (m, s.data.toList, false)) := by unfold dtake; simp
  rw [hd]
  have k := Tryz.strings_CutPrefix s ⟨#[32]⟩ w
  have e1 : (⟨#[32]⟩ : ByteArray).data.toList = [32] := rfl
  rw [e1] at k
  unfold Lib.trimPrefix at k
  rw [show ([32] : List UInt8).length = 1 from rfl] at k
  generalize s.data.toList.drop 1 = dr at *
  cases hp : Lib.hasPrefix s.data.toList [32]
  all_goals
    rw [hp] at k
    simp only [Bool.false_eq_true, if_false, if_true] at k ⊢
    have K := Lib.hid k; have HM := Lib.hid hm
    clear k hm hd hp e1
    go_enter Tryz.func146, Tryz.ntmps146
    go_wp2_with fail
    rw [show Utf8.encode 32 = ⟨#[32]⟩ from by decide +kernel]
    (with_reducible refine K.out.mono ?_)
    rintro e w1 ⟨rfl, rfl⟩
    go_wp2
    go_ret2
    exact ⟨rfl, ButB.refl _ _, HM.out⟩
set_option maxHeartbeats 4000000 in
theorem dtake58_any (mb : Nat) (m : Mom) (s : ByteArray) (w : World) (_hE : DEnv w) (hm : MomAt mb m w) :
    Calls Tryz.prog 146 #[.pointer (some ⟨mb, 0, none⟩), .int .i32 58, .string s] w fun e w' => e = .returned (.tuple #[.string ⟨(dtake m 58 s.data.toList).2.1.toArray⟩, .bool (dtake m 58 s.data.toList).2.2]) ∧ ButB mb w w' ∧ MomAt mb (dtake m 58 s.data.toList).1 w' := by
  have hd : dtake m 58 s.data.toList = (if Lib.hasPrefix s.data.toList [58] = true then (m, s.data.toList.drop 1, true) else (m, s.data.toList, false)) := by unfold dtake; simp
  rw [hd]
  have k := Tryz.strings_CutPrefix s ⟨#[58]⟩ w
  have e1 : (⟨#[58]⟩ : ByteArray).data.toList = [58] := rfl
  rw [e1] at k
  unfold Lib.trimPrefix at k
  rw [show ([58] : List UInt8).length = 1 from rfl] at k
  generalize s.data.toList.drop 1 = dr at *
  cases hp : Lib.hasPrefix s.data.toList [58]
  all_goals
    rw [hp] at k
    simp only [Bool.false_eq_true, if_false, if_true] at k ⊢
    have K := Lib.hid k; have HM := Lib.hid hm
    clear k hm hd hp e1
    go_enter Tryz.func146, Tryz.ntmps146
    go_wp2_with fail
    rw [show Utf8.encode 58 = ⟨#[58]⟩ from by decide +kernel]
    (with_reducible refine K.out.mono ?_)
    rintro e w1 ⟨rfl, rfl⟩
    go_wp2
    go_ret2
    exact ⟨rfl, ButB.refl _ _, HM.out⟩
set_option maxHeartbeats 4000000 in
theorem dtake71_any (mb : Nat) (m : Mom) (s : ByteArray) (w : World) (_hE : DEnv w) (hm : MomAt mb m w) :
    Calls Tryz.prog 146 #[.pointer (some ⟨mb, 0, none⟩), .int .i32 71, .string s] w fun e w' => e = .returned (.tuple #[.string ⟨(dtake m 71 s.data.toList).2.1.toArray⟩, .bool (dtake m 71 s.data.toList).2.2]) ∧ ButB mb w w' ∧ MomAt mb (dtake m 71 s.data.toList).1 w' := by
  have hd : dtake m 71 s.data.toList = (if Lib.hasPrefix s.data.toList [71] = true then (m, s.data.toList.drop 1, true) else (m, s.data.toList, false)) := by unfold dtake; simp
  rw [hd]
  have k := Tryz.strings_CutPrefix s ⟨#[71]⟩ w
  have e1 : (⟨#[71]⟩ : ByteArray).data.toList = [71] := rfl
  rw [e1] at k
  unfold Lib.trimPrefix at k
  rw [show ([71] : List UInt8).length = 1 from rfl] at k
  generalize s.data.toList.drop 1 = dr at *
  cases hp : Lib.hasPrefix s.data.toList [71]
  all_goals
    rw [hp] at k
    simp only [Bool.false_eq_true, if_false, if_true] at k ⊢
    have K := Lib.hid k; have HM := Lib.hid hm
    clear k hm hd hp e1
    go_enter Tryz.func146, Tryz.ntmps146
    go_wp2_with fail
    rw [show Utf8.encode 71 = ⟨#[71]⟩ from by decide +kernel]
    (with_reducible refine K.out.mono ?_)
    rintro e w1 ⟨rfl, rfl⟩
    go_wp2
    go_ret2
    exact ⟨rfl, ButB.refl _ _, HM.out⟩
set_option maxHeartbeats 4000000 in
theorem dtake77_any (mb : Nat) (m : Mom) (s : ByteArray) (w : World) (_hE : DEnv w) (hm : MomAt mb m w) :
    Calls Tryz.prog 146 #[.pointer (some ⟨mb, 0, none⟩), .int .i32 77, .string s] w fun e w' => e = .returned (.tuple #[.string ⟨(dtake m 77 s.data.toList).2.1.toArray⟩, .bool (dtake m 77 s.data.toList).2.2]) ∧ ButB mb w w' ∧ MomAt mb (dtake m 77 s.data.toList).1 w' := by
  have hd : dtake m 77 s.data.toList = (if Lib.hasPrefix s.data.toList [77] = true then (m, s.data.toList.drop 1, true) else (m, s.data.toList, false)) := by unfold dtake; simp
  rw [hd]
  have k := Tryz.strings_CutPrefix s ⟨#[77]⟩ w
  have e1 : (⟨#[77]⟩ : ByteArray).data.toList = [77] := rfl
  rw [e1] at k
  unfold Lib.trimPrefix at k
  rw [show ([77] : List UInt8).length = 1 from rfl] at k
  generalize s.data.toList.drop 1 = dr at *
  cases hp : Lib.hasPrefix s.data.toList [77]
  all_goals
    rw [hp] at k
    simp only [Bool.false_eq_true, if_false, if_true] at k ⊢
    have K := Lib.hid k; have HM := Lib.hid hm
    clear k hm hd hp e1
    go_enter Tryz.func146, Tryz.ntmps146
    go_wp2_with fail
    rw [show Utf8.encode 77 = ⟨#[77]⟩ from by decide +kernel]
    (with_reducible refine K.out.mono ?_)
    rintro e w1 ⟨rfl, rfl⟩
    go_wp2
    go_ret2
    exact ⟨rfl, ButB.refl _ _, HM.out⟩
set_option maxHeartbeats 4000000 in
theorem dtake84_any (mb : Nat) (m : Mom) (s : ByteArray) (w : World) (_hE : DEnv w) (hm : MomAt mb m w) :
    Calls Tryz.prog 146 #[.pointer (some ⟨mb, 0, none⟩), .int .i32 84, .string s] w fun e w' => e = .returned (.tuple #[.string ⟨(dtake m 84 s.data.toList).2.1.toArray⟩, .bool (dtake m 84 s.data.toList).2.2]) ∧ ButB mb w w' ∧ MomAt mb (dtake m 84 s.data.toList).1 w' := by
  have hd : dtake m 84 s.data.toList = (if Lib.hasPrefix s.data.toList [84] = true then (m, s.data.toList.drop 1, true) else (m, s.data.toList, false)) := by unfold dtake; simp
  rw [hd]
  have k := Tryz.strings_CutPrefix s ⟨#[84]⟩ w
  have e1 : (⟨#[84]⟩ : ByteArray).data.toList = [84] := rfl
  rw [e1] at k
  unfold Lib.trimPrefix at k
  rw [show ([84] : List UInt8).length = 1 from rfl] at k
  generalize s.data.toList.drop 1 = dr at *
  cases hp : Lib.hasPrefix s.data.toList [84]
  all_goals
    rw [hp] at k
    simp only [Bool.false_eq_true, if_false, if_true] at k ⊢
    have K := Lib.hid k; have HM := Lib.hid hm
    clear k hm hd hp e1
    go_enter Tryz.func146, Tryz.ntmps146
    go_wp2_with fail
    rw [show Utf8.encode 84 = ⟨#[84]⟩ from by decide +kernel]
    (with_reducible refine K.out.mono ?_)
    rintro e w1 ⟨rfl, rfl⟩
    go_wp2
    go_ret2
    exact ⟨rfl, ButB.refl _ _, HM.out⟩
set_option maxHeartbeats 4000000 in
theorem dtake45_any (mb : Nat) (m : Mom) (s : ByteArray) (w : World) (_hE : DEnv w) (hm : MomAt mb m w) :
    Calls Tryz.prog 146 #[.pointer (some ⟨mb, 0, none⟩), .int .i32 45, .string s] w fun e w' => e = .returned (.tuple #[.string ⟨(dtake m 45 s.data.toList).2.1.toArray⟩, .bool (dtake m 45 s.data.toList).2.2]) ∧ ButB mb w w' ∧ MomAt mb (dtake m 45 s.data.toList).1 w' := by
  have hd : dtake m 45 s.data.toList = (if Lib.hasPrefix s.data.toList [45] = true then (m, s.data.toList.drop 1, true) else (m, s.data.toList, false)) := by unfold dtake; simp
  rw [hd]
  have k := Tryz.strings_CutPrefix s ⟨#[45]⟩ w
  have e1 : (⟨#[45]⟩ : ByteArray).data.toList = [45] := rfl
  rw [e1] at k
  unfold Lib.trimPrefix at k
  rw [show ([45] : List UInt8).length = 1 from rfl] at k
  generalize s.data.toList.drop 1 = dr at *
  cases hp : Lib.hasPrefix s.data.toList [45]
  all_goals
    rw [hp] at k
    simp only [Bool.false_eq_true, if_false, if_true] at k ⊢
    have K := Lib.hid k; have HM := Lib.hid hm
    clear k hm hd hp e1
    go_enter Tryz.func146, Tryz.ntmps146
    go_wp2_with fail
    rw [show Utf8.encode 45 = ⟨#[45]⟩ from by decide +kernel]
    (with_reducible refine K.out.mono ?_)
    rintro e w1 ⟨rfl, rfl⟩
    go_wp2
    go_ret2
    exact ⟨rfl, ButB.refl _ _, HM.out⟩
set_option maxHeartbeats 4000000 in
theorem dtake69_any (mb : Nat) (m : Mom) (s : ByteArray) (w : World) (_hE : DEnv w) (hm : MomAt mb m w) :
    Calls Tryz.prog 146 #[.pointer (some ⟨mb, 0, none⟩), .int .i32 69, .string s] w fun e w' => e = .returned (.tuple #[.string ⟨(dtake m 69 s.data.toList).2.1.toArray⟩, .bool (dtake m 69 s.data.toList).2.2]) ∧ ButB mb w w' ∧ MomAt mb (dtake m 69 s.data.toList).1 w' := by
  have hd : dtake m 69 s.data.toList = (if Lib.hasPrefix s.data.toList [32] = true then ({ m with day := (dnumL (s.data.toList.drop 1) 1).1 }, (dnumL (s.data.toList.drop 1) 1).2) else ({ m with day := (dnumL s.data.toList 2).1 }, (dnumL s.data.toList 2).2)) := by unfold dtake; simp
  rw [hd]
  have k := Tryz.strings_CutPrefix s ⟨#[32]⟩ w
  have e1 : (⟨#[32]⟩ : ByteArray).data.toList = [32] := rfl
  rw [e1] at k
  unfold Lib.trimPrefix at k
  rw [show ([32] : List UInt8).length = 1 from rfl] at k
  have n1 := dnumber_any ⟨(s.data.toList.drop 1).toArray⟩ 1 (by decide) w
  rw [show ((1 : Nat) : Int) = 1 from rfl] at n1
  have n2 := dnumber_any s 2 (by decide) w
  rw [show ((2 : Nat) : Int) = 2 from rfl] at n2
  have e2 : (⟨(s.data.toList.drop 1).toArray⟩ : ByteArray).data.toList = s.data.toList.drop 1 := by simp
  rw [e2] at n1
  generalize s.data.toList.drop 1 = dr at *
  generalize dnumL dr 1 = r1 at *
  generalize dnumL s.data.toList 2 = r2 at *
  obtain ⟨v1, rest1, is1⟩ := r1
  obtain ⟨v2, rest2, is2⟩ := r2
  simp only at n1 n2 ⊢
  obtain ⟨c0, c1, c2, c3, c4, c5, c6, c7, hf⟩ := hm.cells
  have f1 := hf 1
  have N1 := Lib.hid n1; have N2 := Lib.hid n2; have HM := Lib.hid hm
  clear n1 n2 hm hd hf e1 e2
  cases hp : Lib.hasPrefix s.data.toList [32]
  · rw [hp] at k
    simp only [Bool.false_eq_true, if_false] at k ⊢
    have K := Lib.hid k
    clear k hp
    go_enter Tryz.func146, Tryz.ntmps146
    go_wp2_with fail
    (with_reducible refine K.out.mono ?_)
    rintro e w1 ⟨rfl, rfl⟩
    go_wp2_with fail
    (with_reducible refine N2.out.mono ?_)
    rintro e w2 ⟨rfl, q, rfl⟩
    go_wp2
    go_ret2
    exact ⟨rfl, ButB.set mb 1 q _ _, HM.out.set1 (q := q) v2⟩
  · rw [hp] at k
    simp only [if_true] at k ⊢
    have K := Lib.hid k
    clear k hp
    go_enter Tryz.func146, Tryz.ntmps146
    go_wp2_with fail
    (with_reducible refine K.out.mono ?_)
    rintro e w1 ⟨rfl, rfl⟩
    go_wp2_with fail
    (with_reducible refine N1.out.mono ?_)
    rintro e w2 ⟨rfl, q, rfl⟩
    go_wp2
    go_ret2
    exact ⟨rfl, ButB.set mb 1 q _ _, HM.out.set1 (q := q) v1⟩
theorem dindex_range : ∀ (l sub : List UInt8), -1 ≤ Lib.index l sub ∧ Lib.index l sub ≤ l.length
  | [], sub => by unfold Lib.index; split <;> simp
  | b :: l, sub => by
    have ih := dindex_range l sub
    rw [Lib.index, List.length_cons]
    split
    · omega
    · split <;> omega
set_option maxHeartbeats 4000000 in
theorem dtake109_any (mb : Nat) (m : Mom) (s : ByteArray) (w : World) (hE : DEnv w) (hm : MomAt mb m w) :
    Calls Tryz.prog 146 #[.pointer (some ⟨mb, 0, none⟩), .int .i32 109, .string s] w fun e w' => e = .returned (.tuple #[.string ⟨(dtake m 109 s.data.toList).2.1.toArray⟩, .bool (dtake m 109 s.data.toList).2.2]) ∧ ButB mb w w' ∧ MomAt mb (dtake m 109 s.data.toList).1 w' := by
  have hxr := dindex_range dmonths (s.data.toList.take 3)
  have hml : dmonths.length = 36 := rfl
  rw [hml] at hxr
  have hd : dtake m 109 s.data.toList = (if s.data.toList.length < 3 ∨ Lib.index dmonths (s.data.toList.take 3) < 0 ∨ Lib.index dmonths (s.data.toList.take 3) % 3 ≠ 0 then (m, [], false) else ({ m with month := Lib.index dmonths (s.data.toList.take 3) / 3 + 1 }, s.data.toList.drop 3, true)) := by unfold dtake; simp
  rw [hd]
  obtain ⟨c0, c1, c2, c3, c4, c5, c6, c7, hf⟩ := hm.cells
  have f2 := hf 2
  obtain ⟨_, mx, hmx⟩ := hE.1
  have hex : (s.extract 0 3).data.toList = s.data.toList.take 3 := by rw [Lib.extract_data]; simp
  have k := Tryz.strings_Index ⟨#[74, 97, 110, 70, 101, 98, 77, 97, 114, 65, 112, 114, 77, 97, 121, 74, 117, 110, 74, 117, 108, 65, 117, 103, 83, 101, 112, 79, 99, 116, 78, 111, 118, 68, 101, 99]⟩ (s.extract 0 3) mx w (by decide) hmx
  rw [hex, show (⟨#[74, 97, 110, 70, 101, 98, 77, 97, 114, 65, 112, 114, 77, 97, 121, 74, 117, 110, 74, 117, 108, 65, 117, 103, 83, 101, 112, 79, 99, 116, 78, 111, 118, 68, 101, 99]⟩ : ByteArray).data.toList = dmonths from rfl] at k
  rw [← Lib.size_eq]
  have hdr : s.extract 3 s.size = ⟨(s.data.toList.drop 3).toArray⟩ := by
    apply str_eq
    rw [Lib.extract_data]
    have : (s.data.toList.drop 3).length ≤ s.size - 3 := by rw [List.length_drop, ← Lib.size_eq]; omega
    rw [List.take_of_length_le this]
  have HDR := Lib.hid hdr; have HM := Lib.hid hm
  clear hd hex hmx hf hm hE hdr hml
  generalize Lib.index dmonths (s.data.toList.take 3) = at_ at *
  have K := Lib.hid k
  clear k
  by_cases h3 : s.size < 3
  · have t1 : decide ((s.size : Int) ≥ 3) = false := by simp; omega
    rw [if_pos (Or.inl h3)]
    go_enter Tryz.func146, Tryz.ntmps146
    go_wp2
    go_ret2
    exact ⟨rfl, ButB.refl _ _, HM.out⟩
  · have t1 : decide ((s.size : Int) ≥ 3) = true := by simp; omega
    have h3' : 3 ≤ s.size := by omega
    by_cases hneg : at_ < 0
    · rw [if_pos (Or.inr (Or.inl hneg))]
      have t2 : decide (at_ < 0) = true := by simpa using hneg
      go_enter Tryz.func146, Tryz.ntmps146
      go_wp2_with fail
      (with_reducible refine K.out.mono ?_)
      rintro e w1 ⟨rfl, rfl⟩
      go_wp2
      go_ret2
      exact ⟨rfl, ButB.refl _ _, HM.out⟩
    · have t2 : decide (at_ < 0) = false := by simpa using hneg
      have em : at_.tmod 3 = at_ % 3 := Int.tmod_eq_emod_of_nonneg (by omega)
      have ed : at_.tdiv 3 = at_ / 3 := Int.tdiv_eq_ediv_of_nonneg (by omega)
      by_cases hm3 : at_ % 3 = 0
      · rw [if_neg (by omega)]
        obtain ⟨q3, hq3⟩ : ∃ q3, at_ / 3 = q3 := ⟨_, rfl⟩
        have hq4 : 0 ≤ q3 ∧ q3 ≤ 12 := by omega
        rw [hq3] at ed ⊢
        have w1' : IntKind.i64.wrap q3 = q3 := by rw [IntKind.wrap_i64]; omega
        have w2' : IntKind.i64.wrap (q3 + 1) = q3 + 1 := by rw [IntKind.wrap_i64]; omega
        clear hq3
        go_enter Tryz.func146, Tryz.ntmps146
        go_wp2_with fail
        (with_reducible refine K.out.mono ?_)
        rintro e w1 ⟨rfl, rfl⟩
        go_wp2
        go_region
        go_wp2
        go_ret2
        exact ⟨by rw [← HDR.out]; rfl, ButB.set mb 2 1 _ _, HM.out.set2 (q := 1) _⟩
      · rw [if_pos (Or.inr (Or.inr hm3))]
        go_enter Tryz.func146, Tryz.ntmps146
        go_wp2_with fail
        (with_reducible refine K.out.mono ?_)
        rintro e w1 ⟨rfl, rfl⟩
        go_wp2
        go_ret2
        exact ⟨rfl, ButB.refl _ _, HM.out⟩
end Go.Proofs.YtcgdcbnhpbokfaaGreatDoor
/- Dates: the walk of tick (printed by wip/tools/date5.py). -/
namespace Go.Proofs.YtcgdcbnhpbokfaaGreatDoor
open Go.RowKit
set_option maxRecDepth 100000

/-- What a date's pieces can be. -/
structure MomOk (m : Mom) : Prop where
  wd : 0 ≤ m.wd ∧ m.wd ≤ 6
  day : 0 ≤ m.day ∧ m.day ≤ 9999
  month : 0 ≤ m.month ∧ m.month ≤ 13
  year : 0 ≤ m.year ∧ m.year ≤ 9999
  hour : 0 ≤ m.hour ∧ m.hour ≤ 9999
  minute : 0 ≤ m.minute ∧ m.minute ≤ 9999
  second : 0 ≤ m.second ∧ m.second ≤ 9999
  two : m.two = true → m.year ≤ 99
theorem dlong_le (y m : Int) : 28 ≤ dlong y m ∧ dlong y m ≤ 31 := by
  unfold dlong
  split
  · split <;> omega
  · split <;> omega
theorem dmons_le (y : Int) : ∀ k, 0 ≤ dmons y k ∧ dmons y k ≤ 31 * k
  | 0 => by simp [dmons]
  | k + 1 => by
    have ih := dmons_le y k
    have := dlong_le y (k + 1)
    rw [dmons]; omega
theorem dyear_ge : ∀ (f : Nat) (d y : Int), y ≤ dyear f d y ∧ dyear f d y ≤ y + f
  | 0, d, y => by rw [dyear]; omega
  | f + 1, d, y => by
    rw [dyear]
    split
    · have := dyear_ge f d (y + 1); omega
    · omega
theorem MomAt.drewN {mb : Nat} {m : Mom} {w : World} (h : MomAt mb m w) (q : Nat) : MomAt mb m (w.drewN q) := h
theorem ButB.drewN {mb : Nat} {w w' : World} (h : ButB mb w w') (q : Nat) : ButB mb w (w'.drewN q) := h
def TickPost (mb : Nat) (w : World) (r : Int × Bool) (e : Ending) (w' : World) : Prop := e = .returned (.tuple #[.int .i64 r.1, .bool r.2]) ∧ ButB mb w w'
end Go.Proofs.YtcgdcbnhpbokfaaGreatDoor
/- Dates: the walk of tick (printed by wip/tools/date5.py). -/
namespace Go.Proofs.YtcgdcbnhpbokfaaGreatDoor
open Go.RowKit
set_option maxRecDepth 100000

set_option maxHeartbeats 32000000 in
theorem dtick_one (mb : Nat) (m : Mom) (now : Int) (w : World) (hm : MomAt mb m w) (ho : MomOk m) (h2 : m.two = false) :
    Calls Tryz.prog 147 #[.pointer (some ⟨mb, 0, none⟩), .int .i64 now] w (TickPost mb w (dtick m now)) := by
  obtain ⟨R, hR⟩ : ∃ R, dtick m now = R := ⟨_, rfl⟩
  rw [hR]
  obtain ⟨Y, hY⟩ : ∃ Y, m.year = Y := ⟨_, rfl⟩
  have hy : dyr m now = Y := by unfold dyr; rw [h2]; exact hY
  obtain ⟨c0, c1, c2, c3, c4, c5, c6, c7, hf⟩ := hm.cells
  rw [hY] at c3
  rw [h2] at c7
  have hYb : 0 ≤ Y ∧ Y ≤ 100000 := by have := ho.year; omega
  have HR0 := Lib.hid hR; have HY := Lib.hid hy; have HO := Lib.hid ho
  have HBT := Lib.hid (ButB.refl mb w)
  obtain ⟨ow1, ow2⟩ := ho.wd
  obtain ⟨od1, od2⟩ := ho.day
  obtain ⟨om1, om2⟩ := ho.month
  obtain ⟨oh1, oh2⟩ := ho.hour
  obtain ⟨on1, on2⟩ := ho.minute
  obtain ⟨os1, os2⟩ := ho.second
  clear hR hy hm ho hf h2 hY
  go_enter Tryz.func147, Tryz.ntmps147
  go_wp2_with fail
  have kl := fun w' => dlong_any Y m.month hYb w'
  have KL := Lib.hid kl
  clear kl
  have hlb := dlong_le Y m.month
  by_cases q1 : Y < 1970
  · have hR2 : R = (0, false) := by rw [← HR0.out]; unfold dtick; rw [HY.out, if_pos (Or.inl q1)]
    have HR := Lib.hid hR2.symm
    clear hR2
    have t1 : decide (Y < 1970) = true := by simpa using q1
    go_wp2
    go_region
    go_wp2
    go_ret2
    exact ⟨by rw [← HR.out]; rfl, HBT.out.drewN 1⟩
  have t1 : decide (Y < 1970) = false := by simpa using q1
  by_cases q2 : Y > 9999
  · have hR2 : R = (0, false) := by rw [← HR0.out]; unfold dtick; rw [HY.out, if_pos (Or.inr (Or.inl q2))]
    have HR := Lib.hid hR2.symm
    clear hR2
    have t2 : decide (Y > 9999) = true := by simpa using q2
    go_wp2
    go_region
    go_wp2
    go_ret2
    exact ⟨by rw [← HR.out]; rfl, HBT.out.drewN 1⟩
  have t2 : decide (Y > 9999) = false := by simpa using q2
  by_cases q3 : m.day < 1
  · have hR2 : R = (0, false) := by rw [← HR0.out]; unfold dtick; rw [HY.out, if_pos (Or.inr (Or.inr (Or.inl q3)))]
    have HR := Lib.hid hR2.symm
    clear hR2
    have t3 : decide (m.day < 1) = true := by simpa using q3
    go_wp2
    go_region
    go_wp2
    go_ret2
    exact ⟨by rw [← HR.out]; rfl, HBT.out.drewN 1⟩
  have t3 : decide (m.day < 1) = false := by simpa using q3
  by_cases q4 : m.day > dlong Y m.month
  · have hR2 : R = (0, false) := by rw [← HR0.out]; unfold dtick; rw [HY.out, if_pos (Or.inr (Or.inr (Or.inr (Or.inl q4))))]
    have HR := Lib.hid hR2.symm
    clear hR2
    have t4 : decide (m.day > dlong Y m.month) = true := by simpa using q4
    go_wp2
    refine wp_region_held_drew (S := (fun w' => w'.cell? ⟨mb, 1, none⟩ = some (.int .i64 m.day) ∧ w'.cell? ⟨mb, 2, none⟩ = some (.int .i64 m.month) ∧ w'.cell? ⟨mb, 3, none⟩ = some (.int .i64 Y) ∧ w'.cell? ⟨mb, 4, none⟩ = some (.int .i64 m.hour) ∧ w'.cell? ⟨mb, 5, none⟩ = some (.int .i64 m.minute) ∧ w'.cell? ⟨mb, 6, none⟩ = some (.int .i64 m.second))) (by kernel_rfl) (⟨c1, c2, c3, c4, c5, c6⟩) (fun hHeld => ?_)
    refine tkS 0 hHeld ?_
    try simp only [Act.put, ps1, ps2, ps3]
    refine tkS 1 hHeld ?_
    try simp only [Act.put, ps1, ps2, ps3]
    refine tkS 2 hHeld ?_
    try simp only [Act.put, ps1, ps2, ps3]
    refine tkS 3 hHeld ?_
    try simp only [Act.put, ps1, ps2, ps3]
    refine tkS 4 hHeld ?_
    try simp only [Act.put, ps1, ps2, ps3]
    refine tkS 5 hHeld ?_
    try simp only [Act.put, ps1, ps2, ps3]
    refine tkS 6 hHeld ?_
    try simp only [Act.put, ps1, ps2, ps3]
    refine tkS 7 hHeld ?_
    try simp only [Act.put, ps1, ps2, ps3]
    refine tkS 8 hHeld ?_
    try simp only [Act.put, ps1, ps2, ps3]
    refine tkS 9 hHeld ?_
    try simp only [Act.put, ps1, ps2, ps3]
    refine tkS 10 hHeld ?_
    try simp only [Act.put, ps1, ps2, ps3]
    refine tkS 11 hHeld ?_
    try simp only [Act.put, ps1, ps2, ps3]
    refine tkS 12 hHeld ?_
    try simp only [Act.put, ps1, ps2, ps3]
    refine tkS 13 hHeld ?_
    try simp only [Act.put, ps1, ps2, ps3]
    refine tkS 14 hHeld ?_
    try simp only [Act.put, ps1, ps2, ps3]
    refine tkS 15 hHeld ?_
    try simp only [Act.put, ps1, ps2, ps3]
    refine tkS 16 hHeld ?_
    try simp only [Act.put, ps1, ps2, ps3]
    refine tkS 17 hHeld ?_
    try simp only [Act.put, ps1, ps2, ps3]
    refine tkS 18 hHeld ?_
    try simp only [Act.put, ps1, ps2, ps3]
    refine tkS 19 hHeld ?_
    try simp only [Act.put, ps1, ps2, ps3]
    refine tkS 20 hHeld ?_
    try simp only [Act.put, ps1, ps2, ps3]
    refine tkS 21 hHeld ?_
    try simp only [Act.put, ps1, ps2, ps3]
    refine tkS 22 hHeld ?_
    try simp only [Act.put, ps1, ps2, ps3]
    refine tkS 23 hHeld ?_
    try simp only [Act.put, ps1, ps2, ps3]
    refine tkS 24 hHeld ?_
    try simp only [Act.put, ps1, ps2, ps3]
    refine tkS 25 hHeld ?_
    try simp only [Act.put, ps1, ps2, ps3]
    refine tkS 26 hHeld ?_
    try simp only [Act.put, ps1, ps2, ps3]
    refine tkS 27 hHeld ?_
    try simp only [Act.put, ps1, ps2, ps3]
    refine tkS 28 hHeld ?_
    try simp only [Act.put, ps1, ps2, ps3]
    refine tkS 29 hHeld ?_
    try simp only [Act.put, ps1, ps2, ps3]
    refine tkS 30 hHeld ?_
    try simp only [Act.put, ps1, ps2, ps3]
    refine tkS 31 hHeld ?_
    try simp only [Act.put, ps1, ps2, ps3]
    refine wpAnyH_ready (rs := [32]) (by kernel_rfl) (by simp) (AllReadyH.cons (by simp only [List.getElem?_toArray, List.getElem?_cons_succ, List.getElem?_cons_zero]; exact rfl) (fun K hK => ?_) AllReadyH.nil)
    rw [if_pos (by rfl)]
    go_simp
    refine (KL.out _).mono ?_; rintro e wl ⟨rfl, rfl⟩; go_wp2_with fail
    refine hK.out _ _ (hHeld) (fun hHeld => ?_)
    clear hK K
    try simp only [Act.put, ps1, ps2, ps3]
    refine tkS 33 hHeld ?_
    try simp only [Act.put, ps1, ps2, ps3]
    refine tkS 34 hHeld ?_
    try simp only [Act.put, ps1, ps2, ps3]
    refine tkS 35 hHeld ?_
    try simp only [Act.put, ps1, ps2, ps3]
    refine tkO 36 hHeld ?_
    try simp only [Act.put, ps1, ps2, ps3]
    refine tkO 37 hHeld ?_
    try simp only [Act.put, ps1, ps2, ps3]
    refine tkO 38 hHeld ?_
    try simp only [Act.put, ps1, ps2, ps3]
    refine tkO 39 hHeld ?_
    try simp only [Act.put, ps1, ps2, ps3]
    refine tkO 40 hHeld ?_
    try simp only [Act.put, ps1, ps2, ps3]
    refine tkS 41 hHeld ?_
    try simp only [Act.put, ps1, ps2, ps3]
    refine tkS 42 hHeld ?_
    try simp only [Act.put, ps1, ps2, ps3]
    refine tkO 43 hHeld ?_
    try simp only [Act.put, ps1, ps2, ps3]
    refine tkO 44 hHeld ?_
    try simp only [Act.put, ps1, ps2, ps3]
    refine tkO 45 hHeld ?_
    try simp only [Act.put, ps1, ps2, ps3]
    refine tkO 46 hHeld ?_
    try simp only [Act.put, ps1, ps2, ps3]
    refine tkO 47 hHeld ?_
    try simp only [Act.put, ps1, ps2, ps3]
    refine tkS 48 hHeld ?_
    try simp only [Act.put, ps1, ps2, ps3]
    refine tkS 49 hHeld ?_
    try simp only [Act.put, ps1, ps2, ps3]
    refine tkO 50 hHeld ?_
    try simp only [Act.put, ps1, ps2, ps3]
    refine tkO 51 hHeld ?_
    try simp only [Act.put, ps1, ps2, ps3]
    refine tkO 52 hHeld ?_
    try simp only [Act.put, ps1, ps2, ps3]
    refine tkO 53 hHeld ?_
    try simp only [Act.put, ps1, ps2, ps3]
    refine tkO 54 hHeld ?_
    try simp only [Act.put, ps1, ps2, ps3]
    refine tkS 55 hHeld ?_
    try simp only [Act.put, ps1, ps2, ps3]
    refine wpAnyH_done (by kernel_rfl) ?_ _
    clear hHeld
    go_wp2
    go_ret2
    exact ⟨by rw [← HR.out]; rfl, HBT.out.drewN 1⟩
  have t4 : decide (m.day > dlong Y m.month) = false := by simpa using q4
  by_cases q5 : m.hour > 23
  · have hR2 : R = (0, false) := by rw [← HR0.out]; unfold dtick; rw [HY.out, if_pos (Or.inr (Or.inr (Or.inr (Or.inr (Or.inl q5)))))]
    have HR := Lib.hid hR2.symm
    clear hR2
    have t5 : decide (m.hour > 23) = true := by simpa using q5
    go_wp2
    refine wp_region_held_drew (S := (fun w' => w'.cell? ⟨mb, 1, none⟩ = some (.int .i64 m.day) ∧ w'.cell? ⟨mb, 2, none⟩ = some (.int .i64 m.month) ∧ w'.cell? ⟨mb, 3, none⟩ = some (.int .i64 Y) ∧ w'.cell? ⟨mb, 4, none⟩ = some (.int .i64 m.hour) ∧ w'.cell? ⟨mb, 5, none⟩ = some (.int .i64 m.minute) ∧ w'.cell? ⟨mb, 6, none⟩ = some (.int .i64 m.second))) (by kernel_rfl) (⟨c1, c2, c3, c4, c5, c6⟩) (fun hHeld => ?_)
    refine tkS 0 hHeld ?_
    try simp only [Act.put, ps1, ps2, ps3]
    refine tkS 1 hHeld ?_
    try simp only [Act.put, ps1, ps2, ps3]
    refine tkS 2 hHeld ?_
    try simp only [Act.put, ps1, ps2, ps3]
    refine tkS 3 hHeld ?_
    try simp only [Act.put, ps1, ps2, ps3]
    refine tkS 4 hHeld ?_
    try simp only [Act.put, ps1, ps2, ps3]
    refine tkS 5 hHeld ?_
    try simp only [Act.put, ps1, ps2, ps3]
    refine tkS 6 hHeld ?_
    try simp only [Act.put, ps1, ps2, ps3]
    refine tkS 7 hHeld ?_
    try simp only [Act.put, ps1, ps2, ps3]
    refine tkS 8 hHeld ?_
    try simp only [Act.put, ps1, ps2, ps3]
    refine tkS 9 hHeld ?_
    try simp only [Act.put, ps1, ps2, ps3]
    refine tkS 10 hHeld ?_
    try simp only [Act.put, ps1, ps2, ps3]
    refine tkS 11 hHeld ?_
    try simp only [Act.put, ps1, ps2, ps3]
    refine tkS 12 hHeld ?_
    try simp only [Act.put, ps1, ps2, ps3]
    refine tkS 13 hHeld ?_
    try simp only [Act.put, ps1, ps2, ps3]
    refine tkS 14 hHeld ?_
    try simp only [Act.put, ps1, ps2, ps3]
    refine tkS 15 hHeld ?_
    try simp only [Act.put, ps1, ps2, ps3]
    refine tkS 16 hHeld ?_
    try simp only [Act.put, ps1, ps2, ps3]
    refine tkS 17 hHeld ?_
    try simp only [Act.put, ps1, ps2, ps3]
    refine tkS 18 hHeld ?_
    try simp only [Act.put, ps1, ps2, ps3]
    refine tkS 19 hHeld ?_
    try simp only [Act.put, ps1, ps2, ps3]
    refine tkS 20 hHeld ?_
    try simp only [Act.put, ps1, ps2, ps3]
    refine tkS 21 hHeld ?_
    try simp only [Act.put, ps1, ps2, ps3]
    refine tkS 22 hHeld ?_
    try simp only [Act.put, ps1, ps2, ps3]
    refine tkS 23 hHeld ?_
    try simp only [Act.put, ps1, ps2, ps3]
    refine tkS 24 hHeld ?_
    try simp only [Act.put, ps1, ps2, ps3]
    refine tkS 25 hHeld ?_
    try simp only [Act.put, ps1, ps2, ps3]
    refine tkS 26 hHeld ?_
    try simp only [Act.put, ps1, ps2, ps3]
    refine tkS 27 hHeld ?_
    try simp only [Act.put, ps1, ps2, ps3]
    refine tkS 28 hHeld ?_
    try simp only [Act.put, ps1, ps2, ps3]
    refine tkS 29 hHeld ?_
    try simp only [Act.put, ps1, ps2, ps3]
    refine tkS 30 hHeld ?_
    try simp only [Act.put, ps1, ps2, ps3]
    refine tkS 31 hHeld ?_
    try simp only [Act.put, ps1, ps2, ps3]
    refine wpAnyH_ready (rs := [32]) (by kernel_rfl) (by simp) (AllReadyH.cons (by simp only [List.getElem?_toArray, List.getElem?_cons_succ, List.getElem?_cons_zero]; exact rfl) (fun K hK => ?_) AllReadyH.nil)
    rw [if_pos (by rfl)]
    go_simp
    refine (KL.out _).mono ?_; rintro e wl ⟨rfl, rfl⟩; go_wp2_with fail
    refine hK.out _ _ (hHeld) (fun hHeld => ?_)
    clear hK K
    try simp only [Act.put, ps1, ps2, ps3]
    refine tkS 33 hHeld ?_
    try simp only [Act.put, ps1, ps2, ps3]
    refine tkS 34 hHeld ?_
    try simp only [Act.put, ps1, ps2, ps3]
    refine tkS 35 hHeld ?_
    try simp only [Act.put, ps1, ps2, ps3]
    refine tkS 36 hHeld ?_
    try simp only [Act.put, ps1, ps2, ps3]
    refine tkS 37 hHeld ?_
    try simp only [Act.put, ps1, ps2, ps3]
    refine tkS 38 hHeld ?_
    try simp only [Act.put, ps1, ps2, ps3]
    refine tkS 39 hHeld ?_
    try simp only [Act.put, ps1, ps2, ps3]
    refine tkS 40 hHeld ?_
    try simp only [Act.put, ps1, ps2, ps3]
    refine tkS 41 hHeld ?_
    try simp only [Act.put, ps1, ps2, ps3]
    refine tkS 42 hHeld ?_
    try simp only [Act.put, ps1, ps2, ps3]
    refine tkO 43 hHeld ?_
    try simp only [Act.put, ps1, ps2, ps3]
    refine tkO 44 hHeld ?_
    try simp only [Act.put, ps1, ps2, ps3]
    refine tkO 45 hHeld ?_
    try simp only [Act.put, ps1, ps2, ps3]
    refine tkO 46 hHeld ?_
    try simp only [Act.put, ps1, ps2, ps3]
    refine tkO 47 hHeld ?_
    try simp only [Act.put, ps1, ps2, ps3]
    refine tkS 48 hHeld ?_
    try simp only [Act.put, ps1, ps2, ps3]
    refine tkS 49 hHeld ?_
    try simp only [Act.put, ps1, ps2, ps3]
    refine tkO 50 hHeld ?_
    try simp only [Act.put, ps1, ps2, ps3]
    refine tkO 51 hHeld ?_
    try simp only [Act.put, ps1, ps2, ps3]
    refine tkO 52 hHeld ?_
    try simp only [Act.put, ps1, ps2, ps3]
    refine tkO 53 hHeld ?_
    try simp only [Act.put, ps1, ps2, ps3]
    refine tkO 54 hHeld ?_
    try simp only [Act.put, ps1, ps2, ps3]
    refine tkS 55 hHeld ?_
    try simp only [Act.put, ps1, ps2, ps3]
    refine wpAnyH_done (by kernel_rfl) ?_ _
    clear hHeld
    go_wp2
    go_ret2
    exact ⟨by rw [← HR.out]; rfl, HBT.out.drewN 1⟩
  have t5 : decide (m.hour > 23) = false := by simpa using q5
  by_cases q6 : m.minute > 59
  · have hR2 : R = (0, false) := by rw [← HR0.out]; unfold dtick; rw [HY.out, if_pos (Or.inr (Or.inr (Or.inr (Or.inr (Or.inr (Or.inl q6))))))]
    have HR := Lib.hid hR2.symm
    clear hR2
    have t6 : decide (m.minute > 59) = true := by simpa using q6
    go_wp2
    refine wp_region_held_drew (S := (fun w' => w'.cell? ⟨mb, 1, none⟩ = some (.int .i64 m.day) ∧ w'.cell? ⟨mb, 2, none⟩ = some (.int .i64 m.month) ∧ w'.cell? ⟨mb, 3, none⟩ = some (.int .i64 Y) ∧ w'.cell? ⟨mb, 4, none⟩ = some (.int .i64 m.hour) ∧ w'.cell? ⟨mb, 5, none⟩ = some (.int .i64 m.minute) ∧ w'.cell? ⟨mb, 6, none⟩ = some (.int .i64 m.second))) (by kernel_rfl) (⟨c1, c2, c3, c4, c5, c6⟩) (fun hHeld => ?_)
    refine tkS 0 hHeld ?_
    try simp only [Act.put, ps1, ps2, ps3]
    refine tkS 1 hHeld ?_
    try simp only [Act.put, ps1, ps2, ps3]
    refine tkS 2 hHeld ?_
    try simp only [Act.put, ps1, ps2, ps3]
    refine tkS 3 hHeld ?_
    try simp only [Act.put, ps1, ps2, ps3]
    refine tkS 4 hHeld ?_
    try simp only [Act.put, ps1, ps2, ps3]
    refine tkS 5 hHeld ?_
    try simp only [Act.put, ps1, ps2, ps3]
    refine tkS 6 hHeld ?_
    try simp only [Act.put, ps1, ps2, ps3]
    refine tkS 7 hHeld ?_
    try simp only [Act.put, ps1, ps2, ps3]
    refine tkS 8 hHeld ?_
    try simp only [Act.put, ps1, ps2, ps3]
    refine tkS 9 hHeld ?_
    try simp only [Act.put, ps1, ps2, ps3]
    refine tkS 10 hHeld ?_
    try simp only [Act.put, ps1, ps2, ps3]
    refine tkS 11 hHeld ?_
    try simp only [Act.put, ps1, ps2, ps3]
    refine tkS 12 hHeld ?_
    try simp only [Act.put, ps1, ps2, ps3]
    refine tkS 13 hHeld ?_
    try simp only [Act.put, ps1, ps2, ps3]
    refine tkS 14 hHeld ?_
    try simp only [Act.put, ps1, ps2, ps3]
    refine tkS 15 hHeld ?_
    try simp only [Act.put, ps1, ps2, ps3]
    refine tkS 16 hHeld ?_
    try simp only [Act.put, ps1, ps2, ps3]
    refine tkS 17 hHeld ?_
    try simp only [Act.put, ps1, ps2, ps3]
    refine tkS 18 hHeld ?_
    try simp only [Act.put, ps1, ps2, ps3]
    refine tkS 19 hHeld ?_
    try simp only [Act.put, ps1, ps2, ps3]
    refine tkS 20 hHeld ?_
    try simp only [Act.put, ps1, ps2, ps3]
    refine tkS 21 hHeld ?_
    try simp only [Act.put, ps1, ps2, ps3]
    refine tkS 22 hHeld ?_
    try simp only [Act.put, ps1, ps2, ps3]
    refine tkS 23 hHeld ?_
    try simp only [Act.put, ps1, ps2, ps3]
    refine tkS 24 hHeld ?_
    try simp only [Act.put, ps1, ps2, ps3]
    refine tkS 25 hHeld ?_
    try simp only [Act.put, ps1, ps2, ps3]
    refine tkS 26 hHeld ?_
    try simp only [Act.put, ps1, ps2, ps3]
    refine tkS 27 hHeld ?_
    try simp only [Act.put, ps1, ps2, ps3]
    refine tkS 28 hHeld ?_
    try simp only [Act.put, ps1, ps2, ps3]
    refine tkS 29 hHeld ?_
    try simp only [Act.put, ps1, ps2, ps3]
    refine tkS 30 hHeld ?_
    try simp only [Act.put, ps1, ps2, ps3]
    refine tkS 31 hHeld ?_
    try simp only [Act.put, ps1, ps2, ps3]
    refine wpAnyH_ready (rs := [32]) (by kernel_rfl) (by simp) (AllReadyH.cons (by simp only [List.getElem?_toArray, List.getElem?_cons_succ, List.getElem?_cons_zero]; exact rfl) (fun K hK => ?_) AllReadyH.nil)
    rw [if_pos (by rfl)]
    go_simp
    refine (KL.out _).mono ?_; rintro e wl ⟨rfl, rfl⟩; go_wp2_with fail
    refine hK.out _ _ (hHeld) (fun hHeld => ?_)
    clear hK K
    try simp only [Act.put, ps1, ps2, ps3]
    refine tkS 33 hHeld ?_
    try simp only [Act.put, ps1, ps2, ps3]
    refine tkS 34 hHeld ?_
    try simp only [Act.put, ps1, ps2, ps3]
    refine tkS 35 hHeld ?_
    try simp only [Act.put, ps1, ps2, ps3]
    refine tkS 36 hHeld ?_
    try simp only [Act.put, ps1, ps2, ps3]
    refine tkS 37 hHeld ?_
    try simp only [Act.put, ps1, ps2, ps3]
    refine tkS 38 hHeld ?_
    try simp only [Act.put, ps1, ps2, ps3]
    refine tkS 39 hHeld ?_
    try simp only [Act.put, ps1, ps2, ps3]
    refine tkS 40 hHeld ?_
    try simp only [Act.put, ps1, ps2, ps3]
    refine tkS 41 hHeld ?_
    try simp only [Act.put, ps1, ps2, ps3]
    refine tkS 42 hHeld ?_
    try simp only [Act.put, ps1, ps2, ps3]
    refine tkS 43 hHeld ?_
    try simp only [Act.put, ps1, ps2, ps3]
    refine tkS 44 hHeld ?_
    try simp only [Act.put, ps1, ps2, ps3]
    refine tkS 45 hHeld ?_
    try simp only [Act.put, ps1, ps2, ps3]
    refine tkS 46 hHeld ?_
    try simp only [Act.put, ps1, ps2, ps3]
    refine tkS 47 hHeld ?_
    try simp only [Act.put, ps1, ps2, ps3]
    refine tkS 48 hHeld ?_
    try simp only [Act.put, ps1, ps2, ps3]
    refine tkS 49 hHeld ?_
    try simp only [Act.put, ps1, ps2, ps3]
    refine tkO 50 hHeld ?_
    try simp only [Act.put, ps1, ps2, ps3]
    refine tkO 51 hHeld ?_
    try simp only [Act.put, ps1, ps2, ps3]
    refine tkO 52 hHeld ?_
    try simp only [Act.put, ps1, ps2, ps3]
    refine tkO 53 hHeld ?_
    try simp only [Act.put, ps1, ps2, ps3]
    refine tkO 54 hHeld ?_
    try simp only [Act.put, ps1, ps2, ps3]
    refine tkS 55 hHeld ?_
    try simp only [Act.put, ps1, ps2, ps3]
    refine wpAnyH_done (by kernel_rfl) ?_ _
    clear hHeld
    go_wp2
    go_ret2
    exact ⟨by rw [← HR.out]; rfl, HBT.out.drewN 1⟩
  have t6 : decide (m.minute > 59) = false := by simpa using q6
  by_cases q7 : m.second > 59
  · have hR2 : R = (0, false) := by rw [← HR0.out]; unfold dtick; rw [HY.out, if_pos (Or.inr (Or.inr (Or.inr (Or.inr (Or.inr (Or.inr q7))))))]
    have HR := Lib.hid hR2.symm
    clear hR2
    have t7 : decide (m.second > 59) = true := by simpa using q7
    go_wp2
    refine wp_region_held_drew (S := (fun w' => w'.cell? ⟨mb, 1, none⟩ = some (.int .i64 m.day) ∧ w'.cell? ⟨mb, 2, none⟩ = some (.int .i64 m.month) ∧ w'.cell? ⟨mb, 3, none⟩ = some (.int .i64 Y) ∧ w'.cell? ⟨mb, 4, none⟩ = some (.int .i64 m.hour) ∧ w'.cell? ⟨mb, 5, none⟩ = some (.int .i64 m.minute) ∧ w'.cell? ⟨mb, 6, none⟩ = some (.int .i64 m.second))) (by kernel_rfl) (⟨c1, c2, c3, c4, c5, c6⟩) (fun hHeld => ?_)
    refine tkS 0 hHeld ?_
    try simp only [Act.put, ps1, ps2, ps3]
    refine tkS 1 hHeld ?_
    try simp only [Act.put, ps1, ps2, ps3]
    refine tkS 2 hHeld ?_
    try simp only [Act.put, ps1, ps2, ps3]
    refine tkS 3 hHeld ?_
    try simp only [Act.put, ps1, ps2, ps3]
    refine tkS 4 hHeld ?_
    try simp only [Act.put, ps1, ps2, ps3]
    refine tkS 5 hHeld ?_
    try simp only [Act.put, ps1, ps2, ps3]
    refine tkS 6 hHeld ?_
    try simp only [Act.put, ps1, ps2, ps3]
    refine tkS 7 hHeld ?_
    try simp only [Act.put, ps1, ps2, ps3]
    refine tkS 8 hHeld ?_
    try simp only [Act.put, ps1, ps2, ps3]
    refine tkS 9 hHeld ?_
    try simp only [Act.put, ps1, ps2, ps3]
    refine tkS 10 hHeld ?_
    try simp only [Act.put, ps1, ps2, ps3]
    refine tkS 11 hHeld ?_
    try simp only [Act.put, ps1, ps2, ps3]
    refine tkS 12 hHeld ?_
    try simp only [Act.put, ps1, ps2, ps3]
    refine tkS 13 hHeld ?_
    try simp only [Act.put, ps1, ps2, ps3]
    refine tkS 14 hHeld ?_
    try simp only [Act.put, ps1, ps2, ps3]
    refine tkS 15 hHeld ?_
    try simp only [Act.put, ps1, ps2, ps3]
    refine tkS 16 hHeld ?_
    try simp only [Act.put, ps1, ps2, ps3]
    refine tkS 17 hHeld ?_
    try simp only [Act.put, ps1, ps2, ps3]
    refine tkS 18 hHeld ?_
    try simp only [Act.put, ps1, ps2, ps3]
    refine tkS 19 hHeld ?_
    try simp only [Act.put, ps1, ps2, ps3]
    refine tkS 20 hHeld ?_
    try simp only [Act.put, ps1, ps2, ps3]
    refine tkS 21 hHeld ?_
    try simp only [Act.put, ps1, ps2, ps3]
    refine tkS 22 hHeld ?_
    try simp only [Act.put, ps1, ps2, ps3]
    refine tkS 23 hHeld ?_
    try simp only [Act.put, ps1, ps2, ps3]
    refine tkS 24 hHeld ?_
    try simp only [Act.put, ps1, ps2, ps3]
    refine tkS 25 hHeld ?_
    try simp only [Act.put, ps1, ps2, ps3]
    refine tkS 26 hHeld ?_
    try simp only [Act.put, ps1, ps2, ps3]
    refine tkS 27 hHeld ?_
    try simp only [Act.put, ps1, ps2, ps3]
    refine tkS 28 hHeld ?_
    try simp only [Act.put, ps1, ps2, ps3]
    refine tkS 29 hHeld ?_
    try simp only [Act.put, ps1, ps2, ps3]
    refine tkS 30 hHeld ?_
    try simp only [Act.put, ps1, ps2, ps3]
    refine tkS 31 hHeld ?_
    try simp only [Act.put, ps1, ps2, ps3]
    refine wpAnyH_ready (rs := [32]) (by kernel_rfl) (by simp) (AllReadyH.cons (by simp only [List.getElem?_toArray, List.getElem?_cons_succ, List.getElem?_cons_zero]; exact rfl) (fun K hK => ?_) AllReadyH.nil)
    rw [if_pos (by rfl)]
    go_simp
    refine (KL.out _).mono ?_; rintro e wl ⟨rfl, rfl⟩; go_wp2_with fail
    refine hK.out _ _ (hHeld) (fun hHeld => ?_)
    clear hK K
    try simp only [Act.put, ps1, ps2, ps3]
    refine tkS 33 hHeld ?_
    try simp only [Act.put, ps1, ps2, ps3]
    refine tkS 34 hHeld ?_
    try simp only [Act.put, ps1, ps2, ps3]
    refine tkS 35 hHeld ?_
    try simp only [Act.put, ps1, ps2, ps3]
    refine tkS 36 hHeld ?_
    try simp only [Act.put, ps1, ps2, ps3]
    refine tkS 37 hHeld ?_
    try simp only [Act.put, ps1, ps2, ps3]
    refine tkS 38 hHeld ?_
    try simp only [Act.put, ps1, ps2, ps3]
    refine tkS 39 hHeld ?_
    try simp only [Act.put, ps1, ps2, ps3]
    refine tkS 40 hHeld ?_
    try simp only [Act.put, ps1, ps2, ps3]
    refine tkS 41 hHeld ?_
    try simp only [Act.put, ps1, ps2, ps3]
    refine tkS 42 hHeld ?_
    try simp only [Act.put, ps1, ps2, ps3]
    refine tkS 43 hHeld ?_
    try simp only [Act.put, ps1, ps2, ps3]
    refine tkS 44 hHeld ?_
    try simp only [Act.put, ps1, ps2, ps3]
    refine tkS 45 hHeld ?_
    try simp only [Act.put, ps1, ps2, ps3]
    refine tkS 46 hHeld ?_
    try simp only [Act.put, ps1, ps2, ps3]
    refine tkS 47 hHeld ?_
    try simp only [Act.put, ps1, ps2, ps3]
    refine tkS 48 hHeld ?_
    try simp only [Act.put, ps1, ps2, ps3]
    refine tkS 49 hHeld ?_
    try simp only [Act.put, ps1, ps2, ps3]
    refine tkS 50 hHeld ?_
    try simp only [Act.put, ps1, ps2, ps3]
    refine tkS 51 hHeld ?_
    try simp only [Act.put, ps1, ps2, ps3]
    refine tkS 52 hHeld ?_
    try simp only [Act.put, ps1, ps2, ps3]
    refine tkS 53 hHeld ?_
    try simp only [Act.put, ps1, ps2, ps3]
    refine tkS 54 hHeld ?_
    try simp only [Act.put, ps1, ps2, ps3]
    refine tkS 55 hHeld ?_
    try simp only [Act.put, ps1, ps2, ps3]
    refine wpAnyH_done (by kernel_rfl) ?_ _
    clear hHeld
    go_wp2
    go_ret2
    exact ⟨by rw [← HR.out]; rfl, HBT.out.drewN 1⟩
  have t7 : decide (m.second > 59) = false := by simpa using q7
  have hRt : R = if (dahead Y + m.day - 1 + dmons Y (m.month.toNat - 1)) % 7 ≠ m.wd then (0, false) else ((dahead Y + m.day - 1 + dmons Y (m.month.toNat - 1)) * 86400 + m.hour * 3600 + m.minute * 60 + m.second, true) := by
    rw [← HR0.out]; unfold dtick; rw [HY.out, if_neg (by omega)]
  have HRT := Lib.hid hRt
  clear hRt
  go_wp2
  refine wp_region_held_drew (S := (fun w' => w'.cell? ⟨mb, 1, none⟩ = some (.int .i64 m.day) ∧ w'.cell? ⟨mb, 2, none⟩ = some (.int .i64 m.month) ∧ w'.cell? ⟨mb, 3, none⟩ = some (.int .i64 Y) ∧ w'.cell? ⟨mb, 4, none⟩ = some (.int .i64 m.hour) ∧ w'.cell? ⟨mb, 5, none⟩ = some (.int .i64 m.minute) ∧ w'.cell? ⟨mb, 6, none⟩ = some (.int .i64 m.second))) (by kernel_rfl) (⟨c1, c2, c3, c4, c5, c6⟩) (fun hHeld => ?_)
  refine tkS 0 hHeld ?_
  try simp only [Act.put, ps1, ps2, ps3]
  refine tkS 1 hHeld ?_
  try simp only [Act.put, ps1, ps2, ps3]
  refine tkS 2 hHeld ?_
  try simp only [Act.put, ps1, ps2, ps3]
  refine tkS 3 hHeld ?_
  try simp only [Act.put, ps1, ps2, ps3]
  refine tkS 4 hHeld ?_
  try simp only [Act.put, ps1, ps2, ps3]
  refine tkS 5 hHeld ?_
  try simp only [Act.put, ps1, ps2, ps3]
  refine tkS 6 hHeld ?_
  try simp only [Act.put, ps1, ps2, ps3]
  refine tkS 7 hHeld ?_
  try simp only [Act.put, ps1, ps2, ps3]
  refine tkS 8 hHeld ?_
  try simp only [Act.put, ps1, ps2, ps3]
  refine tkS 9 hHeld ?_
  try simp only [Act.put, ps1, ps2, ps3]
  refine tkS 10 hHeld ?_
  try simp only [Act.put, ps1, ps2, ps3]
  refine tkS 11 hHeld ?_
  try simp only [Act.put, ps1, ps2, ps3]
  refine tkS 12 hHeld ?_
  try simp only [Act.put, ps1, ps2, ps3]
  refine tkS 13 hHeld ?_
  try simp only [Act.put, ps1, ps2, ps3]
  refine tkS 14 hHeld ?_
  try simp only [Act.put, ps1, ps2, ps3]
  refine tkS 15 hHeld ?_
  try simp only [Act.put, ps1, ps2, ps3]
  refine tkS 16 hHeld ?_
  try simp only [Act.put, ps1, ps2, ps3]
  refine tkS 17 hHeld ?_
  try simp only [Act.put, ps1, ps2, ps3]
  refine tkS 18 hHeld ?_
  try simp only [Act.put, ps1, ps2, ps3]
  refine tkS 19 hHeld ?_
  try simp only [Act.put, ps1, ps2, ps3]
  refine tkS 20 hHeld ?_
  try simp only [Act.put, ps1, ps2, ps3]
  refine tkS 21 hHeld ?_
  try simp only [Act.put, ps1, ps2, ps3]
  refine tkS 22 hHeld ?_
  try simp only [Act.put, ps1, ps2, ps3]
  refine tkS 23 hHeld ?_
  try simp only [Act.put, ps1, ps2, ps3]
  refine tkS 24 hHeld ?_
  try simp only [Act.put, ps1, ps2, ps3]
  refine tkS 25 hHeld ?_
  try simp only [Act.put, ps1, ps2, ps3]
  refine tkS 26 hHeld ?_
  try simp only [Act.put, ps1, ps2, ps3]
  refine tkS 27 hHeld ?_
  try simp only [Act.put, ps1, ps2, ps3]
  refine tkS 28 hHeld ?_
  try simp only [Act.put, ps1, ps2, ps3]
  refine tkS 29 hHeld ?_
  try simp only [Act.put, ps1, ps2, ps3]
  refine tkS 30 hHeld ?_
  try simp only [Act.put, ps1, ps2, ps3]
  refine tkS 31 hHeld ?_
  try simp only [Act.put, ps1, ps2, ps3]
  refine wpAnyH_ready (rs := [32]) (by kernel_rfl) (by simp) (AllReadyH.cons (by simp only [List.getElem?_toArray, List.getElem?_cons_succ, List.getElem?_cons_zero]; exact rfl) (fun K hK => ?_) AllReadyH.nil)
  rw [if_pos (by rfl)]
  go_simp
  refine (KL.out _).mono ?_; rintro e wl ⟨rfl, rfl⟩; go_wp2_with fail
  refine hK.out _ _ (hHeld) (fun hHeld => ?_)
  clear hK K
  try simp only [Act.put, ps1, ps2, ps3]
  refine tkS 33 hHeld ?_
  try simp only [Act.put, ps1, ps2, ps3]
  refine tkS 34 hHeld ?_
  try simp only [Act.put, ps1, ps2, ps3]
  refine tkS 35 hHeld ?_
  try simp only [Act.put, ps1, ps2, ps3]
  refine tkS 36 hHeld ?_
  try simp only [Act.put, ps1, ps2, ps3]
  refine tkS 37 hHeld ?_
  try simp only [Act.put, ps1, ps2, ps3]
  refine tkS 38 hHeld ?_
  try simp only [Act.put, ps1, ps2, ps3]
  refine tkS 39 hHeld ?_
  try simp only [Act.put, ps1, ps2, ps3]
  refine tkS 40 hHeld ?_
  try simp only [Act.put, ps1, ps2, ps3]
  refine tkS 41 hHeld ?_
  try simp only [Act.put, ps1, ps2, ps3]
  refine tkS 42 hHeld ?_
  try simp only [Act.put, ps1, ps2, ps3]
  refine tkS 43 hHeld ?_
  try simp only [Act.put, ps1, ps2, ps3]
  refine tkS 44 hHeld ?_
  try simp only [Act.put, ps1, ps2, ps3]
  refine tkS 45 hHeld ?_
  try simp only [Act.put, ps1, ps2, ps3]
  refine tkS 46 hHeld ?_
  try simp only [Act.put, ps1, ps2, ps3]
  refine tkS 47 hHeld ?_
  try simp only [Act.put, ps1, ps2, ps3]
  refine tkS 48 hHeld ?_
  try simp only [Act.put, ps1, ps2, ps3]
  refine tkS 49 hHeld ?_
  try simp only [Act.put, ps1, ps2, ps3]
  refine tkS 50 hHeld ?_
  try simp only [Act.put, ps1, ps2, ps3]
  refine tkS 51 hHeld ?_
  try simp only [Act.put, ps1, ps2, ps3]
  refine tkS 52 hHeld ?_
  try simp only [Act.put, ps1, ps2, ps3]
  refine tkS 53 hHeld ?_
  try simp only [Act.put, ps1, ps2, ps3]
  refine tkS 54 hHeld ?_
  try simp only [Act.put, ps1, ps2, ps3]
  refine tkS 55 hHeld ?_
  try simp only [Act.put, ps1, ps2, ps3]
  refine wpAnyH_done (by kernel_rfl) ?_ _
  clear hHeld
  have ka := fun w' => dahead_any Y (by omega) w'
  have hab := dahead_ge Y (by omega)
  have KA := Lib.hid ka
  clear ka
  obtain ⟨AH, hAH⟩ : ∃ AH, dahead Y = AH := ⟨_, rfl⟩
  rw [hAH] at KA hab
  have HAH := Lib.hid hAH
  clear hAH
  have v1 : IntKind.i64.wrap (AH + m.day) = AH + m.day := by rw [IntKind.wrap_i64]; omega
  have v2 : IntKind.i64.wrap (AH + m.day - 1) = AH + m.day - 1 := by rw [IntKind.wrap_i64]; omega
  go_wp2_with fail
  refine wp_region_held_drew (S := (fun w' => w'.cell? ⟨mb, 0, none⟩ = some (.int .i64 m.wd) ∧ w'.cell? ⟨mb, 1, none⟩ = some (.int .i64 m.day) ∧ w'.cell? ⟨mb, 2, none⟩ = some (.int .i64 m.month) ∧ w'.cell? ⟨mb, 3, none⟩ = some (.int .i64 Y) ∧ w'.cell? ⟨mb, 4, none⟩ = some (.int .i64 m.hour) ∧ w'.cell? ⟨mb, 5, none⟩ = some (.int .i64 m.minute) ∧ w'.cell? ⟨mb, 6, none⟩ = some (.int .i64 m.second))) (by kernel_rfl) (⟨c0, c1, c2, c3, c4, c5, c6⟩) (fun hHeld => ?_)
  refine tkS 0 hHeld ?_
  try simp only [Act.put, ps1, ps2, ps3]
  refine tkS 1 hHeld ?_
  try simp only [Act.put, ps1, ps2, ps3]
  refine tkS 2 hHeld ?_
  try simp only [Act.put, ps1, ps2, ps3]
  refine tkS 3 hHeld ?_
  try simp only [Act.put, ps1, ps2, ps3]
  refine tkS 5 hHeld ?_
  try simp only [Act.put, ps1, ps2, ps3]
  refine tkS 6 hHeld ?_
  try simp only [Act.put, ps1, ps2, ps3]
  refine tkS 7 hHeld ?_
  try simp only [Act.put, ps1, ps2, ps3]
  refine tkS 8 hHeld ?_
  try simp only [Act.put, ps1, ps2, ps3]
  refine wpAnyH_ready (rs := [4]) (by kernel_rfl) (by simp) (AllReadyH.cons (by simp only [List.getElem?_toArray, List.getElem?_cons_succ, List.getElem?_cons_zero]; exact rfl) (fun K hK => ?_) AllReadyH.nil)
  rw [if_pos (by rfl)]
  go_simp
  refine (KA.out _).mono ?_; rintro e wl ⟨rfl, rfl⟩; go_wp2_with fail
  refine hK.out _ _ (hHeld) (fun hHeld => ?_)
  clear hK K
  try simp only [Act.put, ps1, ps2, ps3]
  refine tkS 9 hHeld ?_
  try simp only [Act.put, ps1, ps2, ps3]
  refine tkS 10 hHeld ?_
  try simp only [Act.put, ps1, ps2, ps3]
  refine tkS 11 hHeld ?_
  try simp only [Act.put, ps1, ps2, ps3]
  refine wpAnyH_done (by kernel_rfl) ?_ _
  clear hHeld
  go_wp2_with fail
  go_loopw [9, 10] (fun d k wr => ∃ j : Nat, k = .int .i64 ((j : Int) + 1) ∧ j ≤ m.month.toNat - 1 ∧ d = .int .i64 (AH + m.day - 1 + dmons Y j) ∧ ∃ q, wr = w.drewN q) (fun _ k _ => 20 - (intD k).toNat)
  case atStart => exact ⟨0, rfl, Nat.zero_le _, by simp [dmons], 2, rfl⟩
  case round =>
    obtain ⟨j, rfl, hj, rfl, q, rfl⟩ := hrel
    have hdm := dmons_le Y j
    have hj12 : j ≤ 12 := by omega
    by_cases hjm : (j : Int) + 1 < m.month
    · have t8 : decide ((j : Int) + 1 < m.month) = true := by simpa using hjm
      have kj := dlong_any Y ((j : Int) + 1) hYb (w.drewN q)
      have hjl := dlong_le Y ((j : Int) + 1)
      have hdn : dmons Y (j + 1) = dmons Y j + dlong Y ((j : Int) + 1) := rfl
      have u1 : IntKind.i64.wrap (AH + m.day - 1 + dmons Y j + dlong Y ((j : Int) + 1)) = AH + m.day - 1 + dmons Y j + dlong Y ((j : Int) + 1) := by rw [IntKind.wrap_i64]; omega
      have u2 : IntKind.i64.wrap ((j : Int) + 1 + 1) = (j : Int) + 1 + 1 := by rw [IntKind.wrap_i64]; omega
      have KJ := Lib.hid kj; have HDN := Lib.hid hdn
      clear kj hdn
      go_wp2_with fail
      (with_reducible refine KJ.out.mono ?_)
      rintro e wl ⟨rfl, rfl⟩
      go_wp2
      go_roundw
      case rel => exact ⟨j + 1, rfl, by omega, by rw [HDN.out, ← Int.add_assoc], q, rfl⟩
      case measure => simp [intD]; omega
    · have t8 : decide ((j : Int) + 1 < m.month) = false := by simpa using hjm
      have hje : j = m.month.toNat - 1 := by omega
      obtain ⟨D, hD⟩ : ∃ D, AH + m.day - 1 + dmons Y j = D := ⟨_, rfl⟩
      have hDb : 0 ≤ D ∧ D ≤ 10000000 := by omega
      have hRD : R = if D % 7 ≠ m.wd then (0, false) else (D * 86400 + m.hour * 3600 + m.minute * 60 + m.second, true) := by
        rw [HRT.out, HAH.out, ← hje, hD]
      have em : D.tmod 7 = D % 7 := Int.tmod_eq_emod_of_nonneg hDb.1
      rw [hD]
      have HRD := Lib.hid hRD
      have HBE : Hid (ButB mb w (w.drewN q)) := Lib.hid (HBT.out.drewN q)
      clear hje hRD hD hdm hj HRT
      by_cases hwd : D % 7 = m.wd
      · have hR2 : R = (D * 86400 + m.hour * 3600 + m.minute * 60 + m.second, true) := by rw [HRD.out, if_neg (by simpa using hwd)]
        have b1 : (D % 7 == m.wd) = true := by simpa using hwd
        have x1 : IntKind.i64.wrap (D * 86400) = D * 86400 := by rw [IntKind.wrap_i64]; omega
        have x2 : IntKind.i64.wrap (m.hour * 3600) = m.hour * 3600 := by rw [IntKind.wrap_i64]; omega
        have x3 : IntKind.i64.wrap (D * 86400 + m.hour * 3600) = D * 86400 + m.hour * 3600 := by rw [IntKind.wrap_i64]; omega
        have x4 : IntKind.i64.wrap (m.minute * 60) = m.minute * 60 := by rw [IntKind.wrap_i64]; omega
        have x5 : IntKind.i64.wrap (D * 86400 + m.hour * 3600 + m.minute * 60) = D * 86400 + m.hour * 3600 + m.minute * 60 := by rw [IntKind.wrap_i64]; omega
        have x6 : IntKind.i64.wrap (D * 86400 + m.hour * 3600 + m.minute * 60 + m.second) = D * 86400 + m.hour * 3600 + m.minute * 60 + m.second := by rw [IntKind.wrap_i64]; omega
        have HR2 := Lib.hid hR2
        clear hR2
        go_wp2
        go_region
        go_wp2
        go_ret2
        exact ⟨by rw [HR2.out]; rfl, HBE.out.drewN 1⟩
      · have hR2 : R = (0, false) := by rw [HRD.out, if_pos hwd]
        have b1 : (D % 7 == m.wd) = false := by simpa using hwd
        have HR2 := Lib.hid hR2
        clear hR2
        go_wp2
        go_ret2
        exact ⟨by rw [HR2.out]; rfl, HBE.out⟩
end Go.Proofs.YtcgdcbnhpbokfaaGreatDoor
/- Dates: the walk of tick, of a year of two digits (printed by wip/tools/date5.py). -/
namespace Go.Proofs.YtcgdcbnhpbokfaaGreatDoor
open Go.RowKit
set_option maxRecDepth 100000

set_option maxHeartbeats 32000000 in
theorem dtick_two (mb : Nat) (m : Mom) (now : Int) (w : World) (hm : MomAt mb m w) (ho : MomOk m) (h2 : m.two = true) :
    Calls Tryz.prog 147 #[.pointer (some ⟨mb, 0, none⟩), .int .i64 now] w (TickPost mb w (dtick m now)) := by
  obtain ⟨R, hR⟩ : ∃ R, dtick m now = R := ⟨_, rfl⟩
  rw [hR]
  obtain ⟨dn, hdn⟩ : ∃ dn, max 0 (min now 253402300799) / 86400 = dn := ⟨_, rfl⟩
  have hdn0 : dnow now = dn := hdn
  have hdnb : 0 ≤ dn ∧ dn ≤ 3000000 := by omega
  have hwq : IntKind.i64.wrap dn = dn := by rw [IntKind.wrap_i64]; omega
  have HDN := Lib.hid hdn
  have ky := dyear_any dn hdnb w
  have hyg := dyear_ge 9000 dn (1970 + dn / 366)
  obtain ⟨YY, hYY⟩ : ∃ YY, dyear 9000 dn (1970 + dn / 366) = YY := ⟨_, rfl⟩
  have hyo : (dyearO dn).1 = YY := hYY
  rw [hyo] at ky
  rw [hYY] at hyg
  generalize (dyearO dn).2 = rst at *
  have ho2 := ho.two h2
  obtain ⟨oy1, oy2⟩ := ho.year
  have hYb0 : 1970 ≤ YY ∧ YY ≤ 30000 := by omega
  obtain ⟨Y, hY⟩ : ∃ Y, (YY + 50) - ((YY + 50) - m.year) % 100 = Y := ⟨_, rfl⟩
  have hy : dyr m now = Y := by unfold dyr; rw [if_pos h2, hdn0, hyo]; exact hY
  have hYb : 0 ≤ Y ∧ Y ≤ 100000 := by omega
  have em0 : ((YY + 50) - m.year).tmod 100 = ((YY + 50) - m.year) % 100 := Int.tmod_eq_emod_of_nonneg (by omega)
  obtain ⟨md, hmd⟩ : ∃ md, ((YY + 50) - m.year) % 100 = md := ⟨_, rfl⟩
  rw [hmd] at em0 hY
  have w1 : IntKind.i64.wrap (YY + 50) = YY + 50 := by rw [IntKind.wrap_i64]; omega
  have w2 : IntKind.i64.wrap (YY + 50 - m.year) = YY + 50 - m.year := by rw [IntKind.wrap_i64]; omega
  have w3 : IntKind.i64.wrap (YY + 50 - md) = YY + 50 - md := by rw [IntKind.wrap_i64]; omega
  obtain ⟨c0, c1, c2, c3, c4, c5, c6, c7, hf⟩ := hm.cells
  have f3 := hf 3
  rw [h2] at c7
  have HR0 := Lib.hid hR; have HY := Lib.hid hy; have HO := Lib.hid ho; have HM := Lib.hid hm; have KY := Lib.hid ky; have HYE := Lib.hid hY
  obtain ⟨ow1, ow2⟩ := ho.wd
  obtain ⟨od1, od2⟩ := ho.day
  obtain ⟨om1, om2⟩ := ho.month
  obtain ⟨oh1, oh2⟩ := ho.hour
  obtain ⟨on1, on2⟩ := ho.minute
  obtain ⟨os1, os2⟩ := ho.second
  clear hR hy hm ho hf h2 hY hdn0 hdn hyg hYY hyo hmd ky
  go_enter Tryz.func147, Tryz.ntmps147
  go_wp2_with fail
  rw [HDN.out]
  (with_reducible refine KY.out.mono ?_)
  rintro e wy ⟨rfl, rfl⟩
  go_upto_region 5 with (fail)
  rw [HYE.out]
  have hm2 : MomAt mb { m with year := Y } ((wy.drewN 0).setCell ⟨mb, 3, none⟩ (.int .i64 Y)) := HM.out.set3 (q := 0) Y
  have hb2 : ButB mb wy ((wy.drewN 0).setCell ⟨mb, 3, none⟩ (.int .i64 Y)) := ButB.set mb 3 0 wy _
  obtain ⟨WZ, hWZ⟩ : ∃ WZ, wy.setCell ⟨mb, 3, none⟩ (.int .i64 Y) = WZ := ⟨_, rfl⟩
  have hm3 : MomAt mb { m with year := Y } WZ := by rw [← hWZ]; exact hm2
  have hb3 : ButB mb wy WZ := by rw [← hWZ]; exact hb2
  rw [hWZ]
  clear c0 c1 c2 c3 c4 c5 c6 c7 f3 hm2 hb2 hwq em0 w1 w2 w3 hWZ
  obtain ⟨c0, c1, c2, c3, c4, c5, c6, c7, _⟩ := hm3.cells
  simp only at c0 c1 c2 c3 c4 c5 c6 c7
  have HBT := Lib.hid hb3
  clear hm3 hb3
  have kl := fun w' => dlong_any Y m.month hYb w'
  have KL := Lib.hid kl
  clear kl
  have hlb := dlong_le Y m.month
  by_cases q1 : Y < 1970
  · have hR2 : R = (0, false) := by rw [← HR0.out]; unfold dtick; rw [HY.out, if_pos (Or.inl q1)]
    have HR := Lib.hid hR2.symm
    clear hR2
    have t1 : decide (Y < 1970) = true := by simpa using q1
    go_wp2
    go_region
    go_wp2
    go_ret2
    exact ⟨by rw [← HR.out]; rfl, HBT.out.drewN 1⟩
  have t1 : decide (Y < 1970) = false := by simpa using q1
  by_cases q2 : Y > 9999
  · have hR2 : R = (0, false) := by rw [← HR0.out]; unfold dtick; rw [HY.out, if_pos (Or.inr (Or.inl q2))]
    have HR := Lib.hid hR2.symm
    clear hR2
    have t2 : decide (Y > 9999) = true := by simpa using q2
    go_wp2
    go_region
    go_wp2
    go_ret2
    exact ⟨by rw [← HR.out]; rfl, HBT.out.drewN 1⟩
  have t2 : decide (Y > 9999) = false := by simpa using q2
  by_cases q3 : m.day < 1
  · have hR2 : R = (0, false) := by rw [← HR0.out]; unfold dtick; rw [HY.out, if_pos (Or.inr (Or.inr (Or.inl q3)))]
    have HR := Lib.hid hR2.symm
    clear hR2
    have t3 : decide (m.day < 1) = true := by simpa using q3
    go_wp2
    go_region
    go_wp2
    go_ret2
    exact ⟨by rw [← HR.out]; rfl, HBT.out.drewN 1⟩
  have t3 : decide (m.day < 1) = false := by simpa using q3
  by_cases q4 : m.day > dlong Y m.month
  · have hR2 : R = (0, false) := by rw [← HR0.out]; unfold dtick; rw [HY.out, if_pos (Or.inr (Or.inr (Or.inr (Or.inl q4))))]
    have HR := Lib.hid hR2.symm
    clear hR2
    have t4 : decide (m.day > dlong Y m.month) = true := by simpa using q4
    go_wp2
    refine wp_region_held_drew (S := (fun w' => w'.cell? ⟨mb, 1, none⟩ = some (.int .i64 m.day) ∧ w'.cell? ⟨mb, 2, none⟩ = some (.int .i64 m.month) ∧ w'.cell? ⟨mb, 3, none⟩ = some (.int .i64 Y) ∧ w'.cell? ⟨mb, 4, none⟩ = some (.int .i64 m.hour) ∧ w'.cell? ⟨mb, 5, none⟩ = some (.int .i64 m.minute) ∧ w'.cell? ⟨mb, 6, none⟩ = some (.int .i64 m.second))) (by kernel_rfl) (⟨c1, c2, c3, c4, c5, c6⟩) (fun hHeld => ?_)
    refine tkS 0 hHeld ?_
    try simp only [Act.put, ps1, ps2, ps3]
    refine tkS 1 hHeld ?_
    try simp only [Act.put, ps1, ps2, ps3]
    refine tkS 2 hHeld ?_
    try simp only [Act.put, ps1, ps2, ps3]
    refine tkS 3 hHeld ?_
    try simp only [Act.put, ps1, ps2, ps3]
    refine tkS 4 hHeld ?_
    try simp only [Act.put, ps1, ps2, ps3]
    refine tkS 5 hHeld ?_
    try simp only [Act.put, ps1, ps2, ps3]
    refine tkS 6 hHeld ?_
    try simp only [Act.put, ps1, ps2, ps3]
    refine tkS 7 hHeld ?_
    try simp only [Act.put, ps1, ps2, ps3]
    refine tkS 8 hHeld ?_
    try simp only [Act.put, ps1, ps2, ps3]
    refine tkS 9 hHeld ?_
    try simp only [Act.put, ps1, ps2, ps3]
    refine tkS 10 hHeld ?_
    try simp only [Act.put, ps1, ps2, ps3]
    refine tkS 11 hHeld ?_
    try simp only [Act.put, ps1, ps2, ps3]
    refine tkS 12 hHeld ?_
    try simp only [Act.put, ps1, ps2, ps3]
    refine tkS 13 hHeld ?_
    try simp only [Act.put, ps1, ps2, ps3]
    refine tkS 14 hHeld ?_
    try simp only [Act.put, ps1, ps2, ps3]
    refine tkS 15 hHeld ?_
    try simp only [Act.put, ps1, ps2, ps3]
    refine tkS 16 hHeld ?_
    try simp only [Act.put, ps1, ps2, ps3]
    refine tkS 17 hHeld ?_
    try simp only [Act.put, ps1, ps2, ps3]
    refine tkS 18 hHeld ?_
    try simp only [Act.put, ps1, ps2, ps3]
    refine tkS 19 hHeld ?_
    try simp only [Act.put, ps1, ps2, ps3]
    refine tkS 20 hHeld ?_
    try simp only [Act.put, ps1, ps2, ps3]
    refine tkS 21 hHeld ?_
    try simp only [Act.put, ps1, ps2, ps3]
    refine tkS 22 hHeld ?_
    try simp only [Act.put, ps1, ps2, ps3]
    refine tkS 23 hHeld ?_
    try simp only [Act.put, ps1, ps2, ps3]
    refine tkS 24 hHeld ?_
    try simp only [Act.put, ps1, ps2, ps3]
    refine tkS 25 hHeld ?_
    try simp only [Act.put, ps1, ps2, ps3]
    refine tkS 26 hHeld ?_
    try simp only [Act.put, ps1, ps2, ps3]
    refine tkS 27 hHeld ?_
    try simp only [Act.put, ps1, ps2, ps3]
    refine tkS 28 hHeld ?_
    try simp only [Act.put, ps1, ps2, ps3]
    refine tkS 29 hHeld ?_
    try simp only [Act.put, ps1, ps2, ps3]
    refine tkS 30 hHeld ?_
    try simp only [Act.put, ps1, ps2, ps3]
    refine tkS 31 hHeld ?_
    try simp only [Act.put, ps1, ps2, ps3]
    refine wpAnyH_ready (rs := [32]) (by kernel_rfl) (by simp) (AllReadyH.cons (by simp only [List.getElem?_toArray, List.getElem?_cons_succ, List.getElem?_cons_zero]; exact rfl) (fun K hK => ?_) AllReadyH.nil)
    rw [if_pos (by rfl)]
    go_simp
    refine (KL.out _).mono ?_; rintro e wl ⟨rfl, rfl⟩; go_wp2_with fail
    refine hK.out _ _ (hHeld) (fun hHeld => ?_)
    clear hK K
    try simp only [Act.put, ps1, ps2, ps3]
    refine tkS 33 hHeld ?_
    try simp only [Act.put, ps1, ps2, ps3]
    refine tkS 34 hHeld ?_
    try simp only [Act.put, ps1, ps2, ps3]
    refine tkS 35 hHeld ?_
    try simp only [Act.put, ps1, ps2, ps3]
    refine tkO 36 hHeld ?_
    try simp only [Act.put, ps1, ps2, ps3]
    refine tkO 37 hHeld ?_
    try simp only [Act.put, ps1, ps2, ps3]
    refine tkO 38 hHeld ?_
    try simp only [Act.put, ps1, ps2, ps3]
    refine tkO 39 hHeld ?_
    try simp only [Act.put, ps1, ps2, ps3]
    refine tkO 40 hHeld ?_
    try simp only [Act.put, ps1, ps2, ps3]
    refine tkS 41 hHeld ?_
    try simp only [Act.put, ps1, ps2, ps3]
    refine tkS 42 hHeld ?_
    try simp only [Act.put, ps1, ps2, ps3]
    refine tkO 43 hHeld ?_
    try simp only [Act.put, ps1, ps2, ps3]
    refine tkO 44 hHeld ?_
    try simp only [Act.put, ps1, ps2, ps3]
    refine tkO 45 hHeld ?_
    try simp only [Act.put, ps1, ps2, ps3]
    refine tkO 46 hHeld ?_
    try simp only [Act.put, ps1, ps2, ps3]
    refine tkO 47 hHeld ?_
    try simp only [Act.put, ps1, ps2, ps3]
    refine tkS 48 hHeld ?_
    try simp only [Act.put, ps1, ps2, ps3]
    refine tkS 49 hHeld ?_
    try simp only [Act.put, ps1, ps2, ps3]
    refine tkO 50 hHeld ?_
    try simp only [Act.put, ps1, ps2, ps3]
    refine tkO 51 hHeld ?_
    try simp only [Act.put, ps1, ps2, ps3]
    refine tkO 52 hHeld ?_
    try simp only [Act.put, ps1, ps2, ps3]
    refine tkO 53 hHeld ?_
    try simp only [Act.put, ps1, ps2, ps3]
    refine tkO 54 hHeld ?_
    try simp only [Act.put, ps1, ps2, ps3]
    refine tkS 55 hHeld ?_
    try simp only [Act.put, ps1, ps2, ps3]
    refine wpAnyH_done (by kernel_rfl) ?_ _
    clear hHeld
    go_wp2
    go_ret2
    exact ⟨by rw [← HR.out]; rfl, HBT.out.drewN 1⟩
  have t4 : decide (m.day > dlong Y m.month) = false := by simpa using q4
  by_cases q5 : m.hour > 23
  · have hR2 : R = (0, false) := by rw [← HR0.out]; unfold dtick; rw [HY.out, if_pos (Or.inr (Or.inr (Or.inr (Or.inr (Or.inl q5)))))]
    have HR := Lib.hid hR2.symm
    clear hR2
    have t5 : decide (m.hour > 23) = true := by simpa using q5
    go_wp2
    refine wp_region_held_drew (S := (fun w' => w'.cell? ⟨mb, 1, none⟩ = some (.int .i64 m.day) ∧ w'.cell? ⟨mb, 2, none⟩ = some (.int .i64 m.month) ∧ w'.cell? ⟨mb, 3, none⟩ = some (.int .i64 Y) ∧ w'.cell? ⟨mb, 4, none⟩ = some (.int .i64 m.hour) ∧ w'.cell? ⟨mb, 5, none⟩ = some (.int .i64 m.minute) ∧ w'.cell? ⟨mb, 6, none⟩ = some (.int .i64 m.second))) (by kernel_rfl) (⟨c1, c2, c3, c4, c5, c6⟩) (fun hHeld => ?_)
    refine tkS 0 hHeld ?_
    try simp only [Act.put, ps1, ps2, ps3]
    refine tkS 1 hHeld ?_
    try simp only [Act.put, ps1, ps2, ps3]
    refine tkS 2 hHeld ?_
    try simp only [Act.put, ps1, ps2, ps3]
    refine tkS 3 hHeld ?_
    try simp only [Act.put, ps1, ps2, ps3]
    refine tkS 4 hHeld ?_
    try simp only [Act.put, ps1, ps2, ps3]
    refine tkS 5 hHeld ?_
    try simp only [Act.put, ps1, ps2, ps3]
    refine tkS 6 hHeld ?_
    try simp only [Act.put, ps1, ps2, ps3]
    refine tkS 7 hHeld ?_
    try simp only [Act.put, ps1, ps2, ps3]
    refine tkS 8 hHeld ?_
    try simp only [Act.put, ps1, ps2, ps3]
    refine tkS 9 hHeld ?_
    try simp only [Act.put, ps1, ps2, ps3]
    refine tkS 10 hHeld ?_
    try simp only [Act.put, ps1, ps2, ps3]
    refine tkS 11 hHeld ?_
    try simp only [Act.put, ps1, ps2, ps3]
    refine tkS 12 hHeld ?_
    try simp only [Act.put, ps1, ps2, ps3]
    refine tkS 13 hHeld ?_
    try simp only [Act.put, ps1, ps2, ps3]
    refine tkS 14 hHeld ?_
    try simp only [Act.put, ps1, ps2, ps3]
    refine tkS 15 hHeld ?_
    try simp only [Act.put, ps1, ps2, ps3]
    refine tkS 16 hHeld ?_
    try simp only [Act.put, ps1, ps2, ps3]
    refine tkS 17 hHeld ?_
    try simp only [Act.put, ps1, ps2, ps3]
    refine tkS 18 hHeld ?_
    try simp only [Act.put, ps1, ps2, ps3]
    refine tkS 19 hHeld ?_
    try simp only [Act.put, ps1, ps2, ps3]
    refine tkS 20 hHeld ?_
    try simp only [Act.put, ps1, ps2, ps3]
    refine tkS 21 hHeld ?_
    try simp only [Act.put, ps1, ps2, ps3]
    refine tkS 22 hHeld ?_
    try simp only [Act.put, ps1, ps2, ps3]
    refine tkS 23 hHeld ?_
    try simp only [Act.put, ps1, ps2, ps3]
    refine tkS 24 hHeld ?_
    try simp only [Act.put, ps1, ps2, ps3]
    refine tkS 25 hHeld ?_
    try simp only [Act.put, ps1, ps2, ps3]
    refine tkS 26 hHeld ?_
    try simp only [Act.put, ps1, ps2, ps3]
    refine tkS 27 hHeld ?_
    try simp only [Act.put, ps1, ps2, ps3]
    refine tkS 28 hHeld ?_
    try simp only [Act.put, ps1, ps2, ps3]
    refine tkS 29 hHeld ?_
    try simp only [Act.put, ps1, ps2, ps3]
    refine tkS 30 hHeld ?_
    try simp only [Act.put, ps1, ps2, ps3]
    refine tkS 31 hHeld ?_
    try simp only [Act.put, ps1, ps2, ps3]
    refine wpAnyH_ready (rs := [32]) (by kernel_rfl) (by simp) (AllReadyH.cons (by simp only [List.getElem?_toArray, List.getElem?_cons_succ, List.getElem?_cons_zero]; exact rfl) (fun K hK => ?_) AllReadyH.nil)
    rw [if_pos (by rfl)]
    go_simp
    refine (KL.out _).mono ?_; rintro e wl ⟨rfl, rfl⟩; go_wp2_with fail
    refine hK.out _ _ (hHeld) (fun hHeld => ?_)
    clear hK K
    try simp only [Act.put, ps1, ps2, ps3]
    refine tkS 33 hHeld ?_
    try simp only [Act.put, ps1, ps2, ps3]
    refine tkS 34 hHeld ?_
    try simp only [Act.put, ps1, ps2, ps3]
    refine tkS 35 hHeld ?_
    try simp only [Act.put, ps1, ps2, ps3]
    refine tkS 36 hHeld ?_
    try simp only [Act.put, ps1, ps2, ps3]
    refine tkS 37 hHeld ?_
    try simp only [Act.put, ps1, ps2, ps3]
    refine tkS 38 hHeld ?_
    try simp only [Act.put, ps1, ps2, ps3]
    refine tkS 39 hHeld ?_
    try simp only [Act.put, ps1, ps2, ps3]
    refine tkS 40 hHeld ?_
    try simp only [Act.put, ps1, ps2, ps3]
    refine tkS 41 hHeld ?_
    try simp only [Act.put, ps1, ps2, ps3]
    refine tkS 42 hHeld ?_
    try simp only [Act.put, ps1, ps2, ps3]
    refine tkO 43 hHeld ?_
    try simp only [Act.put, ps1, ps2, ps3]
    refine tkO 44 hHeld ?_
    try simp only [Act.put, ps1, ps2, ps3]
    refine tkO 45 hHeld ?_
    try simp only [Act.put, ps1, ps2, ps3]
    refine tkO 46 hHeld ?_
    try simp only [Act.put, ps1, ps2, ps3]
    refine tkO 47 hHeld ?_
    try simp only [Act.put, ps1, ps2, ps3]
    refine tkS 48 hHeld ?_
    try simp only [Act.put, ps1, ps2, ps3]
    refine tkS 49 hHeld ?_
    try simp only [Act.put, ps1, ps2, ps3]
    refine tkO 50 hHeld ?_
    try simp only [Act.put, ps1, ps2, ps3]
    refine tkO 51 hHeld ?_
    try simp only [Act.put, ps1, ps2, ps3]
    refine tkO 52 hHeld ?_
    try simp only [Act.put, ps1, ps2, ps3]
    refine tkO 53 hHeld ?_
    try simp only [Act.put, ps1, ps2, ps3]
    refine tkO 54 hHeld ?_
    try simp only [Act.put, ps1, ps2, ps3]
    refine tkS 55 hHeld ?_
    try simp only [Act.put, ps1, ps2, ps3]
    refine wpAnyH_done (by kernel_rfl) ?_ _
    clear hHeld
    go_wp2
    go_ret2
    exact ⟨by rw [← HR.out]; rfl, HBT.out.drewN 1⟩
  have t5 : decide (m.hour > 23) = false := by simpa using q5
  by_cases q6 : m.minute > 59
  · have hR2 : R = (0, false) := by rw [← HR0.out]; unfold dtick; rw [HY.out, if_pos (Or.inr (Or.inr (Or.inr (Or.inr (Or.inr (Or.inl q6))))))]
    have HR := Lib.hid hR2.symm
    clear hR2
    have t6 : decide (m.minute > 59) = true := by simpa using q6
    go_wp2
    refine wp_region_held_drew (S := (fun w' => w'.cell? ⟨mb, 1, none⟩ = some (.int .i64 m.day) ∧ w'.cell? ⟨mb, 2, none⟩ = some (.int .i64 m.month) ∧ w'.cell? ⟨mb, 3, none⟩ = some (.int .i64 Y) ∧ w'.cell? ⟨mb, 4, none⟩ = some (.int .i64 m.hour) ∧ w'.cell? ⟨mb, 5, none⟩ = some (.int .i64 m.minute) ∧ w'.cell? ⟨mb, 6, none⟩ = some (.int .i64 m.second))) (by kernel_rfl) (⟨c1, c2, c3, c4, c5, c6⟩) (fun hHeld => ?_)
    refine tkS 0 hHeld ?_
    try simp only [Act.put, ps1, ps2, ps3]
    refine tkS 1 hHeld ?_
    try simp only [Act.put, ps1, ps2, ps3]
    refine tkS 2 hHeld ?_
    try simp only [Act.put, ps1, ps2, ps3]
    refine tkS 3 hHeld ?_
    try simp only [Act.put, ps1, ps2, ps3]
    refine tkS 4 hHeld ?_
    try simp only [Act.put, ps1, ps2, ps3]
    refine tkS 5 hHeld ?_
    try simp only [Act.put, ps1, ps2, ps3]
    refine tkS 6 hHeld ?_
    try simp only [Act.put, ps1, ps2, ps3]
    refine tkS 7 hHeld ?_
    try simp only [Act.put, ps1, ps2, ps3]
    refine tkS 8 hHeld ?_
    try simp only [Act.put, ps1, ps2, ps3]
    refine tkS 9 hHeld ?_
    try simp only [Act.put, ps1, ps2, ps3]
    refine tkS 10 hHeld ?_
    try simp only [Act.put, ps1, ps2, ps3]
    refine tkS 11 hHeld ?_
    try simp only [Act.put, ps1, ps2, ps3]
    refine tkS 12 hHeld ?_
    try simp only [Act.put, ps1, ps2, ps3]
    refine tkS 13 hHeld ?_
    try simp only [Act.put, ps1, ps2, ps3]
    refine tkS 14 hHeld ?_
    try simp only [Act.put, ps1, ps2, ps3]
    refine tkS 15 hHeld ?_
    try simp only [Act.put, ps1, ps2, ps3]
    refine tkS 16 hHeld ?_
    try simp only [Act.put, ps1, ps2, ps3]
    refine tkS 17 hHeld ?_
    try simp only [Act.put, ps1, ps2, ps3]
    refine tkS 18 hHeld ?_
    try simp only [Act.put, ps1, ps2, ps3]
    refine tkS 19 hHeld ?_
    try simp only [Act.put, ps1, ps2, ps3]
    refine tkS 20 hHeld ?_
    try simp only [Act.put, ps1, ps2, ps3]
    refine tkS 21 hHeld ?_
    try simp only [Act.put, ps1, ps2, ps3]
    refine tkS 22 hHeld ?_
    try simp only [Act.put, ps1, ps2, ps3]
    refine tkS 23 hHeld ?_
    try simp only [Act.put, ps1, ps2, ps3]
    refine tkS 24 hHeld ?_
    try simp only [Act.put, ps1, ps2, ps3]
    refine tkS 25 hHeld ?_
    try simp only [Act.put, ps1, ps2, ps3]
    refine tkS 26 hHeld ?_
    try simp only [Act.put, ps1, ps2, ps3]
    refine tkS 27 hHeld ?_
    try simp only [Act.put, ps1, ps2, ps3]
    refine tkS 28 hHeld ?_
    try simp only [Act.put, ps1, ps2, ps3]
    refine tkS 29 hHeld ?_
    try simp only [Act.put, ps1, ps2, ps3]
    refine tkS 30 hHeld ?_
    try simp only [Act.put, ps1, ps2, ps3]
    refine tkS 31 hHeld ?_
    try simp only [Act.put, ps1, ps2, ps3]
    refine wpAnyH_ready (rs := [32]) (by kernel_rfl) (by simp) (AllReadyH.cons (by simp only [List.getElem?_toArray, List.getElem?_cons_succ, List.getElem?_cons_zero]; exact rfl) (fun K hK => ?_) AllReadyH.nil)
    rw [if_pos (by rfl)]
    go_simp
    refine (KL.out _).mono ?_; rintro e wl ⟨rfl, rfl⟩; go_wp2_with fail
    refine hK.out _ _ (hHeld) (fun hHeld => ?_)
    clear hK K
    try simp only [Act.put, ps1, ps2, ps3]
    refine tkS 33 hHeld ?_
    try simp only [Act.put, ps1, ps2, ps3]
    refine tkS 34 hHeld ?_
    try simp only [Act.put, ps1, ps2, ps3]
    refine tkS 35 hHeld ?_
    try simp only [Act.put, ps1, ps2, ps3]
    refine tkS 36 hHeld ?_
    try simp only [Act.put, ps1, ps2, ps3]
    refine tkS 37 hHeld ?_
    try simp only [Act.put, ps1, ps2, ps3]
    refine tkS 38 hHeld ?_
    try simp only [Act.put, ps1, ps2, ps3]
    refine tkS 39 hHeld ?_
    try simp only [Act.put, ps1, ps2, ps3]
    refine tkS 40 hHeld ?_
    try simp only [Act.put, ps1, ps2, ps3]
    refine tkS 41 hHeld ?_
    try simp only [Act.put, ps1, ps2, ps3]
    refine tkS 42 hHeld ?_
    try simp only [Act.put, ps1, ps2, ps3]
    refine tkS 43 hHeld ?_
    try simp only [Act.put, ps1, ps2, ps3]
    refine tkS 44 hHeld ?_
    try simp only [Act.put, ps1, ps2, ps3]
    refine tkS 45 hHeld ?_
    try simp only [Act.put, ps1, ps2, ps3]
    refine tkS 46 hHeld ?_
    try simp only [Act.put, ps1, ps2, ps3]
    refine tkS 47 hHeld ?_
    try simp only [Act.put, ps1, ps2, ps3]
    refine tkS 48 hHeld ?_
    try simp only [Act.put, ps1, ps2, ps3]
    refine tkS 49 hHeld ?_
    try simp only [Act.put, ps1, ps2, ps3]
    refine tkO 50 hHeld ?_
    try simp only [Act.put, ps1, ps2, ps3]
    refine tkO 51 hHeld ?_
    try simp only [Act.put, ps1, ps2, ps3]
    refine tkO 52 hHeld ?_
    try simp only [Act.put, ps1, ps2, ps3]
    refine tkO 53 hHeld ?_
    try simp only [Act.put, ps1, ps2, ps3]
    refine tkO 54 hHeld ?_
    try simp only [Act.put, ps1, ps2, ps3]
    refine tkS 55 hHeld ?_
    try simp only [Act.put, ps1, ps2, ps3]
    refine wpAnyH_done (by kernel_rfl) ?_ _
    clear hHeld
    go_wp2
    go_ret2
    exact ⟨by rw [← HR.out]; rfl, HBT.out.drewN 1⟩
  have t6 : decide (m.minute > 59) = false := by simpa using q6
  by_cases q7 : m.second > 59
  · have hR2 : R = (0, false) := by rw [← HR0.out]; unfold dtick; rw [HY.out, if_pos (Or.inr (Or.inr (Or.inr (Or.inr (Or.inr (Or.inr q7))))))]
    have HR := Lib.hid hR2.symm
    clear hR2
    have t7 : decide (m.second > 59) = true := by simpa using q7
    go_wp2
    refine wp_region_held_drew (S := (fun w' => w'.cell? ⟨mb, 1, none⟩ = some (.int .i64 m.day) ∧ w'.cell? ⟨mb, 2, none⟩ = some (.int .i64 m.month) ∧ w'.cell? ⟨mb, 3, none⟩ = some (.int .i64 Y) ∧ w'.cell? ⟨mb, 4, none⟩ = some (.int .i64 m.hour) ∧ w'.cell? ⟨mb, 5, none⟩ = some (.int .i64 m.minute) ∧ w'.cell? ⟨mb, 6, none⟩ = some (.int .i64 m.second))) (by kernel_rfl) (⟨c1, c2, c3, c4, c5, c6⟩) (fun hHeld => ?_)
    refine tkS 0 hHeld ?_
    try simp only [Act.put, ps1, ps2, ps3]
    refine tkS 1 hHeld ?_
    try simp only [Act.put, ps1, ps2, ps3]
    refine tkS 2 hHeld ?_
    try simp only [Act.put, ps1, ps2, ps3]
    refine tkS 3 hHeld ?_
    try simp only [Act.put, ps1, ps2, ps3]
    refine tkS 4 hHeld ?_
    try simp only [Act.put, ps1, ps2, ps3]
    refine tkS 5 hHeld ?_
    try simp only [Act.put, ps1, ps2, ps3]
    refine tkS 6 hHeld ?_
    try simp only [Act.put, ps1, ps2, ps3]
    refine tkS 7 hHeld ?_
    try simp only [Act.put, ps1, ps2, ps3]
    refine tkS 8 hHeld ?_
    try simp only [Act.put, ps1, ps2, ps3]
    refine tkS 9 hHeld ?_
    try simp only [Act.put, ps1, ps2, ps3]
    refine tkS 10 hHeld ?_
    try simp only [Act.put, ps1, ps2, ps3]
    refine tkS 11 hHeld ?_
    try simp only [Act.put, ps1, ps2, ps3]
    refine tkS 12 hHeld ?_
    try simp only [Act.put, ps1, ps2, ps3]
    refine tkS 13 hHeld ?_
    try simp only [Act.put, ps1, ps2, ps3]
    refine tkS 14 hHeld ?_
    try simp only [Act.put, ps1, ps2, ps3]
    refine tkS 15 hHeld ?_
    try simp only [Act.put, ps1, ps2, ps3]
    refine tkS 16 hHeld ?_
    try simp only [Act.put, ps1, ps2, ps3]
    refine tkS 17 hHeld ?_
    try simp only [Act.put, ps1, ps2, ps3]
    refine tkS 18 hHeld ?_
    try simp only [Act.put, ps1, ps2, ps3]
    refine tkS 19 hHeld ?_
    try simp only [Act.put, ps1, ps2, ps3]
    refine tkS 20 hHeld ?_
    try simp only [Act.put, ps1, ps2, ps3]
    refine tkS 21 hHeld ?_
    try simp only [Act.put, ps1, ps2, ps3]
    refine tkS 22 hHeld ?_
    try simp only [Act.put, ps1, ps2, ps3]
    refine tkS 23 hHeld ?_
    try simp only [Act.put, ps1, ps2, ps3]
    refine tkS 24 hHeld ?_
    try simp only [Act.put, ps1, ps2, ps3]
    refine tkS 25 hHeld ?_
    try simp only [Act.put, ps1, ps2, ps3]
    refine tkS 26 hHeld ?_
    try simp only [Act.put, ps1, ps2, ps3]
    refine tkS 27 hHeld ?_
    try simp only [Act.put, ps1, ps2, ps3]
    refine tkS 28 hHeld ?_
    try simp only [Act.put, ps1, ps2, ps3]
    refine tkS 29 hHeld ?_
    try simp only [Act.put, ps1, ps2, ps3]
    refine tkS 30 hHeld ?_
    try simp only [Act.put, ps1, ps2, ps3]
    refine tkS 31 hHeld ?_
    try simp only [Act.put, ps1, ps2, ps3]
    refine wpAnyH_ready (rs := [32]) (by kernel_rfl) (by simp) (AllReadyH.cons (by simp only [List.getElem?_toArray, List.getElem?_cons_succ, List.getElem?_cons_zero]; exact rfl) (fun K hK => ?_) AllReadyH.nil)
    rw [if_pos (by rfl)]
    go_simp
    refine (KL.out _).mono ?_; rintro e wl ⟨rfl, rfl⟩; go_wp2_with fail
    refine hK.out _ _ (hHeld) (fun hHeld => ?_)
    clear hK K
    try simp only [Act.put, ps1, ps2, ps3]
    refine tkS 33 hHeld ?_
    try simp only [Act.put, ps1, ps2, ps3]
    refine tkS 34 hHeld ?_
    try simp only [Act.put, ps1, ps2, ps3]
    refine tkS 35 hHeld ?_
    try simp only [Act.put, ps1, ps2, ps3]
    refine tkS 36 hHeld ?_
    try simp only [Act.put, ps1, ps2, ps3]
    refine tkS 37 hHeld ?_
    try simp only [Act.put, ps1, ps2, ps3]
    refine tkS 38 hHeld ?_
    try simp only [Act.put, ps1, ps2, ps3]
    refine tkS 39 hHeld ?_
    try simp only [Act.put, ps1, ps2, ps3]
    refine tkS 40 hHeld ?_
    try simp only [Act.put, ps1, ps2, ps3]
    refine tkS 41 hHeld ?_
    try simp only [Act.put, ps1, ps2, ps3]
    refine tkS 42 hHeld ?_
    try simp only [Act.put, ps1, ps2, ps3]
    refine tkS 43 hHeld ?_
    try simp only [Act.put, ps1, ps2, ps3]
    refine tkS 44 hHeld ?_
    try simp only [Act.put, ps1, ps2, ps3]
    refine tkS 45 hHeld ?_
    try simp only [Act.put, ps1, ps2, ps3]
    refine tkS 46 hHeld ?_
    try simp only [Act.put, ps1, ps2, ps3]
    refine tkS 47 hHeld ?_
    try simp only [Act.put, ps1, ps2, ps3]
    refine tkS 48 hHeld ?_
    try simp only [Act.put, ps1, ps2, ps3]
    refine tkS 49 hHeld ?_
    try simp only [Act.put, ps1, ps2, ps3]
    refine tkS 50 hHeld ?_
    try simp only [Act.put, ps1, ps2, ps3]
    refine tkS 51 hHeld ?_
    try simp only [Act.put, ps1, ps2, ps3]
    refine tkS 52 hHeld ?_
    try simp only [Act.put, ps1, ps2, ps3]
    refine tkS 53 hHeld ?_
    try simp only [Act.put, ps1, ps2, ps3]
    refine tkS 54 hHeld ?_
    try simp only [Act.put, ps1, ps2, ps3]
    refine tkS 55 hHeld ?_
    try simp only [Act.put, ps1, ps2, ps3]
    refine wpAnyH_done (by kernel_rfl) ?_ _
    clear hHeld
    go_wp2
    go_ret2
    exact ⟨by rw [← HR.out]; rfl, HBT.out.drewN 1⟩
  have t7 : decide (m.second > 59) = false := by simpa using q7
  have hRt : R = if (dahead Y + m.day - 1 + dmons Y (m.month.toNat - 1)) % 7 ≠ m.wd then (0, false) else ((dahead Y + m.day - 1 + dmons Y (m.month.toNat - 1)) * 86400 + m.hour * 3600 + m.minute * 60 + m.second, true) := by
    rw [← HR0.out]; unfold dtick; rw [HY.out, if_neg (by omega)]
  have HRT := Lib.hid hRt
  clear hRt
  go_wp2
  refine wp_region_held_drew (S := (fun w' => w'.cell? ⟨mb, 1, none⟩ = some (.int .i64 m.day) ∧ w'.cell? ⟨mb, 2, none⟩ = some (.int .i64 m.month) ∧ w'.cell? ⟨mb, 3, none⟩ = some (.int .i64 Y) ∧ w'.cell? ⟨mb, 4, none⟩ = some (.int .i64 m.hour) ∧ w'.cell? ⟨mb, 5, none⟩ = some (.int .i64 m.minute) ∧ w'.cell? ⟨mb, 6, none⟩ = some (.int .i64 m.second))) (by kernel_rfl) (⟨c1, c2, c3, c4, c5, c6⟩) (fun hHeld => ?_)
  refine tkS 0 hHeld ?_
  try simp only [Act.put, ps1, ps2, ps3]
  refine tkS 1 hHeld ?_
  try simp only [Act.put, ps1, ps2, ps3]
  refine tkS 2 hHeld ?_
  try simp only [Act.put, ps1, ps2, ps3]
  refine tkS 3 hHeld ?_
  try simp only [Act.put, ps1, ps2, ps3]
  refine tkS 4 hHeld ?_
  try simp only [Act.put, ps1, ps2, ps3]
  refine tkS 5 hHeld ?_
  try simp only [Act.put, ps1, ps2, ps3]
  refine tkS 6 hHeld ?_
  try simp only [Act.put, ps1, ps2, ps3]
  refine tkS 7 hHeld ?_
  try simp only [Act.put, ps1, ps2, ps3]
  refine tkS 8 hHeld ?_
  try simp only [Act.put, ps1, ps2, ps3]
  refine tkS 9 hHeld ?_
  try simp only [Act.put, ps1, ps2, ps3]
  refine tkS 10 hHeld ?_
  try simp only [Act.put, ps1, ps2, ps3]
  refine tkS 11 hHeld ?_
  try simp only [Act.put, ps1, ps2, ps3]
  refine tkS 12 hHeld ?_
  try simp only [Act.put, ps1, ps2, ps3]
  refine tkS 13 hHeld ?_
  try simp only [Act.put, ps1, ps2, ps3]
  refine tkS 14 hHeld ?_
  try simp only [Act.put, ps1, ps2, ps3]
  refine tkS 15 hHeld ?_
  try simp only [Act.put, ps1, ps2, ps3]
  refine tkS 16 hHeld ?_
  try simp only [Act.put, ps1, ps2, ps3]
  refine tkS 17 hHeld ?_
  try simp only [Act.put, ps1, ps2, ps3]
  refine tkS 18 hHeld ?_
  try simp only [Act.put, ps1, ps2, ps3]
  refine tkS 19 hHeld ?_
  try simp only [Act.put, ps1, ps2, ps3]
  refine tkS 20 hHeld ?_
  try simp only [Act.put, ps1, ps2, ps3]
  refine tkS 21 hHeld ?_
  try simp only [Act.put, ps1, ps2, ps3]
  refine tkS 22 hHeld ?_
  try simp only [Act.put, ps1, ps2, ps3]
  refine tkS 23 hHeld ?_
  try simp only [Act.put, ps1, ps2, ps3]
  refine tkS 24 hHeld ?_
  try simp only [Act.put, ps1, ps2, ps3]
  refine tkS 25 hHeld ?_
  try simp only [Act.put, ps1, ps2, ps3]
  refine tkS 26 hHeld ?_
  try simp only [Act.put, ps1, ps2, ps3]
  refine tkS 27 hHeld ?_
  try simp only [Act.put, ps1, ps2, ps3]
  refine tkS 28 hHeld ?_
  try simp only [Act.put, ps1, ps2, ps3]
  refine tkS 29 hHeld ?_
  try simp only [Act.put, ps1, ps2, ps3]
  refine tkS 30 hHeld ?_
  try simp only [Act.put, ps1, ps2, ps3]
  refine tkS 31 hHeld ?_
  try simp only [Act.put, ps1, ps2, ps3]
  refine wpAnyH_ready (rs := [32]) (by kernel_rfl) (by simp) (AllReadyH.cons (by simp only [List.getElem?_toArray, List.getElem?_cons_succ, List.getElem?_cons_zero]; exact rfl) (fun K hK => ?_) AllReadyH.nil)
  rw [if_pos (by rfl)]
  go_simp
  refine (KL.out _).mono ?_; rintro e wl ⟨rfl, rfl⟩; go_wp2_with fail
  refine hK.out _ _ (hHeld) (fun hHeld => ?_)
  clear hK K
  try simp only [Act.put, ps1, ps2, ps3]
  refine tkS 33 hHeld ?_
  try simp only [Act.put, ps1, ps2, ps3]
  refine tkS 34 hHeld ?_
  try simp only [Act.put, ps1, ps2, ps3]
  refine tkS 35 hHeld ?_
  try simp only [Act.put, ps1, ps2, ps3]
  refine tkS 36 hHeld ?_
  try simp only [Act.put, ps1, ps2, ps3]
  refine tkS 37 hHeld ?_
  try simp only [Act.put, ps1, ps2, ps3]
  refine tkS 38 hHeld ?_
  try simp only [Act.put, ps1, ps2, ps3]
  refine tkS 39 hHeld ?_
  try simp only [Act.put, ps1, ps2, ps3]
  refine tkS 40 hHeld ?_
  try simp only [Act.put, ps1, ps2, ps3]
  refine tkS 41 hHeld ?_
  try simp only [Act.put, ps1, ps2, ps3]
  refine tkS 42 hHeld ?_
  try simp only [Act.put, ps1, ps2, ps3]
  refine tkS 43 hHeld ?_
  try simp only [Act.put, ps1, ps2, ps3]
  refine tkS 44 hHeld ?_
  try simp only [Act.put, ps1, ps2, ps3]
  refine tkS 45 hHeld ?_
  try simp only [Act.put, ps1, ps2, ps3]
  refine tkS 46 hHeld ?_
  try simp only [Act.put, ps1, ps2, ps3]
  refine tkS 47 hHeld ?_
  try simp only [Act.put, ps1, ps2, ps3]
  refine tkS 48 hHeld ?_
  try simp only [Act.put, ps1, ps2, ps3]
  refine tkS 49 hHeld ?_
  try simp only [Act.put, ps1, ps2, ps3]
  refine tkS 50 hHeld ?_
  try simp only [Act.put, ps1, ps2, ps3]
  refine tkS 51 hHeld ?_
  try simp only [Act.put, ps1, ps2, ps3]
  refine tkS 52 hHeld ?_
  try simp only [Act.put, ps1, ps2, ps3]
  refine tkS 53 hHeld ?_
  try simp only [Act.put, ps1, ps2, ps3]
  refine tkS 54 hHeld ?_
  try simp only [Act.put, ps1, ps2, ps3]
  refine tkS 55 hHeld ?_
  try simp only [Act.put, ps1, ps2, ps3]
  refine wpAnyH_done (by kernel_rfl) ?_ _
  clear hHeld
  have ka := fun w' => dahead_any Y (by omega) w'
  have hab := dahead_ge Y (by omega)
  have KA := Lib.hid ka
  clear ka
  obtain ⟨AH, hAH⟩ : ∃ AH, dahead Y = AH := ⟨_, rfl⟩
  rw [hAH] at KA hab
  have HAH := Lib.hid hAH
  clear hAH
  have v1 : IntKind.i64.wrap (AH + m.day) = AH + m.day := by rw [IntKind.wrap_i64]; omega
  have v2 : IntKind.i64.wrap (AH + m.day - 1) = AH + m.day - 1 := by rw [IntKind.wrap_i64]; omega
  go_wp2_with fail
  refine wp_region_held_drew (S := (fun w' => w'.cell? ⟨mb, 0, none⟩ = some (.int .i64 m.wd) ∧ w'.cell? ⟨mb, 1, none⟩ = some (.int .i64 m.day) ∧ w'.cell? ⟨mb, 2, none⟩ = some (.int .i64 m.month) ∧ w'.cell? ⟨mb, 3, none⟩ = some (.int .i64 Y) ∧ w'.cell? ⟨mb, 4, none⟩ = some (.int .i64 m.hour) ∧ w'.cell? ⟨mb, 5, none⟩ = some (.int .i64 m.minute) ∧ w'.cell? ⟨mb, 6, none⟩ = some (.int .i64 m.second))) (by kernel_rfl) (⟨c0, c1, c2, c3, c4, c5, c6⟩) (fun hHeld => ?_)
  refine tkS 0 hHeld ?_
  try simp only [Act.put, ps1, ps2, ps3]
  refine tkS 1 hHeld ?_
  try simp only [Act.put, ps1, ps2, ps3]
  refine tkS 2 hHeld ?_
  try simp only [Act.put, ps1, ps2, ps3]
  refine tkS 3 hHeld ?_
  try simp only [Act.put, ps1, ps2, ps3]
  refine tkS 5 hHeld ?_
  try simp only [Act.put, ps1, ps2, ps3]
  refine tkS 6 hHeld ?_
  try simp only [Act.put, ps1, ps2, ps3]
  refine tkS 7 hHeld ?_
  try simp only [Act.put, ps1, ps2, ps3]
  refine tkS 8 hHeld ?_
  try simp only [Act.put, ps1, ps2, ps3]
  refine wpAnyH_ready (rs := [4]) (by kernel_rfl) (by simp) (AllReadyH.cons (by simp only [List.getElem?_toArray, List.getElem?_cons_succ, List.getElem?_cons_zero]; exact rfl) (fun K hK => ?_) AllReadyH.nil)
  rw [if_pos (by rfl)]
  go_simp
  refine (KA.out _).mono ?_; rintro e wl ⟨rfl, rfl⟩; go_wp2_with fail
  refine hK.out _ _ (hHeld) (fun hHeld => ?_)
  clear hK K
  try simp only [Act.put, ps1, ps2, ps3]
  refine tkS 9 hHeld ?_
  try simp only [Act.put, ps1, ps2, ps3]
  refine tkS 10 hHeld ?_
  try simp only [Act.put, ps1, ps2, ps3]
  refine tkS 11 hHeld ?_
  try simp only [Act.put, ps1, ps2, ps3]
  refine wpAnyH_done (by kernel_rfl) ?_ _
  clear hHeld
  go_wp2_with fail
  go_loopw [9, 10] (fun d k wr => ∃ j : Nat, k = .int .i64 ((j : Int) + 1) ∧ j ≤ m.month.toNat - 1 ∧ d = .int .i64 (AH + m.day - 1 + dmons Y j) ∧ ∃ q, wr = WZ.drewN q) (fun _ k _ => 20 - (intD k).toNat)
  case atStart => exact ⟨0, rfl, Nat.zero_le _, by simp [dmons], 2, rfl⟩
  case round =>
    obtain ⟨j, rfl, hj, rfl, q, rfl⟩ := hrel
    have hdm := dmons_le Y j
    have hj12 : j ≤ 12 := by omega
    by_cases hjm : (j : Int) + 1 < m.month
    · have t8 : decide ((j : Int) + 1 < m.month) = true := by simpa using hjm
      have kj := dlong_any Y ((j : Int) + 1) hYb (WZ.drewN q)
      have hjl := dlong_le Y ((j : Int) + 1)
      have hdn : dmons Y (j + 1) = dmons Y j + dlong Y ((j : Int) + 1) := rfl
      have u1 : IntKind.i64.wrap (AH + m.day - 1 + dmons Y j + dlong Y ((j : Int) + 1)) = AH + m.day - 1 + dmons Y j + dlong Y ((j : Int) + 1) := by rw [IntKind.wrap_i64]; omega
      have u2 : IntKind.i64.wrap ((j : Int) + 1 + 1) = (j : Int) + 1 + 1 := by rw [IntKind.wrap_i64]; omega
      have KJ := Lib.hid kj; have HDN := Lib.hid hdn
      clear kj hdn
      go_wp2_with fail
      (with_reducible refine KJ.out.mono ?_)
      rintro e wl ⟨rfl, rfl⟩
      go_wp2
      go_roundw
      case rel => exact ⟨j + 1, rfl, by omega, by rw [HDN.out, ← Int.add_assoc], q, rfl⟩
      case measure => simp [intD]; omega
    · have t8 : decide ((j : Int) + 1 < m.month) = false := by simpa using hjm
      have hje : j = m.month.toNat - 1 := by omega
      obtain ⟨D, hD⟩ : ∃ D, AH + m.day - 1 + dmons Y j = D := ⟨_, rfl⟩
      have hDb : 0 ≤ D ∧ D ≤ 10000000 := by omega
      have hRD : R = if D % 7 ≠ m.wd then (0, false) else (D * 86400 + m.hour * 3600 + m.minute * 60 + m.second, true) := by
        rw [HRT.out, HAH.out, ← hje, hD]
      have em : D.tmod 7 = D % 7 := Int.tmod_eq_emod_of_nonneg hDb.1
      rw [hD]
      have HRD := Lib.hid hRD
      have HBE : Hid (ButB mb wy (WZ.drewN q)) := Lib.hid (HBT.out.drewN q)
      clear hje hRD hD hdm hj HRT
      by_cases hwd : D % 7 = m.wd
      · have hR2 : R = (D * 86400 + m.hour * 3600 + m.minute * 60 + m.second, true) := by rw [HRD.out, if_neg (by simpa using hwd)]
        have b1 : (D % 7 == m.wd) = true := by simpa using hwd
        have x1 : IntKind.i64.wrap (D * 86400) = D * 86400 := by rw [IntKind.wrap_i64]; omega
        have x2 : IntKind.i64.wrap (m.hour * 3600) = m.hour * 3600 := by rw [IntKind.wrap_i64]; omega
        have x3 : IntKind.i64.wrap (D * 86400 + m.hour * 3600) = D * 86400 + m.hour * 3600 := by rw [IntKind.wrap_i64]; omega
        have x4 : IntKind.i64.wrap (m.minute * 60) = m.minute * 60 := by rw [IntKind.wrap_i64]; omega
        have x5 : IntKind.i64.wrap (D * 86400 + m.hour * 3600 + m.minute * 60) = D * 86400 + m.hour * 3600 + m.minute * 60 := by rw [IntKind.wrap_i64]; omega
        have x6 : IntKind.i64.wrap (D * 86400 + m.hour * 3600 + m.minute * 60 + m.second) = D * 86400 + m.hour * 3600 + m.minute * 60 + m.second := by rw [IntKind.wrap_i64]; omega
        have HR2 := Lib.hid hR2
        clear hR2
        go_wp2
        go_region
        go_wp2
        go_ret2
        exact ⟨by rw [HR2.out]; rfl, HBE.out.drewN 1⟩
      · have hR2 : R = (0, false) := by rw [HRD.out, if_pos hwd]
        have b1 : (D % 7 == m.wd) = false := by simpa using hwd
        have HR2 := Lib.hid hR2
        clear hR2
        go_wp2
        go_ret2
        exact ⟨by rw [HR2.out]; rfl, HBE.out⟩
end Go.Proofs.YtcgdcbnhpbokfaaGreatDoor
/- Dates: all pieces; a text's letters one by one; what a date's pieces can be. -/
namespace Go.Proofs.YtcgdcbnhpbokfaaGreatDoor
open Go.RowKit
set_option maxRecDepth 100000

def dletters : List Nat := [119, 87, 68, 69, 109, 89, 121, 72, 73, 83, 44, 32, 58, 71, 77, 84, 45]
theorem dtake_any (c : Nat) (hc : c ∈ dletters) (mb : Nat) (m : Mom) (s : ByteArray) (w : World) (hE : DEnv w) (hm : MomAt mb m w) :
    Calls Tryz.prog 146 #[.pointer (some ⟨mb, 0, none⟩), .int .i32 c, .string s] w fun e w' => e = .returned (.tuple #[.string ⟨(dtake m c s.data.toList).2.1.toArray⟩, .bool (dtake m c s.data.toList).2.2]) ∧ ButB mb w w' ∧ MomAt mb (dtake m c s.data.toList).1 w' := by
  unfold dletters at hc
  simp only [List.mem_cons, List.not_mem_nil, or_false] at hc
  rcases hc with rfl | rfl | rfl | rfl | rfl | rfl | rfl | rfl | rfl | rfl | rfl | rfl | rfl | rfl | rfl | rfl | rfl
  · exact dtake119_any mb m s w hE hm
  · exact dtake87_any mb m s w hE hm
  · exact dtake68_any mb m s w hE hm
  · exact dtake69_any mb m s w hE hm
  · exact dtake109_any mb m s w hE hm
  · exact dtake89_any mb m s w hE hm
  · exact dtake121_any mb m s w hE hm
  · exact dtake72_any mb m s w hE hm
  · exact dtake73_any mb m s w hE hm
  · exact dtake83_any mb m s w hE hm
  · exact dtake44_any mb m s w hE hm
  · exact dtake32_any mb m s w hE hm
  · exact dtake58_any mb m s w hE hm
  · exact dtake71_any mb m s w hE hm
  · exact dtake77_any mb m s w hE hm
  · exact dtake84_any mb m s w hE hm
  · exact dtake45_any mb m s w hE hm
/-- The iterator of a text, wherever it lies. -/
def stepI (w : World) (ib : Nat) (s : ByteArray) (p : Nat) : World := { w with heap := w.heap.setIfInBounds ib (.stringIter s p) }
theorem run_next_at {P : Program} (w : World) (ib : Nat) (s : ByteArray) (pos : Nat) (ty : TypeId) (hi : w.heap[ib]? = some (.stringIter s pos)) (h : pos < s.size) (ha : (s[pos]'h).toNat < 128) :
    (Instr.next (.pointer (some ⟨ib, 0, none⟩)) true ty).run P w = .ok (.tuple #[.bool true, .int .i64 pos, .int .i32 (s[pos]'h).toNat]) (stepI w ib s (pos + 1)) := by
  simp only [Instr.next, getObj, setObj, Sem.run_bind, Sem.run, hi, Result.andThen, h, if_true, decode_ascii s pos h ha]
  have hl : ib < w.heap.size := by
    rcases Nat.lt_or_ge ib w.heap.size with h' | h'
    · exact h'
    · simp [Array.getElem?_eq_none h'] at hi
  simp [goInt, stepI]
theorem run_next_stop {P : Program} (w : World) (ib : Nat) (s : ByteArray) (pos : Nat) (ty : TypeId) (hi : w.heap[ib]? = some (.stringIter s pos)) (h : ¬ pos < s.size) :
    (Instr.next (.pointer (some ⟨ib, 0, none⟩)) true ty).run P w = .ok (.tuple #[.bool false]) w := by
  simp [Instr.next, getObj, Sem.run, hi, h]
theorem stepI_same {w : World} {ib p : Nat} {s : ByteArray} (h : ib < w.heap.size) : (stepI w ib s p).heap[ib]? = some (.stringIter s p) := by
  unfold stepI; simp [h]
theorem stepI_other {w : World} {ib p b : Nat} {s : ByteArray} (h : b ≠ ib) : (stepI w ib s p).heap[b]? = w.heap[b]? := by
  unfold stepI; simp [Array.getElem?_setIfInBounds]; intro e; exact absurd e.symm h
theorem stepI_but (w : World) (ib p : Nat) (s : ByteArray) : ButB ib w (stepI w ib s p) := ⟨rfl, rfl, rfl, by simp [stepI], fun _ _ hn => stepI_other hn⟩

theorem dnum4 (l : List UInt8) (h : l.all dg = true) (n : Nat) (hn : l.length ≤ n) (h4 : n = 1 ∨ n = 2 ∨ n = 4) : 0 ≤ dnum l 0 ∧ dnum l 0 ≤ 9999 ∧ (n ≤ 2 → dnum l 0 ≤ 99) := by
  have hb := dnum_le l h 0 (by omega)
  generalize hL : l.length = L at *
  have : L = 0 ∨ L = 1 ∨ L = 2 ∨ L = 3 ∨ L = 4 := by omega
  rcases this with rfl | rfl | rfl | rfl | rfl <;> simp at hb <;> omega
theorem dnumL_le (s : List UInt8) (n : Nat) (h4 : n = 1 ∨ n = 2 ∨ n = 4) : 0 ≤ (dnumL s n).1 ∧ (dnumL s n).1 ≤ 9999 ∧ (n ≤ 2 → (dnumL s n).1 ≤ 99) := by
  unfold dnumL
  cases decide (s.length < n)
  · cases hd : (s.take n).all dg
    · simp
    · simp only [cond_false, cond_true]
      exact dnum4 (s.take n) hd n (by rw [List.length_take]; omega) h4
  · simp
theorem dname_le (s : List UInt8) (n : Nat) : ∀ (ls : List (List UInt8)) (i : Nat), i + ls.length ≤ 7 → 0 ≤ (dname s n ls i).1 ∧ (dname s n ls i).1 ≤ 6
  | [], i, h => by simp [dname]
  | x :: r, i, h => by
    have ih := dname_le s n r (i + 1) (by rw [List.length_cons] at h; omega)
    rw [dname]
    cases Lib.hasPrefix s (bif decide (0 < n) then x.take n else x)
    · exact ih
    · simp only [cond_true]
      rw [List.length_cons] at h
      omega
theorem dtake_ok {m : Mom} (h : MomOk m) (c : Nat) (hc : c ∈ dletters) (s : List UInt8) (h2 : c = 89 → m.two = false) : MomOk (dtake m c s).1 ∧ (c ≠ 121 → (dtake m c s).1.two = m.two) := by
  have n1 := dnumL_le (s.drop 1) 1 (by omega)
  have n2 := dnumL_le s 2 (by omega)
  have n4 := dnumL_le s 4 (by omega)
  have d0 := dname_le s 0 ddays 0 (by decide)
  have d3 := dname_le s 3 ddays 0 (by decide)
  have hx := dindex_range dmonths (s.take 3)
  have hml : dmonths.length = 36 := rfl
  rw [hml] at hx
  obtain ⟨a1, a2, a3, a4, a5, a6, a7, a8⟩ := h
  unfold dletters at hc
  simp only [List.mem_cons, List.not_mem_nil, or_false] at hc
  unfold dtake
  rcases hc with rfl | rfl | rfl | rfl | rfl | rfl | rfl | rfl | rfl | rfl | rfl | rfl | rfl | rfl | rfl | rfl | rfl
  all_goals simp only [Nat.reduceEqDiff, if_true, if_false]
  · exact ⟨⟨by simp only; omega, a2, a3, a4, a5, a6, a7, a8⟩, fun _ => by first | rfl | trivial⟩
  · exact ⟨⟨by simp only; omega, a2, a3, a4, a5, a6, a7, a8⟩, fun _ => by first | rfl | trivial⟩
  · exact ⟨⟨a1, by simp only; omega, a3, a4, a5, a6, a7, a8⟩, fun _ => by first | rfl | trivial⟩
  · split
    · exact ⟨⟨a1, by simp only; omega, a3, a4, a5, a6, a7, a8⟩, fun _ => by first | rfl | trivial⟩
    · exact ⟨⟨a1, by simp only; omega, a3, a4, a5, a6, a7, a8⟩, fun _ => by first | rfl | trivial⟩
  · split
    · exact ⟨⟨a1, a2, a3, a4, a5, a6, a7, a8⟩, fun _ => by first | rfl | trivial⟩
    · exact ⟨⟨a1, a2, by simp only; omega, a4, a5, a6, a7, a8⟩, fun _ => by first | rfl | trivial⟩
  · exact ⟨⟨a1, a2, a3, by simp only; omega, a5, a6, a7, fun h => by rw [h2 rfl] at h; cases h⟩, fun _ => by first | rfl | trivial⟩
  · exact ⟨⟨a1, a2, a3, by simp only; omega, a5, a6, a7, fun _ => by simp only; omega⟩, fun h => by first | exact absurd rfl h | simp at h⟩
  · exact ⟨⟨a1, a2, a3, a4, by simp only; omega, a6, a7, a8⟩, fun _ => by first | rfl | trivial⟩
  · exact ⟨⟨a1, a2, a3, a4, a5, by simp only; omega, a7, a8⟩, fun _ => by first | rfl | trivial⟩
  · exact ⟨⟨a1, a2, a3, a4, a5, a6, by simp only; omega, a8⟩, fun _ => by first | rfl | trivial⟩
  all_goals
    split <;> exact ⟨⟨a1, a2, a3, a4, a5, a6, a7, a8⟩, fun _ => by first | rfl | trivial⟩
end Go.Proofs.YtcgdcbnhpbokfaaGreatDoor
/- Dates: the walk of date.Parse. -/
namespace Go.Proofs.YtcgdcbnhpbokfaaGreatDoor
open Go.RowKit
set_option maxRecDepth 100000

def dfs : List (List UInt8) := [dform0, dform1, dform2]
theorem dtick_any (mb : Nat) (m : Mom) (now : Int) (w : World) (hm : MomAt mb m w) (ho : MomOk m) :
    Calls Tryz.prog 147 #[.pointer (some ⟨mb, 0, none⟩), .int .i64 now] w (TickPost mb w (dtick m now)) := by
  cases h : m.two
  · exact dtick_one mb m now w hm ho h
  · exact dtick_two mb m now w hm ho h
/-- A form's letters. -/
def FormOk (f : List UInt8) : Prop := (∀ c ∈ f, c.toNat ∈ dletters) ∧ ((∃ c ∈ f, c.toNat = 89) → ∀ c ∈ f, c.toNat ≠ 121)
theorem dfs_ok : ∀ f ∈ dfs, FormOk f := by
  have h1 : (dfs.all fun f => (f.all fun c => dletters.contains c.toNat) && (!(f.any fun c => c.toNat == 89) || f.all fun c => c.toNat != 121)) = true := by decide +kernel
  intro f hf
  have h2 := List.all_eq_true.1 h1 f hf
  rw [Bool.and_eq_true] at h2
  refine ⟨fun c hc => by simpa using List.all_eq_true.1 h2.1 c hc, fun ⟨c, hc, h89⟩ c' hc' => ?_⟩
  have hany : (f.any fun c => c.toNat == 89) = true := List.any_eq_true.2 ⟨c, hc, by simpa using h89⟩
  rw [hany] at h2
  have h3 := h2.2
  simp only [Bool.not_true, Bool.false_or] at h3
  simpa using List.all_eq_true.1 h3 c' hc'
theorem dpieces_ok : ∀ (f : List UInt8) (m : Mom) (s : List UInt8) (m' : Mom) (r : List UInt8), (∀ c ∈ f, c.toNat ∈ dletters) → ((∃ c ∈ f, c.toNat = 89) → m.two = false ∧ ∀ c ∈ f, c.toNat ≠ 121) → MomOk m → dpieces f m s = some (m', r) → MomOk m'
  | [], m, s, m', r, _, _, h, e => by
    rw [dpieces] at e
    cases e
    exact h
  | c :: f, m, s, m', r, hl, hy, h, e => by
    rw [dpieces] at e
    have hk := dtake_ok h c.toNat (hl c (by simp)) s (fun h89 => (hy ⟨c, by simp, h89⟩).1)
    cases hs : (dtake m c.toNat s).2.2
    · rw [hs] at e; cases e
    · rw [hs] at e
      refine dpieces_ok f _ _ m' r (fun c' hc' => hl c' (by simp [hc'])) (fun ⟨c', hc', h89⟩ => ?_) hk.1 e
      have h2 := hy ⟨c', by simp [hc'], h89⟩
      have hne : c.toNat ≠ 121 := h2.2 c (by simp)
      exact ⟨(hk.2 hne).trans h2.1, fun c'' hc'' => h2.2 c'' (by simp [hc''])⟩
theorem mom0_ok : MomOk mom0 := ⟨by decide, by decide, by decide, by decide, by decide, by decide, by decide, by intro h; cases h⟩
theorem dforms_any (w : World) :
    Calls Tryz.prog 145 #[] w fun e w' => e = .returned (.slice (some ⟨w.heap.size, 0, none⟩) 3 3) ∧ Rd (some ⟨w.heap.size, 0, none⟩) 3 1 (strsV dfs) w' ∧ Below w.heap.size w w' := by
  go_enter Tryz.func145, Tryz.ntmps145
  go_wp2
  go_ret
  refine ⟨rfl, ⟨rfl, fun _ => ⟨_, 0, rfl, by simp, fun j u hu => ?_⟩⟩, (Below.refl _ w).alloc (Nat.le_refl _) _⟩
  rw [Nat.zero_add, World.cell?_alloc_mark]
  simpa [strsV, dfs, dform0, dform1, dform2] using hu
/-- Where a text's iterator stands. -/
def posI (w : World) (ib : Nat) : Nat := match w.heap[ib]? with
  | some (.stringIter _ p) => p
  | _ => 0
theorem posI_of {w : World} {ib p : Nat} {s : ByteArray} (h : w.heap[ib]? = some (.stringIter s p)) : posI w ib = p := by
  unfold posI; rw [h]
theorem dparse_none {s f : List UInt8} {now : Int} {r : List (List UInt8)} (h : dpieces f mom0 s = none) : dparse s now (f :: r) = dparse s now r := by
  rw [dparse, h]
theorem dparse_more {s f : List UInt8} {now : Int} {r : List (List UInt8)} {m : Mom} {c : UInt8} {t : List UInt8} (h : dpieces f mom0 s = some (m, c :: t)) : dparse s now (f :: r) = dparse s now r := by
  rw [dparse, h]
theorem dparse_end {s f : List UInt8} {now : Int} {r : List (List UInt8)} {m : Mom} (h : dpieces f mom0 s = some (m, [])) : dparse s now (f :: r) = if (dtick m now).2 = true then ((dtick m now).1, 0) else dparse s now r := by
  rw [dparse, h]
set_option maxHeartbeats 16000000 in
theorem dparse_any (s : ByteArray) (now : Int) (w : World) (hE : DEnv w) :
    Calls Tryz.prog 96 #[.string s, .int .i64 now] w fun e w' => e = .returned (.tuple #[.int .i64 (dateP s.data.toList now).1, .int .i64 (dateP s.data.toList now).2]) ∧ Below w.heap.size w w' := by
  obtain ⟨R, hR⟩ : ∃ R, dateP s.data.toList now = R := ⟨_, rfl⟩
  rw [hR]
  have hR0 : dparse s.data.toList now dfs = R := hR
  have hok := dfs_ok
  have hl3 : dfs.length = 3 := rfl
  have kf := dforms_any w
  obtain ⟨y, rfl⟩ : ∃ y : List UInt8, s = ⟨y.toArray⟩ := ⟨s.data.toList, (str_of s).symm⟩
  have ey : (⟨y.toArray⟩ : ByteArray).data.toList = y := by simp
  rw [ey] at hR0
  have HR0 := Lib.hid hR0; have HOK := Lib.hid hok; have HL3 := Lib.hid hl3; have KF := Lib.hid kf; have HE := Lib.hid hE
  clear hR hR0 hok hl3 kf hE ey
  generalize dfs = ls at *
  go_enter Tryz.func96, Tryz.ntmps96
  go_wp2_with fail
  go_step3
  go_wp2_with fail
  go_step3
  go_wp2_with fail
  (with_reducible refine KF.out.mono ?_)
  rintro e W1 ⟨rfl, hrd, hb1⟩
  have HE1 := Lib.hid (HE.out.below hb1)
  have HRD := Lib.hid hrd
  have hlow : w.heap.size < W1.heap.size := by
    obtain ⟨b, o, e, hl, _⟩ := hrd.2 (by decide)
    cases e; exact hl
  clear hrd KF
  go_wp2_with fail
  go_loopw [18] (fun i wr => ∃ k : Nat, k ≤ 3 ∧ i = .int .i64 k ∧ Below W1.heap.size W1 wr ∧ Hid (dparse y now (ls.drop k) = R)) (fun i _ => 3 - (intD i).toNat)
  case atStart => exact ⟨0, Nat.zero_le _, rfl, Below.refl _ _, HR0⟩
  case round =>
    obtain ⟨k, hk, rfl, hbr, HP⟩ := hrel
    by_cases hk3 : k < 3
    · have hkl : k < ls.length := by rw [HL3.out]; exact hk3
      obtain ⟨b', o', e, _, d0⟩ := (HRD.out.below hbr).str_at hkl
      cases e
      have hfo := HOK.out ls[k] (List.getElem_mem hkl)
      have hdr : ls.drop k = ls[k] :: ls.drop (k + 1) := List.drop_eq_getElem_cons hkl
      have hP := HP.out
      rw [hdr] at hP
      generalize ls[k] = f at *
      obtain ⟨fo, rfl⟩ : ∃ fo : ByteArray, f = fo.data.toList := ⟨⟨f.toArray⟩, by simp⟩
      rw [str_of, Nat.zero_add] at d0
      have HP2 := Lib.hid hP
      have HFO := Lib.hid hfo
      have i2 : IntKind.i64.wrap ((k : Int) + 1) = ((k + 1 : Nat) : Int) := by rw [IntKind.wrap_i64]; omega
      have i3 : IntKind.i64.wrap (k : Int) = k := by rw [IntKind.wrap_i64]; omega
      have t0 : decide ((k : Int) < 3) = true := by simp; omega
      clear hP hdr hfo HP hkl
      go_wp2_with fail
      obtain ⟨wo, rfl⟩ : ∃ wo : World, wo = wr := ⟨_, rfl⟩
      have hm0 : MomAt wo.heap.size mom0 ((wo.alloc (.cells #[.int .i64 0, .int .i64 0, .int .i64 0, .int .i64 0, .int .i64 0, .int .i64 0, .int .i64 0, .bool false] 170 (0, 0))).iter fo 0) := by
        unfold MomAt World.iter
        exact (Below.heap_alloc _ _ _ (by simp)).trans (heap_new wo _ _ rfl)
      have hi0 : ((wo.alloc (.cells #[.int .i64 0, .int .i64 0, .int .i64 0, .int .i64 0, .int .i64 0, .int .i64 0, .int .i64 0, .bool false] 170 (0, 0))).iter fo 0).heap[wo.heap.size + 1]? = some (.stringIter fo 0) := by
        have := World.iter_heap (wo.alloc (.cells #[.int .i64 0, .int .i64 0, .int .i64 0, .int .i64 0, .int .i64 0, .int .i64 0, .int .i64 0, .bool false] 170 (0, 0))) fo 0
        rw [show (wo.alloc (.cells #[.int .i64 0, .int .i64 0, .int .i64 0, .int .i64 0, .int .i64 0, .int .i64 0, .int .i64 0, .bool false] 170 (0, 0))).heap.size = wo.heap.size + 1 from by simp] at this
        exact this
      have hb0 : Below W1.heap.size W1 ((wo.alloc (.cells #[.int .i64 0, .int .i64 0, .int .i64 0, .int .i64 0, .int .i64 0, .int .i64 0, .int .i64 0, .bool false] 170 (0, 0))).iter fo 0) := (hbr.alloc hbr.size _).alloc (by simp; have := hbr.size; omega) _
      obtain ⟨W2, hW2⟩ : ∃ W2, (wo.alloc (.cells #[.int .i64 0, .int .i64 0, .int .i64 0, .int .i64 0, .int .i64 0, .int .i64 0, .int .i64 0, .bool false] 170 (0, 0))).iter fo 0 = W2 := ⟨_, rfl⟩
      rw [hW2] at hm0 hi0 hb0 ⊢
      have hmbs : W1.heap.size ≤ wo.heap.size := hbr.size
      obtain ⟨mb, hmb⟩ : ∃ mb, wo.heap.size = mb := ⟨_, rfl⟩
      rw [hmb] at hm0 hi0 hmbs ⊢
      obtain ⟨P0, hP0⟩ : ∃ P0, dpieces fo.data.toList mom0 y = P0 := ⟨_, rfl⟩
      have HP0 := Lib.hid hP0; have HM0 := Lib.hid hm0; have HI0 := Lib.hid hi0; have HB0 := Lib.hid hb0
      clear hP0 hm0 hi0 hb0 hW2 hmb d0 hbr
      go_loopw [9] (fun rv wi => ∃ (p : Nat) (m : Mom) (rest : List UInt8), rv = .string ⟨rest.toArray⟩ ∧ p ≤ fo.size ∧ Hid (MomAt mb m wi) ∧ Hid (wi.heap[mb + 1]? = some (.stringIter fo p)) ∧ Hid (Below W1.heap.size W1 wi) ∧ Hid (dpieces (fo.data.toList.drop p) m rest = P0)) (fun _ wi => fo.size - posI wi (mb + 1))
      case atStart => exact ⟨0, mom0, y, rfl, Nat.zero_le _, HM0, HI0, HB0, HP0⟩
      case round =>
        obtain ⟨p, m, rest, rfl, hp, HM, HI, HB, HD⟩ := hrel
        by_cases hpf : p < fo.size
        · have hdc := drop_cons fo p hpf
          have hcm : fo[p] ∈ fo.data.toList := by rw [at_list fo p hpf]; exact List.getElem_mem _
          have hlet := HFO.out.1 fo[p] hcm
          have hasc : fo[p].toNat < 128 := by
            have hall : ∀ c ∈ dletters, c < 128 := by decide
            exact hall _ hlet
          have hnx : ∀ ty, (Instr.next (.pointer (some ⟨mb + 1, 0, none⟩)) true ty).run Tryz.prog wr = .ok (.tuple #[.bool true, .int .i64 p, .int .i32 (fo[p]'hpf).toNat]) (stepI wr (mb + 1) fo (p + 1)) := fun ty => run_next_at wr (mb + 1) fo p ty HI.out hpf hasc
          have hil : mb + 1 < wr.heap.size := by
            rcases Nat.lt_or_ge (mb + 1) wr.heap.size with h' | h'
            · exact h'
            · have := HI.out; simp [Array.getElem?_eq_none h'] at this
          have hm3 : MomAt mb m (stepI wr (mb + 1) fo (p + 1)) := (stepI_other (by omega)).trans HM.out
          have hi3 : (stepI wr (mb + 1) fo (p + 1)).heap[mb + 1]? = some (.stringIter fo (p + 1)) := stepI_same hil
          have hb3 : Below W1.heap.size W1 (stepI wr (mb + 1) fo (p + 1)) := HB.out.trans ((stepI_but wr (mb + 1) (p + 1) fo).below (by omega) HB.out.size)
          have hD := HD.out
          rw [hdc, dpieces] at hD
          obtain ⟨c, hc⟩ : ∃ c, fo[p].toNat = c := ⟨_, rfl⟩
          rw [hc] at hD hlet hnx
          have hsz3 : (stepI wr (mb + 1) fo (p + 1)).heap.size = wr.heap.size := by simp [stepI]
          obtain ⟨W3, hW3⟩ : ∃ W3, stepI wr (mb + 1) fo (p + 1) = W3 := ⟨_, rfl⟩
          rw [hW3] at hnx hm3 hi3 hb3 hsz3
          have kt := dtake_any c hlet mb m ⟨rest.toArray⟩ W3 (HE1.out.below hb3) hm3
          have er : (⟨rest.toArray⟩ : ByteArray).data.toList = rest := by simp
          rw [er] at kt
          have hpos := posI_of HI.out
          generalize dtake m c rest = r at *
          obtain ⟨m', rest', is⟩ := r
          simp only at kt hD
          have KT := Lib.hid kt; have HI3 := Lib.hid hi3; have HB3 := Lib.hid hb3; have HS3 := Lib.hid hsz3; have HPOS := Lib.hid hpos
          clear kt hm3 hi3 hb3 hsz3 hpos hdc hcm hlet hasc hil er hW3 hc HD HM
          cases is
          · simp only [cond_false] at hD
            have HN := Lib.hid hD
            clear hD
            go_wp2_with fail
            (with_reducible refine KT.out.mono ?_)
            rintro e w4 ⟨rfl, hbt, _⟩
            have hb4 : Below W1.heap.size W1 w4 := HB3.out.trans (hbt.below hmbs HB3.out.size)
            have hRn : dparse y now (ls.drop (k + 1)) = R := (dparse_none (HP0.out.trans HN.out.symm)).symm.trans HP2.out
            have HRN := Lib.hid hRn
            clear hRn hbt
            go_wp2
            go_roundw
            case rel => exact ⟨k + 1, hk3, rfl, hb4, HRN⟩
            case measure => simp [intD]; omega
          · simp only [cond_true] at hD
            have HN := Lib.hid hD
            clear hD
            go_wp2_with fail
            (with_reducible refine KT.out.mono ?_)
            rintro e w4 ⟨rfl, hbt, hm4⟩
            have hil3 : mb + 1 < W3.heap.size := by
              rcases Nat.lt_or_ge (mb + 1) W3.heap.size with h' | h'
              · exact h'
              · have := HI3.out; simp [Array.getElem?_eq_none h'] at this
            have hi4 : w4.heap[mb + 1]? = some (.stringIter fo (p + 1)) := (hbt.2.2.2.2 (mb + 1) hil3 (by omega)).trans HI3.out
            have hb4 : Below W1.heap.size W1 w4 := HB3.out.trans (hbt.below hmbs HB3.out.size)
            have hpos4 := posI_of hi4
            have HM4 := Lib.hid hm4; have HI4 := Lib.hid hi4; have HB4 := Lib.hid hb4; have HPOS4 := Lib.hid hpos4
            clear hm4 hi4 hb4 hpos4 hbt hil3
            go_wp2
            go_roundw
            case rel =>
              exact ⟨p + 1, m', rest', rfl, hpf, HM4, HI4, HB4, HN⟩
            case measure => rw [HPOS4.out, HPOS.out]; omega
        · have hpe : p = fo.size := by omega
          subst hpe
          have hst : ∀ ty, (Instr.next (.pointer (some ⟨mb + 1, 0, none⟩)) true ty).run Tryz.prog wr = .ok (.tuple #[.bool false]) wr := fun ty => run_next_stop wr (mb + 1) fo fo.size ty HI.out hpf
          have hD := HD.out
          rw [drop_all fo fo.size (Nat.le_refl _), dpieces] at hD
          have hPF := HP0.out.trans hD.symm
          cases rest with
          | cons c0 t0 =>
            have hRn : dparse y now (ls.drop (k + 1)) = R := (dparse_more hPF).symm.trans HP2.out
            have HRN := Lib.hid hRn
            have HBB := Lib.hid HB.out
            clear hD hPF hRn HD HM HI
            go_wp2
            go_roundw
            case rel => exact ⟨k + 1, hk3, rfl, HBB.out, HRN⟩
            case measure => simp [intD]; omega
          | nil =>
            have hok := dpieces_ok fo.data.toList mom0 y m [] HFO.out.1 (fun h => ⟨rfl, HFO.out.2 h⟩) mom0_ok hPF
            have kt := dtick_any mb m now wr HM.out hok
            have hRn : (if (dtick m now).2 = true then ((dtick m now).1, 0) else dparse y now (ls.drop (k + 1))) = R := (dparse_end hPF).symm.trans HP2.out
            unfold TickPost at kt
            generalize dtick m now = r at *
            obtain ⟨t, is⟩ := r
            simp only at kt hRn
            have KT := Lib.hid kt; have HRN := Lib.hid hRn; have HBB := Lib.hid HB.out
            clear hD hPF hRn HD HM HI kt hok HB
            cases is
            · go_wp2_with fail
              (with_reducible refine KT.out.mono ?_)
              rintro e w4 ⟨rfl, hbt⟩
              have hb4 : Below W1.heap.size W1 w4 := HBB.out.trans (hbt.below hmbs HBB.out.size)
              have hRm : dparse y now (ls.drop (k + 1)) = R := by have := HRN.out; simpa using this
              have HRM := Lib.hid hRm
              clear hRm hbt
              go_wp2
              go_roundw
              case rel => exact ⟨k + 1, hk3, rfl, hb4, HRM⟩
              case measure => simp [intD]; omega
            · go_wp2_with fail
              (with_reducible refine KT.out.mono ?_)
              rintro e w4 ⟨rfl, hbt⟩
              have hb4 : Below W1.heap.size W1 w4 := HBB.out.trans (hbt.below hmbs HBB.out.size)
              have hRm : (t, 0) = R := by have := HRN.out; simpa using this
              have HRM := Lib.hid (And.intro hRm hb4)
              clear hRm hbt hb4
              go_wp2
              rw [Exit.noGoto_ret]
              go_ret2
              exact ⟨by rw [← HRM.out.1]; rfl, hb1.trans (HRM.out.2.mono (Nat.le_of_lt hlow))⟩
    · have hk2 : k = 3 := by omega
      subst hk2
      have hP := HP.out
      rw [List.drop_eq_nil_of_le (by rw [HL3.out]; exact Nat.le_refl _), dparse] at hP
      have HP2 := Lib.hid hP
      clear hP
      go_wp2
      rw [Exit.noGoto_ret]
      go_ret2
      exact ⟨by rw [← HP2.out]; rfl, hb1.trans (hbr.mono (Nat.le_of_lt hlow))⟩
end Go.Proofs.YtcgdcbnhpbokfaaGreatDoor
/- The walks of layer 2's functions on numbers: the program's. -/
namespace Go.Proofs.YtcgdcbnhpbokfaaGreatDoor
open Go.RowKit

set_option maxHeartbeats 1000000 in
theorem boundU_any (n : Int) (w : World) (h0 : 0 ≤ n) :
    Calls Tryz.prog 108 #[.int .u64 n] w fun e w' => e = .returned (.int .i64 (bnd n)) ∧ w = w' := by
  rcases (by omega : n = 0 ∨ (0 < n ∧ n ≤ 2147483648) ∨ 2147483648 < n) with h | ⟨h, h2⟩ | h
  · subst h
    go_enter Tryz.func108, Tryz.ntmps108
    go_wp2
    all_goals (go_ret; exact ⟨ret_int (by first | rfl | omega), rfl⟩)
  · have Hb := Lib.hid (bnd_in (Int.le_of_lt h) h2)
    go_enter Tryz.func108, Tryz.ntmps108
    go_wp2
    all_goals (go_ret; exact ⟨ret_int (by first | exact Hb.out.symm | (rw [Hb.out]; omega)), rfl⟩)
  · have Hb := Lib.hid (bnd_big h)
    go_enter Tryz.func108, Tryz.ntmps108
    go_wp2
    all_goals (go_ret; exact ⟨ret_int (by first | exact Hb.out.symm | (rw [Hb.out]; omega)), rfl⟩)

set_option maxHeartbeats 1000000 in
theorem of_any (n : Int) (w : World) :
    Calls Tryz.prog 112 #[.int .i64 n] w fun e w' => e = .returned (.int .i64 (bnd n)) ∧ w = w' := by
  go_enter Tryz.func112, Tryz.ntmps112
  go_wp2_with (go_at_call 109; refine (boundI_any _ _).mono ?_; rintro e w' ⟨rfl, rfl⟩)
  go_ret
  exact ⟨rfl, rfl⟩

set_option maxHeartbeats 1000000 in
theorem add_any (a b : Int) (w : World) :
    Calls Tryz.prog 49 #[.int .i64 a, .int .i64 b] w fun e w' => e = .returned (.int .i64 (addB a b)) ∧ w = w' := by
  unfold addB
  have h1 := bnd_lo a; have h2 := bnd_hi a; have h3 := bnd_lo b; have h4 := bnd_hi b
  go_enter Tryz.func49, Tryz.ntmps49
  go_wp2_with (go_at_call 109; refine (boundI_any _ _).mono ?_; rintro e w' ⟨rfl, rfl⟩)
  go_ret
  exact ⟨rfl, rfl⟩


theorem wrapU (a b : Int) (h : a < b) (h' : b - a < 18446744073709551616) : IntKind.u64.wrap (IntKind.u64.wrap b - IntKind.u64.wrap a) = b - a := by
  have e : ∀ x : Int, IntKind.u64.wrap x = x % 18446744073709551616 := fun x => by simp [IntKind.wrap, IntKind.bits, IntKind.signed]
  rw [e, e, e]; omega
set_option maxHeartbeats 1000000 in
theorem since_any (a b : Int) (w : World) (ha : -9223372036854775808 ≤ a) (ha' : a ≤ 9223372036854775807) (hb : -9223372036854775808 ≤ b) (hb' : b ≤ 9223372036854775807) :
    Calls Tryz.prog 48 #[.int .i64 a, .int .i64 b] w fun e w' => e = .returned (.int .i64 (since a b)) ∧ w = w' := by
  unfold since
  by_cases h : b ≤ a
  · have hz : bnd (b - a) = 0 := by
      by_cases e : b - a = 0
      · rw [e]; rfl
      · exact bnd_neg (by omega)
    have Hz := Lib.hid hz; clear hz
    go_enter Tryz.func48, Tryz.ntmps48
    go_wp2
    go_ret
    exact ⟨ret_int (by rw [Hz.out]), rfl⟩
  · go_enter Tryz.func48, Tryz.ntmps48
    go_wp2_with fail
    rw [wrapU a b (by omega) (by omega)]
    refine (boundU_any _ _ (by omega)).mono ?_
    rintro e w' ⟨rfl, rfl⟩
    go_wp2
    go_ret
    exact ⟨rfl, rfl⟩


end Go.Proofs.YtcgdcbnhpbokfaaGreatDoor
/- The walks of layer 13's small functions. -/
namespace Go.Proofs.YtcgdcbnhpbokfaaGreatDoor
open Go.RowKit
set_option maxRecDepth 100000

theorem number_any (s : ByteArray) (w : World) (hs : s.size ≤ 1000000) :
    Calls Tryz.prog 50 #[.string s] w fun e w' => e = .returned (.int .i64 (numF s.data.toList)) ∧ w = w' := by
  have k1 := delta_any s w hs
  rw [numF_tuple] at k1
  have K1 := Lib.hid k1; clear k1
  go_enter Tryz.func50, Tryz.ntmps50
  go_wp2_with fail
  (with_reducible refine K1.out.mono ?_)
  rintro e w1 ⟨rfl, rfl⟩
  go_wp2
  go_ret
  exact ⟨rfl, rfl⟩

set_option maxHeartbeats 4000000 in
theorem control_any (st mi asked got : Int) (re bo : ByteArray) (A V : Option Addr) (n c m d : Nat) (xs : List Fld) (dev : ByteArray) (w : World) (hM : MaxL w) (hr : Rd A n 2 (fldsV xs) w) (hn : n ≤ 1000) (hs : sumF xs ≤ 800000) :
    Calls Tryz.prog 62 #[entV st re mi A n c bo asked got V m d, .string dev] w fun e w' => e = .returned (ctlV (ctlF xs dev.data.toList)) ∧ Below w.heap.size w w' := by
  obtain ⟨W1, hW1⟩ : ∃ W1, w.alloc (.cells #[.int .i64 st, .string re, .int .i64 mi, .slice A n c, .string bo, .int .i64 asked, .int .i64 got, .slice V m d] 30) = W1 := ⟨_, rfl⟩
  have b1 : Below w.heap.size w W1 := by rw [← hW1]; exact (Below.refl w.heap.size w).alloc (Nat.le_refl _) _
  have z1 : W1.heap.size = w.heap.size + 1 := by rw [← hW1]; simp
  have x1 : W1.heap[w.heap.size]? = some (.cells #[.int .i64 st, .string re, .int .i64 mi, .slice A n c, .string bo, .int .i64 asked, .int .i64 got, .slice V m d] 30 (0, 0)) := by rw [← hW1]; exact heap_new w _ _ rfl
  obtain ⟨W2, hW2⟩ : ∃ W2, W1.alloc (.cells #[.bool false, .bool false, .bool false, .bool false, .int .i64 0, .int .i64 0] 88) = W2 := ⟨_, rfl⟩
  have b2 : Below W1.heap.size W1 W2 := by rw [← hW2]; exact (Below.refl W1.heap.size W1).alloc (Nat.le_refl _) _
  have z2 : W2.heap.size = w.heap.size + 2 := by rw [← hW2]; simp [z1]
  have x2 : W2.heap[w.heap.size + 1]? = some (.cells #[.bool false, .bool false, .bool false, .bool false, .int .i64 0, .int .i64 0] 88 (0, 0)) := by rw [← hW2]; exact heap_new W1 _ _ z1
  have x1 := (b2.block w.heap.size (by omega)).trans x1
  have b1 := bt b1 b2
  have k1 := values_any A n c xs ⟨#[115, 117, 114, 114, 111, 103, 97, 116, 101, 45, 99, 111, 110, 116, 114, 111, 108]⟩ W2 (hr.below b1) (by omega) (fun f hf => by have := sumF_mem hf; omega) (by decide)
  have hvl := valuesL_le xs fSC
  have hvm : ∀ v ∈ valuesL xs fSC, v.length ≤ 900000 := fun v hv => by have := valuesL_sum hv; omega
  have k2 := fun W (hb : Below w.heap.size w W) a c' (h : Rd a (valuesL xs fSC).length 1 (strsV (valuesL xs fSC)) W) => surOf_any a (valuesL xs fSC).length c' (valuesL xs fSC) dev W (hM.below hb) h (by have := hr.fld; omega) hvm
  have he : ofL (valuesL xs fSC) dev.data.toList = ctlF xs dev.data.toList := rfl
  rw [he] at k2
  rw [show (⟨#[115, 117, 114, 114, 111, 103, 97, 116, 101, 45, 99, 111, 110, 116, 114, 111, 108]⟩ : ByteArray).data.toList = fSC from rfl] at k1
  generalize ctlF xs dev.data.toList = out at *
  have x3 := (of_heap x1 3).1
  have hz : w.heap.size + 1 < W2.heap.size := by omega
  have HW1 := Lib.hid hW1; have HW2 := Lib.hid hW2; have K1 := Lib.hid k1; have K2 := Lib.hid k2; have B1 := Lib.hid b1; have X2 := Lib.hid x2
  have Z1 := Lib.hid z1
  generalize valuesL xs fSC = vs at *
  clear hW1 hW2 k1 k2 x1 z2 hr hs hM he b1 b2 hvl hvm x2 z1
  unfold entV
  go_enter Tryz.func62, Tryz.ntmps62
  go_upto_region 1 with (fail)
  rw [HW1.out, HW2.out]
  go_wp2_with fail
  (with_reducible refine K1.out.mono ?_)
  rintro e w1 ⟨a1, c1, rfl, ho1, hb1⟩
  have k3 := K2.out w1 (bt B1.out hb1) _ c1 ho1.rd.2
  have K3 := Lib.hid k3
  have HB := Lib.hid (bt B1.out hb1)
  have Y2 := Lib.hid ((hb1.block (w.heap.size + 1) hz).trans X2.out)
  have hz1 := Nat.lt_of_lt_of_le hz hb1.size
  clear ho1 k3 K2 hb1 B1
  go_wp2_with fail
  (with_reducible refine K3.out.mono ?_)
  rintro e w2 ⟨rfl, hb2⟩
  have y2 := (hb2.block (w.heap.size + 1) hz1).trans Y2.out
  have g0 := of_heap y2 0; have g1 := of_heap y2 1; have g2 := of_heap y2 2; have g3 := of_heap y2 3; have g4 := of_heap y2 4; have g5 := of_heap y2 5
  obtain ⟨g0, f0, gl⟩ := g0; obtain ⟨g1, f1, _⟩ := g1; obtain ⟨g2, f2, _⟩ := g2; obtain ⟨g3, f3, _⟩ := g3; obtain ⟨g4, f4, _⟩ := g4; obtain ⟨g5, f5, _⟩ := g5
  simp only [List.getElem?_toArray, List.getElem?_cons_succ, List.getElem?_cons_zero] at g0 g1 g2 g3 g4 g5
  obtain ⟨o0, o1, o2, o3, o4, o5⟩ := out
  unfold ctlV
  simp only
  have HB2 := Lib.hid (bt HB.out hb2)
  clear y2 Y2 hb2 HB K3 HW1 HW2 X2 Z1
  go_wp2_with fail
  refine bodyPost_ret_by (v := .agg #[.bool o0, .bool o1, .bool o2, .bool o3, .int .i64 o4, .int .i64 o5]) ?_ rfl ?_
  · rw [results_cell_one rfl]
    go_simp
  · exact ⟨rfl, (((((HB2.out.setCell (p := ⟨w.heap.size + 1, 0, none⟩) (Nat.le_succ _) _).setCell (p := ⟨w.heap.size + 1, 1, none⟩) (Nat.le_succ _) _).setCell (p := ⟨w.heap.size + 1, 2, none⟩) (Nat.le_succ _) _).setCell (p := ⟨w.heap.size + 1, 3, none⟩) (Nat.le_succ _) _).setCell (p := ⟨w.heap.size + 1, 4, none⟩) (Nat.le_succ _) _).setCell (p := ⟨w.heap.size + 1, 5, none⟩) (Nat.le_succ _) _⟩

set_option maxHeartbeats 4000000 in
theorem when_any (st mi asked got : Int) (re bo : ByteArray) (A V : Option Addr) (n c m d : Nat) (xs : List Fld) (name : ByteArray) (w : World) (hE : DEnv w) (hr : Rd A n 2 (fldsV xs) w) (hn : n ≤ 1000) (hs : sumF xs ≤ 800000) (hname : name.size ≤ 1000000) :
    Calls Tryz.prog 47 #[entV st re mi A n c bo asked got V m d, .string name] w fun e w' => e = .returned (.tuple #[.int .i64 (whenF xs name.data.toList got).1, .bool (whenF xs name.data.toList got).2]) ∧ Below w.heap.size w w' := by
  obtain ⟨W1, hW1⟩ : ∃ W1, w.alloc (.cells #[.int .i64 st, .string re, .int .i64 mi, .slice A n c, .string bo, .int .i64 asked, .int .i64 got, .slice V m d] 30) = W1 := ⟨_, rfl⟩
  have b1 : Below w.heap.size w W1 := by rw [← hW1]; exact (Below.refl w.heap.size w).alloc (Nat.le_refl _) _
  have z1 : W1.heap.size = w.heap.size + 1 := by rw [← hW1]; simp
  have x1 : W1.heap[w.heap.size]? = some (.cells #[.int .i64 st, .string re, .int .i64 mi, .slice A n c, .string bo, .int .i64 asked, .int .i64 got, .slice V m d] 30 (0, 0)) := by rw [← hW1]; exact heap_new w _ _ rfl
  have k1 := get_any A n c xs name W1 (hr.below b1) (by omega) (by omega) hname
  have k2 := fun W (hb : Below w.heap.size w W) => dparse_any ⟨(getL xs name.data.toList).1.toArray⟩ got W (hE.below hb)
  simp only at k2
  unfold whenF
  unfold getV at k1
  generalize getL xs name.data.toList = g at *
  obtain ⟨gv, gi⟩ := g
  simp only at k1 k2 ⊢
  generalize dateP gv got = r at *
  obtain ⟨t, er⟩ := r
  simp only at k2 ⊢
  have x3 := (of_heap x1 3).1
  have x6 := (of_heap x1 6).1
  have hz : w.heap.size < W1.heap.size := by omega
  have HW1 := Lib.hid hW1; have K1 := Lib.hid k1; have K2 := Lib.hid k2; have B1 := Lib.hid b1
  clear hW1 k1 k2 x1 z1 hr hs hE b1
  cases gi
  · simp only [cond_false]
    unfold entV
    go_enter Tryz.func47, Tryz.ntmps47
    go_wp2_with fail
    rw [HW1.out]
    (with_reducible refine K1.out.mono ?_)
    rintro e w1 ⟨rfl, hb1⟩
    have HB := Lib.hid (bt B1.out hb1)
    clear hb1 x6
    go_wp2
    go_ret2
    exact ⟨rfl, HB.out⟩
  · simp only [cond_true]
    cases hz : (er == 0)
    all_goals
      unfold entV
      go_enter Tryz.func47, Tryz.ntmps47
      go_wp2_with fail
      rw [HW1.out]
      (with_reducible refine K1.out.mono ?_)
      rintro e w1 ⟨rfl, hb1⟩
      have y6 := (hb1.cell (p := ⟨w.heap.size, 6, none⟩) (by assumption)).trans x6
      have k3 := K2.out w1 (bt B1.out hb1)
      have K3 := Lib.hid k3
      have HB := Lib.hid (bt B1.out hb1)
      clear hb1 x6 k3 K2
      go_wp2_with fail
      (with_reducible refine K3.out.mono ?_)
      rintro e w2 ⟨rfl, hb2⟩
      go_wp2
      go_ret2
      exact ⟨rfl, bt HB.out hb2⟩
end Go.Proofs.YtcgdcbnhpbokfaaGreatDoor
/- The document's dates in plain words, and that they are the program's; no program in sight. -/
namespace Go.Proofs.YtcgdcbnhpbokfaaGreatDoor
set_option maxRecDepth 100000

def rnum (s : List UInt8) (a n : Nat) : Int := if s.length < a + n then -1 else if ((s.drop a).take n).all dg = true then dnum ((s.drop a).take n) 0 else -1
def rmons : List (List UInt8) := [[74, 97, 110], [70, 101, 98], [77, 97, 114], [65, 112, 114], [77, 97, 121], [74, 117, 110], [74, 117, 108], [65, 117, 103], [83, 101, 112], [79, 99, 116], [78, 111, 118], [68, 101, 99]]
def rmonF (t : List UInt8) : List (List UInt8) → Int → Int
  | [], _ => 0
  | x :: r, i => if t = x then i else rmonF t r (i + 1)
def rmonth (s : List UInt8) (a : Nat) : Int := if s.length < a + 3 then 0 else rmonF ((s.drop a).take 3) rmons 1
structure RD where
  year : Int
  month : Int
  day : Int
  hour : Int
  minute : Int
  second : Int
def rmay (d : RD) : Bool := decide (1970 ≤ d.year) && decide (d.year ≤ 9999) && decide (1 ≤ d.month) && decide (d.month ≤ 12) && decide (1 ≤ d.day) && decide (d.day ≤ dlong d.year d.month) && decide (0 ≤ d.hour) && decide (d.hour ≤ 23) && decide (0 ≤ d.minute) && decide (d.minute ≤ 59) && decide (0 ≤ d.second) && decide (d.second ≤ 59)
def rcount (d : RD) : Int := d.day - 1 + dahead d.year + dmons d.year (d.month.toNat - 1)
def rdig : Nat → Int → List UInt8
  | 0, _ => []
  | k + 1, n => rdig k (n / 10) ++ [UInt8.ofNat (48 + (n % 10).toNat)]
def rshort : List (List UInt8) := [[77, 111, 110], [84, 117, 101], [87, 101, 100], [84, 104, 117], [70, 114, 105], [83, 97, 116], [83, 117, 110]]
def rlong : List (List UInt8) := [[77, 111, 110, 100, 97, 121], [84, 117, 101, 115, 100, 97, 121], [87, 101, 100, 110, 101, 115, 100, 97, 121], [84, 104, 117, 114, 115, 100, 97, 121], [70, 114, 105, 100, 97, 121], [83, 97, 116, 117, 114, 100, 97, 121], [83, 117, 110, 100, 97, 121]]
def rwd (names : List (List UInt8)) (n : Int) : List UInt8 := names.getD ((n + 3) % 7).toNat []
def rmon (m : Int) : List UInt8 := rmons.getD (m - 1).toNat []
def rclock (d : RD) : List UInt8 := rdig 2 d.hour ++ (58 :: (rdig 2 d.minute ++ (58 :: rdig 2 d.second)))
def rfixed (d : RD) : List UInt8 := rwd rshort (rcount d) ++ (44 :: 32 :: (rdig 2 d.day ++ (32 :: (rmon d.month ++ (32 :: (rdig 4 d.year ++ (32 :: (rclock d ++ [32, 71, 77, 84]))))))))
def rold (d : RD) : List UInt8 := rwd rlong (rcount d) ++ (44 :: 32 :: (rdig 2 d.day ++ (45 :: (rmon d.month ++ (45 :: (rdig 2 d.year ++ (32 :: (rclock d ++ [32, 71, 77, 84]))))))))
def rplain (d : RD) (blank : Bool) : List UInt8 := rwd rshort (rcount d) ++ (32 :: (rmon d.month ++ (32 :: ((bif blank then 32 :: rdig 1 d.day else rdig 2 d.day) ++ (32 :: (rclock d ++ (32 :: rdig 4 d.year)))))))
def rtick (d : RD) : Int := rcount d * 86400 + (3600 * d.hour + 60 * d.minute + d.second)
def rnear (digits now : Int) : Int := ((dyearO (dnow now)).1 + 50) - ((dyearO (dnow now)).1 + 50 - digits) % 100
def rcomma (s : List UInt8) : Nat := (s.takeWhile (· != 44)).length
def rdA (s : List UInt8) : RD := ⟨rnum s 12 4, rmonth s 8, rnum s 5 2, rnum s 17 2, rnum s 20 2, rnum s 23 2⟩
def rdB (s : List UInt8) (now : Int) : RD := ⟨rnear (rnum s (rcomma s + 9) 2) now, rmonth s (rcomma s + 5), rnum s (rcomma s + 2) 2, rnum s (rcomma s + 12) 2, rnum s (rcomma s + 15) 2, rnum s (rcomma s + 18) 2⟩
def rdC (s : List UInt8) : RD := ⟨rnum s 20 4, rmonth s 4, rnum s 8 2, rnum s 11 2, rnum s 14 2, rnum s 17 2⟩
def rdE (s : List UInt8) : RD := ⟨rnum s 20 4, rmonth s 4, rnum s 9 1, rnum s 11 2, rnum s 14 2, rnum s 17 2⟩
/-- The document's Parse. -/
def rparse (s : List UInt8) (now : Int) : Int × Int :=
  if rmay (rdA s) = true ∧ rfixed (rdA s) = s then (rtick (rdA s), 0)
  else if 0 ≤ rnum s (rcomma s + 9) 2 ∧ rmay (rdB s now) = true ∧ rold (rdB s now) = s then (rtick (rdB s now), 0)
  else if rmay (rdC s) = true ∧ rplain (rdC s) false = s then (rtick (rdC s), 0)
  else if rmay (rdE s) = true ∧ rplain (rdE s) true = s then (rtick (rdE s), 0)
  else (0, 4)

/-! Digits. -/
theorem dg_in {c : UInt8} (h : dg c = true) : 48 ≤ c.toNat ∧ c.toNat ≤ 57 := by
  unfold dg at h; simpa using h
theorem u8_is {c : UInt8} {n : Nat} (h : n = c.toNat) : UInt8.ofNat n = c := by subst h; exact UInt8.ofNat_toNat
theorem dg_of {k : Nat} (h : k ≤ 9) : dg (UInt8.ofNat (48 + k)) = true ∧ (UInt8.ofNat (48 + k)).toNat = 48 + k := by
  have : (UInt8.ofNat (48 + k)).toNat = 48 + k := by rw [UInt8.toNat_ofNat']; omega
  refine ⟨?_, this⟩
  unfold dg; rw [this]; simp; omega
theorem rdig1 {a : UInt8} (ha : dg a = true) : rdig 1 (dnum [a] 0) = [a] := by
  have h1 := dg_in ha
  simp only [dnum, rdig, List.nil_append]
  rw [u8_is (c := a) (by omega)]
theorem rdig2 {a b : UInt8} (ha : dg a = true) (hb : dg b = true) : rdig 2 (dnum [a, b] 0) = [a, b] := by
  have h1 := dg_in ha; have h2 := dg_in hb
  simp only [dnum, rdig, List.nil_append]
  rw [u8_is (c := a) (by omega), u8_is (c := b) (by omega)]
  rfl
theorem rdig4 {a b c d : UInt8} (ha : dg a = true) (hb : dg b = true) (hc : dg c = true) (hd : dg d = true) : rdig 4 (dnum [a, b, c, d] 0) = [a, b, c, d] := by
  have h1 := dg_in ha; have h2 := dg_in hb; have h3 := dg_in hc; have h4 := dg_in hd
  simp only [dnum, rdig, List.nil_append]
  rw [u8_is (c := a) (by omega), u8_is (c := b) (by omega), u8_is (c := c) (by omega), u8_is (c := d) (by omega)]
  rfl
theorem rdig1_is (n : Int) (h : 0 ≤ n) (h9 : n ≤ 9) : ∃ a, rdig 1 n = [a] ∧ dg a = true ∧ dnum [a] 0 = n := by
  obtain ⟨h1, h2⟩ := dg_of (k := (n % 10).toNat) (by omega)
  refine ⟨_, rfl, h1, ?_⟩
  simp only [dnum, h2]
  omega
theorem rdig2_is (n : Int) (h : 0 ≤ n) (h9 : n ≤ 99) : ∃ a b, rdig 2 n = [a, b] ∧ dg a = true ∧ dg b = true ∧ dnum [a, b] 0 = n := by
  obtain ⟨h1, h2⟩ := dg_of (k := (n % 10).toNat) (by omega)
  obtain ⟨h3, h4⟩ := dg_of (k := (n / 10 % 10).toNat) (by omega)
  refine ⟨_, _, rfl, h3, h1, ?_⟩
  simp only [dnum, h2, h4]
  omega
theorem rdig4_is (n : Int) (h : 0 ≤ n) (h9 : n ≤ 9999) : ∃ a b c d, rdig 4 n = [a, b, c, d] ∧ dg a = true ∧ dg b = true ∧ dg c = true ∧ dg d = true ∧ dnum [a, b, c, d] 0 = n := by
  obtain ⟨h1, h2⟩ := dg_of (k := (n % 10).toNat) (by omega)
  obtain ⟨h3, h4⟩ := dg_of (k := (n / 10 % 10).toNat) (by omega)
  obtain ⟨h5, h6⟩ := dg_of (k := (n / 10 / 10 % 10).toNat) (by omega)
  obtain ⟨h7, h8⟩ := dg_of (k := (n / 10 / 10 / 10 % 10).toNat) (by omega)
  refine ⟨_, _, _, _, rfl, h7, h5, h3, h1, ?_⟩
  simp only [dnum, h2, h4, h6, h8]
  omega
theorem dnum2_in {a b : UInt8} (ha : dg a = true) (hb : dg b = true) : 0 ≤ dnum [a, b] 0 ∧ dnum [a, b] 0 ≤ 99 := by
  have h1 := dg_in ha; have h2 := dg_in hb
  simp only [dnum]; omega
theorem dnum1_in {a : UInt8} (ha : dg a = true) : 0 ≤ dnum [a] 0 ∧ dnum [a] 0 ≤ 9 := by
  have h1 := dg_in ha
  simp only [dnum]; omega

/-! The pieces: what a success says, and when there is one. -/
theorem one_ok {s : List UInt8} (h : (dnumL s 1).2.2 = true) : ∃ a t, s = a :: t ∧ dg a = true ∧ dnumL s 1 = (dnum [a] 0, t, true) := by
  match s with
  | [] => simp [dnumL] at h
  | a :: t =>
    unfold dnumL at h ⊢
    have hl : decide ((a :: t).length < 1) = false := by simp
    rw [hl] at h ⊢
    simp only [cond_false, List.take_succ_cons, List.take_zero, List.drop_succ_cons, List.drop_zero] at h ⊢
    cases hd : [a].all dg
    · rw [hd] at h; simp at h
    · refine ⟨a, t, rfl, by simpa using hd, rfl⟩
theorem done_of {a : UInt8} (ha : dg a = true) (t : List UInt8) : dnumL (a :: t) 1 = (dnum [a] 0, t, true) := by
  unfold dnumL
  have hl : decide ((a :: t).length < 1) = false := by simp
  rw [hl]
  simp only [cond_false, List.take_succ_cons, List.take_zero, List.drop_succ_cons, List.drop_zero]
  rw [show [a].all dg = true from by simp [ha]]
  rfl
theorem two_ok {s : List UInt8} (h : (dnumL s 2).2.2 = true) : ∃ a b t, s = a :: b :: t ∧ dg a = true ∧ dg b = true ∧ dnumL s 2 = (dnum [a, b] 0, t, true) := by
  match s with
  | [] => simp [dnumL] at h
  | [a] => simp [dnumL] at h
  | a :: b :: t =>
    unfold dnumL at h ⊢
    have hl : decide ((a :: b :: t).length < 2) = false := by simp
    rw [hl] at h ⊢
    simp only [cond_false, List.take_succ_cons, List.take_zero, List.drop_succ_cons, List.drop_zero] at h ⊢
    cases hd : [a, b].all dg
    · rw [hd] at h; simp at h
    · have h2 : dg a = true ∧ dg b = true := by simpa using hd
      refine ⟨a, b, t, rfl, h2.1, h2.2, rfl⟩
theorem dtwo_of {a b : UInt8} (ha : dg a = true) (hb : dg b = true) (t : List UInt8) : dnumL (a :: b :: t) 2 = (dnum [a, b] 0, t, true) := by
  unfold dnumL
  have hl : decide ((a :: b :: t).length < 2) = false := by simp
  rw [hl]
  simp only [cond_false, List.take_succ_cons, List.take_zero, List.drop_succ_cons, List.drop_zero]
  rw [show [a, b].all dg = true from by simp [ha, hb]]
  rfl
theorem four_ok {s : List UInt8} (h : (dnumL s 4).2.2 = true) : ∃ a b c d t, s = a :: b :: c :: d :: t ∧ dg a = true ∧ dg b = true ∧ dg c = true ∧ dg d = true ∧ dnumL s 4 = (dnum [a, b, c, d] 0, t, true) := by
  match s with
  | [] => simp [dnumL] at h
  | [a] => simp [dnumL] at h
  | [a, b] => simp [dnumL] at h
  | [a, b, c] => simp [dnumL] at h
  | a :: b :: c :: d :: t =>
    unfold dnumL at h ⊢
    have hl : decide ((a :: b :: c :: d :: t).length < 4) = false := by simp
    rw [hl] at h ⊢
    simp only [cond_false, List.take_succ_cons, List.take_zero, List.drop_succ_cons, List.drop_zero] at h ⊢
    cases hd : [a, b, c, d].all dg
    · rw [hd] at h; simp at h
    · have h2 : dg a = true ∧ dg b = true ∧ dg c = true ∧ dg d = true := by simpa using hd
      refine ⟨a, b, c, d, t, rfl, h2.1, h2.2.1, h2.2.2.1, h2.2.2.2, rfl⟩
theorem dfour4_of {a b c d : UInt8} (ha : dg a = true) (hb : dg b = true) (hc : dg c = true) (hd : dg d = true) (t : List UInt8) : dnumL (a :: b :: c :: d :: t) 4 = (dnum [a, b, c, d] 0, t, true) := by
  unfold dnumL
  have hl : decide ((a :: b :: c :: d :: t).length < 4) = false := by simp
  rw [hl]
  simp only [cond_false, List.take_succ_cons, List.take_zero, List.drop_succ_cons, List.drop_zero]
  rw [show [a, b, c, d].all dg = true from by simp [ha, hb, hc, hd]]
  rfl
theorem pre_is {s p : List UInt8} (h : Lib.hasPrefix s p = true) : s = p ++ s.drop p.length := by
  obtain ⟨t, rfl⟩ := List.isPrefixOf_iff_prefix.1 h
  simp
theorem name_ok (n : Nat) : ∀ (l : List (List UInt8)) (i : Nat) (s : List UInt8), (dname s n l i).2.2 = true → ∃ k t, k < l.length ∧ s = (bif decide (0 < n) then (l.getD k []).take n else l.getD k []) ++ t ∧ dname s n l i = (((i + k : Nat) : Int), t, true)
  | [], i, s, h => by simp [dname] at h
  | x :: r, i, s, h => by
    rw [dname] at h ⊢
    cases hp : Lib.hasPrefix s (bif decide (0 < n) then x.take n else x)
    · rw [hp] at h
      simp only [cond_false] at h
      obtain ⟨k, t, h1, h2, h3⟩ := name_ok n r (i + 1) s h
      refine ⟨k + 1, t, by simp; omega, by simpa using h2, ?_⟩
      simp only [cond_false]
      rw [h3]
      congr 1
      omega
    · refine ⟨0, s.drop (bif decide (0 < n) then x.take n else x).length, by simp, by simpa using pre_is hp, ?_⟩
      simp only [cond_true, Nat.add_zero]
theorem short_of (k : Nat) (h : k < 7) (t : List UInt8) : dname ((ddays.getD k []).take 3 ++ t) 3 ddays 0 = ((k : Int), t, true) := by
  match k, h with
  | 0, _ => rfl
  | 1, _ => rfl
  | 2, _ => rfl
  | 3, _ => rfl
  | 4, _ => rfl
  | 5, _ => rfl
  | 6, _ => rfl
theorem long_of (k : Nat) (h : k < 7) (t : List UInt8) : dname (ddays.getD k [] ++ t) 0 ddays 0 = ((k : Int), t, true) := by
  match k, h with
  | 0, _ => rfl
  | 1, _ => rfl
  | 2, _ => rfl
  | 3, _ => rfl
  | 4, _ => rfl
  | 5, _ => rfl
  | 6, _ => rfl
theorem index_occ : ∀ (s sub : List UInt8), 0 ≤ Lib.index s sub → Lib.occAt s sub (Lib.index s sub).toNat = true
  | [], sub, h => by
    cases sub with
    | nil => rfl
    | cons a t => simp [Lib.index] at h
  | b :: l, sub, h => by
    unfold Lib.index at h ⊢
    by_cases hp : sub.isPrefixOf (b :: l) = true
    · rw [if_pos hp]
      exact hp
    · rw [if_neg hp] at h ⊢
      by_cases hm : (Lib.index l sub == -1) = true
      · rw [if_pos hm] at h; simp at h
      · rw [if_neg hm] at h ⊢
        have h2 : 0 ≤ Lib.index l sub := by
          have := Lib.index_ge l sub
          rw [Bool.not_eq_true, beq_eq_false_iff_ne] at hm
          omega
        have ih := index_occ l sub h2
        have e : (Lib.index l sub + 1).toNat = (Lib.index l sub).toNat + 1 := by omega
        rw [e]
        exact ih
theorem month_ok {p q r : UInt8} (h0 : 0 ≤ Lib.index dmonths [p, q, r]) (h3 : Lib.index dmonths [p, q, r] % 3 = 0) : ∃ k : Nat, k < 12 ∧ rmons.getD k [] = [p, q, r] ∧ Lib.index dmonths [p, q, r] = 3 * (k : Int) := by
  have ho := index_occ dmonths [p, q, r] h0
  generalize Lib.index dmonths [p, q, r] = i at *
  obtain ⟨k, hk⟩ : ∃ k : Nat, i = 3 * (k : Int) := ⟨(i / 3).toNat, by omega⟩
  subst hk
  have hroom := Lib.occAt_room ho
  have hl : dmonths.length = 36 := by decide
  have hk : k < 12 := by
    rcases hroom with h | h
    · rw [hl] at h
      simp at h
      omega
    · simp at h
  have e3 : (3 * (k : Int)).toNat = 3 * k := by omega
  rw [e3] at ho
  refine ⟨k, hk, ?_, rfl⟩
  rw [Lib.occAt_iff_take _ _ _ (by rw [hl]; simp; omega)] at ho
  have := beq_iff_eq.1 ho
  rw [← this]
  have hall : ∀ k < 12, rmons.getD k [] = (dmonths.drop (3 * k)).take 3 := by decide
  exact hall k hk
theorem month_of (k : Nat) (hk : k < 12) : Lib.index dmonths (rmons.getD k []) = 3 * (k : Int) := by
  have hall : ∀ k < 12, Lib.index dmonths (rmons.getD k []) = 3 * (k : Int) := by decide
  exact hall k hk
theorem mon_at (k : Nat) (hk : k < 12) : rmonF (rmons.getD k []) rmons 1 = (k : Int) + 1 := by
  have hall : ∀ k < 12, rmonF (rmons.getD k []) rmons 1 = (k : Int) + 1 := by decide
  exact hall k hk
theorem mon_three (k : Nat) (hk : k < 12) : ∃ p q r, rmons.getD k [] = [p, q, r] := by
  have hall : ∀ k < 12, (rmons.getD k []).length = 3 := by decide
  have := hall k hk
  match h : rmons.getD k [], this with
  | [p, q, r], _ => exact ⟨p, q, r, rfl⟩
theorem short_three (k : Nat) (hk : k < 7) : ∃ p q r, (ddays.getD k []).take 3 = [p, q, r] := by
  have hall : ∀ k < 7, ((ddays.getD k []).take 3).length = 3 := by decide
  have := hall k hk
  match h : (ddays.getD k []).take 3, this with
  | [p, q, r], _ => exact ⟨p, q, r, rfl⟩
theorem rwd_short (n : Int) : rwd rshort n = (ddays.getD (n % 7).toNat []).take 3 := by
  have hall : ∀ k < 7, rshort.getD ((k + 3) % 7) [] = (ddays.getD k []).take 3 := by decide
  have := hall (n % 7).toNat (by omega)
  unfold rwd
  rw [← this]
  congr 1
  omega
theorem rwd_long (n : Int) : rwd rlong n = ddays.getD (n % 7).toNat [] := by
  have hall : ∀ k < 7, rlong.getD ((k + 3) % 7) [] = ddays.getD k [] := by decide
  have := hall (n % 7).toNat (by omega)
  unfold rwd
  rw [← this]
  congr 1
  omega
theorem long_plain (k : Nat) (hk : k < 7) (t : List UInt8) : rcomma (ddays.getD k [] ++ 44 :: t) = (ddays.getD k []).length := by
  match k, hk with
  | 0, _ => rfl
  | 1, _ => rfl
  | 2, _ => rfl
  | 3, _ => rfl
  | 4, _ => rfl
  | 5, _ => rfl
  | 6, _ => rfl
end Go.Proofs.YtcgdcbnhpbokfaaGreatDoor
/- The document's dates are the program's: plain (printed by wip/tools/rdate.py). -/
namespace Go.Proofs.YtcgdcbnhpbokfaaGreatDoor
set_option maxRecDepth 100000

theorem dp_some {c : UInt8} {r : List UInt8} {m : Mom} {s : List UInt8} {x : Mom × List UInt8} (h : dpieces (c :: r) m s = some x) : (dtake m c.toNat s).2.2 = true ∧ dpieces r (dtake m c.toNat s).1 (dtake m c.toNat s).2.1 = some x := by
  rw [dpieces] at h
  cases hb : (dtake m c.toNat s).2.2
  · rw [hb] at h; cases h
  · rw [hb] at h; exact ⟨rfl, h⟩
theorem dp_take {c : UInt8} {r : List UInt8} {m m' : Mom} {s t : List UInt8} (h : dtake m c.toNat s = (m', t, true)) : dpieces (c :: r) m s = dpieces r m' t := by
  rw [dpieces, h]; rfl
theorem tk_D_ok {m : Mom} {s r : List UInt8} {x : Mom × List UInt8} (h : dpieces (68 :: r) m s = some x) : ∃ a b t, s = a :: b :: t ∧ dg a = true ∧ dg b = true ∧ dpieces r { m with day := dnum [a, b] 0 } t = some x := by
  obtain ⟨h1, h2⟩ := dp_some h
  have e : dtake m (68 : UInt8).toNat s = ({ m with day := (dnumL s 2).1 }, (dnumL s 2).2) := rfl
  rw [e] at h1 h2
  obtain ⟨a, b, t, rfl, ha, hb, e2⟩ := two_ok h1
  rw [e2] at h2
  exact ⟨a, b, t, rfl, ha, hb, h2⟩
theorem tk_D_of {a b : UInt8} (ha : dg a = true) (hb : dg b = true) (m : Mom) (r t : List UInt8) : dpieces (68 :: r) m (a :: b :: t) = dpieces r { m with day := dnum [a, b] 0 } t := by
  have e : dtake m (68 : UInt8).toNat (a :: b :: t) = ({ m with day := (dnumL (a :: b :: t) 2).1 }, (dnumL (a :: b :: t) 2).2) := rfl
  rw [dtwo_of ha hb] at e
  exact dp_take e
theorem tk_H_ok {m : Mom} {s r : List UInt8} {x : Mom × List UInt8} (h : dpieces (72 :: r) m s = some x) : ∃ a b t, s = a :: b :: t ∧ dg a = true ∧ dg b = true ∧ dpieces r { m with hour := dnum [a, b] 0 } t = some x := by
  obtain ⟨h1, h2⟩ := dp_some h
  have e : dtake m (72 : UInt8).toNat s = ({ m with hour := (dnumL s 2).1 }, (dnumL s 2).2) := rfl
  rw [e] at h1 h2
  obtain ⟨a, b, t, rfl, ha, hb, e2⟩ := two_ok h1
  rw [e2] at h2
  exact ⟨a, b, t, rfl, ha, hb, h2⟩
theorem tk_H_of {a b : UInt8} (ha : dg a = true) (hb : dg b = true) (m : Mom) (r t : List UInt8) : dpieces (72 :: r) m (a :: b :: t) = dpieces r { m with hour := dnum [a, b] 0 } t := by
  have e : dtake m (72 : UInt8).toNat (a :: b :: t) = ({ m with hour := (dnumL (a :: b :: t) 2).1 }, (dnumL (a :: b :: t) 2).2) := rfl
  rw [dtwo_of ha hb] at e
  exact dp_take e
theorem tk_I_ok {m : Mom} {s r : List UInt8} {x : Mom × List UInt8} (h : dpieces (73 :: r) m s = some x) : ∃ a b t, s = a :: b :: t ∧ dg a = true ∧ dg b = true ∧ dpieces r { m with minute := dnum [a, b] 0 } t = some x := by
  obtain ⟨h1, h2⟩ := dp_some h
  have e : dtake m (73 : UInt8).toNat s = ({ m with minute := (dnumL s 2).1 }, (dnumL s 2).2) := rfl
  rw [e] at h1 h2
  obtain ⟨a, b, t, rfl, ha, hb, e2⟩ := two_ok h1
  rw [e2] at h2
  exact ⟨a, b, t, rfl, ha, hb, h2⟩
theorem tk_I_of {a b : UInt8} (ha : dg a = true) (hb : dg b = true) (m : Mom) (r t : List UInt8) : dpieces (73 :: r) m (a :: b :: t) = dpieces r { m with minute := dnum [a, b] 0 } t := by
  have e : dtake m (73 : UInt8).toNat (a :: b :: t) = ({ m with minute := (dnumL (a :: b :: t) 2).1 }, (dnumL (a :: b :: t) 2).2) := rfl
  rw [dtwo_of ha hb] at e
  exact dp_take e
theorem tk_S_ok {m : Mom} {s r : List UInt8} {x : Mom × List UInt8} (h : dpieces (83 :: r) m s = some x) : ∃ a b t, s = a :: b :: t ∧ dg a = true ∧ dg b = true ∧ dpieces r { m with second := dnum [a, b] 0 } t = some x := by
  obtain ⟨h1, h2⟩ := dp_some h
  have e : dtake m (83 : UInt8).toNat s = ({ m with second := (dnumL s 2).1 }, (dnumL s 2).2) := rfl
  rw [e] at h1 h2
  obtain ⟨a, b, t, rfl, ha, hb, e2⟩ := two_ok h1
  rw [e2] at h2
  exact ⟨a, b, t, rfl, ha, hb, h2⟩
theorem tk_S_of {a b : UInt8} (ha : dg a = true) (hb : dg b = true) (m : Mom) (r t : List UInt8) : dpieces (83 :: r) m (a :: b :: t) = dpieces r { m with second := dnum [a, b] 0 } t := by
  have e : dtake m (83 : UInt8).toNat (a :: b :: t) = ({ m with second := (dnumL (a :: b :: t) 2).1 }, (dnumL (a :: b :: t) 2).2) := rfl
  rw [dtwo_of ha hb] at e
  exact dp_take e
theorem tk_y_ok {m : Mom} {s r : List UInt8} {x : Mom × List UInt8} (h : dpieces (121 :: r) m s = some x) : ∃ a b t, s = a :: b :: t ∧ dg a = true ∧ dg b = true ∧ dpieces r { m with year := dnum [a, b] 0, two := true } t = some x := by
  obtain ⟨h1, h2⟩ := dp_some h
  have e : dtake m (121 : UInt8).toNat s = ({ m with year := (dnumL s 2).1, two := true }, (dnumL s 2).2) := rfl
  rw [e] at h1 h2
  obtain ⟨a, b, t, rfl, ha, hb, e2⟩ := two_ok h1
  rw [e2] at h2
  exact ⟨a, b, t, rfl, ha, hb, h2⟩
theorem tk_y_of {a b : UInt8} (ha : dg a = true) (hb : dg b = true) (m : Mom) (r t : List UInt8) : dpieces (121 :: r) m (a :: b :: t) = dpieces r { m with year := dnum [a, b] 0, two := true } t := by
  have e : dtake m (121 : UInt8).toNat (a :: b :: t) = ({ m with year := (dnumL (a :: b :: t) 2).1, two := true }, (dnumL (a :: b :: t) 2).2) := rfl
  rw [dtwo_of ha hb] at e
  exact dp_take e
theorem tk_Y_ok {m : Mom} {s r : List UInt8} {x : Mom × List UInt8} (h : dpieces (89 :: r) m s = some x) : ∃ a b c d t, s = a :: b :: c :: d :: t ∧ dg a = true ∧ dg b = true ∧ dg c = true ∧ dg d = true ∧ dpieces r { m with year := dnum [a, b, c, d] 0 } t = some x := by
  obtain ⟨h1, h2⟩ := dp_some h
  have e : dtake m (89 : UInt8).toNat s = ({ m with year := (dnumL s 4).1 }, (dnumL s 4).2) := rfl
  rw [e] at h1 h2
  obtain ⟨a, b, c, d, t, rfl, ha, hb, hc, hd, e2⟩ := four_ok h1
  rw [e2] at h2
  exact ⟨a, b, c, d, t, rfl, ha, hb, hc, hd, h2⟩
theorem tk_Y_of {a b c d : UInt8} (ha : dg a = true) (hb : dg b = true) (hc : dg c = true) (hd : dg d = true) (m : Mom) (r t : List UInt8) : dpieces (89 :: r) m (a :: b :: c :: d :: t) = dpieces r { m with year := dnum [a, b, c, d] 0 } t := by
  have e : dtake m (89 : UInt8).toNat (a :: b :: c :: d :: t) = ({ m with year := (dnumL (a :: b :: c :: d :: t) 4).1 }, (dnumL (a :: b :: c :: d :: t) 4).2) := rfl
  rw [dfour4_of ha hb hc hd] at e
  exact dp_take e
theorem tk_w_ok {m : Mom} {s r : List UInt8} {x : Mom × List UInt8} (h : dpieces (119 :: r) m s = some x) : ∃ k t, k < 7 ∧ s = (ddays.getD k []).take 3 ++ t ∧ dpieces r { m with wd := (k : Int) } t = some x := by
  obtain ⟨h1, h2⟩ := dp_some h
  have e : dtake m (119 : UInt8).toNat s = ({ m with wd := (dname s 3 ddays 0).1 }, (dname s 3 ddays 0).2) := rfl
  rw [e] at h1 h2
  obtain ⟨k, t, hk, hs, e2⟩ := name_ok 3 ddays 0 s h1
  rw [e2] at h2
  refine ⟨k, t, hk, hs, ?_⟩
  rw [Nat.zero_add] at h2
  exact h2
theorem tk_w_of (k : Nat) (hk : k < 7) (m : Mom) (r t : List UInt8) : dpieces (119 :: r) m ((ddays.getD k []).take 3 ++ t) = dpieces r { m with wd := (k : Int) } t := by
  have e : dtake m (119 : UInt8).toNat ((ddays.getD k []).take 3 ++ t) = ({ m with wd := (dname ((ddays.getD k []).take 3 ++ t) 3 ddays 0).1 }, (dname ((ddays.getD k []).take 3 ++ t) 3 ddays 0).2) := rfl
  rw [short_of k hk] at e
  exact dp_take e
theorem tk_W_ok {m : Mom} {s r : List UInt8} {x : Mom × List UInt8} (h : dpieces (87 :: r) m s = some x) : ∃ k t, k < 7 ∧ s = ddays.getD k [] ++ t ∧ dpieces r { m with wd := (k : Int) } t = some x := by
  obtain ⟨h1, h2⟩ := dp_some h
  have e : dtake m (87 : UInt8).toNat s = ({ m with wd := (dname s 0 ddays 0).1 }, (dname s 0 ddays 0).2) := rfl
  rw [e] at h1 h2
  obtain ⟨k, t, hk, hs, e2⟩ := name_ok 0 ddays 0 s h1
  rw [e2] at h2
  refine ⟨k, t, hk, hs, ?_⟩
  rw [Nat.zero_add] at h2
  exact h2
theorem tk_W_of (k : Nat) (hk : k < 7) (m : Mom) (r t : List UInt8) : dpieces (87 :: r) m (ddays.getD k [] ++ t) = dpieces r { m with wd := (k : Int) } t := by
  have e : dtake m (87 : UInt8).toNat (ddays.getD k [] ++ t) = ({ m with wd := (dname (ddays.getD k [] ++ t) 0 ddays 0).1 }, (dname (ddays.getD k [] ++ t) 0 ddays 0).2) := rfl
  rw [long_of k hk] at e
  exact dp_take e
theorem tk_m_ok {m : Mom} {s r : List UInt8} {x : Mom × List UInt8} (h : dpieces (109 :: r) m s = some x) : ∃ k t, k < 12 ∧ s = rmons.getD k [] ++ t ∧ dpieces r { m with month := (k : Int) + 1 } t = some x := by
  obtain ⟨h1, h2⟩ := dp_some h
  have e : dtake m (109 : UInt8).toNat s = if s.length < 3 ∨ Lib.index dmonths (s.take 3) < 0 ∨ Lib.index dmonths (s.take 3) % 3 ≠ 0 then (m, [], false) else ({ m with month := Lib.index dmonths (s.take 3) / 3 + 1 }, s.drop 3, true) := rfl
  rw [e] at h1 h2
  by_cases hc : s.length < 3 ∨ Lib.index dmonths (s.take 3) < 0 ∨ Lib.index dmonths (s.take 3) % 3 ≠ 0
  · rw [if_pos hc] at h1; cases h1
  · rw [if_neg hc] at h2
    match s, hc, h2 with
    | [], hc, _ => exact absurd (Or.inl (by decide)) hc
    | [_], hc, _ => exact absurd (Or.inl (by simp)) hc
    | [_, _], hc, _ => exact absurd (Or.inl (by simp)) hc
    | p :: q :: u :: t, hc, h2 =>
      simp only [List.take_succ_cons, List.take_zero, List.drop_succ_cons, List.drop_zero] at hc h2
      obtain ⟨k, hk, hm, hi⟩ := month_ok (p := p) (q := q) (r := u) (by omega) (by omega)
      refine ⟨k, t, hk, by rw [hm]; rfl, ?_⟩
      rw [hi] at h2
      rw [show 3 * (k : Int) / 3 = (k : Int) from by omega] at h2
      exact h2
theorem tk_m_of (k : Nat) (hk : k < 12) (m : Mom) (r t : List UInt8) : dpieces (109 :: r) m (rmons.getD k [] ++ t) = dpieces r { m with month := (k : Int) + 1 } t := by
  obtain ⟨p, q, u, hm⟩ := mon_three k hk
  have hi := month_of k hk
  rw [hm] at hi ⊢
  have e : dtake m (109 : UInt8).toNat (p :: q :: u :: t) = if (p :: q :: u :: t).length < 3 ∨ Lib.index dmonths [p, q, u] < 0 ∨ Lib.index dmonths [p, q, u] % 3 ≠ 0 then (m, [], false) else ({ m with month := Lib.index dmonths [p, q, u] / 3 + 1 }, t, true) := rfl
  rw [if_neg (by rw [hi]; simp; omega), hi, show 3 * (k : Int) / 3 = (k : Int) from by omega] at e
  exact dp_take e
theorem tk_E_ok {m : Mom} {s r : List UInt8} {x : Mom × List UInt8} (h : dpieces (69 :: r) m s = some x) : (∃ a t, s = 32 :: a :: t ∧ dg a = true ∧ dpieces r { m with day := dnum [a] 0 } t = some x) ∨ (∃ a b t, s = a :: b :: t ∧ dg a = true ∧ dg b = true ∧ dpieces r { m with day := dnum [a, b] 0 } t = some x) := by
  obtain ⟨h1, h2⟩ := dp_some h
  have e : dtake m (69 : UInt8).toNat s = if Lib.hasPrefix s [32] = true then ({ m with day := (dnumL (s.drop 1) 1).1 }, (dnumL (s.drop 1) 1).2) else ({ m with day := (dnumL s 2).1 }, (dnumL s 2).2) := rfl
  rw [e] at h1 h2
  by_cases hp : Lib.hasPrefix s [32] = true
  · rw [if_pos hp] at h1 h2
    obtain ⟨a, t, e1, ha, e2⟩ := one_ok h1
    rw [e2] at h2
    have := pre_is hp
    refine Or.inl ⟨a, t, ?_, ha, h2⟩
    rw [this, show s.drop [(32 : UInt8)].length = a :: t from e1]; rfl
  · rw [if_neg hp] at h1 h2
    obtain ⟨a, b, t, rfl, ha, hb, e2⟩ := two_ok h1
    rw [e2] at h2
    exact Or.inr ⟨a, b, t, rfl, ha, hb, h2⟩
theorem tk_E1_of {a : UInt8} (ha : dg a = true) (m : Mom) (r t : List UInt8) : dpieces (69 :: r) m (32 :: a :: t) = dpieces r { m with day := dnum [a] 0 } t := by
  have e : dtake m (69 : UInt8).toNat (32 :: a :: t) = ({ m with day := (dnumL (a :: t) 1).1 }, (dnumL (a :: t) 1).2) := rfl
  rw [done_of ha] at e
  exact dp_take e
theorem tk_E2_of {a b : UInt8} (ha : dg a = true) (hb : dg b = true) (m : Mom) (r t : List UInt8) : dpieces (69 :: r) m (a :: b :: t) = dpieces r { m with day := dnum [a, b] 0 } t := by
  have e : dtake m (69 : UInt8).toNat (a :: b :: t) = if Lib.hasPrefix (a :: b :: t) [32] = true then ({ m with day := (dnumL (b :: t) 1).1 }, (dnumL (b :: t) 1).2) else ({ m with day := (dnumL (a :: b :: t) 2).1 }, (dnumL (a :: b :: t) 2).2) := rfl
  have hp : ¬ Lib.hasPrefix (a :: b :: t) [32] = true := by
    intro h
    have h1 := pre_is h
    have h2 : a = 32 := by
      have := congrArg List.head? h1
      simpa using this
    subst h2
    exact absurd ha (by decide)
  rw [if_neg hp, dtwo_of ha hb] at e
  exact dp_take e
theorem tk_l44_ok {m : Mom} {s r : List UInt8} {x : Mom × List UInt8} (h : dpieces (44 :: r) m s = some x) : ∃ t, s = 44 :: t ∧ dpieces r m t = some x := by
  obtain ⟨h1, h2⟩ := dp_some h
  have e : dtake m (44 : UInt8).toNat s = if Lib.hasPrefix s [44] = true then (m, s.drop 1, true) else (m, s, false) := rfl
  rw [e] at h1 h2
  by_cases hp : Lib.hasPrefix s [44] = true
  · rw [if_pos hp] at h2
    exact ⟨s.drop 1, pre_is hp, h2⟩
  · rw [if_neg hp] at h1; cases h1
theorem tk_l44_of (m : Mom) (r t : List UInt8) : dpieces (44 :: r) m (44 :: t) = dpieces r m t := dp_take rfl
theorem tk_l32_ok {m : Mom} {s r : List UInt8} {x : Mom × List UInt8} (h : dpieces (32 :: r) m s = some x) : ∃ t, s = 32 :: t ∧ dpieces r m t = some x := by
  obtain ⟨h1, h2⟩ := dp_some h
  have e : dtake m (32 : UInt8).toNat s = if Lib.hasPrefix s [32] = true then (m, s.drop 1, true) else (m, s, false) := rfl
  rw [e] at h1 h2
  by_cases hp : Lib.hasPrefix s [32] = true
  · rw [if_pos hp] at h2
    exact ⟨s.drop 1, pre_is hp, h2⟩
  · rw [if_neg hp] at h1; cases h1
theorem tk_l32_of (m : Mom) (r t : List UInt8) : dpieces (32 :: r) m (32 :: t) = dpieces r m t := dp_take rfl
theorem tk_l58_ok {m : Mom} {s r : List UInt8} {x : Mom × List UInt8} (h : dpieces (58 :: r) m s = some x) : ∃ t, s = 58 :: t ∧ dpieces r m t = some x := by
  obtain ⟨h1, h2⟩ := dp_some h
  have e : dtake m (58 : UInt8).toNat s = if Lib.hasPrefix s [58] = true then (m, s.drop 1, true) else (m, s, false) := rfl
  rw [e] at h1 h2
  by_cases hp : Lib.hasPrefix s [58] = true
  · rw [if_pos hp] at h2
    exact ⟨s.drop 1, pre_is hp, h2⟩
  · rw [if_neg hp] at h1; cases h1
theorem tk_l58_of (m : Mom) (r t : List UInt8) : dpieces (58 :: r) m (58 :: t) = dpieces r m t := dp_take rfl
theorem tk_l71_ok {m : Mom} {s r : List UInt8} {x : Mom × List UInt8} (h : dpieces (71 :: r) m s = some x) : ∃ t, s = 71 :: t ∧ dpieces r m t = some x := by
  obtain ⟨h1, h2⟩ := dp_some h
  have e : dtake m (71 : UInt8).toNat s = if Lib.hasPrefix s [71] = true then (m, s.drop 1, true) else (m, s, false) := rfl
  rw [e] at h1 h2
  by_cases hp : Lib.hasPrefix s [71] = true
  · rw [if_pos hp] at h2
    exact ⟨s.drop 1, pre_is hp, h2⟩
  · rw [if_neg hp] at h1; cases h1
theorem tk_l71_of (m : Mom) (r t : List UInt8) : dpieces (71 :: r) m (71 :: t) = dpieces r m t := dp_take rfl
theorem tk_l77_ok {m : Mom} {s r : List UInt8} {x : Mom × List UInt8} (h : dpieces (77 :: r) m s = some x) : ∃ t, s = 77 :: t ∧ dpieces r m t = some x := by
  obtain ⟨h1, h2⟩ := dp_some h
  have e : dtake m (77 : UInt8).toNat s = if Lib.hasPrefix s [77] = true then (m, s.drop 1, true) else (m, s, false) := rfl
  rw [e] at h1 h2
  by_cases hp : Lib.hasPrefix s [77] = true
  · rw [if_pos hp] at h2
    exact ⟨s.drop 1, pre_is hp, h2⟩
  · rw [if_neg hp] at h1; cases h1
theorem tk_l77_of (m : Mom) (r t : List UInt8) : dpieces (77 :: r) m (77 :: t) = dpieces r m t := dp_take rfl
theorem tk_l84_ok {m : Mom} {s r : List UInt8} {x : Mom × List UInt8} (h : dpieces (84 :: r) m s = some x) : ∃ t, s = 84 :: t ∧ dpieces r m t = some x := by
  obtain ⟨h1, h2⟩ := dp_some h
  have e : dtake m (84 : UInt8).toNat s = if Lib.hasPrefix s [84] = true then (m, s.drop 1, true) else (m, s, false) := rfl
  rw [e] at h1 h2
  by_cases hp : Lib.hasPrefix s [84] = true
  · rw [if_pos hp] at h2
    exact ⟨s.drop 1, pre_is hp, h2⟩
  · rw [if_neg hp] at h1; cases h1
theorem tk_l84_of (m : Mom) (r t : List UInt8) : dpieces (84 :: r) m (84 :: t) = dpieces r m t := dp_take rfl
theorem tk_l45_ok {m : Mom} {s r : List UInt8} {x : Mom × List UInt8} (h : dpieces (45 :: r) m s = some x) : ∃ t, s = 45 :: t ∧ dpieces r m t = some x := by
  obtain ⟨h1, h2⟩ := dp_some h
  have e : dtake m (45 : UInt8).toNat s = if Lib.hasPrefix s [45] = true then (m, s.drop 1, true) else (m, s, false) := rfl
  rw [e] at h1 h2
  by_cases hp : Lib.hasPrefix s [45] = true
  · rw [if_pos hp] at h2
    exact ⟨s.drop 1, pre_is hp, h2⟩
  · rw [if_neg hp] at h1; cases h1
theorem tk_l45_of (m : Mom) (r t : List UInt8) : dpieces (45 :: r) m (45 :: t) = dpieces r m t := dp_take rfl
/-- One form. -/
def pform (f s : List UInt8) (now : Int) : Option Int := match dpieces f mom0 s with
  | some (m, []) => if (dtick m now).2 = true then some (dtick m now).1 else none
  | _ => none
theorem pform_some {f s : List UInt8} {now T : Int} (h : pform f s now = some T) : ∃ m, dpieces f mom0 s = some (m, []) ∧ (dtick m now).2 = true ∧ (dtick m now).1 = T := by
  unfold pform at h
  split at h
  · rename_i m hm
    split at h
    · rename_i h2
      exact ⟨m, hm, h2, Option.some.inj h⟩
    · cases h
  · cases h
theorem pform_of {f s : List UInt8} {now : Int} {m : Mom} {d : Int} (h : dpieces f mom0 s = some (m, [])) (h2 : dtick m now = (d, true)) : pform f s now = some d := by
  unfold pform
  rw [h]
  simp only [h2, if_true]
theorem dparse_pf (s f : List UInt8) (now : Int) (r : List (List UInt8)) : dparse s now (f :: r) = match pform f s now with | some T => (T, 0) | none => dparse s now r := by
  rw [dparse, pform]
  cases dpieces f mom0 s with
  | none => rfl
  | some x =>
    obtain ⟨m, t⟩ := x
    cases t with
    | cons c t => rfl
    | nil =>
      simp only
      by_cases h : (dtick m now).2 = true
      · rw [if_pos h, if_pos h]
      · rw [if_neg h, if_neg h]
theorem tick_is (m : Mom) (now : Int) (d : RD) (hd : d = ⟨dyr m now, m.month, m.day, m.hour, m.minute, m.second⟩) (hM : 1 ≤ m.month ∧ m.month ≤ 12) (h0 : 0 ≤ m.hour ∧ 0 ≤ m.minute ∧ 0 ≤ m.second) :
    dtick m now = if rmay d = true ∧ rcount d % 7 = m.wd then (rtick d, true) else (0, false) := by
  subst hd
  unfold dtick rtick rcount
  simp only
  have hmay : rmay ⟨dyr m now, m.month, m.day, m.hour, m.minute, m.second⟩ = true ↔ ¬ (dyr m now < 1970 ∨ dyr m now > 9999 ∨ m.day < 1 ∨ m.day > dlong (dyr m now) m.month ∨ m.hour > 23 ∨ m.minute > 59 ∨ m.second > 59) := by
    unfold rmay
    simp only [Bool.and_eq_true, decide_eq_true_eq]
    omega
  by_cases hc : dyr m now < 1970 ∨ dyr m now > 9999 ∨ m.day < 1 ∨ m.day > dlong (dyr m now) m.month ∨ m.hour > 23 ∨ m.minute > 59 ∨ m.second > 59
  · rw [if_pos hc, if_neg (by rw [hmay]; intro h; exact h.1 hc)]
  · rw [if_neg hc]
    have e : dahead (dyr m now) + m.day - 1 + dmons (dyr m now) (m.month.toNat - 1) = m.day - 1 + dahead (dyr m now) + dmons (dyr m now) (m.month.toNat - 1) := by omega
    rw [e]
    by_cases h7 : (m.day - 1 + dahead (dyr m now) + dmons (dyr m now) (m.month.toNat - 1)) % 7 = m.wd
    · rw [if_neg (by intro h; exact h h7), if_pos ⟨hmay.2 hc, h7⟩]
      congr 1
      omega
    · rw [if_pos h7, if_neg (by intro h; exact h7 h.2)]
theorem sound0 {s : List UInt8} {m : Mom} (h : dpieces dform0 mom0 s = some (m, [])) : ∃ (k j : Nat) (d1 d2 y1 y2 y3 y4 h1 h2 i1 i2 s1 s2 : UInt8), k < 7 ∧ j < 12 ∧ dg d1 = true ∧ dg d2 = true ∧ dg y1 = true ∧ dg y2 = true ∧ dg y3 = true ∧ dg y4 = true ∧ dg h1 = true ∧ dg h2 = true ∧ dg i1 = true ∧ dg i2 = true ∧ dg s1 = true ∧ dg s2 = true ∧ s = (ddays.getD k []).take 3 ++ (44 :: 32 :: d1 :: d2 :: 32 :: (rmons.getD j [] ++ (32 :: y1 :: y2 :: y3 :: y4 :: 32 :: h1 :: h2 :: 58 :: i1 :: i2 :: 58 :: s1 :: s2 :: 32 :: 71 :: 77 :: 84 :: []))) ∧ m = ⟨(k : Int), dnum [d1, d2] 0, (j : Int) + 1, dnum [y1, y2, y3, y4] 0, dnum [h1, h2] 0, dnum [i1, i2] 0, dnum [s1, s2] 0, false⟩ := by
  unfold dform0 at h
  obtain ⟨k, t0, hk, rfl, g0⟩ := tk_w_ok h
  obtain ⟨t1, rfl, g1⟩ := tk_l44_ok g0
  obtain ⟨t2, rfl, g2⟩ := tk_l32_ok g1
  obtain ⟨d1, d2, t3, rfl, hd1, hd2, g3⟩ := tk_D_ok g2
  obtain ⟨t4, rfl, g4⟩ := tk_l32_ok g3
  obtain ⟨j, t5, hj, rfl, g5⟩ := tk_m_ok g4
  obtain ⟨t6, rfl, g6⟩ := tk_l32_ok g5
  obtain ⟨y1, y2, y3, y4, t7, rfl, hy1, hy2, hy3, hy4, g7⟩ := tk_Y_ok g6
  obtain ⟨t8, rfl, g8⟩ := tk_l32_ok g7
  obtain ⟨h1, h2, t9, rfl, hh1, hh2, g9⟩ := tk_H_ok g8
  obtain ⟨t10, rfl, g10⟩ := tk_l58_ok g9
  obtain ⟨i1, i2, t11, rfl, hi1, hi2, g11⟩ := tk_I_ok g10
  obtain ⟨t12, rfl, g12⟩ := tk_l58_ok g11
  obtain ⟨s1, s2, t13, rfl, hs1, hs2, g13⟩ := tk_S_ok g12
  obtain ⟨t14, rfl, g14⟩ := tk_l32_ok g13
  obtain ⟨t15, rfl, g15⟩ := tk_l71_ok g14
  obtain ⟨t16, rfl, g16⟩ := tk_l77_ok g15
  obtain ⟨t17, rfl, g17⟩ := tk_l84_ok g16
  have h' := Option.some.inj g17
  obtain ⟨e1, e2⟩ := Prod.mk.inj h'
  subst e2
  exact ⟨k, j, d1, d2, y1, y2, y3, y4, h1, h2, i1, i2, s1, s2, hk, hj, hd1, hd2, hy1, hy2, hy3, hy4, hh1, hh2, hi1, hi2, hs1, hs2, rfl, e1.symm⟩
theorem sound1 {s : List UInt8} {m : Mom} (h : dpieces dform1 mom0 s = some (m, [])) : ∃ (k j : Nat) (d1 d2 y1 y2 h1 h2 i1 i2 s1 s2 : UInt8), k < 7 ∧ j < 12 ∧ dg d1 = true ∧ dg d2 = true ∧ dg y1 = true ∧ dg y2 = true ∧ dg h1 = true ∧ dg h2 = true ∧ dg i1 = true ∧ dg i2 = true ∧ dg s1 = true ∧ dg s2 = true ∧ s = ddays.getD k [] ++ (44 :: 32 :: d1 :: d2 :: 45 :: (rmons.getD j [] ++ (45 :: y1 :: y2 :: 32 :: h1 :: h2 :: 58 :: i1 :: i2 :: 58 :: s1 :: s2 :: 32 :: 71 :: 77 :: 84 :: []))) ∧ m = ⟨(k : Int), dnum [d1, d2] 0, (j : Int) + 1, dnum [y1, y2] 0, dnum [h1, h2] 0, dnum [i1, i2] 0, dnum [s1, s2] 0, true⟩ := by
  unfold dform1 at h
  obtain ⟨k, t0, hk, rfl, g0⟩ := tk_W_ok h
  obtain ⟨t1, rfl, g1⟩ := tk_l44_ok g0
  obtain ⟨t2, rfl, g2⟩ := tk_l32_ok g1
  obtain ⟨d1, d2, t3, rfl, hd1, hd2, g3⟩ := tk_D_ok g2
  obtain ⟨t4, rfl, g4⟩ := tk_l45_ok g3
  obtain ⟨j, t5, hj, rfl, g5⟩ := tk_m_ok g4
  obtain ⟨t6, rfl, g6⟩ := tk_l45_ok g5
  obtain ⟨y1, y2, t7, rfl, hy1, hy2, g7⟩ := tk_y_ok g6
  obtain ⟨t8, rfl, g8⟩ := tk_l32_ok g7
  obtain ⟨h1, h2, t9, rfl, hh1, hh2, g9⟩ := tk_H_ok g8
  obtain ⟨t10, rfl, g10⟩ := tk_l58_ok g9
  obtain ⟨i1, i2, t11, rfl, hi1, hi2, g11⟩ := tk_I_ok g10
  obtain ⟨t12, rfl, g12⟩ := tk_l58_ok g11
  obtain ⟨s1, s2, t13, rfl, hs1, hs2, g13⟩ := tk_S_ok g12
  obtain ⟨t14, rfl, g14⟩ := tk_l32_ok g13
  obtain ⟨t15, rfl, g15⟩ := tk_l71_ok g14
  obtain ⟨t16, rfl, g16⟩ := tk_l77_ok g15
  obtain ⟨t17, rfl, g17⟩ := tk_l84_ok g16
  have h' := Option.some.inj g17
  obtain ⟨e1, e2⟩ := Prod.mk.inj h'
  subst e2
  exact ⟨k, j, d1, d2, y1, y2, h1, h2, i1, i2, s1, s2, hk, hj, hd1, hd2, hy1, hy2, hh1, hh2, hi1, hi2, hs1, hs2, rfl, e1.symm⟩
theorem sound2 {s : List UInt8} {m : Mom} (h : dpieces dform2 mom0 s = some (m, [])) : (∃ (k j : Nat) (d1 h1 h2 i1 i2 s1 s2 y1 y2 y3 y4 : UInt8), k < 7 ∧ j < 12 ∧ dg d1 = true ∧ dg h1 = true ∧ dg h2 = true ∧ dg i1 = true ∧ dg i2 = true ∧ dg s1 = true ∧ dg s2 = true ∧ dg y1 = true ∧ dg y2 = true ∧ dg y3 = true ∧ dg y4 = true ∧ s = (ddays.getD k []).take 3 ++ (32 :: (rmons.getD j [] ++ (32 :: 32 :: d1 :: 32 :: h1 :: h2 :: 58 :: i1 :: i2 :: 58 :: s1 :: s2 :: 32 :: y1 :: y2 :: y3 :: y4 :: []))) ∧ m = ⟨(k : Int), dnum [d1] 0, (j : Int) + 1, dnum [y1, y2, y3, y4] 0, dnum [h1, h2] 0, dnum [i1, i2] 0, dnum [s1, s2] 0, false⟩) ∨ (∃ (k j : Nat) (d1 d2 h1 h2 i1 i2 s1 s2 y1 y2 y3 y4 : UInt8), k < 7 ∧ j < 12 ∧ dg d1 = true ∧ dg d2 = true ∧ dg h1 = true ∧ dg h2 = true ∧ dg i1 = true ∧ dg i2 = true ∧ dg s1 = true ∧ dg s2 = true ∧ dg y1 = true ∧ dg y2 = true ∧ dg y3 = true ∧ dg y4 = true ∧ s = (ddays.getD k []).take 3 ++ (32 :: (rmons.getD j [] ++ (32 :: d1 :: d2 :: 32 :: h1 :: h2 :: 58 :: i1 :: i2 :: 58 :: s1 :: s2 :: 32 :: y1 :: y2 :: y3 :: y4 :: []))) ∧ m = ⟨(k : Int), dnum [d1, d2] 0, (j : Int) + 1, dnum [y1, y2, y3, y4] 0, dnum [h1, h2] 0, dnum [i1, i2] 0, dnum [s1, s2] 0, false⟩) := by
  unfold dform2 at h
  obtain ⟨k, t0, hk, rfl, g0⟩ := tk_w_ok h
  obtain ⟨t1, rfl, g1⟩ := tk_l32_ok g0
  obtain ⟨j, t2, hj, rfl, g2⟩ := tk_m_ok g1
  obtain ⟨t3, rfl, g3⟩ := tk_l32_ok g2
  rcases tk_E_ok g3 with ⟨d1, t4, rfl, hd1, g90⟩ | ⟨d1, d2, t4, rfl, hd1, hd2, g90⟩
  · left
    obtain ⟨t5, rfl, g91⟩ := tk_l32_ok g90
    obtain ⟨h1, h2, t6, rfl, hh1, hh2, g92⟩ := tk_H_ok g91
    obtain ⟨t7, rfl, g93⟩ := tk_l58_ok g92
    obtain ⟨i1, i2, t8, rfl, hi1, hi2, g94⟩ := tk_I_ok g93
    obtain ⟨t9, rfl, g95⟩ := tk_l58_ok g94
    obtain ⟨s1, s2, t10, rfl, hs1, hs2, g96⟩ := tk_S_ok g95
    obtain ⟨t11, rfl, g97⟩ := tk_l32_ok g96
    obtain ⟨y1, y2, y3, y4, t12, rfl, hy1, hy2, hy3, hy4, g98⟩ := tk_Y_ok g97
    have h' := Option.some.inj g98
    obtain ⟨e1, e2⟩ := Prod.mk.inj h'
    subst e2
    exact ⟨k, j, d1, h1, h2, i1, i2, s1, s2, y1, y2, y3, y4, hk, hj, hd1, hh1, hh2, hi1, hi2, hs1, hs2, hy1, hy2, hy3, hy4, rfl, e1.symm⟩
  · right
    obtain ⟨t5, rfl, g91⟩ := tk_l32_ok g90
    obtain ⟨h1, h2, t6, rfl, hh1, hh2, g92⟩ := tk_H_ok g91
    obtain ⟨t7, rfl, g93⟩ := tk_l58_ok g92
    obtain ⟨i1, i2, t8, rfl, hi1, hi2, g94⟩ := tk_I_ok g93
    obtain ⟨t9, rfl, g95⟩ := tk_l58_ok g94
    obtain ⟨s1, s2, t10, rfl, hs1, hs2, g96⟩ := tk_S_ok g95
    obtain ⟨t11, rfl, g97⟩ := tk_l32_ok g96
    obtain ⟨y1, y2, y3, y4, t12, rfl, hy1, hy2, hy3, hy4, g98⟩ := tk_Y_ok g97
    have h' := Option.some.inj g98
    obtain ⟨e1, e2⟩ := Prod.mk.inj h'
    subst e2
    exact ⟨k, j, d1, d2, h1, h2, i1, i2, s1, s2, y1, y2, y3, y4, hk, hj, hd1, hd2, hh1, hh2, hi1, hi2, hs1, hs2, hy1, hy2, hy3, hy4, rfl, e1.symm⟩
theorem comp0 {k j : Nat} {d1 d2 y1 y2 y3 y4 h1 h2 i1 i2 s1 s2 : UInt8} (hk : k < 7) (hj : j < 12) (hd1 : dg d1 = true) (hd2 : dg d2 = true) (hy1 : dg y1 = true) (hy2 : dg y2 = true) (hy3 : dg y3 = true) (hy4 : dg y4 = true) (hh1 : dg h1 = true) (hh2 : dg h2 = true) (hi1 : dg i1 = true) (hi2 : dg i2 = true) (hs1 : dg s1 = true) (hs2 : dg s2 = true) : dpieces dform0 mom0 ((ddays.getD k []).take 3 ++ (44 :: 32 :: d1 :: d2 :: 32 :: (rmons.getD j [] ++ (32 :: y1 :: y2 :: y3 :: y4 :: 32 :: h1 :: h2 :: 58 :: i1 :: i2 :: 58 :: s1 :: s2 :: 32 :: 71 :: 77 :: 84 :: [])))) = some (⟨(k : Int), dnum [d1, d2] 0, (j : Int) + 1, dnum [y1, y2, y3, y4] 0, dnum [h1, h2] 0, dnum [i1, i2] 0, dnum [s1, s2] 0, false⟩, []) := by
  unfold dform0
  rw [tk_w_of k hk, tk_l44_of, tk_l32_of, tk_D_of hd1 hd2, tk_l32_of, tk_m_of j hj, tk_l32_of, tk_Y_of hy1 hy2 hy3 hy4, tk_l32_of, tk_H_of hh1 hh2, tk_l58_of, tk_I_of hi1 hi2, tk_l58_of, tk_S_of hs1 hs2, tk_l32_of, tk_l71_of, tk_l77_of, tk_l84_of]
  rfl
theorem comp1 {k j : Nat} {d1 d2 y1 y2 h1 h2 i1 i2 s1 s2 : UInt8} (hk : k < 7) (hj : j < 12) (hd1 : dg d1 = true) (hd2 : dg d2 = true) (hy1 : dg y1 = true) (hy2 : dg y2 = true) (hh1 : dg h1 = true) (hh2 : dg h2 = true) (hi1 : dg i1 = true) (hi2 : dg i2 = true) (hs1 : dg s1 = true) (hs2 : dg s2 = true) : dpieces dform1 mom0 (ddays.getD k [] ++ (44 :: 32 :: d1 :: d2 :: 45 :: (rmons.getD j [] ++ (45 :: y1 :: y2 :: 32 :: h1 :: h2 :: 58 :: i1 :: i2 :: 58 :: s1 :: s2 :: 32 :: 71 :: 77 :: 84 :: [])))) = some (⟨(k : Int), dnum [d1, d2] 0, (j : Int) + 1, dnum [y1, y2] 0, dnum [h1, h2] 0, dnum [i1, i2] 0, dnum [s1, s2] 0, true⟩, []) := by
  unfold dform1
  rw [tk_W_of k hk, tk_l44_of, tk_l32_of, tk_D_of hd1 hd2, tk_l45_of, tk_m_of j hj, tk_l45_of, tk_y_of hy1 hy2, tk_l32_of, tk_H_of hh1 hh2, tk_l58_of, tk_I_of hi1 hi2, tk_l58_of, tk_S_of hs1 hs2, tk_l32_of, tk_l71_of, tk_l77_of, tk_l84_of]
  rfl
theorem comp21 {k j : Nat} {d1 h1 h2 i1 i2 s1 s2 y1 y2 y3 y4 : UInt8} (hk : k < 7) (hj : j < 12) (hd1 : dg d1 = true) (hh1 : dg h1 = true) (hh2 : dg h2 = true) (hi1 : dg i1 = true) (hi2 : dg i2 = true) (hs1 : dg s1 = true) (hs2 : dg s2 = true) (hy1 : dg y1 = true) (hy2 : dg y2 = true) (hy3 : dg y3 = true) (hy4 : dg y4 = true) : dpieces dform2 mom0 ((ddays.getD k []).take 3 ++ (32 :: (rmons.getD j [] ++ (32 :: 32 :: d1 :: 32 :: h1 :: h2 :: 58 :: i1 :: i2 :: 58 :: s1 :: s2 :: 32 :: y1 :: y2 :: y3 :: y4 :: [])))) = some (⟨(k : Int), dnum [d1] 0, (j : Int) + 1, dnum [y1, y2, y3, y4] 0, dnum [h1, h2] 0, dnum [i1, i2] 0, dnum [s1, s2] 0, false⟩, []) := by
  unfold dform2
  rw [tk_w_of k hk, tk_l32_of, tk_m_of j hj, tk_l32_of, tk_E1_of hd1, tk_l32_of, tk_H_of hh1 hh2, tk_l58_of, tk_I_of hi1 hi2, tk_l58_of, tk_S_of hs1 hs2, tk_l32_of, tk_Y_of hy1 hy2 hy3 hy4]
  rfl
theorem comp22 {k j : Nat} {d1 d2 h1 h2 i1 i2 s1 s2 y1 y2 y3 y4 : UInt8} (hk : k < 7) (hj : j < 12) (hd1 : dg d1 = true) (hd2 : dg d2 = true) (hh1 : dg h1 = true) (hh2 : dg h2 = true) (hi1 : dg i1 = true) (hi2 : dg i2 = true) (hs1 : dg s1 = true) (hs2 : dg s2 = true) (hy1 : dg y1 = true) (hy2 : dg y2 = true) (hy3 : dg y3 = true) (hy4 : dg y4 = true) : dpieces dform2 mom0 ((ddays.getD k []).take 3 ++ (32 :: (rmons.getD j [] ++ (32 :: d1 :: d2 :: 32 :: h1 :: h2 :: 58 :: i1 :: i2 :: 58 :: s1 :: s2 :: 32 :: y1 :: y2 :: y3 :: y4 :: [])))) = some (⟨(k : Int), dnum [d1, d2] 0, (j : Int) + 1, dnum [y1, y2, y3, y4] 0, dnum [h1, h2] 0, dnum [i1, i2] 0, dnum [s1, s2] 0, false⟩, []) := by
  unfold dform2
  rw [tk_w_of k hk, tk_l32_of, tk_m_of j hj, tk_l32_of, tk_E2_of hd1 hd2, tk_l32_of, tk_H_of hh1 hh2, tk_l58_of, tk_I_of hi1 hi2, tk_l58_of, tk_S_of hs1 hs2, tk_l32_of, tk_Y_of hy1 hy2 hy3 hy4]
  rfl
theorem rnum_two {s t : List UInt8} {n : Nat} {a b : UInt8} (h : s.drop n = a :: b :: t) (ha : dg a = true) (hb : dg b = true) : rnum s n 2 = dnum [a, b] 0 := by
  have hl : n + 2 ≤ s.length := by
    have := congrArg List.length h
    rw [List.length_drop] at this; simp at this; omega
  unfold rnum
  rw [if_neg (by omega), h]
  simp [ha, hb]
theorem rnum_one {s t : List UInt8} {n : Nat} {a : UInt8} (h : s.drop n = a :: t) (ha : dg a = true) : rnum s n 1 = dnum [a] 0 := by
  have hl : n + 1 ≤ s.length := by
    have := congrArg List.length h
    rw [List.length_drop] at this; simp at this; omega
  unfold rnum
  rw [if_neg (by omega), h]
  simp [ha]
theorem rnum_four {s t : List UInt8} {n : Nat} {a b c d : UInt8} (h : s.drop n = a :: b :: c :: d :: t) (ha : dg a = true) (hb : dg b = true) (hc : dg c = true) (hd : dg d = true) : rnum s n 4 = dnum [a, b, c, d] 0 := by
  have hl : n + 4 ≤ s.length := by
    have := congrArg List.length h
    rw [List.length_drop] at this; simp at this; omega
  unfold rnum
  rw [if_neg (by omega), h]
  simp [ha, hb, hc, hd]
theorem rnum_no {s t : List UInt8} {n : Nat} {a : UInt8} (h : s.drop n = a :: t) (ha : dg a = false) : rnum s n 2 = -1 := by
  unfold rnum
  by_cases hl : s.length < n + 2
  · rw [if_pos hl]
  · rw [if_neg hl, h]
    rw [if_neg]
    simp [ha]
theorem rnum_hi2 (s : List UInt8) (n : Nat) : rnum s n 2 ≤ 99 := by
  unfold rnum
  split
  · decide
  · split
    · rename_i hl h
      match he : (s.drop n).take 2, h with
      | [], _ => decide
      | [a], h =>
        have h1 : dg a = true := by simpa using h
        have := dnum1_in h1; omega
      | a :: b :: t, h =>
        have hlen : ((s.drop n).take 2).length ≤ 2 := by rw [List.length_take]; omega
        rw [he] at hlen
        have ht : t = [] := by cases t with
          | nil => rfl
          | cons c t => simp at hlen
        subst ht
        have h1 : dg a = true ∧ dg b = true := by simpa using h
        have := dnum2_in h1.1 h1.2; omega
    · decide
theorem rnum_hi1 (s : List UInt8) (n : Nat) : rnum s n 1 ≤ 9 := by
  unfold rnum
  split
  · decide
  · split
    · rename_i hl h
      match he : (s.drop n).take 1, h with
      | [], _ => decide
      | a :: t, h =>
        have hlen : ((s.drop n).take 1).length ≤ 1 := by rw [List.length_take]; omega
        rw [he] at hlen
        have ht : t = [] := by cases t with
          | nil => rfl
          | cons c t => simp at hlen
        subst ht
        have h1 : dg a = true := by simpa using h
        have := dnum1_in h1; omega
    · decide
theorem rmonth_is {s t : List UInt8} {n j : Nat} (hj : j < 12) (h : s.drop n = rmons.getD j [] ++ t) : rmonth s n = (j : Int) + 1 := by
  obtain ⟨p, q, r, hm⟩ := mon_three j hj
  have hl : n + 3 ≤ s.length := by
    have := congrArg List.length h
    rw [List.length_drop, hm] at this; simp at this; omega
  unfold rmonth
  rw [if_neg (by omega), h, ← mon_at j hj, hm]
  rfl
theorem rdig2_cong {n N : Int} (h : n % 100 = N % 100) : rdig 2 n = rdig 2 N := by
  simp only [rdig, List.nil_append]
  rw [show n / 10 % 10 = N / 10 % 10 from by omega, show n % 10 = N % 10 from by omega]
theorem rmon_at (j : Nat) : rmon ((j : Int) + 1) = rmons.getD j [] := by
  unfold rmon
  rw [show ((j : Int) + 1 - 1).toNat = j from by omega]
theorem rmon_is (m : Int) (h : 1 ≤ m) (h2 : m ≤ 12) : ∃ j : Nat, j < 12 ∧ rmon m = rmons.getD j [] ∧ (j : Int) + 1 = m := ⟨(m - 1).toNat, by omega, rfl, by omega⟩
theorem rmay_is {d : RD} (h : rmay d = true) : 1970 ≤ d.year ∧ d.year ≤ 9999 ∧ 1 ≤ d.month ∧ d.month ≤ 12 ∧ 1 ≤ d.day ∧ d.day ≤ dlong d.year d.month ∧ 0 ≤ d.hour ∧ d.hour ≤ 23 ∧ 0 ≤ d.minute ∧ d.minute ≤ 59 ∧ 0 ≤ d.second ∧ d.second ≤ 59 := by
  unfold rmay at h
  simp only [Bool.and_eq_true, decide_eq_true_eq] at h
  omega
theorem dlong_hi (y m : Int) : dlong y m ≤ 31 := by
  unfold dlong
  split
  · split <;> omega
  · split <;> omega
theorem mon_len (k : Nat) (hk : k < 12) : (rmons.getD k []).length = 3 := by
  have hall : ∀ k < 12, (rmons.getD k []).length = 3 := by decide
  exact hall k hk
theorem drop_past (x t : List UInt8) (n i : Nat) (h : n = x.length + i) : (x ++ t).drop n = t.drop i := by
  subst h
  rw [List.drop_append, List.drop_of_length_le (by omega), List.nil_append]
  congr 1
  omega
end Go.Proofs.YtcgdcbnhpbokfaaGreatDoor
/- The document's dates are the program's: the forms, and both (printed by wip/tools/rdate.py). -/
namespace Go.Proofs.YtcgdcbnhpbokfaaGreatDoor
set_option maxRecDepth 100000

theorem claim0_s {s : List UInt8} {now T : Int} (h : pform dform0 s now = some T) : rmay (rdA s) = true ∧ rfixed (rdA s) = s ∧ T = rtick (rdA s) := by
  obtain ⟨m, hm, q2, q3⟩ := pform_some h
  obtain ⟨k, j, d1, d2, y1, y2, y3, y4, h1, h2, i1, i2, s1, s2, hk, hj, hd1, hd2, hy1, hy2, hy3, hy4, hh1, hh2, hi1, hi2, hs1, hs2, rfl, rfl⟩ := sound0 hm
  obtain ⟨p, q, r, hw⟩ := short_three k hk
  obtain ⟨u, v, x, hmn⟩ := mon_three j hj
  have n1 := dnum2_in hh1 hh2; have n2 := dnum2_in hi1 hi2; have n3 := dnum2_in hs1 hs2
  have ht := tick_is (⟨(k : Int), dnum [d1, d2] 0, (j : Int) + 1, dnum [y1, y2, y3, y4] 0, dnum [h1, h2] 0, dnum [i1, i2] 0, dnum [s1, s2] 0, false⟩ : Mom) now (⟨dnum [y1, y2, y3, y4] 0, (j : Int) + 1, dnum [d1, d2] 0, dnum [h1, h2] 0, dnum [i1, i2] 0, dnum [s1, s2] 0⟩ : RD) rfl ⟨by show (1 : Int) ≤ (j : Int) + 1; omega, by show (j : Int) + 1 ≤ 12; omega⟩ ⟨n1.1, n2.1, n3.1⟩
  rw [ht] at q2 q3
  by_cases hc : rmay (⟨dnum [y1, y2, y3, y4] 0, (j : Int) + 1, dnum [d1, d2] 0, dnum [h1, h2] 0, dnum [i1, i2] 0, dnum [s1, s2] 0⟩ : RD) = true ∧ rcount (⟨dnum [y1, y2, y3, y4] 0, (j : Int) + 1, dnum [d1, d2] 0, dnum [h1, h2] 0, dnum [i1, i2] 0, dnum [s1, s2] 0⟩ : RD) % 7 = (k : Int)
  rotate_left
  · rw [if_neg hc] at q2; cases q2
  rw [if_pos hc] at q3
  have hcd : (rcount (⟨dnum [y1, y2, y3, y4] 0, (j : Int) + 1, dnum [d1, d2] 0, dnum [h1, h2] 0, dnum [i1, i2] 0, dnum [s1, s2] 0⟩ : RD) % 7).toNat = k := by rw [hc.2]; omega
  have eA : rdA ((ddays.getD k []).take 3 ++ (44 :: 32 :: d1 :: d2 :: 32 :: (rmons.getD j [] ++ (32 :: y1 :: y2 :: y3 :: y4 :: 32 :: h1 :: h2 :: 58 :: i1 :: i2 :: 58 :: s1 :: s2 :: 32 :: 71 :: 77 :: 84 :: [])))) = (⟨dnum [y1, y2, y3, y4] 0, (j : Int) + 1, dnum [d1, d2] 0, dnum [h1, h2] 0, dnum [i1, i2] 0, dnum [s1, s2] 0⟩ : RD) := by
    unfold rdA
    rw [hw]
    rw [rmonth_is (n := 8) hj (by rw [hmn]; rfl)]
    rw [hmn]
    rw [rnum_four (n := 12) rfl hy1 hy2 hy3 hy4, rnum_two (n := 5) rfl hd1 hd2, rnum_two (n := 17) rfl hh1 hh2, rnum_two (n := 20) rfl hi1 hi2, rnum_two (n := 23) rfl hs1 hs2]
  rw [eA]
  refine ⟨hc.1, ?_, q3.symm⟩
  unfold rfixed rclock
  rw [rwd_short, hcd, rmon_at]
  simp only [rdig2 hd1 hd2, rdig2 hh1 hh2, rdig2 hi1 hi2, rdig2 hs1 hs2, rdig4 hy1 hy2 hy3 hy4]
  rfl
theorem claim1_s {s : List UInt8} {now T : Int} (h : pform dform1 s now = some T) : 0 ≤ rnum s (rcomma s + 9) 2 ∧ rmay (rdB s now) = true ∧ rold (rdB s now) = s ∧ T = rtick (rdB s now) := by
  obtain ⟨m, hm, q2, q3⟩ := pform_some h
  obtain ⟨k, j, d1, d2, y1, y2, h1, h2, i1, i2, s1, s2, hk, hj, hd1, hd2, hy1, hy2, hh1, hh2, hi1, hi2, hs1, hs2, rfl, rfl⟩ := sound1 hm
  obtain ⟨u, v, x, hmn⟩ := mon_three j hj
  have n1 := dnum2_in hh1 hh2; have n2 := dnum2_in hi1 hi2; have n3 := dnum2_in hs1 hs2
  have ht := tick_is (⟨(k : Int), dnum [d1, d2] 0, (j : Int) + 1, dnum [y1, y2] 0, dnum [h1, h2] 0, dnum [i1, i2] 0, dnum [s1, s2] 0, true⟩ : Mom) now (⟨rnear (dnum [y1, y2] 0) now, (j : Int) + 1, dnum [d1, d2] 0, dnum [h1, h2] 0, dnum [i1, i2] 0, dnum [s1, s2] 0⟩ : RD) rfl ⟨by show (1 : Int) ≤ (j : Int) + 1; omega, by show (j : Int) + 1 ≤ 12; omega⟩ ⟨n1.1, n2.1, n3.1⟩
  rw [ht] at q2 q3
  by_cases hc : rmay (⟨rnear (dnum [y1, y2] 0) now, (j : Int) + 1, dnum [d1, d2] 0, dnum [h1, h2] 0, dnum [i1, i2] 0, dnum [s1, s2] 0⟩ : RD) = true ∧ rcount (⟨rnear (dnum [y1, y2] 0) now, (j : Int) + 1, dnum [d1, d2] 0, dnum [h1, h2] 0, dnum [i1, i2] 0, dnum [s1, s2] 0⟩ : RD) % 7 = (k : Int)
  rotate_left
  · rw [if_neg hc] at q2; cases q2
  rw [if_pos hc] at q3
  have hcd : (rcount (⟨rnear (dnum [y1, y2] 0) now, (j : Int) + 1, dnum [d1, d2] 0, dnum [h1, h2] 0, dnum [i1, i2] 0, dnum [s1, s2] 0⟩ : RD) % 7).toNat = k := by rw [hc.2]; omega
  have hcm := long_plain k hk (32 :: d1 :: d2 :: 45 :: (rmons.getD j [] ++ (45 :: y1 :: y2 :: 32 :: h1 :: h2 :: 58 :: i1 :: i2 :: 58 :: s1 :: s2 :: [32, 71, 77, 84])))
  have hdp : ∀ i, List.drop ((ddays.getD k []).length + i) (ddays.getD k [] ++ (44 :: 32 :: d1 :: d2 :: 45 :: (rmons.getD j [] ++ (45 :: y1 :: y2 :: 32 :: h1 :: h2 :: 58 :: i1 :: i2 :: 58 :: s1 :: s2 :: 32 :: 71 :: 77 :: 84 :: [])))) = List.drop i (44 :: 32 :: d1 :: d2 :: 45 :: (rmons.getD j [] ++ (45 :: y1 :: y2 :: 32 :: h1 :: h2 :: 58 :: i1 :: i2 :: 58 :: s1 :: s2 :: [32, 71, 77, 84]))) := fun i => drop_past _ _ _ i rfl
  have e9 : rnum (ddays.getD k [] ++ (44 :: 32 :: d1 :: d2 :: 45 :: (rmons.getD j [] ++ (45 :: y1 :: y2 :: 32 :: h1 :: h2 :: 58 :: i1 :: i2 :: 58 :: s1 :: s2 :: 32 :: 71 :: 77 :: 84 :: [])))) ((ddays.getD k []).length + 9) 2 = dnum [y1, y2] 0 := rnum_two (by rw [hdp, hmn]; rfl) hy1 hy2
  have eA : rdB (ddays.getD k [] ++ (44 :: 32 :: d1 :: d2 :: 45 :: (rmons.getD j [] ++ (45 :: y1 :: y2 :: 32 :: h1 :: h2 :: 58 :: i1 :: i2 :: 58 :: s1 :: s2 :: 32 :: 71 :: 77 :: 84 :: [])))) now = (⟨rnear (dnum [y1, y2] 0) now, (j : Int) + 1, dnum [d1, d2] 0, dnum [h1, h2] 0, dnum [i1, i2] 0, dnum [s1, s2] 0⟩ : RD) := by
    unfold rdB
    rw [hcm, e9]
    rw [rmonth_is (n := (ddays.getD k []).length + 5) hj (by rw [hdp]; rfl)]
    rw [rnum_two (n := (ddays.getD k []).length + 2) (by rw [hdp]; rfl) hd1 hd2]
    rw [rnum_two (n := (ddays.getD k []).length + 12) (by rw [hdp, hmn]; rfl) hh1 hh2, rnum_two (n := (ddays.getD k []).length + 15) (by rw [hdp, hmn]; rfl) hi1 hi2, rnum_two (n := (ddays.getD k []).length + 18) (by rw [hdp, hmn]; rfl) hs1 hs2]
  rw [eA, hcm, e9]
  refine ⟨(dnum2_in hy1 hy2).1, hc.1, ?_, q3.symm⟩
  unfold rold rclock
  rw [rwd_long, hcd, rmon_at]
  have hyy : rdig 2 (rnear (dnum [y1, y2] 0) now) = [y1, y2] := by
    refine (rdig2_cong (N := dnum [y1, y2] 0) ?_).trans (rdig2 hy1 hy2)
    have := dnum2_in hy1 hy2
    unfold rnear
    omega
  simp only [rdig2 hd1 hd2, rdig2 hh1 hh2, rdig2 hi1 hi2, rdig2 hs1 hs2, hyy]
  rfl
theorem claim2_s {s : List UInt8} {now T : Int} (h : pform dform2 s now = some T) : (rmay (rdC s) = true ∧ rplain (rdC s) false = s ∧ T = rtick (rdC s)) ∨ (rmay (rdC s) = false ∧ rmay (rdE s) = true ∧ rplain (rdE s) true = s ∧ T = rtick (rdE s)) := by
  obtain ⟨m, hm, q2, q3⟩ := pform_some h
  rcases sound2 hm with hs | hs
  · obtain ⟨k, j, d1, h1, h2, i1, i2, s1, s2, y1, y2, y3, y4, hk, hj, hd1, hh1, hh2, hi1, hi2, hs1, hs2, hy1, hy2, hy3, hy4, rfl, rfl⟩ := hs
    obtain ⟨p, q, r, hw⟩ := short_three k hk
    obtain ⟨u, v, x, hmn⟩ := mon_three j hj
    have n1 := dnum2_in hh1 hh2; have n2 := dnum2_in hi1 hi2; have n3 := dnum2_in hs1 hs2
    have ht := tick_is (⟨(k : Int), dnum [d1] 0, (j : Int) + 1, dnum [y1, y2, y3, y4] 0, dnum [h1, h2] 0, dnum [i1, i2] 0, dnum [s1, s2] 0, false⟩ : Mom) now (⟨dnum [y1, y2, y3, y4] 0, (j : Int) + 1, dnum [d1] 0, dnum [h1, h2] 0, dnum [i1, i2] 0, dnum [s1, s2] 0⟩ : RD) rfl ⟨by show (1 : Int) ≤ (j : Int) + 1; omega, by show (j : Int) + 1 ≤ 12; omega⟩ ⟨n1.1, n2.1, n3.1⟩
    rw [ht] at q2 q3
    by_cases hc : rmay (⟨dnum [y1, y2, y3, y4] 0, (j : Int) + 1, dnum [d1] 0, dnum [h1, h2] 0, dnum [i1, i2] 0, dnum [s1, s2] 0⟩ : RD) = true ∧ rcount (⟨dnum [y1, y2, y3, y4] 0, (j : Int) + 1, dnum [d1] 0, dnum [h1, h2] 0, dnum [i1, i2] 0, dnum [s1, s2] 0⟩ : RD) % 7 = (k : Int)
    rotate_left
    · rw [if_neg hc] at q2; cases q2
    rw [if_pos hc] at q3
    have hcd : (rcount (⟨dnum [y1, y2, y3, y4] 0, (j : Int) + 1, dnum [d1] 0, dnum [h1, h2] 0, dnum [i1, i2] 0, dnum [s1, s2] 0⟩ : RD) % 7).toNat = k := by rw [hc.2]; omega
    have eA : rdE ((ddays.getD k []).take 3 ++ (32 :: (rmons.getD j [] ++ (32 :: 32 :: d1 :: 32 :: h1 :: h2 :: 58 :: i1 :: i2 :: 58 :: s1 :: s2 :: 32 :: y1 :: y2 :: y3 :: y4 :: [])))) = (⟨dnum [y1, y2, y3, y4] 0, (j : Int) + 1, dnum [d1] 0, dnum [h1, h2] 0, dnum [i1, i2] 0, dnum [s1, s2] 0⟩ : RD) := by
      unfold rdE
      rw [hw]
      rw [rmonth_is (n := 4) hj (by rw [hmn]; rfl)]
      rw [hmn]
      rw [rnum_four (n := 20) rfl hy1 hy2 hy3 hy4, rnum_one (n := 9) rfl hd1, rnum_two (n := 11) rfl hh1 hh2, rnum_two (n := 14) rfl hi1 hi2, rnum_two (n := 17) rfl hs1 hs2]
    have hno : rmay (rdC ((ddays.getD k []).take 3 ++ (32 :: (rmons.getD j [] ++ (32 :: 32 :: d1 :: 32 :: h1 :: h2 :: 58 :: i1 :: i2 :: 58 :: s1 :: s2 :: 32 :: y1 :: y2 :: y3 :: y4 :: []))))) = false := by
      have e : rnum ((ddays.getD k []).take 3 ++ (32 :: (rmons.getD j [] ++ (32 :: 32 :: d1 :: 32 :: h1 :: h2 :: 58 :: i1 :: i2 :: 58 :: s1 :: s2 :: 32 :: y1 :: y2 :: y3 :: y4 :: [])))) 8 2 = -1 := by rw [hw, hmn]; exact rnum_no (a := 32) rfl (by decide)
      unfold rmay rdC
      simp only [e]
      simp
    rw [eA]
    refine Or.inr ⟨hno, hc.1, ?_, q3.symm⟩
    unfold rplain rclock
    rw [rwd_short, hcd, rmon_at]
    simp only [rdig1 hd1, rdig2 hh1 hh2, rdig2 hi1 hi2, rdig2 hs1 hs2, rdig4 hy1 hy2 hy3 hy4]
    rfl
  · obtain ⟨k, j, d1, d2, h1, h2, i1, i2, s1, s2, y1, y2, y3, y4, hk, hj, hd1, hd2, hh1, hh2, hi1, hi2, hs1, hs2, hy1, hy2, hy3, hy4, rfl, rfl⟩ := hs
    obtain ⟨p, q, r, hw⟩ := short_three k hk
    obtain ⟨u, v, x, hmn⟩ := mon_three j hj
    have n1 := dnum2_in hh1 hh2; have n2 := dnum2_in hi1 hi2; have n3 := dnum2_in hs1 hs2
    have ht := tick_is (⟨(k : Int), dnum [d1, d2] 0, (j : Int) + 1, dnum [y1, y2, y3, y4] 0, dnum [h1, h2] 0, dnum [i1, i2] 0, dnum [s1, s2] 0, false⟩ : Mom) now (⟨dnum [y1, y2, y3, y4] 0, (j : Int) + 1, dnum [d1, d2] 0, dnum [h1, h2] 0, dnum [i1, i2] 0, dnum [s1, s2] 0⟩ : RD) rfl ⟨by show (1 : Int) ≤ (j : Int) + 1; omega, by show (j : Int) + 1 ≤ 12; omega⟩ ⟨n1.1, n2.1, n3.1⟩
    rw [ht] at q2 q3
    by_cases hc : rmay (⟨dnum [y1, y2, y3, y4] 0, (j : Int) + 1, dnum [d1, d2] 0, dnum [h1, h2] 0, dnum [i1, i2] 0, dnum [s1, s2] 0⟩ : RD) = true ∧ rcount (⟨dnum [y1, y2, y3, y4] 0, (j : Int) + 1, dnum [d1, d2] 0, dnum [h1, h2] 0, dnum [i1, i2] 0, dnum [s1, s2] 0⟩ : RD) % 7 = (k : Int)
    rotate_left
    · rw [if_neg hc] at q2; cases q2
    rw [if_pos hc] at q3
    have hcd : (rcount (⟨dnum [y1, y2, y3, y4] 0, (j : Int) + 1, dnum [d1, d2] 0, dnum [h1, h2] 0, dnum [i1, i2] 0, dnum [s1, s2] 0⟩ : RD) % 7).toNat = k := by rw [hc.2]; omega
    have eA : rdC ((ddays.getD k []).take 3 ++ (32 :: (rmons.getD j [] ++ (32 :: d1 :: d2 :: 32 :: h1 :: h2 :: 58 :: i1 :: i2 :: 58 :: s1 :: s2 :: 32 :: y1 :: y2 :: y3 :: y4 :: [])))) = (⟨dnum [y1, y2, y3, y4] 0, (j : Int) + 1, dnum [d1, d2] 0, dnum [h1, h2] 0, dnum [i1, i2] 0, dnum [s1, s2] 0⟩ : RD) := by
      unfold rdC
      rw [hw]
      rw [rmonth_is (n := 4) hj (by rw [hmn]; rfl)]
      rw [hmn]
      rw [rnum_four (n := 20) rfl hy1 hy2 hy3 hy4, rnum_two (n := 8) rfl hd1 hd2, rnum_two (n := 11) rfl hh1 hh2, rnum_two (n := 14) rfl hi1 hi2, rnum_two (n := 17) rfl hs1 hs2]
    rw [eA]
    refine Or.inl ⟨hc.1, ?_, q3.symm⟩
    unfold rplain rclock
    rw [rwd_short, hcd, rmon_at]
    simp only [rdig2 hd1 hd2, rdig2 hh1 hh2, rdig2 hi1 hi2, rdig2 hs1 hs2, rdig4 hy1 hy2 hy3 hy4]
    rfl
theorem claim0_c (d : RD) (now : Int) (h : rmay d = true) : pform dform0 (rfixed d) now = some (rtick d) := by
  obtain ⟨a1, a2, a3, a4, a5, a6, a7, a8, a9, a10, a11, a12⟩ := rmay_is h
  have hl := dlong_hi d.year d.month
  obtain ⟨y1, y2, y3, y4, ry, hy1, hy2, hy3, hy4, ey⟩ := rdig4_is d.year (by omega) (by omega)
  obtain ⟨d1, d2, rd, hd1, hd2, ed⟩ := rdig2_is d.day (by omega) (by omega)
  obtain ⟨h1, h2, rh, hh1, hh2, eh⟩ := rdig2_is d.hour (by omega) (by omega)
  obtain ⟨i1, i2, ri, hi1, hi2, ei⟩ := rdig2_is d.minute (by omega) (by omega)
  obtain ⟨s1, s2, rs, hs1, hs2, es⟩ := rdig2_is d.second (by omega) (by omega)
  obtain ⟨j, hj, rm, em⟩ := rmon_is d.month (by omega) (by omega)
  have hk : (rcount d % 7).toNat < 7 := by omega
  have hkc : (((rcount d % 7).toNat : Nat) : Int) = rcount d % 7 := by omega
  have hp := comp0 hk hj hd1 hd2 hy1 hy2 hy3 hy4 hh1 hh2 hi1 hi2 hs1 hs2
  rw [ey, ed, eh, ei, es, em, hkc] at hp
  unfold rfixed rclock
  rw [rwd_short, rm, rh, ri, rs, ry]
  rw [rd]
  refine pform_of hp ?_
  rw [tick_is _ now d ?_ ⟨by show 1 ≤ d.month; omega, by show d.month ≤ 12; omega⟩ ⟨by show 0 ≤ d.hour; omega, by show 0 ≤ d.minute; omega, by show 0 ≤ d.second; omega⟩]
  · rw [if_pos ⟨h, rfl⟩]
  · rfl
theorem claim1_c (d : RD) (now : Int) (h : rmay d = true) {N : Int} (hy : d.year = rnear N now) : pform dform1 (rold d) now = some (rtick d) := by
  obtain ⟨a1, a2, a3, a4, a5, a6, a7, a8, a9, a10, a11, a12⟩ := rmay_is h
  have hl := dlong_hi d.year d.month
  obtain ⟨y1, y2, ry, hy1, hy2, ey⟩ := rdig2_is (d.year % 100) (by omega) (by omega)
  have ryy : rdig 2 d.year = [y1, y2] := by rw [← ry]; exact rdig2_cong (by omega)
  obtain ⟨d1, d2, rd, hd1, hd2, ed⟩ := rdig2_is d.day (by omega) (by omega)
  obtain ⟨h1, h2, rh, hh1, hh2, eh⟩ := rdig2_is d.hour (by omega) (by omega)
  obtain ⟨i1, i2, ri, hi1, hi2, ei⟩ := rdig2_is d.minute (by omega) (by omega)
  obtain ⟨s1, s2, rs, hs1, hs2, es⟩ := rdig2_is d.second (by omega) (by omega)
  obtain ⟨j, hj, rm, em⟩ := rmon_is d.month (by omega) (by omega)
  have hk : (rcount d % 7).toNat < 7 := by omega
  have hkc : (((rcount d % 7).toNat : Nat) : Int) = rcount d % 7 := by omega
  have hp := comp1 hk hj hd1 hd2 hy1 hy2 hh1 hh2 hi1 hi2 hs1 hs2
  rw [ey, ed, eh, ei, es, em, hkc] at hp
  unfold rold rclock
  rw [rwd_long, rm, rh, ri, rs, ryy]
  rw [rd]
  refine pform_of hp ?_
  rw [tick_is _ now d ?_ ⟨by show 1 ≤ d.month; omega, by show d.month ≤ 12; omega⟩ ⟨by show 0 ≤ d.hour; omega, by show 0 ≤ d.minute; omega, by show 0 ≤ d.second; omega⟩]
  · rw [if_pos ⟨h, rfl⟩]
  · show d = (⟨rnear (d.year % 100) now, d.month, d.day, d.hour, d.minute, d.second⟩ : RD)
    have : rnear (d.year % 100) now = d.year := by
      rw [hy]
      unfold rnear
      omega
    rw [this]
theorem claim2_c (d : RD) (now : Int) (h : rmay d = true) : pform dform2 (rplain d false) now = some (rtick d) := by
  obtain ⟨a1, a2, a3, a4, a5, a6, a7, a8, a9, a10, a11, a12⟩ := rmay_is h
  have hl := dlong_hi d.year d.month
  obtain ⟨y1, y2, y3, y4, ry, hy1, hy2, hy3, hy4, ey⟩ := rdig4_is d.year (by omega) (by omega)
  obtain ⟨d1, d2, rd, hd1, hd2, ed⟩ := rdig2_is d.day (by omega) (by omega)
  obtain ⟨h1, h2, rh, hh1, hh2, eh⟩ := rdig2_is d.hour (by omega) (by omega)
  obtain ⟨i1, i2, ri, hi1, hi2, ei⟩ := rdig2_is d.minute (by omega) (by omega)
  obtain ⟨s1, s2, rs, hs1, hs2, es⟩ := rdig2_is d.second (by omega) (by omega)
  obtain ⟨j, hj, rm, em⟩ := rmon_is d.month (by omega) (by omega)
  have hk : (rcount d % 7).toNat < 7 := by omega
  have hkc : (((rcount d % 7).toNat : Nat) : Int) = rcount d % 7 := by omega
  have hp := comp22 hk hj hd1 hd2 hh1 hh2 hi1 hi2 hs1 hs2 hy1 hy2 hy3 hy4
  rw [ey, ed, eh, ei, es, em, hkc] at hp
  unfold rplain rclock
  rw [rwd_short, rm, rh, ri, rs, ry]
  simp only [cond_false, rd]
  refine pform_of hp ?_
  rw [tick_is _ now d ?_ ⟨by show 1 ≤ d.month; omega, by show d.month ≤ 12; omega⟩ ⟨by show 0 ≤ d.hour; omega, by show 0 ≤ d.minute; omega, by show 0 ≤ d.second; omega⟩]
  · rw [if_pos ⟨h, rfl⟩]
  · rfl
theorem claim2_e (d : RD) (now : Int) (h : rmay d = true) (h9 : d.day ≤ 9) : pform dform2 (rplain d true) now = some (rtick d) := by
  obtain ⟨a1, a2, a3, a4, a5, a6, a7, a8, a9, a10, a11, a12⟩ := rmay_is h
  have hl := dlong_hi d.year d.month
  obtain ⟨y1, y2, y3, y4, ry, hy1, hy2, hy3, hy4, ey⟩ := rdig4_is d.year (by omega) (by omega)
  obtain ⟨d1, rd, hd1, ed⟩ := rdig1_is d.day (by omega) (by omega)
  obtain ⟨h1, h2, rh, hh1, hh2, eh⟩ := rdig2_is d.hour (by omega) (by omega)
  obtain ⟨i1, i2, ri, hi1, hi2, ei⟩ := rdig2_is d.minute (by omega) (by omega)
  obtain ⟨s1, s2, rs, hs1, hs2, es⟩ := rdig2_is d.second (by omega) (by omega)
  obtain ⟨j, hj, rm, em⟩ := rmon_is d.month (by omega) (by omega)
  have hk : (rcount d % 7).toNat < 7 := by omega
  have hkc : (((rcount d % 7).toNat : Nat) : Int) = rcount d % 7 := by omega
  have hp := comp21 hk hj hd1 hh1 hh2 hi1 hi2 hs1 hs2 hy1 hy2 hy3 hy4
  rw [ey, ed, eh, ei, es, em, hkc] at hp
  unfold rplain rclock
  rw [rwd_short, rm, rh, ri, rs, ry]
  simp only [cond_true, rd]
  refine pform_of hp ?_
  rw [tick_is _ now d ?_ ⟨by show 1 ≤ d.month; omega, by show d.month ≤ 12; omega⟩ ⟨by show 0 ≤ d.hour; omega, by show 0 ≤ d.minute; omega, by show 0 ≤ d.second; omega⟩]
  · rw [if_pos ⟨h, rfl⟩]
  · rfl
/-- THE DOCUMENT'S DATE IS THE PROGRAM'S. -/
theorem date_eq (s : List UInt8) (now : Int) : dateP s now = rparse s now := by
  unfold dateP
  rw [dparse_pf, dparse_pf, dparse_pf]
  unfold rparse
  by_cases hA : rmay (rdA s) = true ∧ rfixed (rdA s) = s
  · rw [if_pos hA]
    have h := claim0_c (rdA s) now hA.1
    rw [hA.2] at h
    rw [h]
  · rw [if_neg hA]
    have h0 : pform dform0 s now = none := by
      cases h : pform dform0 s now with
      | none => rfl
      | some T => obtain ⟨h1, h2, _⟩ := claim0_s h; exact absurd ⟨h1, h2⟩ hA
    rw [h0]
    simp only
    by_cases hB : 0 ≤ rnum s (rcomma s + 9) 2 ∧ rmay (rdB s now) = true ∧ rold (rdB s now) = s
    · rw [if_pos hB]
      have h := claim1_c (rdB s now) now hB.2.1 rfl
      rw [hB.2.2] at h
      rw [h]
    · rw [if_neg hB]
      have h1 : pform dform1 s now = none := by
        cases h : pform dform1 s now with
        | none => rfl
        | some T => obtain ⟨h1, h2, h3, _⟩ := claim1_s h; exact absurd ⟨h1, h2, h3⟩ hB
      rw [h1]
      simp only
      by_cases hC : rmay (rdC s) = true ∧ rplain (rdC s) false = s
      · rw [if_pos hC]
        have h := claim2_c (rdC s) now hC.1
        rw [hC.2] at h
        rw [h]
      · rw [if_neg hC]
        by_cases hE : rmay (rdE s) = true ∧ rplain (rdE s) true = s
        · rw [if_pos hE]
          have h := claim2_e (rdE s) now hE.1 (rnum_hi1 _ _)
          rw [hE.2] at h
          rw [h]
        · rw [if_neg hE]
          have h2 : pform dform2 s now = none := by
            cases h : pform dform2 s now with
            | none => rfl
            | some T =>
              rcases claim2_s h with ⟨h1, h2, _⟩ | ⟨_, h1, h2, _⟩
              · exact absurd ⟨h1, h2⟩ hC
              · exact absurd ⟨h1, h2⟩ hE
          rw [h2]
          rfl
end Go.Proofs.YtcgdcbnhpbokfaaGreatDoor
/- How long what is told of a reply may be; its dates are ticks. -/
namespace Go.Proofs.YtcgdcbnhpbokfaaGreatDoor
open Go.RowKit

theorem dlist_lens {vs : List (List UInt8)} {B : Nat} (hv : ∀ v ∈ vs, v.length ≤ B) : ∀ d ∈ dlistL vs, d.name.length ≤ B + 8 ∧ d.value.length ≤ B + 8 := by
  intro d hd
  unfold dlistL at hd
  obtain ⟨v, hv1, hd⟩ := List.mem_flatMap.1 hd
  unfold dirsOf at hd
  obtain ⟨p, hp, hd⟩ := List.mem_filterMap.1 hd
  have hpl : p.length ≤ v.length + 8 := by
    unfold pcsL at hp
    cases hz : ((splitL 44 v).2 == 0)
    · rw [hz, cond_false, List.mem_singleton] at hp
      subst hp
      show 8 ≤ _
      omega
    · rw [hz, cond_true] at hp
      have h1 := total_mem hp
      have h2 := split_total 44 v
      omega
  have h3 := said_lens hd
  have := hv v hv1
  omega
theorem rtick_in {d : RD} (h : rmay d = true) : 0 ≤ rtick d ∧ rtick d ≤ 400000000000 := by
  obtain ⟨h1, h2, h3, h4, h5, h6, h7, h8, h9, h10, h11, h12⟩ := rmay_is h
  have hl := dlong_hi d.year d.month
  have ha := dahead_ge d.year h1
  have hm := dmons_le d.year (d.month.toNat - 1)
  have hk : ((d.month.toNat - 1 : Nat) : Int) ≤ 11 := by omega
  unfold rtick rcount
  generalize dmons d.year (d.month.toNat - 1) = a at *
  generalize dahead d.year = b at *
  omega
theorem dateP_in (s : List UInt8) (now : Int) : 0 ≤ (dateP s now).1 ∧ (dateP s now).1 ≤ 400000000000 := by
  rw [date_eq]
  unfold rparse
  split
  · rename_i h; exact rtick_in h.1
  · split
    · rename_i h; exact rtick_in h.2.1
    · split
      · rename_i h; exact rtick_in h.1
      · split
        · rename_i h; exact rtick_in h.1
        · simp
theorem whenF_in (xs : List Fld) (nm : List UInt8) (got : Int) : 0 ≤ (whenF xs nm got).1 ∧ (whenF xs nm got).1 ≤ 400000000000 := by
  unfold whenF
  cases (getL xs nm).2
  · simp
  · exact dateP_in _ _
end Go.Proofs.YtcgdcbnhpbokfaaGreatDoor
/- Blocks of eight cells. -/
namespace Go.Proofs.YtcgdcbnhpbokfaaGreatDoor
open Go.RowKit
/-- Eight cells of a block. -/
def Box8 (b : Nat) (v0 v1 v2 v3 v4 v5 v6 v7 : Value) (w : World) : Prop :=
  b < w.heap.size ∧ w.cell? ⟨b, 0, none⟩ = some v0 ∧ w.cell? ⟨b, 1, none⟩ = some v1 ∧ w.cell? ⟨b, 2, none⟩ = some v2 ∧ w.cell? ⟨b, 3, none⟩ = some v3 ∧ w.cell? ⟨b, 4, none⟩ = some v4 ∧ w.cell? ⟨b, 5, none⟩ = some v5 ∧ w.cell? ⟨b, 6, none⟩ = some v6 ∧ w.cell? ⟨b, 7, none⟩ = some v7
theorem Box8.below {b : Nat} {v0 v1 v2 v3 v4 v5 v6 v7 : Value} {w w' : World} (h : Box8 b v0 v1 v2 v3 v4 v5 v6 v7 w) (hb : Below w.heap.size w w') : Box8 b v0 v1 v2 v3 v4 v5 v6 v7 w' := by
  obtain ⟨h0, h1, h2, h3, h4, h5, h6, h7, h8⟩ := h
  exact ⟨Nat.lt_of_lt_of_le h0 hb.size, (hb.cell (p := ⟨b, 0, none⟩) h0).trans h1, (hb.cell (p := ⟨b, 1, none⟩) h0).trans h2, (hb.cell (p := ⟨b, 2, none⟩) h0).trans h3, (hb.cell (p := ⟨b, 3, none⟩) h0).trans h4, (hb.cell (p := ⟨b, 4, none⟩) h0).trans h5, (hb.cell (p := ⟨b, 5, none⟩) h0).trans h6, (hb.cell (p := ⟨b, 6, none⟩) h0).trans h7, (hb.cell (p := ⟨b, 7, none⟩) h0).trans h8⟩
theorem heap_setN {w : World} {b j : Nat} {v : Value} {cs : Array Value} {T : TypeId} {m : Nat × Nat} (h : w.heap[b]? = some (.cells cs T m)) : (w.setCell ⟨b, j, none⟩ v).heap[b]? = some (.cells (cs.setIfInBounds j v) T m) := by
  simp [World.setCell, Array.getElem?_modify, h]
def set8 (w5 : World) (g : Nat) (v0 v1 v2 v3 v4 v5 v6 v7 : Value) : World := ((((((((w5.setCell ⟨g, 0, none⟩ v0).setCell ⟨g, 1, none⟩ v1).setCell ⟨g, 2, none⟩ v2).setCell ⟨g, 3, none⟩ v3).setCell ⟨g, 4, none⟩ v4).setCell ⟨g, 5, none⟩ v5).setCell ⟨g, 6, none⟩ v6).setCell ⟨g, 7, none⟩ v7)
theorem setCell_grown (w : World) (g j : Nat) (v : Value) : w.grownBy (w.setCell ⟨g, j, none⟩ v) (some g) :=
  ⟨rfl, rfl, rfl, by simp, fun k _ hne => Below.heap_setCell _ _ _ _ (by exact fun e => hne (by rw [e]))⟩
theorem set8_grown (w5 : World) (g : Nat) (v0 v1 v2 v3 v4 v5 v6 v7 : Value) : w5.grownBy (set8 w5 g v0 v1 v2 v3 v4 v5 v6 v7) (some g) := by
  have h0 := setCell_grown w5 g 0 v0
  have h1 := h0.trans (setCell_grown _ g 1 v1)
  have h2 := h1.trans (setCell_grown _ g 2 v2)
  have h3 := h2.trans (setCell_grown _ g 3 v3)
  have h4 := h3.trans (setCell_grown _ g 4 v4)
  have h5 := h4.trans (setCell_grown _ g 5 v5)
  have h6 := h5.trans (setCell_grown _ g 6 v6)
  have h7 := h6.trans (setCell_grown _ g 7 v7)
  unfold set8
  with_reducible exact h7
theorem set8_below {wr w5 : World} {g : Nat} (h : Below g wr w5) (v0 v1 v2 v3 v4 v5 v6 v7 : Value) : Below g wr (set8 w5 g v0 v1 v2 v3 v4 v5 v6 v7) := by
  unfold set8
  exact (((((((h.setCell (Nat.le_refl _) _).setCell (Nat.le_refl _) _).setCell (Nat.le_refl _) _).setCell (Nat.le_refl _) _).setCell (Nat.le_refl _) _).setCell (Nat.le_refl _) _).setCell (Nat.le_refl _) _).setCell (Nat.le_refl _) _
theorem set8_box {w5 : World} {g : Nat} {z0 z1 z2 z3 z4 z5 z6 z7 : Value} {T : TypeId} (h : w5.heap[g]? = some (.cells #[z0, z1, z2, z3, z4, z5, z6, z7] T (0, 0))) (v0 v1 v2 v3 v4 v5 v6 v7 : Value) : Box8 g v0 v1 v2 v3 v4 v5 v6 v7 (set8 w5 g v0 v1 v2 v3 v4 v5 v6 v7) := by
  have h0 := heap_setN (j := 0) (v := v0) h
  have h1 := heap_setN (j := 1) (v := v1) h0
  have h2 := heap_setN (j := 2) (v := v2) h1
  have h3 := heap_setN (j := 3) (v := v3) h2
  have h4 := heap_setN (j := 4) (v := v4) h3
  have h5 := heap_setN (j := 5) (v := v5) h4
  have h6 := heap_setN (j := 6) (v := v6) h5
  have h7 := heap_setN (j := 7) (v := v7) h6
  clear h0 h1 h2 h3 h4 h5 h6
  have e : (((((((((#[z0, z1, z2, z3, z4, z5, z6, z7] : Array Value).setIfInBounds 0 v0).setIfInBounds 1 v1).setIfInBounds 2 v2).setIfInBounds 3 v3).setIfInBounds 4 v4).setIfInBounds 5 v5).setIfInBounds 6 v6).setIfInBounds 7 v7) = #[v0, v1, v2, v3, v4, v5, v6, v7] := by simp only [List.setIfInBounds_toArray, List.set_cons_zero, List.set_cons_succ]
  rw [e] at h7
  have hs : set8 w5 g v0 v1 v2 v3 v4 v5 v6 v7 = set8 w5 g v0 v1 v2 v3 v4 v5 v6 v7 := rfl
  conv at hs => lhs; unfold set8
  rw [hs] at h7
  generalize set8 w5 g v0 v1 v2 v3 v4 v5 v6 v7 = X at *
  have hc : ∀ j, X.cell? ⟨g, j, none⟩ = #[v0, v1, v2, v3, v4, v5, v6, v7][j]? := fun j => (of_heap h7 j).1
  exact ⟨(of_heap h7 0).2.2, hc 0, hc 1, hc 2, hc 3, hc 4, hc 5, hc 6, hc 7⟩
end Go.Proofs.YtcgdcbnhpbokfaaGreatDoor
