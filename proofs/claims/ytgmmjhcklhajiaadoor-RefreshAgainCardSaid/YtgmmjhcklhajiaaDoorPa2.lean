/- Joined out of the texts Date1, Date2, Date3, Date4, DateOk, Date5 (wip/tools/merge.py). -/
import Derived.Test.YtgmmjhcklhajiaaDoorPa1
import Derived.Test.YtgmmjhcklhajiaaDoorShelf
import Derived.RegionTactic
import Derived.BigRegion
import Derived.Deep.RegionHeld3
/- Dates: the walks of number, name, leap, long, ahead, year, two. -/
namespace Go.Proofs.YtgmmjhcklhajiaaDoor
open Go.RowKit
set_option maxRecDepth 100000

def intD : Value → Int
  | .int _ n => n
  | _ => 0
theorem dgI (c : UInt8) : dg c = (decide (48 ≤ (c.toNat : Int)) && decide ((c.toNat : Int) ≤ 57)) := by
  unfold dg; rw [Bool.eq_iff_iff]; simp; omega
theorem dnum_snoc : ∀ (l : List UInt8) (c : UInt8) (a : Int), dnum (l ++ [c]) a = 10 * dnum l a + ((c.toNat : Int) - 48)
  | [], c, a => rfl
  | x :: r, c, a => by rw [List.cons_append, dnum, dnum, dnum_snoc r c]
theorem dnum_le : ∀ (l : List UInt8), l.all dg = true → ∀ a : Int, 0 ≤ a → 0 ≤ dnum l a ∧ dnum l a < (a + 1) * 10 ^ l.length
  | [], _, a, ha => by simp [dnum]; omega
  | x :: r, h, a, ha => by
    rw [List.all_cons, Bool.and_eq_true] at h
    have hx := h.1
    unfold dg at hx
    simp at hx
    have ih := dnum_le r h.2 (10 * a + ((x.toNat : Int) - 48)) (by omega)
    rw [dnum, List.length_cons, Int.pow_succ]
    refine ⟨ih.1, Int.lt_of_lt_of_le ih.2 ?_⟩
    have h1 : (10 * a + ((x.toNat : Int) - 48) + 1) ≤ (a + 1) * 10 := by omega
    have h2 := Int.mul_le_mul_of_nonneg_right h1 (show (0 : Int) ≤ 10 ^ r.length from Int.le_of_lt (Int.pow_pos (by decide)))
    rw [Int.mul_comm (10 ^ r.length) 10, ← Int.mul_assoc]
    exact h2
set_option maxHeartbeats 4000000 in
theorem dnumber_any (s : ByteArray) (n : Nat) (hn : n ≤ 4) (w : World) :
    Calls Tryd.prog 61 #[.string s, .int .i64 n] w fun e w' => e = .returned (.tuple #[.int .i64 (dnumL s.data.toList n).1, .string ⟨(dnumL s.data.toList n).2.1.toArray⟩, .bool (dnumL s.data.toList n).2.2]) ∧ ∃ q, w' = w.drewN q := by
  obtain ⟨R, hR⟩ : ∃ R, dnumL s.data.toList n = R := ⟨_, rfl⟩
  rw [hR]
  unfold dnumL at hR
  rw [← Lib.size_eq] at hR
  by_cases hlt : s.size < n
  · have hR2 : R = (0, [], false) := by rw [← hR]; simp [hlt]
    subst hR2
    clear hR
    go_enter Tryd.func61, Tryd.ntmps61
    go_wp2
    go_ret3
    exact ⟨rfl, 0, rfl⟩
  · have hd : decide (s.size < n) = false := by simpa using hlt
    rw [hd] at hR
    simp only [cond_false] at hR
    have HR := Lib.hid hR
    clear hR hd
    go_enter Tryd.func61, Tryd.ntmps61
    go_wp2_with fail
    go_loopw [7, 14] (fun k i wr => ∃ j : Nat, j ≤ n ∧ i = .int .i64 j ∧ (∃ v, k = .int .i64 v ∧ Hid (v = dnum (s.data.toList.take j) 0)) ∧ Hid ((s.data.toList.take j).all dg = true) ∧ wr = w) (fun _ i _ => n - (intD i).toNat)
    case atStart => exact ⟨0, Nat.zero_le _, rfl, ⟨0, rfl, Lib.hid (by simp [dnum])⟩, Lib.hid (by simp), rfl⟩
    case round =>
      obtain ⟨j, hj, rfl, ⟨v, rfl, HV⟩, HALL, rfl⟩ := hrel
      by_cases hjn : j < n
      · have hjs : j < s.size := by omega
        have hu := u8_lt s[j]
        have hts := take_snoc s j hjs
        cases hdg : dg s[j]
        · have hbad : ∃ (b : Bool), (s.data.toList.take n).all dg = false := by
            refine ⟨true, ?_⟩
            rw [List.all_eq_false]
            exact ⟨s[j], by rw [List.mem_take_iff_getElem]; exact ⟨j, by rw [← Lib.size_eq]; omega, rfl⟩, by simp [hdg]⟩
          obtain ⟨_, hbad⟩ := hbad
          have hR2 : R = (0, [], false) := by rw [← HR.out, hbad]; rfl
          have hI := dgI s[j]
          rw [hdg] at hI
          subst hR2
          have hcase : (s[j].toNat : Int) < 48 ∨ (¬ (s[j].toNat : Int) < 48 ∧ 57 < (s[j].toNat : Int)) := by
            have := hI
            simp at this
            omega
          clear hI hdg hbad hts HR
          rcases hcase with hc | ⟨hc1, hc2⟩
          · have t1 : decide ((s[j].toNat : Int) < 48) = true := by simpa using hc
            go_wp2
            go_ret3
            exact ⟨rfl, 0, rfl⟩
          · have t1 : decide ((s[j].toNat : Int) < 48) = false := by simpa using hc1
            have t2 : decide ((s[j].toNat : Int) > 57) = true := by simpa using hc2
            go_wp2
            go_ret3
            exact ⟨rfl, 0, rfl⟩
        · have hI := dgI s[j]
          rw [hdg] at hI
          have hc : 48 ≤ (s[j].toNat : Int) ∧ (s[j].toNat : Int) ≤ 57 := by
            have := hI.symm
            simp at this
            omega
          have t1 : decide ((s[j].toNat : Int) < 48) = false := by simp; omega
          have t2 : decide ((s[j].toNat : Int) > 57) = false := by simp; omega
          have hb := dnum_le (s.data.toList.take j) HALL.out 0 (by omega)
          rw [← HV.out] at hb
          have hl4 : (s.data.toList.take j).length ≤ 3 := by rw [List.length_take]; omega
          have hp : ((10 : Int)) ^ (s.data.toList.take j).length ≤ 1000 := by
            generalize (s.data.toList.take j).length = L at hl4
            have h4 : L = 0 ∨ L = 1 ∨ L = 2 ∨ L = 3 := by omega
            rcases h4 with rfl | rfl | rfl | rfl <;> decide
          have hv : 0 ≤ v ∧ v ≤ 1000 := by omega
          have hw1 : IntKind.i64.wrap (10 * v) = 10 * v := by rw [IntKind.wrap_i64]; omega
          have hw2 : IntKind.u8.wrap ((s[j].toNat : Int) - 48) = (s[j].toNat : Int) - 48 := by rw [IntKind.wrap_u8]; omega
          have hw3 : IntKind.i64.wrap ((s[j].toNat : Int) - 48) = (s[j].toNat : Int) - 48 := by rw [IntKind.wrap_i64]; omega
          have hw4 : IntKind.i64.wrap (10 * v + ((s[j].toNat : Int) - 48)) = 10 * v + ((s[j].toNat : Int) - 48) := by rw [IntKind.wrap_i64]; omega
          have hw5 : IntKind.i64.wrap ((j : Int) + 1) = ((j + 1 : Nat) : Int) := by rw [IntKind.wrap_i64]; omega
          have hnext : 10 * v + ((s[j].toNat : Int) - 48) = dnum (s.data.toList.take (j + 1)) 0 := by rw [hts, dnum_snoc, ← HV.out]
          have hall : (s.data.toList.take (j + 1)).all dg = true := by rw [hts, List.all_append, HALL.out]; simp [hdg]
          have HN := Lib.hid hnext; have HA2 := Lib.hid hall
          clear hI hdg hb hp hl4 hnext hall hts HV HALL
          go_wp2
          go_roundw
          case rel => exact ⟨j + 1, hjn, rfl, ⟨_, rfl, HN⟩, HA2, trivial⟩
          case measure => simp [intD]; omega
      · have hjn2 : j = n := by omega
        subst hjn2
        have hR2 : R = (v, s.data.toList.drop j, true) := by rw [← HR.out, HALL.out, ← HV.out]; rfl
        have hns : j ≤ s.size := by omega
        subst hR2
        have hex : s.extract j s.size = ⟨(s.data.toList.drop j).toArray⟩ := by
          apply str_eq
          rw [Lib.extract_data]
          have : (s.data.toList.drop j).length ≤ s.size - j := by rw [List.length_drop, ← Lib.size_eq]; omega
          rw [List.take_of_length_le this]
        have HEX := Lib.hid hex
        clear HR HV HALL hex
        go_wp2
        go_region
        go_wp2
        go_ret3
        exact ⟨by rw [← HEX.out]; rfl, 1, rfl⟩
end Go.Proofs.YtgmmjhcklhajiaaDoor
/- Dates: the walks of leap, long, ahead, year, two. -/
namespace Go.Proofs.YtgmmjhcklhajiaaDoor
open Go.RowKit
set_option maxRecDepth 100000

set_option maxHeartbeats 2000000 in
theorem dleap_any (y : Int) (hy : 0 ≤ y ∧ y ≤ 100000) (w : World) :
    Calls Tryd.prog 51 #[.int .i64 y] w fun e w' => e = .returned (.bool (dleap y)) ∧ w' = w := by
  have e4 : y.tmod 4 = y % 4 := Int.tmod_eq_emod_of_nonneg hy.1
  have e100 : y.tmod 100 = y % 100 := Int.tmod_eq_emod_of_nonneg hy.1
  have e400 : y.tmod 400 = y % 400 := Int.tmod_eq_emod_of_nonneg hy.1
  obtain ⟨R, hR⟩ : ∃ R, dleap y = R := ⟨_, rfl⟩
  rw [hR]
  unfold dleap at hR
  have HR := Lib.hid hR
  clear hR
  by_cases h4 : y % 4 = 0
  · by_cases h100 : y % 100 = 0
    · by_cases h400 : y % 400 = 0
      · have hx : R = true := by rw [← HR.out]; simp [h4, h100, h400]
        subst hx
        clear HR
        go_enter Tryd.func51, Tryd.ntmps51
        go_wp2
        go_ret
        exact ⟨rfl, rfl⟩
      · have hx : R = false := by rw [← HR.out]; simp [h4, h100, h400]
        subst hx
        clear HR
        go_enter Tryd.func51, Tryd.ntmps51
        go_wp2
        go_ret
        exact ⟨by first | rfl | simp [h400], rfl⟩
    · have hx : R = true := by rw [← HR.out]; simp [h4, h100]
      subst hx
      clear HR
      go_enter Tryd.func51, Tryd.ntmps51
      go_wp2
      go_ret
      exact ⟨by first | rfl | simp [h100], rfl⟩
  · have h400 : ¬ y % 400 = 0 := by omega
    have hx : R = false := by rw [← HR.out]; simp [h4, h400]
    subst hx
    clear HR
    go_enter Tryd.func51, Tryd.ntmps51
    go_wp2
    go_ret
    exact ⟨by first | rfl | simp [h400], rfl⟩
set_option maxHeartbeats 2000000 in
theorem dlong_any (y m : Int) (hy : 0 ≤ y ∧ y ≤ 100000) (w : World) :
    Calls Tryd.prog 35 #[.int .i64 y, .int .i64 m] w fun e w' => e = .returned (.int .i64 (dlong y m)) ∧ w' = w := by
  by_cases h2 : m = 2
  · subst h2
    have hx : dlong y 2 = if dleap y = true then 29 else 28 := by unfold dlong; rw [if_pos rfl]
    have k := dleap_any y hy w
    rw [hx]
    generalize dleap y = b at *
    have K := Lib.hid k
    clear k hx
    cases b
    · go_enter Tryd.func35, Tryd.ntmps35
      go_wp2_with fail
      (with_reducible refine K.out.mono ?_)
      rintro e w1 ⟨rfl, rfl⟩
      go_wp2
      go_ret
      exact ⟨rfl, rfl⟩
    · go_enter Tryd.func35, Tryd.ntmps35
      go_wp2_with fail
      (with_reducible refine K.out.mono ?_)
      rintro e w1 ⟨rfl, rfl⟩
      go_wp2
      go_ret
      exact ⟨rfl, rfl⟩
  · by_cases h4 : m = 4 ∨ m = 6 ∨ m = 9 ∨ m = 11
    · have hx : dlong y m = 30 := by unfold dlong; rw [if_neg h2, if_pos h4]
      rw [hx]
      clear hx h2
      rcases h4 with rfl | rfl | rfl | rfl
      all_goals
        go_enter Tryd.func35, Tryd.ntmps35
        go_wp2
        go_ret
        exact ⟨rfl, rfl⟩
    · have hx : dlong y m = 31 := by unfold dlong; rw [if_neg h2, if_neg h4]
      rw [hx]
      have n4 : ¬ m = 4 := fun h => h4 (by simp [h])
      have n6 : ¬ m = 6 := fun h => h4 (by simp [h])
      have n9 : ¬ m = 9 := fun h => h4 (by simp [h])
      have n11 : ¬ m = 11 := fun h => h4 (by simp [h])
      clear hx h4
      go_enter Tryd.func35, Tryd.ntmps35
      go_wp2
      go_ret
      exact ⟨rfl, rfl⟩
set_option maxHeartbeats 2000000 in
theorem dahead_any (y : Int) (hy : 1970 ≤ y ∧ y ≤ 100000) (w : World) :
    Calls Tryd.prog 50 #[.int .i64 y] w fun e w' => e = .returned (.int .i64 (dahead y)) ∧ w' = w := by
  obtain ⟨R, hR⟩ : ∃ R, dahead y = R := ⟨_, rfl⟩
  rw [hR]
  unfold dahead at hR
  have e1 : (y - 1).tdiv 4 = (y - 1) / 4 := Int.tdiv_eq_ediv_of_nonneg (by omega)
  have e2 : (y - 1).tdiv 100 = (y - 1) / 100 := Int.tdiv_eq_ediv_of_nonneg (by omega)
  have e3 : (y - 1).tdiv 400 = (y - 1) / 400 := Int.tdiv_eq_ediv_of_nonneg (by omega)
  have w0 : IntKind.i64.wrap (y - 1) = y - 1 := by rw [IntKind.wrap_i64]; omega
  have w1 : IntKind.i64.wrap (y - 1970) = y - 1970 := by rw [IntKind.wrap_i64]; omega
  have w2 : IntKind.i64.wrap (365 * (y - 1970)) = 365 * (y - 1970) := by rw [IntKind.wrap_i64]; omega
  obtain ⟨a, ha⟩ : ∃ a, (y - 1) / 4 = a := ⟨_, rfl⟩
  obtain ⟨b, hb⟩ : ∃ b, (y - 1) / 100 = b := ⟨_, rfl⟩
  obtain ⟨c, hc⟩ : ∃ c, (y - 1) / 400 = c := ⟨_, rfl⟩
  rw [ha] at e1 hR; rw [hb] at e2 hR; rw [hc] at e3 hR
  have u1 : IntKind.i64.wrap a = a := by rw [IntKind.wrap_i64]; omega
  have u2 : IntKind.i64.wrap b = b := by rw [IntKind.wrap_i64]; omega
  have u3 : IntKind.i64.wrap c = c := by rw [IntKind.wrap_i64]; omega
  have v1 : IntKind.i64.wrap (365 * (y - 1970) + a) = 365 * (y - 1970) + a := by rw [IntKind.wrap_i64]; omega
  have v2 : IntKind.i64.wrap (365 * (y - 1970) + a - b) = 365 * (y - 1970) + a - b := by rw [IntKind.wrap_i64]; omega
  have v3 : IntKind.i64.wrap (365 * (y - 1970) + a - b + c) = 365 * (y - 1970) + a - b + c := by rw [IntKind.wrap_i64]; omega
  have v4 : IntKind.i64.wrap (365 * (y - 1970) + a - b + c - 492) = 365 * (y - 1970) + a - b + c - 492 := by rw [IntKind.wrap_i64]; omega
  have v5 : IntKind.i64.wrap (365 * (y - 1970) + a - b + c - 492 + 19) = 365 * (y - 1970) + a - b + c - 492 + 19 := by rw [IntKind.wrap_i64]; omega
  have v6 : IntKind.i64.wrap (365 * (y - 1970) + a - b + c - 492 + 19 - 4) = 365 * (y - 1970) + a - b + c - 492 + 19 - 4 := by rw [IntKind.wrap_i64]; omega
  have HR := Lib.hid hR
  clear ha hb hc hR
  rw [← HR.out]
  go_enter Tryd.func50, Tryd.ntmps50
  go_wp2
  go_ret
  exact ⟨rfl, rfl⟩
set_option maxHeartbeats 4000000 in
theorem dyear_any (d : Int) (hd : 0 ≤ d ∧ d ≤ 3000000) (w : World) :
    Calls Tryd.prog 34 #[.int .i64 d] w fun e w' => e = .returned (.tuple #[.int .i64 (dyearO d).1, .int .i64 (dyearO d).2]) ∧ w' = w := by
  obtain ⟨R, hR⟩ : ∃ R, dyear 9000 d (1970 + d / 366) = R := ⟨_, rfl⟩
  have hO : dyearO d = (R, d - dahead R) := by unfold dyearO; rw [hR]
  rw [hO]
  have e1 : d.tdiv 366 = d / 366 := Int.tdiv_eq_ediv_of_nonneg hd.1
  obtain ⟨a, ha⟩ : ∃ a, d / 366 = a := ⟨_, rfl⟩
  rw [ha] at e1 hR
  have hab : 0 ≤ a ∧ a ≤ 9000 := by omega
  have w0 : IntKind.i64.wrap a = a := by rw [IntKind.wrap_i64]; omega
  have w1 : IntKind.i64.wrap (1970 + a) = 1970 + a := by rw [IntKind.wrap_i64]; omega
  have hinv0 : dahead (1970 + a) ≤ d := by have := (dahead_ge (1970 + a) (by omega)).2; omega
  have HR := Lib.hid hR
  have HI := Lib.hid hinv0
  clear hR ha hO hinv0
  go_enter Tryd.func34, Tryd.ntmps34
  go_wp2_with fail
  go_loopw [2] (fun v wr => ∃ (y : Int) (f : Nat), v = .int .i64 y ∧ 1970 ≤ y ∧ y ≤ 90000 ∧ Hid (dahead y ≤ d) ∧ Hid (dyear f d y = R) ∧ Hid (d < 365 * (y - 1970) + 365 * f) ∧ wr = w) (fun v _ => 100000 - (intD v).toNat)
  case atStart => exact ⟨1970 + a, 9000, rfl, by omega, by omega, HI, HR, Lib.hid (by omega), rfl⟩
  case round =>
    obtain ⟨y, f, rfl, hy1, hy2, HA, HY, HF, rfl⟩ := hrel
    have hy3 : y ≤ 12000 := by have := (dahead_ge y hy1).1; have := HA.out; omega
    have k1 := dahead_any (y + 1) (by omega) wr
    have k2 := dahead_any y (by omega) wr
    have w2 : IntKind.i64.wrap (y + 1) = y + 1 := by rw [IntKind.wrap_i64]; omega
    have hge := dahead_ge y hy1
    have hge1 := dahead_ge (y + 1) (by omega)
    by_cases hle : dahead (y + 1) ≤ d
    · have hnext : ∃ f', dyear f' d (y + 1) = R ∧ d < 365 * (y + 1 - 1970) + 365 * f' := by
        cases f with
        | zero => have := HF.out; omega
        | succ f =>
          refine ⟨f, ?_, by have := HF.out; omega⟩
          have := HY.out
          rw [dyear, if_pos hle] at this
          exact this
      obtain ⟨f', hn1, hn2⟩ := hnext
      have HN := Lib.hid (And.intro hn1 (And.intro hn2 hle))
      have t1 : decide (dahead (y + 1) ≤ d) = true := by simpa using hle
      have K1 := Lib.hid k1
      clear k1 k2 hge hge1 hn1 hn2 hle HY HF
      go_wp2_with fail
      (with_reducible refine K1.out.mono ?_)
      rintro e w1 ⟨rfl, rfl⟩
      go_wp2
      go_roundw
      case rel => exact ⟨y + 1, f', rfl, by omega, by omega, Lib.hid HN.out.2.2, Lib.hid HN.out.1, Lib.hid HN.out.2.1, trivial⟩
      case measure => simp [intD]; omega
    · have hyR : y = R := by
        have := HY.out
        cases f with
        | zero => exact this
        | succ f => rw [dyear, if_neg hle] at this; exact this
      subst hyR
      have t1 : decide (dahead (y + 1) ≤ d) = false := by simpa using hle
      have w3 : IntKind.i64.wrap (d - dahead y) = d - dahead y := by rw [IntKind.wrap_i64]; omega
      have K1 := Lib.hid k1
      have K2 := Lib.hid k2
      clear k1 k2 hge hge1 hle HY HF
      go_wp2_with fail
      (with_reducible refine K1.out.mono ?_)
      rintro e w1 ⟨rfl, rfl⟩
      go_wp2_with fail
      (with_reducible refine K2.out.mono ?_)
      rintro e w1 ⟨rfl, rfl⟩
      go_wp2
      go_ret2
      exact ⟨rfl, rfl⟩
end Go.Proofs.YtgmmjhcklhajiaaDoor
/- Dates: the walks of name and of the names of the days. -/
namespace Go.Proofs.YtgmmjhcklhajiaaDoor
open Go.RowKit
set_option maxRecDepth 100000

/-- What the library's own texts read. -/
def DEnv (w : World) : Prop := MaxL w ∧ 0 < w.heap.size ∧ Lib.TabIs Tryd.prog w "strings.asciiSpace" .u8 Lib.asciiSpaceTab
theorem var_heap {P : Program} {w w' : World} {name : String} {k : IntKind} {zs : List Int} {g : Nat} (hg : P.globalNamed name = some g) (h : Lib.TabIs P w name k zs) (hb : w'.heap[g]? = w.heap[g]?) : Lib.TabIs P w' name k zs := by
  unfold Lib.TabIs World.var? at *
  rw [hg] at h ⊢
  simp only [Option.bind_some] at h ⊢
  rw [hb]
  exact h
theorem DEnv.below {w w' : World} (h : DEnv w) (hb : Below w.heap.size w w') : DEnv w' :=
  ⟨h.1.below hb, Nat.lt_of_lt_of_le h.2.1 hb.size, var_heap (g := 0) (by kernel_rfl) h.2.2 (hb.block _ h.2.1)⟩
def dayS : ByteArray := ⟨#[84, 104, 117, 114, 115, 100, 97, 121, 32, 70, 114, 105, 100, 97, 121, 32, 83, 97, 116, 117, 114, 100, 97, 121, 32, 83, 117, 110, 100, 97, 121, 32, 77, 111, 110, 100, 97, 121, 32, 84, 117, 101, 115, 100, 97, 121, 32, 87, 101, 100, 110, 101, 115, 100, 97, 121]⟩
theorem fields_days : Lib.fields dayS.data.toList = ddays := by decide +kernel
theorem ddays_any (w : World) (h : DEnv w) :
    Calls Tryd.prog 36 #[.string ⟨#[84, 104, 117, 114, 115, 100, 97, 121, 32, 70, 114, 105, 100, 97, 121, 32, 83, 97, 116, 117, 114, 100, 97, 121, 32, 83, 117, 110, 100, 97, 121, 32, 77, 111, 110, 100, 97, 121, 32, 84, 117, 101, 115, 100, 97, 121, 32, 87, 101, 100, 110, 101, 115, 100, 97, 121]⟩] w fun e w' => e = .returned (.slice (some ⟨w.heap.size, 0, none⟩) 7 7) ∧ Rd (some ⟨w.heap.size, 0, none⟩) 7 1 (strsV ddays) w' ∧ Below w.heap.size w w' := by
  have k := Tryd.strings_Fields dayS w (by decide) (by
    intro j b hb
    have := List.mem_of_getElem? hb
    have hall : (dayS.data.toList.all fun b => decide (b.toNat < 128)) = true := by decide +kernel
    simpa using List.all_eq_true.1 hall b this) h.2.2
  rw [fields_days] at k
  refine k.mono ?_
  rintro e w' ⟨rfl, rfl⟩
  refine ⟨rfl, ⟨rfl, fun _ => ⟨_, 0, rfl, by simp, fun j u hu => ?_⟩⟩, (Below.refl _ w).alloc (Nat.le_refl _) _⟩
  rw [Nat.zero_add, World.cell?_alloc_mark]
  simpa [strsV] using hu
set_option maxHeartbeats 4000000 in
theorem dname0_any (s : ByteArray) (b c : Nat) (w : World) (hr : Rd (some ⟨b, 0, none⟩) 7 1 (strsV ddays) w) :
    Calls Tryd.prog 60 #[.string s, .slice (some ⟨b, 0, none⟩) 7 c, .int .i64 0] w fun e w' => e = .returned (.tuple #[.int .i64 (dname s.data.toList 0 ddays 0).1, .string ⟨(dname s.data.toList 0 ddays 0).2.1.toArray⟩, .bool (dname s.data.toList 0 ddays 0).2.2]) ∧ w' = w := by
  obtain ⟨R, hR⟩ : ∃ R, dname s.data.toList 0 ddays 0 = R := ⟨_, rfl⟩
  rw [hR]
  have hlen : ∀ x ∈ ddays, 3 ≤ x.length := by decide
  have hl7 : ddays.length = 7 := rfl
  have HR := Lib.hid hR; have HRD := Lib.hid hr; have HLEN := Lib.hid hlen; have HL7 := Lib.hid hl7
  clear hR hr hlen hl7
  generalize ddays = ls at *
  go_enter Tryd.func60, Tryd.ntmps60
  go_wp2_with fail
  go_loopw [15] (fun i wr => ∃ j : Nat, j ≤ 7 ∧ i = .int .i64 j ∧ Hid (dname s.data.toList 0 (ls.drop j) j = R) ∧ wr = w) (fun i _ => 7 - (intD i).toNat)
  case atStart => exact ⟨0, Nat.zero_le _, rfl, HR, rfl⟩
  case round =>
    obtain ⟨j, hj, rfl, HD, rfl⟩ := hrel
    by_cases hj7 : j < 7
    · have hjl : j < ls.length := by rw [HL7.out]; exact hj7
      obtain ⟨b', o', e, _, d0⟩ := HRD.out.str_at hjl
      cases e
      have h3 := HLEN.out ls[j] (List.getElem_mem hjl)
      have hdr : ls.drop j = ls[j] :: ls.drop (j + 1) := List.drop_eq_getElem_cons hjl
      have hD := HD.out
      rw [hdr, dname] at hD
      generalize ls[j] = x at *
      obtain ⟨o, rfl⟩ : ∃ o : ByteArray, x = o.data.toList := ⟨⟨x.toArray⟩, by simp⟩
      rw [str_of, Nat.zero_add] at d0
      have i2 : IntKind.i64.wrap ((j : Int) + 1) = ((j + 1 : Nat) : Int) := by rw [IntKind.wrap_i64]; omega
      have j1 : IntKind.i64.wrap (j : Int) = j := by rw [IntKind.wrap_i64]; omega
      simp only [Nat.lt_irrefl, decide_false, cond_false] at hD
      have k1 := Tryd.strings_CutPrefix s o wr
      cases hp : Lib.hasPrefix s.data.toList o.data.toList
      · rw [hp] at hD k1
        simp only [cond_false] at hD
        have HD2 := Lib.hid hD
        have K1 := Lib.hid k1
        clear hD k1 hdr h3 hjl hp HD
        go_wp2_with fail
        (with_reducible refine K1.out.mono ?_)
        rintro e w1 ⟨rfl, rfl⟩
        go_wp2
        go_roundw
        case rel => exact ⟨j + 1, hj7, rfl, HD2, trivial⟩
        case measure => simp [intD]; omega
      · rw [hp] at hD k1
        simp only [cond_true] at hD
        have htp : Lib.trimPrefix s.data.toList o.data.toList = s.data.toList.drop o.data.toList.length := by unfold Lib.trimPrefix; rw [hp]; rfl
        rw [htp] at k1
        have HD2 := Lib.hid hD
        have K1 := Lib.hid k1
        clear hD k1 hdr h3 hjl hp HD htp
        go_wp2_with fail
        (with_reducible refine K1.out.mono ?_)
        rintro e w1 ⟨rfl, rfl⟩
        go_wp2
        go_ret3
        exact ⟨by rw [← HD2.out]; rfl, rfl⟩
    · have hj2 : j = 7 := by omega
      subst hj2
      have hD := HD.out
      rw [List.drop_eq_nil_of_le (by rw [HL7.out]; exact Nat.le_refl _), dname] at hD
      have HD2 := Lib.hid hD
      clear hD
      go_wp2
      go_ret3
      exact ⟨by rw [← HD2.out]; rfl, rfl⟩
set_option maxHeartbeats 4000000 in
theorem dname3_any (s : ByteArray) (b c : Nat) (w : World) (hr : Rd (some ⟨b, 0, none⟩) 7 1 (strsV ddays) w) :
    Calls Tryd.prog 60 #[.string s, .slice (some ⟨b, 0, none⟩) 7 c, .int .i64 3] w fun e w' => e = .returned (.tuple #[.int .i64 (dname s.data.toList 3 ddays 0).1, .string ⟨(dname s.data.toList 3 ddays 0).2.1.toArray⟩, .bool (dname s.data.toList 3 ddays 0).2.2]) ∧ w' = w := by
  obtain ⟨R, hR⟩ : ∃ R, dname s.data.toList 3 ddays 0 = R := ⟨_, rfl⟩
  rw [hR]
  have hlen : ∀ x ∈ ddays, 3 ≤ x.length := by decide
  have hl7 : ddays.length = 7 := rfl
  have HR := Lib.hid hR; have HRD := Lib.hid hr; have HLEN := Lib.hid hlen; have HL7 := Lib.hid hl7
  clear hR hr hlen hl7
  generalize ddays = ls at *
  go_enter Tryd.func60, Tryd.ntmps60
  go_wp2_with fail
  go_loopw [15] (fun i wr => ∃ j : Nat, j ≤ 7 ∧ i = .int .i64 j ∧ Hid (dname s.data.toList 3 (ls.drop j) j = R) ∧ wr = w) (fun i _ => 7 - (intD i).toNat)
  case atStart => exact ⟨0, Nat.zero_le _, rfl, HR, rfl⟩
  case round =>
    obtain ⟨j, hj, rfl, HD, rfl⟩ := hrel
    by_cases hj7 : j < 7
    · have hjl : j < ls.length := by rw [HL7.out]; exact hj7
      obtain ⟨b', o', e, _, d0⟩ := HRD.out.str_at hjl
      cases e
      have h3 := HLEN.out ls[j] (List.getElem_mem hjl)
      have hdr : ls.drop j = ls[j] :: ls.drop (j + 1) := List.drop_eq_getElem_cons hjl
      have hD := HD.out
      rw [hdr, dname] at hD
      generalize ls[j] = x at *
      obtain ⟨o, rfl⟩ : ∃ o : ByteArray, x = o.data.toList := ⟨⟨x.toArray⟩, by simp⟩
      rw [str_of, Nat.zero_add] at d0
      have i2 : IntKind.i64.wrap ((j : Int) + 1) = ((j + 1 : Nat) : Int) := by rw [IntKind.wrap_i64]; omega
      have j1 : IntKind.i64.wrap (j : Int) = j := by rw [IntKind.wrap_i64]; omega
      have hdec : decide (0 < 3) = true := rfl
      simp only [hdec, cond_true] at hD
      have hex : (o.extract 0 3).data.toList = o.data.toList.take 3 := by rw [Lib.extract_data]; simp
      have k1 := Tryd.strings_CutPrefix s (o.extract 0 3) wr
      rw [hex] at k1
      have hl3 : (o.data.toList.take 3).length = 3 := by rw [List.length_take]; omega
      rw [hl3] at hD
      have h3s : 3 ≤ o.size := by rw [Lib.size_eq]; exact h3
      cases hp : Lib.hasPrefix s.data.toList (o.data.toList.take 3)
      · rw [hp] at hD k1
        simp only [cond_false] at hD
        have HD2 := Lib.hid hD
        have K1 := Lib.hid k1
        clear hD k1 hdr h3 hjl hp HD hex hl3
        go_wp2_with fail
        (with_reducible refine K1.out.mono ?_)
        rintro e w1 ⟨rfl, rfl⟩
        go_wp2
        go_roundw
        case rel => exact ⟨j + 1, hj7, rfl, HD2, trivial⟩
        case measure => simp [intD]; omega
      · rw [hp] at hD k1
        simp only [cond_true] at hD
        have htp : Lib.trimPrefix s.data.toList (o.data.toList.take 3) = s.data.toList.drop (o.data.toList.take 3).length := by unfold Lib.trimPrefix; rw [hp]; rfl
        rw [htp, hl3] at k1
        have HD2 := Lib.hid hD
        have K1 := Lib.hid k1
        clear hD k1 hdr h3 hjl hp HD htp hex hl3
        go_wp2_with fail
        (with_reducible refine K1.out.mono ?_)
        rintro e w1 ⟨rfl, rfl⟩
        go_wp2
        go_ret3
        exact ⟨by rw [← HD2.out]; rfl, rfl⟩
    · have hj2 : j = 7 := by omega
      subst hj2
      have hD := HD.out
      rw [List.drop_eq_nil_of_le (by rw [HL7.out]; exact Nat.le_refl _), dname] at hD
      have HD2 := Lib.hid hD
      clear hD
      go_wp2
      go_ret3
      exact ⟨by rw [← HD2.out]; rfl, rfl⟩
end Go.Proofs.YtgmmjhcklhajiaaDoor
/- Dates: the walk of take, piece by piece (printed by wip/tools/date4.py). -/
namespace Go.Proofs.YtgmmjhcklhajiaaDoor
open Go.RowKit
set_option maxRecDepth 100000

/-- Nothing that was there turned, but for this block. -/
def ButB (mb : Nat) (w w' : World) : Prop := w'.os = w.os ∧ w'.tape = w.tape ∧ w'.output = w.output ∧ w.heap.size ≤ w'.heap.size ∧ ∀ b, b < w.heap.size → b ≠ mb → w'.heap[b]? = w.heap[b]?
theorem ButB.refl (mb : Nat) (w : World) : ButB mb w w := ⟨rfl, rfl, rfl, Nat.le_refl _, fun _ _ _ => rfl⟩
theorem ButB.ofBelow {mb : Nat} {w w' : World} (h : Below w.heap.size w w') : ButB mb w w' := ⟨h.os, h.tape, h.output, h.size, fun b hb _ => h.block b hb⟩
theorem ButB.trans {mb : Nat} {w w1 w' : World} (h : ButB mb w w1) (h2 : ButB mb w1 w') : ButB mb w w' :=
  ⟨h2.1.trans h.1, h2.2.1.trans h.2.1, h2.2.2.1.trans h.2.2.1, Nat.le_trans h.2.2.2.1 h2.2.2.2.1, fun b hb hn => (h2.2.2.2.2 b (Nat.lt_of_lt_of_le hb h.2.2.2.1) hn).trans (h.2.2.2.2 b hb hn)⟩
theorem ButB.set (mb j q : Nat) (w : World) (v : Value) : ButB mb w ((w.drewN q).setCell ⟨mb, j, none⟩ v) :=
  ⟨rfl, rfl, rfl, by simp, fun b _ hn => by simp [World.setCell, Array.getElem?_modify]; intro h; exact absurd h.symm hn⟩
theorem ButB.below {mb B : Nat} {w w' : World} (h : ButB mb w w') (hB : B ≤ mb) (hw : B ≤ w.heap.size) : Below B w w' := ⟨h.1, h.2.1, h.2.2.1, h.2.2.2.1, fun b hb => h.2.2.2.2 b (by omega) (by omega)⟩
def MomAt (mb : Nat) (m : Mom) (w : World) : Prop := w.heap[mb]? = some (.cells #[.int .i64 m.wd, .int .i64 m.day, .int .i64 m.month, .int .i64 m.year, .int .i64 m.hour, .int .i64 m.minute, .int .i64 m.second, .bool m.two] 84 (0, 0))
theorem MomAt.lt {mb : Nat} {m : Mom} {w : World} (h : MomAt mb m w) : mb < w.heap.size := by
  unfold MomAt at h
  rcases Nat.lt_or_ge mb w.heap.size with h' | h'
  · exact h'
  · simp [Array.getElem?_eq_none h'] at h
theorem MomAt.cells {mb : Nat} {m : Mom} {w : World} (h : MomAt mb m w) : w.cell? ⟨mb, 0, none⟩ = some (.int .i64 m.wd) ∧ w.cell? ⟨mb, 1, none⟩ = some (.int .i64 m.day) ∧ w.cell? ⟨mb, 2, none⟩ = some (.int .i64 m.month) ∧ w.cell? ⟨mb, 3, none⟩ = some (.int .i64 m.year) ∧ w.cell? ⟨mb, 4, none⟩ = some (.int .i64 m.hour) ∧ w.cell? ⟨mb, 5, none⟩ = some (.int .i64 m.minute) ∧ w.cell? ⟨mb, 6, none⟩ = some (.int .i64 m.second) ∧ w.cell? ⟨mb, 7, none⟩ = some (.bool m.two) ∧ ∀ j, w.frozen? ⟨mb, j, none⟩ = false := by
  unfold MomAt at h
  refine ⟨?_, ?_, ?_, ?_, ?_, ?_, ?_, ?_, fun j => ?_⟩ <;> first | simp [World.cell?, h] | simp [World.frozen?, h]
theorem MomAt.below {mb : Nat} {m : Mom} {w w' : World} (h : MomAt mb m w) (hb : Below w.heap.size w w') : MomAt mb m w' := (hb.block mb h.lt).trans h
theorem MomAt.set0 {mb q : Nat} {m : Mom} {w : World} (h : MomAt mb m w) (v : Int) : MomAt mb { m with wd := v } ((w.drewN q).setCell ⟨mb, 0, none⟩ (.int .i64 v)) := by
  unfold MomAt at *
  simp [World.setCell, Array.getElem?_modify, h]
theorem MomAt.set1 {mb q : Nat} {m : Mom} {w : World} (h : MomAt mb m w) (v : Int) : MomAt mb { m with day := v } ((w.drewN q).setCell ⟨mb, 1, none⟩ (.int .i64 v)) := by
  unfold MomAt at *
  simp [World.setCell, Array.getElem?_modify, h]
theorem MomAt.set2 {mb q : Nat} {m : Mom} {w : World} (h : MomAt mb m w) (v : Int) : MomAt mb { m with month := v } ((w.drewN q).setCell ⟨mb, 2, none⟩ (.int .i64 v)) := by
  unfold MomAt at *
  simp [World.setCell, Array.getElem?_modify, h]
theorem MomAt.set3 {mb q : Nat} {m : Mom} {w : World} (h : MomAt mb m w) (v : Int) : MomAt mb { m with year := v } ((w.drewN q).setCell ⟨mb, 3, none⟩ (.int .i64 v)) := by
  unfold MomAt at *
  simp [World.setCell, Array.getElem?_modify, h]
theorem MomAt.set4 {mb q : Nat} {m : Mom} {w : World} (h : MomAt mb m w) (v : Int) : MomAt mb { m with hour := v } ((w.drewN q).setCell ⟨mb, 4, none⟩ (.int .i64 v)) := by
  unfold MomAt at *
  simp [World.setCell, Array.getElem?_modify, h]
theorem MomAt.set5 {mb q : Nat} {m : Mom} {w : World} (h : MomAt mb m w) (v : Int) : MomAt mb { m with minute := v } ((w.drewN q).setCell ⟨mb, 5, none⟩ (.int .i64 v)) := by
  unfold MomAt at *
  simp [World.setCell, Array.getElem?_modify, h]
theorem MomAt.set6 {mb q : Nat} {m : Mom} {w : World} (h : MomAt mb m w) (v : Int) : MomAt mb { m with second := v } ((w.drewN q).setCell ⟨mb, 6, none⟩ (.int .i64 v)) := by
  unfold MomAt at *
  simp [World.setCell, Array.getElem?_modify, h]
theorem MomAt.set7 {mb q : Nat} {m : Mom} {w : World} (h : MomAt mb m w) (v : Bool) : MomAt mb { m with two := v } ((w.drewN q).setCell ⟨mb, 7, none⟩ (.bool v)) := by
  unfold MomAt at *
  simp [World.setCell, Array.getElem?_modify, h]
set_option maxHeartbeats 4000000 in
theorem dtake68_any (mb : Nat) (m : Mom) (s : ByteArray) (w : World) (_hE : DEnv w) (hm : MomAt mb m w) :
    Calls Tryd.prog 46 #[.pointer (some ⟨mb, 0, none⟩), .int .i32 68, .string s] w fun e w' => e = .returned (.tuple #[.string ⟨(dtake m 68 s.data.toList).2.1.toArray⟩, .bool (dtake m 68 s.data.toList).2.2]) ∧ ButB mb w w' ∧ MomAt mb (dtake m 68 s.data.toList).1 w' := by
  have hd : dtake m 68 s.data.toList = ({ m with day := (dnumL s.data.toList 2).1 }, (dnumL s.data.toList 2).2) := by unfold dtake; simp
  rw [hd]
  have k := dnumber_any s 2 (by decide) w
  rw [show ((2 : Nat) : Int) = 2 from rfl] at k
  generalize dnumL s.data.toList 2 = r at *
  obtain ⟨v, rest, is⟩ := r
  simp only at k ⊢
  obtain ⟨c0, c1, c2, c3, c4, c5, c6, c7, hf⟩ := hm.cells
  have f1 := hf 1
  have K := Lib.hid k; have HM := Lib.hid hm
  clear k hm hd hf
  go_enter Tryd.func46, Tryd.ntmps46
  go_wp2_with fail
  (with_reducible refine K.out.mono ?_)
  rintro e w1 ⟨rfl, q, rfl⟩
  go_wp2
  go_ret2
  exact ⟨rfl, ButB.set mb 1 q w _, HM.out.set1 (q := q) v⟩
set_option maxHeartbeats 4000000 in
theorem dtake89_any (mb : Nat) (m : Mom) (s : ByteArray) (w : World) (_hE : DEnv w) (hm : MomAt mb m w) :
    Calls Tryd.prog 46 #[.pointer (some ⟨mb, 0, none⟩), .int .i32 89, .string s] w fun e w' => e = .returned (.tuple #[.string ⟨(dtake m 89 s.data.toList).2.1.toArray⟩, .bool (dtake m 89 s.data.toList).2.2]) ∧ ButB mb w w' ∧ MomAt mb (dtake m 89 s.data.toList).1 w' := by
  have hd : dtake m 89 s.data.toList = ({ m with year := (dnumL s.data.toList 4).1 }, (dnumL s.data.toList 4).2) := by unfold dtake; simp
  rw [hd]
  have k := dnumber_any s 4 (by decide) w
  rw [show ((4 : Nat) : Int) = 4 from rfl] at k
  generalize dnumL s.data.toList 4 = r at *
  obtain ⟨v, rest, is⟩ := r
  simp only at k ⊢
  obtain ⟨c0, c1, c2, c3, c4, c5, c6, c7, hf⟩ := hm.cells
  have f3 := hf 3
  have K := Lib.hid k; have HM := Lib.hid hm
  clear k hm hd hf
  go_enter Tryd.func46, Tryd.ntmps46
  go_wp2_with fail
  (with_reducible refine K.out.mono ?_)
  rintro e w1 ⟨rfl, q, rfl⟩
  go_wp2
  go_ret2
  exact ⟨rfl, ButB.set mb 3 q w _, HM.out.set3 (q := q) v⟩
set_option maxHeartbeats 4000000 in
theorem dtake121_any (mb : Nat) (m : Mom) (s : ByteArray) (w : World) (_hE : DEnv w) (hm : MomAt mb m w) :
    Calls Tryd.prog 46 #[.pointer (some ⟨mb, 0, none⟩), .int .i32 121, .string s] w fun e w' => e = .returned (.tuple #[.string ⟨(dtake m 121 s.data.toList).2.1.toArray⟩, .bool (dtake m 121 s.data.toList).2.2]) ∧ ButB mb w w' ∧ MomAt mb (dtake m 121 s.data.toList).1 w' := by
  have hd : dtake m 121 s.data.toList = ({ m with year := (dnumL s.data.toList 2).1, two := true }, (dnumL s.data.toList 2).2) := by unfold dtake; simp
  rw [hd]
  have k := dnumber_any s 2 (by decide) w
  rw [show ((2 : Nat) : Int) = 2 from rfl] at k
  generalize dnumL s.data.toList 2 = r at *
  obtain ⟨v, rest, is⟩ := r
  simp only at k ⊢
  obtain ⟨c0, c1, c2, c3, c4, c5, c6, c7, hf⟩ := hm.cells
  have f3 := hf 3
  have f7 := hf 7
  have K := Lib.hid k; have HM := Lib.hid hm
  clear k hm hd hf
  go_enter Tryd.func46, Tryd.ntmps46
  go_wp2_with fail
  (with_reducible refine K.out.mono ?_)
  rintro e w1 ⟨rfl, q, rfl⟩
  have c7' : ((w.drewN q).setCell ⟨mb, 3, none⟩ (.int .i64 v)).cell? ⟨mb, 7, none⟩ = some (.bool m.two) := by
    rw [World.cell?_setCell_other _ _ _ _ (by intro e; cases e)]; exact c7
  have f7' : ((w.drewN q).setCell ⟨mb, 3, none⟩ (.int .i64 v)).frozen? ⟨mb, 7, none⟩ = false := by rw [World.frozen?_setCell]; exact f7
  go_wp2
  go_ret2
  exact ⟨rfl, (ButB.set mb 3 q w _).trans (ButB.set mb 7 0 _ _), MomAt.set7 (q := 0) (HM.out.set3 (q := q) v) true⟩
set_option maxHeartbeats 4000000 in
theorem dtake72_any (mb : Nat) (m : Mom) (s : ByteArray) (w : World) (_hE : DEnv w) (hm : MomAt mb m w) :
    Calls Tryd.prog 46 #[.pointer (some ⟨mb, 0, none⟩), .int .i32 72, .string s] w fun e w' => e = .returned (.tuple #[.string ⟨(dtake m 72 s.data.toList).2.1.toArray⟩, .bool (dtake m 72 s.data.toList).2.2]) ∧ ButB mb w w' ∧ MomAt mb (dtake m 72 s.data.toList).1 w' := by
  have hd : dtake m 72 s.data.toList = ({ m with hour := (dnumL s.data.toList 2).1 }, (dnumL s.data.toList 2).2) := by unfold dtake; simp
  rw [hd]
  have k := dnumber_any s 2 (by decide) w
  rw [show ((2 : Nat) : Int) = 2 from rfl] at k
  generalize dnumL s.data.toList 2 = r at *
  obtain ⟨v, rest, is⟩ := r
  simp only at k ⊢
  obtain ⟨c0, c1, c2, c3, c4, c5, c6, c7, hf⟩ := hm.cells
  have f4 := hf 4
  have K := Lib.hid k; have HM := Lib.hid hm
  clear k hm hd hf
  go_enter Tryd.func46, Tryd.ntmps46
  go_wp2_with fail
  (with_reducible refine K.out.mono ?_)
  rintro e w1 ⟨rfl, q, rfl⟩
  go_wp2
  go_ret2
  exact ⟨rfl, ButB.set mb 4 q w _, HM.out.set4 (q := q) v⟩
set_option maxHeartbeats 4000000 in
theorem dtake73_any (mb : Nat) (m : Mom) (s : ByteArray) (w : World) (_hE : DEnv w) (hm : MomAt mb m w) :
    Calls Tryd.prog 46 #[.pointer (some ⟨mb, 0, none⟩), .int .i32 73, .string s] w fun e w' => e = .returned (.tuple #[.string ⟨(dtake m 73 s.data.toList).2.1.toArray⟩, .bool (dtake m 73 s.data.toList).2.2]) ∧ ButB mb w w' ∧ MomAt mb (dtake m 73 s.data.toList).1 w' := by
  have hd : dtake m 73 s.data.toList = ({ m with minute := (dnumL s.data.toList 2).1 }, (dnumL s.data.toList 2).2) := by unfold dtake; simp
  rw [hd]
  have k := dnumber_any s 2 (by decide) w
  rw [show ((2 : Nat) : Int) = 2 from rfl] at k
  generalize dnumL s.data.toList 2 = r at *
  obtain ⟨v, rest, is⟩ := r
  simp only at k ⊢
  obtain ⟨c0, c1, c2, c3, c4, c5, c6, c7, hf⟩ := hm.cells
  have f5 := hf 5
  have K := Lib.hid k; have HM := Lib.hid hm
  clear k hm hd hf
  go_enter Tryd.func46, Tryd.ntmps46
  go_wp2_with fail
  (with_reducible refine K.out.mono ?_)
  rintro e w1 ⟨rfl, q, rfl⟩
  go_wp2
  go_ret2
  exact ⟨rfl, ButB.set mb 5 q w _, HM.out.set5 (q := q) v⟩
set_option maxHeartbeats 4000000 in
theorem dtake83_any (mb : Nat) (m : Mom) (s : ByteArray) (w : World) (_hE : DEnv w) (hm : MomAt mb m w) :
    Calls Tryd.prog 46 #[.pointer (some ⟨mb, 0, none⟩), .int .i32 83, .string s] w fun e w' => e = .returned (.tuple #[.string ⟨(dtake m 83 s.data.toList).2.1.toArray⟩, .bool (dtake m 83 s.data.toList).2.2]) ∧ ButB mb w w' ∧ MomAt mb (dtake m 83 s.data.toList).1 w' := by
  have hd : dtake m 83 s.data.toList = ({ m with second := (dnumL s.data.toList 2).1 }, (dnumL s.data.toList 2).2) := by unfold dtake; simp
  rw [hd]
  have k := dnumber_any s 2 (by decide) w
  rw [show ((2 : Nat) : Int) = 2 from rfl] at k
  generalize dnumL s.data.toList 2 = r at *
  obtain ⟨v, rest, is⟩ := r
  simp only at k ⊢
  obtain ⟨c0, c1, c2, c3, c4, c5, c6, c7, hf⟩ := hm.cells
  have f6 := hf 6
  have K := Lib.hid k; have HM := Lib.hid hm
  clear k hm hd hf
  go_enter Tryd.func46, Tryd.ntmps46
  go_wp2_with fail
  (with_reducible refine K.out.mono ?_)
  rintro e w1 ⟨rfl, q, rfl⟩
  go_wp2
  go_ret2
  exact ⟨rfl, ButB.set mb 6 q w _, HM.out.set6 (q := q) v⟩
set_option maxHeartbeats 4000000 in
theorem dtake119_any (mb : Nat) (m : Mom) (s : ByteArray) (w : World) (hE : DEnv w) (hm : MomAt mb m w) :
    Calls Tryd.prog 46 #[.pointer (some ⟨mb, 0, none⟩), .int .i32 119, .string s] w fun e w' => e = .returned (.tuple #[.string ⟨(dtake m 119 s.data.toList).2.1.toArray⟩, .bool (dtake m 119 s.data.toList).2.2]) ∧ ButB mb w w' ∧ MomAt mb (dtake m 119 s.data.toList).1 w' := by
  have hd : dtake m 119 s.data.toList = ({ m with wd := (dname s.data.toList 3 ddays 0).1 }, (dname s.data.toList 3 ddays 0).2) := by unfold dtake; simp
  rw [hd]
  have k0 := ddays_any w hE
  have k := fun w' hr => dname3_any s w.heap.size 7 w' hr
  generalize dname s.data.toList 3 ddays 0 = r at *
  obtain ⟨v, rest, is⟩ := r
  simp only at k ⊢
  have K0 := Lib.hid k0; have K := Lib.hid k; have HM := Lib.hid hm
  clear k0 k hm hd hE
  go_enter Tryd.func46, Tryd.ntmps46
  go_wp2_with fail
  (with_reducible refine K0.out.mono ?_)
  rintro e w1 ⟨rfl, hr, hb⟩
  have k1 := K.out w1 hr
  have hm1 := HM.out.below hb
  obtain ⟨c0, _, _, _, _, _, _, _, hf⟩ := hm1.cells
  have f0 := hf 0
  have K1 := Lib.hid k1; have HM1 := Lib.hid hm1; have HB := Lib.hid hb
  clear k1 hm1 hr hb hf
  go_wp2_with fail
  (with_reducible refine K1.out.mono ?_)
  rintro e w2 ⟨rfl, rfl⟩
  go_wp2
  go_ret2
  exact ⟨rfl, (ButB.ofBelow HB.out).trans (ButB.set mb 0 0 _ _), HM1.out.set0 (q := 0) v⟩
set_option maxHeartbeats 4000000 in
theorem dtake87_any (mb : Nat) (m : Mom) (s : ByteArray) (w : World) (hE : DEnv w) (hm : MomAt mb m w) :
    Calls Tryd.prog 46 #[.pointer (some ⟨mb, 0, none⟩), .int .i32 87, .string s] w fun e w' => e = .returned (.tuple #[.string ⟨(dtake m 87 s.data.toList).2.1.toArray⟩, .bool (dtake m 87 s.data.toList).2.2]) ∧ ButB mb w w' ∧ MomAt mb (dtake m 87 s.data.toList).1 w' := by
  have hd : dtake m 87 s.data.toList = ({ m with wd := (dname s.data.toList 0 ddays 0).1 }, (dname s.data.toList 0 ddays 0).2) := by unfold dtake; simp
  rw [hd]
  have k0 := ddays_any w hE
  have k := fun w' hr => dname0_any s w.heap.size 7 w' hr
  generalize dname s.data.toList 0 ddays 0 = r at *
  obtain ⟨v, rest, is⟩ := r
  simp only at k ⊢
  have K0 := Lib.hid k0; have K := Lib.hid k; have HM := Lib.hid hm
  clear k0 k hm hd hE
  go_enter Tryd.func46, Tryd.ntmps46
  go_wp2_with fail
  (with_reducible refine K0.out.mono ?_)
  rintro e w1 ⟨rfl, hr, hb⟩
  have k1 := K.out w1 hr
  have hm1 := HM.out.below hb
  obtain ⟨c0, _, _, _, _, _, _, _, hf⟩ := hm1.cells
  have f0 := hf 0
  have K1 := Lib.hid k1; have HM1 := Lib.hid hm1; have HB := Lib.hid hb
  clear k1 hm1 hr hb hf
  go_wp2_with fail
  (with_reducible refine K1.out.mono ?_)
  rintro e w2 ⟨rfl, rfl⟩
  go_wp2
  go_ret2
  exact ⟨rfl, (ButB.ofBelow HB.out).trans (ButB.set mb 0 0 _ _), HM1.out.set0 (q := 0) v⟩
set_option maxHeartbeats 4000000 in
theorem dtake44_any (mb : Nat) (m : Mom) (s : ByteArray) (w : World) (_hE : DEnv w) (hm : MomAt mb m w) :
    Calls Tryd.prog 46 #[.pointer (some ⟨mb, 0, none⟩), .int .i32 44, .string s] w fun e w' => e = .returned (.tuple #[.string ⟨(dtake m 44 s.data.toList).2.1.toArray⟩, .bool (dtake m 44 s.data.toList).2.2]) ∧ ButB mb w w' ∧ MomAt mb (dtake m 44 s.data.toList).1 w' := by
  have hd : dtake m 44 s.data.toList = (if Lib.hasPrefix s.data.toList [44] = true then (m, s.data.toList.drop 1, true) else (m, s.data.toList, false)) := by unfold dtake; simp
  rw [hd]
  have k := Tryd.strings_CutPrefix s ⟨#[44]⟩ w
  have e1 : (⟨#[44]⟩ : ByteArray).data.toList = [44] := rfl
  rw [e1] at k
  unfold Lib.trimPrefix at k
  rw [show ([44] : List UInt8).length = 1 from rfl] at k
  generalize s.data.toList.drop 1 = dr at *
  cases hp : Lib.hasPrefix s.data.toList [44]
  all_goals
    rw [hp] at k
    simp only [Bool.false_eq_true, if_false, if_true] at k ⊢
    have K := Lib.hid k; have HM := Lib.hid hm
    clear k hm hd hp e1
    go_enter Tryd.func46, Tryd.ntmps46
    go_wp2_with fail
    rw [show Utf8.encode 44 = ⟨#[44]⟩ from by decide +kernel]
    (with_reducible refine K.out.mono ?_)
    rintro e w1 ⟨rfl, rfl⟩
    go_wp2
    go_ret2
    exact ⟨rfl, ButB.refl _ _, HM.out⟩
set_option maxHeartbeats 4000000 in
theorem dtake32_any (mb : Nat) (m : Mom) (s : ByteArray) (w : World) (_hE : DEnv w) (hm : MomAt mb m w) :
    Calls Tryd.prog 46 #[.pointer (some ⟨mb, 0, none⟩), .int .i32 32, .string s] w fun e w' => e = .returned (.tuple #[.string ⟨(dtake m 32 s.data.toList).2.1.toArray⟩, .bool (dtake m 32 s.data.toList).2.2]) ∧ ButB mb w w' ∧ MomAt mb (dtake m 32 s.data.toList).1 w' := by
  have hd : dtake m 32 s.data.toList = (if Lib.hasPrefix s.data.toList [32] = true then (m, s.data.toList.drop 1, true) else (m, s.data.toList, false)) := by unfold dtake; simp
  rw [hd]
  have k := Tryd.strings_CutPrefix s ⟨#[32]⟩ w
  have e1 : (⟨#[32]⟩ : ByteArray).data.toList = [32] := rfl
  rw [e1] at k
  unfold Lib.trimPrefix at k
  rw [show ([32] : List UInt8).length = 1 from rfl] at k
  generalize s.data.toList.drop 1 = dr at *
  cases hp : Lib.hasPrefix s.data.toList [32]
  all_goals
    rw [hp] at k
    simp only [Bool.false_eq_true, if_false, if_true] at k ⊢
    have K := Lib.hid k; have HM := Lib.hid hm
    clear k hm hd hp e1
    go_enter Tryd.func46, Tryd.ntmps46
    go_wp2_with fail
    rw [show Utf8.encode 32 = ⟨#[32]⟩ from by decide +kernel]
    (with_reducible refine K.out.mono ?_)
    rintro e w1 ⟨rfl, rfl⟩
    go_wp2
    go_ret2
    exact ⟨rfl, ButB.refl _ _, HM.out⟩
set_option maxHeartbeats 4000000 in
theorem dtake58_any (mb : Nat) (m : Mom) (s : ByteArray) (w : World) (_hE : DEnv w) (hm : MomAt mb m w) :
    Calls Tryd.prog 46 #[.pointer (some ⟨mb, 0, none⟩), .int .i32 58, .string s] w fun e w' => e = .returned (.tuple #[.string ⟨(dtake m 58 s.data.toList).2.1.toArray⟩, .bool (dtake m 58 s.data.toList).2.2]) ∧ ButB mb w w' ∧ MomAt mb (dtake m 58 s.data.toList).1 w' := by
  have hd : dtake m 58 s.data.toList = (if Lib.hasPrefix s.data.toList [58] = true then (m, s.data.toList.drop 1, true) else (m, s.data.toList, false)) := by unfold dtake; simp
  rw [hd]
  have k := Tryd.strings_CutPrefix s ⟨#[58]⟩ w
  have e1 : (⟨#[58]⟩ : ByteArray).data.toList = [58] := rfl
  rw [e1] at k
  unfold Lib.trimPrefix at k
  rw [show ([58] : List UInt8).length = 1 from rfl] at k
  generalize s.data.toList.drop 1 = dr at *
  cases hp : Lib.hasPrefix s.data.toList [58]
  all_goals
    rw [hp] at k
    simp only [Bool.false_eq_true, if_false, if_true] at k ⊢
    have K := Lib.hid k; have HM := Lib.hid hm
    clear k hm hd hp e1
    go_enter Tryd.func46, Tryd.ntmps46
    go_wp2_with fail
    rw [show Utf8.encode 58 = ⟨#[58]⟩ from by decide +kernel]
    (with_reducible refine K.out.mono ?_)
    rintro e w1 ⟨rfl, rfl⟩
    go_wp2
    go_ret2
    exact ⟨rfl, ButB.refl _ _, HM.out⟩
set_option maxHeartbeats 4000000 in
theorem dtake71_any (mb : Nat) (m : Mom) (s : ByteArray) (w : World) (_hE : DEnv w) (hm : MomAt mb m w) :
    Calls Tryd.prog 46 #[.pointer (some ⟨mb, 0, none⟩), .int .i32 71, .string s] w fun e w' => e = .returned (.tuple #[.string ⟨(dtake m 71 s.data.toList).2.1.toArray⟩, .bool (dtake m 71 s.data.toList).2.2]) ∧ ButB mb w w' ∧ MomAt mb (dtake m 71 s.data.toList).1 w' := by
  have hd : dtake m 71 s.data.toList = (if Lib.hasPrefix s.data.toList [71] = true then (m, s.data.toList.drop 1, true) else (m, s.data.toList, false)) := by unfold dtake; simp
  rw [hd]
  have k := Tryd.strings_CutPrefix s ⟨#[71]⟩ w
  have e1 : (⟨#[71]⟩ : ByteArray).data.toList = [71] := rfl
  rw [e1] at k
  unfold Lib.trimPrefix at k
  rw [show ([71] : List UInt8).length = 1 from rfl] at k
  generalize s.data.toList.drop 1 = dr at *
  cases hp : Lib.hasPrefix s.data.toList [71]
  all_goals
    rw [hp] at k
    simp only [Bool.false_eq_true, if_false, if_true] at k ⊢
    have K := Lib.hid k; have HM := Lib.hid hm
    clear k hm hd hp e1
    go_enter Tryd.func46, Tryd.ntmps46
    go_wp2_with fail
    rw [show Utf8.encode 71 = ⟨#[71]⟩ from by decide +kernel]
    (with_reducible refine K.out.mono ?_)
    rintro e w1 ⟨rfl, rfl⟩
    go_wp2
    go_ret2
    exact ⟨rfl, ButB.refl _ _, HM.out⟩
set_option maxHeartbeats 4000000 in
theorem dtake77_any (mb : Nat) (m : Mom) (s : ByteArray) (w : World) (_hE : DEnv w) (hm : MomAt mb m w) :
    Calls Tryd.prog 46 #[.pointer (some ⟨mb, 0, none⟩), .int .i32 77, .string s] w fun e w' => e = .returned (.tuple #[.string ⟨(dtake m 77 s.data.toList).2.1.toArray⟩, .bool (dtake m 77 s.data.toList).2.2]) ∧ ButB mb w w' ∧ MomAt mb (dtake m 77 s.data.toList).1 w' := by
  have hd : dtake m 77 s.data.toList = (if Lib.hasPrefix s.data.toList [77] = true then (m, s.data.toList.drop 1, true) else (m, s.data.toList, false)) := by unfold dtake; simp
  rw [hd]
  have k := Tryd.strings_CutPrefix s ⟨#[77]⟩ w
  have e1 : (⟨#[77]⟩ : ByteArray).data.toList = [77] := rfl
  rw [e1] at k
  unfold Lib.trimPrefix at k
  rw [show ([77] : List UInt8).length = 1 from rfl] at k
  generalize s.data.toList.drop 1 = dr at *
  cases hp : Lib.hasPrefix s.data.toList [77]
  all_goals
    rw [hp] at k
    simp only [Bool.false_eq_true, if_false, if_true] at k ⊢
    have K := Lib.hid k; have HM := Lib.hid hm
    clear k hm hd hp e1
    go_enter Tryd.func46, Tryd.ntmps46
    go_wp2_with fail
    rw [show Utf8.encode 77 = ⟨#[77]⟩ from by decide +kernel]
    (with_reducible refine K.out.mono ?_)
    rintro e w1 ⟨rfl, rfl⟩
    go_wp2
    go_ret2
    exact ⟨rfl, ButB.refl _ _, HM.out⟩
set_option maxHeartbeats 4000000 in
theorem dtake84_any (mb : Nat) (m : Mom) (s : ByteArray) (w : World) (_hE : DEnv w) (hm : MomAt mb m w) :
    Calls Tryd.prog 46 #[.pointer (some ⟨mb, 0, none⟩), .int .i32 84, .string s] w fun e w' => e = .returned (.tuple #[.string ⟨(dtake m 84 s.data.toList).2.1.toArray⟩, .bool (dtake m 84 s.data.toList).2.2]) ∧ ButB mb w w' ∧ MomAt mb (dtake m 84 s.data.toList).1 w' := by
  have hd : dtake m 84 s.data.toList = (if Lib.hasPrefix s.data.toList [84] = true then (m, s.data.toList.drop 1, true) else (m, s.data.toList, false)) := by unfold dtake; simp
  rw [hd]
  have k := Tryd.strings_CutPrefix s ⟨#[84]⟩ w
  have e1 : (⟨#[84]⟩ : ByteArray).data.toList = [84] := rfl
  rw [e1] at k
  unfold Lib.trimPrefix at k
  rw [show ([84] : List UInt8).length = 1 from rfl] at k
  generalize s.data.toList.drop 1 = dr at *
  cases hp : Lib.hasPrefix s.data.toList [84]
  all_goals
    rw [hp] at k
    simp only [Bool.false_eq_true, if_false, if_true] at k ⊢
    have K := Lib.hid k; have HM := Lib.hid hm
    clear k hm hd hp e1
    go_enter Tryd.func46, Tryd.ntmps46
    go_wp2_with fail
    rw [show Utf8.encode 84 = ⟨#[84]⟩ from by decide +kernel]
    (with_reducible refine K.out.mono ?_)
    rintro e w1 ⟨rfl, rfl⟩
    go_wp2
    go_ret2
    exact ⟨rfl, ButB.refl _ _, HM.out⟩
set_option maxHeartbeats 4000000 in
theorem dtake45_any (mb : Nat) (m : Mom) (s : ByteArray) (w : World) (_hE : DEnv w) (hm : MomAt mb m w) :
    Calls Tryd.prog 46 #[.pointer (some ⟨mb, 0, none⟩), .int .i32 45, .string s] w fun e w' => e = .returned (.tuple #[.string ⟨(dtake m 45 s.data.toList).2.1.toArray⟩, .bool (dtake m 45 s.data.toList).2.2]) ∧ ButB mb w w' ∧ MomAt mb (dtake m 45 s.data.toList).1 w' := by
  have hd : dtake m 45 s.data.toList = (if Lib.hasPrefix s.data.toList [45] = true then (m, s.data.toList.drop 1, true) else (m, s.data.toList, false)) := by unfold dtake; simp
  rw [hd]
  have k := Tryd.strings_CutPrefix s ⟨#[45]⟩ w
  have e1 : (⟨#[45]⟩ : ByteArray).data.toList = [45] := rfl
  rw [e1] at k
  unfold Lib.trimPrefix at k
  rw [show ([45] : List UInt8).length = 1 from rfl] at k
  generalize s.data.toList.drop 1 = dr at *
  cases hp : Lib.hasPrefix s.data.toList [45]
  all_goals
    rw [hp] at k
    simp only [Bool.false_eq_true, if_false, if_true] at k ⊢
    have K := Lib.hid k; have HM := Lib.hid hm
    clear k hm hd hp e1
    go_enter Tryd.func46, Tryd.ntmps46
    go_wp2_with fail
    rw [show Utf8.encode 45 = ⟨#[45]⟩ from by decide +kernel]
    (with_reducible refine K.out.mono ?_)
    rintro e w1 ⟨rfl, rfl⟩
    go_wp2
    go_ret2
    exact ⟨rfl, ButB.refl _ _, HM.out⟩
set_option maxHeartbeats 4000000 in
theorem dtake69_any (mb : Nat) (m : Mom) (s : ByteArray) (w : World) (_hE : DEnv w) (hm : MomAt mb m w) :
    Calls Tryd.prog 46 #[.pointer (some ⟨mb, 0, none⟩), .int .i32 69, .string s] w fun e w' => e = .returned (.tuple #[.string ⟨(dtake m 69 s.data.toList).2.1.toArray⟩, .bool (dtake m 69 s.data.toList).2.2]) ∧ ButB mb w w' ∧ MomAt mb (dtake m 69 s.data.toList).1 w' := by
  have hd : dtake m 69 s.data.toList = (if Lib.hasPrefix s.data.toList [32] = true then ({ m with day := (dnumL (s.data.toList.drop 1) 1).1 }, (dnumL (s.data.toList.drop 1) 1).2) else ({ m with day := (dnumL s.data.toList 2).1 }, (dnumL s.data.toList 2).2)) := by unfold dtake; simp
  rw [hd]
  have k := Tryd.strings_CutPrefix s ⟨#[32]⟩ w
  have e1 : (⟨#[32]⟩ : ByteArray).data.toList = [32] := rfl
  rw [e1] at k
  unfold Lib.trimPrefix at k
  rw [show ([32] : List UInt8).length = 1 from rfl] at k
  have n1 := dnumber_any ⟨(s.data.toList.drop 1).toArray⟩ 1 (by decide) w
  rw [show ((1 : Nat) : Int) = 1 from rfl] at n1
  have n2 := dnumber_any s 2 (by decide) w
  rw [show ((2 : Nat) : Int) = 2 from rfl] at n2
  have e2 : (⟨(s.data.toList.drop 1).toArray⟩ : ByteArray).data.toList = s.data.toList.drop 1 := by simp
  rw [e2] at n1
  generalize s.data.toList.drop 1 = dr at *
  generalize dnumL dr 1 = r1 at *
  generalize dnumL s.data.toList 2 = r2 at *
  obtain ⟨v1, rest1, is1⟩ := r1
  obtain ⟨v2, rest2, is2⟩ := r2
  simp only at n1 n2 ⊢
  obtain ⟨c0, c1, c2, c3, c4, c5, c6, c7, hf⟩ := hm.cells
  have f1 := hf 1
  have N1 := Lib.hid n1; have N2 := Lib.hid n2; have HM := Lib.hid hm
  clear n1 n2 hm hd hf e1 e2
  cases hp : Lib.hasPrefix s.data.toList [32]
  · rw [hp] at k
    simp only [Bool.false_eq_true, if_false] at k ⊢
    have K := Lib.hid k
    clear k hp
    go_enter Tryd.func46, Tryd.ntmps46
    go_wp2_with fail
    (with_reducible refine K.out.mono ?_)
    rintro e w1 ⟨rfl, rfl⟩
    go_wp2_with fail
    (with_reducible refine N2.out.mono ?_)
    rintro e w2 ⟨rfl, q, rfl⟩
    go_wp2
    go_ret2
    exact ⟨rfl, ButB.set mb 1 q _ _, HM.out.set1 (q := q) v2⟩
  · rw [hp] at k
    simp only [if_true] at k ⊢
    have K := Lib.hid k
    clear k hp
    go_enter Tryd.func46, Tryd.ntmps46
    go_wp2_with fail
    (with_reducible refine K.out.mono ?_)
    rintro e w1 ⟨rfl, rfl⟩
    go_wp2_with fail
    (with_reducible refine N1.out.mono ?_)
    rintro e w2 ⟨rfl, q, rfl⟩
    go_wp2
    go_ret2
    exact ⟨rfl, ButB.set mb 1 q _ _, HM.out.set1 (q := q) v1⟩
theorem dindex_range : ∀ (l sub : List UInt8), -1 ≤ Lib.index l sub ∧ Lib.index l sub ≤ l.length
  | [], sub => by unfold Lib.index; split <;> simp
  | b :: l, sub => by
    have ih := dindex_range l sub
    rw [Lib.index, List.length_cons]
    split
    · omega
    · split <;> omega
set_option maxHeartbeats 4000000 in
theorem dtake109_any (mb : Nat) (m : Mom) (s : ByteArray) (w : World) (hE : DEnv w) (hm : MomAt mb m w) :
    Calls Tryd.prog 46 #[.pointer (some ⟨mb, 0, none⟩), .int .i32 109, .string s] w fun e w' => e = .returned (.tuple #[.string ⟨(dtake m 109 s.data.toList).2.1.toArray⟩, .bool (dtake m 109 s.data.toList).2.2]) ∧ ButB mb w w' ∧ MomAt mb (dtake m 109 s.data.toList).1 w' := by
  have hxr := dindex_range dmonths (s.data.toList.take 3)
  have hml : dmonths.length = 36 := rfl
  rw [hml] at hxr
  have hd : dtake m 109 s.data.toList = (if s.data.toList.length < 3 ∨ Lib.index dmonths (s.data.toList.take 3) < 0 ∨ Lib.index dmonths (s.data.toList.take 3) % 3 ≠ 0 then (m, [], false) else ({ m with month := Lib.index dmonths (s.data.toList.take 3) / 3 + 1 }, s.data.toList.drop 3, true)) := by unfold dtake; simp
  rw [hd]
  obtain ⟨c0, c1, c2, c3, c4, c5, c6, c7, hf⟩ := hm.cells
  have f2 := hf 2
  obtain ⟨_, mx, hmx⟩ := hE.1
  have hex : (s.extract 0 3).data.toList = s.data.toList.take 3 := by rw [Lib.extract_data]; simp
  have k := Tryd.strings_Index ⟨#[74, 97, 110, 70, 101, 98, 77, 97, 114, 65, 112, 114, 77, 97, 121, 74, 117, 110, 74, 117, 108, 65, 117, 103, 83, 101, 112, 79, 99, 116, 78, 111, 118, 68, 101, 99]⟩ (s.extract 0 3) mx w (by decide) hmx
  rw [hex, show (⟨#[74, 97, 110, 70, 101, 98, 77, 97, 114, 65, 112, 114, 77, 97, 121, 74, 117, 110, 74, 117, 108, 65, 117, 103, 83, 101, 112, 79, 99, 116, 78, 111, 118, 68, 101, 99]⟩ : ByteArray).data.toList = dmonths from rfl] at k
  rw [← Lib.size_eq]
  have hdr : s.extract 3 s.size = ⟨(s.data.toList.drop 3).toArray⟩ := by
    apply str_eq
    rw [Lib.extract_data]
    have : (s.data.toList.drop 3).length ≤ s.size - 3 := by rw [List.length_drop, ← Lib.size_eq]; omega
    rw [List.take_of_length_le this]
  have HDR := Lib.hid hdr; have HM := Lib.hid hm
  clear hd hex hmx hf hm hE hdr hml
  generalize Lib.index dmonths (s.data.toList.take 3) = at_ at *
  have K := Lib.hid k
  clear k
  by_cases h3 : s.size < 3
  · have t1 : decide ((s.size : Int) ≥ 3) = false := by simp; omega
    rw [if_pos (Or.inl h3)]
    go_enter Tryd.func46, Tryd.ntmps46
    go_wp2
    go_ret2
    exact ⟨rfl, ButB.refl _ _, HM.out⟩
  · have t1 : decide ((s.size : Int) ≥ 3) = true := by simp; omega
    have h3' : 3 ≤ s.size := by omega
    by_cases hneg : at_ < 0
    · rw [if_pos (Or.inr (Or.inl hneg))]
      have t2 : decide (at_ < 0) = true := by simpa using hneg
      go_enter Tryd.func46, Tryd.ntmps46
      go_wp2_with fail
      (with_reducible refine K.out.mono ?_)
      rintro e w1 ⟨rfl, rfl⟩
      go_wp2
      go_ret2
      exact ⟨rfl, ButB.refl _ _, HM.out⟩
    · have t2 : decide (at_ < 0) = false := by simpa using hneg
      have em : at_.tmod 3 = at_ % 3 := Int.tmod_eq_emod_of_nonneg (by omega)
      have ed : at_.tdiv 3 = at_ / 3 := Int.tdiv_eq_ediv_of_nonneg (by omega)
      by_cases hm3 : at_ % 3 = 0
      · rw [if_neg (by omega)]
        obtain ⟨q3, hq3⟩ : ∃ q3, at_ / 3 = q3 := ⟨_, rfl⟩
        have hq4 : 0 ≤ q3 ∧ q3 ≤ 12 := by omega
        rw [hq3] at ed ⊢
        have w1' : IntKind.i64.wrap q3 = q3 := by rw [IntKind.wrap_i64]; omega
        have w2' : IntKind.i64.wrap (q3 + 1) = q3 + 1 := by rw [IntKind.wrap_i64]; omega
        clear hq3
        go_enter Tryd.func46, Tryd.ntmps46
        go_wp2_with fail
        (with_reducible refine K.out.mono ?_)
        rintro e w1 ⟨rfl, rfl⟩
        go_wp2
        go_region
        go_wp2
        go_ret2
        exact ⟨by rw [← HDR.out]; rfl, ButB.set mb 2 1 _ _, HM.out.set2 (q := 1) _⟩
      · rw [if_pos (Or.inr (Or.inr hm3))]
        go_enter Tryd.func46, Tryd.ntmps46
        go_wp2_with fail
        (with_reducible refine K.out.mono ?_)
        rintro e w1 ⟨rfl, rfl⟩
        go_wp2
        go_ret2
        exact ⟨rfl, ButB.refl _ _, HM.out⟩
end Go.Proofs.YtgmmjhcklhajiaaDoor
/- Dates: the walk of tick (printed by wip/tools/date5.py). -/
namespace Go.Proofs.YtgmmjhcklhajiaaDoor
open Go.RowKit
set_option maxRecDepth 100000

/-- What a date's pieces can be. -/
structure MomOk (m : Mom) : Prop where
  wd : 0 ≤ m.wd ∧ m.wd ≤ 6
  day : 0 ≤ m.day ∧ m.day ≤ 9999
  month : 0 ≤ m.month ∧ m.month ≤ 13
  year : 0 ≤ m.year ∧ m.year ≤ 9999
  hour : 0 ≤ m.hour ∧ m.hour ≤ 9999
  minute : 0 ≤ m.minute ∧ m.minute ≤ 9999
  second : 0 ≤ m.second ∧ m.second ≤ 9999
  two : m.two = true → m.year ≤ 99
theorem dlong_le (y m : Int) : 28 ≤ dlong y m ∧ dlong y m ≤ 31 := by
  unfold dlong
  split
  · split <;> omega
  · split <;> omega
theorem dmons_le (y : Int) : ∀ k, 0 ≤ dmons y k ∧ dmons y k ≤ 31 * k
  | 0 => by simp [dmons]
  | k + 1 => by
    have ih := dmons_le y k
    have := dlong_le y (k + 1)
    rw [dmons]; omega
theorem dyear_ge : ∀ (f : Nat) (d y : Int), y ≤ dyear f d y ∧ dyear f d y ≤ y + f
  | 0, d, y => by rw [dyear]; omega
  | f + 1, d, y => by
    rw [dyear]
    split
    · have := dyear_ge f d (y + 1); omega
    · omega
theorem MomAt.drewN {mb : Nat} {m : Mom} {w : World} (h : MomAt mb m w) (q : Nat) : MomAt mb m (w.drewN q) := h
theorem ButB.drewN {mb : Nat} {w w' : World} (h : ButB mb w w') (q : Nat) : ButB mb w (w'.drewN q) := h
def TickPost (mb : Nat) (w : World) (r : Int × Bool) (e : Ending) (w' : World) : Prop := e = .returned (.tuple #[.int .i64 r.1, .bool r.2]) ∧ ButB mb w w'
end Go.Proofs.YtgmmjhcklhajiaaDoor
/- Dates: the walk of tick (printed by wip/tools/date5.py). -/
namespace Go.Proofs.YtgmmjhcklhajiaaDoor
open Go.RowKit
set_option maxRecDepth 100000

set_option maxHeartbeats 32000000 in
theorem dtick_one (mb : Nat) (m : Mom) (now : Int) (w : World) (hm : MomAt mb m w) (ho : MomOk m) (h2 : m.two = false) :
    Calls Tryd.prog 47 #[.pointer (some ⟨mb, 0, none⟩), .int .i64 now] w (TickPost mb w (dtick m now)) := by
  obtain ⟨R, hR⟩ : ∃ R, dtick m now = R := ⟨_, rfl⟩
  rw [hR]
  obtain ⟨Y, hY⟩ : ∃ Y, m.year = Y := ⟨_, rfl⟩
  have hy : dyr m now = Y := by unfold dyr; rw [h2]; exact hY
  obtain ⟨c0, c1, c2, c3, c4, c5, c6, c7, hf⟩ := hm.cells
  rw [hY] at c3
  rw [h2] at c7
  have hYb : 0 ≤ Y ∧ Y ≤ 100000 := by have := ho.year; omega
  have HR0 := Lib.hid hR; have HY := Lib.hid hy; have HO := Lib.hid ho
  have HBT := Lib.hid (ButB.refl mb w)
  obtain ⟨ow1, ow2⟩ := ho.wd
  obtain ⟨od1, od2⟩ := ho.day
  obtain ⟨om1, om2⟩ := ho.month
  obtain ⟨oh1, oh2⟩ := ho.hour
  obtain ⟨on1, on2⟩ := ho.minute
  obtain ⟨os1, os2⟩ := ho.second
  clear hR hy hm ho hf h2 hY
  go_enter Tryd.func47, Tryd.ntmps47
  go_wp2_with fail
  have kl := fun w' => dlong_any Y m.month hYb w'
  have KL := Lib.hid kl
  clear kl
  have hlb := dlong_le Y m.month
  by_cases q1 : Y < 1970
  · have hR2 : R = (0, false) := by rw [← HR0.out]; unfold dtick; rw [HY.out, if_pos (Or.inl q1)]
    have HR := Lib.hid hR2.symm
    clear hR2
    have t1 : decide (Y < 1970) = true := by simpa using q1
    go_wp2
    go_region
    go_wp2
    go_ret2
    exact ⟨by rw [← HR.out]; rfl, HBT.out.drewN 1⟩
  have t1 : decide (Y < 1970) = false := by simpa using q1
  by_cases q2 : Y > 9999
  · have hR2 : R = (0, false) := by rw [← HR0.out]; unfold dtick; rw [HY.out, if_pos (Or.inr (Or.inl q2))]
    have HR := Lib.hid hR2.symm
    clear hR2
    have t2 : decide (Y > 9999) = true := by simpa using q2
    go_wp2
    go_region
    go_wp2
    go_ret2
    exact ⟨by rw [← HR.out]; rfl, HBT.out.drewN 1⟩
  have t2 : decide (Y > 9999) = false := by simpa using q2
  by_cases q3 : m.day < 1
  · have hR2 : R = (0, false) := by rw [← HR0.out]; unfold dtick; rw [HY.out, if_pos (Or.inr (Or.inr (Or.inl q3)))]
    have HR := Lib.hid hR2.symm
    clear hR2
    have t3 : decide (m.day < 1) = true := by simpa using q3
    go_wp2
    go_region
    go_wp2
    go_ret2
    exact ⟨by rw [← HR.out]; rfl, HBT.out.drewN 1⟩
  have t3 : decide (m.day < 1) = false := by simpa using q3
  by_cases q4 : m.day > dlong Y m.month
  · have hR2 : R = (0, false) := by rw [← HR0.out]; unfold dtick; rw [HY.out, if_pos (Or.inr (Or.inr (Or.inr (Or.inl q4))))]
    have HR := Lib.hid hR2.symm
    clear hR2
    have t4 : decide (m.day > dlong Y m.month) = true := by simpa using q4
    go_wp2
    refine wp_region_held_drew (S := (fun w' => w'.cell? ⟨mb, 1, none⟩ = some (.int .i64 m.day) ∧ w'.cell? ⟨mb, 2, none⟩ = some (.int .i64 m.month) ∧ w'.cell? ⟨mb, 3, none⟩ = some (.int .i64 Y) ∧ w'.cell? ⟨mb, 4, none⟩ = some (.int .i64 m.hour) ∧ w'.cell? ⟨mb, 5, none⟩ = some (.int .i64 m.minute) ∧ w'.cell? ⟨mb, 6, none⟩ = some (.int .i64 m.second))) (by kernel_rfl) (⟨c1, c2, c3, c4, c5, c6⟩) (fun hHeld => ?_)
    refine wpAnyH_take (i := 0) (v := ?_) (by simp only [List.getElem?_toArray, List.getElem?_cons_zero]; exact rfl) (by kernel_rfl) (by kernel_rfl) (by kernel_rfl) (by intro _ _ _ h; exact h) (Or.inl ⟨by rfl, fun W hSw => ?_⟩) hHeld ?_
    rotate_left
    focus ((try dsimp only at hSw); first | (go_simp; done) | (go_simp; with_reducible rfl))
    try simp only [Act.put, List.setIfInBounds_toArray, List.set_cons_zero, List.set_cons_succ]
    refine wpAnyH_take (i := 1) (v := ?_) (by simp only [List.getElem?_toArray, List.getElem?_cons_succ, List.getElem?_cons_zero]; exact rfl) (by kernel_rfl) (by kernel_rfl) (by kernel_rfl) (by intro _ _ _ h; exact h) (Or.inl ⟨by rfl, fun W hSw => ?_⟩) hHeld ?_
    rotate_left
    focus ((try dsimp only at hSw); first | (go_simp; done) | (go_simp; with_reducible rfl))
    try simp only [Act.put, List.setIfInBounds_toArray, List.set_cons_zero, List.set_cons_succ]
    refine wpAnyH_take (i := 2) (v := ?_) (by simp only [List.getElem?_toArray, List.getElem?_cons_succ, List.getElem?_cons_zero]; exact rfl) (by kernel_rfl) (by kernel_rfl) (by kernel_rfl) (by intro _ _ _ h; exact h) (Or.inl ⟨by rfl, fun W hSw => ?_⟩) hHeld ?_
    rotate_left
    focus ((try dsimp only at hSw); first | (go_simp; done) | (go_simp; with_reducible rfl))
    try simp only [Act.put, List.setIfInBounds_toArray, List.set_cons_zero, List.set_cons_succ]
    refine wpAnyH_take (i := 3) (v := ?_) (by simp only [List.getElem?_toArray, List.getElem?_cons_succ, List.getElem?_cons_zero]; exact rfl) (by kernel_rfl) (by kernel_rfl) (by kernel_rfl) (by intro _ _ _ h; exact h) (Or.inl ⟨by rfl, fun W hSw => ?_⟩) hHeld ?_
    rotate_left
    focus ((try dsimp only at hSw); first | (go_simp; done) | (go_simp; with_reducible rfl))
    try simp only [Act.put, List.setIfInBounds_toArray, List.set_cons_zero, List.set_cons_succ]
    refine wpAnyH_take (i := 4) (v := ?_) (by simp only [List.getElem?_toArray, List.getElem?_cons_succ, List.getElem?_cons_zero]; exact rfl) (by kernel_rfl) (by kernel_rfl) (by kernel_rfl) (by intro _ _ _ h; exact h) (Or.inl ⟨by rfl, fun W hSw => ?_⟩) hHeld ?_
    rotate_left
    focus ((try dsimp only at hSw); first | (go_simp; done) | (go_simp; with_reducible rfl))
    try simp only [Act.put, List.setIfInBounds_toArray, List.set_cons_zero, List.set_cons_succ]
    refine wpAnyH_take (i := 5) (v := ?_) (by simp only [List.getElem?_toArray, List.getElem?_cons_succ, List.getElem?_cons_zero]; exact rfl) (by kernel_rfl) (by kernel_rfl) (by kernel_rfl) (by intro _ _ _ h; exact h) (Or.inl ⟨by rfl, fun W hSw => ?_⟩) hHeld ?_
    rotate_left
    focus ((try dsimp only at hSw); first | (go_simp; done) | (go_simp; with_reducible rfl))
    try simp only [Act.put, List.setIfInBounds_toArray, List.set_cons_zero, List.set_cons_succ]
    refine wpAnyH_take (i := 6) (v := ?_) (by simp only [List.getElem?_toArray, List.getElem?_cons_succ, List.getElem?_cons_zero]; exact rfl) (by kernel_rfl) (by kernel_rfl) (by kernel_rfl) (by intro _ _ _ h; exact h) (Or.inl ⟨by rfl, fun W hSw => ?_⟩) hHeld ?_
    rotate_left
    focus ((try dsimp only at hSw); first | (go_simp; done) | (go_simp; with_reducible rfl))
    try simp only [Act.put, List.setIfInBounds_toArray, List.set_cons_zero, List.set_cons_succ]
    refine wpAnyH_take (i := 7) (v := ?_) (by simp only [List.getElem?_toArray, List.getElem?_cons_succ, List.getElem?_cons_zero]; exact rfl) (by kernel_rfl) (by kernel_rfl) (by kernel_rfl) (by intro _ _ _ h; exact h) (Or.inl ⟨by rfl, fun W hSw => ?_⟩) hHeld ?_
    rotate_left
    focus ((try dsimp only at hSw); first | (go_simp; done) | (go_simp; with_reducible rfl))
    try simp only [Act.put, List.setIfInBounds_toArray, List.set_cons_zero, List.set_cons_succ]
    refine wpAnyH_take (i := 8) (v := ?_) (by simp only [List.getElem?_toArray, List.getElem?_cons_succ, List.getElem?_cons_zero]; exact rfl) (by kernel_rfl) (by kernel_rfl) (by kernel_rfl) (by intro _ _ _ h; exact h) (Or.inl ⟨by rfl, fun W hSw => ?_⟩) hHeld ?_
    rotate_left
    focus ((try dsimp only at hSw); first | (go_simp; done) | (go_simp; with_reducible rfl))
    try simp only [Act.put, List.setIfInBounds_toArray, List.set_cons_zero, List.set_cons_succ]
    refine wpAnyH_take (i := 9) (v := ?_) (by simp only [List.getElem?_toArray, List.getElem?_cons_succ, List.getElem?_cons_zero]; exact rfl) (by kernel_rfl) (by kernel_rfl) (by kernel_rfl) (by intro _ _ _ h; exact h) (Or.inl ⟨by rfl, fun W hSw => ?_⟩) hHeld ?_
    rotate_left
    focus ((try dsimp only at hSw); first | (go_simp; done) | (go_simp; with_reducible rfl))
    try simp only [Act.put, List.setIfInBounds_toArray, List.set_cons_zero, List.set_cons_succ]
    refine wpAnyH_take (i := 10) (v := ?_) (by simp only [List.getElem?_toArray, List.getElem?_cons_succ, List.getElem?_cons_zero]; exact rfl) (by kernel_rfl) (by kernel_rfl) (by kernel_rfl) (by intro _ _ _ h; exact h) (Or.inl ⟨by rfl, fun W hSw => ?_⟩) hHeld ?_
    rotate_left
    focus ((try dsimp only at hSw); first | (go_simp; done) | (go_simp; with_reducible rfl))
    try simp only [Act.put, List.setIfInBounds_toArray, List.set_cons_zero, List.set_cons_succ]
    refine wpAnyH_take (i := 11) (v := ?_) (by simp only [List.getElem?_toArray, List.getElem?_cons_succ, List.getElem?_cons_zero]; exact rfl) (by kernel_rfl) (by kernel_rfl) (by kernel_rfl) (by intro _ _ _ h; exact h) (Or.inl ⟨by rfl, fun W hSw => ?_⟩) hHeld ?_
    rotate_left
    focus ((try dsimp only at hSw); first | (go_simp; done) | (go_simp; with_reducible rfl))
    try simp only [Act.put, List.setIfInBounds_toArray, List.set_cons_zero, List.set_cons_succ]
    refine wpAnyH_take (i := 12) (v := ?_) (by simp only [List.getElem?_toArray, List.getElem?_cons_succ, List.getElem?_cons_zero]; exact rfl) (by kernel_rfl) (by kernel_rfl) (by kernel_rfl) (by intro _ _ _ h; exact h) (Or.inl ⟨by rfl, fun W hSw => ?_⟩) hHeld ?_
    rotate_left
    focus ((try dsimp only at hSw); first | (go_simp; done) | (go_simp; with_reducible rfl))
    try simp only [Act.put, List.setIfInBounds_toArray, List.set_cons_zero, List.set_cons_succ]
    refine wpAnyH_take (i := 13) (v := ?_) (by simp only [List.getElem?_toArray, List.getElem?_cons_succ, List.getElem?_cons_zero]; exact rfl) (by kernel_rfl) (by kernel_rfl) (by kernel_rfl) (by intro _ _ _ h; exact h) (Or.inl ⟨by rfl, fun W hSw => ?_⟩) hHeld ?_
    rotate_left
    focus ((try dsimp only at hSw); first | (go_simp; done) | (go_simp; with_reducible rfl))
    try simp only [Act.put, List.setIfInBounds_toArray, List.set_cons_zero, List.set_cons_succ]
    refine wpAnyH_take (i := 14) (v := ?_) (by simp only [List.getElem?_toArray, List.getElem?_cons_succ, List.getElem?_cons_zero]; exact rfl) (by kernel_rfl) (by kernel_rfl) (by kernel_rfl) (by intro _ _ _ h; exact h) (Or.inl ⟨by rfl, fun W hSw => ?_⟩) hHeld ?_
    rotate_left
    focus ((try dsimp only at hSw); first | (go_simp; done) | (go_simp; with_reducible rfl))
    try simp only [Act.put, List.setIfInBounds_toArray, List.set_cons_zero, List.set_cons_succ]
    refine wpAnyH_take (i := 15) (v := ?_) (by simp only [List.getElem?_toArray, List.getElem?_cons_succ, List.getElem?_cons_zero]; exact rfl) (by kernel_rfl) (by kernel_rfl) (by kernel_rfl) (by intro _ _ _ h; exact h) (Or.inl ⟨by rfl, fun W hSw => ?_⟩) hHeld ?_
    rotate_left
    focus ((try dsimp only at hSw); first | (go_simp; done) | (go_simp; with_reducible rfl))
    try simp only [Act.put, List.setIfInBounds_toArray, List.set_cons_zero, List.set_cons_succ]
    refine wpAnyH_take (i := 16) (v := ?_) (by simp only [List.getElem?_toArray, List.getElem?_cons_succ, List.getElem?_cons_zero]; exact rfl) (by kernel_rfl) (by kernel_rfl) (by kernel_rfl) (by intro _ _ _ h; exact h) (Or.inl ⟨by rfl, fun W hSw => ?_⟩) hHeld ?_
    rotate_left
    focus ((try dsimp only at hSw); first | (go_simp; done) | (go_simp; with_reducible rfl))
    try simp only [Act.put, List.setIfInBounds_toArray, List.set_cons_zero, List.set_cons_succ]
    refine wpAnyH_take (i := 17) (v := ?_) (by simp only [List.getElem?_toArray, List.getElem?_cons_succ, List.getElem?_cons_zero]; exact rfl) (by kernel_rfl) (by kernel_rfl) (by kernel_rfl) (by intro _ _ _ h; exact h) (Or.inl ⟨by rfl, fun W hSw => ?_⟩) hHeld ?_
    rotate_left
    focus ((try dsimp only at hSw); first | (go_simp; done) | (go_simp; with_reducible rfl))
    try simp only [Act.put, List.setIfInBounds_toArray, List.set_cons_zero, List.set_cons_succ]
    refine wpAnyH_take (i := 18) (v := ?_) (by simp only [List.getElem?_toArray, List.getElem?_cons_succ, List.getElem?_cons_zero]; exact rfl) (by kernel_rfl) (by kernel_rfl) (by kernel_rfl) (by intro _ _ _ h; exact h) (Or.inl ⟨by rfl, fun W hSw => ?_⟩) hHeld ?_
    rotate_left
    focus ((try dsimp only at hSw); first | (go_simp; done) | (go_simp; with_reducible rfl))
    try simp only [Act.put, List.setIfInBounds_toArray, List.set_cons_zero, List.set_cons_succ]
    refine wpAnyH_take (i := 19) (v := ?_) (by simp only [List.getElem?_toArray, List.getElem?_cons_succ, List.getElem?_cons_zero]; exact rfl) (by kernel_rfl) (by kernel_rfl) (by kernel_rfl) (by intro _ _ _ h; exact h) (Or.inl ⟨by rfl, fun W hSw => ?_⟩) hHeld ?_
    rotate_left
    focus ((try dsimp only at hSw); first | (go_simp; done) | (go_simp; with_reducible rfl))
    try simp only [Act.put, List.setIfInBounds_toArray, List.set_cons_zero, List.set_cons_succ]
    refine wpAnyH_take (i := 20) (v := ?_) (by simp only [List.getElem?_toArray, List.getElem?_cons_succ, List.getElem?_cons_zero]; exact rfl) (by kernel_rfl) (by kernel_rfl) (by kernel_rfl) (by intro _ _ _ h; exact h) (Or.inl ⟨by rfl, fun W hSw => ?_⟩) hHeld ?_
    rotate_left
    focus ((try dsimp only at hSw); first | (go_simp; done) | (go_simp; with_reducible rfl))
    try simp only [Act.put, List.setIfInBounds_toArray, List.set_cons_zero, List.set_cons_succ]
    refine wpAnyH_take (i := 21) (v := ?_) (by simp only [List.getElem?_toArray, List.getElem?_cons_succ, List.getElem?_cons_zero]; exact rfl) (by kernel_rfl) (by kernel_rfl) (by kernel_rfl) (by intro _ _ _ h; exact h) (Or.inl ⟨by rfl, fun W hSw => ?_⟩) hHeld ?_
    rotate_left
    focus ((try dsimp only at hSw); first | (go_simp; done) | (go_simp; with_reducible rfl))
    try simp only [Act.put, List.setIfInBounds_toArray, List.set_cons_zero, List.set_cons_succ]
    refine wpAnyH_take (i := 22) (v := ?_) (by simp only [List.getElem?_toArray, List.getElem?_cons_succ, List.getElem?_cons_zero]; exact rfl) (by kernel_rfl) (by kernel_rfl) (by kernel_rfl) (by intro _ _ _ h; exact h) (Or.inl ⟨by rfl, fun W hSw => ?_⟩) hHeld ?_
    rotate_left
    focus ((try dsimp only at hSw); first | (go_simp; done) | (go_simp; with_reducible rfl))
    try simp only [Act.put, List.setIfInBounds_toArray, List.set_cons_zero, List.set_cons_succ]
    refine wpAnyH_take (i := 23) (v := ?_) (by simp only [List.getElem?_toArray, List.getElem?_cons_succ, List.getElem?_cons_zero]; exact rfl) (by kernel_rfl) (by kernel_rfl) (by kernel_rfl) (by intro _ _ _ h; exact h) (Or.inl ⟨by rfl, fun W hSw => ?_⟩) hHeld ?_
    rotate_left
    focus ((try dsimp only at hSw); first | (go_simp; done) | (go_simp; with_reducible rfl))
    try simp only [Act.put, List.setIfInBounds_toArray, List.set_cons_zero, List.set_cons_succ]
    refine wpAnyH_take (i := 24) (v := ?_) (by simp only [List.getElem?_toArray, List.getElem?_cons_succ, List.getElem?_cons_zero]; exact rfl) (by kernel_rfl) (by kernel_rfl) (by kernel_rfl) (by intro _ _ _ h; exact h) (Or.inl ⟨by rfl, fun W hSw => ?_⟩) hHeld ?_
    rotate_left
    focus ((try dsimp only at hSw); first | (go_simp; done) | (go_simp; with_reducible rfl))
    try simp only [Act.put, List.setIfInBounds_toArray, List.set_cons_zero, List.set_cons_succ]
    refine wpAnyH_take (i := 25) (v := ?_) (by simp only [List.getElem?_toArray, List.getElem?_cons_succ, List.getElem?_cons_zero]; exact rfl) (by kernel_rfl) (by kernel_rfl) (by kernel_rfl) (by intro _ _ _ h; exact h) (Or.inl ⟨by rfl, fun W hSw => ?_⟩) hHeld ?_
    rotate_left
    focus ((try dsimp only at hSw); first | (go_simp; done) | (go_simp; with_reducible rfl))
    try simp only [Act.put, List.setIfInBounds_toArray, List.set_cons_zero, List.set_cons_succ]
    refine wpAnyH_take (i := 26) (v := ?_) (by simp only [List.getElem?_toArray, List.getElem?_cons_succ, List.getElem?_cons_zero]; exact rfl) (by kernel_rfl) (by kernel_rfl) (by kernel_rfl) (by intro _ _ _ h; exact h) (Or.inl ⟨by rfl, fun W hSw => ?_⟩) hHeld ?_
    rotate_left
    focus ((try dsimp only at hSw); first | (go_simp; done) | (go_simp; with_reducible rfl))
    try simp only [Act.put, List.setIfInBounds_toArray, List.set_cons_zero, List.set_cons_succ]
    refine wpAnyH_take (i := 27) (v := ?_) (by simp only [List.getElem?_toArray, List.getElem?_cons_succ, List.getElem?_cons_zero]; exact rfl) (by kernel_rfl) (by kernel_rfl) (by kernel_rfl) (by intro _ _ _ h; exact h) (Or.inl ⟨by rfl, fun W hSw => ?_⟩) hHeld ?_
    rotate_left
    focus ((try dsimp only at hSw); first | (go_simp; done) | (go_simp; with_reducible rfl))
    try simp only [Act.put, List.setIfInBounds_toArray, List.set_cons_zero, List.set_cons_succ]
    refine wpAnyH_take (i := 28) (v := ?_) (by simp only [List.getElem?_toArray, List.getElem?_cons_succ, List.getElem?_cons_zero]; exact rfl) (by kernel_rfl) (by kernel_rfl) (by kernel_rfl) (by intro _ _ _ h; exact h) (Or.inl ⟨by rfl, fun W hSw => ?_⟩) hHeld ?_
    rotate_left
    focus ((try dsimp only at hSw); first | (go_simp; done) | (go_simp; with_reducible rfl))
    try simp only [Act.put, List.setIfInBounds_toArray, List.set_cons_zero, List.set_cons_succ]
    refine wpAnyH_take (i := 29) (v := ?_) (by simp only [List.getElem?_toArray, List.getElem?_cons_succ, List.getElem?_cons_zero]; exact rfl) (by kernel_rfl) (by kernel_rfl) (by kernel_rfl) (by intro _ _ _ h; exact h) (Or.inl ⟨by rfl, fun W hSw => ?_⟩) hHeld ?_
    rotate_left
    focus ((try dsimp only at hSw); first | (go_simp; done) | (go_simp; with_reducible rfl))
    try simp only [Act.put, List.setIfInBounds_toArray, List.set_cons_zero, List.set_cons_succ]
    refine wpAnyH_take (i := 30) (v := ?_) (by simp only [List.getElem?_toArray, List.getElem?_cons_succ, List.getElem?_cons_zero]; exact rfl) (by kernel_rfl) (by kernel_rfl) (by kernel_rfl) (by intro _ _ _ h; exact h) (Or.inl ⟨by rfl, fun W hSw => ?_⟩) hHeld ?_
    rotate_left
    focus ((try dsimp only at hSw); first | (go_simp; done) | (go_simp; with_reducible rfl))
    try simp only [Act.put, List.setIfInBounds_toArray, List.set_cons_zero, List.set_cons_succ]
    refine wpAnyH_take (i := 31) (v := ?_) (by simp only [List.getElem?_toArray, List.getElem?_cons_succ, List.getElem?_cons_zero]; exact rfl) (by kernel_rfl) (by kernel_rfl) (by kernel_rfl) (by intro _ _ _ h; exact h) (Or.inl ⟨by rfl, fun W hSw => ?_⟩) hHeld ?_
    rotate_left
    focus ((try dsimp only at hSw); first | (go_simp; done) | (go_simp; with_reducible rfl))
    try simp only [Act.put, List.setIfInBounds_toArray, List.set_cons_zero, List.set_cons_succ]
    refine wpAnyH_ready (rs := [32]) (by kernel_rfl) (by simp) (AllReadyH.cons (by simp only [List.getElem?_toArray, List.getElem?_cons_succ, List.getElem?_cons_zero]; exact rfl) (fun K hK => ?_) AllReadyH.nil)
    rw [if_pos (by rfl)]
    go_simp
    refine (KL.out _).mono ?_; rintro e wl ⟨rfl, rfl⟩; go_wp2_with fail
    refine hK.out _ _ (hHeld) (fun hHeld => ?_)
    clear hK K
    try simp only [Act.put, List.setIfInBounds_toArray, List.set_cons_zero, List.set_cons_succ]
    refine wpAnyH_take (i := 33) (v := ?_) (by simp only [List.getElem?_toArray, List.getElem?_cons_succ, List.getElem?_cons_zero]; exact rfl) (by kernel_rfl) (by kernel_rfl) (by kernel_rfl) (by intro _ _ _ h; exact h) (Or.inl ⟨by rfl, fun W hSw => ?_⟩) hHeld ?_
    rotate_left
    focus ((try dsimp only at hSw); first | (go_simp; done) | (go_simp; with_reducible rfl))
    try simp only [Act.put, List.setIfInBounds_toArray, List.set_cons_zero, List.set_cons_succ]
    refine wpAnyH_take (i := 34) (v := ?_) (by simp only [List.getElem?_toArray, List.getElem?_cons_succ, List.getElem?_cons_zero]; exact rfl) (by kernel_rfl) (by kernel_rfl) (by kernel_rfl) (by intro _ _ _ h; exact h) (Or.inl ⟨by rfl, fun W hSw => ?_⟩) hHeld ?_
    rotate_left
    focus ((try dsimp only at hSw); first | (go_simp; done) | (go_simp; with_reducible rfl))
    try simp only [Act.put, List.setIfInBounds_toArray, List.set_cons_zero, List.set_cons_succ]
    refine wpAnyH_take (i := 35) (v := ?_) (by simp only [List.getElem?_toArray, List.getElem?_cons_succ, List.getElem?_cons_zero]; exact rfl) (by kernel_rfl) (by kernel_rfl) (by kernel_rfl) (by intro _ _ _ h; exact h) (Or.inl ⟨by rfl, fun W hSw => ?_⟩) hHeld ?_
    rotate_left
    focus ((try dsimp only at hSw); first | (go_simp; done) | (go_simp; with_reducible rfl))
    try simp only [Act.put, List.setIfInBounds_toArray, List.set_cons_zero, List.set_cons_succ]
    refine wpAnyH_take (i := 36) (v := undef) (by simp only [List.getElem?_toArray, List.getElem?_cons_succ, List.getElem?_cons_zero]; exact rfl) (by kernel_rfl) (by kernel_rfl) (by kernel_rfl) (by intro _ _ _ h; exact h) (Or.inr ⟨by rfl, rfl⟩) hHeld ?_
    try simp only [Act.put, List.setIfInBounds_toArray, List.set_cons_zero, List.set_cons_succ]
    refine wpAnyH_take (i := 37) (v := undef) (by simp only [List.getElem?_toArray, List.getElem?_cons_succ, List.getElem?_cons_zero]; exact rfl) (by kernel_rfl) (by kernel_rfl) (by kernel_rfl) (by intro _ _ _ h; exact h) (Or.inr ⟨by rfl, rfl⟩) hHeld ?_
    try simp only [Act.put, List.setIfInBounds_toArray, List.set_cons_zero, List.set_cons_succ]
    refine wpAnyH_take (i := 38) (v := undef) (by simp only [List.getElem?_toArray, List.getElem?_cons_succ, List.getElem?_cons_zero]; exact rfl) (by kernel_rfl) (by kernel_rfl) (by kernel_rfl) (by intro _ _ _ h; exact h) (Or.inr ⟨by rfl, rfl⟩) hHeld ?_
    try simp only [Act.put, List.setIfInBounds_toArray, List.set_cons_zero, List.set_cons_succ]
    refine wpAnyH_take (i := 39) (v := undef) (by simp only [List.getElem?_toArray, List.getElem?_cons_succ, List.getElem?_cons_zero]; exact rfl) (by kernel_rfl) (by kernel_rfl) (by kernel_rfl) (by intro _ _ _ h; exact h) (Or.inr ⟨by rfl, rfl⟩) hHeld ?_
    try simp only [Act.put, List.setIfInBounds_toArray, List.set_cons_zero, List.set_cons_succ]
    refine wpAnyH_take (i := 40) (v := undef) (by simp only [List.getElem?_toArray, List.getElem?_cons_succ, List.getElem?_cons_zero]; exact rfl) (by kernel_rfl) (by kernel_rfl) (by kernel_rfl) (by intro _ _ _ h; exact h) (Or.inr ⟨by rfl, rfl⟩) hHeld ?_
    try simp only [Act.put, List.setIfInBounds_toArray, List.set_cons_zero, List.set_cons_succ]
    refine wpAnyH_take (i := 41) (v := ?_) (by simp only [List.getElem?_toArray, List.getElem?_cons_succ, List.getElem?_cons_zero]; exact rfl) (by kernel_rfl) (by kernel_rfl) (by kernel_rfl) (by intro _ _ _ h; exact h) (Or.inl ⟨by rfl, fun W hSw => ?_⟩) hHeld ?_
    rotate_left
    focus ((try dsimp only at hSw); first | (go_simp; done) | (go_simp; with_reducible rfl))
    try simp only [Act.put, List.setIfInBounds_toArray, List.set_cons_zero, List.set_cons_succ]
    refine wpAnyH_take (i := 42) (v := ?_) (by simp only [List.getElem?_toArray, List.getElem?_cons_succ, List.getElem?_cons_zero]; exact rfl) (by kernel_rfl) (by kernel_rfl) (by kernel_rfl) (by intro _ _ _ h; exact h) (Or.inl ⟨by rfl, fun W hSw => ?_⟩) hHeld ?_
    rotate_left
    focus ((try dsimp only at hSw); first | (go_simp; done) | (go_simp; with_reducible rfl))
    try simp only [Act.put, List.setIfInBounds_toArray, List.set_cons_zero, List.set_cons_succ]
    refine wpAnyH_take (i := 43) (v := undef) (by simp only [List.getElem?_toArray, List.getElem?_cons_succ, List.getElem?_cons_zero]; exact rfl) (by kernel_rfl) (by kernel_rfl) (by kernel_rfl) (by intro _ _ _ h; exact h) (Or.inr ⟨by rfl, rfl⟩) hHeld ?_
    try simp only [Act.put, List.setIfInBounds_toArray, List.set_cons_zero, List.set_cons_succ]
    refine wpAnyH_take (i := 44) (v := undef) (by simp only [List.getElem?_toArray, List.getElem?_cons_succ, List.getElem?_cons_zero]; exact rfl) (by kernel_rfl) (by kernel_rfl) (by kernel_rfl) (by intro _ _ _ h; exact h) (Or.inr ⟨by rfl, rfl⟩) hHeld ?_
    try simp only [Act.put, List.setIfInBounds_toArray, List.set_cons_zero, List.set_cons_succ]
    refine wpAnyH_take (i := 45) (v := undef) (by simp only [List.getElem?_toArray, List.getElem?_cons_succ, List.getElem?_cons_zero]; exact rfl) (by kernel_rfl) (by kernel_rfl) (by kernel_rfl) (by intro _ _ _ h; exact h) (Or.inr ⟨by rfl, rfl⟩) hHeld ?_
    try simp only [Act.put, List.setIfInBounds_toArray, List.set_cons_zero, List.set_cons_succ]
    refine wpAnyH_take (i := 46) (v := undef) (by simp only [List.getElem?_toArray, List.getElem?_cons_succ, List.getElem?_cons_zero]; exact rfl) (by kernel_rfl) (by kernel_rfl) (by kernel_rfl) (by intro _ _ _ h; exact h) (Or.inr ⟨by rfl, rfl⟩) hHeld ?_
    try simp only [Act.put, List.setIfInBounds_toArray, List.set_cons_zero, List.set_cons_succ]
    refine wpAnyH_take (i := 47) (v := undef) (by simp only [List.getElem?_toArray, List.getElem?_cons_succ, List.getElem?_cons_zero]; exact rfl) (by kernel_rfl) (by kernel_rfl) (by kernel_rfl) (by intro _ _ _ h; exact h) (Or.inr ⟨by rfl, rfl⟩) hHeld ?_
    try simp only [Act.put, List.setIfInBounds_toArray, List.set_cons_zero, List.set_cons_succ]
    refine wpAnyH_take (i := 48) (v := ?_) (by simp only [List.getElem?_toArray, List.getElem?_cons_succ, List.getElem?_cons_zero]; exact rfl) (by kernel_rfl) (by kernel_rfl) (by kernel_rfl) (by intro _ _ _ h; exact h) (Or.inl ⟨by rfl, fun W hSw => ?_⟩) hHeld ?_
    rotate_left
    focus ((try dsimp only at hSw); first | (go_simp; done) | (go_simp; with_reducible rfl))
    try simp only [Act.put, List.setIfInBounds_toArray, List.set_cons_zero, List.set_cons_succ]
    refine wpAnyH_take (i := 49) (v := ?_) (by simp only [List.getElem?_toArray, List.getElem?_cons_succ, List.getElem?_cons_zero]; exact rfl) (by kernel_rfl) (by kernel_rfl) (by kernel_rfl) (by intro _ _ _ h; exact h) (Or.inl ⟨by rfl, fun W hSw => ?_⟩) hHeld ?_
    rotate_left
    focus ((try dsimp only at hSw); first | (go_simp; done) | (go_simp; with_reducible rfl))
    try simp only [Act.put, List.setIfInBounds_toArray, List.set_cons_zero, List.set_cons_succ]
    refine wpAnyH_take (i := 50) (v := undef) (by simp only [List.getElem?_toArray, List.getElem?_cons_succ, List.getElem?_cons_zero]; exact rfl) (by kernel_rfl) (by kernel_rfl) (by kernel_rfl) (by intro _ _ _ h; exact h) (Or.inr ⟨by rfl, rfl⟩) hHeld ?_
    try simp only [Act.put, List.setIfInBounds_toArray, List.set_cons_zero, List.set_cons_succ]
    refine wpAnyH_take (i := 51) (v := undef) (by simp only [List.getElem?_toArray, List.getElem?_cons_succ, List.getElem?_cons_zero]; exact rfl) (by kernel_rfl) (by kernel_rfl) (by kernel_rfl) (by intro _ _ _ h; exact h) (Or.inr ⟨by rfl, rfl⟩) hHeld ?_
    try simp only [Act.put, List.setIfInBounds_toArray, List.set_cons_zero, List.set_cons_succ]
    refine wpAnyH_take (i := 52) (v := undef) (by simp only [List.getElem?_toArray, List.getElem?_cons_succ, List.getElem?_cons_zero]; exact rfl) (by kernel_rfl) (by kernel_rfl) (by kernel_rfl) (by intro _ _ _ h; exact h) (Or.inr ⟨by rfl, rfl⟩) hHeld ?_
    try simp only [Act.put, List.setIfInBounds_toArray, List.set_cons_zero, List.set_cons_succ]
    refine wpAnyH_take (i := 53) (v := undef) (by simp only [List.getElem?_toArray, List.getElem?_cons_succ, List.getElem?_cons_zero]; exact rfl) (by kernel_rfl) (by kernel_rfl) (by kernel_rfl) (by intro _ _ _ h; exact h) (Or.inr ⟨by rfl, rfl⟩) hHeld ?_
    try simp only [Act.put, List.setIfInBounds_toArray, List.set_cons_zero, List.set_cons_succ]
    refine wpAnyH_take (i := 54) (v := undef) (by simp only [List.getElem?_toArray, List.getElem?_cons_succ, List.getElem?_cons_zero]; exact rfl) (by kernel_rfl) (by kernel_rfl) (by kernel_rfl) (by intro _ _ _ h; exact h) (Or.inr ⟨by rfl, rfl⟩) hHeld ?_
    try simp only [Act.put, List.setIfInBounds_toArray, List.set_cons_zero, List.set_cons_succ]
    refine wpAnyH_take (i := 55) (v := ?_) (by simp only [List.getElem?_toArray, List.getElem?_cons_succ, List.getElem?_cons_zero]; exact rfl) (by kernel_rfl) (by kernel_rfl) (by kernel_rfl) (by intro _ _ _ h; exact h) (Or.inl ⟨by rfl, fun W hSw => ?_⟩) hHeld ?_
    rotate_left
    focus ((try dsimp only at hSw); first | (go_simp; done) | (go_simp; with_reducible rfl))
    try simp only [Act.put, List.setIfInBounds_toArray, List.set_cons_zero, List.set_cons_succ]
    refine wpAnyH_done (by kernel_rfl) ?_ _
    clear hHeld
    go_wp2
    go_ret2
    exact ⟨by rw [← HR.out]; rfl, HBT.out.drewN 1⟩
  have t4 : decide (m.day > dlong Y m.month) = false := by simpa using q4
  by_cases q5 : m.hour > 23
  · have hR2 : R = (0, false) := by rw [← HR0.out]; unfold dtick; rw [HY.out, if_pos (Or.inr (Or.inr (Or.inr (Or.inr (Or.inl q5)))))]
    have HR := Lib.hid hR2.symm
    clear hR2
    have t5 : decide (m.hour > 23) = true := by simpa using q5
    go_wp2
    refine wp_region_held_drew (S := (fun w' => w'.cell? ⟨mb, 1, none⟩ = some (.int .i64 m.day) ∧ w'.cell? ⟨mb, 2, none⟩ = some (.int .i64 m.month) ∧ w'.cell? ⟨mb, 3, none⟩ = some (.int .i64 Y) ∧ w'.cell? ⟨mb, 4, none⟩ = some (.int .i64 m.hour) ∧ w'.cell? ⟨mb, 5, none⟩ = some (.int .i64 m.minute) ∧ w'.cell? ⟨mb, 6, none⟩ = some (.int .i64 m.second))) (by kernel_rfl) (⟨c1, c2, c3, c4, c5, c6⟩) (fun hHeld => ?_)
    refine wpAnyH_take (i := 0) (v := ?_) (by simp only [List.getElem?_toArray, List.getElem?_cons_zero]; exact rfl) (by kernel_rfl) (by kernel_rfl) (by kernel_rfl) (by intro _ _ _ h; exact h) (Or.inl ⟨by rfl, fun W hSw => ?_⟩) hHeld ?_
    rotate_left
    focus ((try dsimp only at hSw); first | (go_simp; done) | (go_simp; with_reducible rfl))
    try simp only [Act.put, List.setIfInBounds_toArray, List.set_cons_zero, List.set_cons_succ]
    refine wpAnyH_take (i := 1) (v := ?_) (by simp only [List.getElem?_toArray, List.getElem?_cons_succ, List.getElem?_cons_zero]; exact rfl) (by kernel_rfl) (by kernel_rfl) (by kernel_rfl) (by intro _ _ _ h; exact h) (Or.inl ⟨by rfl, fun W hSw => ?_⟩) hHeld ?_
    rotate_left
    focus ((try dsimp only at hSw); first | (go_simp; done) | (go_simp; with_reducible rfl))
    try simp only [Act.put, List.setIfInBounds_toArray, List.set_cons_zero, List.set_cons_succ]
    refine wpAnyH_take (i := 2) (v := ?_) (by simp only [List.getElem?_toArray, List.getElem?_cons_succ, List.getElem?_cons_zero]; exact rfl) (by kernel_rfl) (by kernel_rfl) (by kernel_rfl) (by intro _ _ _ h; exact h) (Or.inl ⟨by rfl, fun W hSw => ?_⟩) hHeld ?_
    rotate_left
    focus ((try dsimp only at hSw); first | (go_simp; done) | (go_simp; with_reducible rfl))
    try simp only [Act.put, List.setIfInBounds_toArray, List.set_cons_zero, List.set_cons_succ]
    refine wpAnyH_take (i := 3) (v := ?_) (by simp only [List.getElem?_toArray, List.getElem?_cons_succ, List.getElem?_cons_zero]; exact rfl) (by kernel_rfl) (by kernel_rfl) (by kernel_rfl) (by intro _ _ _ h; exact h) (Or.inl ⟨by rfl, fun W hSw => ?_⟩) hHeld ?_
    rotate_left
    focus ((try dsimp only at hSw); first | (go_simp; done) | (go_simp; with_reducible rfl))
    try simp only [Act.put, List.setIfInBounds_toArray, List.set_cons_zero, List.set_cons_succ]
    refine wpAnyH_take (i := 4) (v := ?_) (by simp only [List.getElem?_toArray, List.getElem?_cons_succ, List.getElem?_cons_zero]; exact rfl) (by kernel_rfl) (by kernel_rfl) (by kernel_rfl) (by intro _ _ _ h; exact h) (Or.inl ⟨by rfl, fun W hSw => ?_⟩) hHeld ?_
    rotate_left
    focus ((try dsimp only at hSw); first | (go_simp; done) | (go_simp; with_reducible rfl))
    try simp only [Act.put, List.setIfInBounds_toArray, List.set_cons_zero, List.set_cons_succ]
    refine wpAnyH_take (i := 5) (v := ?_) (by simp only [List.getElem?_toArray, List.getElem?_cons_succ, List.getElem?_cons_zero]; exact rfl) (by kernel_rfl) (by kernel_rfl) (by kernel_rfl) (by intro _ _ _ h; exact h) (Or.inl ⟨by rfl, fun W hSw => ?_⟩) hHeld ?_
    rotate_left
    focus ((try dsimp only at hSw); first | (go_simp; done) | (go_simp; with_reducible rfl))
    try simp only [Act.put, List.setIfInBounds_toArray, List.set_cons_zero, List.set_cons_succ]
    refine wpAnyH_take (i := 6) (v := ?_) (by simp only [List.getElem?_toArray, List.getElem?_cons_succ, List.getElem?_cons_zero]; exact rfl) (by kernel_rfl) (by kernel_rfl) (by kernel_rfl) (by intro _ _ _ h; exact h) (Or.inl ⟨by rfl, fun W hSw => ?_⟩) hHeld ?_
    rotate_left
    focus ((try dsimp only at hSw); first | (go_simp; done) | (go_simp; with_reducible rfl))
    try simp only [Act.put, List.setIfInBounds_toArray, List.set_cons_zero, List.set_cons_succ]
    refine wpAnyH_take (i := 7) (v := ?_) (by simp only [List.getElem?_toArray, List.getElem?_cons_succ, List.getElem?_cons_zero]; exact rfl) (by kernel_rfl) (by kernel_rfl) (by kernel_rfl) (by intro _ _ _ h; exact h) (Or.inl ⟨by rfl, fun W hSw => ?_⟩) hHeld ?_
    rotate_left
    focus ((try dsimp only at hSw); first | (go_simp; done) | (go_simp; with_reducible rfl))
    try simp only [Act.put, List.setIfInBounds_toArray, List.set_cons_zero, List.set_cons_succ]
    refine wpAnyH_take (i := 8) (v := ?_) (by simp only [List.getElem?_toArray, List.getElem?_cons_succ, List.getElem?_cons_zero]; exact rfl) (by kernel_rfl) (by kernel_rfl) (by kernel_rfl) (by intro _ _ _ h; exact h) (Or.inl ⟨by rfl, fun W hSw => ?_⟩) hHeld ?_
    rotate_left
    focus ((try dsimp only at hSw); first | (go_simp; done) | (go_simp; with_reducible rfl))
    try simp only [Act.put, List.setIfInBounds_toArray, List.set_cons_zero, List.set_cons_succ]
    refine wpAnyH_take (i := 9) (v := ?_) (by simp only [List.getElem?_toArray, List.getElem?_cons_succ, List.getElem?_cons_zero]; exact rfl) (by kernel_rfl) (by kernel_rfl) (by kernel_rfl) (by intro _ _ _ h; exact h) (Or.inl ⟨by rfl, fun W hSw => ?_⟩) hHeld ?_
    rotate_left
    focus ((try dsimp only at hSw); first | (go_simp; done) | (go_simp; with_reducible rfl))
    try simp only [Act.put, List.setIfInBounds_toArray, List.set_cons_zero, List.set_cons_succ]
    refine wpAnyH_take (i := 10) (v := ?_) (by simp only [List.getElem?_toArray, List.getElem?_cons_succ, List.getElem?_cons_zero]; exact rfl) (by kernel_rfl) (by kernel_rfl) (by kernel_rfl) (by intro _ _ _ h; exact h) (Or.inl ⟨by rfl, fun W hSw => ?_⟩) hHeld ?_
    rotate_left
    focus ((try dsimp only at hSw); first | (go_simp; done) | (go_simp; with_reducible rfl))
    try simp only [Act.put, List.setIfInBounds_toArray, List.set_cons_zero, List.set_cons_succ]
    refine wpAnyH_take (i := 11) (v := ?_) (by simp only [List.getElem?_toArray, List.getElem?_cons_succ, List.getElem?_cons_zero]; exact rfl) (by kernel_rfl) (by kernel_rfl) (by kernel_rfl) (by intro _ _ _ h; exact h) (Or.inl ⟨by rfl, fun W hSw => ?_⟩) hHeld ?_
    rotate_left
    focus ((try dsimp only at hSw); first | (go_simp; done) | (go_simp; with_reducible rfl))
    try simp only [Act.put, List.setIfInBounds_toArray, List.set_cons_zero, List.set_cons_succ]
    refine wpAnyH_take (i := 12) (v := ?_) (by simp only [List.getElem?_toArray, List.getElem?_cons_succ, List.getElem?_cons_zero]; exact rfl) (by kernel_rfl) (by kernel_rfl) (by kernel_rfl) (by intro _ _ _ h; exact h) (Or.inl ⟨by rfl, fun W hSw => ?_⟩) hHeld ?_
    rotate_left
    focus ((try dsimp only at hSw); first | (go_simp; done) | (go_simp; with_reducible rfl))
    try simp only [Act.put, List.setIfInBounds_toArray, List.set_cons_zero, List.set_cons_succ]
    refine wpAnyH_take (i := 13) (v := ?_) (by simp only [List.getElem?_toArray, List.getElem?_cons_succ, List.getElem?_cons_zero]; exact rfl) (by kernel_rfl) (by kernel_rfl) (by kernel_rfl) (by intro _ _ _ h; exact h) (Or.inl ⟨by rfl, fun W hSw => ?_⟩) hHeld ?_
    rotate_left
    focus ((try dsimp only at hSw); first | (go_simp; done) | (go_simp; with_reducible rfl))
    try simp only [Act.put, List.setIfInBounds_toArray, List.set_cons_zero, List.set_cons_succ]
    refine wpAnyH_take (i := 14) (v := ?_) (by simp only [List.getElem?_toArray, List.getElem?_cons_succ, List.getElem?_cons_zero]; exact rfl) (by kernel_rfl) (by kernel_rfl) (by kernel_rfl) (by intro _ _ _ h; exact h) (Or.inl ⟨by rfl, fun W hSw => ?_⟩) hHeld ?_
    rotate_left
    focus ((try dsimp only at hSw); first | (go_simp; done) | (go_simp; with_reducible rfl))
    try simp only [Act.put, List.setIfInBounds_toArray, List.set_cons_zero, List.set_cons_succ]
    refine wpAnyH_take (i := 15) (v := ?_) (by simp only [List.getElem?_toArray, List.getElem?_cons_succ, List.getElem?_cons_zero]; exact rfl) (by kernel_rfl) (by kernel_rfl) (by kernel_rfl) (by intro _ _ _ h; exact h) (Or.inl ⟨by rfl, fun W hSw => ?_⟩) hHeld ?_
    rotate_left
    focus ((try dsimp only at hSw); first | (go_simp; done) | (go_simp; with_reducible rfl))
    try simp only [Act.put, List.setIfInBounds_toArray, List.set_cons_zero, List.set_cons_succ]
    refine wpAnyH_take (i := 16) (v := ?_) (by simp only [List.getElem?_toArray, List.getElem?_cons_succ, List.getElem?_cons_zero]; exact rfl) (by kernel_rfl) (by kernel_rfl) (by kernel_rfl) (by intro _ _ _ h; exact h) (Or.inl ⟨by rfl, fun W hSw => ?_⟩) hHeld ?_
    rotate_left
    focus ((try dsimp only at hSw); first | (go_simp; done) | (go_simp; with_reducible rfl))
    try simp only [Act.put, List.setIfInBounds_toArray, List.set_cons_zero, List.set_cons_succ]
    refine wpAnyH_take (i := 17) (v := ?_) (by simp only [List.getElem?_toArray, List.getElem?_cons_succ, List.getElem?_cons_zero]; exact rfl) (by kernel_rfl) (by kernel_rfl) (by kernel_rfl) (by intro _ _ _ h; exact h) (Or.inl ⟨by rfl, fun W hSw => ?_⟩) hHeld ?_
    rotate_left
    focus ((try dsimp only at hSw); first | (go_simp; done) | (go_simp; with_reducible rfl))
    try simp only [Act.put, List.setIfInBounds_toArray, List.set_cons_zero, List.set_cons_succ]
    refine wpAnyH_take (i := 18) (v := ?_) (by simp only [List.getElem?_toArray, List.getElem?_cons_succ, List.getElem?_cons_zero]; exact rfl) (by kernel_rfl) (by kernel_rfl) (by kernel_rfl) (by intro _ _ _ h; exact h) (Or.inl ⟨by rfl, fun W hSw => ?_⟩) hHeld ?_
    rotate_left
    focus ((try dsimp only at hSw); first | (go_simp; done) | (go_simp; with_reducible rfl))
    try simp only [Act.put, List.setIfInBounds_toArray, List.set_cons_zero, List.set_cons_succ]
    refine wpAnyH_take (i := 19) (v := ?_) (by simp only [List.getElem?_toArray, List.getElem?_cons_succ, List.getElem?_cons_zero]; exact rfl) (by kernel_rfl) (by kernel_rfl) (by kernel_rfl) (by intro _ _ _ h; exact h) (Or.inl ⟨by rfl, fun W hSw => ?_⟩) hHeld ?_
    rotate_left
    focus ((try dsimp only at hSw); first | (go_simp; done) | (go_simp; with_reducible rfl))
    try simp only [Act.put, List.setIfInBounds_toArray, List.set_cons_zero, List.set_cons_succ]
    refine wpAnyH_take (i := 20) (v := ?_) (by simp only [List.getElem?_toArray, List.getElem?_cons_succ, List.getElem?_cons_zero]; exact rfl) (by kernel_rfl) (by kernel_rfl) (by kernel_rfl) (by intro _ _ _ h; exact h) (Or.inl ⟨by rfl, fun W hSw => ?_⟩) hHeld ?_
    rotate_left
    focus ((try dsimp only at hSw); first | (go_simp; done) | (go_simp; with_reducible rfl))
    try simp only [Act.put, List.setIfInBounds_toArray, List.set_cons_zero, List.set_cons_succ]
    refine wpAnyH_take (i := 21) (v := ?_) (by simp only [List.getElem?_toArray, List.getElem?_cons_succ, List.getElem?_cons_zero]; exact rfl) (by kernel_rfl) (by kernel_rfl) (by kernel_rfl) (by intro _ _ _ h; exact h) (Or.inl ⟨by rfl, fun W hSw => ?_⟩) hHeld ?_
    rotate_left
    focus ((try dsimp only at hSw); first | (go_simp; done) | (go_simp; with_reducible rfl))
    try simp only [Act.put, List.setIfInBounds_toArray, List.set_cons_zero, List.set_cons_succ]
    refine wpAnyH_take (i := 22) (v := ?_) (by simp only [List.getElem?_toArray, List.getElem?_cons_succ, List.getElem?_cons_zero]; exact rfl) (by kernel_rfl) (by kernel_rfl) (by kernel_rfl) (by intro _ _ _ h; exact h) (Or.inl ⟨by rfl, fun W hSw => ?_⟩) hHeld ?_
    rotate_left
    focus ((try dsimp only at hSw); first | (go_simp; done) | (go_simp; with_reducible rfl))
    try simp only [Act.put, List.setIfInBounds_toArray, List.set_cons_zero, List.set_cons_succ]
    refine wpAnyH_take (i := 23) (v := ?_) (by simp only [List.getElem?_toArray, List.getElem?_cons_succ, List.getElem?_cons_zero]; exact rfl) (by kernel_rfl) (by kernel_rfl) (by kernel_rfl) (by intro _ _ _ h; exact h) (Or.inl ⟨by rfl, fun W hSw => ?_⟩) hHeld ?_
    rotate_left
    focus ((try dsimp only at hSw); first | (go_simp; done) | (go_simp; with_reducible rfl))
    try simp only [Act.put, List.setIfInBounds_toArray, List.set_cons_zero, List.set_cons_succ]
    refine wpAnyH_take (i := 24) (v := ?_) (by simp only [List.getElem?_toArray, List.getElem?_cons_succ, List.getElem?_cons_zero]; exact rfl) (by kernel_rfl) (by kernel_rfl) (by kernel_rfl) (by intro _ _ _ h; exact h) (Or.inl ⟨by rfl, fun W hSw => ?_⟩) hHeld ?_
    rotate_left
    focus ((try dsimp only at hSw); first | (go_simp; done) | (go_simp; with_reducible rfl))
    try simp only [Act.put, List.setIfInBounds_toArray, List.set_cons_zero, List.set_cons_succ]
    refine wpAnyH_take (i := 25) (v := ?_) (by simp only [List.getElem?_toArray, List.getElem?_cons_succ, List.getElem?_cons_zero]; exact rfl) (by kernel_rfl) (by kernel_rfl) (by kernel_rfl) (by intro _ _ _ h; exact h) (Or.inl ⟨by rfl, fun W hSw => ?_⟩) hHeld ?_
    rotate_left
    focus ((try dsimp only at hSw); first | (go_simp; done) | (go_simp; with_reducible rfl))
    try simp only [Act.put, List.setIfInBounds_toArray, List.set_cons_zero, List.set_cons_succ]
    refine wpAnyH_take (i := 26) (v := ?_) (by simp only [List.getElem?_toArray, List.getElem?_cons_succ, List.getElem?_cons_zero]; exact rfl) (by kernel_rfl) (by kernel_rfl) (by kernel_rfl) (by intro _ _ _ h; exact h) (Or.inl ⟨by rfl, fun W hSw => ?_⟩) hHeld ?_
    rotate_left
    focus ((try dsimp only at hSw); first | (go_simp; done) | (go_simp; with_reducible rfl))
    try simp only [Act.put, List.setIfInBounds_toArray, List.set_cons_zero, List.set_cons_succ]
    refine wpAnyH_take (i := 27) (v := ?_) (by simp only [List.getElem?_toArray, List.getElem?_cons_succ, List.getElem?_cons_zero]; exact rfl) (by kernel_rfl) (by kernel_rfl) (by kernel_rfl) (by intro _ _ _ h; exact h) (Or.inl ⟨by rfl, fun W hSw => ?_⟩) hHeld ?_
    rotate_left
    focus ((try dsimp only at hSw); first | (go_simp; done) | (go_simp; with_reducible rfl))
    try simp only [Act.put, List.setIfInBounds_toArray, List.set_cons_zero, List.set_cons_succ]
    refine wpAnyH_take (i := 28) (v := ?_) (by simp only [List.getElem?_toArray, List.getElem?_cons_succ, List.getElem?_cons_zero]; exact rfl) (by kernel_rfl) (by kernel_rfl) (by kernel_rfl) (by intro _ _ _ h; exact h) (Or.inl ⟨by rfl, fun W hSw => ?_⟩) hHeld ?_
    rotate_left
    focus ((try dsimp only at hSw); first | (go_simp; done) | (go_simp; with_reducible rfl))
    try simp only [Act.put, List.setIfInBounds_toArray, List.set_cons_zero, List.set_cons_succ]
    refine wpAnyH_take (i := 29) (v := ?_) (by simp only [List.getElem?_toArray, List.getElem?_cons_succ, List.getElem?_cons_zero]; exact rfl) (by kernel_rfl) (by kernel_rfl) (by kernel_rfl) (by intro _ _ _ h; exact h) (Or.inl ⟨by rfl, fun W hSw => ?_⟩) hHeld ?_
    rotate_left
    focus ((try dsimp only at hSw); first | (go_simp; done) | (go_simp; with_reducible rfl))
    try simp only [Act.put, List.setIfInBounds_toArray, List.set_cons_zero, List.set_cons_succ]
    refine wpAnyH_take (i := 30) (v := ?_) (by simp only [List.getElem?_toArray, List.getElem?_cons_succ, List.getElem?_cons_zero]; exact rfl) (by kernel_rfl) (by kernel_rfl) (by kernel_rfl) (by intro _ _ _ h; exact h) (Or.inl ⟨by rfl, fun W hSw => ?_⟩) hHeld ?_
    rotate_left
    focus ((try dsimp only at hSw); first | (go_simp; done) | (go_simp; with_reducible rfl))
    try simp only [Act.put, List.setIfInBounds_toArray, List.set_cons_zero, List.set_cons_succ]
    refine wpAnyH_take (i := 31) (v := ?_) (by simp only [List.getElem?_toArray, List.getElem?_cons_succ, List.getElem?_cons_zero]; exact rfl) (by kernel_rfl) (by kernel_rfl) (by kernel_rfl) (by intro _ _ _ h; exact h) (Or.inl ⟨by rfl, fun W hSw => ?_⟩) hHeld ?_
    rotate_left
    focus ((try dsimp only at hSw); first | (go_simp; done) | (go_simp; with_reducible rfl))
    try simp only [Act.put, List.setIfInBounds_toArray, List.set_cons_zero, List.set_cons_succ]
    refine wpAnyH_ready (rs := [32]) (by kernel_rfl) (by simp) (AllReadyH.cons (by simp only [List.getElem?_toArray, List.getElem?_cons_succ, List.getElem?_cons_zero]; exact rfl) (fun K hK => ?_) AllReadyH.nil)
    rw [if_pos (by rfl)]
    go_simp
    refine (KL.out _).mono ?_; rintro e wl ⟨rfl, rfl⟩; go_wp2_with fail
    refine hK.out _ _ (hHeld) (fun hHeld => ?_)
    clear hK K
    try simp only [Act.put, List.setIfInBounds_toArray, List.set_cons_zero, List.set_cons_succ]
    refine wpAnyH_take (i := 33) (v := ?_) (by simp only [List.getElem?_toArray, List.getElem?_cons_succ, List.getElem?_cons_zero]; exact rfl) (by kernel_rfl) (by kernel_rfl) (by kernel_rfl) (by intro _ _ _ h; exact h) (Or.inl ⟨by rfl, fun W hSw => ?_⟩) hHeld ?_
    rotate_left
    focus ((try dsimp only at hSw); first | (go_simp; done) | (go_simp; with_reducible rfl))
    try simp only [Act.put, List.setIfInBounds_toArray, List.set_cons_zero, List.set_cons_succ]
    refine wpAnyH_take (i := 34) (v := ?_) (by simp only [List.getElem?_toArray, List.getElem?_cons_succ, List.getElem?_cons_zero]; exact rfl) (by kernel_rfl) (by kernel_rfl) (by kernel_rfl) (by intro _ _ _ h; exact h) (Or.inl ⟨by rfl, fun W hSw => ?_⟩) hHeld ?_
    rotate_left
    focus ((try dsimp only at hSw); first | (go_simp; done) | (go_simp; with_reducible rfl))
    try simp only [Act.put, List.setIfInBounds_toArray, List.set_cons_zero, List.set_cons_succ]
    refine wpAnyH_take (i := 35) (v := ?_) (by simp only [List.getElem?_toArray, List.getElem?_cons_succ, List.getElem?_cons_zero]; exact rfl) (by kernel_rfl) (by kernel_rfl) (by kernel_rfl) (by intro _ _ _ h; exact h) (Or.inl ⟨by rfl, fun W hSw => ?_⟩) hHeld ?_
    rotate_left
    focus ((try dsimp only at hSw); first | (go_simp; done) | (go_simp; with_reducible rfl))
    try simp only [Act.put, List.setIfInBounds_toArray, List.set_cons_zero, List.set_cons_succ]
    refine wpAnyH_take (i := 36) (v := ?_) (by simp only [List.getElem?_toArray, List.getElem?_cons_succ, List.getElem?_cons_zero]; exact rfl) (by kernel_rfl) (by kernel_rfl) (by kernel_rfl) (by intro _ _ _ h; exact h) (Or.inl ⟨by rfl, fun W hSw => ?_⟩) hHeld ?_
    rotate_left
    focus ((try dsimp only at hSw); first | (go_simp; done) | (go_simp; with_reducible rfl))
    try simp only [Act.put, List.setIfInBounds_toArray, List.set_cons_zero, List.set_cons_succ]
    refine wpAnyH_take (i := 37) (v := ?_) (by simp only [List.getElem?_toArray, List.getElem?_cons_succ, List.getElem?_cons_zero]; exact rfl) (by kernel_rfl) (by kernel_rfl) (by kernel_rfl) (by intro _ _ _ h; exact h) (Or.inl ⟨by rfl, fun W hSw => ?_⟩) hHeld ?_
    rotate_left
    focus ((try dsimp only at hSw); first | (go_simp; done) | (go_simp; with_reducible rfl))
    try simp only [Act.put, List.setIfInBounds_toArray, List.set_cons_zero, List.set_cons_succ]
    refine wpAnyH_take (i := 38) (v := ?_) (by simp only [List.getElem?_toArray, List.getElem?_cons_succ, List.getElem?_cons_zero]; exact rfl) (by kernel_rfl) (by kernel_rfl) (by kernel_rfl) (by intro _ _ _ h; exact h) (Or.inl ⟨by rfl, fun W hSw => ?_⟩) hHeld ?_
    rotate_left
    focus ((try dsimp only at hSw); first | (go_simp; done) | (go_simp; with_reducible rfl))
    try simp only [Act.put, List.setIfInBounds_toArray, List.set_cons_zero, List.set_cons_succ]
    refine wpAnyH_take (i := 39) (v := ?_) (by simp only [List.getElem?_toArray, List.getElem?_cons_succ, List.getElem?_cons_zero]; exact rfl) (by kernel_rfl) (by kernel_rfl) (by kernel_rfl) (by intro _ _ _ h; exact h) (Or.inl ⟨by rfl, fun W hSw => ?_⟩) hHeld ?_
    rotate_left
    focus ((try dsimp only at hSw); first | (go_simp; done) | (go_simp; with_reducible rfl))
    try simp only [Act.put, List.setIfInBounds_toArray, List.set_cons_zero, List.set_cons_succ]
    refine wpAnyH_take (i := 40) (v := ?_) (by simp only [List.getElem?_toArray, List.getElem?_cons_succ, List.getElem?_cons_zero]; exact rfl) (by kernel_rfl) (by kernel_rfl) (by kernel_rfl) (by intro _ _ _ h; exact h) (Or.inl ⟨by rfl, fun W hSw => ?_⟩) hHeld ?_
    rotate_left
    focus ((try dsimp only at hSw); first | (go_simp; done) | (go_simp; with_reducible rfl))
    try simp only [Act.put, List.setIfInBounds_toArray, List.set_cons_zero, List.set_cons_succ]
    refine wpAnyH_take (i := 41) (v := ?_) (by simp only [List.getElem?_toArray, List.getElem?_cons_succ, List.getElem?_cons_zero]; exact rfl) (by kernel_rfl) (by kernel_rfl) (by kernel_rfl) (by intro _ _ _ h; exact h) (Or.inl ⟨by rfl, fun W hSw => ?_⟩) hHeld ?_
    rotate_left
    focus ((try dsimp only at hSw); first | (go_simp; done) | (go_simp; with_reducible rfl))
    try simp only [Act.put, List.setIfInBounds_toArray, List.set_cons_zero, List.set_cons_succ]
    refine wpAnyH_take (i := 42) (v := ?_) (by simp only [List.getElem?_toArray, List.getElem?_cons_succ, List.getElem?_cons_zero]; exact rfl) (by kernel_rfl) (by kernel_rfl) (by kernel_rfl) (by intro _ _ _ h; exact h) (Or.inl ⟨by rfl, fun W hSw => ?_⟩) hHeld ?_
    rotate_left
    focus ((try dsimp only at hSw); first | (go_simp; done) | (go_simp; with_reducible rfl))
    try simp only [Act.put, List.setIfInBounds_toArray, List.set_cons_zero, List.set_cons_succ]
    refine wpAnyH_take (i := 43) (v := undef) (by simp only [List.getElem?_toArray, List.getElem?_cons_succ, List.getElem?_cons_zero]; exact rfl) (by kernel_rfl) (by kernel_rfl) (by kernel_rfl) (by intro _ _ _ h; exact h) (Or.inr ⟨by rfl, rfl⟩) hHeld ?_
    try simp only [Act.put, List.setIfInBounds_toArray, List.set_cons_zero, List.set_cons_succ]
    refine wpAnyH_take (i := 44) (v := undef) (by simp only [List.getElem?_toArray, List.getElem?_cons_succ, List.getElem?_cons_zero]; exact rfl) (by kernel_rfl) (by kernel_rfl) (by kernel_rfl) (by intro _ _ _ h; exact h) (Or.inr ⟨by rfl, rfl⟩) hHeld ?_
    try simp only [Act.put, List.setIfInBounds_toArray, List.set_cons_zero, List.set_cons_succ]
    refine wpAnyH_take (i := 45) (v := undef) (by simp only [List.getElem?_toArray, List.getElem?_cons_succ, List.getElem?_cons_zero]; exact rfl) (by kernel_rfl) (by kernel_rfl) (by kernel_rfl) (by intro _ _ _ h; exact h) (Or.inr ⟨by rfl, rfl⟩) hHeld ?_
    try simp only [Act.put, List.setIfInBounds_toArray, List.set_cons_zero, List.set_cons_succ]
    refine wpAnyH_take (i := 46) (v := undef) (by simp only [List.getElem?_toArray, List.getElem?_cons_succ, List.getElem?_cons_zero]; exact rfl) (by kernel_rfl) (by kernel_rfl) (by kernel_rfl) (by intro _ _ _ h; exact h) (Or.inr ⟨by rfl, rfl⟩) hHeld ?_
    try simp only [Act.put, List.setIfInBounds_toArray, List.set_cons_zero, List.set_cons_succ]
    refine wpAnyH_take (i := 47) (v := undef) (by simp only [List.getElem?_toArray, List.getElem?_cons_succ, List.getElem?_cons_zero]; exact rfl) (by kernel_rfl) (by kernel_rfl) (by kernel_rfl) (by intro _ _ _ h; exact h) (Or.inr ⟨by rfl, rfl⟩) hHeld ?_
    try simp only [Act.put, List.setIfInBounds_toArray, List.set_cons_zero, List.set_cons_succ]
    refine wpAnyH_take (i := 48) (v := ?_) (by simp only [List.getElem?_toArray, List.getElem?_cons_succ, List.getElem?_cons_zero]; exact rfl) (by kernel_rfl) (by kernel_rfl) (by kernel_rfl) (by intro _ _ _ h; exact h) (Or.inl ⟨by rfl, fun W hSw => ?_⟩) hHeld ?_
    rotate_left
    focus ((try dsimp only at hSw); first | (go_simp; done) | (go_simp; with_reducible rfl))
    try simp only [Act.put, List.setIfInBounds_toArray, List.set_cons_zero, List.set_cons_succ]
    refine wpAnyH_take (i := 49) (v := ?_) (by simp only [List.getElem?_toArray, List.getElem?_cons_succ, List.getElem?_cons_zero]; exact rfl) (by kernel_rfl) (by kernel_rfl) (by kernel_rfl) (by intro _ _ _ h; exact h) (Or.inl ⟨by rfl, fun W hSw => ?_⟩) hHeld ?_
    rotate_left
    focus ((try dsimp only at hSw); first | (go_simp; done) | (go_simp; with_reducible rfl))
    try simp only [Act.put, List.setIfInBounds_toArray, List.set_cons_zero, List.set_cons_succ]
    refine wpAnyH_take (i := 50) (v := undef) (by simp only [List.getElem?_toArray, List.getElem?_cons_succ, List.getElem?_cons_zero]; exact rfl) (by kernel_rfl) (by kernel_rfl) (by kernel_rfl) (by intro _ _ _ h; exact h) (Or.inr ⟨by rfl, rfl⟩) hHeld ?_
    try simp only [Act.put, List.setIfInBounds_toArray, List.set_cons_zero, List.set_cons_succ]
    refine wpAnyH_take (i := 51) (v := undef) (by simp only [List.getElem?_toArray, List.getElem?_cons_succ, List.getElem?_cons_zero]; exact rfl) (by kernel_rfl) (by kernel_rfl) (by kernel_rfl) (by intro _ _ _ h; exact h) (Or.inr ⟨by rfl, rfl⟩) hHeld ?_
    try simp only [Act.put, List.setIfInBounds_toArray, List.set_cons_zero, List.set_cons_succ]
    refine wpAnyH_take (i := 52) (v := undef) (by simp only [List.getElem?_toArray, List.getElem?_cons_succ, List.getElem?_cons_zero]; exact rfl) (by kernel_rfl) (by kernel_rfl) (by kernel_rfl) (by intro _ _ _ h; exact h) (Or.inr ⟨by rfl, rfl⟩) hHeld ?_
    try simp only [Act.put, List.setIfInBounds_toArray, List.set_cons_zero, List.set_cons_succ]
    refine wpAnyH_take (i := 53) (v := undef) (by simp only [List.getElem?_toArray, List.getElem?_cons_succ, List.getElem?_cons_zero]; exact rfl) (by kernel_rfl) (by kernel_rfl) (by kernel_rfl) (by intro _ _ _ h; exact h) (Or.inr ⟨by rfl, rfl⟩) hHeld ?_
    try simp only [Act.put, List.setIfInBounds_toArray, List.set_cons_zero, List.set_cons_succ]
    refine wpAnyH_take (i := 54) (v := undef) (by simp only [List.getElem?_toArray, List.getElem?_cons_succ, List.getElem?_cons_zero]; exact rfl) (by kernel_rfl) (by kernel_rfl) (by kernel_rfl) (by intro _ _ _ h; exact h) (Or.inr ⟨by rfl, rfl⟩) hHeld ?_
    try simp only [Act.put, List.setIfInBounds_toArray, List.set_cons_zero, List.set_cons_succ]
    refine wpAnyH_take (i := 55) (v := ?_) (by simp only [List.getElem?_toArray, List.getElem?_cons_succ, List.getElem?_cons_zero]; exact rfl) (by kernel_rfl) (by kernel_rfl) (by kernel_rfl) (by intro _ _ _ h; exact h) (Or.inl ⟨by rfl, fun W hSw => ?_⟩) hHeld ?_
    rotate_left
    focus ((try dsimp only at hSw); first | (go_simp; done) | (go_simp; with_reducible rfl))
    try simp only [Act.put, List.setIfInBounds_toArray, List.set_cons_zero, List.set_cons_succ]
    refine wpAnyH_done (by kernel_rfl) ?_ _
    clear hHeld
    go_wp2
    go_ret2
    exact ⟨by rw [← HR.out]; rfl, HBT.out.drewN 1⟩
  have t5 : decide (m.hour > 23) = false := by simpa using q5
  by_cases q6 : m.minute > 59
  · have hR2 : R = (0, false) := by rw [← HR0.out]; unfold dtick; rw [HY.out, if_pos (Or.inr (Or.inr (Or.inr (Or.inr (Or.inr (Or.inl q6))))))]
    have HR := Lib.hid hR2.symm
    clear hR2
    have t6 : decide (m.minute > 59) = true := by simpa using q6
    go_wp2
    refine wp_region_held_drew (S := (fun w' => w'.cell? ⟨mb, 1, none⟩ = some (.int .i64 m.day) ∧ w'.cell? ⟨mb, 2, none⟩ = some (.int .i64 m.month) ∧ w'.cell? ⟨mb, 3, none⟩ = some (.int .i64 Y) ∧ w'.cell? ⟨mb, 4, none⟩ = some (.int .i64 m.hour) ∧ w'.cell? ⟨mb, 5, none⟩ = some (.int .i64 m.minute) ∧ w'.cell? ⟨mb, 6, none⟩ = some (.int .i64 m.second))) (by kernel_rfl) (⟨c1, c2, c3, c4, c5, c6⟩) (fun hHeld => ?_)
    refine wpAnyH_take (i := 0) (v := ?_) (by simp only [List.getElem?_toArray, List.getElem?_cons_zero]; exact rfl) (by kernel_rfl) (by kernel_rfl) (by kernel_rfl) (by intro _ _ _ h; exact h) (Or.inl ⟨by rfl, fun W hSw => ?_⟩) hHeld ?_
    rotate_left
    focus ((try dsimp only at hSw); first | (go_simp; done) | (go_simp; with_reducible rfl))
    try simp only [Act.put, List.setIfInBounds_toArray, List.set_cons_zero, List.set_cons_succ]
    refine wpAnyH_take (i := 1) (v := ?_) (by simp only [List.getElem?_toArray, List.getElem?_cons_succ, List.getElem?_cons_zero]; exact rfl) (by kernel_rfl) (by kernel_rfl) (by kernel_rfl) (by intro _ _ _ h; exact h) (Or.inl ⟨by rfl, fun W hSw => ?_⟩) hHeld ?_
    rotate_left
    focus ((try dsimp only at hSw); first | (go_simp; done) | (go_simp; with_reducible rfl))
    try simp only [Act.put, List.setIfInBounds_toArray, List.set_cons_zero, List.set_cons_succ]
    refine wpAnyH_take (i := 2) (v := ?_) (by simp only [List.getElem?_toArray, List.getElem?_cons_succ, List.getElem?_cons_zero]; exact rfl) (by kernel_rfl) (by kernel_rfl) (by kernel_rfl) (by intro _ _ _ h; exact h) (Or.inl ⟨by rfl, fun W hSw => ?_⟩) hHeld ?_
    rotate_left
    focus ((try dsimp only at hSw); first | (go_simp; done) | (go_simp; with_reducible rfl))
    try simp only [Act.put, List.setIfInBounds_toArray, List.set_cons_zero, List.set_cons_succ]
    refine wpAnyH_take (i := 3) (v := ?_) (by simp only [List.getElem?_toArray, List.getElem?_cons_succ, List.getElem?_cons_zero]; exact rfl) (by kernel_rfl) (by kernel_rfl) (by kernel_rfl) (by intro _ _ _ h; exact h) (Or.inl ⟨by rfl, fun W hSw => ?_⟩) hHeld ?_
    rotate_left
    focus ((try dsimp only at hSw); first | (go_simp; done) | (go_simp; with_reducible rfl))
    try simp only [Act.put, List.setIfInBounds_toArray, List.set_cons_zero, List.set_cons_succ]
    refine wpAnyH_take (i := 4) (v := ?_) (by simp only [List.getElem?_toArray, List.getElem?_cons_succ, List.getElem?_cons_zero]; exact rfl) (by kernel_rfl) (by kernel_rfl) (by kernel_rfl) (by intro _ _ _ h; exact h) (Or.inl ⟨by rfl, fun W hSw => ?_⟩) hHeld ?_
    rotate_left
    focus ((try dsimp only at hSw); first | (go_simp; done) | (go_simp; with_reducible rfl))
    try simp only [Act.put, List.setIfInBounds_toArray, List.set_cons_zero, List.set_cons_succ]
    refine wpAnyH_take (i := 5) (v := ?_) (by simp only [List.getElem?_toArray, List.getElem?_cons_succ, List.getElem?_cons_zero]; exact rfl) (by kernel_rfl) (by kernel_rfl) (by kernel_rfl) (by intro _ _ _ h; exact h) (Or.inl ⟨by rfl, fun W hSw => ?_⟩) hHeld ?_
    rotate_left
    focus ((try dsimp only at hSw); first | (go_simp; done) | (go_simp; with_reducible rfl))
    try simp only [Act.put, List.setIfInBounds_toArray, List.set_cons_zero, List.set_cons_succ]
    refine wpAnyH_take (i := 6) (v := ?_) (by simp only [List.getElem?_toArray, List.getElem?_cons_succ, List.getElem?_cons_zero]; exact rfl) (by kernel_rfl) (by kernel_rfl) (by kernel_rfl) (by intro _ _ _ h; exact h) (Or.inl ⟨by rfl, fun W hSw => ?_⟩) hHeld ?_
    rotate_left
    focus ((try dsimp only at hSw); first | (go_simp; done) | (go_simp; with_reducible rfl))
    try simp only [Act.put, List.setIfInBounds_toArray, List.set_cons_zero, List.set_cons_succ]
    refine wpAnyH_take (i := 7) (v := ?_) (by simp only [List.getElem?_toArray, List.getElem?_cons_succ, List.getElem?_cons_zero]; exact rfl) (by kernel_rfl) (by kernel_rfl) (by kernel_rfl) (by intro _ _ _ h; exact h) (Or.inl ⟨by rfl, fun W hSw => ?_⟩) hHeld ?_
    rotate_left
    focus ((try dsimp only at hSw); first | (go_simp; done) | (go_simp; with_reducible rfl))
    try simp only [Act.put, List.setIfInBounds_toArray, List.set_cons_zero, List.set_cons_succ]
    refine wpAnyH_take (i := 8) (v := ?_) (by simp only [List.getElem?_toArray, List.getElem?_cons_succ, List.getElem?_cons_zero]; exact rfl) (by kernel_rfl) (by kernel_rfl) (by kernel_rfl) (by intro _ _ _ h; exact h) (Or.inl ⟨by rfl, fun W hSw => ?_⟩) hHeld ?_
    rotate_left
    focus ((try dsimp only at hSw); first | (go_simp; done) | (go_simp; with_reducible rfl))
    try simp only [Act.put, List.setIfInBounds_toArray, List.set_cons_zero, List.set_cons_succ]
    refine wpAnyH_take (i := 9) (v := ?_) (by simp only [List.getElem?_toArray, List.getElem?_cons_succ, List.getElem?_cons_zero]; exact rfl) (by kernel_rfl) (by kernel_rfl) (by kernel_rfl) (by intro _ _ _ h; exact h) (Or.inl ⟨by rfl, fun W hSw => ?_⟩) hHeld ?_
    rotate_left
    focus ((try dsimp only at hSw); first | (go_simp; done) | (go_simp; with_reducible rfl))
    try simp only [Act.put, List.setIfInBounds_toArray, List.set_cons_zero, List.set_cons_succ]
    refine wpAnyH_take (i := 10) (v := ?_) (by simp only [List.getElem?_toArray, List.getElem?_cons_succ, List.getElem?_cons_zero]; exact rfl) (by kernel_rfl) (by kernel_rfl) (by kernel_rfl) (by intro _ _ _ h; exact h) (Or.inl ⟨by rfl, fun W hSw => ?_⟩) hHeld ?_
    rotate_left
    focus ((try dsimp only at hSw); first | (go_simp; done) | (go_simp; with_reducible rfl))
    try simp only [Act.put, List.setIfInBounds_toArray, List.set_cons_zero, List.set_cons_succ]
    refine wpAnyH_take (i := 11) (v := ?_) (by simp only [List.getElem?_toArray, List.getElem?_cons_succ, List.getElem?_cons_zero]; exact rfl) (by kernel_rfl) (by kernel_rfl) (by kernel_rfl) (by intro _ _ _ h; exact h) (Or.inl ⟨by rfl, fun W hSw => ?_⟩) hHeld ?_
    rotate_left
    focus ((try dsimp only at hSw); first | (go_simp; done) | (go_simp; with_reducible rfl))
    try simp only [Act.put, List.setIfInBounds_toArray, List.set_cons_zero, List.set_cons_succ]
    refine wpAnyH_take (i := 12) (v := ?_) (by simp only [List.getElem?_toArray, List.getElem?_cons_succ, List.getElem?_cons_zero]; exact rfl) (by kernel_rfl) (by kernel_rfl) (by kernel_rfl) (by intro _ _ _ h; exact h) (Or.inl ⟨by rfl, fun W hSw => ?_⟩) hHeld ?_
    rotate_left
    focus ((try dsimp only at hSw); first | (go_simp; done) | (go_simp; with_reducible rfl))
    try simp only [Act.put, List.setIfInBounds_toArray, List.set_cons_zero, List.set_cons_succ]
    refine wpAnyH_take (i := 13) (v := ?_) (by simp only [List.getElem?_toArray, List.getElem?_cons_succ, List.getElem?_cons_zero]; exact rfl) (by kernel_rfl) (by kernel_rfl) (by kernel_rfl) (by intro _ _ _ h; exact h) (Or.inl ⟨by rfl, fun W hSw => ?_⟩) hHeld ?_
    rotate_left
    focus ((try dsimp only at hSw); first | (go_simp; done) | (go_simp; with_reducible rfl))
    try simp only [Act.put, List.setIfInBounds_toArray, List.set_cons_zero, List.set_cons_succ]
    refine wpAnyH_take (i := 14) (v := ?_) (by simp only [List.getElem?_toArray, List.getElem?_cons_succ, List.getElem?_cons_zero]; exact rfl) (by kernel_rfl) (by kernel_rfl) (by kernel_rfl) (by intro _ _ _ h; exact h) (Or.inl ⟨by rfl, fun W hSw => ?_⟩) hHeld ?_
    rotate_left
    focus ((try dsimp only at hSw); first | (go_simp; done) | (go_simp; with_reducible rfl))
    try simp only [Act.put, List.setIfInBounds_toArray, List.set_cons_zero, List.set_cons_succ]
    refine wpAnyH_take (i := 15) (v := ?_) (by simp only [List.getElem?_toArray, List.getElem?_cons_succ, List.getElem?_cons_zero]; exact rfl) (by kernel_rfl) (by kernel_rfl) (by kernel_rfl) (by intro _ _ _ h; exact h) (Or.inl ⟨by rfl, fun W hSw => ?_⟩) hHeld ?_
    rotate_left
    focus ((try dsimp only at hSw); first | (go_simp; done) | (go_simp; with_reducible rfl))
    try simp only [Act.put, List.setIfInBounds_toArray, List.set_cons_zero, List.set_cons_succ]
    refine wpAnyH_take (i := 16) (v := ?_) (by simp only [List.getElem?_toArray, List.getElem?_cons_succ, List.getElem?_cons_zero]; exact rfl) (by kernel_rfl) (by kernel_rfl) (by kernel_rfl) (by intro _ _ _ h; exact h) (Or.inl ⟨by rfl, fun W hSw => ?_⟩) hHeld ?_
    rotate_left
    focus ((try dsimp only at hSw); first | (go_simp; done) | (go_simp; with_reducible rfl))
    try simp only [Act.put, List.setIfInBounds_toArray, List.set_cons_zero, List.set_cons_succ]
    refine wpAnyH_take (i := 17) (v := ?_) (by simp only [List.getElem?_toArray, List.getElem?_cons_succ, List.getElem?_cons_zero]; exact rfl) (by kernel_rfl) (by kernel_rfl) (by kernel_rfl) (by intro _ _ _ h; exact h) (Or.inl ⟨by rfl, fun W hSw => ?_⟩) hHeld ?_
    rotate_left
    focus ((try dsimp only at hSw); first | (go_simp; done) | (go_simp; with_reducible rfl))
    try simp only [Act.put, List.setIfInBounds_toArray, List.set_cons_zero, List.set_cons_succ]
    refine wpAnyH_take (i := 18) (v := ?_) (by simp only [List.getElem?_toArray, List.getElem?_cons_succ, List.getElem?_cons_zero]; exact rfl) (by kernel_rfl) (by kernel_rfl) (by kernel_rfl) (by intro _ _ _ h; exact h) (Or.inl ⟨by rfl, fun W hSw => ?_⟩) hHeld ?_
    rotate_left
    focus ((try dsimp only at hSw); first | (go_simp; done) | (go_simp; with_reducible rfl))
    try simp only [Act.put, List.setIfInBounds_toArray, List.set_cons_zero, List.set_cons_succ]
    refine wpAnyH_take (i := 19) (v := ?_) (by simp only [List.getElem?_toArray, List.getElem?_cons_succ, List.getElem?_cons_zero]; exact rfl) (by kernel_rfl) (by kernel_rfl) (by kernel_rfl) (by intro _ _ _ h; exact h) (Or.inl ⟨by rfl, fun W hSw => ?_⟩) hHeld ?_
    rotate_left
    focus ((try dsimp only at hSw); first | (go_simp; done) | (go_simp; with_reducible rfl))
    try simp only [Act.put, List.setIfInBounds_toArray, List.set_cons_zero, List.set_cons_succ]
    refine wpAnyH_take (i := 20) (v := ?_) (by simp only [List.getElem?_toArray, List.getElem?_cons_succ, List.getElem?_cons_zero]; exact rfl) (by kernel_rfl) (by kernel_rfl) (by kernel_rfl) (by intro _ _ _ h; exact h) (Or.inl ⟨by rfl, fun W hSw => ?_⟩) hHeld ?_
    rotate_left
    focus ((try dsimp only at hSw); first | (go_simp; done) | (go_simp; with_reducible rfl))
    try simp only [Act.put, List.setIfInBounds_toArray, List.set_cons_zero, List.set_cons_succ]
    refine wpAnyH_take (i := 21) (v := ?_) (by simp only [List.getElem?_toArray, List.getElem?_cons_succ, List.getElem?_cons_zero]; exact rfl) (by kernel_rfl) (by kernel_rfl) (by kernel_rfl) (by intro _ _ _ h; exact h) (Or.inl ⟨by rfl, fun W hSw => ?_⟩) hHeld ?_
    rotate_left
    focus ((try dsimp only at hSw); first | (go_simp; done) | (go_simp; with_reducible rfl))
    try simp only [Act.put, List.setIfInBounds_toArray, List.set_cons_zero, List.set_cons_succ]
    refine wpAnyH_take (i := 22) (v := ?_) (by simp only [List.getElem?_toArray, List.getElem?_cons_succ, List.getElem?_cons_zero]; exact rfl) (by kernel_rfl) (by kernel_rfl) (by kernel_rfl) (by intro _ _ _ h; exact h) (Or.inl ⟨by rfl, fun W hSw => ?_⟩) hHeld ?_
    rotate_left
    focus ((try dsimp only at hSw); first | (go_simp; done) | (go_simp; with_reducible rfl))
    try simp only [Act.put, List.setIfInBounds_toArray, List.set_cons_zero, List.set_cons_succ]
    refine wpAnyH_take (i := 23) (v := ?_) (by simp only [List.getElem?_toArray, List.getElem?_cons_succ, List.getElem?_cons_zero]; exact rfl) (by kernel_rfl) (by kernel_rfl) (by kernel_rfl) (by intro _ _ _ h; exact h) (Or.inl ⟨by rfl, fun W hSw => ?_⟩) hHeld ?_
    rotate_left
    focus ((try dsimp only at hSw); first | (go_simp; done) | (go_simp; with_reducible rfl))
    try simp only [Act.put, List.setIfInBounds_toArray, List.set_cons_zero, List.set_cons_succ]
    refine wpAnyH_take (i := 24) (v := ?_) (by simp only [List.getElem?_toArray, List.getElem?_cons_succ, List.getElem?_cons_zero]; exact rfl) (by kernel_rfl) (by kernel_rfl) (by kernel_rfl) (by intro _ _ _ h; exact h) (Or.inl ⟨by rfl, fun W hSw => ?_⟩) hHeld ?_
    rotate_left
    focus ((try dsimp only at hSw); first | (go_simp; done) | (go_simp; with_reducible rfl))
    try simp only [Act.put, List.setIfInBounds_toArray, List.set_cons_zero, List.set_cons_succ]
    refine wpAnyH_take (i := 25) (v := ?_) (by simp only [List.getElem?_toArray, List.getElem?_cons_succ, List.getElem?_cons_zero]; exact rfl) (by kernel_rfl) (by kernel_rfl) (by kernel_rfl) (by intro _ _ _ h; exact h) (Or.inl ⟨by rfl, fun W hSw => ?_⟩) hHeld ?_
    rotate_left
    focus ((try dsimp only at hSw); first | (go_simp; done) | (go_simp; with_reducible rfl))
    try simp only [Act.put, List.setIfInBounds_toArray, List.set_cons_zero, List.set_cons_succ]
    refine wpAnyH_take (i := 26) (v := ?_) (by simp only [List.getElem?_toArray, List.getElem?_cons_succ, List.getElem?_cons_zero]; exact rfl) (by kernel_rfl) (by kernel_rfl) (by kernel_rfl) (by intro _ _ _ h; exact h) (Or.inl ⟨by rfl, fun W hSw => ?_⟩) hHeld ?_
    rotate_left
    focus ((try dsimp only at hSw); first | (go_simp; done) | (go_simp; with_reducible rfl))
    try simp only [Act.put, List.setIfInBounds_toArray, List.set_cons_zero, List.set_cons_succ]
    refine wpAnyH_take (i := 27) (v := ?_) (by simp only [List.getElem?_toArray, List.getElem?_cons_succ, List.getElem?_cons_zero]; exact rfl) (by kernel_rfl) (by kernel_rfl) (by kernel_rfl) (by intro _ _ _ h; exact h) (Or.inl ⟨by rfl, fun W hSw => ?_⟩) hHeld ?_
    rotate_left
    focus ((try dsimp only at hSw); first | (go_simp; done) | (go_simp; with_reducible rfl))
    try simp only [Act.put, List.setIfInBounds_toArray, List.set_cons_zero, List.set_cons_succ]
    refine wpAnyH_take (i := 28) (v := ?_) (by simp only [List.getElem?_toArray, List.getElem?_cons_succ, List.getElem?_cons_zero]; exact rfl) (by kernel_rfl) (by kernel_rfl) (by kernel_rfl) (by intro _ _ _ h; exact h) (Or.inl ⟨by rfl, fun W hSw => ?_⟩) hHeld ?_
    rotate_left
    focus ((try dsimp only at hSw); first | (go_simp; done) | (go_simp; with_reducible rfl))
    try simp only [Act.put, List.setIfInBounds_toArray, List.set_cons_zero, List.set_cons_succ]
    refine wpAnyH_take (i := 29) (v := ?_) (by simp only [List.getElem?_toArray, List.getElem?_cons_succ, List.getElem?_cons_zero]; exact rfl) (by kernel_rfl) (by kernel_rfl) (by kernel_rfl) (by intro _ _ _ h; exact h) (Or.inl ⟨by rfl, fun W hSw => ?_⟩) hHeld ?_
    rotate_left
    focus ((try dsimp only at hSw); first | (go_simp; done) | (go_simp; with_reducible rfl))
    try simp only [Act.put, List.setIfInBounds_toArray, List.set_cons_zero, List.set_cons_succ]
    refine wpAnyH_take (i := 30) (v := ?_) (by simp only [List.getElem?_toArray, List.getElem?_cons_succ, List.getElem?_cons_zero]; exact rfl) (by kernel_rfl) (by kernel_rfl) (by kernel_rfl) (by intro _ _ _ h; exact h) (Or.inl ⟨by rfl, fun W hSw => ?_⟩) hHeld ?_
    rotate_left
    focus ((try dsimp only at hSw); first | (go_simp; done) | (go_simp; with_reducible rfl))
    try simp only [Act.put, List.setIfInBounds_toArray, List.set_cons_zero, List.set_cons_succ]
    refine wpAnyH_take (i := 31) (v := ?_) (by simp only [List.getElem?_toArray, List.getElem?_cons_succ, List.getElem?_cons_zero]; exact rfl) (by kernel_rfl) (by kernel_rfl) (by kernel_rfl) (by intro _ _ _ h; exact h) (Or.inl ⟨by rfl, fun W hSw => ?_⟩) hHeld ?_
    rotate_left
    focus ((try dsimp only at hSw); first | (go_simp; done) | (go_simp; with_reducible rfl))
    try simp only [Act.put, List.setIfInBounds_toArray, List.set_cons_zero, List.set_cons_succ]
    refine wpAnyH_ready (rs := [32]) (by kernel_rfl) (by simp) (AllReadyH.cons (by simp only [List.getElem?_toArray, List.getElem?_cons_succ, List.getElem?_cons_zero]; exact rfl) (fun K hK => ?_) AllReadyH.nil)
    rw [if_pos (by rfl)]
    go_simp
    refine (KL.out _).mono ?_; rintro e wl ⟨rfl, rfl⟩; go_wp2_with fail
    refine hK.out _ _ (hHeld) (fun hHeld => ?_)
    clear hK K
    try simp only [Act.put, List.setIfInBounds_toArray, List.set_cons_zero, List.set_cons_succ]
    refine wpAnyH_take (i := 33) (v := ?_) (by simp only [List.getElem?_toArray, List.getElem?_cons_succ, List.getElem?_cons_zero]; exact rfl) (by kernel_rfl) (by kernel_rfl) (by kernel_rfl) (by intro _ _ _ h; exact h) (Or.inl ⟨by rfl, fun W hSw => ?_⟩) hHeld ?_
    rotate_left
    focus ((try dsimp only at hSw); first | (go_simp; done) | (go_simp; with_reducible rfl))
    try simp only [Act.put, List.setIfInBounds_toArray, List.set_cons_zero, List.set_cons_succ]
    refine wpAnyH_take (i := 34) (v := ?_) (by simp only [List.getElem?_toArray, List.getElem?_cons_succ, List.getElem?_cons_zero]; exact rfl) (by kernel_rfl) (by kernel_rfl) (by kernel_rfl) (by intro _ _ _ h; exact h) (Or.inl ⟨by rfl, fun W hSw => ?_⟩) hHeld ?_
    rotate_left
    focus ((try dsimp only at hSw); first | (go_simp; done) | (go_simp; with_reducible rfl))
    try simp only [Act.put, List.setIfInBounds_toArray, List.set_cons_zero, List.set_cons_succ]
    refine wpAnyH_take (i := 35) (v := ?_) (by simp only [List.getElem?_toArray, List.getElem?_cons_succ, List.getElem?_cons_zero]; exact rfl) (by kernel_rfl) (by kernel_rfl) (by kernel_rfl) (by intro _ _ _ h; exact h) (Or.inl ⟨by rfl, fun W hSw => ?_⟩) hHeld ?_
    rotate_left
    focus ((try dsimp only at hSw); first | (go_simp; done) | (go_simp; with_reducible rfl))
    try simp only [Act.put, List.setIfInBounds_toArray, List.set_cons_zero, List.set_cons_succ]
    refine wpAnyH_take (i := 36) (v := ?_) (by simp only [List.getElem?_toArray, List.getElem?_cons_succ, List.getElem?_cons_zero]; exact rfl) (by kernel_rfl) (by kernel_rfl) (by kernel_rfl) (by intro _ _ _ h; exact h) (Or.inl ⟨by rfl, fun W hSw => ?_⟩) hHeld ?_
    rotate_left
    focus ((try dsimp only at hSw); first | (go_simp; done) | (go_simp; with_reducible rfl))
    try simp only [Act.put, List.setIfInBounds_toArray, List.set_cons_zero, List.set_cons_succ]
    refine wpAnyH_take (i := 37) (v := ?_) (by simp only [List.getElem?_toArray, List.getElem?_cons_succ, List.getElem?_cons_zero]; exact rfl) (by kernel_rfl) (by kernel_rfl) (by kernel_rfl) (by intro _ _ _ h; exact h) (Or.inl ⟨by rfl, fun W hSw => ?_⟩) hHeld ?_
    rotate_left
    focus ((try dsimp only at hSw); first | (go_simp; done) | (go_simp; with_reducible rfl))
    try simp only [Act.put, List.setIfInBounds_toArray, List.set_cons_zero, List.set_cons_succ]
    refine wpAnyH_take (i := 38) (v := ?_) (by simp only [List.getElem?_toArray, List.getElem?_cons_succ, List.getElem?_cons_zero]; exact rfl) (by kernel_rfl) (by kernel_rfl) (by kernel_rfl) (by intro _ _ _ h; exact h) (Or.inl ⟨by rfl, fun W hSw => ?_⟩) hHeld ?_
    rotate_left
    focus ((try dsimp only at hSw); first | (go_simp; done) | (go_simp; with_reducible rfl))
    try simp only [Act.put, List.setIfInBounds_toArray, List.set_cons_zero, List.set_cons_succ]
    refine wpAnyH_take (i := 39) (v := ?_) (by simp only [List.getElem?_toArray, List.getElem?_cons_succ, List.getElem?_cons_zero]; exact rfl) (by kernel_rfl) (by kernel_rfl) (by kernel_rfl) (by intro _ _ _ h; exact h) (Or.inl ⟨by rfl, fun W hSw => ?_⟩) hHeld ?_
    rotate_left
    focus ((try dsimp only at hSw); first | (go_simp; done) | (go_simp; with_reducible rfl))
    try simp only [Act.put, List.setIfInBounds_toArray, List.set_cons_zero, List.set_cons_succ]
    refine wpAnyH_take (i := 40) (v := ?_) (by simp only [List.getElem?_toArray, List.getElem?_cons_succ, List.getElem?_cons_zero]; exact rfl) (by kernel_rfl) (by kernel_rfl) (by kernel_rfl) (by intro _ _ _ h; exact h) (Or.inl ⟨by rfl, fun W hSw => ?_⟩) hHeld ?_
    rotate_left
    focus ((try dsimp only at hSw); first | (go_simp; done) | (go_simp; with_reducible rfl))
    try simp only [Act.put, List.setIfInBounds_toArray, List.set_cons_zero, List.set_cons_succ]
    refine wpAnyH_take (i := 41) (v := ?_) (by simp only [List.getElem?_toArray, List.getElem?_cons_succ, List.getElem?_cons_zero]; exact rfl) (by kernel_rfl) (by kernel_rfl) (by kernel_rfl) (by intro _ _ _ h; exact h) (Or.inl ⟨by rfl, fun W hSw => ?_⟩) hHeld ?_
    rotate_left
    focus ((try dsimp only at hSw); first | (go_simp; done) | (go_simp; with_reducible rfl))
    try simp only [Act.put, List.setIfInBounds_toArray, List.set_cons_zero, List.set_cons_succ]
    refine wpAnyH_take (i := 42) (v := ?_) (by simp only [List.getElem?_toArray, List.getElem?_cons_succ, List.getElem?_cons_zero]; exact rfl) (by kernel_rfl) (by kernel_rfl) (by kernel_rfl) (by intro _ _ _ h; exact h) (Or.inl ⟨by rfl, fun W hSw => ?_⟩) hHeld ?_
    rotate_left
    focus ((try dsimp only at hSw); first | (go_simp; done) | (go_simp; with_reducible rfl))
    try simp only [Act.put, List.setIfInBounds_toArray, List.set_cons_zero, List.set_cons_succ]
    refine wpAnyH_take (i := 43) (v := ?_) (by simp only [List.getElem?_toArray, List.getElem?_cons_succ, List.getElem?_cons_zero]; exact rfl) (by kernel_rfl) (by kernel_rfl) (by kernel_rfl) (by intro _ _ _ h; exact h) (Or.inl ⟨by rfl, fun W hSw => ?_⟩) hHeld ?_
    rotate_left
    focus ((try dsimp only at hSw); first | (go_simp; done) | (go_simp; with_reducible rfl))
    try simp only [Act.put, List.setIfInBounds_toArray, List.set_cons_zero, List.set_cons_succ]
    refine wpAnyH_take (i := 44) (v := ?_) (by simp only [List.getElem?_toArray, List.getElem?_cons_succ, List.getElem?_cons_zero]; exact rfl) (by kernel_rfl) (by kernel_rfl) (by kernel_rfl) (by intro _ _ _ h; exact h) (Or.inl ⟨by rfl, fun W hSw => ?_⟩) hHeld ?_
    rotate_left
    focus ((try dsimp only at hSw); first | (go_simp; done) | (go_simp; with_reducible rfl))
    try simp only [Act.put, List.setIfInBounds_toArray, List.set_cons_zero, List.set_cons_succ]
    refine wpAnyH_take (i := 45) (v := ?_) (by simp only [List.getElem?_toArray, List.getElem?_cons_succ, List.getElem?_cons_zero]; exact rfl) (by kernel_rfl) (by kernel_rfl) (by kernel_rfl) (by intro _ _ _ h; exact h) (Or.inl ⟨by rfl, fun W hSw => ?_⟩) hHeld ?_
    rotate_left
    focus ((try dsimp only at hSw); first | (go_simp; done) | (go_simp; with_reducible rfl))
    try simp only [Act.put, List.setIfInBounds_toArray, List.set_cons_zero, List.set_cons_succ]
    refine wpAnyH_take (i := 46) (v := ?_) (by simp only [List.getElem?_toArray, List.getElem?_cons_succ, List.getElem?_cons_zero]; exact rfl) (by kernel_rfl) (by kernel_rfl) (by kernel_rfl) (by intro _ _ _ h; exact h) (Or.inl ⟨by rfl, fun W hSw => ?_⟩) hHeld ?_
    rotate_left
    focus ((try dsimp only at hSw); first | (go_simp; done) | (go_simp; with_reducible rfl))
    try simp only [Act.put, List.setIfInBounds_toArray, List.set_cons_zero, List.set_cons_succ]
    refine wpAnyH_take (i := 47) (v := ?_) (by simp only [List.getElem?_toArray, List.getElem?_cons_succ, List.getElem?_cons_zero]; exact rfl) (by kernel_rfl) (by kernel_rfl) (by kernel_rfl) (by intro _ _ _ h; exact h) (Or.inl ⟨by rfl, fun W hSw => ?_⟩) hHeld ?_
    rotate_left
    focus ((try dsimp only at hSw); first | (go_simp; done) | (go_simp; with_reducible rfl))
    try simp only [Act.put, List.setIfInBounds_toArray, List.set_cons_zero, List.set_cons_succ]
    refine wpAnyH_take (i := 48) (v := ?_) (by simp only [List.getElem?_toArray, List.getElem?_cons_succ, List.getElem?_cons_zero]; exact rfl) (by kernel_rfl) (by kernel_rfl) (by kernel_rfl) (by intro _ _ _ h; exact h) (Or.inl ⟨by rfl, fun W hSw => ?_⟩) hHeld ?_
    rotate_left
    focus ((try dsimp only at hSw); first | (go_simp; done) | (go_simp; with_reducible rfl))
    try simp only [Act.put, List.setIfInBounds_toArray, List.set_cons_zero, List.set_cons_succ]
    refine wpAnyH_take (i := 49) (v := ?_) (by simp only [List.getElem?_toArray, List.getElem?_cons_succ, List.getElem?_cons_zero]; exact rfl) (by kernel_rfl) (by kernel_rfl) (by kernel_rfl) (by intro _ _ _ h; exact h) (Or.inl ⟨by rfl, fun W hSw => ?_⟩) hHeld ?_
    rotate_left
    focus ((try dsimp only at hSw); first | (go_simp; done) | (go_simp; with_reducible rfl))
    try simp only [Act.put, List.setIfInBounds_toArray, List.set_cons_zero, List.set_cons_succ]
    refine wpAnyH_take (i := 50) (v := undef) (by simp only [List.getElem?_toArray, List.getElem?_cons_succ, List.getElem?_cons_zero]; exact rfl) (by kernel_rfl) (by kernel_rfl) (by kernel_rfl) (by intro _ _ _ h; exact h) (Or.inr ⟨by rfl, rfl⟩) hHeld ?_
    try simp only [Act.put, List.setIfInBounds_toArray, List.set_cons_zero, List.set_cons_succ]
    refine wpAnyH_take (i := 51) (v := undef) (by simp only [List.getElem?_toArray, List.getElem?_cons_succ, List.getElem?_cons_zero]; exact rfl) (by kernel_rfl) (by kernel_rfl) (by kernel_rfl) (by intro _ _ _ h; exact h) (Or.inr ⟨by rfl, rfl⟩) hHeld ?_
    try simp only [Act.put, List.setIfInBounds_toArray, List.set_cons_zero, List.set_cons_succ]
    refine wpAnyH_take (i := 52) (v := undef) (by simp only [List.getElem?_toArray, List.getElem?_cons_succ, List.getElem?_cons_zero]; exact rfl) (by kernel_rfl) (by kernel_rfl) (by kernel_rfl) (by intro _ _ _ h; exact h) (Or.inr ⟨by rfl, rfl⟩) hHeld ?_
    try simp only [Act.put, List.setIfInBounds_toArray, List.set_cons_zero, List.set_cons_succ]
    refine wpAnyH_take (i := 53) (v := undef) (by simp only [List.getElem?_toArray, List.getElem?_cons_succ, List.getElem?_cons_zero]; exact rfl) (by kernel_rfl) (by kernel_rfl) (by kernel_rfl) (by intro _ _ _ h; exact h) (Or.inr ⟨by rfl, rfl⟩) hHeld ?_
    try simp only [Act.put, List.setIfInBounds_toArray, List.set_cons_zero, List.set_cons_succ]
    refine wpAnyH_take (i := 54) (v := undef) (by simp only [List.getElem?_toArray, List.getElem?_cons_succ, List.getElem?_cons_zero]; exact rfl) (by kernel_rfl) (by kernel_rfl) (by kernel_rfl) (by intro _ _ _ h; exact h) (Or.inr ⟨by rfl, rfl⟩) hHeld ?_
    try simp only [Act.put, List.setIfInBounds_toArray, List.set_cons_zero, List.set_cons_succ]
    refine wpAnyH_take (i := 55) (v := ?_) (by simp only [List.getElem?_toArray, List.getElem?_cons_succ, List.getElem?_cons_zero]; exact rfl) (by kernel_rfl) (by kernel_rfl) (by kernel_rfl) (by intro _ _ _ h; exact h) (Or.inl ⟨by rfl, fun W hSw => ?_⟩) hHeld ?_
    rotate_left
    focus ((try dsimp only at hSw); first | (go_simp; done) | (go_simp; with_reducible rfl))
    try simp only [Act.put, List.setIfInBounds_toArray, List.set_cons_zero, List.set_cons_succ]
    refine wpAnyH_done (by kernel_rfl) ?_ _
    clear hHeld
    go_wp2
    go_ret2
    exact ⟨by rw [← HR.out]; rfl, HBT.out.drewN 1⟩
  have t6 : decide (m.minute > 59) = false := by simpa using q6
  by_cases q7 : m.second > 59
  · have hR2 : R = (0, false) := by rw [← HR0.out]; unfold dtick; rw [HY.out, if_pos (Or.inr (Or.inr (Or.inr (Or.inr (Or.inr (Or.inr q7))))))]
    have HR := Lib.hid hR2.symm
    clear hR2
    have t7 : decide (m.second > 59) = true := by simpa using q7
    go_wp2
    refine wp_region_held_drew (S := (fun w' => w'.cell? ⟨mb, 1, none⟩ = some (.int .i64 m.day) ∧ w'.cell? ⟨mb, 2, none⟩ = some (.int .i64 m.month) ∧ w'.cell? ⟨mb, 3, none⟩ = some (.int .i64 Y) ∧ w'.cell? ⟨mb, 4, none⟩ = some (.int .i64 m.hour) ∧ w'.cell? ⟨mb, 5, none⟩ = some (.int .i64 m.minute) ∧ w'.cell? ⟨mb, 6, none⟩ = some (.int .i64 m.second))) (by kernel_rfl) (⟨c1, c2, c3, c4, c5, c6⟩) (fun hHeld => ?_)
    refine wpAnyH_take (i := 0) (v := ?_) (by simp only [List.getElem?_toArray, List.getElem?_cons_zero]; exact rfl) (by kernel_rfl) (by kernel_rfl) (by kernel_rfl) (by intro _ _ _ h; exact h) (Or.inl ⟨by rfl, fun W hSw => ?_⟩) hHeld ?_
    rotate_left
    focus ((try dsimp only at hSw); first | (go_simp; done) | (go_simp; with_reducible rfl))
    try simp only [Act.put, List.setIfInBounds_toArray, List.set_cons_zero, List.set_cons_succ]
    refine wpAnyH_take (i := 1) (v := ?_) (by simp only [List.getElem?_toArray, List.getElem?_cons_succ, List.getElem?_cons_zero]; exact rfl) (by kernel_rfl) (by kernel_rfl) (by kernel_rfl) (by intro _ _ _ h; exact h) (Or.inl ⟨by rfl, fun W hSw => ?_⟩) hHeld ?_
    rotate_left
    focus ((try dsimp only at hSw); first | (go_simp; done) | (go_simp; with_reducible rfl))
    try simp only [Act.put, List.setIfInBounds_toArray, List.set_cons_zero, List.set_cons_succ]
    refine wpAnyH_take (i := 2) (v := ?_) (by simp only [List.getElem?_toArray, List.getElem?_cons_succ, List.getElem?_cons_zero]; exact rfl) (by kernel_rfl) (by kernel_rfl) (by kernel_rfl) (by intro _ _ _ h; exact h) (Or.inl ⟨by rfl, fun W hSw => ?_⟩) hHeld ?_
    rotate_left
    focus ((try dsimp only at hSw); first | (go_simp; done) | (go_simp; with_reducible rfl))
    try simp only [Act.put, List.setIfInBounds_toArray, List.set_cons_zero, List.set_cons_succ]
    refine wpAnyH_take (i := 3) (v := ?_) (by simp only [List.getElem?_toArray, List.getElem?_cons_succ, List.getElem?_cons_zero]; exact rfl) (by kernel_rfl) (by kernel_rfl) (by kernel_rfl) (by intro _ _ _ h; exact h) (Or.inl ⟨by rfl, fun W hSw => ?_⟩) hHeld ?_
    rotate_left
    focus ((try dsimp only at hSw); first | (go_simp; done) | (go_simp; with_reducible rfl))
    try simp only [Act.put, List.setIfInBounds_toArray, List.set_cons_zero, List.set_cons_succ]
    refine wpAnyH_take (i := 4) (v := ?_) (by simp only [List.getElem?_toArray, List.getElem?_cons_succ, List.getElem?_cons_zero]; exact rfl) (by kernel_rfl) (by kernel_rfl) (by kernel_rfl) (by intro _ _ _ h; exact h) (Or.inl ⟨by rfl, fun W hSw => ?_⟩) hHeld ?_
    rotate_left
    focus ((try dsimp only at hSw); first | (go_simp; done) | (go_simp; with_reducible rfl))
    try simp only [Act.put, List.setIfInBounds_toArray, List.set_cons_zero, List.set_cons_succ]
    refine wpAnyH_take (i := 5) (v := ?_) (by simp only [List.getElem?_toArray, List.getElem?_cons_succ, List.getElem?_cons_zero]; exact rfl) (by kernel_rfl) (by kernel_rfl) (by kernel_rfl) (by intro _ _ _ h; exact h) (Or.inl ⟨by rfl, fun W hSw => ?_⟩) hHeld ?_
    rotate_left
    focus ((try dsimp only at hSw); first | (go_simp; done) | (go_simp; with_reducible rfl))
    try simp only [Act.put, List.setIfInBounds_toArray, List.set_cons_zero, List.set_cons_succ]
    refine wpAnyH_take (i := 6) (v := ?_) (by simp only [List.getElem?_toArray, List.getElem?_cons_succ, List.getElem?_cons_zero]; exact rfl) (by kernel_rfl) (by kernel_rfl) (by kernel_rfl) (by intro _ _ _ h; exact h) (Or.inl ⟨by rfl, fun W hSw => ?_⟩) hHeld ?_
    rotate_left
    focus ((try dsimp only at hSw); first | (go_simp; done) | (go_simp; with_reducible rfl))
    try simp only [Act.put, List.setIfInBounds_toArray, List.set_cons_zero, List.set_cons_succ]
    refine wpAnyH_take (i := 7) (v := ?_) (by simp only [List.getElem?_toArray, List.getElem?_cons_succ, List.getElem?_cons_zero]; exact rfl) (by kernel_rfl) (by kernel_rfl) (by kernel_rfl) (by intro _ _ _ h; exact h) (Or.inl ⟨by rfl, fun W hSw => ?_⟩) hHeld ?_
    rotate_left
    focus ((try dsimp only at hSw); first | (go_simp; done) | (go_simp; with_reducible rfl))
    try simp only [Act.put, List.setIfInBounds_toArray, List.set_cons_zero, List.set_cons_succ]
    refine wpAnyH_take (i := 8) (v := ?_) (by simp only [List.getElem?_toArray, List.getElem?_cons_succ, List.getElem?_cons_zero]; exact rfl) (by kernel_rfl) (by kernel_rfl) (by kernel_rfl) (by intro _ _ _ h; exact h) (Or.inl ⟨by rfl, fun W hSw => ?_⟩) hHeld ?_
    rotate_left
    focus ((try dsimp only at hSw); first | (go_simp; done) | (go_simp; with_reducible rfl))
    try simp only [Act.put, List.setIfInBounds_toArray, List.set_cons_zero, List.set_cons_succ]
    refine wpAnyH_take (i := 9) (v := ?_) (by simp only [List.getElem?_toArray, List.getElem?_cons_succ, List.getElem?_cons_zero]; exact rfl) (by kernel_rfl) (by kernel_rfl) (by kernel_rfl) (by intro _ _ _ h; exact h) (Or.inl ⟨by rfl, fun W hSw => ?_⟩) hHeld ?_
    rotate_left
    focus ((try dsimp only at hSw); first | (go_simp; done) | (go_simp; with_reducible rfl))
    try simp only [Act.put, List.setIfInBounds_toArray, List.set_cons_zero, List.set_cons_succ]
    refine wpAnyH_take (i := 10) (v := ?_) (by simp only [List.getElem?_toArray, List.getElem?_cons_succ, List.getElem?_cons_zero]; exact rfl) (by kernel_rfl) (by kernel_rfl) (by kernel_rfl) (by intro _ _ _ h; exact h) (Or.inl ⟨by rfl, fun W hSw => ?_⟩) hHeld ?_
    rotate_left
    focus ((try dsimp only at hSw); first | (go_simp; done) | (go_simp; with_reducible rfl))
    try simp only [Act.put, List.setIfInBounds_toArray, List.set_cons_zero, List.set_cons_succ]
    refine wpAnyH_take (i := 11) (v := ?_) (by simp only [List.getElem?_toArray, List.getElem?_cons_succ, List.getElem?_cons_zero]; exact rfl) (by kernel_rfl) (by kernel_rfl) (by kernel_rfl) (by intro _ _ _ h; exact h) (Or.inl ⟨by rfl, fun W hSw => ?_⟩) hHeld ?_
    rotate_left
    focus ((try dsimp only at hSw); first | (go_simp; done) | (go_simp; with_reducible rfl))
    try simp only [Act.put, List.setIfInBounds_toArray, List.set_cons_zero, List.set_cons_succ]
    refine wpAnyH_take (i := 12) (v := ?_) (by simp only [List.getElem?_toArray, List.getElem?_cons_succ, List.getElem?_cons_zero]; exact rfl) (by kernel_rfl) (by kernel_rfl) (by kernel_rfl) (by intro _ _ _ h; exact h) (Or.inl ⟨by rfl, fun W hSw => ?_⟩) hHeld ?_
    rotate_left
    focus ((try dsimp only at hSw); first | (go_simp; done) | (go_simp; with_reducible rfl))
    try simp only [Act.put, List.setIfInBounds_toArray, List.set_cons_zero, List.set_cons_succ]
    refine wpAnyH_take (i := 13) (v := ?_) (by simp only [List.getElem?_toArray, List.getElem?_cons_succ, List.getElem?_cons_zero]; exact rfl) (by kernel_rfl) (by kernel_rfl) (by kernel_rfl) (by intro _ _ _ h; exact h) (Or.inl ⟨by rfl, fun W hSw => ?_⟩) hHeld ?_
    rotate_left
    focus ((try dsimp only at hSw); first | (go_simp; done) | (go_simp; with_reducible rfl))
    try simp only [Act.put, List.setIfInBounds_toArray, List.set_cons_zero, List.set_cons_succ]
    refine wpAnyH_take (i := 14) (v := ?_) (by simp only [List.getElem?_toArray, List.getElem?_cons_succ, List.getElem?_cons_zero]; exact rfl) (by kernel_rfl) (by kernel_rfl) (by kernel_rfl) (by intro _ _ _ h; exact h) (Or.inl ⟨by rfl, fun W hSw => ?_⟩) hHeld ?_
    rotate_left
    focus ((try dsimp only at hSw); first | (go_simp; done) | (go_simp; with_reducible rfl))
    try simp only [Act.put, List.setIfInBounds_toArray, List.set_cons_zero, List.set_cons_succ]
    refine wpAnyH_take (i := 15) (v := ?_) (by simp only [List.getElem?_toArray, List.getElem?_cons_succ, List.getElem?_cons_zero]; exact rfl) (by kernel_rfl) (by kernel_rfl) (by kernel_rfl) (by intro _ _ _ h; exact h) (Or.inl ⟨by rfl, fun W hSw => ?_⟩) hHeld ?_
    rotate_left
    focus ((try dsimp only at hSw); first | (go_simp; done) | (go_simp; with_reducible rfl))
    try simp only [Act.put, List.setIfInBounds_toArray, List.set_cons_zero, List.set_cons_succ]
    refine wpAnyH_take (i := 16) (v := ?_) (by simp only [List.getElem?_toArray, List.getElem?_cons_succ, List.getElem?_cons_zero]; exact rfl) (by kernel_rfl) (by kernel_rfl) (by kernel_rfl) (by intro _ _ _ h; exact h) (Or.inl ⟨by rfl, fun W hSw => ?_⟩) hHeld ?_
    rotate_left
    focus ((try dsimp only at hSw); first | (go_simp; done) | (go_simp; with_reducible rfl))
    try simp only [Act.put, List.setIfInBounds_toArray, List.set_cons_zero, List.set_cons_succ]
    refine wpAnyH_take (i := 17) (v := ?_) (by simp only [List.getElem?_toArray, List.getElem?_cons_succ, List.getElem?_cons_zero]; exact rfl) (by kernel_rfl) (by kernel_rfl) (by kernel_rfl) (by intro _ _ _ h; exact h) (Or.inl ⟨by rfl, fun W hSw => ?_⟩) hHeld ?_
    rotate_left
    focus ((try dsimp only at hSw); first | (go_simp; done) | (go_simp; with_reducible rfl))
    try simp only [Act.put, List.setIfInBounds_toArray, List.set_cons_zero, List.set_cons_succ]
    refine wpAnyH_take (i := 18) (v := ?_) (by simp only [List.getElem?_toArray, List.getElem?_cons_succ, List.getElem?_cons_zero]; exact rfl) (by kernel_rfl) (by kernel_rfl) (by kernel_rfl) (by intro _ _ _ h; exact h) (Or.inl ⟨by rfl, fun W hSw => ?_⟩) hHeld ?_
    rotate_left
    focus ((try dsimp only at hSw); first | (go_simp; done) | (go_simp; with_reducible rfl))
    try simp only [Act.put, List.setIfInBounds_toArray, List.set_cons_zero, List.set_cons_succ]
    refine wpAnyH_take (i := 19) (v := ?_) (by simp only [List.getElem?_toArray, List.getElem?_cons_succ, List.getElem?_cons_zero]; exact rfl) (by kernel_rfl) (by kernel_rfl) (by kernel_rfl) (by intro _ _ _ h; exact h) (Or.inl ⟨by rfl, fun W hSw => ?_⟩) hHeld ?_
    rotate_left
    focus ((try dsimp only at hSw); first | (go_simp; done) | (go_simp; with_reducible rfl))
    try simp only [Act.put, List.setIfInBounds_toArray, List.set_cons_zero, List.set_cons_succ]
    refine wpAnyH_take (i := 20) (v := ?_) (by simp only [List.getElem?_toArray, List.getElem?_cons_succ, List.getElem?_cons_zero]; exact rfl) (by kernel_rfl) (by kernel_rfl) (by kernel_rfl) (by intro _ _ _ h; exact h) (Or.inl ⟨by rfl, fun W hSw => ?_⟩) hHeld ?_
    rotate_left
    focus ((try dsimp only at hSw); first | (go_simp; done) | (go_simp; with_reducible rfl))
    try simp only [Act.put, List.setIfInBounds_toArray, List.set_cons_zero, List.set_cons_succ]
    refine wpAnyH_take (i := 21) (v := ?_) (by simp only [List.getElem?_toArray, List.getElem?_cons_succ, List.getElem?_cons_zero]; exact rfl) (by kernel_rfl) (by kernel_rfl) (by kernel_rfl) (by intro _ _ _ h; exact h) (Or.inl ⟨by rfl, fun W hSw => ?_⟩) hHeld ?_
    rotate_left
    focus ((try dsimp only at hSw); first | (go_simp; done) | (go_simp; with_reducible rfl))
    try simp only [Act.put, List.setIfInBounds_toArray, List.set_cons_zero, List.set_cons_succ]
    refine wpAnyH_take (i := 22) (v := ?_) (by simp only [List.getElem?_toArray, List.getElem?_cons_succ, List.getElem?_cons_zero]; exact rfl) (by kernel_rfl) (by kernel_rfl) (by kernel_rfl) (by intro _ _ _ h; exact h) (Or.inl ⟨by rfl, fun W hSw => ?_⟩) hHeld ?_
    rotate_left
    focus ((try dsimp only at hSw); first | (go_simp; done) | (go_simp; with_reducible rfl))
    try simp only [Act.put, List.setIfInBounds_toArray, List.set_cons_zero, List.set_cons_succ]
    refine wpAnyH_take (i := 23) (v := ?_) (by simp only [List.getElem?_toArray, List.getElem?_cons_succ, List.getElem?_cons_zero]; exact rfl) (by kernel_rfl) (by kernel_rfl) (by kernel_rfl) (by intro _ _ _ h; exact h) (Or.inl ⟨by rfl, fun W hSw => ?_⟩) hHeld ?_
    rotate_left
    focus ((try dsimp only at hSw); first | (go_simp; done) | (go_simp; with_reducible rfl))
    try simp only [Act.put, List.setIfInBounds_toArray, List.set_cons_zero, List.set_cons_succ]
    refine wpAnyH_take (i := 24) (v := ?_) (by simp only [List.getElem?_toArray, List.getElem?_cons_succ, List.getElem?_cons_zero]; exact rfl) (by kernel_rfl) (by kernel_rfl) (by kernel_rfl) (by intro _ _ _ h; exact h) (Or.inl ⟨by rfl, fun W hSw => ?_⟩) hHeld ?_
    rotate_left
    focus ((try dsimp only at hSw); first | (go_simp; done) | (go_simp; with_reducible rfl))
    try simp only [Act.put, List.setIfInBounds_toArray, List.set_cons_zero, List.set_cons_succ]
    refine wpAnyH_take (i := 25) (v := ?_) (by simp only [List.getElem?_toArray, List.getElem?_cons_succ, List.getElem?_cons_zero]; exact rfl) (by kernel_rfl) (by kernel_rfl) (by kernel_rfl) (by intro _ _ _ h; exact h) (Or.inl ⟨by rfl, fun W hSw => ?_⟩) hHeld ?_
    rotate_left
    focus ((try dsimp only at hSw); first | (go_simp; done) | (go_simp; with_reducible rfl))
    try simp only [Act.put, List.setIfInBounds_toArray, List.set_cons_zero, List.set_cons_succ]
    refine wpAnyH_take (i := 26) (v := ?_) (by simp only [List.getElem?_toArray, List.getElem?_cons_succ, List.getElem?_cons_zero]; exact rfl) (by kernel_rfl) (by kernel_rfl) (by kernel_rfl) (by intro _ _ _ h; exact h) (Or.inl ⟨by rfl, fun W hSw => ?_⟩) hHeld ?_
    rotate_left
    focus ((try dsimp only at hSw); first | (go_simp; done) | (go_simp; with_reducible rfl))
    try simp only [Act.put, List.setIfInBounds_toArray, List.set_cons_zero, List.set_cons_succ]
    refine wpAnyH_take (i := 27) (v := ?_) (by simp only [List.getElem?_toArray, List.getElem?_cons_succ, List.getElem?_cons_zero]; exact rfl) (by kernel_rfl) (by kernel_rfl) (by kernel_rfl) (by intro _ _ _ h; exact h) (Or.inl ⟨by rfl, fun W hSw => ?_⟩) hHeld ?_
    rotate_left
    focus ((try dsimp only at hSw); first | (go_simp; done) | (go_simp; with_reducible rfl))
    try simp only [Act.put, List.setIfInBounds_toArray, List.set_cons_zero, List.set_cons_succ]
    refine wpAnyH_take (i := 28) (v := ?_) (by simp only [List.getElem?_toArray, List.getElem?_cons_succ, List.getElem?_cons_zero]; exact rfl) (by kernel_rfl) (by kernel_rfl) (by kernel_rfl) (by intro _ _ _ h; exact h) (Or.inl ⟨by rfl, fun W hSw => ?_⟩) hHeld ?_
    rotate_left
    focus ((try dsimp only at hSw); first | (go_simp; done) | (go_simp; with_reducible rfl))
    try simp only [Act.put, List.setIfInBounds_toArray, List.set_cons_zero, List.set_cons_succ]
    refine wpAnyH_take (i := 29) (v := ?_) (by simp only [List.getElem?_toArray, List.getElem?_cons_succ, List.getElem?_cons_zero]; exact rfl) (by kernel_rfl) (by kernel_rfl) (by kernel_rfl) (by intro _ _ _ h; exact h) (Or.inl ⟨by rfl, fun W hSw => ?_⟩) hHeld ?_
    rotate_left
    focus ((try dsimp only at hSw); first | (go_simp; done) | (go_simp; with_reducible rfl))
    try simp only [Act.put, List.setIfInBounds_toArray, List.set_cons_zero, List.set_cons_succ]
    refine wpAnyH_take (i := 30) (v := ?_) (by simp only [List.getElem?_toArray, List.getElem?_cons_succ, List.getElem?_cons_zero]; exact rfl) (by kernel_rfl) (by kernel_rfl) (by kernel_rfl) (by intro _ _ _ h; exact h) (Or.inl ⟨by rfl, fun W hSw => ?_⟩) hHeld ?_
    rotate_left
    focus ((try dsimp only at hSw); first | (go_simp; done) | (go_simp; with_reducible rfl))
    try simp only [Act.put, List.setIfInBounds_toArray, List.set_cons_zero, List.set_cons_succ]
    refine wpAnyH_take (i := 31) (v := ?_) (by simp only [List.getElem?_toArray, List.getElem?_cons_succ, List.getElem?_cons_zero]; exact rfl) (by kernel_rfl) (by kernel_rfl) (by kernel_rfl) (by intro _ _ _ h; exact h) (Or.inl ⟨by rfl, fun W hSw => ?_⟩) hHeld ?_
    rotate_left
    focus ((try dsimp only at hSw); first | (go_simp; done) | (go_simp; with_reducible rfl))
    try simp only [Act.put, List.setIfInBounds_toArray, List.set_cons_zero, List.set_cons_succ]
    refine wpAnyH_ready (rs := [32]) (by kernel_rfl) (by simp) (AllReadyH.cons (by simp only [List.getElem?_toArray, List.getElem?_cons_succ, List.getElem?_cons_zero]; exact rfl) (fun K hK => ?_) AllReadyH.nil)
    rw [if_pos (by rfl)]
    go_simp
    refine (KL.out _).mono ?_; rintro e wl ⟨rfl, rfl⟩; go_wp2_with fail
    refine hK.out _ _ (hHeld) (fun hHeld => ?_)
    clear hK K
    try simp only [Act.put, List.setIfInBounds_toArray, List.set_cons_zero, List.set_cons_succ]
    refine wpAnyH_take (i := 33) (v := ?_) (by simp only [List.getElem?_toArray, List.getElem?_cons_succ, List.getElem?_cons_zero]; exact rfl) (by kernel_rfl) (by kernel_rfl) (by kernel_rfl) (by intro _ _ _ h; exact h) (Or.inl ⟨by rfl, fun W hSw => ?_⟩) hHeld ?_
    rotate_left
    focus ((try dsimp only at hSw); first | (go_simp; done) | (go_simp; with_reducible rfl))
    try simp only [Act.put, List.setIfInBounds_toArray, List.set_cons_zero, List.set_cons_succ]
    refine wpAnyH_take (i := 34) (v := ?_) (by simp only [List.getElem?_toArray, List.getElem?_cons_succ, List.getElem?_cons_zero]; exact rfl) (by kernel_rfl) (by kernel_rfl) (by kernel_rfl) (by intro _ _ _ h; exact h) (Or.inl ⟨by rfl, fun W hSw => ?_⟩) hHeld ?_
    rotate_left
    focus ((try dsimp only at hSw); first | (go_simp; done) | (go_simp; with_reducible rfl))
    try simp only [Act.put, List.setIfInBounds_toArray, List.set_cons_zero, List.set_cons_succ]
    refine wpAnyH_take (i := 35) (v := ?_) (by simp only [List.getElem?_toArray, List.getElem?_cons_succ, List.getElem?_cons_zero]; exact rfl) (by kernel_rfl) (by kernel_rfl) (by kernel_rfl) (by intro _ _ _ h; exact h) (Or.inl ⟨by rfl, fun W hSw => ?_⟩) hHeld ?_
    rotate_left
    focus ((try dsimp only at hSw); first | (go_simp; done) | (go_simp; with_reducible rfl))
    try simp only [Act.put, List.setIfInBounds_toArray, List.set_cons_zero, List.set_cons_succ]
    refine wpAnyH_take (i := 36) (v := ?_) (by simp only [List.getElem?_toArray, List.getElem?_cons_succ, List.getElem?_cons_zero]; exact rfl) (by kernel_rfl) (by kernel_rfl) (by kernel_rfl) (by intro _ _ _ h; exact h) (Or.inl ⟨by rfl, fun W hSw => ?_⟩) hHeld ?_
    rotate_left
    focus ((try dsimp only at hSw); first | (go_simp; done) | (go_simp; with_reducible rfl))
    try simp only [Act.put, List.setIfInBounds_toArray, List.set_cons_zero, List.set_cons_succ]
    refine wpAnyH_take (i := 37) (v := ?_) (by simp only [List.getElem?_toArray, List.getElem?_cons_succ, List.getElem?_cons_zero]; exact rfl) (by kernel_rfl) (by kernel_rfl) (by kernel_rfl) (by intro _ _ _ h; exact h) (Or.inl ⟨by rfl, fun W hSw => ?_⟩) hHeld ?_
    rotate_left
    focus ((try dsimp only at hSw); first | (go_simp; done) | (go_simp; with_reducible rfl))
    try simp only [Act.put, List.setIfInBounds_toArray, List.set_cons_zero, List.set_cons_succ]
    refine wpAnyH_take (i := 38) (v := ?_) (by simp only [List.getElem?_toArray, List.getElem?_cons_succ, List.getElem?_cons_zero]; exact rfl) (by kernel_rfl) (by kernel_rfl) (by kernel_rfl) (by intro _ _ _ h; exact h) (Or.inl ⟨by rfl, fun W hSw => ?_⟩) hHeld ?_
    rotate_left
    focus ((try dsimp only at hSw); first | (go_simp; done) | (go_simp; with_reducible rfl))
    try simp only [Act.put, List.setIfInBounds_toArray, List.set_cons_zero, List.set_cons_succ]
    refine wpAnyH_take (i := 39) (v := ?_) (by simp only [List.getElem?_toArray, List.getElem?_cons_succ, List.getElem?_cons_zero]; exact rfl) (by kernel_rfl) (by kernel_rfl) (by kernel_rfl) (by intro _ _ _ h; exact h) (Or.inl ⟨by rfl, fun W hSw => ?_⟩) hHeld ?_
    rotate_left
    focus ((try dsimp only at hSw); first | (go_simp; done) | (go_simp; with_reducible rfl))
    try simp only [Act.put, List.setIfInBounds_toArray, List.set_cons_zero, List.set_cons_succ]
    refine wpAnyH_take (i := 40) (v := ?_) (by simp only [List.getElem?_toArray, List.getElem?_cons_succ, List.getElem?_cons_zero]; exact rfl) (by kernel_rfl) (by kernel_rfl) (by kernel_rfl) (by intro _ _ _ h; exact h) (Or.inl ⟨by rfl, fun W hSw => ?_⟩) hHeld ?_
    rotate_left
    focus ((try dsimp only at hSw); first | (go_simp; done) | (go_simp; with_reducible rfl))
    try simp only [Act.put, List.setIfInBounds_toArray, List.set_cons_zero, List.set_cons_succ]
    refine wpAnyH_take (i := 41) (v := ?_) (by simp only [List.getElem?_toArray, List.getElem?_cons_succ, List.getElem?_cons_zero]; exact rfl) (by kernel_rfl) (by kernel_rfl) (by kernel_rfl) (by intro _ _ _ h; exact h) (Or.inl ⟨by rfl, fun W hSw => ?_⟩) hHeld ?_
    rotate_left
    focus ((try dsimp only at hSw); first | (go_simp; done) | (go_simp; with_reducible rfl))
    try simp only [Act.put, List.setIfInBounds_toArray, List.set_cons_zero, List.set_cons_succ]
    refine wpAnyH_take (i := 42) (v := ?_) (by simp only [List.getElem?_toArray, List.getElem?_cons_succ, List.getElem?_cons_zero]; exact rfl) (by kernel_rfl) (by kernel_rfl) (by kernel_rfl) (by intro _ _ _ h; exact h) (Or.inl ⟨by rfl, fun W hSw => ?_⟩) hHeld ?_
    rotate_left
    focus ((try dsimp only at hSw); first | (go_simp; done) | (go_simp; with_reducible rfl))
    try simp only [Act.put, List.setIfInBounds_toArray, List.set_cons_zero, List.set_cons_succ]
    refine wpAnyH_take (i := 43) (v := ?_) (by simp only [List.getElem?_toArray, List.getElem?_cons_succ, List.getElem?_cons_zero]; exact rfl) (by kernel_rfl) (by kernel_rfl) (by kernel_rfl) (by intro _ _ _ h; exact h) (Or.inl ⟨by rfl, fun W hSw => ?_⟩) hHeld ?_
    rotate_left
    focus ((try dsimp only at hSw); first | (go_simp; done) | (go_simp; with_reducible rfl))
    try simp only [Act.put, List.setIfInBounds_toArray, List.set_cons_zero, List.set_cons_succ]
    refine wpAnyH_take (i := 44) (v := ?_) (by simp only [List.getElem?_toArray, List.getElem?_cons_succ, List.getElem?_cons_zero]; exact rfl) (by kernel_rfl) (by kernel_rfl) (by kernel_rfl) (by intro _ _ _ h; exact h) (Or.inl ⟨by rfl, fun W hSw => ?_⟩) hHeld ?_
    rotate_left
    focus ((try dsimp only at hSw); first | (go_simp; done) | (go_simp; with_reducible rfl))
    try simp only [Act.put, List.setIfInBounds_toArray, List.set_cons_zero, List.set_cons_succ]
    refine wpAnyH_take (i := 45) (v := ?_) (by simp only [List.getElem?_toArray, List.getElem?_cons_succ, List.getElem?_cons_zero]; exact rfl) (by kernel_rfl) (by kernel_rfl) (by kernel_rfl) (by intro _ _ _ h; exact h) (Or.inl ⟨by rfl, fun W hSw => ?_⟩) hHeld ?_
    rotate_left
    focus ((try dsimp only at hSw); first | (go_simp; done) | (go_simp; with_reducible rfl))
    try simp only [Act.put, List.setIfInBounds_toArray, List.set_cons_zero, List.set_cons_succ]
    refine wpAnyH_take (i := 46) (v := ?_) (by simp only [List.getElem?_toArray, List.getElem?_cons_succ, List.getElem?_cons_zero]; exact rfl) (by kernel_rfl) (by kernel_rfl) (by kernel_rfl) (by intro _ _ _ h; exact h) (Or.inl ⟨by rfl, fun W hSw => ?_⟩) hHeld ?_
    rotate_left
    focus ((try dsimp only at hSw); first | (go_simp; done) | (go_simp; with_reducible rfl))
    try simp only [Act.put, List.setIfInBounds_toArray, List.set_cons_zero, List.set_cons_succ]
    refine wpAnyH_take (i := 47) (v := ?_) (by simp only [List.getElem?_toArray, List.getElem?_cons_succ, List.getElem?_cons_zero]; exact rfl) (by kernel_rfl) (by kernel_rfl) (by kernel_rfl) (by intro _ _ _ h; exact h) (Or.inl ⟨by rfl, fun W hSw => ?_⟩) hHeld ?_
    rotate_left
    focus ((try dsimp only at hSw); first | (go_simp; done) | (go_simp; with_reducible rfl))
    try simp only [Act.put, List.setIfInBounds_toArray, List.set_cons_zero, List.set_cons_succ]
    refine wpAnyH_take (i := 48) (v := ?_) (by simp only [List.getElem?_toArray, List.getElem?_cons_succ, List.getElem?_cons_zero]; exact rfl) (by kernel_rfl) (by kernel_rfl) (by kernel_rfl) (by intro _ _ _ h; exact h) (Or.inl ⟨by rfl, fun W hSw => ?_⟩) hHeld ?_
    rotate_left
    focus ((try dsimp only at hSw); first | (go_simp; done) | (go_simp; with_reducible rfl))
    try simp only [Act.put, List.setIfInBounds_toArray, List.set_cons_zero, List.set_cons_succ]
    refine wpAnyH_take (i := 49) (v := ?_) (by simp only [List.getElem?_toArray, List.getElem?_cons_succ, List.getElem?_cons_zero]; exact rfl) (by kernel_rfl) (by kernel_rfl) (by kernel_rfl) (by intro _ _ _ h; exact h) (Or.inl ⟨by rfl, fun W hSw => ?_⟩) hHeld ?_
    rotate_left
    focus ((try dsimp only at hSw); first | (go_simp; done) | (go_simp; with_reducible rfl))
    try simp only [Act.put, List.setIfInBounds_toArray, List.set_cons_zero, List.set_cons_succ]
    refine wpAnyH_take (i := 50) (v := ?_) (by simp only [List.getElem?_toArray, List.getElem?_cons_succ, List.getElem?_cons_zero]; exact rfl) (by kernel_rfl) (by kernel_rfl) (by kernel_rfl) (by intro _ _ _ h; exact h) (Or.inl ⟨by rfl, fun W hSw => ?_⟩) hHeld ?_
    rotate_left
    focus ((try dsimp only at hSw); first | (go_simp; done) | (go_simp; with_reducible rfl))
    try simp only [Act.put, List.setIfInBounds_toArray, List.set_cons_zero, List.set_cons_succ]
    refine wpAnyH_take (i := 51) (v := ?_) (by simp only [List.getElem?_toArray, List.getElem?_cons_succ, List.getElem?_cons_zero]; exact rfl) (by kernel_rfl) (by kernel_rfl) (by kernel_rfl) (by intro _ _ _ h; exact h) (Or.inl ⟨by rfl, fun W hSw => ?_⟩) hHeld ?_
    rotate_left
    focus ((try dsimp only at hSw); first | (go_simp; done) | (go_simp; with_reducible rfl))
    try simp only [Act.put, List.setIfInBounds_toArray, List.set_cons_zero, List.set_cons_succ]
    refine wpAnyH_take (i := 52) (v := ?_) (by simp only [List.getElem?_toArray, List.getElem?_cons_succ, List.getElem?_cons_zero]; exact rfl) (by kernel_rfl) (by kernel_rfl) (by kernel_rfl) (by intro _ _ _ h; exact h) (Or.inl ⟨by rfl, fun W hSw => ?_⟩) hHeld ?_
    rotate_left
    focus ((try dsimp only at hSw); first | (go_simp; done) | (go_simp; with_reducible rfl))
    try simp only [Act.put, List.setIfInBounds_toArray, List.set_cons_zero, List.set_cons_succ]
    refine wpAnyH_take (i := 53) (v := ?_) (by simp only [List.getElem?_toArray, List.getElem?_cons_succ, List.getElem?_cons_zero]; exact rfl) (by kernel_rfl) (by kernel_rfl) (by kernel_rfl) (by intro _ _ _ h; exact h) (Or.inl ⟨by rfl, fun W hSw => ?_⟩) hHeld ?_
    rotate_left
    focus ((try dsimp only at hSw); first | (go_simp; done) | (go_simp; with_reducible rfl))
    try simp only [Act.put, List.setIfInBounds_toArray, List.set_cons_zero, List.set_cons_succ]
    refine wpAnyH_take (i := 54) (v := ?_) (by simp only [List.getElem?_toArray, List.getElem?_cons_succ, List.getElem?_cons_zero]; exact rfl) (by kernel_rfl) (by kernel_rfl) (by kernel_rfl) (by intro _ _ _ h; exact h) (Or.inl ⟨by rfl, fun W hSw => ?_⟩) hHeld ?_
    rotate_left
    focus ((try dsimp only at hSw); first | (go_simp; done) | (go_simp; with_reducible rfl))
    try simp only [Act.put, List.setIfInBounds_toArray, List.set_cons_zero, List.set_cons_succ]
    refine wpAnyH_take (i := 55) (v := ?_) (by simp only [List.getElem?_toArray, List.getElem?_cons_succ, List.getElem?_cons_zero]; exact rfl) (by kernel_rfl) (by kernel_rfl) (by kernel_rfl) (by intro _ _ _ h; exact h) (Or.inl ⟨by rfl, fun W hSw => ?_⟩) hHeld ?_
    rotate_left
    focus ((try dsimp only at hSw); first | (go_simp; done) | (go_simp; with_reducible rfl))
    try simp only [Act.put, List.setIfInBounds_toArray, List.set_cons_zero, List.set_cons_succ]
    refine wpAnyH_done (by kernel_rfl) ?_ _
    clear hHeld
    go_wp2
    go_ret2
    exact ⟨by rw [← HR.out]; rfl, HBT.out.drewN 1⟩
  have t7 : decide (m.second > 59) = false := by simpa using q7
  have hRt : R = if (dahead Y + m.day - 1 + dmons Y (m.month.toNat - 1)) % 7 ≠ m.wd then (0, false) else ((dahead Y + m.day - 1 + dmons Y (m.month.toNat - 1)) * 86400 + m.hour * 3600 + m.minute * 60 + m.second, true) := by
    rw [← HR0.out]; unfold dtick; rw [HY.out, if_neg (by omega)]
  have HRT := Lib.hid hRt
  clear hRt
  go_wp2
  refine wp_region_held_drew (S := (fun w' => w'.cell? ⟨mb, 1, none⟩ = some (.int .i64 m.day) ∧ w'.cell? ⟨mb, 2, none⟩ = some (.int .i64 m.month) ∧ w'.cell? ⟨mb, 3, none⟩ = some (.int .i64 Y) ∧ w'.cell? ⟨mb, 4, none⟩ = some (.int .i64 m.hour) ∧ w'.cell? ⟨mb, 5, none⟩ = some (.int .i64 m.minute) ∧ w'.cell? ⟨mb, 6, none⟩ = some (.int .i64 m.second))) (by kernel_rfl) (⟨c1, c2, c3, c4, c5, c6⟩) (fun hHeld => ?_)
  refine wpAnyH_take (i := 0) (v := ?_) (by simp only [List.getElem?_toArray, List.getElem?_cons_zero]; exact rfl) (by kernel_rfl) (by kernel_rfl) (by kernel_rfl) (by intro _ _ _ h; exact h) (Or.inl ⟨by rfl, fun W hSw => ?_⟩) hHeld ?_
  rotate_left
  focus ((try dsimp only at hSw); first | (go_simp; done) | (go_simp; with_reducible rfl))
  try simp only [Act.put, List.setIfInBounds_toArray, List.set_cons_zero, List.set_cons_succ]
  refine wpAnyH_take (i := 1) (v := ?_) (by simp only [List.getElem?_toArray, List.getElem?_cons_succ, List.getElem?_cons_zero]; exact rfl) (by kernel_rfl) (by kernel_rfl) (by kernel_rfl) (by intro _ _ _ h; exact h) (Or.inl ⟨by rfl, fun W hSw => ?_⟩) hHeld ?_
  rotate_left
  focus ((try dsimp only at hSw); first | (go_simp; done) | (go_simp; with_reducible rfl))
  try simp only [Act.put, List.setIfInBounds_toArray, List.set_cons_zero, List.set_cons_succ]
  refine wpAnyH_take (i := 2) (v := ?_) (by simp only [List.getElem?_toArray, List.getElem?_cons_succ, List.getElem?_cons_zero]; exact rfl) (by kernel_rfl) (by kernel_rfl) (by kernel_rfl) (by intro _ _ _ h; exact h) (Or.inl ⟨by rfl, fun W hSw => ?_⟩) hHeld ?_
  rotate_left
  focus ((try dsimp only at hSw); first | (go_simp; done) | (go_simp; with_reducible rfl))
  try simp only [Act.put, List.setIfInBounds_toArray, List.set_cons_zero, List.set_cons_succ]
  refine wpAnyH_take (i := 3) (v := ?_) (by simp only [List.getElem?_toArray, List.getElem?_cons_succ, List.getElem?_cons_zero]; exact rfl) (by kernel_rfl) (by kernel_rfl) (by kernel_rfl) (by intro _ _ _ h; exact h) (Or.inl ⟨by rfl, fun W hSw => ?_⟩) hHeld ?_
  rotate_left
  focus ((try dsimp only at hSw); first | (go_simp; done) | (go_simp; with_reducible rfl))
  try simp only [Act.put, List.setIfInBounds_toArray, List.set_cons_zero, List.set_cons_succ]
  refine wpAnyH_take (i := 4) (v := ?_) (by simp only [List.getElem?_toArray, List.getElem?_cons_succ, List.getElem?_cons_zero]; exact rfl) (by kernel_rfl) (by kernel_rfl) (by kernel_rfl) (by intro _ _ _ h; exact h) (Or.inl ⟨by rfl, fun W hSw => ?_⟩) hHeld ?_
  rotate_left
  focus ((try dsimp only at hSw); first | (go_simp; done) | (go_simp; with_reducible rfl))
  try simp only [Act.put, List.setIfInBounds_toArray, List.set_cons_zero, List.set_cons_succ]
  refine wpAnyH_take (i := 5) (v := ?_) (by simp only [List.getElem?_toArray, List.getElem?_cons_succ, List.getElem?_cons_zero]; exact rfl) (by kernel_rfl) (by kernel_rfl) (by kernel_rfl) (by intro _ _ _ h; exact h) (Or.inl ⟨by rfl, fun W hSw => ?_⟩) hHeld ?_
  rotate_left
  focus ((try dsimp only at hSw); first | (go_simp; done) | (go_simp; with_reducible rfl))
  try simp only [Act.put, List.setIfInBounds_toArray, List.set_cons_zero, List.set_cons_succ]
  refine wpAnyH_take (i := 6) (v := ?_) (by simp only [List.getElem?_toArray, List.getElem?_cons_succ, List.getElem?_cons_zero]; exact rfl) (by kernel_rfl) (by kernel_rfl) (by kernel_rfl) (by intro _ _ _ h; exact h) (Or.inl ⟨by rfl, fun W hSw => ?_⟩) hHeld ?_
  rotate_left
  focus ((try dsimp only at hSw); first | (go_simp; done) | (go_simp; with_reducible rfl))
  try simp only [Act.put, List.setIfInBounds_toArray, List.set_cons_zero, List.set_cons_succ]
  refine wpAnyH_take (i := 7) (v := ?_) (by simp only [List.getElem?_toArray, List.getElem?_cons_succ, List.getElem?_cons_zero]; exact rfl) (by kernel_rfl) (by kernel_rfl) (by kernel_rfl) (by intro _ _ _ h; exact h) (Or.inl ⟨by rfl, fun W hSw => ?_⟩) hHeld ?_
  rotate_left
  focus ((try dsimp only at hSw); first | (go_simp; done) | (go_simp; with_reducible rfl))
  try simp only [Act.put, List.setIfInBounds_toArray, List.set_cons_zero, List.set_cons_succ]
  refine wpAnyH_take (i := 8) (v := ?_) (by simp only [List.getElem?_toArray, List.getElem?_cons_succ, List.getElem?_cons_zero]; exact rfl) (by kernel_rfl) (by kernel_rfl) (by kernel_rfl) (by intro _ _ _ h; exact h) (Or.inl ⟨by rfl, fun W hSw => ?_⟩) hHeld ?_
  rotate_left
  focus ((try dsimp only at hSw); first | (go_simp; done) | (go_simp; with_reducible rfl))
  try simp only [Act.put, List.setIfInBounds_toArray, List.set_cons_zero, List.set_cons_succ]
  refine wpAnyH_take (i := 9) (v := ?_) (by simp only [List.getElem?_toArray, List.getElem?_cons_succ, List.getElem?_cons_zero]; exact rfl) (by kernel_rfl) (by kernel_rfl) (by kernel_rfl) (by intro _ _ _ h; exact h) (Or.inl ⟨by rfl, fun W hSw => ?_⟩) hHeld ?_
  rotate_left
  focus ((try dsimp only at hSw); first | (go_simp; done) | (go_simp; with_reducible rfl))
  try simp only [Act.put, List.setIfInBounds_toArray, List.set_cons_zero, List.set_cons_succ]
  refine wpAnyH_take (i := 10) (v := ?_) (by simp only [List.getElem?_toArray, List.getElem?_cons_succ, List.getElem?_cons_zero]; exact rfl) (by kernel_rfl) (by kernel_rfl) (by kernel_rfl) (by intro _ _ _ h; exact h) (Or.inl ⟨by rfl, fun W hSw => ?_⟩) hHeld ?_
  rotate_left
  focus ((try dsimp only at hSw); first | (go_simp; done) | (go_simp; with_reducible rfl))
  try simp only [Act.put, List.setIfInBounds_toArray, List.set_cons_zero, List.set_cons_succ]
  refine wpAnyH_take (i := 11) (v := ?_) (by simp only [List.getElem?_toArray, List.getElem?_cons_succ, List.getElem?_cons_zero]; exact rfl) (by kernel_rfl) (by kernel_rfl) (by kernel_rfl) (by intro _ _ _ h; exact h) (Or.inl ⟨by rfl, fun W hSw => ?_⟩) hHeld ?_
  rotate_left
  focus ((try dsimp only at hSw); first | (go_simp; done) | (go_simp; with_reducible rfl))
  try simp only [Act.put, List.setIfInBounds_toArray, List.set_cons_zero, List.set_cons_succ]
  refine wpAnyH_take (i := 12) (v := ?_) (by simp only [List.getElem?_toArray, List.getElem?_cons_succ, List.getElem?_cons_zero]; exact rfl) (by kernel_rfl) (by kernel_rfl) (by kernel_rfl) (by intro _ _ _ h; exact h) (Or.inl ⟨by rfl, fun W hSw => ?_⟩) hHeld ?_
  rotate_left
  focus ((try dsimp only at hSw); first | (go_simp; done) | (go_simp; with_reducible rfl))
  try simp only [Act.put, List.setIfInBounds_toArray, List.set_cons_zero, List.set_cons_succ]
  refine wpAnyH_take (i := 13) (v := ?_) (by simp only [List.getElem?_toArray, List.getElem?_cons_succ, List.getElem?_cons_zero]; exact rfl) (by kernel_rfl) (by kernel_rfl) (by kernel_rfl) (by intro _ _ _ h; exact h) (Or.inl ⟨by rfl, fun W hSw => ?_⟩) hHeld ?_
  rotate_left
  focus ((try dsimp only at hSw); first | (go_simp; done) | (go_simp; with_reducible rfl))
  try simp only [Act.put, List.setIfInBounds_toArray, List.set_cons_zero, List.set_cons_succ]
  refine wpAnyH_take (i := 14) (v := ?_) (by simp only [List.getElem?_toArray, List.getElem?_cons_succ, List.getElem?_cons_zero]; exact rfl) (by kernel_rfl) (by kernel_rfl) (by kernel_rfl) (by intro _ _ _ h; exact h) (Or.inl ⟨by rfl, fun W hSw => ?_⟩) hHeld ?_
  rotate_left
  focus ((try dsimp only at hSw); first | (go_simp; done) | (go_simp; with_reducible rfl))
  try simp only [Act.put, List.setIfInBounds_toArray, List.set_cons_zero, List.set_cons_succ]
  refine wpAnyH_take (i := 15) (v := ?_) (by simp only [List.getElem?_toArray, List.getElem?_cons_succ, List.getElem?_cons_zero]; exact rfl) (by kernel_rfl) (by kernel_rfl) (by kernel_rfl) (by intro _ _ _ h; exact h) (Or.inl ⟨by rfl, fun W hSw => ?_⟩) hHeld ?_
  rotate_left
  focus ((try dsimp only at hSw); first | (go_simp; done) | (go_simp; with_reducible rfl))
  try simp only [Act.put, List.setIfInBounds_toArray, List.set_cons_zero, List.set_cons_succ]
  refine wpAnyH_take (i := 16) (v := ?_) (by simp only [List.getElem?_toArray, List.getElem?_cons_succ, List.getElem?_cons_zero]; exact rfl) (by kernel_rfl) (by kernel_rfl) (by kernel_rfl) (by intro _ _ _ h; exact h) (Or.inl ⟨by rfl, fun W hSw => ?_⟩) hHeld ?_
  rotate_left
  focus ((try dsimp only at hSw); first | (go_simp; done) | (go_simp; with_reducible rfl))
  try simp only [Act.put, List.setIfInBounds_toArray, List.set_cons_zero, List.set_cons_succ]
  refine wpAnyH_take (i := 17) (v := ?_) (by simp only [List.getElem?_toArray, List.getElem?_cons_succ, List.getElem?_cons_zero]; exact rfl) (by kernel_rfl) (by kernel_rfl) (by kernel_rfl) (by intro _ _ _ h; exact h) (Or.inl ⟨by rfl, fun W hSw => ?_⟩) hHeld ?_
  rotate_left
  focus ((try dsimp only at hSw); first | (go_simp; done) | (go_simp; with_reducible rfl))
  try simp only [Act.put, List.setIfInBounds_toArray, List.set_cons_zero, List.set_cons_succ]
  refine wpAnyH_take (i := 18) (v := ?_) (by simp only [List.getElem?_toArray, List.getElem?_cons_succ, List.getElem?_cons_zero]; exact rfl) (by kernel_rfl) (by kernel_rfl) (by kernel_rfl) (by intro _ _ _ h; exact h) (Or.inl ⟨by rfl, fun W hSw => ?_⟩) hHeld ?_
  rotate_left
  focus ((try dsimp only at hSw); first | (go_simp; done) | (go_simp; with_reducible rfl))
  try simp only [Act.put, List.setIfInBounds_toArray, List.set_cons_zero, List.set_cons_succ]
  refine wpAnyH_take (i := 19) (v := ?_) (by simp only [List.getElem?_toArray, List.getElem?_cons_succ, List.getElem?_cons_zero]; exact rfl) (by kernel_rfl) (by kernel_rfl) (by kernel_rfl) (by intro _ _ _ h; exact h) (Or.inl ⟨by rfl, fun W hSw => ?_⟩) hHeld ?_
  rotate_left
  focus ((try dsimp only at hSw); first | (go_simp; done) | (go_simp; with_reducible rfl))
  try simp only [Act.put, List.setIfInBounds_toArray, List.set_cons_zero, List.set_cons_succ]
  refine wpAnyH_take (i := 20) (v := ?_) (by simp only [List.getElem?_toArray, List.getElem?_cons_succ, List.getElem?_cons_zero]; exact rfl) (by kernel_rfl) (by kernel_rfl) (by kernel_rfl) (by intro _ _ _ h; exact h) (Or.inl ⟨by rfl, fun W hSw => ?_⟩) hHeld ?_
  rotate_left
  focus ((try dsimp only at hSw); first | (go_simp; done) | (go_simp; with_reducible rfl))
  try simp only [Act.put, List.setIfInBounds_toArray, List.set_cons_zero, List.set_cons_succ]
  refine wpAnyH_take (i := 21) (v := ?_) (by simp only [List.getElem?_toArray, List.getElem?_cons_succ, List.getElem?_cons_zero]; exact rfl) (by kernel_rfl) (by kernel_rfl) (by kernel_rfl) (by intro _ _ _ h; exact h) (Or.inl ⟨by rfl, fun W hSw => ?_⟩) hHeld ?_
  rotate_left
  focus ((try dsimp only at hSw); first | (go_simp; done) | (go_simp; with_reducible rfl))
  try simp only [Act.put, List.setIfInBounds_toArray, List.set_cons_zero, List.set_cons_succ]
  refine wpAnyH_take (i := 22) (v := ?_) (by simp only [List.getElem?_toArray, List.getElem?_cons_succ, List.getElem?_cons_zero]; exact rfl) (by kernel_rfl) (by kernel_rfl) (by kernel_rfl) (by intro _ _ _ h; exact h) (Or.inl ⟨by rfl, fun W hSw => ?_⟩) hHeld ?_
  rotate_left
  focus ((try dsimp only at hSw); first | (go_simp; done) | (go_simp; with_reducible rfl))
  try simp only [Act.put, List.setIfInBounds_toArray, List.set_cons_zero, List.set_cons_succ]
  refine wpAnyH_take (i := 23) (v := ?_) (by simp only [List.getElem?_toArray, List.getElem?_cons_succ, List.getElem?_cons_zero]; exact rfl) (by kernel_rfl) (by kernel_rfl) (by kernel_rfl) (by intro _ _ _ h; exact h) (Or.inl ⟨by rfl, fun W hSw => ?_⟩) hHeld ?_
  rotate_left
  focus ((try dsimp only at hSw); first | (go_simp; done) | (go_simp; with_reducible rfl))
  try simp only [Act.put, List.setIfInBounds_toArray, List.set_cons_zero, List.set_cons_succ]
  refine wpAnyH_take (i := 24) (v := ?_) (by simp only [List.getElem?_toArray, List.getElem?_cons_succ, List.getElem?_cons_zero]; exact rfl) (by kernel_rfl) (by kernel_rfl) (by kernel_rfl) (by intro _ _ _ h; exact h) (Or.inl ⟨by rfl, fun W hSw => ?_⟩) hHeld ?_
  rotate_left
  focus ((try dsimp only at hSw); first | (go_simp; done) | (go_simp; with_reducible rfl))
  try simp only [Act.put, List.setIfInBounds_toArray, List.set_cons_zero, List.set_cons_succ]
  refine wpAnyH_take (i := 25) (v := ?_) (by simp only [List.getElem?_toArray, List.getElem?_cons_succ, List.getElem?_cons_zero]; exact rfl) (by kernel_rfl) (by kernel_rfl) (by kernel_rfl) (by intro _ _ _ h; exact h) (Or.inl ⟨by rfl, fun W hSw => ?_⟩) hHeld ?_
  rotate_left
  focus ((try dsimp only at hSw); first | (go_simp; done) | (go_simp; with_reducible rfl))
  try simp only [Act.put, List.setIfInBounds_toArray, List.set_cons_zero, List.set_cons_succ]
  refine wpAnyH_take (i := 26) (v := ?_) (by simp only [List.getElem?_toArray, List.getElem?_cons_succ, List.getElem?_cons_zero]; exact rfl) (by kernel_rfl) (by kernel_rfl) (by kernel_rfl) (by intro _ _ _ h; exact h) (Or.inl ⟨by rfl, fun W hSw => ?_⟩) hHeld ?_
  rotate_left
  focus ((try dsimp only at hSw); first | (go_simp; done) | (go_simp; with_reducible rfl))
  try simp only [Act.put, List.setIfInBounds_toArray, List.set_cons_zero, List.set_cons_succ]
  refine wpAnyH_take (i := 27) (v := ?_) (by simp only [List.getElem?_toArray, List.getElem?_cons_succ, List.getElem?_cons_zero]; exact rfl) (by kernel_rfl) (by kernel_rfl) (by kernel_rfl) (by intro _ _ _ h; exact h) (Or.inl ⟨by rfl, fun W hSw => ?_⟩) hHeld ?_
  rotate_left
  focus ((try dsimp only at hSw); first | (go_simp; done) | (go_simp; with_reducible rfl))
  try simp only [Act.put, List.setIfInBounds_toArray, List.set_cons_zero, List.set_cons_succ]
  refine wpAnyH_take (i := 28) (v := ?_) (by simp only [List.getElem?_toArray, List.getElem?_cons_succ, List.getElem?_cons_zero]; exact rfl) (by kernel_rfl) (by kernel_rfl) (by kernel_rfl) (by intro _ _ _ h; exact h) (Or.inl ⟨by rfl, fun W hSw => ?_⟩) hHeld ?_
  rotate_left
  focus ((try dsimp only at hSw); first | (go_simp; done) | (go_simp; with_reducible rfl))
  try simp only [Act.put, List.setIfInBounds_toArray, List.set_cons_zero, List.set_cons_succ]
  refine wpAnyH_take (i := 29) (v := ?_) (by simp only [List.getElem?_toArray, List.getElem?_cons_succ, List.getElem?_cons_zero]; exact rfl) (by kernel_rfl) (by kernel_rfl) (by kernel_rfl) (by intro _ _ _ h; exact h) (Or.inl ⟨by rfl, fun W hSw => ?_⟩) hHeld ?_
  rotate_left
  focus ((try dsimp only at hSw); first | (go_simp; done) | (go_simp; with_reducible rfl))
  try simp only [Act.put, List.setIfInBounds_toArray, List.set_cons_zero, List.set_cons_succ]
  refine wpAnyH_take (i := 30) (v := ?_) (by simp only [List.getElem?_toArray, List.getElem?_cons_succ, List.getElem?_cons_zero]; exact rfl) (by kernel_rfl) (by kernel_rfl) (by kernel_rfl) (by intro _ _ _ h; exact h) (Or.inl ⟨by rfl, fun W hSw => ?_⟩) hHeld ?_
  rotate_left
  focus ((try dsimp only at hSw); first | (go_simp; done) | (go_simp; with_reducible rfl))
  try simp only [Act.put, List.setIfInBounds_toArray, List.set_cons_zero, List.set_cons_succ]
  refine wpAnyH_take (i := 31) (v := ?_) (by simp only [List.getElem?_toArray, List.getElem?_cons_succ, List.getElem?_cons_zero]; exact rfl) (by kernel_rfl) (by kernel_rfl) (by kernel_rfl) (by intro _ _ _ h; exact h) (Or.inl ⟨by rfl, fun W hSw => ?_⟩) hHeld ?_
  rotate_left
  focus ((try dsimp only at hSw); first | (go_simp; done) | (go_simp; with_reducible rfl))
  try simp only [Act.put, List.setIfInBounds_toArray, List.set_cons_zero, List.set_cons_succ]
  refine wpAnyH_ready (rs := [32]) (by kernel_rfl) (by simp) (AllReadyH.cons (by simp only [List.getElem?_toArray, List.getElem?_cons_succ, List.getElem?_cons_zero]; exact rfl) (fun K hK => ?_) AllReadyH.nil)
  rw [if_pos (by rfl)]
  go_simp
  refine (KL.out _).mono ?_; rintro e wl ⟨rfl, rfl⟩; go_wp2_with fail
  refine hK.out _ _ (hHeld) (fun hHeld => ?_)
  clear hK K
  try simp only [Act.put, List.setIfInBounds_toArray, List.set_cons_zero, List.set_cons_succ]
  refine wpAnyH_take (i := 33) (v := ?_) (by simp only [List.getElem?_toArray, List.getElem?_cons_succ, List.getElem?_cons_zero]; exact rfl) (by kernel_rfl) (by kernel_rfl) (by kernel_rfl) (by intro _ _ _ h; exact h) (Or.inl ⟨by rfl, fun W hSw => ?_⟩) hHeld ?_
  rotate_left
  focus ((try dsimp only at hSw); first | (go_simp; done) | (go_simp; with_reducible rfl))
  try simp only [Act.put, List.setIfInBounds_toArray, List.set_cons_zero, List.set_cons_succ]
  refine wpAnyH_take (i := 34) (v := ?_) (by simp only [List.getElem?_toArray, List.getElem?_cons_succ, List.getElem?_cons_zero]; exact rfl) (by kernel_rfl) (by kernel_rfl) (by kernel_rfl) (by intro _ _ _ h; exact h) (Or.inl ⟨by rfl, fun W hSw => ?_⟩) hHeld ?_
  rotate_left
  focus ((try dsimp only at hSw); first | (go_simp; done) | (go_simp; with_reducible rfl))
  try simp only [Act.put, List.setIfInBounds_toArray, List.set_cons_zero, List.set_cons_succ]
  refine wpAnyH_take (i := 35) (v := ?_) (by simp only [List.getElem?_toArray, List.getElem?_cons_succ, List.getElem?_cons_zero]; exact rfl) (by kernel_rfl) (by kernel_rfl) (by kernel_rfl) (by intro _ _ _ h; exact h) (Or.inl ⟨by rfl, fun W hSw => ?_⟩) hHeld ?_
  rotate_left
  focus ((try dsimp only at hSw); first | (go_simp; done) | (go_simp; with_reducible rfl))
  try simp only [Act.put, List.setIfInBounds_toArray, List.set_cons_zero, List.set_cons_succ]
  refine wpAnyH_take (i := 36) (v := ?_) (by simp only [List.getElem?_toArray, List.getElem?_cons_succ, List.getElem?_cons_zero]; exact rfl) (by kernel_rfl) (by kernel_rfl) (by kernel_rfl) (by intro _ _ _ h; exact h) (Or.inl ⟨by rfl, fun W hSw => ?_⟩) hHeld ?_
  rotate_left
  focus ((try dsimp only at hSw); first | (go_simp; done) | (go_simp; with_reducible rfl))
  try simp only [Act.put, List.setIfInBounds_toArray, List.set_cons_zero, List.set_cons_succ]
  refine wpAnyH_take (i := 37) (v := ?_) (by simp only [List.getElem?_toArray, List.getElem?_cons_succ, List.getElem?_cons_zero]; exact rfl) (by kernel_rfl) (by kernel_rfl) (by kernel_rfl) (by intro _ _ _ h; exact h) (Or.inl ⟨by rfl, fun W hSw => ?_⟩) hHeld ?_
  rotate_left
  focus ((try dsimp only at hSw); first | (go_simp; done) | (go_simp; with_reducible rfl))
  try simp only [Act.put, List.setIfInBounds_toArray, List.set_cons_zero, List.set_cons_succ]
  refine wpAnyH_take (i := 38) (v := ?_) (by simp only [List.getElem?_toArray, List.getElem?_cons_succ, List.getElem?_cons_zero]; exact rfl) (by kernel_rfl) (by kernel_rfl) (by kernel_rfl) (by intro _ _ _ h; exact h) (Or.inl ⟨by rfl, fun W hSw => ?_⟩) hHeld ?_
  rotate_left
  focus ((try dsimp only at hSw); first | (go_simp; done) | (go_simp; with_reducible rfl))
  try simp only [Act.put, List.setIfInBounds_toArray, List.set_cons_zero, List.set_cons_succ]
  refine wpAnyH_take (i := 39) (v := ?_) (by simp only [List.getElem?_toArray, List.getElem?_cons_succ, List.getElem?_cons_zero]; exact rfl) (by kernel_rfl) (by kernel_rfl) (by kernel_rfl) (by intro _ _ _ h; exact h) (Or.inl ⟨by rfl, fun W hSw => ?_⟩) hHeld ?_
  rotate_left
  focus ((try dsimp only at hSw); first | (go_simp; done) | (go_simp; with_reducible rfl))
  try simp only [Act.put, List.setIfInBounds_toArray, List.set_cons_zero, List.set_cons_succ]
  refine wpAnyH_take (i := 40) (v := ?_) (by simp only [List.getElem?_toArray, List.getElem?_cons_succ, List.getElem?_cons_zero]; exact rfl) (by kernel_rfl) (by kernel_rfl) (by kernel_rfl) (by intro _ _ _ h; exact h) (Or.inl ⟨by rfl, fun W hSw => ?_⟩) hHeld ?_
  rotate_left
  focus ((try dsimp only at hSw); first | (go_simp; done) | (go_simp; with_reducible rfl))
  try simp only [Act.put, List.setIfInBounds_toArray, List.set_cons_zero, List.set_cons_succ]
  refine wpAnyH_take (i := 41) (v := ?_) (by simp only [List.getElem?_toArray, List.getElem?_cons_succ, List.getElem?_cons_zero]; exact rfl) (by kernel_rfl) (by kernel_rfl) (by kernel_rfl) (by intro _ _ _ h; exact h) (Or.inl ⟨by rfl, fun W hSw => ?_⟩) hHeld ?_
  rotate_left
  focus ((try dsimp only at hSw); first | (go_simp; done) | (go_simp; with_reducible rfl))
  try simp only [Act.put, List.setIfInBounds_toArray, List.set_cons_zero, List.set_cons_succ]
  refine wpAnyH_take (i := 42) (v := ?_) (by simp only [List.getElem?_toArray, List.getElem?_cons_succ, List.getElem?_cons_zero]; exact rfl) (by kernel_rfl) (by kernel_rfl) (by kernel_rfl) (by intro _ _ _ h; exact h) (Or.inl ⟨by rfl, fun W hSw => ?_⟩) hHeld ?_
  rotate_left
  focus ((try dsimp only at hSw); first | (go_simp; done) | (go_simp; with_reducible rfl))
  try simp only [Act.put, List.setIfInBounds_toArray, List.set_cons_zero, List.set_cons_succ]
  refine wpAnyH_take (i := 43) (v := ?_) (by simp only [List.getElem?_toArray, List.getElem?_cons_succ, List.getElem?_cons_zero]; exact rfl) (by kernel_rfl) (by kernel_rfl) (by kernel_rfl) (by intro _ _ _ h; exact h) (Or.inl ⟨by rfl, fun W hSw => ?_⟩) hHeld ?_
  rotate_left
  focus ((try dsimp only at hSw); first | (go_simp; done) | (go_simp; with_reducible rfl))
  try simp only [Act.put, List.setIfInBounds_toArray, List.set_cons_zero, List.set_cons_succ]
  refine wpAnyH_take (i := 44) (v := ?_) (by simp only [List.getElem?_toArray, List.getElem?_cons_succ, List.getElem?_cons_zero]; exact rfl) (by kernel_rfl) (by kernel_rfl) (by kernel_rfl) (by intro _ _ _ h; exact h) (Or.inl ⟨by rfl, fun W hSw => ?_⟩) hHeld ?_
  rotate_left
  focus ((try dsimp only at hSw); first | (go_simp; done) | (go_simp; with_reducible rfl))
  try simp only [Act.put, List.setIfInBounds_toArray, List.set_cons_zero, List.set_cons_succ]
  refine wpAnyH_take (i := 45) (v := ?_) (by simp only [List.getElem?_toArray, List.getElem?_cons_succ, List.getElem?_cons_zero]; exact rfl) (by kernel_rfl) (by kernel_rfl) (by kernel_rfl) (by intro _ _ _ h; exact h) (Or.inl ⟨by rfl, fun W hSw => ?_⟩) hHeld ?_
  rotate_left
  focus ((try dsimp only at hSw); first | (go_simp; done) | (go_simp; with_reducible rfl))
  try simp only [Act.put, List.setIfInBounds_toArray, List.set_cons_zero, List.set_cons_succ]
  refine wpAnyH_take (i := 46) (v := ?_) (by simp only [List.getElem?_toArray, List.getElem?_cons_succ, List.getElem?_cons_zero]; exact rfl) (by kernel_rfl) (by kernel_rfl) (by kernel_rfl) (by intro _ _ _ h; exact h) (Or.inl ⟨by rfl, fun W hSw => ?_⟩) hHeld ?_
  rotate_left
  focus ((try dsimp only at hSw); first | (go_simp; done) | (go_simp; with_reducible rfl))
  try simp only [Act.put, List.setIfInBounds_toArray, List.set_cons_zero, List.set_cons_succ]
  refine wpAnyH_take (i := 47) (v := ?_) (by simp only [List.getElem?_toArray, List.getElem?_cons_succ, List.getElem?_cons_zero]; exact rfl) (by kernel_rfl) (by kernel_rfl) (by kernel_rfl) (by intro _ _ _ h; exact h) (Or.inl ⟨by rfl, fun W hSw => ?_⟩) hHeld ?_
  rotate_left
  focus ((try dsimp only at hSw); first | (go_simp; done) | (go_simp; with_reducible rfl))
  try simp only [Act.put, List.setIfInBounds_toArray, List.set_cons_zero, List.set_cons_succ]
  refine wpAnyH_take (i := 48) (v := ?_) (by simp only [List.getElem?_toArray, List.getElem?_cons_succ, List.getElem?_cons_zero]; exact rfl) (by kernel_rfl) (by kernel_rfl) (by kernel_rfl) (by intro _ _ _ h; exact h) (Or.inl ⟨by rfl, fun W hSw => ?_⟩) hHeld ?_
  rotate_left
  focus ((try dsimp only at hSw); first | (go_simp; done) | (go_simp; with_reducible rfl))
  try simp only [Act.put, List.setIfInBounds_toArray, List.set_cons_zero, List.set_cons_succ]
  refine wpAnyH_take (i := 49) (v := ?_) (by simp only [List.getElem?_toArray, List.getElem?_cons_succ, List.getElem?_cons_zero]; exact rfl) (by kernel_rfl) (by kernel_rfl) (by kernel_rfl) (by intro _ _ _ h; exact h) (Or.inl ⟨by rfl, fun W hSw => ?_⟩) hHeld ?_
  rotate_left
  focus ((try dsimp only at hSw); first | (go_simp; done) | (go_simp; with_reducible rfl))
  try simp only [Act.put, List.setIfInBounds_toArray, List.set_cons_zero, List.set_cons_succ]
  refine wpAnyH_take (i := 50) (v := ?_) (by simp only [List.getElem?_toArray, List.getElem?_cons_succ, List.getElem?_cons_zero]; exact rfl) (by kernel_rfl) (by kernel_rfl) (by kernel_rfl) (by intro _ _ _ h; exact h) (Or.inl ⟨by rfl, fun W hSw => ?_⟩) hHeld ?_
  rotate_left
  focus ((try dsimp only at hSw); first | (go_simp; done) | (go_simp; with_reducible rfl))
  try simp only [Act.put, List.setIfInBounds_toArray, List.set_cons_zero, List.set_cons_succ]
  refine wpAnyH_take (i := 51) (v := ?_) (by simp only [List.getElem?_toArray, List.getElem?_cons_succ, List.getElem?_cons_zero]; exact rfl) (by kernel_rfl) (by kernel_rfl) (by kernel_rfl) (by intro _ _ _ h; exact h) (Or.inl ⟨by rfl, fun W hSw => ?_⟩) hHeld ?_
  rotate_left
  focus ((try dsimp only at hSw); first | (go_simp; done) | (go_simp; with_reducible rfl))
  try simp only [Act.put, List.setIfInBounds_toArray, List.set_cons_zero, List.set_cons_succ]
  refine wpAnyH_take (i := 52) (v := ?_) (by simp only [List.getElem?_toArray, List.getElem?_cons_succ, List.getElem?_cons_zero]; exact rfl) (by kernel_rfl) (by kernel_rfl) (by kernel_rfl) (by intro _ _ _ h; exact h) (Or.inl ⟨by rfl, fun W hSw => ?_⟩) hHeld ?_
  rotate_left
  focus ((try dsimp only at hSw); first | (go_simp; done) | (go_simp; with_reducible rfl))
  try simp only [Act.put, List.setIfInBounds_toArray, List.set_cons_zero, List.set_cons_succ]
  refine wpAnyH_take (i := 53) (v := ?_) (by simp only [List.getElem?_toArray, List.getElem?_cons_succ, List.getElem?_cons_zero]; exact rfl) (by kernel_rfl) (by kernel_rfl) (by kernel_rfl) (by intro _ _ _ h; exact h) (Or.inl ⟨by rfl, fun W hSw => ?_⟩) hHeld ?_
  rotate_left
  focus ((try dsimp only at hSw); first | (go_simp; done) | (go_simp; with_reducible rfl))
  try simp only [Act.put, List.setIfInBounds_toArray, List.set_cons_zero, List.set_cons_succ]
  refine wpAnyH_take (i := 54) (v := ?_) (by simp only [List.getElem?_toArray, List.getElem?_cons_succ, List.getElem?_cons_zero]; exact rfl) (by kernel_rfl) (by kernel_rfl) (by kernel_rfl) (by intro _ _ _ h; exact h) (Or.inl ⟨by rfl, fun W hSw => ?_⟩) hHeld ?_
  rotate_left
  focus ((try dsimp only at hSw); first | (go_simp; done) | (go_simp; with_reducible rfl))
  try simp only [Act.put, List.setIfInBounds_toArray, List.set_cons_zero, List.set_cons_succ]
  refine wpAnyH_take (i := 55) (v := ?_) (by simp only [List.getElem?_toArray, List.getElem?_cons_succ, List.getElem?_cons_zero]; exact rfl) (by kernel_rfl) (by kernel_rfl) (by kernel_rfl) (by intro _ _ _ h; exact h) (Or.inl ⟨by rfl, fun W hSw => ?_⟩) hHeld ?_
  rotate_left
  focus ((try dsimp only at hSw); first | (go_simp; done) | (go_simp; with_reducible rfl))
  try simp only [Act.put, List.setIfInBounds_toArray, List.set_cons_zero, List.set_cons_succ]
  refine wpAnyH_done (by kernel_rfl) ?_ _
  clear hHeld
  have ka := fun w' => dahead_any Y (by omega) w'
  have hab := dahead_ge Y (by omega)
  have KA := Lib.hid ka
  clear ka
  obtain ⟨AH, hAH⟩ : ∃ AH, dahead Y = AH := ⟨_, rfl⟩
  rw [hAH] at KA hab
  have HAH := Lib.hid hAH
  clear hAH
  have v1 : IntKind.i64.wrap (AH + m.day) = AH + m.day := by rw [IntKind.wrap_i64]; omega
  have v2 : IntKind.i64.wrap (AH + m.day - 1) = AH + m.day - 1 := by rw [IntKind.wrap_i64]; omega
  go_wp2_with fail
  refine wp_region_held_drew (S := (fun w' => w'.cell? ⟨mb, 0, none⟩ = some (.int .i64 m.wd) ∧ w'.cell? ⟨mb, 1, none⟩ = some (.int .i64 m.day) ∧ w'.cell? ⟨mb, 2, none⟩ = some (.int .i64 m.month) ∧ w'.cell? ⟨mb, 3, none⟩ = some (.int .i64 Y) ∧ w'.cell? ⟨mb, 4, none⟩ = some (.int .i64 m.hour) ∧ w'.cell? ⟨mb, 5, none⟩ = some (.int .i64 m.minute) ∧ w'.cell? ⟨mb, 6, none⟩ = some (.int .i64 m.second))) (by kernel_rfl) (⟨c0, c1, c2, c3, c4, c5, c6⟩) (fun hHeld => ?_)
  refine wpAnyH_take (i := 0) (v := ?_) (by simp only [List.getElem?_toArray, List.getElem?_cons_zero]; exact rfl) (by kernel_rfl) (by kernel_rfl) (by kernel_rfl) (by intro _ _ _ h; exact h) (Or.inl ⟨by rfl, fun W hSw => ?_⟩) hHeld ?_
  rotate_left
  focus ((try dsimp only at hSw); first | (go_simp; done) | (go_simp; with_reducible rfl))
  try simp only [Act.put, List.setIfInBounds_toArray, List.set_cons_zero, List.set_cons_succ]
  refine wpAnyH_take (i := 1) (v := ?_) (by simp only [List.getElem?_toArray, List.getElem?_cons_succ, List.getElem?_cons_zero]; exact rfl) (by kernel_rfl) (by kernel_rfl) (by kernel_rfl) (by intro _ _ _ h; exact h) (Or.inl ⟨by rfl, fun W hSw => ?_⟩) hHeld ?_
  rotate_left
  focus ((try dsimp only at hSw); first | (go_simp; done) | (go_simp; with_reducible rfl))
  try simp only [Act.put, List.setIfInBounds_toArray, List.set_cons_zero, List.set_cons_succ]
  refine wpAnyH_take (i := 2) (v := ?_) (by simp only [List.getElem?_toArray, List.getElem?_cons_succ, List.getElem?_cons_zero]; exact rfl) (by kernel_rfl) (by kernel_rfl) (by kernel_rfl) (by intro _ _ _ h; exact h) (Or.inl ⟨by rfl, fun W hSw => ?_⟩) hHeld ?_
  rotate_left
  focus ((try dsimp only at hSw); first | (go_simp; done) | (go_simp; with_reducible rfl))
  try simp only [Act.put, List.setIfInBounds_toArray, List.set_cons_zero, List.set_cons_succ]
  refine wpAnyH_take (i := 3) (v := ?_) (by simp only [List.getElem?_toArray, List.getElem?_cons_succ, List.getElem?_cons_zero]; exact rfl) (by kernel_rfl) (by kernel_rfl) (by kernel_rfl) (by intro _ _ _ h; exact h) (Or.inl ⟨by rfl, fun W hSw => ?_⟩) hHeld ?_
  rotate_left
  focus ((try dsimp only at hSw); first | (go_simp; done) | (go_simp; with_reducible rfl))
  try simp only [Act.put, List.setIfInBounds_toArray, List.set_cons_zero, List.set_cons_succ]
  refine wpAnyH_take (i := 5) (v := ?_) (by simp only [List.getElem?_toArray, List.getElem?_cons_succ, List.getElem?_cons_zero]; exact rfl) (by kernel_rfl) (by kernel_rfl) (by kernel_rfl) (by intro _ _ _ h; exact h) (Or.inl ⟨by rfl, fun W hSw => ?_⟩) hHeld ?_
  rotate_left
  focus ((try dsimp only at hSw); first | (go_simp; done) | (go_simp; with_reducible rfl))
  try simp only [Act.put, List.setIfInBounds_toArray, List.set_cons_zero, List.set_cons_succ]
  refine wpAnyH_take (i := 6) (v := ?_) (by simp only [List.getElem?_toArray, List.getElem?_cons_succ, List.getElem?_cons_zero]; exact rfl) (by kernel_rfl) (by kernel_rfl) (by kernel_rfl) (by intro _ _ _ h; exact h) (Or.inl ⟨by rfl, fun W hSw => ?_⟩) hHeld ?_
  rotate_left
  focus ((try dsimp only at hSw); first | (go_simp; done) | (go_simp; with_reducible rfl))
  try simp only [Act.put, List.setIfInBounds_toArray, List.set_cons_zero, List.set_cons_succ]
  refine wpAnyH_take (i := 7) (v := ?_) (by simp only [List.getElem?_toArray, List.getElem?_cons_succ, List.getElem?_cons_zero]; exact rfl) (by kernel_rfl) (by kernel_rfl) (by kernel_rfl) (by intro _ _ _ h; exact h) (Or.inl ⟨by rfl, fun W hSw => ?_⟩) hHeld ?_
  rotate_left
  focus ((try dsimp only at hSw); first | (go_simp; done) | (go_simp; with_reducible rfl))
  try simp only [Act.put, List.setIfInBounds_toArray, List.set_cons_zero, List.set_cons_succ]
  refine wpAnyH_take (i := 8) (v := ?_) (by simp only [List.getElem?_toArray, List.getElem?_cons_succ, List.getElem?_cons_zero]; exact rfl) (by kernel_rfl) (by kernel_rfl) (by kernel_rfl) (by intro _ _ _ h; exact h) (Or.inl ⟨by rfl, fun W hSw => ?_⟩) hHeld ?_
  rotate_left
  focus ((try dsimp only at hSw); first | (go_simp; done) | (go_simp; with_reducible rfl))
  try simp only [Act.put, List.setIfInBounds_toArray, List.set_cons_zero, List.set_cons_succ]
  refine wpAnyH_ready (rs := [4]) (by kernel_rfl) (by simp) (AllReadyH.cons (by simp only [List.getElem?_toArray, List.getElem?_cons_succ, List.getElem?_cons_zero]; exact rfl) (fun K hK => ?_) AllReadyH.nil)
  rw [if_pos (by rfl)]
  go_simp
  refine (KA.out _).mono ?_; rintro e wl ⟨rfl, rfl⟩; go_wp2_with fail
  refine hK.out _ _ (hHeld) (fun hHeld => ?_)
  clear hK K
  try simp only [Act.put, List.setIfInBounds_toArray, List.set_cons_zero, List.set_cons_succ]
  refine wpAnyH_take (i := 9) (v := ?_) (by simp only [List.getElem?_toArray, List.getElem?_cons_succ, List.getElem?_cons_zero]; exact rfl) (by kernel_rfl) (by kernel_rfl) (by kernel_rfl) (by intro _ _ _ h; exact h) (Or.inl ⟨by rfl, fun W hSw => ?_⟩) hHeld ?_
  rotate_left
  focus ((try dsimp only at hSw); first | (go_simp; done) | (go_simp; with_reducible rfl))
  try simp only [Act.put, List.setIfInBounds_toArray, List.set_cons_zero, List.set_cons_succ]
  refine wpAnyH_take (i := 10) (v := ?_) (by simp only [List.getElem?_toArray, List.getElem?_cons_succ, List.getElem?_cons_zero]; exact rfl) (by kernel_rfl) (by kernel_rfl) (by kernel_rfl) (by intro _ _ _ h; exact h) (Or.inl ⟨by rfl, fun W hSw => ?_⟩) hHeld ?_
  rotate_left
  focus ((try dsimp only at hSw); first | (go_simp; done) | (go_simp; with_reducible rfl))
  try simp only [Act.put, List.setIfInBounds_toArray, List.set_cons_zero, List.set_cons_succ]
  refine wpAnyH_take (i := 11) (v := ?_) (by simp only [List.getElem?_toArray, List.getElem?_cons_succ, List.getElem?_cons_zero]; exact rfl) (by kernel_rfl) (by kernel_rfl) (by kernel_rfl) (by intro _ _ _ h; exact h) (Or.inl ⟨by rfl, fun W hSw => ?_⟩) hHeld ?_
  rotate_left
  focus ((try dsimp only at hSw); first | (go_simp; done) | (go_simp; with_reducible rfl))
  try simp only [Act.put, List.setIfInBounds_toArray, List.set_cons_zero, List.set_cons_succ]
  refine wpAnyH_done (by kernel_rfl) ?_ _
  clear hHeld
  go_wp2_with fail
  go_loopw [9, 10] (fun d k wr => ∃ j : Nat, k = .int .i64 ((j : Int) + 1) ∧ j ≤ m.month.toNat - 1 ∧ d = .int .i64 (AH + m.day - 1 + dmons Y j) ∧ ∃ q, wr = w.drewN q) (fun _ k _ => 20 - (intD k).toNat)
  case atStart => exact ⟨0, rfl, Nat.zero_le _, by simp [dmons], 2, rfl⟩
  case round =>
    obtain ⟨j, rfl, hj, rfl, q, rfl⟩ := hrel
    have hdm := dmons_le Y j
    have hj12 : j ≤ 12 := by omega
    by_cases hjm : (j : Int) + 1 < m.month
    · have t8 : decide ((j : Int) + 1 < m.month) = true := by simpa using hjm
      have kj := dlong_any Y ((j : Int) + 1) hYb (w.drewN q)
      have hjl := dlong_le Y ((j : Int) + 1)
      have hdn : dmons Y (j + 1) = dmons Y j + dlong Y ((j : Int) + 1) := rfl
      have u1 : IntKind.i64.wrap (AH + m.day - 1 + dmons Y j + dlong Y ((j : Int) + 1)) = AH + m.day - 1 + dmons Y j + dlong Y ((j : Int) + 1) := by rw [IntKind.wrap_i64]; omega
      have u2 : IntKind.i64.wrap ((j : Int) + 1 + 1) = (j : Int) + 1 + 1 := by rw [IntKind.wrap_i64]; omega
      have KJ := Lib.hid kj; have HDN := Lib.hid hdn
      clear kj hdn
      go_wp2_with fail
      (with_reducible refine KJ.out.mono ?_)
      rintro e wl ⟨rfl, rfl⟩
      go_wp2
      go_roundw
      case rel => exact ⟨j + 1, rfl, by omega, by rw [HDN.out, ← Int.add_assoc], q, rfl⟩
      case measure => simp [intD]; omega
    · have t8 : decide ((j : Int) + 1 < m.month) = false := by simpa using hjm
      have hje : j = m.month.toNat - 1 := by omega
      obtain ⟨D, hD⟩ : ∃ D, AH + m.day - 1 + dmons Y j = D := ⟨_, rfl⟩
      have hDb : 0 ≤ D ∧ D ≤ 10000000 := by omega
      have hRD : R = if D % 7 ≠ m.wd then (0, false) else (D * 86400 + m.hour * 3600 + m.minute * 60 + m.second, true) := by
        rw [HRT.out, HAH.out, ← hje, hD]
      have em : D.tmod 7 = D % 7 := Int.tmod_eq_emod_of_nonneg hDb.1
      rw [hD]
      have HRD := Lib.hid hRD
      have HBE : Hid (ButB mb w (w.drewN q)) := Lib.hid (HBT.out.drewN q)
      clear hje hRD hD hdm hj HRT
      by_cases hwd : D % 7 = m.wd
      · have hR2 : R = (D * 86400 + m.hour * 3600 + m.minute * 60 + m.second, true) := by rw [HRD.out, if_neg (by simpa using hwd)]
        have b1 : (D % 7 == m.wd) = true := by simpa using hwd
        have x1 : IntKind.i64.wrap (D * 86400) = D * 86400 := by rw [IntKind.wrap_i64]; omega
        have x2 : IntKind.i64.wrap (m.hour * 3600) = m.hour * 3600 := by rw [IntKind.wrap_i64]; omega
        have x3 : IntKind.i64.wrap (D * 86400 + m.hour * 3600) = D * 86400 + m.hour * 3600 := by rw [IntKind.wrap_i64]; omega
        have x4 : IntKind.i64.wrap (m.minute * 60) = m.minute * 60 := by rw [IntKind.wrap_i64]; omega
        have x5 : IntKind.i64.wrap (D * 86400 + m.hour * 3600 + m.minute * 60) = D * 86400 + m.hour * 3600 + m.minute * 60 := by rw [IntKind.wrap_i64]; omega
        have x6 : IntKind.i64.wrap (D * 86400 + m.hour * 3600 + m.minute * 60 + m.second) = D * 86400 + m.hour * 3600 + m.minute * 60 + m.second := by rw [IntKind.wrap_i64]; omega
        have HR2 := Lib.hid hR2
        clear hR2
        go_wp2
        go_region
        go_wp2
        go_ret2
        exact ⟨by rw [HR2.out]; rfl, HBE.out.drewN 1⟩
      · have hR2 : R = (0, false) := by rw [HRD.out, if_pos hwd]
        have b1 : (D % 7 == m.wd) = false := by simpa using hwd
        have HR2 := Lib.hid hR2
        clear hR2
        go_wp2
        go_ret2
        exact ⟨by rw [HR2.out]; rfl, HBE.out⟩
end Go.Proofs.YtgmmjhcklhajiaaDoor
