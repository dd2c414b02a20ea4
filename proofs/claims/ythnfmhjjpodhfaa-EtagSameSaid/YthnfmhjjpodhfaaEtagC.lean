import Derived.Test.YthnfmhjjpodhfaaEtagB
import Derived.Deep.DeepCutAuto
namespace Go.Proofs.Ythnfmhjjpodhfaa
open Go.RowKit

theorem same_comm (x y : Ent) : y.same x = x.same y := by
  unfold Ent.same
  rw [Bool.eq_iff_iff]; simp only [Bool.and_eq_true, beq_iff_eq]
  constructor <;> (rintro ⟨⟨h1, h2⟩, h3⟩; exact ⟨⟨h2, h1⟩, h3.symm⟩)
theorem sure_comm (x y : Ent) : y.sure x = x.sure y := by
  unfold Ent.sure; rw [same_comm x y]; cases x.weak <;> cases y.weak <;> simp
theorem sure_same (x y : Ent) (h : x.sure y = true) : x.same y = true := by
  unfold Ent.sure at h; simp at h; exact h.1.1
theorem same_trans (x y z : Ent) (h : x.same y = true) (k : y.same z = true) : x.same z = true := by
  unfold Ent.same at *; simp at *; exact ⟨⟨h.1.1, k.1.2⟩, h.2.trans k.2⟩
theorem sure_trans (x y z : Ent) (h : x.sure y = true) (k : y.sure z = true) : x.sure z = true := by
  unfold Ent.sure at *; simp at *; exact ⟨⟨same_trans x y z h.1.1 k.1.1, h.1.2⟩, k.2⟩
theorem same_self (x : Ent) : x.same x = x.right := by unfold Ent.same; simp
theorem sure_self (x : Ent) : x.sure x = (x.right && !x.weak) := by unfold Ent.sure; rw [same_self]; cases x.weak <;> simp
theorem ent_not (a : ByteArray) (h : (ent a).right = false) : ent a = ⟨false, false, empt⟩ := by
  unfold ent at *; split <;> simp_all
theorem ent_W (a : ByteArray) (hr : (ent a).right = true) (hw : (ent a).weak = false) :
    ent ((⟨#[87, 47]⟩ : ByteArray) ++ a) = ⟨true, true, (ent a).tag⟩ := by
  unfold ent at *
  by_cases ht : tagged (cutP a ⟨#[87, 47]⟩) = true
  · rw [if_pos ht] at hr hw ⊢
    have hc : cutP a ⟨#[87, 47]⟩ = a := by
      unfold cutP; rw [if_neg]; simpa using hw
    have hp : Lib.hasPrefix ((⟨#[87, 47]⟩ : ByteArray) ++ a).data.toList [87, 47] = true := by
      simp [Lib.hasPrefix]
    have hc2 : cutP ((⟨#[87, 47]⟩ : ByteArray) ++ a) ⟨#[87, 47]⟩ = a := by
      unfold cutP
      rw [if_pos hp]
      apply ByteArray.ext
      apply Array.toList_inj.1
      rw [Lib.extract_data]
      have e1 : ((⟨#[87, 47]⟩ : ByteArray) ++ a).data.toList = [87, 47] ++ a.data.toList := by simp
      have e2 : ((⟨#[87, 47]⟩ : ByteArray) ++ a).size = a.data.toList.length + 2 := by rw [Lib.size_eq, e1]; simp
      rw [e1, e2, show (⟨#[87, 47]⟩ : ByteArray).size = 2 from rfl]
      simp [List.take_of_length_le]
    rw [hc] at ht ⊢
    rw [hc2, if_pos ht, hp]
  · rw [if_neg ht] at hr; simp at hr

set_option maxRecDepth 100000 in
set_option maxHeartbeats 4000000 in
theorem law_any (a b c : ByteArray) (w : World) :
    Calls Try.prog 3 #[.string a, .string b, .string c] w fun e w' => e = .returned (.bool true) ∧ Below w.heap.size w w' := by
  have hB := Below.refl w.heap.size w
  by_cases hs : a.size ≤ 3000 ∧ b.size ≤ 3000 ∧ c.size ≤ 3000
  · obtain ⟨ha, hb, hc⟩ := hs
    have g1 : decide (3000 < (a.size : Int)) = false := by simp; omega
    have g2 : decide (3000 < (b.size : Int)) = false := by simp; omega
    have g3 : decide (3000 < (c.size : Int)) = false := by simp; omega
    have ha4 : a.size ≤ 4000 := by omega
    have hb4 : b.size ≤ 4000 := by omega
    have hc4 : c.size ≤ 4000 := by omega
    obtain ⟨wab, q1⟩ : ∃ x, (ent a).same (ent b) = x := ⟨_, rfl⟩
    obtain ⟨wbc, q2⟩ : ∃ x, (ent b).same (ent c) = x := ⟨_, rfl⟩
    obtain ⟨wac, q3⟩ : ∃ x, (ent a).same (ent c) = x := ⟨_, rfl⟩
    obtain ⟨sab, q4⟩ : ∃ x, (ent a).sure (ent b) = x := ⟨_, rfl⟩
    obtain ⟨sbc, q5⟩ : ∃ x, (ent b).sure (ent c) = x := ⟨_, rfl⟩
    obtain ⟨sac, q6⟩ : ∃ x, (ent a).sure (ent c) = x := ⟨_, rfl⟩
    have q7 : (ent b).same (ent a) = wab := by rw [same_comm, q1]
    have q8 : (ent b).sure (ent a) = sab := by rw [sure_comm, q4]
    have i1 : sab = true → wab = true := by rw [← q1, ← q4]; exact sure_same _ _
    have i2 : wab = true → wbc = true → wac = true := by rw [← q1, ← q2, ← q3]; exact same_trans _ _ _
    have i3 : sab = true → sbc = true → sac = true := by rw [← q4, ← q5, ← q6]; exact sure_trans _ _ _
    have Q1 := Lib.hid q1; have Q2 := Lib.hid q2; have Q3 := Lib.hid q3; have Q4 := Lib.hid q4; have Q5 := Lib.hid q5; have Q6 := Lib.hid q6; have Q7 := Lib.hid q7; have Q8 := Lib.hid q8
    have I1 := Lib.hid i1; have I2 := Lib.hid i2; have I3 := Lib.hid i3
    clear q1 q2 q3 q4 q5 q6 q7 q8 i1 i2 i3
    go_enter Try.func3, Try.ntmps3
    go_upto_region 3 with (fail)
    go_cut [50] (fun s50 wx => s50 = .bool false ∧ Below w.heap.size w wx)
    case first =>
      have i1 := I1.out
      cases sab <;> cases wab <;> simp at i1
      all_goals
        clear i1
        go_wp2_with (first | (go_at_call 6; refine (weak_any _ _ _ (by assumption) (by assumption)).mono ?_; rintro e w' ⟨rfl, hb⟩; replace hB := bt hB hb; clear hb; first | rw [Q1.out] | rw [Q7.out]) | (go_at_call 5; refine (strong_any _ _ _ (by assumption) (by assumption)).mono ?_; rintro e w' ⟨rfl, hb⟩; replace hB := bt hB hb; clear hb; first | rw [Q4.out] | rw [Q8.out]))
        go_meet
        exact ⟨rfl, hB⟩
    case rest =>
      obtain ⟨rfl, hB⟩ := hcut
      go_upto_region 5 with (fail)
      go_cut [80] (fun s80 wx => s80 = .bool false ∧ Below w.heap.size w wx)
      case first =>
        have i2 := I2.out
        have i3 := I3.out
        cases wab <;> cases wbc <;> cases wac <;> simp at i2 <;> cases sab <;> cases sbc <;> cases sac <;> simp at i3
        all_goals
          clear i2 i3
          go_wp2_with (first | (go_at_call 6; refine (weak_any _ _ _ (by assumption) (by assumption)).mono ?_; rintro e w' ⟨rfl, hb⟩; replace hB := bt hB hb; clear hb; first | rw [Q1.out] | rw [Q2.out] | rw [Q3.out]) | (go_at_call 5; refine (strong_any _ _ _ (by assumption) (by assumption)).mono ?_; rintro e w' ⟨rfl, hb⟩; replace hB := bt hB hb; clear hb; first | rw [Q4.out] | rw [Q5.out] | rw [Q6.out]))
          go_meet
          exact ⟨rfl, hB⟩
      case rest =>
        obtain ⟨rfl, hB⟩ := hcut
        cases hr : (ent a).right
        · have e1 : (ent a).parse = .tuple #[.bool false, .string empt, .int .i64 4] := by unfold Ent.parse; rw [hr]; rfl
          have e2 : (ent a).same (ent a) = false := by rw [same_self, hr]
          have E1 := Lib.hid e1; have E2 := Lib.hid e2
          clear e1 e2 hr
          go_wp2_with (first | (go_at_call 7; refine (parse_any _ _ (by assumption)).mono ?_; rintro e w' ⟨rfl, hb⟩; replace hB := bt hB hb; clear hb; rw [E1.out]) | (go_at_call 6; refine (weak_any _ _ _ (by assumption) (by assumption)).mono ?_; rintro e w' ⟨rfl, hb⟩; replace hB := bt hB hb; clear hb; rw [E2.out]) | (go_at_call 4; refine (works_any _).mono ?_; rintro e w' ⟨rfl, hb⟩; replace hB := bt hB hb; clear hb))
          go_ret
          exact ⟨rfl, hB⟩
        · cases hw : (ent a).weak
          · have e1 : (ent a).parse = .tuple #[.bool false, .string (ent a).tag, .int .i64 0] := by unfold Ent.parse; rw [hr, hw]; rfl
            have e2 : (ent a).same (ent a) = true := by rw [same_self, hr]
            have e3 : (ent a).sure (ent a) = true := by rw [sure_self, hr, hw]; rfl
            have eW := ent_W a hr hw
            have e4 : (ent ((⟨#[87, 47]⟩ : ByteArray) ++ a)).same (ent b) = wab := by rw [← Q1.out, eW]; unfold Ent.same; rw [hr]
            have e5 : (ent ((⟨#[87, 47]⟩ : ByteArray) ++ a)).sure (ent a) = false := by rw [eW]; unfold Ent.sure; simp
            have hs4 : ((⟨#[87, 47]⟩ : ByteArray) ++ a).size ≤ 4000 := by rw [ByteArray.size_append]; show 2 + a.size ≤ 4000; omega
            have E1 := Lib.hid e1; have E2 := Lib.hid e2; have E3 := Lib.hid e3; have E4 := Lib.hid e4; have E5 := Lib.hid e5
            clear e1 e2 e3 e4 e5 hr hw eW
            generalize (ent a).tag = tg at *
            go_wp2_with (first | (go_at_call 7; refine (parse_any _ _ (by assumption)).mono ?_; rintro e w' ⟨rfl, hb⟩; replace hB := bt hB hb; clear hb; rw [E1.out]) | (go_at_call 6; refine (weak_any _ _ _ (by assumption) (by assumption)).mono ?_; rintro e w' ⟨rfl, hb⟩; replace hB := bt hB hb; clear hb; first | rw [E2.out] | rw [E4.out] | rw [Q1.out]) | (go_at_call 5; refine (strong_any _ _ _ (by assumption) (by assumption)).mono ?_; rintro e w' ⟨rfl, hb⟩; replace hB := bt hB hb; clear hb; first | rw [E3.out] | rw [E5.out]) | (go_at_call 4; refine (works_any _).mono ?_; rintro e w' ⟨rfl, hb⟩; replace hB := bt hB hb; clear hb))
            go_ret
            exact ⟨rfl, hB⟩
          · have e1 : (ent a).parse = .tuple #[.bool true, .string (ent a).tag, .int .i64 0] := by unfold Ent.parse; rw [hr, hw]; rfl
            have e2 : (ent a).same (ent a) = true := by rw [same_self, hr]
            have e3 : (ent a).sure (ent a) = false := by rw [sure_self, hr, hw]; rfl
            have E1 := Lib.hid e1; have E2 := Lib.hid e2; have E3 := Lib.hid e3
            clear e1 e2 e3 hr hw
            generalize (ent a).tag = tg at *
            go_wp2_with (first | (go_at_call 7; refine (parse_any _ _ (by assumption)).mono ?_; rintro e w' ⟨rfl, hb⟩; replace hB := bt hB hb; clear hb; rw [E1.out]) | (go_at_call 6; refine (weak_any _ _ _ (by assumption) (by assumption)).mono ?_; rintro e w' ⟨rfl, hb⟩; replace hB := bt hB hb; clear hb; rw [E2.out]) | (go_at_call 5; refine (strong_any _ _ _ (by assumption) (by assumption)).mono ?_; rintro e w' ⟨rfl, hb⟩; replace hB := bt hB hb; clear hb; rw [E3.out]) | (go_at_call 4; refine (works_any _).mono ?_; rintro e w' ⟨rfl, hb⟩; replace hB := bt hB hb; clear hb))
            go_ret
            exact ⟨rfl, hB⟩
  · have hs' : decide (3000 < (a.size : Int)) = true ∨ (decide (3000 < (a.size : Int)) = false ∧ decide (3000 < (b.size : Int)) = true) ∨ (decide (3000 < (a.size : Int)) = false ∧ decide (3000 < (b.size : Int)) = false ∧ decide (3000 < (c.size : Int)) = true) := by simp; omega
    clear hs
    rcases hs' with g1 | ⟨g1, g2⟩ | ⟨g1, g2, g3⟩
    all_goals
      go_enter Try.func3, Try.ntmps3
      go_wp2_with (go_at_call 4; refine (works_any _).mono ?_; rintro e w' ⟨rfl, hb⟩; replace hB := bt hB hb; clear hb)
      go_ret
      exact ⟨rfl, hB⟩
end Go.Proofs.Ythnfmhjjpodhfaa
