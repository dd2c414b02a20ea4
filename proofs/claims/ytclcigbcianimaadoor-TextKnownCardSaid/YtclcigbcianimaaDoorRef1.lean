/- The walks of the document's Letter, In, Token, Lower, Same, Trim. -/
import Derived.Test.YtclcigbcianimaaDoorTrim
import Derived.Laws.BytesArg
namespace Go.Proofs.YtclcigbcianimaaDoor
open Go.RowKit

set_option maxHeartbeats 1000000 in
theorem rletter_any (c : UInt8) (w : World) :
    Calls Tryd.prog 30 #[.int .u8 c.toNat] w fun e w' => e = .returned (.bool (letterb c)) ∧ w = w' := by
  rw [letter_eq]
  have hu := c.toNat_lt
  generalize c.toNat = n at *
  unfold letterI
  cases h3 : decide (65 ≤ (n : Int)) <;> cases h4 : decide ((n : Int) ≤ 90) <;> cases h1 : decide (97 ≤ (n : Int)) <;> cases h2 : decide ((n : Int) ≤ 122) <;> cases h5 : decide (48 ≤ (n : Int)) <;> cases h6 : decide ((n : Int) ≤ 57)
  all_goals first | (exfalso; simp at h1 h2 h3 h4 h5 h6; omega; done) | skip
  all_goals
    go_enter Tryd.func30, Tryd.ntmps30
    go_wp2
    go_ret
    exact ⟨rfl, rfl⟩

set_option maxHeartbeats 1000000 in
theorem rin_any (c : UInt8) (s : ByteArray) (w : World) (hs : s.size ≤ 1000000) :
    Calls Tryd.prog 31 #[.int .u8 c.toNat, .string s] w fun e w' => e = .returned (.bool (s.data.toList.contains c)) ∧ w = w' := by
  have hY : ∀ k (h : k < s.size), s[k] = c → s.data.toList.contains c = true := by
    intro k h e; rw [List.contains_iff_mem, ← e]; show s.data[k] ∈ _; simp
  have hN : ∀ k, s.size ≤ k → (s.data.toList.take k).contains c = false → s.data.toList.contains c = false := by
    intro k h e; rwa [take_all s k h] at e
  have hS : ∀ k (h : k < s.size), (s.data.toList.take k).contains c = false → ¬ s[k] = c → (s.data.toList.take (k + 1)).contains c = false := by
    intro k h e n
    rw [take_snoc s k h, List.contains_eq_mem] at *
    simp at *; exact ⟨e, fun x => n x.symm⟩
  have HY := Lib.hid hY; have HN := Lib.hid hN; have HS := Lib.hid hS; clear hY hN hS
  generalize s.data.toList.contains c = out at *
  go_enter Tryd.func31, Tryd.ntmps31
  go_wp2
  go_loop [5] (fun i => ∃ k : Nat, k ≤ s.size ∧ i = .int .i64 k ∧ Hid ((s.data.toList.take k).contains c = false)) (fun i => s.size - (intOf i).toNat)
  case atStart => exact ⟨0, Nat.zero_le _, rfl, by show _ = _; simp⟩
  case round =>
    obtain ⟨k, hk, rfl, Hall⟩ := hrel
    by_cases hlt : k < s.size
    · by_cases hc : s[k] = c
      · have hf := HY.out k hlt hc
        have t1 : ((s[k].toNat : Int) == (c.toNat : Int)) = true := by rw [hc]; simp
        have Hf := Lib.hid hf; clear hf hc
        go_wp2
        go_ret
        exact ⟨by rw [Hf.out]; rfl, rfl⟩
      · have hf := HS.out k hlt Hall.out hc
        have t1 : ((s[k].toNat : Int) == (c.toNat : Int)) = false := by
          rw [beq_eq_false_iff_ne]; intro e; exact hc (UInt8.toNat_inj.1 (by omega))
        have Hf := Lib.hid hf; clear hf hc
        go_wp2
        go_round
        case rel => exact ⟨k + 1, by omega, by go_num, Hf⟩
        case measure => simp [intOf]; omega
    · have hf := HN.out k (by omega) Hall.out
      have Hf := Lib.hid hf; clear hf
      go_wp2
      go_ret
      exact ⟨by rw [Hf.out]; rfl, rfl⟩

set_option maxHeartbeats 1000000 in
theorem rtoken_any (s : ByteArray) (w : World) (hs : s.size ≤ 1000000) :
    Calls Tryd.prog 11 #[.string s] w fun e w' => e = .returned (.bool (tokenL s.data.toList)) ∧ w = w' := by
  have hB : ∀ k (h : k < s.size), wordb s[k] = false → tokenL s.data.toList = false := by
    intro k h hk; unfold tokenL; rw [all_bad wordb s k h hk]; rfl
  have hQ : ∀ k, (s.data.toList.take k).all wordb = true → s.size ≤ k → tokenL s.data.toList = !s.data.toList.isEmpty := by
    intro k h hk; rw [take_all s k hk] at h; unfold tokenL; rw [h]; rfl
  have hm : ∀ (c : UInt8) (w : World), Calls Tryd.prog 31 #[.int .u8 c.toNat, .string ⟨#[33, 35, 36, 37, 38, 39, 42, 43, 45, 46, 94, 95, 96, 124, 126]⟩] w fun e w' => e = .returned (.bool (markL.contains c)) ∧ w = w' := fun c w => rin_any c ⟨#[33, 35, 36, 37, 38, 39, 42, 43, 45, 46, 94, 95, 96, 124, 126]⟩ w (by decide)
  have HB := Lib.hid hB; have HQ := Lib.hid hQ; have HM := Lib.hid hm
  clear hB hQ hm
  by_cases h0 : 0 < s.size
  all_goals
    have h0' := h0
    generalize tokenL s.data.toList = out at *
    go_enter Tryd.func11, Tryd.ntmps11
    go_wp2
    go_loop [3] (fun i => ∃ k : Nat, k ≤ s.size ∧ i = .int .i64 k ∧ Hid ((s.data.toList.take k).all wordb = true)) (fun i => s.size - (intOf i).toNat)
    case atStart => exact ⟨0, Nat.zero_le _, rfl, by show _ = _; simp⟩
    case round =>
      obtain ⟨k, hk, rfl, Hall⟩ := hrel
      by_cases hlt : k < s.size
      · have hw : wordb s[k] = (letterb s[k] || markL.contains s[k]) := rfl
        cases c1 : letterb s[k] <;> cases c2 : markL.contains s[k]
        all_goals rw [c1, c2] at hw
        · have hf := HB.out k hlt hw
          have Hf := Lib.hid hf; have C1 := Lib.hid c1; have C2 := Lib.hid c2; clear hf hw c1 c2
          go_wp2_with (first | (go_at_call 30; refine (rletter_any _ _).mono ?_; rintro e w2 ⟨rfl, rfl⟩; rw [C1.out]) | (go_at_call 31; refine (HM.out _ _).mono ?_; rintro e w2 ⟨rfl, rfl⟩; rw [C2.out]))
          go_ret
          exact ⟨by rw [Hf.out]; rfl, rfl⟩
        all_goals
          have hn : (s.data.toList.take (k + 1)).all wordb = true := by rw [all_snoc wordb s k hlt, Hall.out, hw]; rfl
          have Hn := Lib.hid hn; have C1 := Lib.hid c1; have C2 := Lib.hid c2; clear hn hw c1 c2
          go_wp2_with (first | (go_at_call 30; refine (rletter_any _ _).mono ?_; rintro e w2 ⟨rfl, rfl⟩; rw [C1.out]) | (go_at_call 31; refine (HM.out _ _).mono ?_; rintro e w2 ⟨rfl, rfl⟩; rw [C2.out]))
          go_round
          case rel => exact ⟨k + 1, by omega, by go_num, Hn⟩
          case measure => simp [intOf]; omega
      · have hf := HQ.out k Hall.out (by omega)
        have he : s.data.toList.isEmpty = !decide (0 < s.size) := by
          by_cases g : 0 < s.size
          · rw [ne_of_pos s g]; simp [g]
          · rw [nil_of_zero s g]; simp [g]
        rw [he] at hf
        have Hf := Lib.hid hf; clear hf he
        go_wp2
        go_ret
        exact ⟨by rw [Hf.out]; simp [h0'], rfl⟩

theorem uByte : (Tryd.prog.info? 5).map (fun i => (i.zero, i.size, i.bytes)) = some (some (.int .u8 0), 1, 1) := by kernel_rfl
/-- A slice of bytes that the call made: it owns these. -/
def OwnB (B : Nat) (v : Value) (l : List UInt8) (w : World) : Prop := w.ownsRow B 5 1 v l.length (l.map fun c => Value.int .u8 c.toNat)
theorem OwnB.conv {B : Nat} {v : Value} {l : List UInt8} {w : World} (h : OwnB B v l w) : (convert 43 9 v).run Tryd.prog w = .ok (.string ⟨l.toArray⟩) w := by
  rcases h.2 with ⟨rfl, h0⟩ | ⟨g, cap, cur, rfl, hg, hb, hnc, hcm, hcs, htake⟩
  · have hl : l = [] := List.eq_nil_of_length_eq_zero h0
    subst hl
    exact run_convert_bytes_nil (P := Tryd.prog) w 43 5 Tryd.underlying43 Tryd.underlying5 0 0 9 Tryd.underlying9
  · have hc := run_convert_bytes_arg (P := Tryd.prog) w 43 5 Tryd.underlying43 Tryd.underlying5 g 0 l.length cap (l.map fun c => (c.toNat : Int)) (by simp) (by
      intro i hi
      have := h.cells (g := g) rfl i (.int .u8 (l[i].toNat : Int)) (by simp [hi])
      rw [show (⟨g, 0, none⟩ : Addr).add i = ⟨g, i, none⟩ from by unfold Addr.add; split <;> simp_all] at this
      rw [Nat.zero_add, this]; simp [List.getD, hi]) 9 Tryd.underlying9
    rw [hc]
    have e : strOfNums (l.map fun c => (c.toNat : Int)) = ⟨l.toArray⟩ := by
      apply str_eq; rw [strOfNums_data, List.map_map]
      show List.map _ l = l
      conv => rhs; rw [← List.map_id l]
      apply List.map_congr_left; intro c _; simp
    rw [e]

set_option maxRecDepth 100000 in
set_option maxHeartbeats 2000000 in
theorem rlower_any (s : ByteArray) (w : World) (hs : s.size ≤ 1000000) :
    Calls Tryd.prog 13 #[.string s] w fun e w' => e = .returned (.string ⟨(lowerL s.data.toList).toArray⟩) ∧ Below w.heap.size w w' := by
  obtain ⟨i0, hi, hz0, hz1, hz2⟩ := info_parts uByte
  go_enter Tryd.func13, Tryd.ntmps13
  go_wp2
  go_loopw [4, 3] (fun i b wr => ∃ k : Nat, k ≤ s.size ∧ i = .int .i64 k ∧ OwnB w.heap.size b (lowerL (s.data.toList.take k)) wr ∧ Below w.heap.size w wr) (fun i _ _ => s.size - (intOf i).toNat)
  case atStart => exact ⟨0, Nat.zero_le _, rfl, World.ownsRow_nil _ _ _ _, Below.refl _ _⟩
  case round =>
    obtain ⟨k, hk, rfl, hO, hbw⟩ := hrel
    have HO := Lib.hid hO; clear hO
    by_cases hlt : k < s.size
    · have hu := u8_lt s[k]
      obtain ⟨n, hn, hn0, hn255⟩ : ∃ n : Int, ((lowb s[k]).toNat : Int) = n ∧ 0 ≤ n ∧ n < 256 := ⟨_, rfl, by omega, u8_lt _⟩
      have hnext : lowerL (s.data.toList.take (k + 1)) = lowerL (s.data.toList.take k) ++ [lowb s[k]] := by
        rw [take_snoc s k hlt]; unfold lowerL; simp
      have hlen : (lowerL (s.data.toList.take k)).length ≤ 1000000 := by unfold lowerL; rw [List.length_map, List.length_take, ← Lib.size_eq]; omega
      have HN := Lib.hid hnext; have Hn := Lib.hid hn; clear hnext hn
      have hown := HO.out
      unfold OwnB at hown
      have HW := Lib.hid hown; clear hown
      have key : ∀ (v' : Value) (w1 : World), w1.ownsRow w.heap.size 5 1 v' ((lowerL (s.data.toList.take k)).length + 1) ((lowerL (s.data.toList.take k)).map (fun c => Value.int .u8 c.toNat) ++ [.int .u8 n]) → OwnB w.heap.size v' (lowerL (s.data.toList.take (k + 1))) w1 := by
        intro v' w1 h; unfold OwnB; rw [HN.out, List.length_append, List.length_singleton, List.map_append]; rw [← Hn.out] at h; exact h
      have HK := Lib.hid key; clear key
      cases c1 : decide (65 ≤ (s[k].toNat : Int)) <;> cases c2 : decide ((s[k].toNat : Int) ≤ 90)
      · exfalso; simp at c1 c2; omega
      · have e : n = (s[k].toNat : Int) := by rw [← Hn.out, lowb_no s[k] (by rw [c1, c2]; rfl)]
        subst e
        go_wp2_with (at_builtin; refine wpList_append_own _ rfl _ _ 43 rfl w.heap.size 5 i0 (.int .u8 0) 1 1 Tryd.underlying43 hi hz0 hz1 hz2 rfl (by decide) _ _ _ rfl (HW.out.alloc _) ⟨wr.heap.size, 0, none⟩ 1 1 [.int .u8 (s[k].toNat : Int)] rfl rfl ?c1 ?c2 ?c3 ?c4 ?c5 ?_)
        case c1 =>
          intro j u hj
          match j, hj with
          | 0, hj => simp at hj; subst hj; simp [Addr.add]
        case c2 => intro u hu; simp at hu; subst hu; rfl
        case c3 => unfold maxLen; omega
        case c4 => omega
        case c5 => have := hbw.size; simp; omega
        intro v' w1 hown' hgrow _
        have hO2 := HK.out v' w1 hown'
        have hb2 : Below w.heap.size w w1 := (hbw.alloc hbw.size _).grown hgrow (by have := hbw.size; simp; omega) (fun j hj => (HW.out.lt j hj).1)
        have HO2 := Lib.hid hO2; clear hO2 hown' hgrow
        go_wp2
        go_roundw
        case rel => exact ⟨k + 1, by omega, by go_num, HO2.out, hb2⟩
        case measure => simp [intOf]; omega
      · have e : n = (s[k].toNat : Int) := by rw [← Hn.out, lowb_no s[k] (by rw [c1, c2]; rfl)]
        subst e
        go_wp2_with (at_builtin; refine wpList_append_own _ rfl _ _ 43 rfl w.heap.size 5 i0 (.int .u8 0) 1 1 Tryd.underlying43 hi hz0 hz1 hz2 rfl (by decide) _ _ _ rfl (HW.out.alloc _) ⟨wr.heap.size, 0, none⟩ 1 1 [.int .u8 (s[k].toNat : Int)] rfl rfl ?c1 ?c2 ?c3 ?c4 ?c5 ?_)
        case c1 =>
          intro j u hj
          match j, hj with
          | 0, hj => simp at hj; subst hj; simp [Addr.add]
        case c2 => intro u hu; simp at hu; subst hu; rfl
        case c3 => unfold maxLen; omega
        case c4 => omega
        case c5 => have := hbw.size; simp; omega
        intro v' w1 hown' hgrow _
        have hO2 := HK.out v' w1 hown'
        have hb2 : Below w.heap.size w w1 := (hbw.alloc hbw.size _).grown hgrow (by have := hbw.size; simp; omega) (fun j hj => (HW.out.lt j hj).1)
        have HO2 := Lib.hid hO2; clear hO2 hown' hgrow
        go_wp2
        go_roundw
        case rel => exact ⟨k + 1, by omega, by go_num, HO2.out, hb2⟩
        case measure => simp [intOf]; omega
      · have e : n = (s[k].toNat : Int) + 32 := by rw [← Hn.out, lowb_yes s[k] c1 c2]
        subst e
        go_wp2_with (at_builtin; refine wpList_append_own _ rfl _ _ 43 rfl w.heap.size 5 i0 (.int .u8 0) 1 1 Tryd.underlying43 hi hz0 hz1 hz2 rfl (by decide) _ _ _ rfl (HW.out.alloc _) ⟨wr.heap.size, 0, none⟩ 1 1 [.int .u8 ((s[k].toNat : Int) + 32)] rfl rfl ?c1 ?c2 ?c3 ?c4 ?c5 ?_)
        case c1 =>
          intro j u hj
          match j, hj with
          | 0, hj => simp at hj; subst hj; simp [Addr.add]
        case c2 => intro u hu; simp at hu; subst hu; rfl
        case c3 => unfold maxLen; omega
        case c4 => omega
        case c5 => have := hbw.size; simp; omega
        intro v' w1 hown' hgrow _
        have hO2 := HK.out v' w1 hown'
        have hb2 : Below w.heap.size w w1 := (hbw.alloc hbw.size _).grown hgrow (by have := hbw.size; simp; omega) (fun j hj => (HW.out.lt j hj).1)
        have HO2 := Lib.hid hO2; clear hO2 hown' hgrow
        go_wp2
        go_roundw
        case rel => exact ⟨k + 1, by omega, by go_num, HO2.out, hb2⟩
        case measure => simp [intOf]; omega
    · have hc := HO.out.conv
      have hke : s.data.toList.take k = s.data.toList := take_all s k (by omega)
      rw [hke] at hc
      go_wp2
      go_ret
      exact ⟨rfl, hbw⟩

set_option maxHeartbeats 1000000 in
theorem rsame_any (a b : ByteArray) (w : World) (ha : a.size ≤ 1000000) (hb : b.size ≤ 1000000) :
    Calls Tryd.prog 15 #[.string a, .string b] w fun e w' => e = .returned (.bool (lowerL a.data.toList == lowerL b.data.toList)) ∧ Below w.heap.size w w' := by
  have k1 := fun w => rlower_any a w ha
  have k2 := fun w => rlower_any b w hb
  have t1 : ((⟨(lowerL a.data.toList).toArray⟩ : ByteArray).toList == (⟨(lowerL b.data.toList).toArray⟩ : ByteArray).toList) = (lowerL a.data.toList == lowerL b.data.toList) := by rw [Lib.toList_data, Lib.toList_data]
  generalize lowerL a.data.toList = x at *
  generalize lowerL b.data.toList = y at *
  have K1 := Lib.hid k1; have K2 := Lib.hid k2; have T1 := Lib.hid t1; clear k1 k2 t1
  go_enter Tryd.func15, Tryd.ntmps15
  go_wp2_with fail
  refine (K1.out _).mono ?_
  rintro e w1 ⟨rfl, hb1⟩
  go_wp2_with fail
  refine (K2.out _).mono ?_
  rintro e w2 ⟨rfl, hb2⟩
  go_wp2
  go_ret
  exact ⟨by rw [← T1.out]; rfl, bt hb1 hb2⟩

/-- blank? as the document asks it. -/
def blankI (n : Int) : Bool := (n == 32) || (n == 9)
theorem blank_eq (c : UInt8) : blankI c.toNat = blanks.contains c := by
  have h : ∀ x : UInt8, ((c.toNat : Int) == (x.toNat : Int)) = (c == x) := by
    intro x; rw [Bool.eq_iff_iff, beq_iff_eq, beq_iff_eq, ← UInt8.toNat_inj]; omega
  have h1 := h 32; have h2 := h 9
  unfold blankI blanks
  rw [show ((c.toNat : Int) == 32) = (c == 32) from h1, show ((c.toNat : Int) == 9) = (c == 9) from h2]
  rw [Bool.eq_iff_iff]; simp
theorem trim_cut (s : ByteArray) (f t : Nat) (hft : f ≤ t) (ht : t ≤ s.size) (h1 : ∀ j (h : j < s.size), j < f → blanks.contains s[j] = true) (h2 : ∀ h : f < s.size, f < t → blanks.contains s[f] = false)
    (h3 : ∀ j (h : j < s.size), t ≤ j → blanks.contains s[j] = true) (h4 : f < t → ∀ h : t - 1 < s.size, blanks.contains s[t - 1] = false) :
    s.extract f t = ⟨(trimL s.data.toList).toArray⟩ := by
  have at' : ∀ j b, s.data.toList[j]? = some b → ∃ h : j < s.size, s[j] = b := by
    intro j b hb
    obtain ⟨h, e⟩ := List.getElem?_eq_some_iff.1 hb
    exact ⟨by rw [Lib.size_eq]; exact h, by rw [at_list]; exact e⟩
  apply str_eq
  rw [Lib.extract_data]
  show _ = trimL s.data.toList
  unfold trimL Lib.trimS
  by_cases hlt : f < t
  · have e1 : Lib.trimRightS s.data.toList blanks = s.data.toList.take t := by
      refine Lib.trimRightS_take _ _ t (by rw [← Lib.size_eq]; exact ht) (fun j b hj hb => ?_) (fun b _ hb => ?_)
      · obtain ⟨h, rfl⟩ := at' j b hb; exact h3 j h hj
      · obtain ⟨h, rfl⟩ := at' _ b hb; exact h4 hlt h
    rw [e1, Lib.trimLeftS_drop _ _ f (by rw [List.length_take, ← Lib.size_eq]; omega) (fun j b hj hb => ?_) (fun b hb => ?_), List.drop_take]
    · rw [List.getElem?_take_of_lt (by omega)] at hb
      obtain ⟨h, rfl⟩ := at' j b hb; exact h1 j h hj
    · rw [List.getElem?_take_of_lt (by omega)] at hb
      obtain ⟨h, rfl⟩ := at' f b hb; exact h2 h hlt
  · have e1 : Lib.trimRightS s.data.toList blanks = s.data.toList.take 0 := by
      refine Lib.trimRightS_take _ _ 0 (Nat.zero_le _) (fun j b _ hb => ?_) (fun b h0 _ => absurd h0 (by omega))
      obtain ⟨h, rfl⟩ := at' j b hb
      by_cases hj : j < f
      · exact h1 j h hj
      · exact h3 j h (by omega)
    rw [e1, show t - f = 0 from by omega]; simp [Lib.trimLeftS]

set_option maxHeartbeats 4000000 in
theorem rtrim_any (s : ByteArray) (w : World) (hs : s.size ≤ 1000000) :
    Calls Tryd.prog 17 #[.string s] w fun e w' => e = .returned (.string ⟨(trimL s.data.toList).toArray⟩) ∧ w = w' := by
  have hcut := trim_cut s
  generalize (⟨(trimL s.data.toList).toArray⟩ : ByteArray) = out at *
  have HC := Lib.hid hcut; clear hcut
  go_enter Tryd.func17, Tryd.ntmps17
  go_wp2
  go_loop [3] (fun a => ∃ f : Nat, f ≤ s.size ∧ a = .int .i64 f ∧ Hid (∀ j (h : j < s.size), j < f → blanks.contains s[j] = true)) (fun a => s.size - (intOf a).toNat)
  case atStart => exact ⟨0, Nat.zero_le _, rfl, fun j h h0 => absurd h0 (by omega)⟩
  case round =>
    obtain ⟨f, hf, rfl, H1⟩ := hrel
    by_cases hlt : f < s.size
    · have hbe := blank_eq s[f]
      cases hb : blankI s[f].toNat
      · -- the first that is no blank
        have h2 : ∀ t, ∀ h : f < s.size, f < t → blanks.contains s[f] = false := fun t h _ => by rw [← hbe, hb]
        have H2 := Lib.hid h2; clear h2 hbe
        have c1 : ((s[f].toNat : Int) == 32) = false := by unfold blankI at hb; simp at hb ⊢; exact hb.1
        have c2 : ((s[f].toNat : Int) == 9) = false := by unfold blankI at hb; simp at hb ⊢; exact hb.2
        clear hb
        go_wp2
        clear c1 c2
        go_loop [4] (fun a => ∃ t : Nat, f ≤ t ∧ t ≤ s.size ∧ a = .int .i64 t ∧ Hid (∀ j (h : j < s.size), t ≤ j → blanks.contains s[j] = true)) (fun a => (intOf a).toNat)
        case atStart => exact ⟨s.size, hf, Nat.le_refl _, rfl, fun j h h0 => absurd h0 (by omega)⟩
        case round =>
          obtain ⟨t, hft, hts, rfl, H3⟩ := hrel
          by_cases hlt2 : f < t
          · have htl : t - 1 < s.size := by omega
            have hbe := blank_eq s[t - 1]
            have d1 : (1 : Int) ≤ t := by omega
            cases hb : blankI s[t - 1].toNat
            · have hfin := HC.out f t hft hts H1.out (fun h h' => H2.out t h h') H3.out (fun _ _ => by rw [← hbe, hb])
              have HF := Lib.hid hfin; clear hfin hbe
              have c1 : ((s[t - 1].toNat : Int) == 32) = false := by unfold blankI at hb; simp at hb ⊢; exact hb.1
              have c2 : ((s[t - 1].toNat : Int) == 9) = false := by unfold blankI at hb; simp at hb ⊢; exact hb.2
              clear hb
              go_wp2
              go_ret
              exact ⟨by rw [← HF.out]; rfl, rfl⟩
            · have hn : ∀ j (h : j < s.size), t - 1 ≤ j → blanks.contains s[j] = true := by
                intro j h hj
                by_cases e : j = t - 1
                · subst e; rw [← hbe, hb]
                · exact H3.out j h (by omega)
              have HN := Lib.hid hn; clear hn hbe
              cases c1 : ((s[t - 1].toNat : Int) == 32) <;> cases c2 : ((s[t - 1].toNat : Int) == 9)
              · exfalso; unfold blankI at hb; rw [c1, c2] at hb; simp at hb
              all_goals
                clear hb
                go_wp2
                go_round
                case rel => exact ⟨t - 1, by omega, by omega, by go_num, HN⟩
                case measure => simp [intOf]; omega
          · have hfin := HC.out f t hft hts H1.out (fun h h' => H2.out t h h') H3.out (fun h => absurd h hlt2)
            have HF := Lib.hid hfin; clear hfin
            go_wp2
            go_ret
            exact ⟨by rw [← HF.out]; rfl, rfl⟩
      · have hn : ∀ j (h : j < s.size), j < f + 1 → blanks.contains s[j] = true := by
          intro j h hj
          by_cases e : j = f
          · subst e; rw [← hbe, hb]
          · exact H1.out j h (by omega)
        have HN := Lib.hid hn; clear hn hbe
        cases c1 : ((s[f].toNat : Int) == 32) <;> cases c2 : ((s[f].toNat : Int) == 9)
        · exfalso; unfold blankI at hb; rw [c1, c2] at hb; simp at hb
        all_goals
          clear hb
          go_wp2
          go_round
          case rel => exact ⟨f + 1, by omega, by go_num, HN⟩
          case measure => simp [intOf]; omega
    · have h2 : ∀ t, ∀ h : f < s.size, f < t → blanks.contains s[f] = false := fun t h _ => absurd h hlt
      have H2 := Lib.hid h2; clear h2
      · go_wp2
        go_loop [4] (fun a => ∃ t : Nat, f ≤ t ∧ t ≤ s.size ∧ a = .int .i64 t ∧ Hid (∀ j (h : j < s.size), t ≤ j → blanks.contains s[j] = true)) (fun a => (intOf a).toNat)
        case atStart => exact ⟨s.size, hf, Nat.le_refl _, rfl, fun j h h0 => absurd h0 (by omega)⟩
        case round =>
          obtain ⟨t, hft, hts, rfl, H3⟩ := hrel
          by_cases hlt2 : f < t
          · exact absurd hlt2 (by omega)
          · have hfin := HC.out f t hft hts H1.out (fun h h' => H2.out t h h') H3.out (fun h => absurd h hlt2)
            have HF := Lib.hid hfin; clear hfin
            go_wp2
            go_ret
            exact ⟨by rw [← HF.out]; rfl, rfl⟩
end Go.Proofs.YtclcigbcianimaaDoor
