/- The walks of layer 2's functions on numbers: the program's. -/
import Derived.Test.YtiodikifakmjhaaDoorTickSpec
import Derived.Test.YtiodikifakmjhaaDoorShelf
import Derived.Lib.AppendIntMem
namespace Go.Proofs.YtiodikifakmjhaaDoor
open Go.RowKit

set_option maxHeartbeats 1000000 in
theorem boundI_any (n : Int) (w : World) :
    Calls Tryd.prog 24 #[.int .i64 n] w fun e w' => e = .returned (.int .i64 (bnd n)) ∧ w = w' := by
  rcases (by omega : n < 0 ∨ n = 0 ∨ (0 < n ∧ n ≤ 2147483648) ∨ 2147483648 < n) with h | h | ⟨h, h2⟩ | h
  · have Hb := Lib.hid (bnd_neg h)
    go_enter Tryd.func24, Tryd.ntmps24
    go_wp2
    all_goals (go_ret; exact ⟨ret_int (by first | exact Hb.out.symm | (rw [Hb.out]; omega)), rfl⟩)
  · subst h
    go_enter Tryd.func24, Tryd.ntmps24
    go_wp2
    all_goals (go_ret; exact ⟨ret_int (by first | rfl | omega), rfl⟩)
  · have Hb := Lib.hid (bnd_in (Int.le_of_lt h) h2)
    go_enter Tryd.func24, Tryd.ntmps24
    go_wp2
    all_goals (go_ret; exact ⟨ret_int (by first | exact Hb.out.symm | (rw [Hb.out]; omega)), rfl⟩)
  · have Hb := Lib.hid (bnd_big h)
    go_enter Tryd.func24, Tryd.ntmps24
    go_wp2
    all_goals (go_ret; exact ⟨ret_int (by first | exact Hb.out.symm | (rw [Hb.out]; omega)), rfl⟩)

set_option maxHeartbeats 1000000 in
theorem boundU_any (n : Int) (w : World) (h0 : 0 ≤ n) :
    Calls Tryd.prog 23 #[.int .u64 n] w fun e w' => e = .returned (.int .i64 (bnd n)) ∧ w = w' := by
  rcases (by omega : n = 0 ∨ (0 < n ∧ n ≤ 2147483648) ∨ 2147483648 < n) with h | ⟨h, h2⟩ | h
  · subst h
    go_enter Tryd.func23, Tryd.ntmps23
    go_wp2
    all_goals (go_ret; exact ⟨ret_int (by first | rfl | omega), rfl⟩)
  · have Hb := Lib.hid (bnd_in (Int.le_of_lt h) h2)
    go_enter Tryd.func23, Tryd.ntmps23
    go_wp2
    all_goals (go_ret; exact ⟨ret_int (by first | exact Hb.out.symm | (rw [Hb.out]; omega)), rfl⟩)
  · have Hb := Lib.hid (bnd_big h)
    go_enter Tryd.func23, Tryd.ntmps23
    go_wp2
    all_goals (go_ret; exact ⟨ret_int (by first | exact Hb.out.symm | (rw [Hb.out]; omega)), rfl⟩)

set_option maxHeartbeats 1000000 in
theorem of_any (n : Int) (w : World) :
    Calls Tryd.prog 18 #[.int .i64 n] w fun e w' => e = .returned (.int .i64 (bnd n)) ∧ w = w' := by
  go_enter Tryd.func18, Tryd.ntmps18
  go_wp2_with (go_at_call 24; refine (boundI_any _ _).mono ?_; rintro e w' ⟨rfl, rfl⟩)
  go_ret
  exact ⟨rfl, rfl⟩

set_option maxHeartbeats 1000000 in
theorem add_any (a b : Int) (w : World) :
    Calls Tryd.prog 17 #[.int .i64 a, .int .i64 b] w fun e w' => e = .returned (.int .i64 (addB a b)) ∧ w = w' := by
  unfold addB
  have h1 := bnd_lo a; have h2 := bnd_hi a; have h3 := bnd_lo b; have h4 := bnd_hi b
  go_enter Tryd.func17, Tryd.ntmps17
  go_wp2_with (go_at_call 24; refine (boundI_any _ _).mono ?_; rintro e w' ⟨rfl, rfl⟩)
  go_ret
  exact ⟨rfl, rfl⟩

set_option maxHeartbeats 1000000 in
theorem less_any (a b : Int) (w : World) :
    Calls Tryd.prog 21 #[.int .i64 a, .int .i64 b] w fun e w' => e = .returned (.int .i64 (subB a b)) ∧ w = w' := by
  unfold subB
  have h1 := bnd_lo a; have h2 := bnd_hi a; have h3 := bnd_lo b; have h4 := bnd_hi b
  go_enter Tryd.func21, Tryd.ntmps21
  go_wp2_with (go_at_call 24; refine (boundI_any _ _).mono ?_; rintro e w' ⟨rfl, rfl⟩)
  go_ret
  exact ⟨rfl, rfl⟩

theorem wrapU (a b : Int) (h : a < b) (h' : b - a < 18446744073709551616) : IntKind.u64.wrap (IntKind.u64.wrap b - IntKind.u64.wrap a) = b - a := by
  have e : ∀ x : Int, IntKind.u64.wrap x = x % 18446744073709551616 := fun x => by simp [IntKind.wrap, IntKind.bits, IntKind.signed]
  rw [e, e, e]; omega
set_option maxHeartbeats 1000000 in
theorem since_any (a b : Int) (w : World) (ha : -9223372036854775808 ≤ a) (ha' : a ≤ 9223372036854775807) (hb : -9223372036854775808 ≤ b) (hb' : b ≤ 9223372036854775807) :
    Calls Tryd.prog 10 #[.int .i64 a, .int .i64 b] w fun e w' => e = .returned (.int .i64 (since a b)) ∧ w = w' := by
  unfold since
  by_cases h : b ≤ a
  · have hz : bnd (b - a) = 0 := by
      by_cases e : b - a = 0
      · rw [e]; rfl
      · exact bnd_neg (by omega)
    have Hz := Lib.hid hz; clear hz
    go_enter Tryd.func10, Tryd.ntmps10
    go_wp2
    go_ret
    exact ⟨ret_int (by rw [Hz.out]), rfl⟩
  · go_enter Tryd.func10, Tryd.ntmps10
    go_wp2_with fail
    rw [wrapU a b (by omega) (by omega)]
    refine (boundU_any _ _ (by omega)).mono ?_
    rintro e w' ⟨rfl, rfl⟩
    go_wp2
    go_ret
    exact ⟨rfl, rfl⟩

theorem dgtI (c : UInt8) : dgt c = (decide (48 ≤ (c.toNat : Int)) && decide ((c.toNat : Int) ≤ 57)) := by
  unfold dgt; rw [Bool.eq_iff_iff]; simp; omega
set_option maxHeartbeats 2000000 in
theorem delta_any (s : ByteArray) (w : World) (hs : s.size ≤ 1000000) :
    Calls Tryd.prog 13 #[.string s] w fun e w' => e = .returned (deltaV s.data.toList) ∧ w = w' := by
  have hB : ∀ k (h : k < s.size), dgt s[k] = false → deltaV s.data.toList = .tuple #[.int .i64 0, .bool false] := fun k h hb => delta_bad s k h hb
  have hQ : ∀ k, (s.data.toList.take k).all dgt = true → s.size ≤ k → deltaV s.data.toList = .tuple #[.int .i64 (bnd (val (s.data.toList.take k))), .bool (!s.data.toList.isEmpty)] := by
    intro k h hk; rw [take_all s k hk] at h ⊢; unfold deltaV deltaOk; rw [h, Bool.and_true]
    cases hz : s.data.toList <;> rfl
  have HB := Lib.hid hB; have HQ := Lib.hid hQ
  clear hB hQ
  generalize deltaV s.data.toList = out at *
  go_enter Tryd.func13, Tryd.ntmps13
  go_wp2
  go_loop [8, 4] (fun i n => ∃ (k : Nat) (v : Int), k ≤ s.size ∧ i = .int .i64 k ∧ n = .int .i64 v ∧ 0 ≤ v ∧ v ≤ 2147483648 ∧ Hid (v = bnd (val (s.data.toList.take k))) ∧ Hid ((s.data.toList.take k).all dgt = true)) (fun i _ => s.size - (intOf i).toNat)
  case atStart => exact ⟨0, 0, Nat.zero_le _, rfl, rfl, by omega, by omega, by show _ = _; rfl, by show _ = _; simp⟩
  case round =>
    obtain ⟨k, v, hk, rfl, rfl, hv0, hv1, Hv, Hall⟩ := hrel
    by_cases hlt : k < s.size
    · have hu := u8_lt s[k]
      have hd := dgtI s[k]
      cases c1 : decide (48 ≤ (s[k].toNat : Int)) <;> cases c2 : decide ((s[k].toNat : Int) ≤ 57)
      · exfalso; simp at c1 c2; omega
      · have hf := HB.out k hlt (by rw [hd, c1, c2]; rfl)
        have Hf := Lib.hid hf; clear hf hd
        have c3 : decide ((s[k].toNat : Int) < 48) = true := by simp at c1 ⊢; omega
        go_wp2
        go_ret2
        exact ⟨by rw [Hf.out]; rfl, rfl⟩
      · have hf := HB.out k hlt (by rw [hd, c1, c2]; rfl)
        have Hf := Lib.hid hf; clear hf hd
        have c3 : decide ((s[k].toNat : Int) < 48) = false := by simp at c1 ⊢; omega
        have c4 : decide (57 < (s[k].toNat : Int)) = true := by simp at c2 ⊢; omega
        go_wp2
        go_ret2
        exact ⟨by rw [Hf.out]; rfl, rfl⟩
      · have hn : (s.data.toList.take (k + 1)).all dgt = true := by rw [all_snoc dgt s k hlt, Hall.out, hd, c1, c2]; rfl
        have c3 : decide ((s[k].toNat : Int) < 48) = false := by simp at c1 ⊢; omega
        have c4 : decide (57 < (s[k].toNat : Int)) = false := by simp at c2 ⊢; omega
        have c5 : (48 : Int) ≤ (s[k].toNat : Int) := by simp at c1; omega
        have hs2 : bnd (10 * v + ((s[k].toNat : Int) - 48)) = bnd (val (s.data.toList.take (k + 1))) := by
          rw [take_snoc s k hlt, val_snoc, Hv.out, ← bnd_step]; congr 2; omega
        have Hn := Lib.hid hn; have Hs := Lib.hid hs2; clear hn hs2 hd c1 c2
        go_wp2_with (go_at_call 24; refine (boundI_any _ _).mono ?_; rintro e w' ⟨rfl, rfl⟩)
        go_round
        case rel => exact ⟨k + 1, _, by omega, by go_num, rfl, bnd_lo _, bnd_hi _, Hs, Hn⟩
        case measure => simp [intOf]; omega
    · have hf := HQ.out k Hall.out (by omega)
      rw [← Hv.out] at hf
      have Hf := Lib.hid hf; clear hf
      go_wp2
      go_ret2
      exact ⟨by rw [Hf.out]; simp [Lib.toList_data], rfl⟩

def TabW (w : World) : Prop := Lib.TabIs Tryd.prog w ("internal/strconv.uint64pow10") .u64 Lib.pow10Tab
theorem TabW.on {w w' : World} (h : TabW w) (hb : Below w.heap.size w w') : TabW w' := Lib.tabBelow_of_tabIs h w' hb
theorem below_grow (w : World) (os : Array Obj) : Below w.heap.size w (Sort.grow w os) :=
  ⟨rfl, rfl, rfl, by show w.heap.size ≤ (w.heap ++ os).size; simp, fun k hk => by show (w.heap ++ os)[k]? = _; rw [Array.getElem?_append_left hk]⟩
set_option maxHeartbeats 2000000 in
theorem put_any (n : Int) (w : World) (ht : TabW w) :
    Calls Tryd.prog 15 #[.int .i64 n] w fun e w' => e = .returned (.string (putS n)) ∧ Below w.heap.size w w' := by
  have h1 := bnd_lo n; have h2 := bnd_hi n
  have hi : (⟨(Lib.itoa (bnd n)).toArray⟩ : ByteArray) = putS n := by unfold Lib.itoa putS; rw [if_neg (by omega)]
  have Hi := Lib.hid hi; have HT := Lib.hid ht; clear hi ht
  go_enter Tryd.func15, Tryd.ntmps15
  go_wp2_with (first | (go_at_call 24; refine (boundI_any _ _).mono ?_; rintro e w' ⟨rfl, rfl⟩) | (go_at_call 25; refine (Tryd.strconv_Itoa _ (by omega) (by omega) _ HT.out).mono ?_; rintro e w' ⟨rfl, k, os, rfl⟩))
  go_ret
  exact ⟨by rw [← Hi.out]; rfl, (below_drewN (Below.refl _ w) k).trans (below_grow (w.drewN k) os)⟩
end Go.Proofs.YtiodikifakmjhaaDoor
