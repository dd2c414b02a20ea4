/- The walks of layer 2's functions: the document's. -/
import Derived.Test.YtiodikifakmjhaaDoorTick
import Derived.Laws.BytesArg
namespace Go.Proofs.YtiodikifakmjhaaDoor
open Go.RowKit

set_option maxHeartbeats 1000000 in
theorem rof_any (n : Int) (w : World) :
    Calls Tryd.prog 19 #[.int .i64 n] w fun e w' => e = .returned (.int .i64 (bnd n)) ∧ w = w' := by
  rcases (by omega : n < 0 ∨ (0 ≤ n ∧ n ≤ 2147483648) ∨ 2147483648 < n) with h | ⟨h, h2⟩ | h
  · have Hb := Lib.hid (bnd_neg h)
    go_enter Tryd.func19, Tryd.ntmps19
    go_wp2
    go_ret
    exact ⟨ret_int Hb.out.symm, rfl⟩
  · have Hb := Lib.hid (bnd_in h h2)
    go_enter Tryd.func19, Tryd.ntmps19
    go_wp2
    go_ret
    exact ⟨ret_int Hb.out.symm, rfl⟩
  · have Hb := Lib.hid (bnd_big h)
    go_enter Tryd.func19, Tryd.ntmps19
    go_wp2
    go_ret
    exact ⟨ret_int Hb.out.symm, rfl⟩
set_option maxHeartbeats 1000000 in
theorem radd_any (a b : Int) (w : World) :
    Calls Tryd.prog 20 #[.int .i64 a, .int .i64 b] w fun e w' => e = .returned (.int .i64 (addB a b)) ∧ w = w' := by
  unfold addB
  have h1 := bnd_lo a; have h2 := bnd_hi a; have h3 := bnd_lo b; have h4 := bnd_hi b
  go_enter Tryd.func20, Tryd.ntmps20
  go_wp2_with (go_at_call 19; refine (rof_any _ _).mono ?_; rintro e w' ⟨rfl, rfl⟩)
  go_ret
  exact ⟨rfl, rfl⟩
set_option maxHeartbeats 1000000 in
theorem rless_any (a b : Int) (w : World) :
    Calls Tryd.prog 22 #[.int .i64 a, .int .i64 b] w fun e w' => e = .returned (.int .i64 (subB a b)) ∧ w = w' := by
  unfold subB
  have h1 := bnd_lo a; have h2 := bnd_hi a; have h3 := bnd_lo b; have h4 := bnd_hi b
  go_enter Tryd.func22, Tryd.ntmps22
  go_wp2_with (go_at_call 19; refine (rof_any _ _).mono ?_; rintro e w' ⟨rfl, rfl⟩)
  go_ret
  exact ⟨rfl, rfl⟩

set_option maxHeartbeats 1000000 in
theorem rsince_any (a b : Int) (w : World) (ha : -9223372036854775808 ≤ a) (ha' : a ≤ 9223372036854775807) (hb : -9223372036854775808 ≤ b) (hb' : b ≤ 9223372036854775807) :
    Calls Tryd.prog 11 #[.int .i64 a, .int .i64 b] w fun e w' => e = .returned (.int .i64 (since a b)) ∧ w = w' := by
  unfold since
  by_cases h : b ≤ a
  · have hz : bnd (b - a) = 0 := by
      by_cases e : b - a = 0
      · rw [e]; rfl
      · exact bnd_neg (by omega)
    have Hz := Lib.hid hz; clear hz
    go_enter Tryd.func11, Tryd.ntmps11
    go_wp2
    go_ret
    exact ⟨ret_int (by rw [Hz.out]), rfl⟩
  · have h9 : ¬ b ≤ a := h
    rcases (by omega : 0 ≤ a ∨ (a < 0 ∧ b < 0) ∨ (a < 0 ∧ 0 ≤ b ∧ a < -2147483648) ∨ (a < 0 ∧ 0 ≤ b ∧ -2147483648 ≤ a ∧ 2147483648 < b) ∨ (a < 0 ∧ 0 ≤ b ∧ -2147483648 ≤ a ∧ b ≤ 2147483648)) with g | ⟨g1, g2⟩ | ⟨g1, g2, g3⟩ | ⟨g1, g2, g3, g4⟩ | ⟨g1, g2, g3, g4⟩
    · have t1 : decide (0 ≤ a) = true := by simp; omega
      go_enter Tryd.func11, Tryd.ntmps11
      go_wp2_with (go_at_call 19; refine (rof_any _ _).mono ?_; rintro e w' ⟨rfl, rfl⟩)
      go_ret
      exact ⟨rfl, rfl⟩
    · have t1 : decide (0 ≤ a) = false := by simp; omega
      have t2 : decide (b < 0) = true := by simp; omega
      go_enter Tryd.func11, Tryd.ntmps11
      go_wp2_with (go_at_call 19; refine (rof_any _ _).mono ?_; rintro e w' ⟨rfl, rfl⟩)
      go_ret
      exact ⟨rfl, rfl⟩
    · have t1 : decide (0 ≤ a) = false := by simp; omega
      have t2 : decide (b < 0) = false := by simp; omega
      have t3 : decide (a < -2147483648) = true := by simp; omega
      have Hb := Lib.hid (bnd_big (n := b - a) (by omega))
      go_enter Tryd.func11, Tryd.ntmps11
      go_wp2
      go_ret
      exact ⟨ret_int Hb.out.symm, rfl⟩
    · have t1 : decide (0 ≤ a) = false := by simp; omega
      have t2 : decide (b < 0) = false := by simp; omega
      have t3 : decide (a < -2147483648) = false := by simp; omega
      have t4 : decide (2147483648 < b) = true := by simp; omega
      have Hb := Lib.hid (bnd_big (n := b - a) (by omega))
      go_enter Tryd.func11, Tryd.ntmps11
      go_wp2
      go_ret
      exact ⟨ret_int Hb.out.symm, rfl⟩
    · have t1 : decide (0 ≤ a) = false := by simp; omega
      have t2 : decide (b < 0) = false := by simp; omega
      have t3 : decide (a < -2147483648) = false := by simp; omega
      have t4 : decide (2147483648 < b) = false := by simp; omega
      go_enter Tryd.func11, Tryd.ntmps11
      go_wp2_with (go_at_call 19; refine (rof_any _ _).mono ?_; rintro e w' ⟨rfl, rfl⟩)
      go_ret
      exact ⟨rfl, rfl⟩

theorem strOf_one (d : Nat) : strOfNums [48 + (d : Int)] = ⟨#[UInt8.ofNat (48 + d)]⟩ := by
  have e : ((48 : Int) + (d : Int)).toNat = 48 + d := by omega
  unfold strOfNums; simp [e]
set_option maxRecDepth 100000 in
set_option maxHeartbeats 2000000 in
theorem rput_any (n : Int) (w : World) :
    Calls Tryd.prog 16 #[.int .i64 n] w fun e w' => e = .returned (.string (putS n)) ∧ Below w.heap.size w w' := by
  have h1 := bnd_lo n; have h2 := bnd_hi n
  obtain ⟨N, hN⟩ : ∃ N : Nat, bnd n = N := ⟨(bnd n).toNat, by omega⟩
  have hp : (putS n).data.toList = Lib.decDigits N := by unfold putS; rw [hN]; simp
  have Hp := Lib.hid hp; clear hp
  have hN2 : N ≤ 2147483648 := by omega
  have HN := Lib.hid hN; clear hN h1 h2
  generalize putS n = out at *
  go_enter Tryd.func16, Tryd.ntmps16
  go_wp2_with (go_at_call 19; refine (rof_any _ _).mono ?_; rintro e w' ⟨rfl, rfl⟩; rw [HN.out])
  go_loopw [0, 3] (fun a s wr => ∃ (m : Nat) (b : ByteArray), m ≤ 2147483648 ∧ a = .int .i64 m ∧ s = .string b ∧ b.size + m ≤ 2147483658 ∧ Hid (Lib.decDigits N = Lib.decDigits m ++ b.data.toList) ∧ Below w.heap.size w wr) (fun a _ _ => (intOf a).toNat)
  case atStart => exact ⟨N, _, hN2, rfl, rfl, by show 0 + N ≤ _; omega, by show _ = _; simp, Below.refl _ _⟩
  case round =>
    obtain ⟨m, b, hm, rfl, rfl, hbs, Hm, hbw⟩ := hrel
    have hk1 : (convert 36 9 (.slice (some ⟨wr.heap.size, 0, none⟩) 1 1)).run Tryd.prog (wr.alloc (.cells #[.int .u8 (48 + (m : Int) % 10)] 5)) = .ok (.string (strOfNums [48 + (m : Int) % 10])) (wr.alloc (.cells #[.int .u8 (48 + (m : Int) % 10)] 5)) :=
      run_convert_bytes_arg (P := Tryd.prog) _ 36 5 Tryd.underlying36 Tryd.underlying5 wr.heap.size 0 1 1 [48 + (m : Int) % 10] rfl (by intro i hi; obtain rfl : i = 0 := (by omega); exact World.cell?_alloc_mark wr _ _ _ 0) 9 Tryd.underlying9
    have hd : (strOfNums [48 + (m : Int) % 10]).data.toList = [UInt8.ofNat (48 + m % 10)] := by
      rw [show (48 : Int) + (m : Int) % 10 = 48 + ((m % 10 : Nat) : Int) from by omega, strOf_one]
    have hds : (strOfNums [48 + (m : Int) % 10]).size = 1 := strOfNums_size _
    have Hd := Lib.hid hd; clear hd
    by_cases hlt : m < 10
    · have hz : ((m : Int) / 10 == 0) = true := by rw [beq_iff_eq]; omega
      have hdec : Lib.decDigits m = [UInt8.ofNat (48 + m)] := by rw [Lib.decDigits, dif_pos hlt]
      have hm10 : m % 10 = m := by omega
      have Hdec := Lib.hid hdec; have H10 := Lib.hid hm10; clear hdec hm10
      generalize strOfNums [48 + (m : Int) % 10] = ds at *
      go_wp2
      go_ret
      refine ⟨?_, hbw.alloc hbw.size _⟩
      have hfin : ds ++ b = out := str_eq _ _ (by rw [app_list, Hd.out, Hp.out, Hm.out, Hdec.out, H10.out])
      rw [← hfin]; rfl
    · have hz : ((m : Int) / 10 == 0) = false := by rw [beq_eq_false_iff_ne]; omega
      have hdec : Lib.decDigits m = Lib.decDigits (m / 10) ++ [UInt8.ofNat (48 + m % 10)] := by rw [Lib.decDigits, dif_neg hlt]
      have Hdec := Lib.hid hdec; clear hdec
      generalize strOfNums [48 + (m : Int) % 10] = ds at *
      go_wp2
      go_roundw
      case rel => exact ⟨m / 10, _, by omega, by go_num, rfl, by rw [ByteArray.size_append]; omega, by show _ = _; rw [app_list, Hd.out, Hm.out, Hdec.out, List.append_assoc], hbw.alloc hbw.size _⟩
      case measure => simp [intOf]; omega

set_option maxHeartbeats 4000000 in
theorem rdelta_any (s : ByteArray) (w : World) (hs : s.size ≤ 1000000) :
    Calls Tryd.prog 14 #[.string s] w fun e w' => e = .returned (deltaV s.data.toList) ∧ w = w' := by
  by_cases h0 : 0 < s.size
  · have hne : s.toList.isEmpty = false := by rw [Lib.toList_data]; exact ne_of_pos s h0
    have hB : ∀ k (h : k < s.size), dgt s[k] = false → deltaV s.data.toList = .tuple #[.int .i64 0, .bool false] := fun k h hb => delta_bad s k h hb
    have HB := Lib.hid hB
    have hL : ∀ f (hf : f < s.size), s.data.toList.all dgt = true → (∀ c ∈ s.data.toList.take f, c.toNat = 48) → ¬ s[f].toNat = 48 → 10 < s.size - f → deltaV s.data.toList = .tuple #[.int .i64 2147483648, .bool true] := fun f hf => delta_long s f hf
    have hS : ∀ f, s.data.toList.all dgt = true → (∀ c ∈ s.data.toList.take f, c.toNat = 48) → deltaV s.data.toList = .tuple #[.int .i64 (bnd (val (s.data.toList.drop f))), .bool true] := fun f => delta_short s f h0
    have HL := Lib.hid hL; have HS := Lib.hid hS
    clear hB hL hS
    generalize deltaV s.data.toList = out at *
    go_enter Tryd.func14, Tryd.ntmps14
    go_wp2
    clear hne
    go_loop [5, 4] (fun i g => ∃ (k f : Nat), k ≤ s.size ∧ f ≤ k ∧ i = .int .i64 k ∧ g = .int .i64 f ∧ Hid ((s.data.toList.take k).all dgt = true) ∧ Hid (∀ c ∈ s.data.toList.take f, c.toNat = 48) ∧ Hid (f < k → ∀ h : f < s.size, ¬ s[f].toNat = 48)) (fun i _ => s.size - (intOf i).toNat)
    case atStart => exact ⟨0, 0, Nat.zero_le _, Nat.le_refl _, rfl, rfl, by show _ = _; simp, by show ∀ c ∈ _, _; simp, fun h => absurd h (by omega)⟩
    case round =>
      obtain ⟨k, f, hk, hfk, rfl, rfl, Hall, Hz, Hnz⟩ := hrel
      by_cases hlt : k < s.size
      · have hu := u8_lt s[k]
        have hd := dgtI s[k]
        cases c1 : decide (48 ≤ (s[k].toNat : Int)) <;> cases c2 : decide ((s[k].toNat : Int) ≤ 57)
        · exfalso; simp at c1 c2; omega
        · have hf := HB.out k hlt (by rw [hd, c1, c2]; rfl)
          have Hf := Lib.hid hf; clear hf hd
          have c3 : decide ((s[k].toNat : Int) < 48) = true := by simp at c1 ⊢; omega
          go_wp2
          go_ret2
          exact ⟨by rw [Hf.out]; rfl, rfl⟩
        · have hf := HB.out k hlt (by rw [hd, c1, c2]; rfl)
          have Hf := Lib.hid hf; clear hf hd
          have c3 : decide ((s[k].toNat : Int) < 48) = false := by simp at c1 ⊢; omega
          have c4 : decide (57 < (s[k].toNat : Int)) = true := by simp at c2 ⊢; omega
          go_wp2
          go_ret2
          exact ⟨by rw [Hf.out]; rfl, rfl⟩
        · have hn : (s.data.toList.take (k + 1)).all dgt = true := by rw [all_snoc dgt s k hlt, Hall.out, hd, c1, c2]; rfl
          have c3 : decide ((s[k].toNat : Int) < 48) = false := by simp at c1 ⊢; omega
          have c4 : decide (57 < (s[k].toNat : Int)) = false := by simp at c2 ⊢; omega
          have Hn := Lib.hid hn; clear hn hd c1 c2
          cases c5 : ((s[k].toNat : Int) == 48)
          · have hq : f < k + 1 → ∀ h : f < s.size, ¬ s[f].toNat = 48 := by
              intro h1 h2
              by_cases e : f = k
              · subst e; simp at c5; omega
              · exact Hnz.out (by omega) h2
            have Hq := Lib.hid hq; clear hq
            go_wp2
            go_round
            case rel => exact ⟨k + 1, f, by omega, by omega, by go_num, rfl, Hn, Hz, Hq⟩
            case measure => simp [intOf]; omega
          · by_cases e : f = k
            · subst e
              have c6 : ((f : Int) == f) = true := by simp
              have hq : ∀ c ∈ s.data.toList.take (f + 1), c.toNat = 48 := by
                rw [take_snoc s f hlt]; intro c hc
                rcases List.mem_append.1 hc with h | h
                · exact Hz.out c h
                · obtain rfl := List.mem_singleton.1 h; simp at c5; omega
              have Hq := Lib.hid hq; clear hq
              go_wp2
              go_round
              case rel => exact ⟨f + 1, f + 1, by omega, by omega, by go_num, by go_num, Hn, Hq, fun h => absurd h (by omega)⟩
              case measure => simp [intOf]; omega
            · have c6 : ((f : Int) == k) = false := by rw [beq_eq_false_iff_ne]; omega
              have hq : f < k + 1 → ∀ h : f < s.size, ¬ s[f].toNat = 48 := fun _ h2 => Hnz.out (by omega) h2
              have Hq := Lib.hid hq; clear hq
              go_wp2
              go_round
              case rel => exact ⟨k + 1, f, by omega, by omega, by go_num, rfl, Hn, Hz, Hq⟩
              case measure => simp [intOf]; omega
      · have hke : k = s.size := by omega
        have hall : s.data.toList.all dgt = true := by have := Hall.out; rwa [take_all s k (by omega)] at this
        by_cases hlg : 10 < s.size - f
        · have hf := HL.out f (by omega) hall Hz.out (Hnz.out (by omega) (by omega)) hlg
          have Hf := Lib.hid hf; clear hf hall
          have Hke := Lib.hid hke; clear hke
          have c7 : decide (10 < (s.size : Int) - f) = true := by simp; omega
          go_wp2
          go_ret2
          exact ⟨by rw [Hf.out]; rfl, rfl⟩
        · have hf := HS.out f hall Hz.out
          have Hf := Lib.hid hf; clear hf
          have Hke := Lib.hid hke; clear hke
          have Hal := Lib.hid hall; clear hall
          have c7 : decide (10 < (s.size : Int) - f) = false := by simp; omega
          have hfs : f ≤ s.size := by have := Hke.out; omega
          go_wp2
          clear c7 hlt
          go_loop [7, 6] (fun i n => ∃ (j v : Nat), f ≤ j ∧ j ≤ s.size ∧ i = .int .i64 j ∧ n = .int .i64 v ∧ v < 10000000000 ∧ Hid (v = val ((s.data.toList.drop f).take (j - f)))) (fun i _ => s.size - (intOf i).toNat)
          case atStart => exact ⟨f, 0, Nat.le_refl _, hfs, rfl, rfl, by decide, by show _ = _; rw [Nat.sub_self]; rfl⟩
          case round =>
            obtain ⟨j, v, hfj, hj, rfl, rfl, hv, Hv⟩ := hrel
            by_cases hlt : j < s.size
            · have hu := u8_lt s[j]
              have hmem : dgt s[j] = true := by
                have h1 := Hal.out
                rw [List.all_eq_true] at h1
                exact h1 s[j] (by show s.data[j] ∈ _; simp)
              have hd := dgtI s[j]
              rw [hmem] at hd
              have c5 : (48 : Int) ≤ (s[j].toNat : Int) := by simp at hd; omega
              have hnx : (s.data.toList.drop f).take (j + 1 - f) = (s.data.toList.drop f).take (j - f) ++ [s[j]] := by
                rw [show j + 1 - f = (j - f) + 1 from by omega, List.take_succ_eq_append_getElem (by rw [List.length_drop, ← Lib.size_eq]; omega)]
                congr 2
                rw [List.getElem_drop, at_list s j hlt]; congr 1; omega
              have hvn : 10 * v + (s[j].toNat - 48) = val ((s.data.toList.drop f).take (j + 1 - f)) := by rw [hnx, val_snoc, Hv.out]
              have hvl : 10 * v + (s[j].toNat - 48) < 10000000000 := by
                rw [hvn]
                have hal2 : ((s.data.toList.drop f).take (j + 1 - f)).all dgt = true := by
                  rw [List.all_eq_true]; intro x hx
                  exact List.all_eq_true.1 Hal.out x (List.mem_of_mem_drop (List.mem_of_mem_take hx))
                have h1 := val_lt _ hal2
                have h2 : ((s.data.toList.drop f).take (j + 1 - f)).length ≤ 10 := by rw [List.length_take, List.length_drop, ← Lib.size_eq]; omega
                have h3 : (10 : Nat) ^ ((s.data.toList.drop f).take (j + 1 - f)).length ≤ 10 ^ 10 := Nat.pow_le_pow_right (by decide) h2
                have : (10 : Nat) ^ 10 = 10000000000 := rfl
                omega
              have Hvn := Lib.hid hvn; clear hvn hd hmem hnx
              go_wp2
              go_round
              case rel => exact ⟨j + 1, 10 * v + (s[j].toNat - 48), by omega, by omega, by go_num, by congr 1; omega, hvl, Hvn⟩
              case measure => simp [intOf]; omega
            · have hv2 : v = val (s.data.toList.drop f) := by
                rw [Hv.out, List.take_of_length_le (by rw [List.length_drop, ← Lib.size_eq]; omega)]
              have Hv2 := Lib.hid hv2; clear hv2
              go_wp2_with (go_at_call 19; refine (rof_any _ _).mono ?_; rintro e w' ⟨rfl, rfl⟩)
              go_ret2
              exact ⟨by rw [Hf.out, ← Hv2.out]; rfl, rfl⟩
  · have he : s.data.toList = [] := by apply List.eq_nil_of_length_eq_zero; rw [← Lib.size_eq]; omega
    have hne : s.toList.isEmpty = true := by rw [Lib.toList_data, he]; rfl
    rw [he]
    clear he
    go_enter Tryd.func14, Tryd.ntmps14
    go_wp2
    go_ret2
    exact ⟨rfl, rfl⟩
end Go.Proofs.YtiodikifakmjhaaDoor
