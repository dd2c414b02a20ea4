/- Joined out of the texts RWalk2, RWalk3, Many, RWalk4, RWalk5, RWalk6, DatePut, RWalk7, RWalk8, RWalk9, RWalkA, RSurMine, RSurList, RDelta, RSurOf, RSurO (wip/tools/dce.py). -/
import Derived.Test.YtcgdcbnhpbokfaaGreatDoorPz4
import Derived.Laws.BytesArg
import Derived.Laws.OwnMore
import Derived.Deep.QuietTactic
import Derived.BigQuiet
import Derived.Deep.RegionHeld3
import Derived.Laws.ResultCell
import Derived.IntWalk
/- The document's dates: the walk of Count. -/
namespace Go.Proofs.YtcgdcbnhpbokfaaGreatDoor
open Go.RowKit
set_option maxRecDepth 100000

set_option maxHeartbeats 8000000 in
theorem icount_any (Y Mo D h mi s : Int) (hY : 1970 ≤ Y ∧ Y ≤ 9999) (hMo : 1 ≤ Mo ∧ Mo ≤ 12) (hD : 1 ≤ D ∧ D ≤ 31) (w : World) :
    Calls Tryz.prog 153 #[.agg #[.int .i64 Y, .int .i64 Mo, .int .i64 D, .int .i64 h, .int .i64 mi, .int .i64 s]] w fun e w' => e = .returned (.int .i64 (rcount ⟨Y, Mo, D, h, mi, s⟩)) ∧ Below w.heap.size w w' := by
  obtain ⟨N, rfl⟩ : ∃ N : Nat, Y = 1970 + N := ⟨(Y - 1970).toNat, by omega⟩
  obtain ⟨M, rfl⟩ : ∃ M : Nat, Mo = (M : Int) + 1 := ⟨(Mo - 1).toNat, by omega⟩
  obtain ⟨R, hR⟩ : ∃ R, rcount ⟨1970 + N, (M : Int) + 1, D, h, mi, s⟩ = R := ⟨_, rfl⟩
  rw [hR]
  have hR2 : R = D - 1 + dahead (1970 + N) + dmons (1970 + N) M := by
    rw [← hR]; unfold rcount
    simp only
    rw [show (((M : Int) + 1).toNat - 1) = M by omega]
  clear hR
  obtain ⟨W1, hW1⟩ : ∃ W1, w.alloc (.cells #[.int .i64 (1970 + N), .int .i64 ((M : Int) + 1), .int .i64 D, .int .i64 h, .int .i64 mi, .int .i64 s] 122) = W1 := ⟨_, rfl⟩
  have b1 : Below w.heap.size w W1 := by rw [← hW1]; exact (Below.refl w.heap.size w).alloc (Nat.le_refl _) _
  have x1 : W1.heap[w.heap.size]? = some (.cells #[.int .i64 (1970 + N), .int .i64 ((M : Int) + 1), .int .i64 D, .int .i64 h, .int .i64 mi, .int .i64 s] 122 (0, 0)) := by rw [← hW1]; exact heap_new w _ _ rfl
  have c0 := (of_heap x1 0).1; have c1 := (of_heap x1 1).1; have c2 := (of_heap x1 2).1; have hEl := (of_heap x1 0).2.2
  simp only [List.getElem?_toArray, List.getElem?_cons_succ, List.getElem?_cons_zero] at c0 c1 c2
  have hwD : IntKind.i64.wrap (D - 1) = D - 1 := by rw [IntKind.wrap_i64]; omega
  have HW1 := Lib.hid hW1; have HR := Lib.hid hR2
  clear hW1 x1 hR2
  go_enter Tryz.func153, Tryz.ntmps153
  go_upto_region 1 with (fail)
  rw [HW1.out]
  go_wp2_with fail
  go_loopw [3, 4] (fun n y wr => ∃ k : Nat, k ≤ N ∧ y = .int .i64 (1970 + k) ∧ (∃ z, n = .int .i64 z ∧ Hid (z = D - 1 + dahead (1970 + k))) ∧ W1 = wr) (fun _ y _ => N + 1970 - (intD y).toNat)
  case atStart => exact ⟨0, Nat.zero_le _, rfl, ⟨D - 1, rfl, Lib.hid (by have : dahead (1970 + ((0 : Nat) : Int)) = 0 := by decide
                                                                         omega)⟩, rfl⟩
  case round =>
    obtain ⟨k, hk, rfl, ⟨z, rfl, HZ⟩, rfl⟩ := hrel
    have hge := dahead_ge (1970 + k) (by omega)
    have hzz := HZ.out
    by_cases hlt : k < N
    · have t1 : decide ((1970 + (k : Int)) < 1970 + N) = true := by simp; omega
      have hdl := dahead_leap (1970 + k)
      have kl := ileap_any (1970 + k) (by omega) W1
      have e1 : (1970 + (k : Int)) + 1 = 1970 + ((k + 1 : Nat) : Int) := by omega
      rw [e1] at hdl
      have hw1 : IntKind.i64.wrap (z + 365) = z + 365 := by rw [IntKind.wrap_i64]; omega
      have hw2 : IntKind.i64.wrap (z + 365 + 1) = z + 365 + 1 := by rw [IntKind.wrap_i64]; omega
      have hw3 : IntKind.i64.wrap (1970 + (k : Int) + 1) = 1970 + ((k + 1 : Nat) : Int) := by rw [e1, IntKind.wrap_i64]; omega
      cases hb : dleap (1970 + k)
      · rw [hb] at kl hdl
        have hn : z + 365 = D - 1 + dahead (1970 + ((k + 1 : Nat) : Int)) := by rw [if_neg (by simp)] at hdl; omega
        have HN := Lib.hid hn; have KL := Lib.hid kl
        clear hn kl hdl e1 hb hge hzz HZ hw2
        go_wp2_with fail
        (with_reducible refine KL.out.mono ?_)
        rintro e w2 ⟨rfl, rfl⟩
        go_wp2
        go_roundw
        case rel => exact ⟨k + 1, hlt, rfl, ⟨_, rfl, HN⟩, trivial⟩
        case measure => simp [intD]; omega
      · rw [hb] at kl hdl
        have hn : z + 365 + 1 = D - 1 + dahead (1970 + ((k + 1 : Nat) : Int)) := by rw [if_pos rfl] at hdl; omega
        have HN := Lib.hid hn; have KL := Lib.hid kl
        clear hn kl hdl e1 hb hge hzz HZ
        go_wp2_with fail
        (with_reducible refine KL.out.mono ?_)
        rintro e w2 ⟨rfl, rfl⟩
        go_wp2
        go_roundw
        case rel => exact ⟨k + 1, hlt, rfl, ⟨_, rfl, HN⟩, trivial⟩
        case measure => simp [intD]; omega
    · have hke : k = N := by omega
      subst hke
      have hRz : R = z + dmons (1970 + k) M := by rw [HR.out, hzz]
      have hzb : 0 ≤ z ∧ z ≤ 3000000 := by omega
      have HR := Lib.hid hRz
      clear hRz hge hzz HZ hlt
      go_wp2_with fail
      go_loopw [3, 5] (fun n m wr => ∃ j : Nat, j ≤ M ∧ m = .int .i64 ((j : Int) + 1) ∧ (∃ v, n = .int .i64 v ∧ Hid (v = z + dmons (1970 + k) j)) ∧ Below W1.heap.size W1 wr) (fun _ m _ => M + 1 - (intD m).toNat)
      case atStart => exact ⟨0, Nat.zero_le _, rfl, ⟨z, rfl, Lib.hid (by simp [dmons])⟩, Below.refl _ _⟩
      case round =>
        obtain ⟨j, hj, rfl, ⟨v, rfl, HV⟩, hbw⟩ := hrel
        have g0 := (hbw.cell (p := ⟨w.heap.size, 0, none⟩) hEl).trans c0
        have g1 := (hbw.cell (p := ⟨w.heap.size, 1, none⟩) hEl).trans c1
        have hdm := dmons_le (1970 + k) j
        have hvv := HV.out
        by_cases hlt : j < M
        · have t1 : decide (((j : Int) + 1) < (M : Int) + 1) = true := by simp; omega
          have hdl := dlong_le (1970 + k) ((j : Int) + 1)
          have kd := idays_any (1970 + k) ((j : Int) + 1) (by omega) (by omega) wr
          have hst : dmons (1970 + (k : Int)) (j + 1) = dmons (1970 + k) j + dlong (1970 + k) ((j : Int) + 1) := rfl
          generalize dlong (1970 + (k : Int)) ((j : Int) + 1) = q at *
          have hw1 : IntKind.i64.wrap (v + q) = v + q := by rw [IntKind.wrap_i64]; omega
          have hw2 : IntKind.i64.wrap ((j : Int) + 1 + 1) = ((j + 1 : Nat) : Int) + 1 := by rw [IntKind.wrap_i64]; omega
          have hn : v + q = z + dmons (1970 + k) (j + 1) := by omega
          have HN := Lib.hid hn; have KD := Lib.hid kd
          clear hn kd hst hdl hdm hvv HV
          go_wp2_with fail
          (with_reducible refine KD.out.mono ?_)
          rintro e w2 ⟨rfl, hb2⟩
          have hB2 := hbw.trans (hb2.mono hbw.size)
          go_wp2
          go_roundw
          case rel => exact ⟨j + 1, hlt, rfl, ⟨_, rfl, HN⟩, hB2⟩
          case measure => simp [intD]; omega
        · have hje : j = M := by omega
          subst hje
          have t1 : decide (((j : Int) + 1) < (j : Int) + 1) = false := by simp
          have hx : R = v := by rw [HR.out, hvv]
          subst hx
          clear HR HV hvv hdm
          go_wp2
          go_ret
          exact ⟨rfl, bt b1 hbw⟩
end Go.Proofs.YtcgdcbnhpbokfaaGreatDoor
/- The document's dates: the walk of Digits. -/
namespace Go.Proofs.YtcgdcbnhpbokfaaGreatDoor
open Go.RowKit
set_option maxRecDepth 100000

theorem strOf_oneD (d : Nat) : strOfNums [48 + (d : Int)] = ⟨#[UInt8.ofNat (48 + d)]⟩ := by
  have e : ((48 : Int) + (d : Int)).toNat = 48 + d := by omega
  unfold strOfNums; simp [e]
theorem rdig_up (k m : Nat) : rdig (k + 1) (m : Int) = rdig k ((m / 10 : Nat) : Int) ++ [UInt8.ofNat (48 + m % 10)] := by
  rw [rdig]
  have e1 : (m : Int) / 10 = ((m / 10 : Nat) : Int) := by omega
  have e2 : ((m : Int) % 10).toNat = m % 10 := by omega
  rw [e1, e2]
set_option maxHeartbeats 4000000 in
theorem idig_any (N K : Nat) (hN : N ≤ 1000000) (hK : K ≤ 10) (w : World) :
    Calls Tryz.prog 155 #[.int .i64 N, .int .i64 K] w fun e w' => e = .returned (.string ⟨(rdig K N).toArray⟩) ∧ Below w.heap.size w w' := by
  have HP : Hid ((⟨(rdig K N).toArray⟩ : ByteArray).data.toList = rdig K N) := Lib.hid rfl
  generalize (⟨(rdig K N).toArray⟩ : ByteArray) = out at *
  go_enter Tryz.func155, Tryz.ntmps155
  go_wp2_with fail
  go_loopw [0, 5, 6] (fun a s i wr => ∃ (m j : Nat) (b : ByteArray), m ≤ 1000000 ∧ j ≤ K ∧ a = .int .i64 m ∧ s = .string b ∧ i = .int .i64 j ∧ b.size ≤ j ∧ Hid (rdig K N = rdig (K - j) m ++ b.data.toList) ∧ Below w.heap.size w wr) (fun _ _ i _ => K - (intOf i).toNat)
  case atStart => exact ⟨N, 0, _, hN, Nat.zero_le _, rfl, rfl, rfl, Nat.zero_le _, by show _ = _; simp, Below.refl _ _⟩
  case round =>
    obtain ⟨m, j, b, hm, hj, rfl, rfl, rfl, hbs, Hm, hbw⟩ := hrel
    by_cases hlt : j < K
    · have hk1 : (convert 157 9 (.slice (some ⟨wr.heap.size, 0, none⟩) 1 1)).run Tryz.prog (wr.alloc (.cells #[.int .u8 (48 + (m : Int) % 10)] 5)) = .ok (.string (strOfNums [48 + (m : Int) % 10])) (wr.alloc (.cells #[.int .u8 (48 + (m : Int) % 10)] 5)) :=
        run_convert_bytes_arg (P := Tryz.prog) _ 157 5 Tryz.underlying157 Tryz.underlying5 wr.heap.size 0 1 1 [48 + (m : Int) % 10] rfl (by intro i hi; obtain rfl : i = 0 := (by omega); exact World.cell?_alloc_mark wr _ _ _ 0) 9 Tryz.underlying9
      have hd : (strOfNums [48 + (m : Int) % 10]).data.toList = [UInt8.ofNat (48 + m % 10)] := by
        rw [show (48 : Int) + (m : Int) % 10 = 48 + ((m % 10 : Nat) : Int) from by omega, strOf_oneD]
      have hds : (strOfNums [48 + (m : Int) % 10]).size = 1 := strOfNums_size _
      have hdec : rdig (K - j) (m : Int) = rdig (K - (j + 1)) ((m / 10 : Nat) : Int) ++ [UInt8.ofNat (48 + m % 10)] := by
        rw [show K - j = (K - (j + 1)) + 1 by omega]; exact rdig_up _ _
      have Hd := Lib.hid hd; have Hdec := Lib.hid hdec; clear hd hdec
      generalize strOfNums [48 + (m : Int) % 10] = ds at *
      go_wp2
      go_roundw
      case rel => exact ⟨m / 10, j + 1, _, by omega, hlt, by go_num, rfl, by go_num, by rw [ByteArray.size_append]; omega, by show _ = _; rw [app_list, Hd.out, Hm.out, Hdec.out, List.append_assoc], hbw.alloc hbw.size _⟩
      case measure => simp [intOf]; omega
    · have hje : j = K := by omega
      subst hje
      have hfin : b = out := str_eq _ _ (by rw [HP.out, Hm.out, Nat.sub_self]; rfl)
      subst hfin
      clear Hm HP
      go_wp2
      go_ret
      exact ⟨rfl, hbw⟩
end Go.Proofs.YtcgdcbnhpbokfaaGreatDoor
/- Many fields at once at the end of a row that the call made. -/
namespace Go.Proofs.YtcgdcbnhpbokfaaGreatDoor
open Go.RowKit
set_option maxRecDepth 100000

theorem run_app_none {P : Program} (w : World) (base : Nat) (t ty e : TypeId) (i : TypeInfo) (size c : Nat) (ht : P.underlying t = some (.slice e)) (hi : P.info? e = some i)
    (v : Value) (n : Nat) (xs : List Value) (hown : w.ownsRow base e size v n xs) :
    (Builtin.append_ #[t, t] ty #[v, .slice none 0 c]).run P w = .ok v w := by
  rcases hown.2 with ⟨rfl, rfl⟩ | ⟨g, cap, cur, rfl, _, _, hnc, _⟩
  · simp [Builtin.append_, run_underlying ht, sizeOf, typeInfo, hi, Builtin.lenOf, Builtin.firstCells]
  · simp [Builtin.append_, run_underlying ht, sizeOf, typeInfo, hi, Builtin.lenOf, Builtin.firstCells, hnc, storeCells]
theorem fldsV_one (ys : List Fld) : ∀ u ∈ fldsV ys, u.oneCell' = true := by
  intro u hu
  unfold fldsV at hu
  obtain ⟨f, _, h⟩ := List.mem_flatMap.1 hu
  simp [fldV] at h
  rcases h with rfl | rfl <;> rfl
theorem fldsV_app (xs ys : List Fld) : fldsV (xs ++ ys) = fldsV xs ++ fldsV ys := by unfold fldsV; simp
theorem app_flds {ops : Array Oper} {rest : List Oper} {o : Oper} {a : Act} {Q : Exit → Act → World → Prop} (B : Nat) {w : World} {v : Value} {fs : List Fld} (hown : OwnF B v fs w) (hB : B ≤ w.heap.size)
    {A : Option Addr} {n c : Nat} {ys : List Fld} (hr : Rd A n 2 (fldsV ys) w) (hn : fs.length + n ≤ 1000000000)
    (hgd : o.guard = none) (s x : Operand) (ho : o.op = .call { callee := .builtin .append, args := #[s, x], argTypes := #[22, 22] })
    (hs : a.eval s = v) (hx : a.eval x = .slice A n c)
    (hK : ∀ v' w1, OwnF B v' (fs ++ ys) w1 → Below B w w1 → Far w w1 v v' → wpList Tryz.prog ops Q rest (a.put o.dst v') w1) :
    wpList Tryz.prog ops Q (o :: rest) a w := by
  obtain rfl := hr.fld
  obtain ⟨i0, hi, hz0, hz1, hz2⟩ := info_parts uFld
  have key : ∃ v' w1, (Builtin.append_ #[22, 22] o.type #[v, .slice A ys.length c]).run Tryz.prog w = .ok v' w1 ∧ OwnF B v' (fs ++ ys) w1 ∧ Below B w w1 ∧ Far w w1 v v' := by
    by_cases h0 : A = none
    · subst h0
      have hy : ys.length = 0 := by
        rcases Nat.eq_zero_or_pos ys.length with h | h
        · exact h
        · obtain ⟨b, o', e, _⟩ := hr.2 h; cases e
      have hy2 : ys = [] := List.eq_nil_of_length_eq_zero hy
      subst hy2
      refine ⟨v, w, run_app_none w B _ _ 44 i0 2 c Tryz.underlying22 hi v _ _ hown, by rw [List.append_nil]; exact hown, Below.refl _ _, ⟨⟨rfl, rfl, rfl, Nat.le_refl _, fun _ _ _ => rfl⟩, Or.inl rfl⟩⟩
    · obtain ⟨ad, rfl⟩ := Option.ne_none_iff_exists'.1 h0
      obtain ⟨v', w', hrun, h2, h3, _, h5⟩ := run_append_own_at (P := Tryz.prog) w B 22 o.type 44 i0 (.agg #[.string ByteArray.empty, .string ByteArray.empty]) 2 32 Tryz.underlying22 hi hz0 hz1 hz2 rfl (by decide) v fs.length (fldsV fs) hown ad ys.length c (fldsV ys) (by rw [fldsV_len]) (by
        intro j u hj
        have hjl : j < ys.length * 2 := by have := (List.getElem?_eq_some_iff.1 hj).1; rwa [fldsV_len] at this
        obtain ⟨b, o', e, _, hc⟩ := hr.2 (by omega)
        cases e
        have e2 : (⟨b, o', none⟩ : Addr).add j = ⟨b, o' + j, none⟩ := by unfold Addr.add; split <;> simp_all
        rw [e2]
        exact hc j u hj) (fldsV_one ys) (by unfold maxLen; omega) (by omega) hB
      refine ⟨v', w', hrun, ?_, (Below.refl B w).grown h3 hB (fun k hk => (World.ownsRow.lt hown k hk).1), ⟨h3, ?_⟩⟩
      · unfold OwnF
        rw [List.length_append, fldsV_app]
        exact h2
      · rcases h5 with h | h
        · exact Or.inl h
        · refine Or.inr fun g hg => ?_
          rw [h] at hg
          have := Option.some.inj hg
          omega
  obtain ⟨v', w1, hrun, h1, h2, h3⟩ := key
  refine wpList_plain hgd fun _ hK' => ?_
  unfold Oper.wp execOp
  simp only [ho, resolve, invoke, builtin, Sem.run_bind, Sem.run_pure, Result.andThen_ok, List.map_toArray, List.map_cons, List.map_nil, hs, hx, hrun]
  exact hK' _ _ (hK v' w1 h1 h2 h3)
end Go.Proofs.YtcgdcbnhpbokfaaGreatDoor
/- The document's dates: the lists of names, weekday. -/
namespace Go.Proofs.YtcgdcbnhpbokfaaGreatDoor
open Go.RowKit
set_option maxRecDepth 100000

theorem Rd.newW (w : World) (ls : List (List UInt8)) (T : TypeId) : Rd (some ⟨w.heap.size, 0, none⟩) ls.length 1 (strsV ls) (w.alloc (.cells (strsV ls).toArray T)) := by
  refine ⟨by unfold strsV; simp, fun _ => ⟨w.heap.size, 0, rfl, by simp, fun j u hu => ?_⟩⟩
  rw [Nat.zero_add, World.cell?_alloc_mark]
  simpa using hu
set_option maxHeartbeats 4000000 in
theorem imons_any (w : World) :
    Calls Tryz.prog 150 #[] w fun e w' => e = .returned (.slice (some ⟨w.heap.size, 0, none⟩) 12 12) ∧ Rd (some ⟨w.heap.size, 0, none⟩) 12 1 (strsV rmons) w' ∧ Below w.heap.size w w' := by
  have hO := Rd.newW w rmons 9
  have hb := (Below.refl w.heap.size w).alloc (Nat.le_refl _) (.cells (rmons.map (fun x => Value.string ⟨x.toArray⟩)).toArray 9)
  go_enter Tryz.func150, Tryz.ntmps150
  go_wp2
  go_ret
  exact ⟨rfl, hO, hb⟩
set_option maxHeartbeats 4000000 in
theorem ishort_any (w : World) :
    Calls Tryz.prog 154 #[] w fun e w' => e = .returned (.slice (some ⟨w.heap.size, 0, none⟩) 7 7) ∧ Rd (some ⟨w.heap.size, 0, none⟩) 7 1 (strsV rshort) w' ∧ Below w.heap.size w w' := by
  have hO := Rd.newW w rshort 9
  have hb := (Below.refl w.heap.size w).alloc (Nat.le_refl _) (.cells (rshort.map (fun x => Value.string ⟨x.toArray⟩)).toArray 9)
  go_enter Tryz.func154, Tryz.ntmps154
  go_wp2
  go_ret
  exact ⟨rfl, hO, hb⟩
set_option maxHeartbeats 4000000 in
theorem ilong_any (w : World) :
    Calls Tryz.prog 158 #[] w fun e w' => e = .returned (.slice (some ⟨w.heap.size, 0, none⟩) 7 7) ∧ Rd (some ⟨w.heap.size, 0, none⟩) 7 1 (strsV rlong) w' ∧ Below w.heap.size w w' := by
  have hO := Rd.newW w rlong 9
  have hb := (Below.refl w.heap.size w).alloc (Nat.le_refl _) (.cells (rlong.map (fun x => Value.string ⟨x.toArray⟩)).toArray 9)
  go_enter Tryz.func158, Tryz.ntmps158
  go_wp2
  go_ret
  exact ⟨rfl, hO, hb⟩
end Go.Proofs.YtcgdcbnhpbokfaaGreatDoor
/- The document's dates: the walk of weekday. -/
namespace Go.Proofs.YtcgdcbnhpbokfaaGreatDoor
open Go.RowKit
set_option maxRecDepth 100000

set_option maxHeartbeats 4000000 in
theorem iweek_any (N : Option Addr) (c : Nat) (ls : List (List UInt8)) (n : Nat) (hn : n ≤ 10000000) (hl : ls.length = 7) (w : World) (hr : Rd N ls.length 1 (strsV ls) w) :
    Calls Tryz.prog 152 #[.int .i64 n, .slice N ls.length c] w fun e w' => e = .returned (.string ⟨(rwd ls n).toArray⟩) ∧ w' = w := by
  obtain ⟨k, hk⟩ : ∃ k : Nat, ((n : Int) + 3) % 7 = k := ⟨(((n : Int) + 3) % 7).toNat, by omega⟩
  have hk7 : k < ls.length := by omega
  have hx : rwd ls n = ls[k] := by
    unfold rwd
    rw [hk]
    simp [List.getD, hk7]
  rw [hx]
  have e7 : ((n : Int) + 3).tmod 7 = (k : Int) := by rw [Int.tmod_eq_emod_of_nonneg (by omega)]; exact hk
  have hw1 : IntKind.i64.wrap ((n : Int) + 3) = (n : Int) + 3 := by rw [IntKind.wrap_i64]; omega
  have hw2 : IntKind.i64.wrap (k : Int) = (k : Int) := by rw [IntKind.wrap_i64]; omega
  obtain ⟨b, o, rfl, hl', c0⟩ := hr.str_at (k := k) hk7
  generalize ls[k] = x at *
  generalize ls.length = L at *
  clear hk hx hl hr
  go_enter Tryz.func152, Tryz.ntmps152
  go_wp2
  go_ret
  exact ⟨rfl, rfl⟩
end Go.Proofs.YtcgdcbnhpbokfaaGreatDoor
/- The document's dates: the walk of month. -/
namespace Go.Proofs.YtcgdcbnhpbokfaaGreatDoor
open Go.RowKit
set_option maxRecDepth 100000

theorem rmonF_drop (t : List UInt8) (k : Nat) (h : k < rmons.length) : rmonF t (rmons.drop k) ((k : Int) + 1) = if t = rmons[k] then ((k : Int) + 1) else rmonF t (rmons.drop (k + 1)) (((k + 1 : Nat) : Int) + 1) := by
  rw [List.drop_eq_getElem_cons h, rmonF]
  have e : (k : Int) + 1 + 1 = ((k + 1 : Nat) : Int) + 1 := by omega
  rw [e]
set_option maxHeartbeats 8000000 in
theorem imonth_any (s : ByteArray) (a : Nat) (ha : a ≤ 1000000000) (w : World) :
    Calls Tryz.prog 99 #[.string s, .int .i64 a] w fun e w' => e = .returned (.int .i64 (rmonth s.data.toList a)) ∧ Below w.heap.size w w' := by
  obtain ⟨R, hR⟩ : ∃ R, rmonth s.data.toList a = R := ⟨_, rfl⟩
  rw [hR]
  unfold rmonth at hR
  rw [← Lib.size_eq] at hR
  have t0 : decide ((a : Int) ≥ 0) = true := by simp
  have hwa : IntKind.i64.wrap ((a : Int) + 3) = (a : Int) + 3 := by rw [IntKind.wrap_i64]; omega
  have K0 := Lib.hid (imons_any w)
  have hrl : rmons.length = 12 := rfl
  by_cases hlt : s.size < a + 3
  · rw [if_pos hlt] at hR
    subst hR
    have t1 : decide ((a : Int) + 3 ≤ s.size) = false := by simp; omega
    go_enter Tryz.func99, Tryz.ntmps99
    go_wp2_with fail
    (with_reducible refine K0.out.mono ?_)
    rintro e w1 ⟨rfl, hrd, hb1⟩
    clear hrd
    go_wp2_with fail
    go_loopw [6] (fun i wr => ∃ k : Nat, k ≤ 12 ∧ i = .int .i64 k ∧ Below w.heap.size w wr) (fun i _ => 12 - (intOf i).toNat)
    case atStart => exact ⟨0, Nat.zero_le _, rfl, hb1⟩
    case round =>
      obtain ⟨k, hk, rfl, hbw⟩ := hrel
      by_cases hk12 : k < 12
      · have t2 : decide ((k : Int) < 12) = true := by simp; omega
        go_wp2
        go_quiet (fail)
        go_wp2
        go_roundw
        case rel => exact ⟨k + 1, hk12, by go_num, Go.below_drewN hbw _⟩
        case measure => simp [intOf]; omega
      · have t2 : decide ((k : Int) < 12) = false := by simp; omega
        go_wp2
        go_ret
        exact ⟨rfl, hbw⟩
  · rw [if_neg hlt] at hR
    have t1 : decide ((a : Int) + 3 ≤ s.size) = true := by simp; omega
    have hex : s.extract a (a + 3) = ⟨((s.data.toList.drop a).take 3).toArray⟩ := by
      apply str_eq
      rw [Lib.extract_data]; simp
    have hst := rmonF_drop ((s.data.toList.drop a).take 3)
    generalize (s.data.toList.drop a).take 3 = x at *
    have f1 : ((a : Int) + 3).toNat = a + 3 := by omega
    have f2 : (a : Int) + 3 ≤ s.size := by omega
    have f3 : (a : Int) ≤ (a : Int) + 3 := by omega
    have f4 : a + 3 ≤ s.size := by omega
    have f5 : a ≤ a + 3 := by omega
    have HST := Lib.hid hst; have HR := Lib.hid hR; have HXX := Lib.hid hex
    clear hst hR hex
    go_enter Tryz.func99, Tryz.ntmps99
    go_wp2_with fail
    (with_reducible refine K0.out.mono ?_)
    rintro e w1 ⟨rfl, hrd, hb1⟩
    have HRD := Lib.hid hrd
    clear hrd
    go_wp2_with fail
    go_loopw [6] (fun i wr => ∃ k : Nat, k ≤ 12 ∧ i = .int .i64 k ∧ Hid (rmonF x (rmons.drop k) ((k : Int) + 1) = R) ∧ Below w.heap.size w wr ∧ Below w1.heap.size w1 wr) (fun i _ => 12 - (intOf i).toNat)
    case atStart => exact ⟨0, Nat.zero_le _, rfl, HR, hb1, Below.refl _ _⟩
    case round =>
      obtain ⟨k, hk, rfl, HQ, hbw, hbv⟩ := hrel
      by_cases hk12 : k < 12
      · have t2 : decide ((k : Int) < 12) = true := by simp; omega
        obtain ⟨b, o, hbo, hl', c0⟩ := (HRD.out.below hbv).str_at (k := k) (by omega)
        obtain ⟨rfl, rfl⟩ : b = w.heap.size ∧ o = 0 := by
          have := Option.some.inj hbo
          injection this with h1 h2
          exact ⟨h1.symm, h2.symm⟩
        rw [Nat.zero_add] at c0
        have i1 : (0 : Int) ≤ (k : Int) := by omega
        have i2 : (k : Int) < 12 := by omega
        have i3 : (k : Int) < ((12 : Nat) : Int) := by omega
        have i4 : ((k : Int)).toNat = k := by simp
        have i5 : decide ((k : Int) < 0) = false := by simp
        have i6 : IntKind.i64.wrap (k : Int) = (k : Int) := by rw [IntKind.wrap_i64]; omega
        have hst := HST.out k (by omega)
        rw [HQ.out] at hst
        generalize rmons[k] = y at *
        by_cases he : x = y
        · rw [if_pos he] at hst
          have te : (x == y) = true := by rw [beq_iff_eq]; exact he
          subst hst
          clear HST HR HQ he hbo
          have hx := HXX.out
          go_wp2
          go_quiet (fail)
          go_wp2
          go_ret
          exact ⟨rfl, Go.below_drewN hbw _⟩
        · rw [if_neg he] at hst
          have te : (x == y) = false := by rw [beq_eq_false_iff_ne]; exact he
          have HN := Lib.hid hst.symm
          clear HR HQ he hbo hst
          have hx := HXX.out
          go_wp2
          go_quiet (fail)
          go_wp2
          go_roundw
          case rel => exact ⟨k + 1, hk12, by go_num, HN, Go.below_drewN hbw _, Go.below_drewN hbv _⟩
          case measure => simp [intOf]; omega
      · have hke : k = 12 := by omega
        subst hke
        have hx : R = 0 := by rw [← HQ.out]; rfl
        subst hx
        clear HST HR HQ
        go_wp2
        go_ret
        exact ⟨rfl, hbw⟩
end Go.Proofs.YtcgdcbnhpbokfaaGreatDoor
/- Dates: the walk of Put (printed by wip/tools/dateput.py). -/
namespace Go.Proofs.YtcgdcbnhpbokfaaGreatDoor
open Go.RowKit
set_option maxRecDepth 100000

/-- What holds behind each operation may be asked more of from here on. -/
theorem wpAnyH_strong {P : Program} {md : Region.Mode} {ops : Array Oper} {Q : Exit → Act → World → Prop} {S S' : World → Prop} (hSS : ∀ w, S' w → S w) : ∀ {fuel : Nat} {listed : Array Bool} {a : Act} {w : World}, wpAnyH P md ops Q S' fuel listed a w → wpAnyH P md ops Q S fuel listed a w
  | 0, _, _, _, h => h
  | _ + 1, _, _, _, h => ⟨h.1, fun i hi => wpOp_mono (fun _ _ h' => ⟨hSS _ h'.1, wpAnyH_strong hSS h'.2⟩) (h.2 i hi)⟩
theorem dmon_ok (y : Int) (r0 : Int) (h : r0 < dmons y 12) : ∀ (f j : Nat) (r : Int), j + f = 12 → 0 ≤ r → r = r0 - dmons y j → 0 ≤ (dmon y f r (j + 1)).1 ∧ (dmon y f r (j + 1)).1 ≤ 30 ∧ 1 ≤ (dmon y f r (j + 1)).2 ∧ (dmon y f r (j + 1)).2 ≤ 12
  | 0, j, r, hj, h0, hr => by
    have : j = 12 := by omega
    subst this
    omega
  | f + 1, j, r, hj, h0, hr => by
    rw [dmon]
    have hl := dlong_le y ((j : Int) + 1)
    have hd : dmons y (j + 1) = dmons y j + dlong y ((j : Int) + 1) := rfl
    split
    · rename_i hle
      have ih := dmon_ok y r0 h f (j + 1) (r - dlong y ((j : Int) + 1)) (by omega) (by omega) (by rw [hd]; omega)
      have e1 : (((j + 1 : Nat) : Int) + 1) = (j : Int) + 1 + 1 := by omega
      rw [e1] at ih
      exact ih
    · simp only
      omega
theorem days_at (k : Nat) (h : k < 7) : ∃ dn, (ddays[k]'h) = dn ∧ ddays.getD k [] = dn ∧ 6 ≤ dn.length := by
  refine ⟨_, rfl, ?_, ?_⟩
  · rw [List.getD_eq_getElem?_getD, List.getElem?_eq_getElem h]; rfl
  · have : ∀ x ∈ ddays, 6 ≤ x.length := by decide
    exact this _ (List.getElem_mem h)
set_option maxHeartbeats 32000000 in
theorem dput_in (t : Int) (w : World) (hE : DEnv w) (h : 0 ≤ t ∧ t ≤ 253402300799) : Calls Tryz.prog 31 #[.int .i64 t] w fun e w' => e = .returned (.string ⟨(dputL t).toArray⟩) ∧ Below w.heap.size w w' := by
  have hx : dputL t = dputD (t / 86400) (t % 86400) := by unfold dputL; rw [if_neg (by omega)]
  rw [hx]
  have t1 : decide (t < 0) = false := by simp; omega
  have t2 : decide (t > 253402300799) = false := by simp; omega
  have e1 : t.tdiv 86400 = t / 86400 := Int.tdiv_eq_ediv_of_nonneg h.1
  have e2 : t.tmod 86400 = t % 86400 := Int.tmod_eq_emod_of_nonneg h.1
  obtain ⟨d, hd⟩ : ∃ d, t / 86400 = d := ⟨_, rfl⟩
  obtain ⟨s, hs⟩ : ∃ s, t % 86400 = s := ⟨_, rfl⟩
  have hdb : 0 ≤ d ∧ d ≤ 2932896 := by omega
  have hsb : 0 ≤ s ∧ s ≤ 86399 := by omega
  rw [hd] at e1 ⊢
  rw [hs] at e2 ⊢
  have w0 : IntKind.i64.wrap d = d := by rw [IntKind.wrap_i64]; omega
  have w1 : IntKind.i64.wrap s = s := by rw [IntKind.wrap_i64]; omega
  have hok := dyearO_ok d hdb
  have ky := dyear_any d (by omega) w
  unfold dputD
  generalize dyearO d = YR at *
  obtain ⟨Y, r0⟩ := YR
  simp only at hok ky ⊢
  have hYb : 0 ≤ Y ∧ Y ≤ 100000 := by omega
  have hmo := dmon_ok Y r0 hok.2.2.2 12 0 r0 rfl hok.2.2.1 (by simp [dmons])
  rw [show ((0 : Nat) : Int) + 1 = 1 from rfl] at hmo
  obtain ⟨M, hM⟩ : ∃ M, dmon Y 12 r0 1 = M := ⟨_, rfl⟩
  rw [hM] at hmo ⊢
  obtain ⟨d7, hd7⟩ : ∃ k7 : Nat, (d % 7).toNat = k7 := ⟨_, rfl⟩
  obtain ⟨RES, hRES⟩ : ∃ RES, ((ddays.getD (d % 7).toNat []).take 3) ++ [44, 32] ++ dtwo (M.1 + 1) ++ [32] ++ ((dmonths.drop (3 * M.2.toNat - 3)).take 3) ++ [32] ++ dtwo (Y / 100) ++ dtwo Y ++ [32] ++ dtwo (s / 3600) ++ [58] ++ dtwo (s / 60 % 60) ++ [58] ++ dtwo (s % 60) ++ [32, 71, 77, 84] = RES := ⟨_, rfl⟩
  rw [hRES]
  have HRES := Lib.hid hRES; have HM := Lib.hid hM; have KY := Lib.hid ky; have HOK := Lib.hid hok; have HMO := Lib.hid hmo; have HE := Lib.hid hE; have HDB := Lib.hid hdb; have HSB := Lib.hid hsb
  clear hRES hM ky hok hmo hE hd hs hd7 hx hdb hsb
  go_enter Tryz.func31, Tryz.ntmps31
  go_wp2_with fail
  (with_reducible refine KY.out.mono ?_)
  rintro e w2 ⟨rfl, rfl⟩
  go_wp2_with fail
  go_loopw [6, 7] (fun rv mv wr => ∃ (j : Nat) (r : Int), rv = .int .i64 r ∧ mv = .int .i64 ((j : Int) + 1) ∧ j ≤ 11 ∧ 0 ≤ r ∧ Hid (r = r0 - dmons Y j) ∧ Hid (dmon Y (12 - j) r ((j : Int) + 1) = M) ∧ wr = w2) (fun _ mv _ => 20 - (intD mv).toNat)
  case atStart => exact ⟨0, r0, rfl, rfl, by omega, HOK.out.2.2.1, Lib.hid (by simp [dmons]), Lib.hid HM.out, rfl⟩
  case round =>
    obtain ⟨j, r, rfl, rfl, hj, hr0, HJ, HDM, rfl⟩ := hrel
    have kl := fun w' => dlong_any Y ((j : Int) + 1) hYb w'
    have hl := dlong_le Y ((j : Int) + 1)
    have hdn : dmons Y (j + 1) = dmons Y j + dlong Y ((j : Int) + 1) := rfl
    have hD := HDM.out
    rw [show 12 - j = (11 - j) + 1 from by omega, dmon] at hD
    have hjs := HJ.out
    by_cases hge : dlong Y ((j : Int) + 1) ≤ r
    · have hj11 : j < 11 := by
        rcases Nat.lt_or_ge j 11 with h' | h'
        · exact h'
        · have : j = 11 := by omega
          subst this
          have := HOK.out.2.2.2
          have e12 : dmons Y 12 = dmons Y 11 + dlong Y ((11 : Nat) + 1 : Int) := rfl
          omega
      rw [if_pos hge] at hD
      have hjn : r - dlong Y ((j : Int) + 1) = r0 - dmons Y (j + 1) := by rw [hdn]; omega
      have hr1 : r ≤ 400 := by
        have := HOK.out.2.2.2
        rw [dmons_12] at this
        have := dmons_le Y j
        split at * <;> omega
      have v1 : IntKind.i64.wrap (r - dlong Y ((j : Int) + 1)) = r - dlong Y ((j : Int) + 1) := by rw [IntKind.wrap_i64]; omega
      have v2 : IntKind.i64.wrap ((j : Int) + 1 + 1) = (j : Int) + 1 + 1 := by rw [IntKind.wrap_i64]; omega
      have t3 : decide (r ≥ dlong Y ((j : Int) + 1)) = true := by simpa using hge
      have KL := Lib.hid kl; have HJN := Lib.hid hjn; have HDN := Lib.hid hD
      clear kl hdn hD hjs hjn HJ HDM
      go_wp2_with fail
      (with_reducible refine (KL.out _).mono ?_)
      rintro e w3 ⟨rfl, rfl⟩
      go_wp2_with fail
      (with_reducible refine (KL.out _).mono ?_)
      rintro e w3 ⟨rfl, rfl⟩
      go_wp2
      go_roundw
      case rel => exact ⟨j + 1, _, rfl, rfl, hj11, by omega, HJN, Lib.hid (by rw [show 12 - (j + 1) = 11 - j from by omega]; exact HDN.out), trivial⟩
      case measure => simp [intD]; omega
    · have hM2 : M = (r, (j : Int) + 1) := by rw [if_neg hge] at hD; exact hD.symm
      have t3 : decide (r ≥ dlong Y ((j : Int) + 1)) = false := by simpa using hge
      have KL := Lib.hid kl
      subst hM2
      have hmo2 := HMO.out
      simp only at hmo2
      have HRES2 := HRES.out
      simp only at HRES2
      have hmt : ((j : Int) + 1).toNat = j + 1 := by omega
      rw [hmt] at HRES2
      have hk7 : (d % 7).toNat < 7 := by have := HDB.out; omega
      obtain ⟨dn, hday, hgd, hdl⟩ := days_at (d % 7).toNat hk7
      rw [hgd] at HRES2
      have em7 : d.tmod 7 = d % 7 := Int.tmod_eq_emod_of_nonneg HDB.out.1
      have hdc : d % 7 = (((d % 7).toNat : Nat) : Int) := by have := HDB.out; omega
      generalize (d % 7).toNat = k7 at *
      rw [hdc] at em7
      have q1 : Y.tdiv 100 = Y / 100 := Int.tdiv_eq_ediv_of_nonneg (by omega)
      have q2 : s.tdiv 3600 = s / 3600 := Int.tdiv_eq_ediv_of_nonneg HSB.out.1
      have q3 : s.tdiv 60 = s / 60 := Int.tdiv_eq_ediv_of_nonneg HSB.out.1
      have q4 : (s / 60).tmod 60 = s / 60 % 60 := Int.tmod_eq_emod_of_nonneg (by have := HSB.out; omega)
      have q5 : s.tmod 60 = s % 60 := Int.tmod_eq_emod_of_nonneg HSB.out.1
      have hsb := HSB.out
      have hok := HOK.out
      have T1 := Lib.hid (fun w' => dtwo_any (r + 1) (by omega) w')
      have T2 := Lib.hid (fun w' => dtwo_any (Y / 100) (by omega) w')
      have T3 := Lib.hid (fun w' => dtwo_any Y (by omega) w')
      have T4 := Lib.hid (fun w' => dtwo_any (s / 3600) (by omega) w')
      have T5 := Lib.hid (fun w' => dtwo_any (s / 60 % 60) (by omega) w')
      have T6 := Lib.hid (fun w' => dtwo_any (s % 60) (by omega) w')
      have x1 : IntKind.i64.wrap (r + 1) = r + 1 := by rw [IntKind.wrap_i64]; omega
      have x2 : IntKind.i64.wrap (3 * ((j : Int) + 1)) = 3 * ((j : Int) + 1) := by rw [IntKind.wrap_i64]; omega
      have x3 : IntKind.i64.wrap (3 * ((j : Int) + 1) - 3) = 3 * ((j : Int) + 1) - 3 := by rw [IntKind.wrap_i64]; omega
      have x4 : IntKind.i64.wrap (Y / 100) = Y / 100 := by rw [IntKind.wrap_i64]; omega
      have x5 : IntKind.i64.wrap (s / 3600) = s / 3600 := by rw [IntKind.wrap_i64]; omega
      have x6 : IntKind.i64.wrap (s / 60) = s / 60 := by rw [IntKind.wrap_i64]; omega
      have x7 : IntKind.i64.wrap (s / 60 % 60) = s / 60 % 60 := by rw [IntKind.wrap_i64]; omega
      have x8 : IntKind.i64.wrap (s % 60) = s % 60 := by rw [IntKind.wrap_i64]; omega
      have b0 : (k7 : Int) < 7 := by omega
      have b1 : 0 ≤ 3 * ((j : Int) + 1) := by omega
      have hdni : (3 : Int) ≤ (dn.length : Int) := by omega
      obtain ⟨d3, hd3⟩ : ∃ d3, dn.take 3 = d3 := ⟨_, rfl⟩
      have hd3l : d3.length = 3 := by rw [← hd3, List.length_take]; omega
      have hdx : (⟨dn.toArray⟩ : ByteArray).extract 0 3 = ⟨d3.toArray⟩ := by
        apply str_eq
        rw [Lib.extract_data]
        simp only [List.drop_zero]
        exact hd3
      rw [hd3] at HRES2
      clear hd3
      have b2 : 3 * ((j : Int) + 1) ≤ 36 := by omega
      have b3 : 3 ≤ 3 * ((j : Int) + 1) := by omega
      have b4 : 3 * ((j : Int) + 1) - 3 ≤ 3 * ((j : Int) + 1) := by omega
      obtain ⟨mo, hmo3⟩ : ∃ mo, (dmonths.drop (3 * (j + 1) - 3)).take 3 = mo := ⟨_, rfl⟩
      rw [hmo3] at HRES2
      have hex : (⟨#[74, 97, 110, 70, 101, 98, 77, 97, 114, 65, 112, 114, 77, 97, 121, 74, 117, 110, 74, 117, 108, 65, 117, 103, 83, 101, 112, 79, 99, 116, 78, 111, 118, 68, 101, 99]⟩ : ByteArray).extract (3 * ((j : Int) + 1) - 3).toNat (3 * ((j : Int) + 1)).toNat = ⟨mo.toArray⟩ := by
        apply str_eq
        rw [Lib.extract_data, show (3 * ((j : Int) + 1) - 3).toNat = 3 * (j + 1) - 3 from by omega, show (3 * ((j : Int) + 1)).toNat = 3 * (j + 1) from by omega, show 3 * (j + 1) - (3 * (j + 1) - 3) = 3 from by omega]
        exact hmo3
      have hmol : mo.length = 3 := by rw [← hmo3, List.length_take, List.length_drop]; show min 3 (36 - _) = 3; omega
      clear hmo3
      generalize hp1 : dtwo (r + 1) = p1 at *
      generalize hp2 : dtwo (Y / 100) = p2 at *
      generalize hp3 : dtwo Y = p3 at *
      generalize hp4 : dtwo (s / 3600) = p4 at *
      generalize hp5 : dtwo (s / 60 % 60) = p5 at *
      generalize hp6 : dtwo (s % 60) = p6 at *
      have l1 : p1.length = 2 := by rw [← hp1]; rfl
      have l2 : p2.length = 2 := by rw [← hp2]; rfl
      have l3 : p3.length = 2 := by rw [← hp3]; rfl
      have l4 : p4.length = 2 := by rw [← hp4]; rfl
      have l5 : p5.length = 2 := by rw [← hp5]; rfl
      have l6 : p6.length = 2 := by rw [← hp6]; rfl
      clear hp1 hp2 hp3 hp4 hp5 hp6
      have HR2 := Lib.hid HRES2
      clear hD hdn hjs HJ HDM kl HRES HRES2 hsb hok hmo2 HMO hgd
      go_wp2_with fail
      (with_reducible refine (KL.out _).mono ?_)
      rintro e w3 ⟨rfl, rfl⟩
      have KD := Lib.hid (fun w' (hb : Below w3.heap.size w3 w') => ddays_any w' (HE.out.below hb))
      have hv : (⟨d3.toArray⟩ : ByteArray) ++ ⟨#[44, 32]⟩ ++ ⟨p1.toArray⟩ ++ ⟨#[32]⟩ ++ ⟨mo.toArray⟩ ++ ⟨#[32]⟩ ++ ⟨p2.toArray⟩ ++ ⟨p3.toArray⟩ ++ ⟨#[32]⟩ ++ ⟨p4.toArray⟩ ++ ⟨#[58]⟩ ++ ⟨p5.toArray⟩ ++ ⟨#[58]⟩ ++ ⟨p6.toArray⟩ ++ ⟨#[32, 71, 77, 84]⟩ = ⟨RES.toArray⟩ := by
        apply str_eq
        rw [← HR2.out]
        simp
      have HV := Lib.hid hv
      clear hv
      go_wp2_with fail
      refine wp_region_held_drew (S := fun w' => Below w3.heap.size w3 w') (by kernel_rfl) ((Below.refl _ w3).drew) (fun hHeld => ?_)
      refine tkS 1 hHeld ?_
      try simp only [Act.put, ps1, ps2, ps3]
      refine tkS 2 hHeld ?_
      try simp only [Act.put, ps1, ps2, ps3]
      refine tkS 7 hHeld ?_
      try simp only [Act.put, ps1, ps2, ps3]
      refine tkS 8 hHeld ?_
      try simp only [Act.put, ps1, ps2, ps3]
      refine tkS 12 hHeld ?_
      try simp only [Act.put, ps1, ps2, ps3]
      refine tkS 13 hHeld ?_
      try simp only [Act.put, ps1, ps2, ps3]
      refine tkS 14 hHeld ?_
      try simp only [Act.put, ps1, ps2, ps3]
      refine tkS 15 hHeld ?_
      try simp only [Act.put, ps1, ps2, ps3]
      refine tkS 16 hHeld ?_
      try simp only [Act.put, ps1, ps2, ps3]
      refine tkS 17 hHeld ?_
      try simp only [Act.put, ps1, ps2, ps3]
      refine tkS 20 hHeld ?_
      try simp only [Act.put, ps1, ps2, ps3]
      refine tkS 21 hHeld ?_
      try simp only [Act.put, ps1, ps2, ps3]
      refine tkS 24 hHeld ?_
      try simp only [Act.put, ps1, ps2, ps3]
      refine tkS 28 hHeld ?_
      try simp only [Act.put, ps1, ps2, ps3]
      refine tkS 29 hHeld ?_
      try simp only [Act.put, ps1, ps2, ps3]
      refine tkS 33 hHeld ?_
      try simp only [Act.put, ps1, ps2, ps3]
      refine tkS 34 hHeld ?_
      try simp only [Act.put, ps1, ps2, ps3]
      refine tkS 35 hHeld ?_
      try simp only [Act.put, ps1, ps2, ps3]
      refine tkS 39 hHeld ?_
      try simp only [Act.put, ps1, ps2, ps3]
      refine tkS 40 hHeld ?_
      try simp only [Act.put, ps1, ps2, ps3]
      refine wpAnyH_ready (rs := [0]) (by kernel_rfl) (by simp) (AllReadyH.cons (by simp only [List.getElem?_toArray, List.getElem?_cons_zero]; exact rfl) (fun K hK => ?_) AllReadyH.nil)
      rw [if_pos (by rfl)]
      go_simp
      refine (KD.out _ ((Below.refl _ w3).drew)).mono ?_
      rintro e w5 ⟨rfl, hr5, hb5⟩
      have hb05 : Below w3.heap.size w3 w5 := ((Below.refl _ w3).drew).trans hb5
      obtain ⟨g5, o5, e5, hl5, hc5⟩ := hr5.str_at (k := k7) hk7
      cases e5
      rw [Nat.zero_add, hday] at hc5
      go_wp2_with fail
      refine hK.out _ _ (hb05) (fun hHeld => ?_)
      clear hK K
      try simp only [Act.put, ps1, ps2, ps3]
      refine wpAnyH_strong (S' := fun w' => Below w3.heap.size w3 w' ∧ w'.cell? ⟨w3.heap.size, k7, none⟩ = some (.string ⟨dn.toArray⟩)) (fun _ h => h.1) ?_
      replace hHeld : Below w3.heap.size w3 w5 ∧ w5.cell? ⟨w3.heap.size, k7, none⟩ = some (.string ⟨dn.toArray⟩) := ⟨hb05, hc5⟩
      refine tkS 3 hHeld ?_
      try simp only [Act.put, ps1, ps2, ps3]
      refine tkS 4 hHeld ?_
      try simp only [Act.put, ps1, ps2, ps3]
      refine tkS 5 hHeld ?_
      try simp only [Act.put, ps1, ps2, ps3]
      refine tkS 6 hHeld ?_
      try simp only [Act.put, ps1, ps2, ps3]
      refine wpAnyH_ready (rs := [9]) (by kernel_rfl) (by simp) (AllReadyH.cons (by simp only [List.getElem?_toArray, List.getElem?_cons_succ, List.getElem?_cons_zero]; exact rfl) (fun K hK => ?_) AllReadyH.nil)
      rw [if_pos (by rfl)]
      go_simp
      refine (T1.out _).mono ?_
      rintro e w6 ⟨rfl, hx6⟩
      have hb06 : Below w3.heap.size w3 w6 := hb05.trans (hx6.mono hb05.size)
      have hl6 := World.block_lt_of_cell? _ _ hc5
      have hc6 : w6.cell? ⟨w3.heap.size, k7, none⟩ = some (.string ⟨dn.toArray⟩) := (hx6.cell (p := ⟨w3.heap.size, k7, none⟩) hl6).trans hc5
      go_wp2_with fail
      refine hK.out _ _ (⟨hb06, hc6⟩) (fun hHeld => ?_)
      clear hK K
      try simp only [Act.put, ps1, ps2, ps3]
      refine tkS 10 hHeld ?_
      try simp only [Act.put, ps1, ps2, ps3]
      refine tkS 11 hHeld ?_
      try simp only [Act.put, ps1, ps2, ps3]
      refine tkS 18 hHeld ?_
      try simp only [Act.put, ps1, ps2, ps3]
      refine tkS 19 hHeld ?_
      try simp only [Act.put, ps1, ps2, ps3]
      refine wpAnyH_ready (rs := [22]) (by kernel_rfl) (by simp) (AllReadyH.cons (by simp only [List.getElem?_toArray, List.getElem?_cons_succ, List.getElem?_cons_zero]; exact rfl) (fun K hK => ?_) AllReadyH.nil)
      rw [if_pos (by rfl)]
      go_simp
      refine (T2.out _).mono ?_
      rintro e w7 ⟨rfl, hx7⟩
      have hb07 : Below w3.heap.size w3 w7 := hb06.trans (hx7.mono hb06.size)
      have hl7 := World.block_lt_of_cell? _ _ hc6
      have hc7 : w7.cell? ⟨w3.heap.size, k7, none⟩ = some (.string ⟨dn.toArray⟩) := (hx7.cell (p := ⟨w3.heap.size, k7, none⟩) hl7).trans hc6
      go_wp2_with fail
      refine hK.out _ _ (⟨hb07, hc7⟩) (fun hHeld => ?_)
      clear hK K
      try simp only [Act.put, ps1, ps2, ps3]
      refine tkS 23 hHeld ?_
      try simp only [Act.put, ps1, ps2, ps3]
      refine wpAnyH_ready (rs := [25]) (by kernel_rfl) (by simp) (AllReadyH.cons (by simp only [List.getElem?_toArray, List.getElem?_cons_succ, List.getElem?_cons_zero]; exact rfl) (fun K hK => ?_) AllReadyH.nil)
      rw [if_pos (by rfl)]
      go_simp
      refine (T3.out _).mono ?_
      rintro e w8 ⟨rfl, hx8⟩
      have hb08 : Below w3.heap.size w3 w8 := hb07.trans (hx8.mono hb07.size)
      have hl8 := World.block_lt_of_cell? _ _ hc7
      have hc8 : w8.cell? ⟨w3.heap.size, k7, none⟩ = some (.string ⟨dn.toArray⟩) := (hx8.cell (p := ⟨w3.heap.size, k7, none⟩) hl8).trans hc7
      go_wp2_with fail
      refine hK.out _ _ (⟨hb08, hc8⟩) (fun hHeld => ?_)
      clear hK K
      try simp only [Act.put, ps1, ps2, ps3]
      refine tkS 26 hHeld ?_
      try simp only [Act.put, ps1, ps2, ps3]
      refine tkS 27 hHeld ?_
      try simp only [Act.put, ps1, ps2, ps3]
      refine wpAnyH_ready (rs := [30]) (by kernel_rfl) (by simp) (AllReadyH.cons (by simp only [List.getElem?_toArray, List.getElem?_cons_succ, List.getElem?_cons_zero]; exact rfl) (fun K hK => ?_) AllReadyH.nil)
      rw [if_pos (by rfl)]
      go_simp
      refine (T4.out _).mono ?_
      rintro e w9 ⟨rfl, hx9⟩
      have hb09 : Below w3.heap.size w3 w9 := hb08.trans (hx9.mono hb08.size)
      have hl9 := World.block_lt_of_cell? _ _ hc8
      have hc9 : w9.cell? ⟨w3.heap.size, k7, none⟩ = some (.string ⟨dn.toArray⟩) := (hx9.cell (p := ⟨w3.heap.size, k7, none⟩) hl9).trans hc8
      go_wp2_with fail
      refine hK.out _ _ (⟨hb09, hc9⟩) (fun hHeld => ?_)
      clear hK K
      try simp only [Act.put, ps1, ps2, ps3]
      refine tkS 31 hHeld ?_
      try simp only [Act.put, ps1, ps2, ps3]
      refine tkS 32 hHeld ?_
      try simp only [Act.put, ps1, ps2, ps3]
      refine wpAnyH_ready (rs := [36]) (by kernel_rfl) (by simp) (AllReadyH.cons (by simp only [List.getElem?_toArray, List.getElem?_cons_succ, List.getElem?_cons_zero]; exact rfl) (fun K hK => ?_) AllReadyH.nil)
      rw [if_pos (by rfl)]
      go_simp
      refine (T5.out _).mono ?_
      rintro e w10 ⟨rfl, hx10⟩
      have hb010 : Below w3.heap.size w3 w10 := hb09.trans (hx10.mono hb09.size)
      have hl10 := World.block_lt_of_cell? _ _ hc9
      have hc10 : w10.cell? ⟨w3.heap.size, k7, none⟩ = some (.string ⟨dn.toArray⟩) := (hx10.cell (p := ⟨w3.heap.size, k7, none⟩) hl10).trans hc9
      go_wp2_with fail
      refine hK.out _ _ (⟨hb010, hc10⟩) (fun hHeld => ?_)
      clear hK K
      try simp only [Act.put, ps1, ps2, ps3]
      refine tkS 37 hHeld ?_
      try simp only [Act.put, ps1, ps2, ps3]
      refine tkS 38 hHeld ?_
      try simp only [Act.put, ps1, ps2, ps3]
      refine wpAnyH_ready (rs := [41]) (by kernel_rfl) (by simp) (AllReadyH.cons (by simp only [List.getElem?_toArray, List.getElem?_cons_succ, List.getElem?_cons_zero]; exact rfl) (fun K hK => ?_) AllReadyH.nil)
      rw [if_pos (by rfl)]
      go_simp
      refine (T6.out _).mono ?_
      rintro e w11 ⟨rfl, hx11⟩
      have hb011 : Below w3.heap.size w3 w11 := hb010.trans (hx11.mono hb010.size)
      have hl11 := World.block_lt_of_cell? _ _ hc10
      have hc11 : w11.cell? ⟨w3.heap.size, k7, none⟩ = some (.string ⟨dn.toArray⟩) := (hx11.cell (p := ⟨w3.heap.size, k7, none⟩) hl11).trans hc10
      go_wp2_with fail
      refine hK.out _ _ (⟨hb011, hc11⟩) (fun hHeld => ?_)
      clear hK K
      try simp only [Act.put, ps1, ps2, ps3]
      refine tkS 42 hHeld ?_
      try simp only [Act.put, ps1, ps2, ps3]
      refine tkS 43 hHeld ?_
      try simp only [Act.put, ps1, ps2, ps3]
      refine tkS 44 hHeld ?_
      try simp only [Act.put, ps1, ps2, ps3]
      refine wpAnyH_done (by kernel_rfl) ?_ _
      clear hHeld
      go_wp2
      go_ret
      exact ⟨by rw [← HV.out]; rfl, hb011⟩
end Go.Proofs.YtcgdcbnhpbokfaaGreatDoor
/- The document's dates: the walks of clock, Tick, time (printed by wip/tools/rwalk7.py). -/
namespace Go.Proofs.YtcgdcbnhpbokfaaGreatDoor
open Go.RowKit
set_option maxRecDepth 100000

theorem rdig_len : ∀ (k : Nat) (n : Int), (rdig k n).length = k
  | 0, _ => rfl
  | k + 1, n => by rw [rdig, List.length_append, rdig_len k]; rfl
theorem idigI_any (N : Int) (K : Nat) (h0 : 0 ≤ N) (hN : N ≤ 1000000) (hK : K ≤ 10) (w : World) :
    Calls Tryz.prog 155 #[.int .i64 N, .int .i64 K] w fun e w' => e = .returned (.string ⟨(rdig K N).toArray⟩) ∧ Below w.heap.size w w' := by
  obtain ⟨m, rfl⟩ := Int.eq_ofNat_of_zero_le h0
  exact idig_any m K (by omega) hK w
theorem idig1_any (N : Int) (h0 : 0 ≤ N) (hN : N ≤ 1000000) (w : World) :
    Calls Tryz.prog 155 #[.int .i64 N, .int .i64 1] w fun e w' => e = .returned (.string ⟨(rdig 1 N).toArray⟩) ∧ Below w.heap.size w w' := idigI_any N 1 h0 hN (by omega) w
theorem idig2_any (N : Int) (h0 : 0 ≤ N) (hN : N ≤ 1000000) (w : World) :
    Calls Tryz.prog 155 #[.int .i64 N, .int .i64 2] w fun e w' => e = .returned (.string ⟨(rdig 2 N).toArray⟩) ∧ Below w.heap.size w w' := idigI_any N 2 h0 hN (by omega) w
theorem idig4_any (N : Int) (h0 : 0 ≤ N) (hN : N ≤ 1000000) (w : World) :
    Calls Tryz.prog 155 #[.int .i64 N, .int .i64 4] w fun e w' => e = .returned (.string ⟨(rdig 4 N).toArray⟩) ∧ Below w.heap.size w w' := idigI_any N 4 h0 hN (by omega) w
theorem iweekS_any (A : Option Addr) (c : Nat) (n : Nat) (hn : n ≤ 10000000) (w : World) (hr : Rd A 7 1 (strsV rshort) w) :
    Calls Tryz.prog 152 #[.int .i64 n, .slice A 7 c] w fun e w' => e = .returned (.string ⟨(rwd rshort n).toArray⟩) ∧ w' = w := iweek_any A c rshort n hn rfl w hr
theorem iweekL_any (A : Option Addr) (c : Nat) (n : Nat) (hn : n ≤ 10000000) (w : World) (hr : Rd A 7 1 (strsV rlong) w) :
    Calls Tryz.prog 152 #[.int .i64 n, .slice A 7 c] w fun e w' => e = .returned (.string ⟨(rwd rlong n).toArray⟩) ∧ w' = w := iweek_any A c rlong n hn rfl w hr
theorem rcount_in (d : RD) (h : rmay d = true) : ∃ N : Nat, rcount d = N ∧ N ≤ 10000000 := by
  obtain ⟨a1, a2, a3, a4, a5, a6, _⟩ := rmay_is h
  have h1 := dahead_ge d.year a1
  have h2 := dmons_le d.year (d.month.toNat - 1)
  have h3 := dlong_hi d.year d.month
  have h4 : 31 * (d.month.toNat - 1) ≤ 31 * 11 := Nat.mul_le_mul_left _ (by omega)
  refine ⟨(rcount d).toNat, ?_, ?_⟩
  · unfold rcount; omega
  · unfold rcount; omega
set_option maxHeartbeats 8000000 in
theorem iclock_any (Y Mo D h mi s : Int) (hb : 0 ≤ h ∧ h ≤ 99 ∧ 0 ≤ mi ∧ mi ≤ 99 ∧ 0 ≤ s ∧ s ≤ 99) (w : World) :
    Calls Tryz.prog 156 #[.agg #[.int .i64 Y, .int .i64 Mo, .int .i64 D, .int .i64 h, .int .i64 mi, .int .i64 s]] w fun e w' => e = .returned (.string ⟨(rclock ⟨Y, Mo, D, h, mi, s⟩).toArray⟩) ∧ Below w.heap.size w w' := by
  obtain ⟨W1, hW1⟩ : ∃ W1, w.alloc (.cells #[.int .i64 Y, .int .i64 Mo, .int .i64 D, .int .i64 h, .int .i64 mi, .int .i64 s] 122) = W1 := ⟨_, rfl⟩
  have b1 : Below w.heap.size w W1 := by rw [← hW1]; exact (Below.refl w.heap.size w).alloc (Nat.le_refl _) _
  have x1 : W1.heap[w.heap.size]? = some (.cells #[.int .i64 Y, .int .i64 Mo, .int .i64 D, .int .i64 h, .int .i64 mi, .int .i64 s] 122 (0, 0)) := by rw [← hW1]; exact heap_new w _ _ rfl
  have c0 := (of_heap x1 0).1; have c1 := (of_heap x1 1).1; have c2 := (of_heap x1 2).1; have c3 := (of_heap x1 3).1; have c4 := (of_heap x1 4).1; have c5 := (of_heap x1 5).1; have hEl := (of_heap x1 0).2.2
  simp only [List.getElem?_toArray, List.getElem?_cons_succ, List.getElem?_cons_zero] at c0 c1 c2 c3 c4 c5
  have kc : ∀ w', Below W1.heap.size W1 w' → w'.cell? ⟨w.heap.size, 0, none⟩ = some (.int .i64 Y) ∧ w'.cell? ⟨w.heap.size, 1, none⟩ = some (.int .i64 Mo) ∧ w'.cell? ⟨w.heap.size, 2, none⟩ = some (.int .i64 D) ∧ w'.cell? ⟨w.heap.size, 3, none⟩ = some (.int .i64 h) ∧ w'.cell? ⟨w.heap.size, 4, none⟩ = some (.int .i64 mi) ∧ w'.cell? ⟨w.heap.size, 5, none⟩ = some (.int .i64 s) ∧ Below W1.heap.size W1 w' := fun w' h => ⟨(h.cell (p := ⟨w.heap.size, 0, none⟩) hEl).trans c0, (h.cell (p := ⟨w.heap.size, 1, none⟩) hEl).trans c1, (h.cell (p := ⟨w.heap.size, 2, none⟩) hEl).trans c2, (h.cell (p := ⟨w.heap.size, 3, none⟩) hEl).trans c3, (h.cell (p := ⟨w.heap.size, 4, none⟩) hEl).trans c4, (h.cell (p := ⟨w.heap.size, 5, none⟩) hEl).trans c5, h⟩
  have k1 := fun W => idig2_any h (by omega) (by omega) W
  have k2 := fun W => idig2_any mi (by omega) (by omega) W
  have k3 := fun W => idig2_any s (by omega) (by omega) W
  have hfin : ((((⟨(rdig 2 h).toArray⟩ : ByteArray) ++ ⟨#[58]⟩) ++ ⟨(rdig 2 mi).toArray⟩) ++ ⟨#[58]⟩) ++ ⟨(rdig 2 s).toArray⟩ = ⟨(rclock ⟨Y, Mo, D, h, mi, s⟩).toArray⟩ := by
    apply str_eq
    simp only [app_list]
    unfold rclock
    simp
  have z1 : (⟨(rdig 2 h).toArray⟩ : ByteArray).size = 2 := by rw [Lib.size_eq]; exact rdig_len 2 h
  have z2 : (⟨(rdig 2 mi).toArray⟩ : ByteArray).size = 2 := by rw [Lib.size_eq]; exact rdig_len 2 mi
  have z3 : (⟨(rdig 2 s).toArray⟩ : ByteArray).size = 2 := by rw [Lib.size_eq]; exact rdig_len 2 s
  generalize (⟨(rdig 2 h).toArray⟩ : ByteArray) = q1 at *
  generalize (⟨(rdig 2 mi).toArray⟩ : ByteArray) = q2 at *
  generalize (⟨(rdig 2 s).toArray⟩ : ByteArray) = q3 at *
  generalize (⟨(rclock ⟨Y, Mo, D, h, mi, s⟩).toArray⟩ : ByteArray) = R at *
  have y1 : q1.size ≤ 2 := by omega
  have y2 : q2.size ≤ 2 := by omega
  have y3 : q3.size ≤ 2 := by omega
  have f1 : ¬ (9223372036854775807 < q1.size + 1) := by omega
  have f2 : ¬ (9223372036854775807 < q1.size + 1 + q2.size) := by omega
  have f3 : ¬ (9223372036854775807 < q1.size + 1 + q2.size + 1) := by omega
  have f4 : ¬ (9223372036854775807 < q1.size + 1 + q2.size + 1 + q3.size) := by omega
  have K1 := Lib.hid k1; have K2 := Lib.hid k2; have K3 := Lib.hid k3; have KC := Lib.hid kc; have HW1 := Lib.hid hW1; have HF := Lib.hid hfin
  have hB1 : Below W1.heap.size W1 W1.drew := (Below.refl _ _).drew
  clear k1 k2 k3 kc hW1 x1 z1 z2 z3 hfin hb c0 c1 c2 c3 c4 c5 hEl
  go_enter Tryz.func156, Tryz.ntmps156
  go_upto_region 1 with (fail)
  rw [HW1.out]
  go_wp2_with fail
  refine wp_region_held_drew (S := (fun w' => w'.cell? ⟨w.heap.size, 0, none⟩ = some (.int .i64 Y) ∧ w'.cell? ⟨w.heap.size, 1, none⟩ = some (.int .i64 Mo) ∧ w'.cell? ⟨w.heap.size, 2, none⟩ = some (.int .i64 D) ∧ w'.cell? ⟨w.heap.size, 3, none⟩ = some (.int .i64 h) ∧ w'.cell? ⟨w.heap.size, 4, none⟩ = some (.int .i64 mi) ∧ w'.cell? ⟨w.heap.size, 5, none⟩ = some (.int .i64 s) ∧ Below W1.heap.size W1 w')) (by kernel_rfl) (KC.out _ hB1) (fun hHeld => ?_)
  refine tkS 0 hHeld ?_
  try simp only [Act.put, ps1, ps2, ps3]
  refine tkS 1 hHeld ?_
  try simp only [Act.put, ps1, ps2, ps3]
  refine tkS 4 hHeld ?_
  try simp only [Act.put, ps1, ps2, ps3]
  refine tkS 5 hHeld ?_
  try simp only [Act.put, ps1, ps2, ps3]
  refine tkS 9 hHeld ?_
  try simp only [Act.put, ps1, ps2, ps3]
  refine tkS 10 hHeld ?_
  try simp only [Act.put, ps1, ps2, ps3]
  refine wpAnyH_ready (rs := [2]) (by kernel_rfl) (by simp) (AllReadyH.cons (by simp only [List.getElem?_toArray, List.getElem?_cons_succ, List.getElem?_cons_zero]; exact rfl) (fun K hK => ?_) AllReadyH.nil)
  rw [if_pos (by rfl)]
  go_simp
  (with_reducible refine (K1.out _).mono ?_); rintro e w2 ⟨rfl, hb2⟩; have hB2 := bt hB1 hb2; go_wp2_with fail
  refine hK.out _ _ (KC.out _ hB2) (fun hHeld => ?_)
  clear hK K
  try simp only [Act.put, ps1, ps2, ps3]
  refine tkS 3 hHeld ?_
  try simp only [Act.put, ps1, ps2, ps3]
  refine wpAnyH_ready (rs := [6]) (by kernel_rfl) (by simp) (AllReadyH.cons (by simp only [List.getElem?_toArray, List.getElem?_cons_succ, List.getElem?_cons_zero]; exact rfl) (fun K hK => ?_) AllReadyH.nil)
  rw [if_pos (by rfl)]
  go_simp
  (with_reducible refine (K2.out _).mono ?_); rintro e w3 ⟨rfl, hb3⟩; have hB3 := bt hB2 hb3; go_wp2_with fail
  refine hK.out _ _ (KC.out _ hB3) (fun hHeld => ?_)
  clear hK K
  try simp only [Act.put, ps1, ps2, ps3]
  refine tkS 7 hHeld ?_
  try simp only [Act.put, ps1, ps2, ps3]
  refine tkS 8 hHeld ?_
  try simp only [Act.put, ps1, ps2, ps3]
  refine wpAnyH_ready (rs := [11]) (by kernel_rfl) (by simp) (AllReadyH.cons (by simp only [List.getElem?_toArray, List.getElem?_cons_succ, List.getElem?_cons_zero]; exact rfl) (fun K hK => ?_) AllReadyH.nil)
  rw [if_pos (by rfl)]
  go_simp
  (with_reducible refine (K3.out _).mono ?_); rintro e w4 ⟨rfl, hb4⟩; have hB4 := bt hB3 hb4; go_wp2_with fail
  refine hK.out _ _ (KC.out _ hB4) (fun hHeld => ?_)
  clear hK K
  try simp only [Act.put, ps1, ps2, ps3]
  refine tkS 12 hHeld ?_
  try simp only [Act.put, ps1, ps2, ps3]
  refine tkS 13 hHeld ?_
  try simp only [Act.put, ps1, ps2, ps3]
  refine wpAnyH_done (by kernel_rfl) ?_ _
  clear hHeld
  go_wp2
  go_ret
  exact ⟨by rw [← HF.out]; rfl, bt b1 hB4⟩
set_option maxHeartbeats 8000000 in
theorem itick_any (Y Mo D h mi s : Int) (hd : rmay ⟨Y, Mo, D, h, mi, s⟩ = true) (w : World) :
    Calls Tryz.prog 103 #[.agg #[.int .i64 Y, .int .i64 Mo, .int .i64 D, .int .i64 h, .int .i64 mi, .int .i64 s]] w fun e w' => e = .returned (.int .i64 (rtick ⟨Y, Mo, D, h, mi, s⟩)) ∧ Below w.heap.size w w' := by
  obtain ⟨a1, a2, a3, a4, a5, a6, a7, a8, a9, a10, a11, a12⟩ := rmay_is hd
  simp only at a1 a2 a3 a4 a5 a6 a7 a8 a9 a10 a11 a12
  have hdl := dlong_hi Y Mo
  obtain ⟨W1, hW1⟩ : ∃ W1, w.alloc (.cells #[.int .i64 Y, .int .i64 Mo, .int .i64 D, .int .i64 h, .int .i64 mi, .int .i64 s] 122) = W1 := ⟨_, rfl⟩
  have b1 : Below w.heap.size w W1 := by rw [← hW1]; exact (Below.refl w.heap.size w).alloc (Nat.le_refl _) _
  have x1 : W1.heap[w.heap.size]? = some (.cells #[.int .i64 Y, .int .i64 Mo, .int .i64 D, .int .i64 h, .int .i64 mi, .int .i64 s] 122 (0, 0)) := by rw [← hW1]; exact heap_new w _ _ rfl
  have c0 := (of_heap x1 0).1; have c1 := (of_heap x1 1).1; have c2 := (of_heap x1 2).1; have c3 := (of_heap x1 3).1; have c4 := (of_heap x1 4).1; have c5 := (of_heap x1 5).1; have hEl := (of_heap x1 0).2.2
  simp only [List.getElem?_toArray, List.getElem?_cons_succ, List.getElem?_cons_zero] at c0 c1 c2 c3 c4 c5
  have kc : ∀ w', Below W1.heap.size W1 w' → w'.cell? ⟨w.heap.size, 0, none⟩ = some (.int .i64 Y) ∧ w'.cell? ⟨w.heap.size, 1, none⟩ = some (.int .i64 Mo) ∧ w'.cell? ⟨w.heap.size, 2, none⟩ = some (.int .i64 D) ∧ w'.cell? ⟨w.heap.size, 3, none⟩ = some (.int .i64 h) ∧ w'.cell? ⟨w.heap.size, 4, none⟩ = some (.int .i64 mi) ∧ w'.cell? ⟨w.heap.size, 5, none⟩ = some (.int .i64 s) ∧ Below W1.heap.size W1 w' := fun w' h => ⟨(h.cell (p := ⟨w.heap.size, 0, none⟩) hEl).trans c0, (h.cell (p := ⟨w.heap.size, 1, none⟩) hEl).trans c1, (h.cell (p := ⟨w.heap.size, 2, none⟩) hEl).trans c2, (h.cell (p := ⟨w.heap.size, 3, none⟩) hEl).trans c3, (h.cell (p := ⟨w.heap.size, 4, none⟩) hEl).trans c4, (h.cell (p := ⟨w.heap.size, 5, none⟩) hEl).trans c5, h⟩
  have k1 := fun W => icount_any Y Mo D h mi s ⟨a1, a2⟩ ⟨a3, a4⟩ ⟨a5, by omega⟩ W
  obtain ⟨N, hN, hNb⟩ := rcount_in _ hd
  have hR : rtick ⟨Y, Mo, D, h, mi, s⟩ = (N : Int) * 86400 + (3600 * h + 60 * mi + s) := by unfold rtick; rw [hN]
  rw [hR]
  rw [hN] at k1
  have w1 : IntKind.i64.wrap ((N : Int) * 86400) = (N : Int) * 86400 := by rw [IntKind.wrap_i64]; omega
  have w2 : IntKind.i64.wrap (3600 * h) = 3600 * h := by rw [IntKind.wrap_i64]; omega
  have w3 : IntKind.i64.wrap (60 * mi) = 60 * mi := by rw [IntKind.wrap_i64]; omega
  have w4 : IntKind.i64.wrap (3600 * h + 60 * mi) = 3600 * h + 60 * mi := by rw [IntKind.wrap_i64]; omega
  have w5 : IntKind.i64.wrap (3600 * h + 60 * mi + s) = 3600 * h + 60 * mi + s := by rw [IntKind.wrap_i64]; omega
  have w6 : IntKind.i64.wrap ((N : Int) * 86400 + (3600 * h + 60 * mi + s)) = (N : Int) * 86400 + (3600 * h + 60 * mi + s) := by rw [IntKind.wrap_i64]; omega
  have K1 := Lib.hid k1; have KC := Lib.hid kc; have HW1 := Lib.hid hW1
  have hB1 : Below W1.heap.size W1 W1.drew := (Below.refl _ _).drew
  clear k1 kc hW1 x1 hd hN hR c0 c1 c2 c3 c4 c5 hEl
  go_enter Tryz.func103, Tryz.ntmps103
  go_upto_region 1 with (fail)
  rw [HW1.out]
  go_wp2_with fail
  refine wp_region_held_drew (S := (fun w' => w'.cell? ⟨w.heap.size, 0, none⟩ = some (.int .i64 Y) ∧ w'.cell? ⟨w.heap.size, 1, none⟩ = some (.int .i64 Mo) ∧ w'.cell? ⟨w.heap.size, 2, none⟩ = some (.int .i64 D) ∧ w'.cell? ⟨w.heap.size, 3, none⟩ = some (.int .i64 h) ∧ w'.cell? ⟨w.heap.size, 4, none⟩ = some (.int .i64 mi) ∧ w'.cell? ⟨w.heap.size, 5, none⟩ = some (.int .i64 s) ∧ Below W1.heap.size W1 w')) (by kernel_rfl) (KC.out _ hB1) (fun hHeld => ?_)
  refine tkS 0 hHeld ?_
  try simp only [Act.put, ps1, ps2, ps3]
  refine tkS 3 hHeld ?_
  try simp only [Act.put, ps1, ps2, ps3]
  refine tkS 4 hHeld ?_
  try simp only [Act.put, ps1, ps2, ps3]
  refine tkS 5 hHeld ?_
  try simp only [Act.put, ps1, ps2, ps3]
  refine tkS 6 hHeld ?_
  try simp only [Act.put, ps1, ps2, ps3]
  refine tkS 7 hHeld ?_
  try simp only [Act.put, ps1, ps2, ps3]
  refine tkS 8 hHeld ?_
  try simp only [Act.put, ps1, ps2, ps3]
  refine tkS 9 hHeld ?_
  try simp only [Act.put, ps1, ps2, ps3]
  refine tkS 10 hHeld ?_
  try simp only [Act.put, ps1, ps2, ps3]
  refine tkS 11 hHeld ?_
  try simp only [Act.put, ps1, ps2, ps3]
  refine tkS 12 hHeld ?_
  try simp only [Act.put, ps1, ps2, ps3]
  refine wpAnyH_ready (rs := [1]) (by kernel_rfl) (by simp) (AllReadyH.cons (by simp only [List.getElem?_toArray, List.getElem?_cons_succ, List.getElem?_cons_zero]; exact rfl) (fun K hK => ?_) AllReadyH.nil)
  rw [if_pos (by rfl)]
  go_simp
  (with_reducible refine (K1.out _).mono ?_); rintro e w2 ⟨rfl, hb2⟩; have hB2 := bt hB1 hb2; go_wp2_with fail
  refine hK.out _ _ (KC.out _ hB2) (fun hHeld => ?_)
  clear hK K
  try simp only [Act.put, ps1, ps2, ps3]
  refine tkS 2 hHeld ?_
  try simp only [Act.put, ps1, ps2, ps3]
  refine tkS 13 hHeld ?_
  try simp only [Act.put, ps1, ps2, ps3]
  refine tkS 14 hHeld ?_
  try simp only [Act.put, ps1, ps2, ps3]
  refine wpAnyH_done (by kernel_rfl) ?_ _
  clear hHeld
  go_wp2
  go_ret
  exact ⟨rfl, bt b1 hB2⟩
end Go.Proofs.YtcgdcbnhpbokfaaGreatDoor
/- The document's dates: the walks of Fixed, Old (printed by wip/tools/rwalk7.py). -/
namespace Go.Proofs.YtcgdcbnhpbokfaaGreatDoor
open Go.RowKit
set_option maxRecDepth 100000

set_option maxHeartbeats 16000000 in
theorem ifixed_any (Y Mo D h mi s : Int) (hd : rmay ⟨Y, Mo, D, h, mi, s⟩ = true) (w : World) :
    Calls Tryz.prog 102 #[.agg #[.int .i64 Y, .int .i64 Mo, .int .i64 D, .int .i64 h, .int .i64 mi, .int .i64 s]] w fun e w' => e = .returned (.string ⟨(rfixed ⟨Y, Mo, D, h, mi, s⟩).toArray⟩) ∧ Below w.heap.size w w' := by
  obtain ⟨a1, a2, a3, a4, a5, a6, a7, a8, a9, a10, a11, a12⟩ := rmay_is hd
  simp only at a1 a2 a3 a4 a5 a6 a7 a8 a9 a10 a11 a12
  have hdl := dlong_hi Y Mo
  obtain ⟨W1, hW1⟩ : ∃ W1, w.alloc (.cells #[.int .i64 Y, .int .i64 Mo, .int .i64 D, .int .i64 h, .int .i64 mi, .int .i64 s] 122) = W1 := ⟨_, rfl⟩
  have b1 : Below w.heap.size w W1 := by rw [← hW1]; exact (Below.refl w.heap.size w).alloc (Nat.le_refl _) _
  have x1 : W1.heap[w.heap.size]? = some (.cells #[.int .i64 Y, .int .i64 Mo, .int .i64 D, .int .i64 h, .int .i64 mi, .int .i64 s] 122 (0, 0)) := by rw [← hW1]; exact heap_new w _ _ rfl
  have c0 := (of_heap x1 0).1; have c1 := (of_heap x1 1).1; have c2 := (of_heap x1 2).1; have c3 := (of_heap x1 3).1; have c4 := (of_heap x1 4).1; have c5 := (of_heap x1 5).1; have hEl := (of_heap x1 0).2.2
  simp only [List.getElem?_toArray, List.getElem?_cons_succ, List.getElem?_cons_zero] at c0 c1 c2 c3 c4 c5
  have kc : ∀ w', Below W1.heap.size W1 w' → w'.cell? ⟨w.heap.size, 0, none⟩ = some (.int .i64 Y) ∧ w'.cell? ⟨w.heap.size, 1, none⟩ = some (.int .i64 Mo) ∧ w'.cell? ⟨w.heap.size, 2, none⟩ = some (.int .i64 D) ∧ w'.cell? ⟨w.heap.size, 3, none⟩ = some (.int .i64 h) ∧ w'.cell? ⟨w.heap.size, 4, none⟩ = some (.int .i64 mi) ∧ w'.cell? ⟨w.heap.size, 5, none⟩ = some (.int .i64 s) ∧ Below W1.heap.size W1 w' := fun w' h => ⟨(h.cell (p := ⟨w.heap.size, 0, none⟩) hEl).trans c0, (h.cell (p := ⟨w.heap.size, 1, none⟩) hEl).trans c1, (h.cell (p := ⟨w.heap.size, 2, none⟩) hEl).trans c2, (h.cell (p := ⟨w.heap.size, 3, none⟩) hEl).trans c3, (h.cell (p := ⟨w.heap.size, 4, none⟩) hEl).trans c4, (h.cell (p := ⟨w.heap.size, 5, none⟩) hEl).trans c5, h⟩
  obtain ⟨N, hN, hNb⟩ := rcount_in _ hd
  have kn := fun W => icount_any Y Mo D h mi s ⟨a1, a2⟩ ⟨a3, a4⟩ ⟨a5, by omega⟩ W
  rw [hN] at kn
  have ks := fun W => ishort_any W
  have kw := fun A c W hr => iweekS_any A c N hNb W hr
  have kd := fun W => idig2_any D (by omega) (by omega) W
  have km := fun W => imons_any W
  have ky := fun W => idig4_any Y (by omega) (by omega) W
  have kk := fun W => iclock_any Y Mo D h mi s ⟨a7, by omega, a9, by omega, a11, by omega⟩ W
  obtain ⟨j, hj', hjm, hje⟩ := rmon_is Mo a3 a4
  have hj : j < rmons.length := hj'
  have hmo : rmons[j] = rmon Mo := by rw [hjm, List.getD_eq_getElem?_getD, List.getElem?_eq_getElem hj]; rfl
  have hml : (rmon Mo).length = 3 := by rw [hjm]; exact mon_len j hj'
  have hwl : (rwd rshort N).length ≤ 3 := by
    have hall : ∀ x ∈ rshort, x.length ≤ 3 := by decide
    unfold rwd
    have hi : (((N : Int) + 3) % 7).toNat < rshort.length := by show _ < 7; omega
    rw [List.getD_eq_getElem?_getD, List.getElem?_eq_getElem hi]
    exact hall _ (List.getElem_mem hi)
  have hcl : (rclock ⟨Y, Mo, D, h, mi, s⟩).length = 8 := by unfold rclock; simp [rdig_len]
  have hw1 : IntKind.i64.wrap (Mo - 1) = (j : Int) := by rw [IntKind.wrap_i64]; omega
  have hfin : ((((((((((⟨(rwd rshort N).toArray⟩ : ByteArray) ++ ⟨#[44, 32]⟩) ++ ⟨(rdig 2 D).toArray⟩) ++ ⟨#[32]⟩) ++ ⟨(rmon Mo).toArray⟩) ++ ⟨#[32]⟩) ++ ⟨(rdig 4 Y).toArray⟩) ++ ⟨#[32]⟩) ++ ⟨(rclock ⟨Y, Mo, D, h, mi, s⟩).toArray⟩) ++ ⟨#[32, 71, 77, 84]⟩) = ⟨(rfixed ⟨Y, Mo, D, h, mi, s⟩).toArray⟩ := by
    apply str_eq
    simp only [app_list]
    unfold rfixed
    rw [hN]
    simp
  have z1 : (⟨(rwd rshort N).toArray⟩ : ByteArray).size ≤ 3 := by rw [Lib.size_eq]; exact hwl
  have z2 : (⟨(rdig 2 D).toArray⟩ : ByteArray).size ≤ 2 := by rw [Lib.size_eq]; exact Nat.le_of_eq (rdig_len 2 D)
  have z3 : (⟨(rmon Mo).toArray⟩ : ByteArray).size ≤ 3 := by rw [Lib.size_eq]; exact Nat.le_of_eq hml
  have z4 : (⟨(rdig 4 Y).toArray⟩ : ByteArray).size ≤ 4 := by rw [Lib.size_eq]; show (rdig 4 Y).length ≤ 4; rw [rdig_len]; omega
  have z5 : (⟨(rclock ⟨Y, Mo, D, h, mi, s⟩).toArray⟩ : ByteArray).size ≤ 8 := by rw [Lib.size_eq]; exact Nat.le_of_eq hcl
  have hmo2 : (⟨rmons[j].toArray⟩ : ByteArray) = ⟨(rmon Mo).toArray⟩ := by rw [hmo]
  have hrl : rmons.length = 12 := rfl
  have hjb : j < 12 := hj'
  generalize (⟨(rwd rshort N).toArray⟩ : ByteArray) = q1 at *
  generalize (⟨(rdig 2 D).toArray⟩ : ByteArray) = q2 at *
  generalize (⟨(rmon Mo).toArray⟩ : ByteArray) = mo at *
  generalize (⟨(rdig 4 Y).toArray⟩ : ByteArray) = q4 at *
  generalize (⟨(rclock ⟨Y, Mo, D, h, mi, s⟩).toArray⟩ : ByteArray) = q5 at *
  generalize (⟨(rfixed ⟨Y, Mo, D, h, mi, s⟩).toArray⟩ : ByteArray) = R at *
  have f1 : ¬ (9223372036854775807 < q1.size + 2) := by omega
  have f2 : ¬ (9223372036854775807 < q1.size + 2 + q2.size) := by omega
  have f3 : ¬ (9223372036854775807 < q1.size + 2 + q2.size + 1) := by omega
  have f4 : ¬ (9223372036854775807 < q1.size + 2 + q2.size + 1 + mo.size) := by omega
  have f5 : ¬ (9223372036854775807 < q1.size + 2 + q2.size + 1 + mo.size + 1) := by omega
  have f6 : ¬ (9223372036854775807 < q1.size + 2 + q2.size + 1 + mo.size + 1 + q4.size) := by omega
  have f7 : ¬ (9223372036854775807 < q1.size + 2 + q2.size + 1 + mo.size + 1 + q4.size + 1) := by omega
  have f8 : ¬ (9223372036854775807 < q1.size + 2 + q2.size + 1 + mo.size + 1 + q4.size + 1 + q5.size) := by omega
  have f9 : ¬ (9223372036854775807 < q1.size + 2 + q2.size + 1 + mo.size + 1 + q4.size + 1 + q5.size + 4) := by omega
  have i1 : (0 : Int) ≤ (j : Int) := by omega
  have i2 : (j : Int) < 12 := by omega
  have i4 : ((j : Int)).toNat = j := by simp
  have i5 : decide ((j : Int) < 0) = false := by simp
  have KN := Lib.hid kn; have KS := Lib.hid ks; have KW := Lib.hid kw; have KD := Lib.hid kd; have KM := Lib.hid km; have KY := Lib.hid ky; have KK := Lib.hid kk; have KC := Lib.hid kc; have HW1 := Lib.hid hW1; have HF := Lib.hid hfin; have HMO := Lib.hid hmo2
  have hB1 : Below W1.heap.size W1 W1.drew := (Below.refl _ _).drew
  clear kn ks kw kd km ky kk kc hW1 x1 hfin hmo2 hmo hml hwl hcl hN hd hjm hje hj' c0 c1 c2 c3 c4 c5 hEl hrl
  go_enter Tryz.func102, Tryz.ntmps102
  go_upto_region 1 with (fail)
  rw [HW1.out]
  go_wp2_with fail
  refine wp_region_held_drew (S := (fun w' => w'.cell? ⟨w.heap.size, 0, none⟩ = some (.int .i64 Y) ∧ w'.cell? ⟨w.heap.size, 1, none⟩ = some (.int .i64 Mo) ∧ w'.cell? ⟨w.heap.size, 2, none⟩ = some (.int .i64 D) ∧ w'.cell? ⟨w.heap.size, 3, none⟩ = some (.int .i64 h) ∧ w'.cell? ⟨w.heap.size, 4, none⟩ = some (.int .i64 mi) ∧ w'.cell? ⟨w.heap.size, 5, none⟩ = some (.int .i64 s) ∧ Below W1.heap.size W1 w')) (by kernel_rfl) (KC.out _ hB1) (fun hHeld => ?_)
  refine tkS 0 hHeld ?_
  try simp only [Act.put, ps1, ps2, ps3]
  refine tkS 5 hHeld ?_
  try simp only [Act.put, ps1, ps2, ps3]
  refine tkS 6 hHeld ?_
  try simp only [Act.put, ps1, ps2, ps3]
  refine tkS 11 hHeld ?_
  try simp only [Act.put, ps1, ps2, ps3]
  refine tkS 12 hHeld ?_
  try simp only [Act.put, ps1, ps2, ps3]
  refine tkS 13 hHeld ?_
  try simp only [Act.put, ps1, ps2, ps3]
  refine tkS 18 hHeld ?_
  try simp only [Act.put, ps1, ps2, ps3]
  refine tkS 19 hHeld ?_
  try simp only [Act.put, ps1, ps2, ps3]
  refine tkS 23 hHeld ?_
  try simp only [Act.put, ps1, ps2, ps3]
  refine wpAnyH_ready (rs := [1]) (by kernel_rfl) (by simp) (AllReadyH.cons (by simp only [List.getElem?_toArray, List.getElem?_cons_succ, List.getElem?_cons_zero]; exact rfl) (fun K hK => ?_) AllReadyH.nil)
  rw [if_pos (by rfl)]
  go_simp
  (with_reducible refine (KN.out _).mono ?_); rintro e w2 ⟨rfl, hb2⟩; have hB2 := bt hB1 hb2; go_wp2_with fail
  refine hK.out _ _ (KC.out _ hB2) (fun hHeld => ?_)
  clear hK K
  try simp only [Act.put, ps1, ps2, ps3]
  refine wpAnyH_ready (rs := [2]) (by kernel_rfl) (by simp) (AllReadyH.cons (by simp only [List.getElem?_toArray, List.getElem?_cons_succ, List.getElem?_cons_zero]; exact rfl) (fun K hK => ?_) AllReadyH.nil)
  rw [if_pos (by rfl)]
  go_simp
  (with_reducible refine (KS.out _).mono ?_); rintro e w3 ⟨rfl, hrd3, hb3⟩; have hB3 := bt hB2 hb3; go_wp2_with fail
  refine hK.out _ _ (KC.out _ hB3) (fun hHeld => ?_)
  clear hK K
  try simp only [Act.put, ps1, ps2, ps3]
  refine wpAnyH_ready (rs := [3]) (by kernel_rfl) (by simp) (AllReadyH.cons (by simp only [List.getElem?_toArray, List.getElem?_cons_succ, List.getElem?_cons_zero]; exact rfl) (fun K hK => ?_) AllReadyH.nil)
  rw [if_pos (by rfl)]
  go_simp
  (with_reducible refine (KW.out _ _ _ hrd3).mono ?_); rintro e w4 ⟨rfl, rfl⟩; go_wp2_with fail
  refine hK.out _ _ (KC.out _ hB3) (fun hHeld => ?_)
  clear hK K
  try simp only [Act.put, ps1, ps2, ps3]
  refine tkS 4 hHeld ?_
  try simp only [Act.put, ps1, ps2, ps3]
  refine wpAnyH_ready (rs := [7]) (by kernel_rfl) (by simp) (AllReadyH.cons (by simp only [List.getElem?_toArray, List.getElem?_cons_succ, List.getElem?_cons_zero]; exact rfl) (fun K hK => ?_) AllReadyH.nil)
  rw [if_pos (by rfl)]
  go_simp
  (with_reducible refine (KD.out _).mono ?_); rintro e w5 ⟨rfl, hb5⟩; have hB5 := bt hB3 hb5; go_wp2_with fail
  refine hK.out _ _ (KC.out _ hB5) (fun hHeld => ?_)
  clear hK K
  try simp only [Act.put, ps1, ps2, ps3]
  refine tkS 8 hHeld ?_
  try simp only [Act.put, ps1, ps2, ps3]
  refine tkS 9 hHeld ?_
  try simp only [Act.put, ps1, ps2, ps3]
  refine wpAnyH_ready (rs := [10]) (by kernel_rfl) (by simp) (AllReadyH.cons (by simp only [List.getElem?_toArray, List.getElem?_cons_succ, List.getElem?_cons_zero]; exact rfl) (fun K hK => ?_) AllReadyH.nil)
  rw [if_pos (by rfl)]
  go_simp
  (with_reducible refine (KM.out _).mono ?_); rintro e w6 ⟨rfl, hrd6, hb6⟩; have hB6 := bt hB5 hb6; go_wp2_with fail
  refine hK.out _ _ (KC.out _ hB6) (fun hHeld => ?_)
  clear hK K
  try simp only [Act.put, ps1, ps2, ps3]
  obtain ⟨gm, om, em, hlm, hcm⟩ := hrd6.str_at (k := j) hj
  cases em
  rw [Nat.zero_add, HMO.out] at hcm
  have kc2 : ∀ w', Below w6.heap.size w6 w' → w'.cell? ⟨w.heap.size, 0, none⟩ = some (.int .i64 Y) ∧ w'.cell? ⟨w.heap.size, 1, none⟩ = some (.int .i64 Mo) ∧ w'.cell? ⟨w.heap.size, 2, none⟩ = some (.int .i64 D) ∧ w'.cell? ⟨w.heap.size, 3, none⟩ = some (.int .i64 h) ∧ w'.cell? ⟨w.heap.size, 4, none⟩ = some (.int .i64 mi) ∧ w'.cell? ⟨w.heap.size, 5, none⟩ = some (.int .i64 s) ∧ w'.cell? ⟨w5.heap.size, j, none⟩ = some (.string mo) ∧ Below W1.heap.size W1 w' ∧ Below w6.heap.size w6 w' := fun w' hq => by obtain ⟨g0, g1, g2, g3, g4, g5, _⟩ := KC.out _ (bt hB6 hq); exact ⟨g0, g1, g2, g3, g4, g5, (hq.cell (p := ⟨w5.heap.size, j, none⟩) hlm).trans hcm, bt hB6 hq, hq⟩
  have KC2 := Lib.hid kc2; clear kc2 hcm hrd6
  refine wpAnyH_strong (S' := (fun w' => w'.cell? ⟨w.heap.size, 0, none⟩ = some (.int .i64 Y) ∧ w'.cell? ⟨w.heap.size, 1, none⟩ = some (.int .i64 Mo) ∧ w'.cell? ⟨w.heap.size, 2, none⟩ = some (.int .i64 D) ∧ w'.cell? ⟨w.heap.size, 3, none⟩ = some (.int .i64 h) ∧ w'.cell? ⟨w.heap.size, 4, none⟩ = some (.int .i64 mi) ∧ w'.cell? ⟨w.heap.size, 5, none⟩ = some (.int .i64 s) ∧ w'.cell? ⟨w5.heap.size, j, none⟩ = some (.string mo) ∧ Below W1.heap.size W1 w' ∧ Below w6.heap.size w6 w')) (fun _ hq => ⟨hq.1, hq.2.1, hq.2.2.1, hq.2.2.2.1, hq.2.2.2.2.1, hq.2.2.2.2.2.1, hq.2.2.2.2.2.2.2.1⟩) ?_
  replace hHeld := KC2.out _ (Below.refl _ w6)
  refine tkS 14 hHeld ?_
  try simp only [Act.put, ps1, ps2, ps3]
  refine tkS 15 hHeld ?_
  try simp only [Act.put, ps1, ps2, ps3]
  refine tkS 16 hHeld ?_
  try simp only [Act.put, ps1, ps2, ps3]
  refine tkS 17 hHeld ?_
  try simp only [Act.put, ps1, ps2, ps3]
  refine wpAnyH_ready (rs := [20]) (by kernel_rfl) (by simp) (AllReadyH.cons (by simp only [List.getElem?_toArray, List.getElem?_cons_succ, List.getElem?_cons_zero]; exact rfl) (fun K hK => ?_) AllReadyH.nil)
  rw [if_pos (by rfl)]
  go_simp
  (with_reducible refine (KY.out _).mono ?_); rintro e w7 ⟨rfl, hb7⟩; have hC7 := hb7; go_wp2_with fail
  refine hK.out _ _ (KC2.out _ hC7) (fun hHeld => ?_)
  clear hK K
  try simp only [Act.put, ps1, ps2, ps3]
  refine tkS 21 hHeld ?_
  try simp only [Act.put, ps1, ps2, ps3]
  refine tkS 22 hHeld ?_
  try simp only [Act.put, ps1, ps2, ps3]
  refine wpAnyH_ready (rs := [24]) (by kernel_rfl) (by simp) (AllReadyH.cons (by simp only [List.getElem?_toArray, List.getElem?_cons_succ, List.getElem?_cons_zero]; exact rfl) (fun K hK => ?_) AllReadyH.nil)
  rw [if_pos (by rfl)]
  go_simp
  (with_reducible refine (KK.out _).mono ?_); rintro e w8 ⟨rfl, hb8⟩; have hC8 := bt hC7 hb8; go_wp2_with fail
  refine hK.out _ _ (KC2.out _ hC8) (fun hHeld => ?_)
  clear hK K
  try simp only [Act.put, ps1, ps2, ps3]
  refine tkS 25 hHeld ?_
  try simp only [Act.put, ps1, ps2, ps3]
  refine tkS 26 hHeld ?_
  try simp only [Act.put, ps1, ps2, ps3]
  refine tkS 27 hHeld ?_
  try simp only [Act.put, ps1, ps2, ps3]
  refine wpAnyH_done (by kernel_rfl) ?_ _
  clear hHeld
  go_wp2
  go_ret
  exact ⟨by rw [← HF.out]; rfl, bt b1 (bt hB6 hC8)⟩
set_option maxHeartbeats 16000000 in
theorem iold_any (Y Mo D h mi s : Int) (hd : rmay ⟨Y, Mo, D, h, mi, s⟩ = true) (w : World) :
    Calls Tryz.prog 105 #[.agg #[.int .i64 Y, .int .i64 Mo, .int .i64 D, .int .i64 h, .int .i64 mi, .int .i64 s]] w fun e w' => e = .returned (.string ⟨(rold ⟨Y, Mo, D, h, mi, s⟩).toArray⟩) ∧ Below w.heap.size w w' := by
  obtain ⟨a1, a2, a3, a4, a5, a6, a7, a8, a9, a10, a11, a12⟩ := rmay_is hd
  simp only at a1 a2 a3 a4 a5 a6 a7 a8 a9 a10 a11 a12
  have hdl := dlong_hi Y Mo
  obtain ⟨W1, hW1⟩ : ∃ W1, w.alloc (.cells #[.int .i64 Y, .int .i64 Mo, .int .i64 D, .int .i64 h, .int .i64 mi, .int .i64 s] 122) = W1 := ⟨_, rfl⟩
  have b1 : Below w.heap.size w W1 := by rw [← hW1]; exact (Below.refl w.heap.size w).alloc (Nat.le_refl _) _
  have x1 : W1.heap[w.heap.size]? = some (.cells #[.int .i64 Y, .int .i64 Mo, .int .i64 D, .int .i64 h, .int .i64 mi, .int .i64 s] 122 (0, 0)) := by rw [← hW1]; exact heap_new w _ _ rfl
  have c0 := (of_heap x1 0).1; have c1 := (of_heap x1 1).1; have c2 := (of_heap x1 2).1; have c3 := (of_heap x1 3).1; have c4 := (of_heap x1 4).1; have c5 := (of_heap x1 5).1; have hEl := (of_heap x1 0).2.2
  simp only [List.getElem?_toArray, List.getElem?_cons_succ, List.getElem?_cons_zero] at c0 c1 c2 c3 c4 c5
  have kc : ∀ w', Below W1.heap.size W1 w' → w'.cell? ⟨w.heap.size, 0, none⟩ = some (.int .i64 Y) ∧ w'.cell? ⟨w.heap.size, 1, none⟩ = some (.int .i64 Mo) ∧ w'.cell? ⟨w.heap.size, 2, none⟩ = some (.int .i64 D) ∧ w'.cell? ⟨w.heap.size, 3, none⟩ = some (.int .i64 h) ∧ w'.cell? ⟨w.heap.size, 4, none⟩ = some (.int .i64 mi) ∧ w'.cell? ⟨w.heap.size, 5, none⟩ = some (.int .i64 s) ∧ Below W1.heap.size W1 w' := fun w' h => ⟨(h.cell (p := ⟨w.heap.size, 0, none⟩) hEl).trans c0, (h.cell (p := ⟨w.heap.size, 1, none⟩) hEl).trans c1, (h.cell (p := ⟨w.heap.size, 2, none⟩) hEl).trans c2, (h.cell (p := ⟨w.heap.size, 3, none⟩) hEl).trans c3, (h.cell (p := ⟨w.heap.size, 4, none⟩) hEl).trans c4, (h.cell (p := ⟨w.heap.size, 5, none⟩) hEl).trans c5, h⟩
  obtain ⟨N, hN, hNb⟩ := rcount_in _ hd
  have kn := fun W => icount_any Y Mo D h mi s ⟨a1, a2⟩ ⟨a3, a4⟩ ⟨a5, by omega⟩ W
  rw [hN] at kn
  have ks := fun W => ilong_any W
  have kw := fun A c W hr => iweekL_any A c N hNb W hr
  have kd := fun W => idig2_any D (by omega) (by omega) W
  have km := fun W => imons_any W
  have ky := fun W => idig2_any Y (by omega) (by omega) W
  have kk := fun W => iclock_any Y Mo D h mi s ⟨a7, by omega, a9, by omega, a11, by omega⟩ W
  obtain ⟨j, hj', hjm, hje⟩ := rmon_is Mo a3 a4
  have hj : j < rmons.length := hj'
  have hmo : rmons[j] = rmon Mo := by rw [hjm, List.getD_eq_getElem?_getD, List.getElem?_eq_getElem hj]; rfl
  have hml : (rmon Mo).length = 3 := by rw [hjm]; exact mon_len j hj'
  have hwl : (rwd rlong N).length ≤ 9 := by
    have hall : ∀ x ∈ rlong, x.length ≤ 9 := by decide
    unfold rwd
    have hi : (((N : Int) + 3) % 7).toNat < rlong.length := by show _ < 7; omega
    rw [List.getD_eq_getElem?_getD, List.getElem?_eq_getElem hi]
    exact hall _ (List.getElem_mem hi)
  have hcl : (rclock ⟨Y, Mo, D, h, mi, s⟩).length = 8 := by unfold rclock; simp [rdig_len]
  have hw1 : IntKind.i64.wrap (Mo - 1) = (j : Int) := by rw [IntKind.wrap_i64]; omega
  have hfin : ((((((((((⟨(rwd rlong N).toArray⟩ : ByteArray) ++ ⟨#[44, 32]⟩) ++ ⟨(rdig 2 D).toArray⟩) ++ ⟨#[45]⟩) ++ ⟨(rmon Mo).toArray⟩) ++ ⟨#[45]⟩) ++ ⟨(rdig 2 Y).toArray⟩) ++ ⟨#[32]⟩) ++ ⟨(rclock ⟨Y, Mo, D, h, mi, s⟩).toArray⟩) ++ ⟨#[32, 71, 77, 84]⟩) = ⟨(rold ⟨Y, Mo, D, h, mi, s⟩).toArray⟩ := by
    apply str_eq
    simp only [app_list]
    unfold rold
    rw [hN]
    simp
  have z1 : (⟨(rwd rlong N).toArray⟩ : ByteArray).size ≤ 9 := by rw [Lib.size_eq]; exact hwl
  have z2 : (⟨(rdig 2 D).toArray⟩ : ByteArray).size ≤ 2 := by rw [Lib.size_eq]; exact Nat.le_of_eq (rdig_len 2 D)
  have z3 : (⟨(rmon Mo).toArray⟩ : ByteArray).size ≤ 3 := by rw [Lib.size_eq]; exact Nat.le_of_eq hml
  have z4 : (⟨(rdig 2 Y).toArray⟩ : ByteArray).size ≤ 4 := by rw [Lib.size_eq]; show (rdig 2 Y).length ≤ 4; rw [rdig_len]; omega
  have z5 : (⟨(rclock ⟨Y, Mo, D, h, mi, s⟩).toArray⟩ : ByteArray).size ≤ 8 := by rw [Lib.size_eq]; exact Nat.le_of_eq hcl
  have hmo2 : (⟨rmons[j].toArray⟩ : ByteArray) = ⟨(rmon Mo).toArray⟩ := by rw [hmo]
  have hrl : rmons.length = 12 := rfl
  have hjb : j < 12 := hj'
  generalize (⟨(rwd rlong N).toArray⟩ : ByteArray) = q1 at *
  generalize (⟨(rdig 2 D).toArray⟩ : ByteArray) = q2 at *
  generalize (⟨(rmon Mo).toArray⟩ : ByteArray) = mo at *
  generalize (⟨(rdig 2 Y).toArray⟩ : ByteArray) = q4 at *
  generalize (⟨(rclock ⟨Y, Mo, D, h, mi, s⟩).toArray⟩ : ByteArray) = q5 at *
  generalize (⟨(rold ⟨Y, Mo, D, h, mi, s⟩).toArray⟩ : ByteArray) = R at *
  have f1 : ¬ (9223372036854775807 < q1.size + 2) := by omega
  have f2 : ¬ (9223372036854775807 < q1.size + 2 + q2.size) := by omega
  have f3 : ¬ (9223372036854775807 < q1.size + 2 + q2.size + 1) := by omega
  have f4 : ¬ (9223372036854775807 < q1.size + 2 + q2.size + 1 + mo.size) := by omega
  have f5 : ¬ (9223372036854775807 < q1.size + 2 + q2.size + 1 + mo.size + 1) := by omega
  have f6 : ¬ (9223372036854775807 < q1.size + 2 + q2.size + 1 + mo.size + 1 + q4.size) := by omega
  have f7 : ¬ (9223372036854775807 < q1.size + 2 + q2.size + 1 + mo.size + 1 + q4.size + 1) := by omega
  have f8 : ¬ (9223372036854775807 < q1.size + 2 + q2.size + 1 + mo.size + 1 + q4.size + 1 + q5.size) := by omega
  have f9 : ¬ (9223372036854775807 < q1.size + 2 + q2.size + 1 + mo.size + 1 + q4.size + 1 + q5.size + 4) := by omega
  have i1 : (0 : Int) ≤ (j : Int) := by omega
  have i2 : (j : Int) < 12 := by omega
  have i4 : ((j : Int)).toNat = j := by simp
  have i5 : decide ((j : Int) < 0) = false := by simp
  have KN := Lib.hid kn; have KS := Lib.hid ks; have KW := Lib.hid kw; have KD := Lib.hid kd; have KM := Lib.hid km; have KY := Lib.hid ky; have KK := Lib.hid kk; have KC := Lib.hid kc; have HW1 := Lib.hid hW1; have HF := Lib.hid hfin; have HMO := Lib.hid hmo2
  have hB1 : Below W1.heap.size W1 W1.drew := (Below.refl _ _).drew
  clear kn ks kw kd km ky kk kc hW1 x1 hfin hmo2 hmo hml hwl hcl hN hd hjm hje hj' c0 c1 c2 c3 c4 c5 hEl hrl
  go_enter Tryz.func105, Tryz.ntmps105
  go_upto_region 1 with (fail)
  rw [HW1.out]
  go_wp2_with fail
  refine wp_region_held_drew (S := (fun w' => w'.cell? ⟨w.heap.size, 0, none⟩ = some (.int .i64 Y) ∧ w'.cell? ⟨w.heap.size, 1, none⟩ = some (.int .i64 Mo) ∧ w'.cell? ⟨w.heap.size, 2, none⟩ = some (.int .i64 D) ∧ w'.cell? ⟨w.heap.size, 3, none⟩ = some (.int .i64 h) ∧ w'.cell? ⟨w.heap.size, 4, none⟩ = some (.int .i64 mi) ∧ w'.cell? ⟨w.heap.size, 5, none⟩ = some (.int .i64 s) ∧ Below W1.heap.size W1 w')) (by kernel_rfl) (KC.out _ hB1) (fun hHeld => ?_)
  refine tkS 0 hHeld ?_
  try simp only [Act.put, ps1, ps2, ps3]
  refine tkS 5 hHeld ?_
  try simp only [Act.put, ps1, ps2, ps3]
  refine tkS 6 hHeld ?_
  try simp only [Act.put, ps1, ps2, ps3]
  refine tkS 11 hHeld ?_
  try simp only [Act.put, ps1, ps2, ps3]
  refine tkS 12 hHeld ?_
  try simp only [Act.put, ps1, ps2, ps3]
  refine tkS 13 hHeld ?_
  try simp only [Act.put, ps1, ps2, ps3]
  refine tkS 18 hHeld ?_
  try simp only [Act.put, ps1, ps2, ps3]
  refine tkS 19 hHeld ?_
  try simp only [Act.put, ps1, ps2, ps3]
  refine tkS 23 hHeld ?_
  try simp only [Act.put, ps1, ps2, ps3]
  refine wpAnyH_ready (rs := [1]) (by kernel_rfl) (by simp) (AllReadyH.cons (by simp only [List.getElem?_toArray, List.getElem?_cons_succ, List.getElem?_cons_zero]; exact rfl) (fun K hK => ?_) AllReadyH.nil)
  rw [if_pos (by rfl)]
  go_simp
  (with_reducible refine (KN.out _).mono ?_); rintro e w2 ⟨rfl, hb2⟩; have hB2 := bt hB1 hb2; go_wp2_with fail
  refine hK.out _ _ (KC.out _ hB2) (fun hHeld => ?_)
  clear hK K
  try simp only [Act.put, ps1, ps2, ps3]
  refine wpAnyH_ready (rs := [2]) (by kernel_rfl) (by simp) (AllReadyH.cons (by simp only [List.getElem?_toArray, List.getElem?_cons_succ, List.getElem?_cons_zero]; exact rfl) (fun K hK => ?_) AllReadyH.nil)
  rw [if_pos (by rfl)]
  go_simp
  (with_reducible refine (KS.out _).mono ?_); rintro e w3 ⟨rfl, hrd3, hb3⟩; have hB3 := bt hB2 hb3; go_wp2_with fail
  refine hK.out _ _ (KC.out _ hB3) (fun hHeld => ?_)
  clear hK K
  try simp only [Act.put, ps1, ps2, ps3]
  refine wpAnyH_ready (rs := [3]) (by kernel_rfl) (by simp) (AllReadyH.cons (by simp only [List.getElem?_toArray, List.getElem?_cons_succ, List.getElem?_cons_zero]; exact rfl) (fun K hK => ?_) AllReadyH.nil)
  rw [if_pos (by rfl)]
  go_simp
  (with_reducible refine (KW.out _ _ _ hrd3).mono ?_); rintro e w4 ⟨rfl, rfl⟩; go_wp2_with fail
  refine hK.out _ _ (KC.out _ hB3) (fun hHeld => ?_)
  clear hK K
  try simp only [Act.put, ps1, ps2, ps3]
  refine tkS 4 hHeld ?_
  try simp only [Act.put, ps1, ps2, ps3]
  refine wpAnyH_ready (rs := [7]) (by kernel_rfl) (by simp) (AllReadyH.cons (by simp only [List.getElem?_toArray, List.getElem?_cons_succ, List.getElem?_cons_zero]; exact rfl) (fun K hK => ?_) AllReadyH.nil)
  rw [if_pos (by rfl)]
  go_simp
  (with_reducible refine (KD.out _).mono ?_); rintro e w5 ⟨rfl, hb5⟩; have hB5 := bt hB3 hb5; go_wp2_with fail
  refine hK.out _ _ (KC.out _ hB5) (fun hHeld => ?_)
  clear hK K
  try simp only [Act.put, ps1, ps2, ps3]
  refine tkS 8 hHeld ?_
  try simp only [Act.put, ps1, ps2, ps3]
  refine tkS 9 hHeld ?_
  try simp only [Act.put, ps1, ps2, ps3]
  refine wpAnyH_ready (rs := [10]) (by kernel_rfl) (by simp) (AllReadyH.cons (by simp only [List.getElem?_toArray, List.getElem?_cons_succ, List.getElem?_cons_zero]; exact rfl) (fun K hK => ?_) AllReadyH.nil)
  rw [if_pos (by rfl)]
  go_simp
  (with_reducible refine (KM.out _).mono ?_); rintro e w6 ⟨rfl, hrd6, hb6⟩; have hB6 := bt hB5 hb6; go_wp2_with fail
  refine hK.out _ _ (KC.out _ hB6) (fun hHeld => ?_)
  clear hK K
  try simp only [Act.put, ps1, ps2, ps3]
  obtain ⟨gm, om, em, hlm, hcm⟩ := hrd6.str_at (k := j) hj
  cases em
  rw [Nat.zero_add, HMO.out] at hcm
  have kc2 : ∀ w', Below w6.heap.size w6 w' → w'.cell? ⟨w.heap.size, 0, none⟩ = some (.int .i64 Y) ∧ w'.cell? ⟨w.heap.size, 1, none⟩ = some (.int .i64 Mo) ∧ w'.cell? ⟨w.heap.size, 2, none⟩ = some (.int .i64 D) ∧ w'.cell? ⟨w.heap.size, 3, none⟩ = some (.int .i64 h) ∧ w'.cell? ⟨w.heap.size, 4, none⟩ = some (.int .i64 mi) ∧ w'.cell? ⟨w.heap.size, 5, none⟩ = some (.int .i64 s) ∧ w'.cell? ⟨w5.heap.size, j, none⟩ = some (.string mo) ∧ Below W1.heap.size W1 w' ∧ Below w6.heap.size w6 w' := fun w' hq => by obtain ⟨g0, g1, g2, g3, g4, g5, _⟩ := KC.out _ (bt hB6 hq); exact ⟨g0, g1, g2, g3, g4, g5, (hq.cell (p := ⟨w5.heap.size, j, none⟩) hlm).trans hcm, bt hB6 hq, hq⟩
  have KC2 := Lib.hid kc2; clear kc2 hcm hrd6
  refine wpAnyH_strong (S' := (fun w' => w'.cell? ⟨w.heap.size, 0, none⟩ = some (.int .i64 Y) ∧ w'.cell? ⟨w.heap.size, 1, none⟩ = some (.int .i64 Mo) ∧ w'.cell? ⟨w.heap.size, 2, none⟩ = some (.int .i64 D) ∧ w'.cell? ⟨w.heap.size, 3, none⟩ = some (.int .i64 h) ∧ w'.cell? ⟨w.heap.size, 4, none⟩ = some (.int .i64 mi) ∧ w'.cell? ⟨w.heap.size, 5, none⟩ = some (.int .i64 s) ∧ w'.cell? ⟨w5.heap.size, j, none⟩ = some (.string mo) ∧ Below W1.heap.size W1 w' ∧ Below w6.heap.size w6 w')) (fun _ hq => ⟨hq.1, hq.2.1, hq.2.2.1, hq.2.2.2.1, hq.2.2.2.2.1, hq.2.2.2.2.2.1, hq.2.2.2.2.2.2.2.1⟩) ?_
  replace hHeld := KC2.out _ (Below.refl _ w6)
  refine tkS 14 hHeld ?_
  try simp only [Act.put, ps1, ps2, ps3]
  refine tkS 15 hHeld ?_
  try simp only [Act.put, ps1, ps2, ps3]
  refine tkS 16 hHeld ?_
  try simp only [Act.put, ps1, ps2, ps3]
  refine tkS 17 hHeld ?_
  try simp only [Act.put, ps1, ps2, ps3]
  refine wpAnyH_ready (rs := [20]) (by kernel_rfl) (by simp) (AllReadyH.cons (by simp only [List.getElem?_toArray, List.getElem?_cons_succ, List.getElem?_cons_zero]; exact rfl) (fun K hK => ?_) AllReadyH.nil)
  rw [if_pos (by rfl)]
  go_simp
  (with_reducible refine (KY.out _).mono ?_); rintro e w7 ⟨rfl, hb7⟩; have hC7 := hb7; go_wp2_with fail
  refine hK.out _ _ (KC2.out _ hC7) (fun hHeld => ?_)
  clear hK K
  try simp only [Act.put, ps1, ps2, ps3]
  refine tkS 21 hHeld ?_
  try simp only [Act.put, ps1, ps2, ps3]
  refine tkS 22 hHeld ?_
  try simp only [Act.put, ps1, ps2, ps3]
  refine wpAnyH_ready (rs := [24]) (by kernel_rfl) (by simp) (AllReadyH.cons (by simp only [List.getElem?_toArray, List.getElem?_cons_succ, List.getElem?_cons_zero]; exact rfl) (fun K hK => ?_) AllReadyH.nil)
  rw [if_pos (by rfl)]
  go_simp
  (with_reducible refine (KK.out _).mono ?_); rintro e w8 ⟨rfl, hb8⟩; have hC8 := bt hC7 hb8; go_wp2_with fail
  refine hK.out _ _ (KC2.out _ hC8) (fun hHeld => ?_)
  clear hK K
  try simp only [Act.put, ps1, ps2, ps3]
  refine tkS 25 hHeld ?_
  try simp only [Act.put, ps1, ps2, ps3]
  refine tkS 26 hHeld ?_
  try simp only [Act.put, ps1, ps2, ps3]
  refine tkS 27 hHeld ?_
  try simp only [Act.put, ps1, ps2, ps3]
  refine wpAnyH_done (by kernel_rfl) ?_ _
  clear hHeld
  go_wp2
  go_ret
  exact ⟨by rw [← HF.out]; rfl, bt b1 (bt hB6 hC8)⟩
end Go.Proofs.YtcgdcbnhpbokfaaGreatDoor
/- The document's dates: the walk of Plain (printed by wip/tools/rwalk9.py). -/
namespace Go.Proofs.YtcgdcbnhpbokfaaGreatDoor
open Go.RowKit
set_option maxRecDepth 100000

set_option maxHeartbeats 16000000 in
theorem iplainF_any (Y Mo D h mi s : Int) (hd : rmay ⟨Y, Mo, D, h, mi, s⟩ = true) (w : World) :
    Calls Tryz.prog 106 #[.agg #[.int .i64 Y, .int .i64 Mo, .int .i64 D, .int .i64 h, .int .i64 mi, .int .i64 s], .bool false] w fun e w' => e = .returned (.string ⟨(rplain ⟨Y, Mo, D, h, mi, s⟩ false).toArray⟩) ∧ Below w.heap.size w w' := by
  obtain ⟨a1, a2, a3, a4, a5, a6, a7, a8, a9, a10, a11, a12⟩ := rmay_is hd
  simp only at a1 a2 a3 a4 a5 a6 a7 a8 a9 a10 a11 a12
  have hdl := dlong_hi Y Mo
  obtain ⟨W1, hW1⟩ : ∃ W1, w.alloc (.cells #[.int .i64 Y, .int .i64 Mo, .int .i64 D, .int .i64 h, .int .i64 mi, .int .i64 s] 122) = W1 := ⟨_, rfl⟩
  have b1 : Below w.heap.size w W1 := by rw [← hW1]; exact (Below.refl w.heap.size w).alloc (Nat.le_refl _) _
  have x1 : W1.heap[w.heap.size]? = some (.cells #[.int .i64 Y, .int .i64 Mo, .int .i64 D, .int .i64 h, .int .i64 mi, .int .i64 s] 122 (0, 0)) := by rw [← hW1]; exact heap_new w _ _ rfl
  have c0 := (of_heap x1 0).1; have c1 := (of_heap x1 1).1; have c2 := (of_heap x1 2).1; have c3 := (of_heap x1 3).1; have c4 := (of_heap x1 4).1; have c5 := (of_heap x1 5).1; have hEl := (of_heap x1 0).2.2
  simp only [List.getElem?_toArray, List.getElem?_cons_succ, List.getElem?_cons_zero] at c0 c1 c2 c3 c4 c5
  have kc : ∀ w', Below W1.heap.size W1 w' → w'.cell? ⟨w.heap.size, 0, none⟩ = some (.int .i64 Y) ∧ w'.cell? ⟨w.heap.size, 1, none⟩ = some (.int .i64 Mo) ∧ w'.cell? ⟨w.heap.size, 2, none⟩ = some (.int .i64 D) ∧ w'.cell? ⟨w.heap.size, 3, none⟩ = some (.int .i64 h) ∧ w'.cell? ⟨w.heap.size, 4, none⟩ = some (.int .i64 mi) ∧ w'.cell? ⟨w.heap.size, 5, none⟩ = some (.int .i64 s) ∧ Below W1.heap.size W1 w' := fun w' h => ⟨(h.cell (p := ⟨w.heap.size, 0, none⟩) hEl).trans c0, (h.cell (p := ⟨w.heap.size, 1, none⟩) hEl).trans c1, (h.cell (p := ⟨w.heap.size, 2, none⟩) hEl).trans c2, (h.cell (p := ⟨w.heap.size, 3, none⟩) hEl).trans c3, (h.cell (p := ⟨w.heap.size, 4, none⟩) hEl).trans c4, (h.cell (p := ⟨w.heap.size, 5, none⟩) hEl).trans c5, h⟩
  obtain ⟨N, hN, hNb⟩ := rcount_in _ hd
  have kn := fun W => icount_any Y Mo D h mi s ⟨a1, a2⟩ ⟨a3, a4⟩ ⟨a5, by omega⟩ W
  rw [hN] at kn
  have ks := fun W => ishort_any W
  have kw := fun A c W hr => iweekS_any A c N hNb W hr
  have kd := fun W => idig2_any D (by omega) (by omega) W
  have kd1 := fun W => idig1_any D (by omega) (by omega) W
  have km := fun W => imons_any W
  have ky := fun W => idig4_any Y (by omega) (by omega) W
  have kk := fun W => iclock_any Y Mo D h mi s ⟨a7, by omega, a9, by omega, a11, by omega⟩ W
  obtain ⟨j, hj', hjm, hje⟩ := rmon_is Mo a3 a4
  have hj : j < rmons.length := hj'
  have hmo : rmons[j] = rmon Mo := by rw [hjm, List.getD_eq_getElem?_getD, List.getElem?_eq_getElem hj]; rfl
  have hml : (rmon Mo).length = 3 := by rw [hjm]; exact mon_len j hj'
  have hwl : (rwd rshort N).length ≤ 3 := by
    have hall : ∀ x ∈ rshort, x.length ≤ 3 := by decide
    unfold rwd
    have hi : (((N : Int) + 3) % 7).toNat < rshort.length := by show _ < 7; omega
    rw [List.getD_eq_getElem?_getD, List.getElem?_eq_getElem hi]
    exact hall _ (List.getElem_mem hi)
  have hcl : (rclock ⟨Y, Mo, D, h, mi, s⟩).length = 8 := by unfold rclock; simp [rdig_len]
  have hw1 : IntKind.i64.wrap (Mo - 1) = (j : Int) := by rw [IntKind.wrap_i64]; omega
  have hfin : ((((((((((⟨(rwd rshort N).toArray⟩ : ByteArray) ++ ⟨#[32]⟩) ++ ⟨(rmon Mo).toArray⟩) ++ ⟨#[32]⟩) ++ ⟨(rdig 2 D).toArray⟩) ++ ⟨#[32]⟩) ++ ⟨(rclock ⟨Y, Mo, D, h, mi, s⟩).toArray⟩) ++ ⟨#[32]⟩) ++ ⟨(rdig 4 Y).toArray⟩)) = ⟨(rplain ⟨Y, Mo, D, h, mi, s⟩ false).toArray⟩ := by
    apply str_eq
    simp only [app_list]
    unfold rplain
    rw [hN]
    simp
  have z1 : (⟨(rwd rshort N).toArray⟩ : ByteArray).size ≤ 3 := by rw [Lib.size_eq]; exact hwl
  have z2 : (⟨(rdig 2 D).toArray⟩ : ByteArray).size ≤ 2 := by rw [Lib.size_eq]; exact Nat.le_of_eq (rdig_len 2 D)
  have z6 : (⟨(rdig 1 D).toArray⟩ : ByteArray).size ≤ 1 := by rw [Lib.size_eq]; exact Nat.le_of_eq (rdig_len 1 D)
  have z3 : (⟨(rmon Mo).toArray⟩ : ByteArray).size ≤ 3 := by rw [Lib.size_eq]; exact Nat.le_of_eq hml
  have z4 : (⟨(rdig 4 Y).toArray⟩ : ByteArray).size ≤ 4 := by rw [Lib.size_eq]; exact Nat.le_of_eq (rdig_len 4 Y)
  have z5 : (⟨(rclock ⟨Y, Mo, D, h, mi, s⟩).toArray⟩ : ByteArray).size ≤ 8 := by rw [Lib.size_eq]; exact Nat.le_of_eq hcl
  have hmo2 : (⟨rmons[j].toArray⟩ : ByteArray) = ⟨(rmon Mo).toArray⟩ := by rw [hmo]
  have hrl : rmons.length = 12 := rfl
  have hjb : j < 12 := hj'
  generalize (⟨(rwd rshort N).toArray⟩ : ByteArray) = q1 at *
  generalize (⟨(rdig 2 D).toArray⟩ : ByteArray) = q2 at *
  generalize (⟨(rdig 1 D).toArray⟩ : ByteArray) = q3 at *
  generalize (⟨(rmon Mo).toArray⟩ : ByteArray) = mo at *
  generalize (⟨(rdig 4 Y).toArray⟩ : ByteArray) = q4 at *
  generalize (⟨(rclock ⟨Y, Mo, D, h, mi, s⟩).toArray⟩ : ByteArray) = q5 at *
  generalize (⟨(rplain ⟨Y, Mo, D, h, mi, s⟩ false).toArray⟩ : ByteArray) = R at *
  have f1 : ¬ (9223372036854775807 < q1.size + 1) := by omega
  have f2 : ¬ (9223372036854775807 < q1.size + 1 + mo.size) := by omega
  have f3 : ¬ (9223372036854775807 < q1.size + 1 + mo.size + 1) := by omega
  have f4 : ¬ (9223372036854775807 < q1.size + 1 + mo.size + 1 + q2.size) := by omega
  have f5 : ¬ (9223372036854775807 < q1.size + 1 + mo.size + 1 + q2.size + 1) := by omega
  have f6 : ¬ (9223372036854775807 < q1.size + 1 + mo.size + 1 + q2.size + 1 + q5.size) := by omega
  have f7 : ¬ (9223372036854775807 < q1.size + 1 + mo.size + 1 + q2.size + 1 + q5.size + 1) := by omega
  have f8 : ¬ (9223372036854775807 < q1.size + 1 + mo.size + 1 + q2.size + 1 + q5.size + 1 + q4.size) := by omega
  have i1 : (0 : Int) ≤ (j : Int) := by omega
  have i2 : (j : Int) < 12 := by omega
  have i4 : ((j : Int)).toNat = j := by simp
  have i5 : decide ((j : Int) < 0) = false := by simp
  have KN := Lib.hid kn; have KS := Lib.hid ks; have KW := Lib.hid kw; have KD := Lib.hid kd; have KD1 := Lib.hid kd1; have KM := Lib.hid km; have KY := Lib.hid ky; have KK := Lib.hid kk; have KC := Lib.hid kc; have HW1 := Lib.hid hW1; have HF := Lib.hid hfin; have HMO := Lib.hid hmo2
  clear kn ks kw kd kd1 km ky kk kc hW1 x1 hfin hmo2 hmo hml hwl hcl hN hd hjm hje hj' hrl
  go_enter Tryz.func106, Tryz.ntmps106
  go_upto_region 1 with (fail)
  rw [HW1.out]
  go_wp2_with fail
  (with_reducible refine (KD.out _).mono ?_)
  rintro e wd ⟨rfl, hbd⟩
  have hBd := hbd
  go_wp2_with fail
  clear c0 c1 c2 c3 c4 c5
  refine wp_region_held_drew (S := (fun w' => w'.cell? ⟨w.heap.size, 0, none⟩ = some (.int .i64 Y) ∧ w'.cell? ⟨w.heap.size, 1, none⟩ = some (.int .i64 Mo) ∧ w'.cell? ⟨w.heap.size, 2, none⟩ = some (.int .i64 D) ∧ w'.cell? ⟨w.heap.size, 3, none⟩ = some (.int .i64 h) ∧ w'.cell? ⟨w.heap.size, 4, none⟩ = some (.int .i64 mi) ∧ w'.cell? ⟨w.heap.size, 5, none⟩ = some (.int .i64 s) ∧ Below W1.heap.size W1 w')) (by kernel_rfl) (KC.out _ hBd.drew) (fun hHeld => ?_)
  refine tkS 0 hHeld ?_
  try simp only [Act.put, ps1, ps2, ps3]
  refine tkS 6 hHeld ?_
  try simp only [Act.put, ps1, ps2, ps3]
  refine tkS 7 hHeld ?_
  try simp only [Act.put, ps1, ps2, ps3]
  refine tkS 8 hHeld ?_
  try simp only [Act.put, ps1, ps2, ps3]
  refine tkS 13 hHeld ?_
  try simp only [Act.put, ps1, ps2, ps3]
  refine tkS 16 hHeld ?_
  try simp only [Act.put, ps1, ps2, ps3]
  refine tkS 20 hHeld ?_
  try simp only [Act.put, ps1, ps2, ps3]
  refine tkS 21 hHeld ?_
  try simp only [Act.put, ps1, ps2, ps3]
  refine wpAnyH_ready (rs := [1]) (by kernel_rfl) (by simp) (AllReadyH.cons (by simp only [List.getElem?_toArray, List.getElem?_cons_succ, List.getElem?_cons_zero]; exact rfl) (fun K hK => ?_) AllReadyH.nil)
  rw [if_pos (by rfl)]
  go_simp
  (with_reducible refine (KN.out _).mono ?_); rintro e w2 ⟨rfl, hb2⟩; have hB2 := bt hBd.drew hb2; go_wp2_with fail
  refine hK.out _ _ (KC.out _ hB2) (fun hHeld => ?_)
  clear hK K
  try simp only [Act.put, ps1, ps2, ps3]
  refine wpAnyH_ready (rs := [2]) (by kernel_rfl) (by simp) (AllReadyH.cons (by simp only [List.getElem?_toArray, List.getElem?_cons_succ, List.getElem?_cons_zero]; exact rfl) (fun K hK => ?_) AllReadyH.nil)
  rw [if_pos (by rfl)]
  go_simp
  (with_reducible refine (KS.out _).mono ?_); rintro e w3 ⟨rfl, hrd3, hb3⟩; have hB3 := bt hB2 hb3; go_wp2_with fail
  refine hK.out _ _ (KC.out _ hB3) (fun hHeld => ?_)
  clear hK K
  try simp only [Act.put, ps1, ps2, ps3]
  refine wpAnyH_ready (rs := [3]) (by kernel_rfl) (by simp) (AllReadyH.cons (by simp only [List.getElem?_toArray, List.getElem?_cons_succ, List.getElem?_cons_zero]; exact rfl) (fun K hK => ?_) AllReadyH.nil)
  rw [if_pos (by rfl)]
  go_simp
  (with_reducible refine (KW.out _ _ _ hrd3).mono ?_); rintro e w5 ⟨rfl, rfl⟩; go_wp2_with fail
  refine hK.out _ _ (KC.out _ hB3) (fun hHeld => ?_)
  clear hK K
  try simp only [Act.put, ps1, ps2, ps3]
  refine tkS 4 hHeld ?_
  try simp only [Act.put, ps1, ps2, ps3]
  refine wpAnyH_ready (rs := [5]) (by kernel_rfl) (by simp) (AllReadyH.cons (by simp only [List.getElem?_toArray, List.getElem?_cons_succ, List.getElem?_cons_zero]; exact rfl) (fun K hK => ?_) AllReadyH.nil)
  rw [if_pos (by rfl)]
  go_simp
  (with_reducible refine (KM.out _).mono ?_); rintro e w6 ⟨rfl, hrd6, hb6⟩; have hB6 := bt hB3 hb6; go_wp2_with fail
  refine hK.out _ _ (KC.out _ hB6) (fun hHeld => ?_)
  clear hK K
  try simp only [Act.put, ps1, ps2, ps3]
  obtain ⟨gm, om, em, hlm, hcm⟩ := hrd6.str_at (k := j) hj
  cases em
  rw [Nat.zero_add, HMO.out] at hcm
  have kc2 : ∀ w', Below w6.heap.size w6 w' → w'.cell? ⟨w.heap.size, 0, none⟩ = some (.int .i64 Y) ∧ w'.cell? ⟨w.heap.size, 1, none⟩ = some (.int .i64 Mo) ∧ w'.cell? ⟨w.heap.size, 2, none⟩ = some (.int .i64 D) ∧ w'.cell? ⟨w.heap.size, 3, none⟩ = some (.int .i64 h) ∧ w'.cell? ⟨w.heap.size, 4, none⟩ = some (.int .i64 mi) ∧ w'.cell? ⟨w.heap.size, 5, none⟩ = some (.int .i64 s) ∧ w'.cell? ⟨w5.heap.size, j, none⟩ = some (.string mo) ∧ Below W1.heap.size W1 w' ∧ Below w6.heap.size w6 w' := fun w' hq => by obtain ⟨g0, g1, g2, g3, g4, g5, _⟩ := KC.out _ (bt hB6 hq); exact ⟨g0, g1, g2, g3, g4, g5, (hq.cell (p := ⟨w5.heap.size, j, none⟩) hlm).trans hcm, bt hB6 hq, hq⟩
  have KC2 := Lib.hid kc2; clear kc2 hcm hrd6
  refine wpAnyH_strong (S' := (fun w' => w'.cell? ⟨w.heap.size, 0, none⟩ = some (.int .i64 Y) ∧ w'.cell? ⟨w.heap.size, 1, none⟩ = some (.int .i64 Mo) ∧ w'.cell? ⟨w.heap.size, 2, none⟩ = some (.int .i64 D) ∧ w'.cell? ⟨w.heap.size, 3, none⟩ = some (.int .i64 h) ∧ w'.cell? ⟨w.heap.size, 4, none⟩ = some (.int .i64 mi) ∧ w'.cell? ⟨w.heap.size, 5, none⟩ = some (.int .i64 s) ∧ w'.cell? ⟨w5.heap.size, j, none⟩ = some (.string mo) ∧ Below W1.heap.size W1 w' ∧ Below w6.heap.size w6 w')) (fun _ hq => ⟨hq.1, hq.2.1, hq.2.2.1, hq.2.2.2.1, hq.2.2.2.2.1, hq.2.2.2.2.2.1, hq.2.2.2.2.2.2.2.1⟩) ?_
  replace hHeld := KC2.out _ (Below.refl _ w6)
  refine tkS 9 hHeld ?_
  try simp only [Act.put, ps1, ps2, ps3]
  refine tkS 10 hHeld ?_
  try simp only [Act.put, ps1, ps2, ps3]
  refine tkS 11 hHeld ?_
  try simp only [Act.put, ps1, ps2, ps3]
  refine tkS 12 hHeld ?_
  try simp only [Act.put, ps1, ps2, ps3]
  refine tkS 14 hHeld ?_
  try simp only [Act.put, ps1, ps2, ps3]
  refine tkS 15 hHeld ?_
  try simp only [Act.put, ps1, ps2, ps3]
  refine wpAnyH_ready (rs := [17]) (by kernel_rfl) (by simp) (AllReadyH.cons (by simp only [List.getElem?_toArray, List.getElem?_cons_succ, List.getElem?_cons_zero]; exact rfl) (fun K hK => ?_) AllReadyH.nil)
  rw [if_pos (by rfl)]
  go_simp
  (with_reducible refine (KK.out _).mono ?_); rintro e w7 ⟨rfl, hb7⟩; have hC7 := hb7; go_wp2_with fail
  refine hK.out _ _ (KC2.out _ hC7) (fun hHeld => ?_)
  clear hK K
  try simp only [Act.put, ps1, ps2, ps3]
  refine tkS 18 hHeld ?_
  try simp only [Act.put, ps1, ps2, ps3]
  refine tkS 19 hHeld ?_
  try simp only [Act.put, ps1, ps2, ps3]
  refine wpAnyH_ready (rs := [22]) (by kernel_rfl) (by simp) (AllReadyH.cons (by simp only [List.getElem?_toArray, List.getElem?_cons_succ, List.getElem?_cons_zero]; exact rfl) (fun K hK => ?_) AllReadyH.nil)
  rw [if_pos (by rfl)]
  go_simp
  (with_reducible refine (KY.out _).mono ?_); rintro e w8 ⟨rfl, hb8⟩; have hC8 := bt hC7 hb8; go_wp2_with fail
  refine hK.out _ _ (KC2.out _ hC8) (fun hHeld => ?_)
  clear hK K
  try simp only [Act.put, ps1, ps2, ps3]
  refine tkS 23 hHeld ?_
  try simp only [Act.put, ps1, ps2, ps3]
  refine tkS 24 hHeld ?_
  try simp only [Act.put, ps1, ps2, ps3]
  refine wpAnyH_done (by kernel_rfl) ?_ _
  clear hHeld
  go_wp2
  go_ret
  exact ⟨by rw [← HF.out]; rfl, bt b1 (bt hB6 hC8)⟩
set_option maxHeartbeats 16000000 in
theorem iplainT_any (Y Mo D h mi s : Int) (hd : rmay ⟨Y, Mo, D, h, mi, s⟩ = true) (w : World) :
    Calls Tryz.prog 106 #[.agg #[.int .i64 Y, .int .i64 Mo, .int .i64 D, .int .i64 h, .int .i64 mi, .int .i64 s], .bool true] w fun e w' => e = .returned (.string ⟨(rplain ⟨Y, Mo, D, h, mi, s⟩ true).toArray⟩) ∧ Below w.heap.size w w' := by
  obtain ⟨a1, a2, a3, a4, a5, a6, a7, a8, a9, a10, a11, a12⟩ := rmay_is hd
  simp only at a1 a2 a3 a4 a5 a6 a7 a8 a9 a10 a11 a12
  have hdl := dlong_hi Y Mo
  obtain ⟨W1, hW1⟩ : ∃ W1, w.alloc (.cells #[.int .i64 Y, .int .i64 Mo, .int .i64 D, .int .i64 h, .int .i64 mi, .int .i64 s] 122) = W1 := ⟨_, rfl⟩
  have b1 : Below w.heap.size w W1 := by rw [← hW1]; exact (Below.refl w.heap.size w).alloc (Nat.le_refl _) _
  have x1 : W1.heap[w.heap.size]? = some (.cells #[.int .i64 Y, .int .i64 Mo, .int .i64 D, .int .i64 h, .int .i64 mi, .int .i64 s] 122 (0, 0)) := by rw [← hW1]; exact heap_new w _ _ rfl
  have c0 := (of_heap x1 0).1; have c1 := (of_heap x1 1).1; have c2 := (of_heap x1 2).1; have c3 := (of_heap x1 3).1; have c4 := (of_heap x1 4).1; have c5 := (of_heap x1 5).1; have hEl := (of_heap x1 0).2.2
  simp only [List.getElem?_toArray, List.getElem?_cons_succ, List.getElem?_cons_zero] at c0 c1 c2 c3 c4 c5
  have kc : ∀ w', Below W1.heap.size W1 w' → w'.cell? ⟨w.heap.size, 0, none⟩ = some (.int .i64 Y) ∧ w'.cell? ⟨w.heap.size, 1, none⟩ = some (.int .i64 Mo) ∧ w'.cell? ⟨w.heap.size, 2, none⟩ = some (.int .i64 D) ∧ w'.cell? ⟨w.heap.size, 3, none⟩ = some (.int .i64 h) ∧ w'.cell? ⟨w.heap.size, 4, none⟩ = some (.int .i64 mi) ∧ w'.cell? ⟨w.heap.size, 5, none⟩ = some (.int .i64 s) ∧ Below W1.heap.size W1 w' := fun w' h => ⟨(h.cell (p := ⟨w.heap.size, 0, none⟩) hEl).trans c0, (h.cell (p := ⟨w.heap.size, 1, none⟩) hEl).trans c1, (h.cell (p := ⟨w.heap.size, 2, none⟩) hEl).trans c2, (h.cell (p := ⟨w.heap.size, 3, none⟩) hEl).trans c3, (h.cell (p := ⟨w.heap.size, 4, none⟩) hEl).trans c4, (h.cell (p := ⟨w.heap.size, 5, none⟩) hEl).trans c5, h⟩
  obtain ⟨N, hN, hNb⟩ := rcount_in _ hd
  have kn := fun W => icount_any Y Mo D h mi s ⟨a1, a2⟩ ⟨a3, a4⟩ ⟨a5, by omega⟩ W
  rw [hN] at kn
  have ks := fun W => ishort_any W
  have kw := fun A c W hr => iweekS_any A c N hNb W hr
  have kd := fun W => idig2_any D (by omega) (by omega) W
  have kd1 := fun W => idig1_any D (by omega) (by omega) W
  have km := fun W => imons_any W
  have ky := fun W => idig4_any Y (by omega) (by omega) W
  have kk := fun W => iclock_any Y Mo D h mi s ⟨a7, by omega, a9, by omega, a11, by omega⟩ W
  obtain ⟨j, hj', hjm, hje⟩ := rmon_is Mo a3 a4
  have hj : j < rmons.length := hj'
  have hmo : rmons[j] = rmon Mo := by rw [hjm, List.getD_eq_getElem?_getD, List.getElem?_eq_getElem hj]; rfl
  have hml : (rmon Mo).length = 3 := by rw [hjm]; exact mon_len j hj'
  have hwl : (rwd rshort N).length ≤ 3 := by
    have hall : ∀ x ∈ rshort, x.length ≤ 3 := by decide
    unfold rwd
    have hi : (((N : Int) + 3) % 7).toNat < rshort.length := by show _ < 7; omega
    rw [List.getD_eq_getElem?_getD, List.getElem?_eq_getElem hi]
    exact hall _ (List.getElem_mem hi)
  have hcl : (rclock ⟨Y, Mo, D, h, mi, s⟩).length = 8 := by unfold rclock; simp [rdig_len]
  have hw1 : IntKind.i64.wrap (Mo - 1) = (j : Int) := by rw [IntKind.wrap_i64]; omega
  have hfin : ((((((((((⟨(rwd rshort N).toArray⟩ : ByteArray) ++ ⟨#[32]⟩) ++ ⟨(rmon Mo).toArray⟩) ++ ⟨#[32]⟩) ++ (⟨#[32]⟩ ++ ⟨(rdig 1 D).toArray⟩)) ++ ⟨#[32]⟩) ++ ⟨(rclock ⟨Y, Mo, D, h, mi, s⟩).toArray⟩) ++ ⟨#[32]⟩) ++ ⟨(rdig 4 Y).toArray⟩)) = ⟨(rplain ⟨Y, Mo, D, h, mi, s⟩ true).toArray⟩ := by
    apply str_eq
    simp only [app_list]
    unfold rplain
    rw [hN]
    simp
  have z1 : (⟨(rwd rshort N).toArray⟩ : ByteArray).size ≤ 3 := by rw [Lib.size_eq]; exact hwl
  have z2 : (⟨(rdig 2 D).toArray⟩ : ByteArray).size ≤ 2 := by rw [Lib.size_eq]; exact Nat.le_of_eq (rdig_len 2 D)
  have z6 : (⟨(rdig 1 D).toArray⟩ : ByteArray).size ≤ 1 := by rw [Lib.size_eq]; exact Nat.le_of_eq (rdig_len 1 D)
  have z3 : (⟨(rmon Mo).toArray⟩ : ByteArray).size ≤ 3 := by rw [Lib.size_eq]; exact Nat.le_of_eq hml
  have z4 : (⟨(rdig 4 Y).toArray⟩ : ByteArray).size ≤ 4 := by rw [Lib.size_eq]; exact Nat.le_of_eq (rdig_len 4 Y)
  have z5 : (⟨(rclock ⟨Y, Mo, D, h, mi, s⟩).toArray⟩ : ByteArray).size ≤ 8 := by rw [Lib.size_eq]; exact Nat.le_of_eq hcl
  have hmo2 : (⟨rmons[j].toArray⟩ : ByteArray) = ⟨(rmon Mo).toArray⟩ := by rw [hmo]
  have hrl : rmons.length = 12 := rfl
  have hjb : j < 12 := hj'
  generalize (⟨(rwd rshort N).toArray⟩ : ByteArray) = q1 at *
  generalize (⟨(rdig 2 D).toArray⟩ : ByteArray) = q2 at *
  generalize (⟨(rdig 1 D).toArray⟩ : ByteArray) = q3 at *
  generalize (⟨(rmon Mo).toArray⟩ : ByteArray) = mo at *
  generalize (⟨(rdig 4 Y).toArray⟩ : ByteArray) = q4 at *
  generalize (⟨(rclock ⟨Y, Mo, D, h, mi, s⟩).toArray⟩ : ByteArray) = q5 at *
  generalize (⟨(rplain ⟨Y, Mo, D, h, mi, s⟩ true).toArray⟩ : ByteArray) = R at *
  have f1 : ¬ (9223372036854775807 < q1.size + 1) := by omega
  have f2 : ¬ (9223372036854775807 < q1.size + 1 + mo.size) := by omega
  have f3 : ¬ (9223372036854775807 < q1.size + 1 + mo.size + 1) := by omega
  have f4 : ¬ (9223372036854775807 < q1.size + 1 + mo.size + 1 + (1 + q3.size)) := by omega
  have f5 : ¬ (9223372036854775807 < q1.size + 1 + mo.size + 1 + (1 + q3.size) + 1) := by omega
  have f6 : ¬ (9223372036854775807 < q1.size + 1 + mo.size + 1 + (1 + q3.size) + 1 + q5.size) := by omega
  have f7 : ¬ (9223372036854775807 < q1.size + 1 + mo.size + 1 + (1 + q3.size) + 1 + q5.size + 1) := by omega
  have f8 : ¬ (9223372036854775807 < q1.size + 1 + mo.size + 1 + (1 + q3.size) + 1 + q5.size + 1 + q4.size) := by omega
  have f9 : ¬ (9223372036854775807 < 1 + q3.size) := by omega
  have i1 : (0 : Int) ≤ (j : Int) := by omega
  have i2 : (j : Int) < 12 := by omega
  have i4 : ((j : Int)).toNat = j := by simp
  have i5 : decide ((j : Int) < 0) = false := by simp
  have KN := Lib.hid kn; have KS := Lib.hid ks; have KW := Lib.hid kw; have KD := Lib.hid kd; have KD1 := Lib.hid kd1; have KM := Lib.hid km; have KY := Lib.hid ky; have KK := Lib.hid kk; have KC := Lib.hid kc; have HW1 := Lib.hid hW1; have HF := Lib.hid hfin; have HMO := Lib.hid hmo2
  clear kn ks kw kd kd1 km ky kk kc hW1 x1 hfin hmo2 hmo hml hwl hcl hN hd hjm hje hj' hrl
  go_enter Tryz.func106, Tryz.ntmps106
  go_upto_region 1 with (fail)
  rw [HW1.out]
  go_wp2_with fail
  (with_reducible refine (KD.out _).mono ?_)
  rintro e wd ⟨rfl, hbd⟩
  obtain ⟨g0, g1, g2, g3, g4, g5, _⟩ := KC.out wd hbd
  go_wp2_with fail
  (with_reducible refine (KD1.out _).mono ?_)
  rintro e wx ⟨rfl, hbx⟩
  have hBd := bt hbd hbx
  clear g0 g1 g2 g3 g4 g5
  go_wp2_with fail
  clear c0 c1 c2 c3 c4 c5
  refine wp_region_held_drew (S := (fun w' => w'.cell? ⟨w.heap.size, 0, none⟩ = some (.int .i64 Y) ∧ w'.cell? ⟨w.heap.size, 1, none⟩ = some (.int .i64 Mo) ∧ w'.cell? ⟨w.heap.size, 2, none⟩ = some (.int .i64 D) ∧ w'.cell? ⟨w.heap.size, 3, none⟩ = some (.int .i64 h) ∧ w'.cell? ⟨w.heap.size, 4, none⟩ = some (.int .i64 mi) ∧ w'.cell? ⟨w.heap.size, 5, none⟩ = some (.int .i64 s) ∧ Below W1.heap.size W1 w')) (by kernel_rfl) (KC.out _ hBd.drew) (fun hHeld => ?_)
  refine tkS 0 hHeld ?_
  try simp only [Act.put, ps1, ps2, ps3]
  refine tkS 6 hHeld ?_
  try simp only [Act.put, ps1, ps2, ps3]
  refine tkS 7 hHeld ?_
  try simp only [Act.put, ps1, ps2, ps3]
  refine tkS 8 hHeld ?_
  try simp only [Act.put, ps1, ps2, ps3]
  refine tkS 13 hHeld ?_
  try simp only [Act.put, ps1, ps2, ps3]
  refine tkS 16 hHeld ?_
  try simp only [Act.put, ps1, ps2, ps3]
  refine tkS 20 hHeld ?_
  try simp only [Act.put, ps1, ps2, ps3]
  refine tkS 21 hHeld ?_
  try simp only [Act.put, ps1, ps2, ps3]
  refine wpAnyH_ready (rs := [1]) (by kernel_rfl) (by simp) (AllReadyH.cons (by simp only [List.getElem?_toArray, List.getElem?_cons_succ, List.getElem?_cons_zero]; exact rfl) (fun K hK => ?_) AllReadyH.nil)
  rw [if_pos (by rfl)]
  go_simp
  (with_reducible refine (KN.out _).mono ?_); rintro e w2 ⟨rfl, hb2⟩; have hB2 := bt hBd.drew hb2; go_wp2_with fail
  refine hK.out _ _ (KC.out _ hB2) (fun hHeld => ?_)
  clear hK K
  try simp only [Act.put, ps1, ps2, ps3]
  refine wpAnyH_ready (rs := [2]) (by kernel_rfl) (by simp) (AllReadyH.cons (by simp only [List.getElem?_toArray, List.getElem?_cons_succ, List.getElem?_cons_zero]; exact rfl) (fun K hK => ?_) AllReadyH.nil)
  rw [if_pos (by rfl)]
  go_simp
  (with_reducible refine (KS.out _).mono ?_); rintro e w3 ⟨rfl, hrd3, hb3⟩; have hB3 := bt hB2 hb3; go_wp2_with fail
  refine hK.out _ _ (KC.out _ hB3) (fun hHeld => ?_)
  clear hK K
  try simp only [Act.put, ps1, ps2, ps3]
  refine wpAnyH_ready (rs := [3]) (by kernel_rfl) (by simp) (AllReadyH.cons (by simp only [List.getElem?_toArray, List.getElem?_cons_succ, List.getElem?_cons_zero]; exact rfl) (fun K hK => ?_) AllReadyH.nil)
  rw [if_pos (by rfl)]
  go_simp
  (with_reducible refine (KW.out _ _ _ hrd3).mono ?_); rintro e w5 ⟨rfl, rfl⟩; go_wp2_with fail
  refine hK.out _ _ (KC.out _ hB3) (fun hHeld => ?_)
  clear hK K
  try simp only [Act.put, ps1, ps2, ps3]
  refine tkS 4 hHeld ?_
  try simp only [Act.put, ps1, ps2, ps3]
  refine wpAnyH_ready (rs := [5]) (by kernel_rfl) (by simp) (AllReadyH.cons (by simp only [List.getElem?_toArray, List.getElem?_cons_succ, List.getElem?_cons_zero]; exact rfl) (fun K hK => ?_) AllReadyH.nil)
  rw [if_pos (by rfl)]
  go_simp
  (with_reducible refine (KM.out _).mono ?_); rintro e w6 ⟨rfl, hrd6, hb6⟩; have hB6 := bt hB3 hb6; go_wp2_with fail
  refine hK.out _ _ (KC.out _ hB6) (fun hHeld => ?_)
  clear hK K
  try simp only [Act.put, ps1, ps2, ps3]
  obtain ⟨gm, om, em, hlm, hcm⟩ := hrd6.str_at (k := j) hj
  cases em
  rw [Nat.zero_add, HMO.out] at hcm
  have kc2 : ∀ w', Below w6.heap.size w6 w' → w'.cell? ⟨w.heap.size, 0, none⟩ = some (.int .i64 Y) ∧ w'.cell? ⟨w.heap.size, 1, none⟩ = some (.int .i64 Mo) ∧ w'.cell? ⟨w.heap.size, 2, none⟩ = some (.int .i64 D) ∧ w'.cell? ⟨w.heap.size, 3, none⟩ = some (.int .i64 h) ∧ w'.cell? ⟨w.heap.size, 4, none⟩ = some (.int .i64 mi) ∧ w'.cell? ⟨w.heap.size, 5, none⟩ = some (.int .i64 s) ∧ w'.cell? ⟨w5.heap.size, j, none⟩ = some (.string mo) ∧ Below W1.heap.size W1 w' ∧ Below w6.heap.size w6 w' := fun w' hq => by obtain ⟨g0, g1, g2, g3, g4, g5, _⟩ := KC.out _ (bt hB6 hq); exact ⟨g0, g1, g2, g3, g4, g5, (hq.cell (p := ⟨w5.heap.size, j, none⟩) hlm).trans hcm, bt hB6 hq, hq⟩
  have KC2 := Lib.hid kc2; clear kc2 hcm hrd6
  refine wpAnyH_strong (S' := (fun w' => w'.cell? ⟨w.heap.size, 0, none⟩ = some (.int .i64 Y) ∧ w'.cell? ⟨w.heap.size, 1, none⟩ = some (.int .i64 Mo) ∧ w'.cell? ⟨w.heap.size, 2, none⟩ = some (.int .i64 D) ∧ w'.cell? ⟨w.heap.size, 3, none⟩ = some (.int .i64 h) ∧ w'.cell? ⟨w.heap.size, 4, none⟩ = some (.int .i64 mi) ∧ w'.cell? ⟨w.heap.size, 5, none⟩ = some (.int .i64 s) ∧ w'.cell? ⟨w5.heap.size, j, none⟩ = some (.string mo) ∧ Below W1.heap.size W1 w' ∧ Below w6.heap.size w6 w')) (fun _ hq => ⟨hq.1, hq.2.1, hq.2.2.1, hq.2.2.2.1, hq.2.2.2.2.1, hq.2.2.2.2.2.1, hq.2.2.2.2.2.2.2.1⟩) ?_
  replace hHeld := KC2.out _ (Below.refl _ w6)
  refine tkS 9 hHeld ?_
  try simp only [Act.put, ps1, ps2, ps3]
  refine tkS 10 hHeld ?_
  try simp only [Act.put, ps1, ps2, ps3]
  refine tkS 11 hHeld ?_
  try simp only [Act.put, ps1, ps2, ps3]
  refine tkS 12 hHeld ?_
  try simp only [Act.put, ps1, ps2, ps3]
  refine tkS 14 hHeld ?_
  try simp only [Act.put, ps1, ps2, ps3]
  refine tkS 15 hHeld ?_
  try simp only [Act.put, ps1, ps2, ps3]
  refine wpAnyH_ready (rs := [17]) (by kernel_rfl) (by simp) (AllReadyH.cons (by simp only [List.getElem?_toArray, List.getElem?_cons_succ, List.getElem?_cons_zero]; exact rfl) (fun K hK => ?_) AllReadyH.nil)
  rw [if_pos (by rfl)]
  go_simp
  (with_reducible refine (KK.out _).mono ?_); rintro e w7 ⟨rfl, hb7⟩; have hC7 := hb7; go_wp2_with fail
  refine hK.out _ _ (KC2.out _ hC7) (fun hHeld => ?_)
  clear hK K
  try simp only [Act.put, ps1, ps2, ps3]
  refine tkS 18 hHeld ?_
  try simp only [Act.put, ps1, ps2, ps3]
  refine tkS 19 hHeld ?_
  try simp only [Act.put, ps1, ps2, ps3]
  refine wpAnyH_ready (rs := [22]) (by kernel_rfl) (by simp) (AllReadyH.cons (by simp only [List.getElem?_toArray, List.getElem?_cons_succ, List.getElem?_cons_zero]; exact rfl) (fun K hK => ?_) AllReadyH.nil)
  rw [if_pos (by rfl)]
  go_simp
  (with_reducible refine (KY.out _).mono ?_); rintro e w8 ⟨rfl, hb8⟩; have hC8 := bt hC7 hb8; go_wp2_with fail
  refine hK.out _ _ (KC2.out _ hC8) (fun hHeld => ?_)
  clear hK K
  try simp only [Act.put, ps1, ps2, ps3]
  refine tkS 23 hHeld ?_
  try simp only [Act.put, ps1, ps2, ps3]
  refine tkS 24 hHeld ?_
  try simp only [Act.put, ps1, ps2, ps3]
  refine wpAnyH_done (by kernel_rfl) ?_ _
  clear hHeld
  go_wp2
  go_ret
  exact ⟨by rw [← HF.out]; rfl, bt b1 (bt hB6 hC8)⟩
end Go.Proofs.YtcgdcbnhpbokfaaGreatDoor
/- The document's dates: the walks of May, time (printed by wip/tools/rwalk9.py). -/
namespace Go.Proofs.YtcgdcbnhpbokfaaGreatDoor
open Go.RowKit
set_option maxRecDepth 100000

theorem rmay_yes0 {Y Mo D h mi s : Int} (q : 1970 ≤ Y ∧ Y ≤ 9999 ∧ 1 ≤ Mo ∧ Mo ≤ 12 ∧ 1 ≤ D ∧ D ≤ dlong Y Mo ∧ 0 ≤ h ∧ h ≤ 23 ∧ 0 ≤ mi ∧ mi ≤ 59 ∧ 0 ≤ s ∧ s ≤ 59) : rmay ⟨Y, Mo, D, h, mi, s⟩ = true := by
  unfold rmay
  simp only [Bool.and_eq_true, decide_eq_true_eq]
  omega
theorem rmay_no0 {Y Mo D h mi s : Int} (q : ¬ (1970 ≤ Y ∧ Y ≤ 9999 ∧ 1 ≤ Mo ∧ Mo ≤ 12 ∧ 1 ≤ D ∧ D ≤ dlong Y Mo ∧ 0 ≤ h ∧ h ≤ 23 ∧ 0 ≤ mi ∧ mi ≤ 59 ∧ 0 ≤ s ∧ s ≤ 59)) : rmay ⟨Y, Mo, D, h, mi, s⟩ = false := by
  cases hb : rmay ⟨Y, Mo, D, h, mi, s⟩ with
  | false => rfl
  | true => have := rmay_is hb; simp only at this; omega
set_option maxHeartbeats 32000000 in
theorem imay_any (Y Mo D h mi s : Int) (w : World) :
    Calls Tryz.prog 101 #[.agg #[.int .i64 Y, .int .i64 Mo, .int .i64 D, .int .i64 h, .int .i64 mi, .int .i64 s]] w fun e w' => e = .returned (.bool (rmay ⟨Y, Mo, D, h, mi, s⟩)) ∧ Below w.heap.size w w' := by
  have rmay_yes := @rmay_yes0 Y Mo D h mi s
  have rmay_no := @rmay_no0 Y Mo D h mi s
  obtain ⟨dl, hdl0⟩ : ∃ dl, dlong Y Mo = dl := ⟨_, rfl⟩
  rw [hdl0] at rmay_yes rmay_no
  obtain ⟨W1, hW1⟩ : ∃ W1, w.alloc (.cells #[.int .i64 Y, .int .i64 Mo, .int .i64 D, .int .i64 h, .int .i64 mi, .int .i64 s] 122) = W1 := ⟨_, rfl⟩
  have b1 : Below w.heap.size w W1 := by rw [← hW1]; exact (Below.refl w.heap.size w).alloc (Nat.le_refl _) _
  have x1 : W1.heap[w.heap.size]? = some (.cells #[.int .i64 Y, .int .i64 Mo, .int .i64 D, .int .i64 h, .int .i64 mi, .int .i64 s] 122 (0, 0)) := by rw [← hW1]; exact heap_new w _ _ rfl
  have c0 := (of_heap x1 0).1; have c1 := (of_heap x1 1).1; have c2 := (of_heap x1 2).1; have c3 := (of_heap x1 3).1; have c4 := (of_heap x1 4).1; have c5 := (of_heap x1 5).1; have hEl := (of_heap x1 0).2.2
  simp only [List.getElem?_toArray, List.getElem?_cons_succ, List.getElem?_cons_zero] at c0 c1 c2 c3 c4 c5
  have kc : ∀ w', Below W1.heap.size W1 w' → w'.cell? ⟨w.heap.size, 0, none⟩ = some (.int .i64 Y) ∧ w'.cell? ⟨w.heap.size, 1, none⟩ = some (.int .i64 Mo) ∧ w'.cell? ⟨w.heap.size, 2, none⟩ = some (.int .i64 D) ∧ w'.cell? ⟨w.heap.size, 3, none⟩ = some (.int .i64 h) ∧ w'.cell? ⟨w.heap.size, 4, none⟩ = some (.int .i64 mi) ∧ w'.cell? ⟨w.heap.size, 5, none⟩ = some (.int .i64 s) ∧ Below W1.heap.size W1 w' := fun w' h => ⟨(h.cell (p := ⟨w.heap.size, 0, none⟩) hEl).trans c0, (h.cell (p := ⟨w.heap.size, 1, none⟩) hEl).trans c1, (h.cell (p := ⟨w.heap.size, 2, none⟩) hEl).trans c2, (h.cell (p := ⟨w.heap.size, 3, none⟩) hEl).trans c3, (h.cell (p := ⟨w.heap.size, 4, none⟩) hEl).trans c4, (h.cell (p := ⟨w.heap.size, 5, none⟩) hEl).trans c5, h⟩
  have HW1 := Lib.hid hW1
  clear hW1 x1
  by_cases q0 : 1970 ≤ Y
  rotate_left
  · have t0 : decide (1970 ≤ Y) = false := by simpa using q0
    have u0 : decide (Y ≥ 1970) = false := by simpa using q0
    clear kc
    go_enter Tryz.func101, Tryz.ntmps101
    go_upto_region 1 with (fail)
    rw [HW1.out]
    go_wp2_with fail
    go_quiet (fail)
    go_wp2
    go_ret
    exact ⟨by first | rfl | (rw [rmay_no (by omega)]; rfl), Go.below_drewN b1 _⟩
  by_cases q1 : Y ≤ 9999
  rotate_left
  · have t0 : decide (1970 ≤ Y) = true := by simpa using q0
    have u0 : decide (Y ≥ 1970) = true := by simpa using q0
    have t1 : decide (Y ≤ 9999) = false := by simpa using q1
    clear kc
    go_enter Tryz.func101, Tryz.ntmps101
    go_upto_region 1 with (fail)
    rw [HW1.out]
    go_wp2_with fail
    go_quiet (fail)
    go_wp2
    go_ret
    exact ⟨by first | rfl | (rw [rmay_no (by omega)]; rfl), Go.below_drewN b1 _⟩
  by_cases q2 : 1 ≤ Mo
  rotate_left
  · have t0 : decide (1970 ≤ Y) = true := by simpa using q0
    have u0 : decide (Y ≥ 1970) = true := by simpa using q0
    have t1 : decide (Y ≤ 9999) = true := by simpa using q1
    have t2 : decide (1 ≤ Mo) = false := by simpa using q2
    have u2 : decide (Mo ≥ 1) = false := by simpa using q2
    clear kc
    go_enter Tryz.func101, Tryz.ntmps101
    go_upto_region 1 with (fail)
    rw [HW1.out]
    go_wp2_with fail
    go_quiet (fail)
    go_wp2
    go_ret
    exact ⟨by first | rfl | (rw [rmay_no (by omega)]; rfl), Go.below_drewN b1 _⟩
  by_cases q3 : Mo ≤ 12
  rotate_left
  · have t0 : decide (1970 ≤ Y) = true := by simpa using q0
    have u0 : decide (Y ≥ 1970) = true := by simpa using q0
    have t1 : decide (Y ≤ 9999) = true := by simpa using q1
    have t2 : decide (1 ≤ Mo) = true := by simpa using q2
    have u2 : decide (Mo ≥ 1) = true := by simpa using q2
    have t3 : decide (Mo ≤ 12) = false := by simpa using q3
    clear kc
    go_enter Tryz.func101, Tryz.ntmps101
    go_upto_region 1 with (fail)
    rw [HW1.out]
    go_wp2_with fail
    go_quiet (fail)
    go_wp2
    go_ret
    exact ⟨by first | rfl | (rw [rmay_no (by omega)]; rfl), Go.below_drewN b1 _⟩
  by_cases q4 : 1 ≤ D
  rotate_left
  · have t0 : decide (1970 ≤ Y) = true := by simpa using q0
    have u0 : decide (Y ≥ 1970) = true := by simpa using q0
    have t1 : decide (Y ≤ 9999) = true := by simpa using q1
    have t2 : decide (1 ≤ Mo) = true := by simpa using q2
    have u2 : decide (Mo ≥ 1) = true := by simpa using q2
    have t3 : decide (Mo ≤ 12) = true := by simpa using q3
    have t4 : decide (1 ≤ D) = false := by simpa using q4
    have u4 : decide (D ≥ 1) = false := by simpa using q4
    clear kc
    go_enter Tryz.func101, Tryz.ntmps101
    go_upto_region 1 with (fail)
    rw [HW1.out]
    go_wp2_with fail
    go_quiet (fail)
    go_wp2
    go_ret
    exact ⟨by first | rfl | (rw [rmay_no (by omega)]; rfl), Go.below_drewN b1 _⟩
  have t0 : decide (1970 ≤ Y) = true := by simpa using q0
  have u0 : decide (Y ≥ 1970) = true := by simpa using q0
  have t1 : decide (Y ≤ 9999) = true := by simpa using q1
  have t2 : decide (1 ≤ Mo) = true := by simpa using q2
  have u2 : decide (Mo ≥ 1) = true := by simpa using q2
  have t3 : decide (Mo ≤ 12) = true := by simpa using q3
  have t4 : decide (1 ≤ D) = true := by simpa using q4
  have u4 : decide (D ≥ 1) = true := by simpa using q4
  have kd := fun W => idays_any Y Mo (by omega) (by omega) W
  have hdl : dlong Y Mo = dl := hdl0
  rw [hdl] at kd
  have KD := Lib.hid kd; have KC := Lib.hid kc
  have hB1 : Below W1.heap.size W1 W1.drew := (Below.refl _ _).drew
  clear kd kc c0 c1 c2 c3 c4 c5 hdl
  go_enter Tryz.func101, Tryz.ntmps101
  go_upto_region 1 with (fail)
  rw [HW1.out]
  go_wp2_with fail
  refine wp_region_held_drew (S := (fun w' => w'.cell? ⟨w.heap.size, 0, none⟩ = some (.int .i64 Y) ∧ w'.cell? ⟨w.heap.size, 1, none⟩ = some (.int .i64 Mo) ∧ w'.cell? ⟨w.heap.size, 2, none⟩ = some (.int .i64 D) ∧ w'.cell? ⟨w.heap.size, 3, none⟩ = some (.int .i64 h) ∧ w'.cell? ⟨w.heap.size, 4, none⟩ = some (.int .i64 mi) ∧ w'.cell? ⟨w.heap.size, 5, none⟩ = some (.int .i64 s) ∧ Below W1.heap.size W1 w')) (by kernel_rfl) (KC.out _ hB1) (fun hHeld => ?_)
  refine tkS 0 hHeld ?_
  try simp only [Act.put, ps1, ps2, ps3]
  refine tkS 1 hHeld ?_
  try simp only [Act.put, ps1, ps2, ps3]
  refine tkS 2 hHeld ?_
  try simp only [Act.put, ps1, ps2, ps3]
  refine tkS 3 hHeld ?_
  try simp only [Act.put, ps1, ps2, ps3]
  refine tkS 4 hHeld ?_
  try simp only [Act.put, ps1, ps2, ps3]
  refine tkS 5 hHeld ?_
  try simp only [Act.put, ps1, ps2, ps3]
  refine tkS 6 hHeld ?_
  try simp only [Act.put, ps1, ps2, ps3]
  refine tkS 7 hHeld ?_
  try simp only [Act.put, ps1, ps2, ps3]
  refine tkS 8 hHeld ?_
  try simp only [Act.put, ps1, ps2, ps3]
  refine tkS 9 hHeld ?_
  try simp only [Act.put, ps1, ps2, ps3]
  refine tkS 10 hHeld ?_
  try simp only [Act.put, ps1, ps2, ps3]
  refine tkS 11 hHeld ?_
  try simp only [Act.put, ps1, ps2, ps3]
  refine tkS 12 hHeld ?_
  try simp only [Act.put, ps1, ps2, ps3]
  refine tkS 13 hHeld ?_
  try simp only [Act.put, ps1, ps2, ps3]
  refine tkS 14 hHeld ?_
  try simp only [Act.put, ps1, ps2, ps3]
  refine tkS 15 hHeld ?_
  try simp only [Act.put, ps1, ps2, ps3]
  refine tkS 16 hHeld ?_
  try simp only [Act.put, ps1, ps2, ps3]
  refine tkS 17 hHeld ?_
  try simp only [Act.put, ps1, ps2, ps3]
  refine tkS 18 hHeld ?_
  try simp only [Act.put, ps1, ps2, ps3]
  refine tkS 19 hHeld ?_
  try simp only [Act.put, ps1, ps2, ps3]
  refine tkS 20 hHeld ?_
  try simp only [Act.put, ps1, ps2, ps3]
  refine tkS 21 hHeld ?_
  try simp only [Act.put, ps1, ps2, ps3]
  refine tkS 22 hHeld ?_
  try simp only [Act.put, ps1, ps2, ps3]
  refine tkS 23 hHeld ?_
  try simp only [Act.put, ps1, ps2, ps3]
  refine tkS 24 hHeld ?_
  try simp only [Act.put, ps1, ps2, ps3]
  refine tkS 25 hHeld ?_
  try simp only [Act.put, ps1, ps2, ps3]
  refine tkS 26 hHeld ?_
  try simp only [Act.put, ps1, ps2, ps3]
  refine tkS 27 hHeld ?_
  try simp only [Act.put, ps1, ps2, ps3]
  refine tkS 28 hHeld ?_
  try simp only [Act.put, ps1, ps2, ps3]
  refine tkS 29 hHeld ?_
  try simp only [Act.put, ps1, ps2, ps3]
  refine wpAnyH_ready (rs := [30]) (by kernel_rfl) (by simp) (AllReadyH.cons (by simp only [List.getElem?_toArray, List.getElem?_cons_succ, List.getElem?_cons_zero]; exact rfl) (fun K hK => ?_) AllReadyH.nil)
  rw [if_pos (by rfl)]
  go_simp
  (with_reducible refine (KD.out _).mono ?_)
  rintro e w2 ⟨rfl, hb2⟩
  have hB2 := bt hB1 hb2
  go_wp2_with fail
  refine hK.out _ _ (KC.out _ hB2) (fun hHeld => ?_)
  clear hK K
  try simp only [Act.put, ps1, ps2, ps3]
  by_cases q5 : D ≤ dl
  · have t5 : decide (D ≤ dl) = true := by simpa using q5
    refine tkS 31 hHeld ?_
    try simp only [Act.put, ps1, ps2, ps3]
    refine tkS 32 hHeld ?_
    try simp only [Act.put, ps1, ps2, ps3]
    refine tkS 33 hHeld ?_
    try simp only [Act.put, ps1, ps2, ps3]
    refine tkS 34 hHeld ?_
    try simp only [Act.put, ps1, ps2, ps3]
    refine tkS 35 hHeld ?_
    try simp only [Act.put, ps1, ps2, ps3]
    by_cases q6 : 0 ≤ h
    · have t6 : decide (0 ≤ h) = true := by simpa using q6
      have u6 : decide (h ≥ 0) = true := by simpa using q6
      refine tkS 36 hHeld ?_
      try simp only [Act.put, ps1, ps2, ps3]
      refine tkS 37 hHeld ?_
      try simp only [Act.put, ps1, ps2, ps3]
      refine tkS 38 hHeld ?_
      try simp only [Act.put, ps1, ps2, ps3]
      refine tkS 39 hHeld ?_
      try simp only [Act.put, ps1, ps2, ps3]
      refine tkS 40 hHeld ?_
      try simp only [Act.put, ps1, ps2, ps3]
      by_cases q7 : h ≤ 23
      · have t7 : decide (h ≤ 23) = true := by simpa using q7
        refine tkS 41 hHeld ?_
        try simp only [Act.put, ps1, ps2, ps3]
        refine tkS 42 hHeld ?_
        try simp only [Act.put, ps1, ps2, ps3]
        refine tkS 43 hHeld ?_
        try simp only [Act.put, ps1, ps2, ps3]
        refine tkS 44 hHeld ?_
        try simp only [Act.put, ps1, ps2, ps3]
        refine tkS 45 hHeld ?_
        try simp only [Act.put, ps1, ps2, ps3]
        by_cases q8 : 0 ≤ mi
        · have t8 : decide (0 ≤ mi) = true := by simpa using q8
          have u8 : decide (mi ≥ 0) = true := by simpa using q8
          refine tkS 46 hHeld ?_
          try simp only [Act.put, ps1, ps2, ps3]
          refine tkS 47 hHeld ?_
          try simp only [Act.put, ps1, ps2, ps3]
          refine tkS 48 hHeld ?_
          try simp only [Act.put, ps1, ps2, ps3]
          refine tkS 49 hHeld ?_
          try simp only [Act.put, ps1, ps2, ps3]
          refine tkS 50 hHeld ?_
          try simp only [Act.put, ps1, ps2, ps3]
          by_cases q9 : mi ≤ 59
          · have t9 : decide (mi ≤ 59) = true := by simpa using q9
            refine tkS 51 hHeld ?_
            try simp only [Act.put, ps1, ps2, ps3]
            refine tkS 52 hHeld ?_
            try simp only [Act.put, ps1, ps2, ps3]
            refine tkS 53 hHeld ?_
            try simp only [Act.put, ps1, ps2, ps3]
            refine tkS 54 hHeld ?_
            try simp only [Act.put, ps1, ps2, ps3]
            refine tkS 55 hHeld ?_
            try simp only [Act.put, ps1, ps2, ps3]
            by_cases q10 : 0 ≤ s
            · have t10 : decide (0 ≤ s) = true := by simpa using q10
              have u10 : decide (s ≥ 0) = true := by simpa using q10
              refine tkS 56 hHeld ?_
              try simp only [Act.put, ps1, ps2, ps3]
              refine tkS 57 hHeld ?_
              try simp only [Act.put, ps1, ps2, ps3]
              refine tkS 58 hHeld ?_
              try simp only [Act.put, ps1, ps2, ps3]
              refine tkS 59 hHeld ?_
              try simp only [Act.put, ps1, ps2, ps3]
              refine tkS 60 hHeld ?_
              try simp only [Act.put, ps1, ps2, ps3]
              by_cases q11 : s ≤ 59
              · have t11 : decide (s ≤ 59) = true := by simpa using q11
                refine tkS 61 hHeld ?_
                try simp only [Act.put, ps1, ps2, ps3]
                refine tkS 62 hHeld ?_
                try simp only [Act.put, ps1, ps2, ps3]
                refine tkS 63 hHeld ?_
                try simp only [Act.put, ps1, ps2, ps3]
                refine wpAnyH_done (by kernel_rfl) ?_ _
                clear hHeld
                go_wp2
                go_ret
                exact ⟨by first | rfl | (rw [rmay_yes (by omega)]; rfl), bt b1 hB2⟩
              · have t11 : decide (s ≤ 59) = false := by simpa using q11
                refine tkS 61 hHeld ?_
                try simp only [Act.put, ps1, ps2, ps3]
                refine tkS 62 hHeld ?_
                try simp only [Act.put, ps1, ps2, ps3]
                refine tkS 63 hHeld ?_
                try simp only [Act.put, ps1, ps2, ps3]
                refine wpAnyH_done (by kernel_rfl) ?_ _
                clear hHeld
                go_wp2
                go_ret
                exact ⟨by first | rfl | (rw [rmay_no (by omega)]; rfl), bt b1 hB2⟩
            · have t10 : decide (0 ≤ s) = false := by simpa using q10
              have u10 : decide (s ≥ 0) = false := by simpa using q10
              refine tkS 56 hHeld ?_
              try simp only [Act.put, ps1, ps2, ps3]
              refine tkS 57 hHeld ?_
              try simp only [Act.put, ps1, ps2, ps3]
              refine tkS 58 hHeld ?_
              try simp only [Act.put, ps1, ps2, ps3]
              refine tkO 59 hHeld ?_
              try simp only [Act.put, ps1, ps2, ps3]
              refine tkO 60 hHeld ?_
              try simp only [Act.put, ps1, ps2, ps3]
              refine tkO 61 hHeld ?_
              try simp only [Act.put, ps1, ps2, ps3]
              refine tkS 62 hHeld ?_
              try simp only [Act.put, ps1, ps2, ps3]
              refine tkS 63 hHeld ?_
              try simp only [Act.put, ps1, ps2, ps3]
              refine wpAnyH_done (by kernel_rfl) ?_ _
              clear hHeld
              go_wp2
              go_ret
              exact ⟨by first | rfl | (rw [rmay_no (by omega)]; rfl), bt b1 hB2⟩
          · have t9 : decide (mi ≤ 59) = false := by simpa using q9
            refine tkS 51 hHeld ?_
            try simp only [Act.put, ps1, ps2, ps3]
            refine tkS 52 hHeld ?_
            try simp only [Act.put, ps1, ps2, ps3]
            refine tkS 53 hHeld ?_
            try simp only [Act.put, ps1, ps2, ps3]
            refine tkO 54 hHeld ?_
            try simp only [Act.put, ps1, ps2, ps3]
            refine tkO 55 hHeld ?_
            try simp only [Act.put, ps1, ps2, ps3]
            refine tkO 56 hHeld ?_
            try simp only [Act.put, ps1, ps2, ps3]
            refine tkS 57 hHeld ?_
            try simp only [Act.put, ps1, ps2, ps3]
            refine tkS 58 hHeld ?_
            try simp only [Act.put, ps1, ps2, ps3]
            refine tkO 59 hHeld ?_
            try simp only [Act.put, ps1, ps2, ps3]
            refine tkO 60 hHeld ?_
            try simp only [Act.put, ps1, ps2, ps3]
            refine tkO 61 hHeld ?_
            try simp only [Act.put, ps1, ps2, ps3]
            refine tkS 62 hHeld ?_
            try simp only [Act.put, ps1, ps2, ps3]
            refine tkS 63 hHeld ?_
            try simp only [Act.put, ps1, ps2, ps3]
            refine wpAnyH_done (by kernel_rfl) ?_ _
            clear hHeld
            go_wp2
            go_ret
            exact ⟨by first | rfl | (rw [rmay_no (by omega)]; rfl), bt b1 hB2⟩
        · have t8 : decide (0 ≤ mi) = false := by simpa using q8
          have u8 : decide (mi ≥ 0) = false := by simpa using q8
          refine tkS 46 hHeld ?_
          try simp only [Act.put, ps1, ps2, ps3]
          refine tkS 47 hHeld ?_
          try simp only [Act.put, ps1, ps2, ps3]
          refine tkS 48 hHeld ?_
          try simp only [Act.put, ps1, ps2, ps3]
          refine tkO 49 hHeld ?_
          try simp only [Act.put, ps1, ps2, ps3]
          refine tkO 50 hHeld ?_
          try simp only [Act.put, ps1, ps2, ps3]
          refine tkO 51 hHeld ?_
          try simp only [Act.put, ps1, ps2, ps3]
          refine tkS 52 hHeld ?_
          try simp only [Act.put, ps1, ps2, ps3]
          refine tkS 53 hHeld ?_
          try simp only [Act.put, ps1, ps2, ps3]
          refine tkO 54 hHeld ?_
          try simp only [Act.put, ps1, ps2, ps3]
          refine tkO 55 hHeld ?_
          try simp only [Act.put, ps1, ps2, ps3]
          refine tkO 56 hHeld ?_
          try simp only [Act.put, ps1, ps2, ps3]
          refine tkS 57 hHeld ?_
          try simp only [Act.put, ps1, ps2, ps3]
          refine tkS 58 hHeld ?_
          try simp only [Act.put, ps1, ps2, ps3]
          refine tkO 59 hHeld ?_
          try simp only [Act.put, ps1, ps2, ps3]
          refine tkO 60 hHeld ?_
          try simp only [Act.put, ps1, ps2, ps3]
          refine tkO 61 hHeld ?_
          try simp only [Act.put, ps1, ps2, ps3]
          refine tkS 62 hHeld ?_
          try simp only [Act.put, ps1, ps2, ps3]
          refine tkS 63 hHeld ?_
          try simp only [Act.put, ps1, ps2, ps3]
          refine wpAnyH_done (by kernel_rfl) ?_ _
          clear hHeld
          go_wp2
          go_ret
          exact ⟨by first | rfl | (rw [rmay_no (by omega)]; rfl), bt b1 hB2⟩
      · have t7 : decide (h ≤ 23) = false := by simpa using q7
        refine tkS 41 hHeld ?_
        try simp only [Act.put, ps1, ps2, ps3]
        refine tkS 42 hHeld ?_
        try simp only [Act.put, ps1, ps2, ps3]
        refine tkS 43 hHeld ?_
        try simp only [Act.put, ps1, ps2, ps3]
        refine tkO 44 hHeld ?_
        try simp only [Act.put, ps1, ps2, ps3]
        refine tkO 45 hHeld ?_
        try simp only [Act.put, ps1, ps2, ps3]
        refine tkO 46 hHeld ?_
        try simp only [Act.put, ps1, ps2, ps3]
        refine tkS 47 hHeld ?_
        try simp only [Act.put, ps1, ps2, ps3]
        refine tkS 48 hHeld ?_
        try simp only [Act.put, ps1, ps2, ps3]
        refine tkO 49 hHeld ?_
        try simp only [Act.put, ps1, ps2, ps3]
        refine tkO 50 hHeld ?_
        try simp only [Act.put, ps1, ps2, ps3]
        refine tkO 51 hHeld ?_
        try simp only [Act.put, ps1, ps2, ps3]
        refine tkS 52 hHeld ?_
        try simp only [Act.put, ps1, ps2, ps3]
        refine tkS 53 hHeld ?_
        try simp only [Act.put, ps1, ps2, ps3]
        refine tkO 54 hHeld ?_
        try simp only [Act.put, ps1, ps2, ps3]
        refine tkO 55 hHeld ?_
        try simp only [Act.put, ps1, ps2, ps3]
        refine tkO 56 hHeld ?_
        try simp only [Act.put, ps1, ps2, ps3]
        refine tkS 57 hHeld ?_
        try simp only [Act.put, ps1, ps2, ps3]
        refine tkS 58 hHeld ?_
        try simp only [Act.put, ps1, ps2, ps3]
        refine tkO 59 hHeld ?_
        try simp only [Act.put, ps1, ps2, ps3]
        refine tkO 60 hHeld ?_
        try simp only [Act.put, ps1, ps2, ps3]
        refine tkO 61 hHeld ?_
        try simp only [Act.put, ps1, ps2, ps3]
        refine tkS 62 hHeld ?_
        try simp only [Act.put, ps1, ps2, ps3]
        refine tkS 63 hHeld ?_
        try simp only [Act.put, ps1, ps2, ps3]
        refine wpAnyH_done (by kernel_rfl) ?_ _
        clear hHeld
        go_wp2
        go_ret
        exact ⟨by first | rfl | (rw [rmay_no (by omega)]; rfl), bt b1 hB2⟩
    · have t6 : decide (0 ≤ h) = false := by simpa using q6
      have u6 : decide (h ≥ 0) = false := by simpa using q6
      refine tkS 36 hHeld ?_
      try simp only [Act.put, ps1, ps2, ps3]
      refine tkS 37 hHeld ?_
      try simp only [Act.put, ps1, ps2, ps3]
      refine tkS 38 hHeld ?_
      try simp only [Act.put, ps1, ps2, ps3]
      refine tkO 39 hHeld ?_
      try simp only [Act.put, ps1, ps2, ps3]
      refine tkO 40 hHeld ?_
      try simp only [Act.put, ps1, ps2, ps3]
      refine tkO 41 hHeld ?_
      try simp only [Act.put, ps1, ps2, ps3]
      refine tkS 42 hHeld ?_
      try simp only [Act.put, ps1, ps2, ps3]
      refine tkS 43 hHeld ?_
      try simp only [Act.put, ps1, ps2, ps3]
      refine tkO 44 hHeld ?_
      try simp only [Act.put, ps1, ps2, ps3]
      refine tkO 45 hHeld ?_
      try simp only [Act.put, ps1, ps2, ps3]
      refine tkO 46 hHeld ?_
      try simp only [Act.put, ps1, ps2, ps3]
      refine tkS 47 hHeld ?_
      try simp only [Act.put, ps1, ps2, ps3]
      refine tkS 48 hHeld ?_
      try simp only [Act.put, ps1, ps2, ps3]
      refine tkO 49 hHeld ?_
      try simp only [Act.put, ps1, ps2, ps3]
      refine tkO 50 hHeld ?_
      try simp only [Act.put, ps1, ps2, ps3]
      refine tkO 51 hHeld ?_
      try simp only [Act.put, ps1, ps2, ps3]
      refine tkS 52 hHeld ?_
      try simp only [Act.put, ps1, ps2, ps3]
      refine tkS 53 hHeld ?_
      try simp only [Act.put, ps1, ps2, ps3]
      refine tkO 54 hHeld ?_
      try simp only [Act.put, ps1, ps2, ps3]
      refine tkO 55 hHeld ?_
      try simp only [Act.put, ps1, ps2, ps3]
      refine tkO 56 hHeld ?_
      try simp only [Act.put, ps1, ps2, ps3]
      refine tkS 57 hHeld ?_
      try simp only [Act.put, ps1, ps2, ps3]
      refine tkS 58 hHeld ?_
      try simp only [Act.put, ps1, ps2, ps3]
      refine tkO 59 hHeld ?_
      try simp only [Act.put, ps1, ps2, ps3]
      refine tkO 60 hHeld ?_
      try simp only [Act.put, ps1, ps2, ps3]
      refine tkO 61 hHeld ?_
      try simp only [Act.put, ps1, ps2, ps3]
      refine tkS 62 hHeld ?_
      try simp only [Act.put, ps1, ps2, ps3]
      refine tkS 63 hHeld ?_
      try simp only [Act.put, ps1, ps2, ps3]
      refine wpAnyH_done (by kernel_rfl) ?_ _
      clear hHeld
      go_wp2
      go_ret
      exact ⟨by first | rfl | (rw [rmay_no (by omega)]; rfl), bt b1 hB2⟩
  · have t5 : decide (D ≤ dl) = false := by simpa using q5
    refine tkS 31 hHeld ?_
    try simp only [Act.put, ps1, ps2, ps3]
    refine tkS 32 hHeld ?_
    try simp only [Act.put, ps1, ps2, ps3]
    refine tkS 33 hHeld ?_
    try simp only [Act.put, ps1, ps2, ps3]
    refine tkO 34 hHeld ?_
    try simp only [Act.put, ps1, ps2, ps3]
    refine tkO 35 hHeld ?_
    try simp only [Act.put, ps1, ps2, ps3]
    refine tkO 36 hHeld ?_
    try simp only [Act.put, ps1, ps2, ps3]
    refine tkS 37 hHeld ?_
    try simp only [Act.put, ps1, ps2, ps3]
    refine tkS 38 hHeld ?_
    try simp only [Act.put, ps1, ps2, ps3]
    refine tkO 39 hHeld ?_
    try simp only [Act.put, ps1, ps2, ps3]
    refine tkO 40 hHeld ?_
    try simp only [Act.put, ps1, ps2, ps3]
    refine tkO 41 hHeld ?_
    try simp only [Act.put, ps1, ps2, ps3]
    refine tkS 42 hHeld ?_
    try simp only [Act.put, ps1, ps2, ps3]
    refine tkS 43 hHeld ?_
    try simp only [Act.put, ps1, ps2, ps3]
    refine tkO 44 hHeld ?_
    try simp only [Act.put, ps1, ps2, ps3]
    refine tkO 45 hHeld ?_
    try simp only [Act.put, ps1, ps2, ps3]
    refine tkO 46 hHeld ?_
    try simp only [Act.put, ps1, ps2, ps3]
    refine tkS 47 hHeld ?_
    try simp only [Act.put, ps1, ps2, ps3]
    refine tkS 48 hHeld ?_
    try simp only [Act.put, ps1, ps2, ps3]
    refine tkO 49 hHeld ?_
    try simp only [Act.put, ps1, ps2, ps3]
    refine tkO 50 hHeld ?_
    try simp only [Act.put, ps1, ps2, ps3]
    refine tkO 51 hHeld ?_
    try simp only [Act.put, ps1, ps2, ps3]
    refine tkS 52 hHeld ?_
    try simp only [Act.put, ps1, ps2, ps3]
    refine tkS 53 hHeld ?_
    try simp only [Act.put, ps1, ps2, ps3]
    refine tkO 54 hHeld ?_
    try simp only [Act.put, ps1, ps2, ps3]
    refine tkO 55 hHeld ?_
    try simp only [Act.put, ps1, ps2, ps3]
    refine tkO 56 hHeld ?_
    try simp only [Act.put, ps1, ps2, ps3]
    refine tkS 57 hHeld ?_
    try simp only [Act.put, ps1, ps2, ps3]
    refine tkS 58 hHeld ?_
    try simp only [Act.put, ps1, ps2, ps3]
    refine tkO 59 hHeld ?_
    try simp only [Act.put, ps1, ps2, ps3]
    refine tkO 60 hHeld ?_
    try simp only [Act.put, ps1, ps2, ps3]
    refine tkO 61 hHeld ?_
    try simp only [Act.put, ps1, ps2, ps3]
    refine tkS 62 hHeld ?_
    try simp only [Act.put, ps1, ps2, ps3]
    refine tkS 63 hHeld ?_
    try simp only [Act.put, ps1, ps2, ps3]
    refine wpAnyH_done (by kernel_rfl) ?_ _
    clear hHeld
    go_wp2
    go_ret
    exact ⟨by first | rfl | (rw [rmay_no (by omega)]; rfl), bt b1 hB2⟩
theorem inumI_any (s : ByteArray) (i k : Int) (a n : Nat) (hi : i = a) (hk : k = n) (ha : a ≤ 1000000000) (hn : n ≤ 4) (w : World) :
    Calls Tryz.prog 98 #[.string s, .int .i64 i, .int .i64 k] w fun e w' => e = .returned (.int .i64 (rnum s.data.toList a n)) ∧ w' = w := by
  subst hi; subst hk
  exact inum_any s a n ha hn w
set_option maxHeartbeats 4000000 in
theorem itime_any (Y Mo D z1 z2 z3 : Int) (s : ByteArray) (i : Int) (a : Nat) (hi : i = a) (ha : a ≤ 900000000) (w : World) :
    Calls Tryz.prog 100 #[.agg #[.int .i64 Y, .int .i64 Mo, .int .i64 D, .int .i64 z1, .int .i64 z2, .int .i64 z3], .string s, .int .i64 i] w fun e w' => e = .returned (.agg #[.int .i64 Y, .int .i64 Mo, .int .i64 D, .int .i64 (rnum s.data.toList a 2), .int .i64 (rnum s.data.toList (a + 3) 2), .int .i64 (rnum s.data.toList (a + 6) 2)]) ∧ Below w.heap.size w w' := by
  have k1 := fun W => inumI_any s i 2 a 2 hi rfl (by omega) (by omega) W
  have e3 : IntKind.i64.wrap (i + 3) = i + 3 := by rw [IntKind.wrap_i64]; omega
  have e6 : IntKind.i64.wrap (i + 6) = i + 6 := by rw [IntKind.wrap_i64]; omega
  have k2 := fun W => inumI_any s (i + 3) 2 (a + 3) 2 (by omega) rfl (by omega) (by omega) W
  have k3 := fun W => inumI_any s (i + 6) 2 (a + 6) 2 (by omega) rfl (by omega) (by omega) W
  generalize rnum s.data.toList a 2 = n1 at *
  generalize rnum s.data.toList (a + 3) 2 = n2 at *
  generalize rnum s.data.toList (a + 6) 2 = n3 at *
  have K1 := Lib.hid k1; have K2 := Lib.hid k2; have K3 := Lib.hid k3
  clear k1 k2 k3 hi
  go_enter Tryz.func100, Tryz.ntmps100
  go_wp2_with fail
  (with_reducible refine (K1.out _).mono ?_)
  rintro e w1 ⟨rfl, rfl⟩
  go_wp2_with fail
  (with_reducible refine (K2.out _).mono ?_)
  rintro e w1 ⟨rfl, rfl⟩
  go_wp2_with fail
  (with_reducible refine (K3.out _).mono ?_)
  rintro e w1 ⟨rfl, rfl⟩
  go_wp2_with fail
  refine bodyPost_ret_by (v := .agg #[.int .i64 Y, .int .i64 Mo, .int .i64 D, .int .i64 n1, .int .i64 n2, .int .i64 n3]) ?_ rfl ?_
  · rw [results_cell_one rfl]
    go_simp
  · refine ⟨rfl, ?_⟩
    first
      | exact ((Below.refl w.heap.size w).alloc (Nat.le_refl _) _).alloc (by simp) _
      | skip
end Go.Proofs.YtcgdcbnhpbokfaaGreatDoor
/- The walk of the document's Mine (layer 12). -/
namespace Go.Proofs.YtcgdcbnhpbokfaaGreatDoor
open Go.RowKit
set_option maxRecDepth 100000

theorem Rd.drewN {A : Option Addr} {n size : Nat} {xs : List Value} {w : World} (h : Rd A n size xs w) (q : Nat) : Rd A n size xs (w.drewN q) := h
theorem drewN_one (w : World) (a : Nat) : ∃ q, (w.drewN a).drew = w.drewN q := ⟨a + 1, rfl⟩
theorem below_drewNK {B : Nat} {a w : World} (h : Below B a w) (n : Nat) : Below B a (w.drewN n) := h.trans ⟨rfl, rfl, rfl, Nat.le_refl _, fun _ _ => rfl⟩
set_option maxHeartbeats 16000000 in
theorem rmine_any (A : Option Addr) (n c : Nat) (xs : List Dir) (dev : ByteArray) (w : World) (hr : Rd A n 4 (dirsV xs) w) (hn : n ≤ 1000000) :
    Calls Tryz.prog 118 #[.slice A n c, .string dev] w (DirsPost w (mineL xs dev.data.toList)) := by
  obtain rfl := hr.dir
  have hS : DSt4 w.heap.size (.slice none 0 0) [] A xs w := ⟨OwnD.nil _ _, hr, fun _ g o e x => by cases x⟩
  have hB := Below.refl w.heap.size w
  have hstep := fun k (h : k < xs.length) => filter_take (mineB xs dev.data.toList) xs k h
  have hlen : ∀ k, ((xs.take k).filter (mineB xs dev.data.toList)).length ≤ xs.length := fun k => by
    have h1 := List.length_filter_le (mineB xs dev.data.toList) (xs.take k)
    have h2 : (xs.take k).length ≤ xs.length := by rw [List.length_take]; omega
    omega
  have hfin : mineL xs dev.data.toList = (xs.take xs.length).filter (mineB xs dev.data.toList) := by rw [List.take_length]; rfl
  have h00 : (xs.take 0).filter (mineB xs dev.data.toList) = [] := rfl
  have hmb : ∀ d, mineB xs dev.data.toList d = (ownB dev.data.toList d || (d.for_.isEmpty && !xs.any fun x => ownB dev.data.toList x && x.name == d.name)) := fun d => rfl
  have hown : ∀ d, ownB dev.data.toList d = (!dev.toList.isEmpty && d.for_ == dev.toList) := fun d => by rw [Lib.toList_data]; rfl
  have hany : ∀ (q : Dir → Bool) k (h : k < xs.length), (xs.take (k + 1)).any q = ((xs.take k).any q || q xs[k]) := fun q k h => by
    rw [List.take_succ_eq_append_getElem h, List.any_append]; simp
  have hall : ∀ (q : Dir → Bool), (xs.take xs.length).any q = xs.any q := fun q => by rw [List.take_length]
  generalize mineB xs dev.data.toList = mb at *
  generalize ownB dev.data.toList = ow at *
  rw [hfin]
  clear hfin
  have HS := Lib.hid hS; have HSTEP := Lib.hid hstep; have HLEN := Lib.hid hlen; have H00 := Lib.hid h00; have HMB := Lib.hid hmb; have HOW := Lib.hid hown; have HANY := Lib.hid hany; have HALL := Lib.hid hall
  clear hS hstep hlen h00 hmb hr hown hany hall
  cases hde : dev.toList.isEmpty
  · go_enter Tryz.func118, Tryz.ntmps118
    go_wp2_with fail
    go_loopw [6, 5] (fun i out wr => ∃ k : Nat, k ≤ xs.length ∧ i = .int .i64 k ∧ Hid (DSt4 w.heap.size out ((xs.take k).filter mb) A xs wr) ∧ Below w.heap.size w wr) (fun i _ _ => xs.length - (intOf i).toNat)
    case atStart => exact ⟨0, Nat.zero_le _, rfl, by rw [H00.out]; exact HS, hB⟩
    case round =>
      clear HS hB H00
      obtain ⟨k, hk, rfl, HO, hbw⟩ := hrel
      obtain ⟨oa, oc, rfl⟩ := HO.out.1.shape
      have hal := HLEN.out k
      by_cases hlt : k < xs.length
      · obtain ⟨b, o, rfl, hl, c0, c1, c2, c3⟩ := HO.out.2.1.dir_at (k := k) hlt
        have hst := HSTEP.out k hlt
        have hmb := HMB.out xs[k]
        have how := HOW.out xs[k]
        have HRD := Lib.hid HO.out.2.1
        generalize xs[k] = d at *
        generalize (xs.take k).filter mb = acc at *
        obtain ⟨dn, dv, dh, df⟩ := d
        simp only at c0 c1 c2 c3 hmb how
        have hlen2 : acc.length ≤ 1000000000 := by omega
        have t1 : decide ((k : Int) < (xs.length : Int)) = true := by simp; omega
        have HST := Lib.hid hst; have HMB2 := Lib.hid hmb; have HOW2 := Lib.hid how
        clear hst hmb how HSTEP HLEN HMB
        go_wp2_with fail
        obtain ⟨wo, rfl⟩ : ∃ wo : World, wo = wr := ⟨_, rfl⟩
        go_loopw [8, 7] (fun j ow2 wi => ∃ m : Nat, m ≤ xs.length ∧ j = .int .i64 m ∧ (∃ q : Bool, ow2 = .bool q ∧ Hid (q = (xs.take m).any fun x => ow x && x.name == dn)) ∧ (∃ qn, wi = wo.drewN qn)) (fun j _ _ => xs.length - (intOf j).toNat)
        case atStart => exact ⟨0, Nat.zero_le _, rfl, ⟨false, rfl, Lib.hid (by simp)⟩, ⟨0, rfl⟩⟩
        case round =>
          obtain ⟨m, hm, rfl, ⟨q, rfl, HQ⟩, ⟨qn, rfl⟩⟩ := hrel
          have hsz : Below w.heap.size w (wo.drewN qn) := below_drewNK hbw qn
          by_cases hlm : m < xs.length
          · obtain ⟨b2, o2, e2, hl2, x0, x1, x2, x3⟩ := (HRD.out.drewN qn).dir_at (k := m) hlm
            cases e2
            have d0 : (wo.drewN qn).cell? ⟨b, o + k * 4, none⟩ = some (.string ⟨dn.toArray⟩) := c0
            have hox := HOW.out xs[m]
            have hnx := HANY.out (fun x => ow x && x.name == dn) m hlm
            rw [← HQ.out] at hnx
            generalize xs[m] = x at *
            obtain ⟨xn, xv, xh, xf⟩ := x
            simp only at x0 x1 x2 x3 hox hnx
            rw [hox, hde] at hnx
            have t2 : decide ((m : Int) < (xs.length : Int)) = true := by simp; omega
            have HNX := Lib.hid hnx
            clear hox hnx HQ
            cases q
            · cases e1 : (xf == dev.toList)
              · rw [e1] at HNX
                have HN : Hid (false = (xs.take (m + 1)).any fun x => ow x && x.name == dn) := Lib.hid (by rw [HNX.out]; rfl)
                clear HNX
                go_wp2
                refine wp_region_held_drew (S := (fun w' => w'.cell? ⟨b, o + m * 4, none⟩ = some (.string ⟨xn.toArray⟩) ∧ w'.cell? ⟨b, o + m * 4 + 3, none⟩ = some (.string ⟨xf.toArray⟩) ∧ w'.cell? ⟨b, o + k * 4, none⟩ = some (.string ⟨dn.toArray⟩))) (by kernel_rfl) (⟨x0, x3, d0⟩) (fun hHeld => ?_)
                refine tkS 0 hHeld ?_
                try simp only [Act.put, ps1, ps2, ps3]
                refine tkS 1 hHeld ?_
                try simp only [Act.put, ps1, ps2, ps3]
                refine tkS 2 hHeld ?_
                try simp only [Act.put, ps1, ps2, ps3]
                refine tkS 3 hHeld ?_
                try simp only [Act.put, ps1, ps2, ps3]
                refine tkS 4 hHeld ?_
                try simp only [Act.put, ps1, ps2, ps3]
                refine tkS 5 hHeld ?_
                try simp only [Act.put, ps1, ps2, ps3]
                refine tkS 6 hHeld ?_
                try simp only [Act.put, ps1, ps2, ps3]
                refine tkS 7 hHeld ?_
                try simp only [Act.put, ps1, ps2, ps3]
                refine tkS 8 hHeld ?_
                try simp only [Act.put, ps1, ps2, ps3]
                refine tkS 9 hHeld ?_
                try simp only [Act.put, ps1, ps2, ps3]
                refine tkS 10 hHeld ?_
                try simp only [Act.put, ps1, ps2, ps3]
                refine tkS 11 hHeld ?_
                try simp only [Act.put, ps1, ps2, ps3]
                refine tkS 12 hHeld ?_
                try simp only [Act.put, ps1, ps2, ps3]
                refine tkS 13 hHeld ?_
                try simp only [Act.put, ps1, ps2, ps3]
                refine tkO 14 hHeld ?_
                try simp only [Act.put, ps1, ps2, ps3]
                refine tkO 15 hHeld ?_
                try simp only [Act.put, ps1, ps2, ps3]
                refine tkO 16 hHeld ?_
                try simp only [Act.put, ps1, ps2, ps3]
                refine tkO 17 hHeld ?_
                try simp only [Act.put, ps1, ps2, ps3]
                refine tkO 18 hHeld ?_
                try simp only [Act.put, ps1, ps2, ps3]
                refine tkO 19 hHeld ?_
                try simp only [Act.put, ps1, ps2, ps3]
                refine tkO 20 hHeld ?_
                try simp only [Act.put, ps1, ps2, ps3]
                refine tkO 21 hHeld ?_
                try simp only [Act.put, ps1, ps2, ps3]
                refine tkO 22 hHeld ?_
                try simp only [Act.put, ps1, ps2, ps3]
                refine tkO 23 hHeld ?_
                try simp only [Act.put, ps1, ps2, ps3]
                refine tkO 24 hHeld ?_
                try simp only [Act.put, ps1, ps2, ps3]
                refine tkS 25 hHeld ?_
                try simp only [Act.put, ps1, ps2, ps3]
                refine tkS 26 hHeld ?_
                try simp only [Act.put, ps1, ps2, ps3]
                refine tkS 27 hHeld ?_
                try simp only [Act.put, ps1, ps2, ps3]
                refine wpAnyH_done (by kernel_rfl) ?_ _
                clear hHeld
                go_wp2
                go_roundw
                case rel => exact ⟨m + 1, by omega, by go_num, ⟨false, rfl, HN⟩, drewN_one _ _⟩
                case measure => simp [intOf]; omega
              · rw [e1] at HNX
                cases e2 : (xn == dn)
                all_goals (
                  rw [e2] at HNX
                  have HN := Lib.hid HNX.out.symm
                  clear HNX
                  go_wp2
                  refine wp_region_held_drew (S := (fun w' => w'.cell? ⟨b, o + m * 4, none⟩ = some (.string ⟨xn.toArray⟩) ∧ w'.cell? ⟨b, o + m * 4 + 3, none⟩ = some (.string ⟨xf.toArray⟩) ∧ w'.cell? ⟨b, o + k * 4, none⟩ = some (.string ⟨dn.toArray⟩))) (by kernel_rfl) (⟨x0, x3, d0⟩) (fun hHeld => ?_)
                  refine tkS 0 hHeld ?_
                  try simp only [Act.put, ps1, ps2, ps3]
                  refine tkS 1 hHeld ?_
                  try simp only [Act.put, ps1, ps2, ps3]
                  refine tkS 2 hHeld ?_
                  try simp only [Act.put, ps1, ps2, ps3]
                  refine tkS 3 hHeld ?_
                  try simp only [Act.put, ps1, ps2, ps3]
                  refine tkS 4 hHeld ?_
                  try simp only [Act.put, ps1, ps2, ps3]
                  refine tkS 5 hHeld ?_
                  try simp only [Act.put, ps1, ps2, ps3]
                  refine tkS 6 hHeld ?_
                  try simp only [Act.put, ps1, ps2, ps3]
                  refine tkS 7 hHeld ?_
                  try simp only [Act.put, ps1, ps2, ps3]
                  refine tkS 8 hHeld ?_
                  try simp only [Act.put, ps1, ps2, ps3]
                  refine tkS 9 hHeld ?_
                  try simp only [Act.put, ps1, ps2, ps3]
                  refine tkS 10 hHeld ?_
                  try simp only [Act.put, ps1, ps2, ps3]
                  refine tkS 11 hHeld ?_
                  try simp only [Act.put, ps1, ps2, ps3]
                  refine tkS 12 hHeld ?_
                  try simp only [Act.put, ps1, ps2, ps3]
                  refine tkS 13 hHeld ?_
                  try simp only [Act.put, ps1, ps2, ps3]
                  refine tkS 14 hHeld ?_
                  try simp only [Act.put, ps1, ps2, ps3]
                  refine tkS 15 hHeld ?_
                  try simp only [Act.put, ps1, ps2, ps3]
                  refine tkS 16 hHeld ?_
                  try simp only [Act.put, ps1, ps2, ps3]
                  refine tkS 17 hHeld ?_
                  try simp only [Act.put, ps1, ps2, ps3]
                  refine tkS 18 hHeld ?_
                  try simp only [Act.put, ps1, ps2, ps3]
                  refine tkS 19 hHeld ?_
                  try simp only [Act.put, ps1, ps2, ps3]
                  refine tkS 20 hHeld ?_
                  try simp only [Act.put, ps1, ps2, ps3]
                  refine tkS 21 hHeld ?_
                  try simp only [Act.put, ps1, ps2, ps3]
                  refine tkS 22 hHeld ?_
                  try simp only [Act.put, ps1, ps2, ps3]
                  refine tkS 23 hHeld ?_
                  try simp only [Act.put, ps1, ps2, ps3]
                  refine tkS 24 hHeld ?_
                  try simp only [Act.put, ps1, ps2, ps3]
                  refine tkS 25 hHeld ?_
                  try simp only [Act.put, ps1, ps2, ps3]
                  refine tkS 26 hHeld ?_
                  try simp only [Act.put, ps1, ps2, ps3]
                  refine tkS 27 hHeld ?_
                  try simp only [Act.put, ps1, ps2, ps3]
                  refine wpAnyH_done (by kernel_rfl) ?_ _
                  clear hHeld
                  go_wp2
                  go_roundw
                  case rel => exact ⟨m + 1, by omega, by go_num, ⟨_, rfl, HN⟩, drewN_one _ _⟩
                  case measure => simp [intOf]; omega)
            · have HN : Hid (true = (xs.take (m + 1)).any fun x => ow x && x.name == dn) := Lib.hid (by rw [HNX.out]; rfl)
              clear HNX
              go_wp2
              refine wp_region_held_drew (S := (fun w' => w'.cell? ⟨b, o + m * 4, none⟩ = some (.string ⟨xn.toArray⟩) ∧ w'.cell? ⟨b, o + m * 4 + 3, none⟩ = some (.string ⟨xf.toArray⟩) ∧ w'.cell? ⟨b, o + k * 4, none⟩ = some (.string ⟨dn.toArray⟩))) (by kernel_rfl) (⟨x0, x3, d0⟩) (fun hHeld => ?_)
              refine tkS 0 hHeld ?_
              try simp only [Act.put, ps1, ps2, ps3]
              refine tkS 1 hHeld ?_
              try simp only [Act.put, ps1, ps2, ps3]
              refine tkO 2 hHeld ?_
              try simp only [Act.put, ps1, ps2, ps3]
              refine tkO 3 hHeld ?_
              try simp only [Act.put, ps1, ps2, ps3]
              refine tkO 4 hHeld ?_
              try simp only [Act.put, ps1, ps2, ps3]
              refine tkO 5 hHeld ?_
              try simp only [Act.put, ps1, ps2, ps3]
              refine tkO 6 hHeld ?_
              try simp only [Act.put, ps1, ps2, ps3]
              refine tkO 7 hHeld ?_
              try simp only [Act.put, ps1, ps2, ps3]
              refine tkO 8 hHeld ?_
              try simp only [Act.put, ps1, ps2, ps3]
              refine tkO 9 hHeld ?_
              try simp only [Act.put, ps1, ps2, ps3]
              refine tkO 10 hHeld ?_
              try simp only [Act.put, ps1, ps2, ps3]
              refine tkO 11 hHeld ?_
              try simp only [Act.put, ps1, ps2, ps3]
              refine tkO 12 hHeld ?_
              try simp only [Act.put, ps1, ps2, ps3]
              refine tkO 13 hHeld ?_
              try simp only [Act.put, ps1, ps2, ps3]
              refine tkO 14 hHeld ?_
              try simp only [Act.put, ps1, ps2, ps3]
              refine tkO 15 hHeld ?_
              try simp only [Act.put, ps1, ps2, ps3]
              refine tkO 16 hHeld ?_
              try simp only [Act.put, ps1, ps2, ps3]
              refine tkO 17 hHeld ?_
              try simp only [Act.put, ps1, ps2, ps3]
              refine tkO 18 hHeld ?_
              try simp only [Act.put, ps1, ps2, ps3]
              refine tkO 19 hHeld ?_
              try simp only [Act.put, ps1, ps2, ps3]
              refine tkO 20 hHeld ?_
              try simp only [Act.put, ps1, ps2, ps3]
              refine tkO 21 hHeld ?_
              try simp only [Act.put, ps1, ps2, ps3]
              refine tkO 22 hHeld ?_
              try simp only [Act.put, ps1, ps2, ps3]
              refine tkO 23 hHeld ?_
              try simp only [Act.put, ps1, ps2, ps3]
              refine tkO 24 hHeld ?_
              try simp only [Act.put, ps1, ps2, ps3]
              refine tkO 25 hHeld ?_
              try simp only [Act.put, ps1, ps2, ps3]
              refine tkS 26 hHeld ?_
              try simp only [Act.put, ps1, ps2, ps3]
              refine tkS 27 hHeld ?_
              try simp only [Act.put, ps1, ps2, ps3]
              refine wpAnyH_done (by kernel_rfl) ?_ _
              clear hHeld
              go_wp2
              go_roundw
              case rel => exact ⟨m + 1, by omega, by go_num, ⟨true, rfl, HN⟩, drewN_one _ _⟩
              case measure => simp [intOf]; omega
          · have hme : m = xs.length := by omega
            subst hme
            have t2 : decide ((xs.length : Int) < (xs.length : Int)) = false := by simp
            have hq := HQ.out
            rw [HALL.out] at hq
            have hmb := HMB2.out
            rw [← hq, HOW2.out, hde] at hmb
            have d0 : (wo.drewN qn).cell? ⟨b, o + k * 4, none⟩ = some (.string ⟨dn.toArray⟩) := c0
            have d1 : (wo.drewN qn).cell? ⟨b, o + k * 4 + 1, none⟩ = some (.string ⟨dv.toArray⟩) := c1
            have d2 : (wo.drewN qn).cell? ⟨b, o + k * 4 + 2, none⟩ = some (.bool dh) := c2
            have d3 : (wo.drewN qn).cell? ⟨b, o + k * 4 + 3, none⟩ = some (.string ⟨df.toArray⟩) := c3
            have HO2 : Hid (DSt4 w.heap.size (.slice oa acc.length oc) acc (some ⟨b, o, none⟩) xs (wo.drewN qn)) := HO
            obtain ⟨W5, hW5⟩ : ∃ W5, wo.drewN qn = W5 := ⟨_, rfl⟩
            rw [hW5] at d0 d1 d2 d3 HO2 hsz ⊢
            clear hW5 HQ hq HMB2 HOW2 HALL HANY HOW HRD HO c0 c1 c2 c3
            have yes : mb ⟨dn, dv, dh, df⟩ = true → Hid ((xs.take (k + 1)).filter mb = acc ++ [⟨dn, dv, dh, df⟩]) := fun h => Lib.hid (by rw [HST.out, h]; rfl)
            have no : mb ⟨dn, dv, dh, df⟩ = false → Hid ((xs.take (k + 1)).filter mb = acc) := fun h => Lib.hid (by rw [HST.out, h]; rfl)
            have YES := Lib.hid yes; have NO := Lib.hid no
            clear yes no HST
            cases e1 : (df == dev.toList) <;> cases e3 : df.isEmpty <;> cases q
            all_goals (
              rw [e1, e3] at hmb
              first
                | (have HN := NO.out hmb
                   clear hmb
                   have HO3 : Hid (DSt4 w.heap.size (.slice oa acc.length oc) ((xs.take (k + 1)).filter mb) (some ⟨b, o, none⟩) xs W5) := by rw [HN.out]; exact HO2
                   clear NO YES HO2
                   go_wp2
                   go_roundw
                   case rel => exact ⟨k + 1, by omega, by go_num, HO3, hsz⟩
                   case measure => simp [intOf]; omega)
                | (have HN := YES.out hmb
                   clear hmb
                   clear NO YES
                   go_wp2_with (at_builtin; refine app_dir w.heap.size ⟨dn, dv, dh, df⟩ HO2.out.1 hsz.size hlen2 rfl _ _ rfl rfl rfl ?_)
                   intro v' w7 hO7 hb7 hfar7
                   have hB7 := hsz.trans hb7
                   have HO7 : Hid (DSt4 w.heap.size v' ((xs.take (k + 1)).filter mb) (some ⟨b, o, none⟩) xs w7) := by rw [HN.out]; exact Lib.hid (HO2.out.far hO7 hfar7)
                   clear hO7 hb7 hfar7 HO2
                   go_wp2
                   go_roundw
                   case rel => exact ⟨k + 1, by omega, by go_num, HO7, hB7⟩
                   case measure => simp [intOf]; omega))
      · have hke : k = xs.length := by omega
        subst hke
        clear HSTEP HLEN HMB
        generalize (xs.take xs.length).filter mb = q at *
        have t1 : decide ((xs.length : Int) < (xs.length : Int)) = false := by simp
        go_wp2
        go_ret
        exact ⟨oa, oc, rfl, HO.out.1, hbw⟩
  · go_enter Tryz.func118, Tryz.ntmps118
    go_wp2_with fail
    go_loopw [6, 5] (fun i out wr => ∃ k : Nat, k ≤ xs.length ∧ i = .int .i64 k ∧ Hid (DSt4 w.heap.size out ((xs.take k).filter mb) A xs wr) ∧ Below w.heap.size w wr) (fun i _ _ => xs.length - (intOf i).toNat)
    case atStart => exact ⟨0, Nat.zero_le _, rfl, by rw [H00.out]; exact HS, hB⟩
    case round =>
      clear HS hB H00
      obtain ⟨k, hk, rfl, HO, hbw⟩ := hrel
      obtain ⟨oa, oc, rfl⟩ := HO.out.1.shape
      have hal := HLEN.out k
      by_cases hlt : k < xs.length
      · obtain ⟨b, o, rfl, hl, c0, c1, c2, c3⟩ := HO.out.2.1.dir_at (k := k) hlt
        have hst := HSTEP.out k hlt
        have hmb := HMB.out xs[k]
        have how := HOW.out xs[k]
        have HRD := Lib.hid HO.out.2.1
        generalize xs[k] = d at *
        generalize (xs.take k).filter mb = acc at *
        obtain ⟨dn, dv, dh, df⟩ := d
        simp only at c0 c1 c2 c3 hmb how
        have hlen2 : acc.length ≤ 1000000000 := by omega
        have t1 : decide ((k : Int) < (xs.length : Int)) = true := by simp; omega
        have HST := Lib.hid hst; have HMB2 := Lib.hid hmb; have HOW2 := Lib.hid how
        clear hst hmb how HSTEP HLEN HMB
        go_wp2_with fail
        obtain ⟨wo, rfl⟩ : ∃ wo : World, wo = wr := ⟨_, rfl⟩
        go_loopw [8, 7] (fun j ow2 wi => ∃ m : Nat, m ≤ xs.length ∧ j = .int .i64 m ∧ (∃ q : Bool, ow2 = .bool q ∧ Hid (q = (xs.take m).any fun x => ow x && x.name == dn)) ∧ (∃ qn, wi = wo.drewN qn)) (fun j _ _ => xs.length - (intOf j).toNat)
        case atStart => exact ⟨0, Nat.zero_le _, rfl, ⟨false, rfl, Lib.hid (by simp)⟩, ⟨0, rfl⟩⟩
        case round =>
          obtain ⟨m, hm, rfl, ⟨q, rfl, HQ⟩, ⟨qn, rfl⟩⟩ := hrel
          have hsz : Below w.heap.size w (wo.drewN qn) := below_drewNK hbw qn
          by_cases hlm : m < xs.length
          · obtain ⟨b2, o2, e2, hl2, x0, x1, x2, x3⟩ := (HRD.out.drewN qn).dir_at (k := m) hlm
            cases e2
            have d0 : (wo.drewN qn).cell? ⟨b, o + k * 4, none⟩ = some (.string ⟨dn.toArray⟩) := c0
            have hox := HOW.out xs[m]
            have hnx := HANY.out (fun x => ow x && x.name == dn) m hlm
            rw [← HQ.out] at hnx
            generalize xs[m] = x at *
            obtain ⟨xn, xv, xh, xf⟩ := x
            simp only at x0 x1 x2 x3 hox hnx
            rw [hox, hde] at hnx
            have t2 : decide ((m : Int) < (xs.length : Int)) = true := by simp; omega
            have HNX := Lib.hid hnx
            clear hox hnx HQ
            cases q
            · have HN : Hid (false = (xs.take (m + 1)).any fun x => ow x && x.name == dn) := Lib.hid (by rw [HNX.out]; rfl)
              clear HNX
              go_wp2
              refine wp_region_held_drew (S := (fun w' => w'.cell? ⟨b, o + m * 4, none⟩ = some (.string ⟨xn.toArray⟩) ∧ w'.cell? ⟨b, o + m * 4 + 3, none⟩ = some (.string ⟨xf.toArray⟩) ∧ w'.cell? ⟨b, o + k * 4, none⟩ = some (.string ⟨dn.toArray⟩))) (by kernel_rfl) (⟨x0, x3, d0⟩) (fun hHeld => ?_)
              refine tkS 0 hHeld ?_
              try simp only [Act.put, ps1, ps2, ps3]
              refine tkS 1 hHeld ?_
              try simp only [Act.put, ps1, ps2, ps3]
              refine tkS 2 hHeld ?_
              try simp only [Act.put, ps1, ps2, ps3]
              refine tkS 3 hHeld ?_
              try simp only [Act.put, ps1, ps2, ps3]
              refine tkS 4 hHeld ?_
              try simp only [Act.put, ps1, ps2, ps3]
              refine tkO 5 hHeld ?_
              try simp only [Act.put, ps1, ps2, ps3]
              refine tkO 6 hHeld ?_
              try simp only [Act.put, ps1, ps2, ps3]
              refine tkO 7 hHeld ?_
              try simp only [Act.put, ps1, ps2, ps3]
              refine tkO 8 hHeld ?_
              try simp only [Act.put, ps1, ps2, ps3]
              refine tkO 9 hHeld ?_
              try simp only [Act.put, ps1, ps2, ps3]
              refine tkO 10 hHeld ?_
              try simp only [Act.put, ps1, ps2, ps3]
              refine tkO 11 hHeld ?_
              try simp only [Act.put, ps1, ps2, ps3]
              refine tkS 12 hHeld ?_
              try simp only [Act.put, ps1, ps2, ps3]
              refine tkS 13 hHeld ?_
              try simp only [Act.put, ps1, ps2, ps3]
              refine tkO 14 hHeld ?_
              try simp only [Act.put, ps1, ps2, ps3]
              refine tkO 15 hHeld ?_
              try simp only [Act.put, ps1, ps2, ps3]
              refine tkO 16 hHeld ?_
              try simp only [Act.put, ps1, ps2, ps3]
              refine tkO 17 hHeld ?_
              try simp only [Act.put, ps1, ps2, ps3]
              refine tkO 18 hHeld ?_
              try simp only [Act.put, ps1, ps2, ps3]
              refine tkO 19 hHeld ?_
              try simp only [Act.put, ps1, ps2, ps3]
              refine tkO 20 hHeld ?_
              try simp only [Act.put, ps1, ps2, ps3]
              refine tkO 21 hHeld ?_
              try simp only [Act.put, ps1, ps2, ps3]
              refine tkO 22 hHeld ?_
              try simp only [Act.put, ps1, ps2, ps3]
              refine tkO 23 hHeld ?_
              try simp only [Act.put, ps1, ps2, ps3]
              refine tkO 24 hHeld ?_
              try simp only [Act.put, ps1, ps2, ps3]
              refine tkS 25 hHeld ?_
              try simp only [Act.put, ps1, ps2, ps3]
              refine tkS 26 hHeld ?_
              try simp only [Act.put, ps1, ps2, ps3]
              refine tkS 27 hHeld ?_
              try simp only [Act.put, ps1, ps2, ps3]
              refine wpAnyH_done (by kernel_rfl) ?_ _
              clear hHeld
              go_wp2
              go_roundw
              case rel => exact ⟨m + 1, by omega, by go_num, ⟨false, rfl, HN⟩, drewN_one _ _⟩
              case measure => simp [intOf]; omega
            · have HN : Hid (true = (xs.take (m + 1)).any fun x => ow x && x.name == dn) := Lib.hid (by rw [HNX.out]; rfl)
              clear HNX
              go_wp2
              refine wp_region_held_drew (S := (fun w' => w'.cell? ⟨b, o + m * 4, none⟩ = some (.string ⟨xn.toArray⟩) ∧ w'.cell? ⟨b, o + m * 4 + 3, none⟩ = some (.string ⟨xf.toArray⟩) ∧ w'.cell? ⟨b, o + k * 4, none⟩ = some (.string ⟨dn.toArray⟩))) (by kernel_rfl) (⟨x0, x3, d0⟩) (fun hHeld => ?_)
              refine tkS 0 hHeld ?_
              try simp only [Act.put, ps1, ps2, ps3]
              refine tkS 1 hHeld ?_
              try simp only [Act.put, ps1, ps2, ps3]
              refine tkO 2 hHeld ?_
              try simp only [Act.put, ps1, ps2, ps3]
              refine tkO 3 hHeld ?_
              try simp only [Act.put, ps1, ps2, ps3]
              refine tkO 4 hHeld ?_
              try simp only [Act.put, ps1, ps2, ps3]
              refine tkO 5 hHeld ?_
              try simp only [Act.put, ps1, ps2, ps3]
              refine tkO 6 hHeld ?_
              try simp only [Act.put, ps1, ps2, ps3]
              refine tkO 7 hHeld ?_
              try simp only [Act.put, ps1, ps2, ps3]
              refine tkO 8 hHeld ?_
              try simp only [Act.put, ps1, ps2, ps3]
              refine tkO 9 hHeld ?_
              try simp only [Act.put, ps1, ps2, ps3]
              refine tkO 10 hHeld ?_
              try simp only [Act.put, ps1, ps2, ps3]
              refine tkO 11 hHeld ?_
              try simp only [Act.put, ps1, ps2, ps3]
              refine tkO 12 hHeld ?_
              try simp only [Act.put, ps1, ps2, ps3]
              refine tkO 13 hHeld ?_
              try simp only [Act.put, ps1, ps2, ps3]
              refine tkO 14 hHeld ?_
              try simp only [Act.put, ps1, ps2, ps3]
              refine tkO 15 hHeld ?_
              try simp only [Act.put, ps1, ps2, ps3]
              refine tkO 16 hHeld ?_
              try simp only [Act.put, ps1, ps2, ps3]
              refine tkO 17 hHeld ?_
              try simp only [Act.put, ps1, ps2, ps3]
              refine tkO 18 hHeld ?_
              try simp only [Act.put, ps1, ps2, ps3]
              refine tkO 19 hHeld ?_
              try simp only [Act.put, ps1, ps2, ps3]
              refine tkO 20 hHeld ?_
              try simp only [Act.put, ps1, ps2, ps3]
              refine tkO 21 hHeld ?_
              try simp only [Act.put, ps1, ps2, ps3]
              refine tkO 22 hHeld ?_
              try simp only [Act.put, ps1, ps2, ps3]
              refine tkO 23 hHeld ?_
              try simp only [Act.put, ps1, ps2, ps3]
              refine tkO 24 hHeld ?_
              try simp only [Act.put, ps1, ps2, ps3]
              refine tkO 25 hHeld ?_
              try simp only [Act.put, ps1, ps2, ps3]
              refine tkS 26 hHeld ?_
              try simp only [Act.put, ps1, ps2, ps3]
              refine tkS 27 hHeld ?_
              try simp only [Act.put, ps1, ps2, ps3]
              refine wpAnyH_done (by kernel_rfl) ?_ _
              clear hHeld
              go_wp2
              go_roundw
              case rel => exact ⟨m + 1, by omega, by go_num, ⟨true, rfl, HN⟩, drewN_one _ _⟩
              case measure => simp [intOf]; omega
          · have hme : m = xs.length := by omega
            subst hme
            have t2 : decide ((xs.length : Int) < (xs.length : Int)) = false := by simp
            have hq := HQ.out
            rw [HALL.out] at hq
            have hmb := HMB2.out
            rw [← hq, HOW2.out, hde] at hmb
            have d0 : (wo.drewN qn).cell? ⟨b, o + k * 4, none⟩ = some (.string ⟨dn.toArray⟩) := c0
            have d1 : (wo.drewN qn).cell? ⟨b, o + k * 4 + 1, none⟩ = some (.string ⟨dv.toArray⟩) := c1
            have d2 : (wo.drewN qn).cell? ⟨b, o + k * 4 + 2, none⟩ = some (.bool dh) := c2
            have d3 : (wo.drewN qn).cell? ⟨b, o + k * 4 + 3, none⟩ = some (.string ⟨df.toArray⟩) := c3
            have HO2 : Hid (DSt4 w.heap.size (.slice oa acc.length oc) acc (some ⟨b, o, none⟩) xs (wo.drewN qn)) := HO
            obtain ⟨W5, hW5⟩ : ∃ W5, wo.drewN qn = W5 := ⟨_, rfl⟩
            rw [hW5] at d0 d1 d2 d3 HO2 hsz ⊢
            clear hW5 HQ hq HMB2 HOW2 HALL HANY HOW HRD HO c0 c1 c2 c3
            have yes : mb ⟨dn, dv, dh, df⟩ = true → Hid ((xs.take (k + 1)).filter mb = acc ++ [⟨dn, dv, dh, df⟩]) := fun h => Lib.hid (by rw [HST.out, h]; rfl)
            have no : mb ⟨dn, dv, dh, df⟩ = false → Hid ((xs.take (k + 1)).filter mb = acc) := fun h => Lib.hid (by rw [HST.out, h]; rfl)
            have YES := Lib.hid yes; have NO := Lib.hid no
            clear yes no HST
            cases e1 : (df == dev.toList) <;> cases e3 : df.isEmpty <;> cases q
            all_goals (
              rw [e1, e3] at hmb
              first
                | (have HN := NO.out hmb
                   clear hmb
                   have HO3 : Hid (DSt4 w.heap.size (.slice oa acc.length oc) ((xs.take (k + 1)).filter mb) (some ⟨b, o, none⟩) xs W5) := by rw [HN.out]; exact HO2
                   clear NO YES HO2
                   go_wp2
                   go_roundw
                   case rel => exact ⟨k + 1, by omega, by go_num, HO3, hsz⟩
                   case measure => simp [intOf]; omega)
                | (have HN := YES.out hmb
                   clear hmb
                   clear NO YES
                   go_wp2_with (at_builtin; refine app_dir w.heap.size ⟨dn, dv, dh, df⟩ HO2.out.1 hsz.size hlen2 rfl _ _ rfl rfl rfl ?_)
                   intro v' w7 hO7 hb7 hfar7
                   have hB7 := hsz.trans hb7
                   have HO7 : Hid (DSt4 w.heap.size v' ((xs.take (k + 1)).filter mb) (some ⟨b, o, none⟩) xs w7) := by rw [HN.out]; exact Lib.hid (HO2.out.far hO7 hfar7)
                   clear hO7 hb7 hfar7 HO2
                   go_wp2
                   go_roundw
                   case rel => exact ⟨k + 1, by omega, by go_num, HO7, hB7⟩
                   case measure => simp [intOf]; omega))
      · have hke : k = xs.length := by omega
        subst hke
        clear HSTEP HLEN HMB
        generalize (xs.take xs.length).filter mb = q at *
        have t1 : decide ((xs.length : Int) < (xs.length : Int)) = false := by simp
        go_wp2
        go_ret
        exact ⟨oa, oc, rfl, HO.out.1, hbw⟩
end Go.Proofs.YtcgdcbnhpbokfaaGreatDoor
/- The walks of the document's Say and List (layer 12). -/
namespace Go.Proofs.YtcgdcbnhpbokfaaGreatDoor
open Go.RowKit
set_option maxRecDepth 100000

set_option maxHeartbeats 8000000 in
theorem rsay12_any (s : ByteArray) (w : World) (hs : s.size ≤ 1000000) :
    Calls Tryz.prog 161 #[.string s] w (DirsPost w (sayS s.data.toList)) := by
  have k1 := rsplit_any s 59 w hs
  have htot := split_total 59 s.data.toList
  rw [← Lib.size_eq] at htot
  have hs0 : sayS s.data.toList = bif (splitL 59 s.data.toList).2 != 0 then [neverD] else match (splitL 59 s.data.toList).1 with
    | [a] => oneOf (saidO a).toList []
    | [a, b] => bif tokenL b then oneOf (saidO a).toList b else []
    | _ => [] := rfl
  rw [hs0]
  clear hs0
  generalize splitL 59 s.data.toList = r at *
  obtain ⟨ps, er⟩ := r
  simp only at htot ⊢
  cases hz : (er != 0)
  · have hz0 : er = 0 := by simpa [bne] using hz
    subst hz0
    rw [cond_false]
    have hmem := fun p (hp : p ∈ ps) => total_mem hp
    rcases ps with _ | ⟨p0, _ | ⟨p1, _ | ⟨p2, r⟩⟩⟩
    · have K1 := Lib.hid k1; clear k1
      go_enter Tryz.func161, Tryz.ntmps161
      go_wp2_with fail
      refine K1.out.mono ?_
      rintro e w1 ⟨a1, c1, rfl, ho1, hb1⟩
      go_wp2
      go_ret
      exact DirsPost.nil hb1
    · show Calls Tryz.prog _ _ w (DirsPost w (oneOf (saidO p0).toList []))
      have hp0 : p0.length ≤ 1000000 := by have := hmem p0 (by simp); omega
      clear hmem htot
      have k2 := fun W => rsay_any ⟨p0.toArray⟩ W (by rw [Lib.size_eq]; exact hp0)
      simp only at k2
      generalize saidO p0 = o0 at *
      rcases o0 with _ | ⟨dn, dv, dh, df⟩
      all_goals (
        unfold saidV at k2
        have K1 := Lib.hid k1; have K2 := Lib.hid k2; clear k1 k2
        go_enter Tryz.func161, Tryz.ntmps161
        go_wp2_with fail
        refine K1.out.mono ?_
        rintro e w1 ⟨a1, c1, rfl, ho1, hb1⟩
        obtain ⟨b, o, rfl, hl, x0⟩ := ho1.rd.2.str_at (k := 0) (by simp)
        have x0' : w1.cell? ⟨b, o, none⟩ = some (.string ⟨p0.toArray⟩) := x0
        clear x0 ho1
        go_wp2_with fail
        refine (K2.out _).mono ?_
        rintro e w2 ⟨rfl, hb2⟩
        have hB2 := bt hb1 hb2
        clear x0' hb2 hb1)
      · go_wp2
        go_ret
        exact DirsPost.nil (hB2.alloc hB2.size _)
      · go_wp2
        go_ret
        have hh := World.alloc_heap_new (w2.alloc (.cells #[.string ⟨dn.toArray⟩, .string ⟨dv.toArray⟩, .bool dh, .string ⟨df.toArray⟩] 84)) (.cells #[.string ⟨dn.toArray⟩, .string ⟨dv.toArray⟩, .bool dh, .string ⟨df.toArray⟩] 84)
        rw [World.size_alloc] at hh
        have hsz := hB2.size
        exact ⟨_, _, rfl, OwnD.one (d := ⟨dn, dv, dh, df⟩) hh (by omega), (hB2.alloc hB2.size _).alloc (by simp; omega) _⟩
    · show Calls Tryz.prog _ _ w (DirsPost w (bif tokenL p1 then oneOf (saidO p0).toList p1 else []))
      have hp0 : p0.length ≤ 1000000 := by have := hmem p0 (by simp); omega
      have hp1 : p1.length ≤ 1000000 := by have := hmem p1 (by simp); omega
      clear hmem htot
      have k2 := fun W => rsay_any ⟨p0.toArray⟩ W (by rw [Lib.size_eq]; exact hp0)
      have k3 := fun W => rtoken_any ⟨p1.toArray⟩ W (by rw [Lib.size_eq]; exact hp1)
      simp only at k2 k3
      have hne : tokenL p1 = true → p1.isEmpty = false := fun h => (token_all h).2
      generalize saidO p0 = o0 at *
      rcases o0 with _ | ⟨dn, dv, dh, df⟩
      · have hno : (bif tokenL p1 then oneOf (none : Option Dir).toList p1 else []) = [] := by cases tokenL p1 <;> rfl
        rw [hno]
        clear hno hne k3
        unfold saidV at k2
        have K1 := Lib.hid k1; have K2 := Lib.hid k2; clear k1 k2
        go_enter Tryz.func161, Tryz.ntmps161
        go_wp2_with fail
        refine K1.out.mono ?_
        rintro e w1 ⟨a1, c1, rfl, ho1, hb1⟩
        obtain ⟨b, o, rfl, hl, x0⟩ := ho1.rd.2.str_at (k := 0) (by simp)
        have x0' : w1.cell? ⟨b, o, none⟩ = some (.string ⟨p0.toArray⟩) := x0
        clear x0 ho1
        go_wp2_with fail
        refine (K2.out _).mono ?_
        rintro e w2 ⟨rfl, hb2⟩
        have hB2 := bt hb1 hb2
        clear x0' hb2 hb1
        go_wp2
        go_ret
        exact DirsPost.nil (hB2.alloc hB2.size _)
      · cases ht : tokenL p1
        all_goals (
          rw [ht] at k3
          simp only [cond_true, cond_false]
          have HNE : Hid (tokenL p1 = true → p1.isEmpty = false) := Lib.hid hne
          have HT := Lib.hid ht
          unfold saidV at k2
          have K1 := Lib.hid k1; have K2 := Lib.hid k2; have K3 := Lib.hid k3; clear k1 k2 k3 hne ht
          go_enter Tryz.func161, Tryz.ntmps161
          go_wp2_with fail
          refine K1.out.mono ?_
          rintro e w1 ⟨a1, c1, rfl, ho1, hb1⟩
          obtain ⟨b, o, rfl, hl, x0⟩ := ho1.rd.2.str_at (k := 0) (by simp)
          have x0' : w1.cell? ⟨b, o, none⟩ = some (.string ⟨p0.toArray⟩) := x0
          obtain ⟨b', o', e', _, x1⟩ := ho1.rd.2.str_at (k := 1) (by simp)
          cases e'
          have x1' : w1.cell? ⟨b, o + 1, none⟩ = some (.string ⟨p1.toArray⟩) := x1
          clear x0 x1 ho1
          go_wp2_with fail
          refine (K2.out _).mono ?_
          rintro e w2 ⟨rfl, hb2⟩
          have hB2 := bt hb1 hb2
          obtain ⟨g0, g1, g2, g3, q0, q1, q2, q3, glt⟩ := at4_alloc w2 (.string ⟨dn.toArray⟩) (.string ⟨dv.toArray⟩) (.bool dh) (.string ⟨df.toArray⟩) 84
          have hal := (Below.refl w2.heap.size w2).alloc (Nat.le_refl _) (.cells #[.string ⟨dn.toArray⟩, .string ⟨dv.toArray⟩, .bool dh, .string ⟨df.toArray⟩] 84)
          have x2 := (hal.cell (p := ⟨b, o + 1, none⟩) (Nat.lt_of_lt_of_le hl hb2.size)).trans ((hb2.cell (p := ⟨b, o + 1, none⟩) hl).trans x1')
          have hB3 := hB2.trans (hal.mono hB2.size)
          have hbg : b ≠ w2.heap.size := by have := hb2.size; omega
          have x2e := x2
          obtain ⟨W3, hW3⟩ : ∃ W3, w2.alloc (.cells #[.string ⟨dn.toArray⟩, .string ⟨dv.toArray⟩, .bool dh, .string ⟨df.toArray⟩] 84) = W3 := ⟨_, rfl⟩
          rw [hW3] at g0 g1 g2 g3 q0 q1 q2 q3 glt x2 hB3
          have HW3 := Lib.hid hW3
          clear x0' x1' hb2 hb1 hal hW3
          go_wp2_with fail
          rw [HW3.out]
          refine (K3.out _).mono ?_
          rintro e w4 ⟨rfl, rfl⟩)
        · go_wp2
          go_ret
          exact DirsPost.nil hB3
        · go_wp2
          go_ret
          have hsz := hB3.size
          have hh := World.alloc_heap_new (W3.setCell ⟨w2.heap.size, 3, none⟩ (.string ⟨p1.toArray⟩)) (.cells (dirV ⟨dn, dv, dh, p1⟩).toArray 84)
          rw [World.size_setCell] at hh
          have hres := OwnD.one (B := w.heap.size) (d := ⟨dn, dv, dh, p1⟩) hh (by omega)
          have hone : oneOf (some (⟨dn, dv, dh, df⟩ : Dir)).toList p1 = [⟨dn, dv, dh, p1⟩] := by
            unfold oneOf; simp only [Option.toList]; rw [HNE.out HT.out]; rfl
          rw [hone]
          exact ⟨_, _, rfl, hres, (hB3.setCell hB2.size _).alloc (by simp; omega) _⟩
    · have K1 := Lib.hid k1; clear k1
      have t0 : (((r.length : Int) + 1 + 1 + 1) == 0) = false := by simp; omega
      have t1 : decide (2 < (r.length : Int) + 1 + 1 + 1) = true := by simp; omega
      go_enter Tryz.func161, Tryz.ntmps161
      go_wp2_with fail
      refine K1.out.mono ?_
      rintro e w1 ⟨a1, c1, rfl, ho1, hb1⟩
      go_wp2
      go_ret
      exact DirsPost.nil hb1
  · rw [cond_true]
    have hz1 : (er == 0) = false := by simpa [bne] using hz
    have K1 := Lib.hid k1; clear k1
    go_enter Tryz.func161, Tryz.ntmps161
    go_wp2_with fail
    refine K1.out.mono ?_
    rintro e w1 ⟨a1, c1, rfl, ho1, hb1⟩
    go_wp2
    go_ret
    exact ⟨_, _, rfl, OwnD.one (World.alloc_heap_new w1 _) hb1.size, hb1.alloc hb1.size _⟩
set_option maxHeartbeats 16000000 in
theorem rsurList_any (A : Option Addr) (n c : Nat) (vs : List (List UInt8)) (w : World) (hr : Rd A n 1 (strsV vs) w) (hn : n ≤ 10000) (hl : ∀ v ∈ vs, v.length ≤ 1000000) :
    Calls Tryz.prog 119 #[.slice A n c] w (DirsPost w (slistL vs)) := by
  obtain rfl := hr.str
  have hS : DSt w.heap.size (.slice none 0 0) [] A vs w := ⟨OwnD.nil _ _, hr, fun _ g o e x => by cases x⟩
  have hB := Below.refl w.heap.size w
  have h00 : slistL (vs.take 0) = [] := rfl
  have hstep := fun k (h : k < vs.length) => fmap_take tellsV vs k h
  have hlen : ∀ k, (slistL (vs.take k)).length ≤ 1000000 := fun k => by
    have := slist_le (vs.take k); have h2 : (vs.take k).length ≤ vs.length := by rw [List.length_take]; omega
    omega
  simp only [← slist_eq] at hstep
  have hfin : slistL (vs.take vs.length) = slistL vs := by rw [List.take_length]
  have HS := Lib.hid hS; have H00 := Lib.hid h00; have HSTEP := Lib.hid hstep; have HLEN := Lib.hid hlen; have HH := Lib.hid hfin; have HML := Lib.hid hl
  clear hS h00 hstep hlen hfin hl hr
  go_enter Tryz.func119, Tryz.ntmps119
  go_wp2_with fail
  go_loopw [4, 3] (fun i out wr => ∃ k : Nat, k ≤ vs.length ∧ i = .int .i64 k ∧ Hid (DSt w.heap.size out (slistL (vs.take k)) A vs wr) ∧ Below w.heap.size w wr) (fun i _ _ => vs.length - (intOf i).toNat)
  case atStart => exact ⟨0, Nat.zero_le _, rfl, by rw [H00.out]; exact HS, hB⟩
  case round =>
    clear HS hB H00
    obtain ⟨k, hk, rfl, HO, hbw⟩ := hrel
    obtain ⟨oa, oc, rfl⟩ := HO.out.1.shape
    have hal := HLEN.out k
    by_cases hlt : k < vs.length
    · obtain ⟨b, o, rfl, hl, c1⟩ := HO.out.2.1.str_at (k := k) hlt
      have hst := HSTEP.out k hlt
      have hv := HML.out vs[k] (List.getElem_mem _)
      generalize vs[k] = v at *
      have k2 := fun w => rsplit_any ⟨v.toArray⟩ 44 w (by rw [Lib.size_eq]; exact hv)
      simp only at k2
      have hfew := split_few 44 v
      have hpt := split_total 44 v
      have htv : tellsV v = bif (splitL 44 v).2 == 0 then (splitL 44 v).1.flatMap sayS else [neverD] := rfl
      generalize splitL 44 v = r at *
      obtain ⟨ps, er⟩ := r
      simp only at hfew hpt htv
      rw [htv] at hst
      generalize slistL (vs.take k) = acc at *
      cases hz : (er == 0)
      · rw [hz, cond_false] at hst
        have n0 : (er != 0) = true := by simp [bne, hz]
        have K2 := Lib.hid k2; have HST := Lib.hid hst
        clear k2 hst hpt hfew htv HSTEP HML HLEN hv
        go_wp2_with fail
        refine (K2.out _).mono ?_
        rintro e w3 ⟨a3, c3, rfl, ho3, hb3⟩
        simp only at ho3 ⊢
        have hB3 := hbw.trans (hb3.mono hbw.size)
        have HO3 := Lib.hid (HO.out.below hb3)
        clear ho3 hb3 hbw HO c1 K2
        have hal2 : acc.length ≤ 1000000000 := by omega
        have HO4 := HO3
        have hB4 := hB3
        go_wp2_with (at_builtin; refine app_dir w.heap.size neverD HO4.out.1 hB4.size hal2 rfl _ _ rfl rfl rfl ?_)
        intro v' w7 hO7 hb7 hfar7
        have hB7 := hB4.trans hb7
        have HO7 : Hid (DSt w.heap.size v' (slistL (vs.take (k + 1))) (some ⟨b, o, none⟩) vs w7) := by rw [HST.out]; exact Lib.hid (HO4.out.far hO7 hfar7)
        clear hO7 hb7 hfar7 HO4 HO3 hB3 HST
        go_wp2
        go_roundw
        case rel => exact ⟨k + 1, by omega, by go_num, HO7, hB7⟩
        case measure => simp [intOf]; omega
      · rw [hz, cond_true] at hst
        have n0 : (er != 0) = false := by simp [bne, hz]
        have her : er = 0 := by simpa using hz
        have hps : ∀ p ∈ ps, p.length ≤ 1000000 := fun p hp => by have := total_mem hp; omega
        have hft : ∀ m (h : m < ps.length), acc ++ (ps.take (m + 1)).flatMap sayS = (acc ++ (ps.take m).flatMap sayS) ++ sayS ps[m] := fun m h => by rw [fmap_take sayS ps m h, List.append_assoc]
        have hfl : ∀ m, (acc ++ (ps.take m).flatMap sayS).length ≤ 2000000 := by
          intro m
          have h1 := says_le (ps.take m)
          have h2 : (ps.take m).length ≤ ps.length := by rw [List.length_take]; omega
          rw [List.length_append]; omega
        have hfin : slistL (vs.take (k + 1)) = acc ++ (ps.take ps.length).flatMap sayS := by rw [List.take_length]; exact hst
        have h0 : acc ++ (ps.take 0).flatMap sayS = acc := by simp
        have K2 := Lib.hid k2; have HPS := Lib.hid hps; have HFT := Lib.hid hft; have HFL := Lib.hid hfl; have HFIN := Lib.hid hfin; have H0 := Lib.hid h0
        clear k2 hst hv hpt hps hft hfl hfin h0 htv HSTEP HML HLEN her
        go_wp2_with fail
        refine (K2.out _).mono ?_
        rintro e w3 ⟨a3, c3, rfl, ho3, hb3⟩
        simp only at ho3 ⊢
        have hB3 := hbw.trans (hb3.mono hbw.size)
        have HO3 := Lib.hid (HO.out.below hb3)
        have HP3 := Lib.hid (HO.out.beside hb3 ho3)
        clear ho3 hb3 hbw HO c1 K2
        go_wp2_with fail
        obtain ⟨wo, rfl⟩ : ∃ wo : World, wo = wr := ⟨_, rfl⟩
        go_loopw [7, 3] (fun j out wi => ∃ m : Nat, m ≤ ps.length ∧ j = .int .i64 m ∧ Hid (DSt w.heap.size out (acc ++ (ps.take m).flatMap sayS) (some ⟨b, o, none⟩) vs wi) ∧ Hid (DSt w.heap.size out (acc ++ (ps.take m).flatMap sayS) a3 ps wi) ∧ Below w.heap.size w wi) (fun j _ _ => ps.length - (intOf j).toNat)
        case atStart => exact ⟨0, Nat.zero_le _, rfl, by rw [H0.out]; exact HO3, by rw [H0.out]; exact HP3, hB3⟩
        case round =>
          clear HO3 HP3 hB3 H0
          obtain ⟨m, hm, rfl, HO, HP, hbi⟩ := hrel
          obtain ⟨pa, pc, rfl⟩ := HO.out.1.shape
          have hal2 := HFL.out m
          by_cases hlm : m < ps.length
          · obtain ⟨b2, o2, rfl, hl2, c2⟩ := HP.out.2.1.str_at (k := m) hlm
            have hpp := HPS.out ps[m] (List.getElem_mem _)
            have hft := HFT.out m hlm
            have hsl := sayS_le ps[m]
            generalize ps[m] = p at *
            have k4 := rsay12_any ⟨p.toArray⟩ wr (by rw [Lib.size_eq]; exact hpp)
            simp only at k4
            generalize sayS p = q at *
            generalize acc ++ (ps.take m).flatMap sayS = ac at *
            have hal3 : ac.length + q.length ≤ 1000000000 := by omega
            have HFT2 := Lib.hid hft; have K4 := Lib.hid k4
            clear hft k4 hpp
            go_wp2_with fail
            refine K4.out.mono ?_
            rintro e w4 ⟨a4, c4, rfl, ho4, hb4⟩
            have hB4 := hbi.trans (hb4.mono hbi.size)
            have HO4 := Lib.hid (HO.out.below hb4)
            have HP4 := Lib.hid (HP.out.below hb4)
            have HR4 := Lib.hid ho4.rd.2
            clear HO HP ho4 hb4 c2 K4
            go_wp2_with (at_builtin; refine app_dirs w.heap.size HO4.out.1 hB4.size HR4.out hal3 rfl _ _ rfl rfl rfl ?_)
            intro v' w7 hO7 hb7 hfar7
            have hB7 := hB4.trans hb7
            have HO7 : Hid (DSt w.heap.size v' (acc ++ (ps.take (m + 1)).flatMap sayS) (some ⟨b, o, none⟩) vs w7) := by rw [HFT2.out]; exact Lib.hid (HO4.out.far hO7 hfar7)
            have HP7 : Hid (DSt w.heap.size v' (acc ++ (ps.take (m + 1)).flatMap sayS) (some ⟨b2, o2, none⟩) ps w7) := by rw [HFT2.out]; exact Lib.hid (HP4.out.far hO7 hfar7)
            clear hO7 hb7 hfar7 HO4 HP4 HFT2
            go_wp2
            go_roundw
            case rel => exact ⟨m + 1, by omega, by go_num, HO7, HP7, hB7⟩
            case measure => simp [intOf]; omega
          · have hme : m = ps.length := by omega
            subst hme
            have HN : Hid (DSt w.heap.size (.slice pa (acc ++ (ps.take ps.length).flatMap sayS).length pc) (slistL (vs.take (k + 1))) (some ⟨b, o, none⟩) vs wr) := by rw [HFIN.out]; exact HO
            clear HO HP HFT HFL HFIN HPS
            go_wp2
            go_roundw
            case rel => exact ⟨k + 1, by omega, by go_num, HN, hbi⟩
            case measure => simp [intOf]; omega
    · have hke : k = vs.length := by omega
      subst hke
      have hfin := HH.out
      clear HSTEP HML HLEN HH
      generalize slistL (vs.take vs.length) = q at *
      subst hfin
      go_wp2
      go_ret
      exact ⟨oa, oc, rfl, HO.out.1, hbw⟩
end Go.Proofs.YtcgdcbnhpbokfaaGreatDoor
/- The walk of the document's Delta. -/
namespace Go.Proofs.YtcgdcbnhpbokfaaGreatDoor
open Go.RowKit

set_option maxHeartbeats 1000000 in
theorem rof_any (n : Int) (w : World) :
    Calls Tryz.prog 111 #[.int .i64 n] w fun e w' => e = .returned (.int .i64 (bnd n)) ∧ w = w' := by
  rcases (by omega : n < 0 ∨ (0 ≤ n ∧ n ≤ 2147483648) ∨ 2147483648 < n) with h | ⟨h, h2⟩ | h
  · have Hb := Lib.hid (bnd_neg h)
    go_enter Tryz.func111, Tryz.ntmps111
    go_wp2
    go_ret
    exact ⟨ret_int Hb.out.symm, rfl⟩
  · have Hb := Lib.hid (bnd_in h h2)
    go_enter Tryz.func111, Tryz.ntmps111
    go_wp2
    go_ret
    exact ⟨ret_int Hb.out.symm, rfl⟩
  · have Hb := Lib.hid (bnd_big h)
    go_enter Tryz.func111, Tryz.ntmps111
    go_wp2
    go_ret
    exact ⟨ret_int Hb.out.symm, rfl⟩

set_option maxHeartbeats 4000000 in
theorem rdelta_any (s : ByteArray) (w : World) (hs : s.size ≤ 1000000) :
    Calls Tryz.prog 53 #[.string s] w fun e w' => e = .returned (deltaV s.data.toList) ∧ w = w' := by
  by_cases h0 : 0 < s.size
  · have hne : s.toList.isEmpty = false := by rw [Lib.toList_data]; exact ne_of_pos s h0
    have hB : ∀ k (h : k < s.size), dgt s[k] = false → deltaV s.data.toList = .tuple #[.int .i64 0, .bool false] := fun k h hb => delta_bad s k h hb
    have HB := Lib.hid hB
    have hL : ∀ f (hf : f < s.size), s.data.toList.all dgt = true → (∀ c ∈ s.data.toList.take f, c.toNat = 48) → ¬ s[f].toNat = 48 → 10 < s.size - f → deltaV s.data.toList = .tuple #[.int .i64 2147483648, .bool true] := fun f hf => delta_long s f hf
    have hS : ∀ f, s.data.toList.all dgt = true → (∀ c ∈ s.data.toList.take f, c.toNat = 48) → deltaV s.data.toList = .tuple #[.int .i64 (bnd (val (s.data.toList.drop f))), .bool true] := fun f => delta_short s f h0
    have HL := Lib.hid hL; have HS := Lib.hid hS
    clear hB hL hS
    generalize deltaV s.data.toList = out at *
    go_enter Tryz.func53, Tryz.ntmps53
    go_wp2
    clear hne
    go_loop [5, 4] (fun i g => ∃ (k f : Nat), k ≤ s.size ∧ f ≤ k ∧ i = .int .i64 k ∧ g = .int .i64 f ∧ Hid ((s.data.toList.take k).all dgt = true) ∧ Hid (∀ c ∈ s.data.toList.take f, c.toNat = 48) ∧ Hid (f < k → ∀ h : f < s.size, ¬ s[f].toNat = 48)) (fun i _ => s.size - (intOf i).toNat)
    case atStart => exact ⟨0, 0, Nat.zero_le _, Nat.le_refl _, rfl, rfl, by show _ = _; simp, by show ∀ c ∈ _, _; simp, fun h => absurd h (by omega)⟩
    case round =>
      obtain ⟨k, f, hk, hfk, rfl, rfl, Hall, Hz, Hnz⟩ := hrel
      by_cases hlt : k < s.size
      · have hu := u8_lt s[k]
        have hd := dgtI s[k]
        cases c1 : decide (48 ≤ (s[k].toNat : Int)) <;> cases c2 : decide ((s[k].toNat : Int) ≤ 57)
        · exfalso; simp at c1 c2; omega
        · have hf := HB.out k hlt (by rw [hd, c1, c2]; rfl)
          have Hf := Lib.hid hf; clear hf hd
          have c3 : decide ((s[k].toNat : Int) < 48) = true := by simp at c1 ⊢; omega
          go_wp2
          go_ret2
          exact ⟨by rw [Hf.out]; rfl, rfl⟩
        · have hf := HB.out k hlt (by rw [hd, c1, c2]; rfl)
          have Hf := Lib.hid hf; clear hf hd
          have c3 : decide ((s[k].toNat : Int) < 48) = false := by simp at c1 ⊢; omega
          have c4 : decide (57 < (s[k].toNat : Int)) = true := by simp at c2 ⊢; omega
          go_wp2
          go_ret2
          exact ⟨by rw [Hf.out]; rfl, rfl⟩
        · have hn : (s.data.toList.take (k + 1)).all dgt = true := by rw [all_snoc dgt s k hlt, Hall.out, hd, c1, c2]; rfl
          have c3 : decide ((s[k].toNat : Int) < 48) = false := by simp at c1 ⊢; omega
          have c4 : decide (57 < (s[k].toNat : Int)) = false := by simp at c2 ⊢; omega
          have Hn := Lib.hid hn; clear hn hd c1 c2
          cases c5 : ((s[k].toNat : Int) == 48)
          · have hq : f < k + 1 → ∀ h : f < s.size, ¬ s[f].toNat = 48 := by
              intro h1 h2
              by_cases e : f = k
              · subst e; simp at c5; omega
              · exact Hnz.out (by omega) h2
            have Hq := Lib.hid hq; clear hq
            go_wp2
            go_round
            case rel => exact ⟨k + 1, f, by omega, by omega, by go_num, rfl, Hn, Hz, Hq⟩
            case measure => simp [intOf]; omega
          · by_cases e : f = k
            · subst e
              have c6 : ((f : Int) == f) = true := by simp
              have hq : ∀ c ∈ s.data.toList.take (f + 1), c.toNat = 48 := by
                rw [take_snoc s f hlt]; intro c hc
                rcases List.mem_append.1 hc with h | h
                · exact Hz.out c h
                · obtain rfl := List.mem_singleton.1 h; simp at c5; omega
              have Hq := Lib.hid hq; clear hq
              go_wp2
              go_round
              case rel => exact ⟨f + 1, f + 1, by omega, by omega, by go_num, by go_num, Hn, Hq, fun h => absurd h (by omega)⟩
              case measure => simp [intOf]; omega
            · have c6 : ((f : Int) == k) = false := by rw [beq_eq_false_iff_ne]; omega
              have hq : f < k + 1 → ∀ h : f < s.size, ¬ s[f].toNat = 48 := fun _ h2 => Hnz.out (by omega) h2
              have Hq := Lib.hid hq; clear hq
              go_wp2
              go_round
              case rel => exact ⟨k + 1, f, by omega, by omega, by go_num, rfl, Hn, Hz, Hq⟩
              case measure => simp [intOf]; omega
      · have hke : k = s.size := by omega
        have hall : s.data.toList.all dgt = true := by have := Hall.out; rwa [take_all s k (by omega)] at this
        by_cases hlg : 10 < s.size - f
        · have hf := HL.out f (by omega) hall Hz.out (Hnz.out (by omega) (by omega)) hlg
          have Hf := Lib.hid hf; clear hf hall
          have Hke := Lib.hid hke; clear hke
          have c7 : decide (10 < (s.size : Int) - f) = true := by simp; omega
          go_wp2
          go_ret2
          exact ⟨by rw [Hf.out]; rfl, rfl⟩
        · have hf := HS.out f hall Hz.out
          have Hf := Lib.hid hf; clear hf
          have Hke := Lib.hid hke; clear hke
          have Hal := Lib.hid hall; clear hall
          have c7 : decide (10 < (s.size : Int) - f) = false := by simp; omega
          have hfs : f ≤ s.size := by have := Hke.out; omega
          go_wp2
          clear c7 hlt
          go_loop [7, 6] (fun i n => ∃ (j v : Nat), f ≤ j ∧ j ≤ s.size ∧ i = .int .i64 j ∧ n = .int .i64 v ∧ v < 10000000000 ∧ Hid (v = val ((s.data.toList.drop f).take (j - f)))) (fun i _ => s.size - (intOf i).toNat)
          case atStart => exact ⟨f, 0, Nat.le_refl _, hfs, rfl, rfl, by decide, by show _ = _; rw [Nat.sub_self]; rfl⟩
          case round =>
            obtain ⟨j, v, hfj, hj, rfl, rfl, hv, Hv⟩ := hrel
            by_cases hlt : j < s.size
            · have hu := u8_lt s[j]
              have hmem : dgt s[j] = true := by
                have h1 := Hal.out
                rw [List.all_eq_true] at h1
                exact h1 s[j] (by show s.data[j] ∈ _; simp)
              have hd := dgtI s[j]
              rw [hmem] at hd
              have c5 : (48 : Int) ≤ (s[j].toNat : Int) := by simp at hd; omega
              have hnx : (s.data.toList.drop f).take (j + 1 - f) = (s.data.toList.drop f).take (j - f) ++ [s[j]] := by
                rw [show j + 1 - f = (j - f) + 1 from by omega, List.take_succ_eq_append_getElem (by rw [List.length_drop, ← Lib.size_eq]; omega)]
                congr 2
                rw [List.getElem_drop, at_list s j hlt]; congr 1; omega
              have hvn : 10 * v + (s[j].toNat - 48) = val ((s.data.toList.drop f).take (j + 1 - f)) := by rw [hnx, val_snoc, Hv.out]
              have hvl : 10 * v + (s[j].toNat - 48) < 10000000000 := by
                rw [hvn]
                have hal2 : ((s.data.toList.drop f).take (j + 1 - f)).all dgt = true := by
                  rw [List.all_eq_true]; intro x hx
                  exact List.all_eq_true.1 Hal.out x (List.mem_of_mem_drop (List.mem_of_mem_take hx))
                have h1 := val_lt _ hal2
                have h2 : ((s.data.toList.drop f).take (j + 1 - f)).length ≤ 10 := by rw [List.length_take, List.length_drop, ← Lib.size_eq]; omega
                have h3 : (10 : Nat) ^ ((s.data.toList.drop f).take (j + 1 - f)).length ≤ 10 ^ 10 := Nat.pow_le_pow_right (by decide) h2
                have : (10 : Nat) ^ 10 = 10000000000 := rfl
                omega
              have Hvn := Lib.hid hvn; clear hvn hd hmem hnx
              go_wp2
              go_round
              case rel => exact ⟨j + 1, 10 * v + (s[j].toNat - 48), by omega, by omega, by go_num, by congr 1; omega, hvl, Hvn⟩
              case measure => simp [intOf]; omega
            · have hv2 : v = val (s.data.toList.drop f) := by
                rw [Hv.out, List.take_of_length_le (by rw [List.length_drop, ← Lib.size_eq]; omega)]
              have Hv2 := Lib.hid hv2; clear hv2
              go_wp2_with (go_at_call 111; refine (rof_any _ _).mono ?_; rintro e w' ⟨rfl, rfl⟩)
              go_ret2
              exact ⟨by rw [Hf.out, ← Hv2.out]; rfl, rfl⟩
  · have he : s.data.toList = [] := by apply List.eq_nil_of_length_eq_zero; rw [← Lib.size_eq]; omega
    have hne : s.toList.isEmpty = true := by rw [Lib.toList_data, he]; rfl
    rw [he]
    clear he
    go_enter Tryz.func53, Tryz.ntmps53
    go_wp2
    go_ret2
    exact ⟨rfl, rfl⟩
end Go.Proofs.YtcgdcbnhpbokfaaGreatDoor
/- The walks of the document's first, word, ages, Of (layer 12). -/
namespace Go.Proofs.YtcgdcbnhpbokfaaGreatDoor
open Go.RowKit
set_option maxRecDepth 100000

def optV (o : Option (List UInt8)) : Value := .tuple #[.string ⟨(o.getD []).toArray⟩, .bool o.isSome]
set_option maxHeartbeats 4000000 in
theorem rfirst_any (A : Option Addr) (n c : Nat) (xs : List Dir) (nm : List UInt8) (w : World) (hr : Rd A n 4 (dirsV xs) w) (hn : n ≤ 1000000) :
    Calls Tryz.prog 120 #[.slice A n c, .string ⟨nm.toArray⟩] w fun e w' => e = .returned (optV (firstV xs nm)) ∧ w = w' := by
  obtain rfl := hr.dir
  have hstep := fun k (h : k < xs.length) => @find_take_none xs (fun d => d.name == nm) k h
  have hhit : ∀ k (h : k < xs.length), (xs.take k).find? (fun d => d.name == nm) = none → (xs[k].name == nm) = true → firstV xs nm = some xs[k].value := fun k h hno hp => first_some (find_take_some h hno hp)
  have hend : ∀ k, k = xs.length → (xs.take k).find? (fun d => d.name == nm) = none → firstV xs nm = none := fun k hk h => by
    subst hk; rw [List.take_length] at h; exact first_none h
  generalize firstV xs nm = out at *
  have HR := Lib.hid hr; have HS := Lib.hid hstep; have HH := Lib.hid hhit; have HE := Lib.hid hend
  clear hr hstep hhit hend
  go_enter Tryz.func120, Tryz.ntmps120
  go_wp2_with fail
  go_loopw [6] (fun i wr => ∃ k : Nat, k ≤ xs.length ∧ i = .int .i64 k ∧ Hid ((xs.take k).find? (fun d => d.name == nm) = none) ∧ wr = w) (fun i _ => xs.length - (intOf i).toNat)
  case atStart => exact ⟨0, Nat.zero_le _, rfl, Lib.hid (by simp), rfl⟩
  case round =>
    obtain ⟨k, hk, rfl, HN, rfl⟩ := hrel
    by_cases hlt : k < xs.length
    · obtain ⟨b, o, rfl, hl, x0, x1, x2, x3⟩ := HR.out.dir_at (k := k) hlt
      have hst := HS.out k hlt HN.out
      have hht := HH.out k hlt HN.out
      generalize xs[k] = d at *
      obtain ⟨dn, dv, dh, df⟩ := d
      simp only at x0 x1 x2 x3 hht
      cases hq : (dn == nm)
      · have HN2 := Lib.hid (hst hq)
        clear hst hht HS HH HE HN
        go_wp2
        go_roundw
        case rel => exact ⟨k + 1, by omega, by go_num, HN2, trivial⟩
        case measure => simp [intOf]; omega
      · have ho := hht hq
        subst ho
        clear hst hht HS HH HE HN
        go_wp2
        go_ret2
        exact ⟨rfl, rfl⟩
    · have ho := HE.out k (by omega) HN.out
      subst ho
      clear HS HH HE HN
      go_wp2
      go_ret2
      exact ⟨rfl, rfl⟩

theorem blank12I (c : UInt8) : blanks.contains c = (((c.toNat : Int) == 32) || ((c.toNat : Int) == 9)) := by
  rw [Bool.eq_iff_iff]
  simp only [blanks, List.contains_cons, List.contains_nil, Bool.or_false, Bool.or_eq_true, beq_iff_eq, ← UInt8.toNat_inj]
  show (c.toNat = 32 ∨ c.toNat = 9) ↔ _
  omega
set_option maxHeartbeats 8000000 in
theorem rword_any (s wd : ByteArray) (w : World) (hs : s.size ≤ 1000000) :
    Calls Tryz.prog 121 #[.string s, .string wd] w fun e w' => e = .returned (.bool (wordP wd.data.toList [] s.data.toList)) ∧ w = w' := by
  have h0 : wordP wd.data.toList [] s.data.toList = wordP wd.data.toList ((s.data.toList.drop 0).take (0 - 0)) (s.data.toList.drop 0) := by simp
  generalize wordP wd.data.toList [] s.data.toList = out at *
  have H0 := Lib.hid h0; clear h0
  go_enter Tryz.func121, Tryz.ntmps121
  go_wp2_with fail
  go_loopw [6, 5] (fun i g wr => ∃ k f : Nat, k ≤ s.size + 1 ∧ f ≤ k ∧ i = .int .i64 k ∧ g = .int .i64 f ∧ Hid (k ≤ s.size → out = wordP wd.data.toList ((s.data.toList.drop f).take (k - f)) (s.data.toList.drop k)) ∧ Hid (s.size < k → out = false) ∧ wr = w) (fun i _ _ => s.size + 1 - (intOf i).toNat)
  case atStart => exact ⟨0, 0, Nat.zero_le _, Nat.le_refl _, rfl, rfl, Lib.hid (fun _ => H0.out), Lib.hid (fun h => by omega), rfl⟩
  case round =>
    obtain ⟨k, f, hk, hf, rfl, rfl, HA, HB, rfl⟩ := hrel
    by_cases hlt : k < s.size
    · have hA := HA.out (by omega)
      have hdc := drop_cons s k hlt
      have hbl := blank12I s[k]
      have hcur : (s.data.toList.drop f).take (k + 1 - f) = (s.data.toList.drop f).take (k - f) ++ [s[k]] := by
        rw [show k + 1 - f = (k - f) + 1 from by omega, List.take_add, List.drop_drop, show f + (k - f) = k from by omega, hdc]; rfl
      rw [hdc, wordP] at hA
      have hex : (s.extract f k).data.toList = (s.data.toList.drop f).take (k - f) := Lib.extract_data _ _ _
      have hu := u8_lt s[k]
      have tk : ((k : Int) == (s.size : Int)) = false := by simp; omega
      cases c1 : ((s[k].toNat : Int) == 32) <;> cases c2 : ((s[k].toNat : Int) == 9)
      · rw [c1, c2] at hbl
        rw [hbl, show (false || false) = false from rfl, cond_false, ← hcur] at hA
        have HA2 : Hid (k + 1 ≤ s.size → out = wordP wd.data.toList ((s.data.toList.drop f).take (k + 1 - f)) (s.data.toList.drop (k + 1))) := Lib.hid (fun _ => hA)
        have HB2 : Hid (s.size < k + 1 → out = false) := Lib.hid (fun h => by omega)
        clear hA hdc hbl hcur hex HA HB
        go_wp2
        go_roundw
        case rel => exact ⟨k + 1, f, by omega, by omega, by go_num, rfl, HA2, HB2, trivial⟩
        case measure => simp [intOf]; omega
      all_goals (
        rw [c1, c2] at hbl
        simp only [Bool.or_true, Bool.or_false] at hbl
        rw [hbl, cond_true, ← hex] at hA
        have heq : ((s.extract f k).toList == wd.toList) = ((s.extract f k).data.toList == wd.data.toList) := by rw [Lib.toList_data, Lib.toList_data]
        cases hq : ((s.extract f k).data.toList == wd.data.toList)
        · rw [hq, Bool.false_or] at hA
          rw [hq] at heq
          have HA2 : Hid (k + 1 ≤ s.size → out = wordP wd.data.toList ((s.data.toList.drop (k + 1)).take (k + 1 - (k + 1))) (s.data.toList.drop (k + 1))) := Lib.hid (fun _ => by rw [Nat.sub_self, List.take_zero]; exact hA)
          have HB2 : Hid (s.size < k + 1 → out = false) := Lib.hid (fun h => by omega)
          clear hA hdc hbl hcur hex HA HB hq
          go_wp2
          go_roundw
          case rel => exact ⟨k + 1, k + 1, by omega, by omega, by go_num, by go_num, HA2, HB2, trivial⟩
          case measure => simp [intOf]; omega
        · rw [hq, Bool.true_or] at hA
          rw [hq] at heq
          subst hA
          clear hdc hbl hcur hex HA HB hq
          go_wp2
          go_ret
          exact ⟨rfl, rfl⟩)
    · by_cases hke : k = s.size
      · subst hke
        have hA := HA.out (by omega)
        rw [drop_all s _ (Nat.le_refl _), wordP] at hA
        have hex : (s.extract f s.size).data.toList = (s.data.toList.drop f).take (s.size - f) := Lib.extract_data _ _ _
        rw [← hex] at hA
        have heq : ((s.extract f s.size).toList == wd.toList) = ((s.extract f s.size).data.toList == wd.data.toList) := by rw [Lib.toList_data, Lib.toList_data]
        have tk : ((s.size : Int) == (s.size : Int)) = true := by simp
        cases hq : ((s.extract f s.size).data.toList == wd.data.toList)
        · rw [hq] at hA heq
          have HA2 : Hid (s.size + 1 ≤ s.size → out = wordP wd.data.toList ((s.data.toList.drop (s.size + 1)).take (s.size + 1 - (s.size + 1))) (s.data.toList.drop (s.size + 1))) := Lib.hid (fun h => by omega)
          have HB2 : Hid (s.size < s.size + 1 → out = false) := Lib.hid (fun _ => hA)
          clear hA hex HA HB hq
          go_wp2
          go_roundw
          case rel => exact ⟨s.size + 1, s.size + 1, by omega, by omega, by go_num, by go_num, HA2, HB2, trivial⟩
          case measure => simp [intOf]
        · rw [hq] at hA heq
          subst hA
          clear hex HA HB hq
          go_wp2
          go_ret
          exact ⟨rfl, rfl⟩
      · have ho := HB.out (by omega)
        subst ho
        clear HA HB
        go_wp2
        go_ret
        exact ⟨rfl, rfl⟩

/-! ages -/
theorem dgt_43 {c : UInt8} (h : dgt c = true) : c ≠ 43 := by rintro rfl; exact absurd h (by decide)
theorem ages_delta {s : ByteArray} (h : deltaOk s.data.toList = true) : agesL s.data.toList = (bnd (val s.data.toList), 0) := by
  have hd : s.data.toList.all dgt = true := by unfold deltaOk at h; rw [Bool.and_eq_true] at h; exact h.2
  rw [List.all_eq_true] at hd
  have hc := cutc_miss s 43 (fun j hj => dgt_43 (hd _ (by rw [at_list s j hj]; exact List.getElem_mem _)))
  unfold agesL
  rw [hc]
  simp only
  rw [h]
  rfl
theorem ages_hit (s : ByteArray) (k : Nat) (hk : k < s.size) (h : s[k] = 43) (hno : ∀ j (hj : j < s.size), j < k → s[j] ≠ 43) : agesL s.data.toList = bif deltaOk (s.data.toList.take k) && deltaOk (s.data.toList.drop (k + 1)) then (bnd (val (s.data.toList.take k)), bnd (val (s.data.toList.drop (k + 1)))) else (0, 0) := by
  unfold agesL
  rw [cutc_hit s 43 k hk h hno]
  simp only
  cases deltaOk (s.data.toList.take k) <;> cases deltaOk (s.data.toList.drop (k + 1)) <;> rfl
theorem ages_miss (s : ByteArray) (h0 : deltaOk s.data.toList = false) (hno : ∀ j (hj : j < s.size), s[j] ≠ 43) : agesL s.data.toList = (0, 0) := by
  unfold agesL
  rw [cutc_miss s 43 hno]
  simp only
  rw [h0]
  rfl
theorem delta_behind (s : ByteArray) (k j : Nat) (hj : j < s.size) (hjk : j < k) (h : s[j] = 43) : deltaOk (s.data.toList.take k) = false := by
  cases ht : deltaOk (s.data.toList.take k)
  · rfl
  · exfalso
    have hd : (s.data.toList.take k).all dgt = true := by unfold deltaOk at ht; rw [Bool.and_eq_true] at ht; exact ht.2
    rw [List.all_eq_true] at hd
    have hl := Lib.size_eq s
    refine dgt_43 (hd 43 ?_) rfl
    rw [List.mem_take_iff_getElem]
    exact ⟨j, by omega, by rw [← at_list s j hj]; exact h⟩
def agesV (p : Int × Int) : Value := .tuple #[.int .i64 p.1, .int .i64 p.2]
set_option maxHeartbeats 8000000 in
theorem rages_any (s : ByteArray) (w : World) (hs : s.size ≤ 1000000) :
    Calls Tryz.prog 122 #[.string s] w fun e w' => e = .returned (agesV (agesL s.data.toList)) ∧ w = w' := by
  have k1 := fun W => rdelta_any s W hs
  unfold deltaV at k1
  cases h0 : deltaOk s.data.toList
  · have hmiss := ages_miss s h0
    have hhit := ages_hit s
    have hbeh := delta_behind s
    have hcut : ∀ k, k ≤ s.size → s.extract 0 k = ⟨(s.data.toList.take k).toArray⟩ := fun k _ => str_eq _ _ (by rw [Lib.extract_data]; simp)
    have hcut2 : ∀ k, s.extract (k + 1) s.size = ⟨(s.data.toList.drop (k + 1)).toArray⟩ := fun k => str_eq _ _ (by rw [Lib.extract_data, List.take_of_length_le (by rw [List.length_drop, ← Lib.size_eq]; omega)])
    have k2 := fun k (hk : k < s.size) W => rdelta_any (s.extract 0 k) W (by rw [hcut k (by omega), Lib.size_eq]; simp; omega)
    have k3 := fun k (hk : k < s.size) W => rdelta_any (s.extract (k + 1) s.size) W (by rw [hcut2 k, Lib.size_eq]; simp only [List.length_drop, ← Lib.size_eq]; omega)
    have k2' : ∀ k (hk : k < s.size) W, Calls Tryz.prog 53 #[.string (s.extract 0 k)] W fun e w' => e = .returned (deltaV (s.data.toList.take k)) ∧ W = w' := fun k hk W => by
      have := k2 k hk W
      rw [show (s.extract 0 k).data.toList = s.data.toList.take k from by rw [hcut k (by omega)]] at this
      exact this
    have k3' : ∀ k (hk : k < s.size) W, Calls Tryz.prog 53 #[.string (s.extract (k + 1) s.size)] W fun e w' => e = .returned (deltaV (s.data.toList.drop (k + 1))) ∧ W = w' := fun k hk W => by
      have := k3 k hk W
      rw [show (s.extract (k + 1) s.size).data.toList = s.data.toList.drop (k + 1) from by rw [hcut2 k]] at this
      exact this
    rw [h0] at k1
    simp only [cond_false] at k1
    generalize agesL s.data.toList = out at *
    have K1 := Lib.hid k1; have K2 := Lib.hid k2'; have K3 := Lib.hid k3'; have HM := Lib.hid hmiss; have HH := Lib.hid hhit; have HB := Lib.hid hbeh
    clear k1 k2 k3 k2' k3' hmiss hhit hbeh hcut hcut2 h0
    go_enter Tryz.func122, Tryz.ntmps122
    go_wp2_with fail
    (with_reducible refine (K1.out _).mono ?_)
    rintro e w1 ⟨rfl, rfl⟩
    go_wp2_with fail
    go_loopw [6] (fun i wr => ∃ k : Nat, k ≤ s.size ∧ i = .int .i64 k ∧ Hid ((∀ j (hj : j < s.size), j < k → s[j] ≠ 43) ∨ (out = (0, 0) ∧ ∃ j, ∃ hj : j < s.size, j < k ∧ s[j] = 43)) ∧ wr = w) (fun i _ => s.size - (intOf i).toNat)
    case atStart => exact ⟨0, Nat.zero_le _, rfl, Lib.hid (Or.inl (fun j _ h => absurd h (by omega))), rfl⟩
    case round =>
      obtain ⟨k, hk, rfl, HP, rfl⟩ := hrel
      by_cases hlt : k < s.size
      · have hu := u8_lt s[k]
        cases hc : ((s[k].toNat : Int) == 43)
        · have hne : s[k] ≠ 43 := fun e => by rw [e] at hc; simp at hc
          have hn2 : ((s[k].toNat : Int) != 43) = true := by simp [bne, hc]
          have HP2 : Hid ((∀ j (hj : j < s.size), j < k + 1 → s[j] ≠ 43) ∨ (out = (0, 0) ∧ ∃ j, ∃ hj : j < s.size, j < k + 1 ∧ s[j] = 43)) := by
            refine Lib.hid ?_
            rcases HP.out with h | ⟨h1, j, hj, h2, h3⟩
            · left
              intro j hj hjk
              by_cases e : j = k
              · subst e; exact hne
              · exact h j hj (by omega)
            · exact Or.inr ⟨h1, j, hj, by omega, h3⟩
          clear HP hne
          go_wp2
          go_roundw
          case rel => exact ⟨k + 1, by omega, by go_num, HP2, trivial⟩
          case measure => simp [intOf]; omega
        · have heq : s[k] = 43 := by rw [← UInt8.toNat_inj]; simp at hc; show s[k].toNat = 43; omega
          have hn2 : ((s[k].toNat : Int) != 43) = false := by simp [bne, hc]
          have hsum : IntKind.i64.wrap ((k : Int) + 1) = (k : Int) + 1 := IntWalk.i64_in _ (by omega)
          have k2 := K2.out k hlt
          have k3 := K3.out k hlt
          unfold deltaV at k2 k3
          have hcase : (deltaOk (s.data.toList.take k) && deltaOk (s.data.toList.drop (k + 1))) = true → out = (bnd (val (s.data.toList.take k)), bnd (val (s.data.toList.drop (k + 1)))) := by
            intro h
            rcases HP.out with h1 | ⟨_, j, hj, h2, h3⟩
            · have := HH.out k hlt heq h1
              rw [h, cond_true] at this
              exact this
            · rw [HB.out k j hj h2 h3] at h; cases h
          have hcase2 : (deltaOk (s.data.toList.take k) && deltaOk (s.data.toList.drop (k + 1))) = false → Hid ((∀ j (hj : j < s.size), j < k + 1 → s[j] ≠ 43) ∨ (out = (0, 0) ∧ ∃ j, ∃ hj : j < s.size, j < k + 1 ∧ s[j] = 43)) := by
            intro h
            refine Lib.hid (Or.inr ⟨?_, k, hlt, by omega, heq⟩)
            rcases HP.out with h1 | ⟨h0, _⟩
            · have := HH.out k hlt heq h1
              rw [h, cond_false] at this
              exact this
            · exact h0
          have HC := Lib.hid hcase; have HC2 := Lib.hid hcase2
          clear hcase hcase2 HP HH HB HM heq
          obtain ⟨va, hva⟩ : ∃ x : Int, bnd (val (s.data.toList.take k)) = x := ⟨_, rfl⟩
          obtain ⟨vb, hvb⟩ : ∃ x : Int, bnd (val (s.data.toList.drop (k + 1))) = x := ⟨_, rfl⟩
          rw [hva] at k2 HC
          rw [hvb] at k3 HC
          generalize deltaOk (s.data.toList.take k) = da at *
          generalize deltaOk (s.data.toList.drop (k + 1)) = db at *
          clear hva hvb
          cases da <;> cases db
          all_goals (
            simp only [cond_true, cond_false] at k2 k3
            have K4 := Lib.hid k2; have K5 := Lib.hid k3
            clear k2 k3
            go_wp2_with fail
            refine (K4.out _).mono ?_
            rintro e w2 ⟨rfl, rfl⟩
            go_wp2_with fail
            refine (K5.out _).mono ?_
            rintro e w2 ⟨rfl, rfl⟩
            clear K4 K5
            first
              | (have HP2 := HC2.out rfl
                 clear HC HC2
                 go_wp2
                 go_roundw
                 case rel => exact ⟨k + 1, by omega, by go_num, HP2, trivial⟩
                 case measure => simp [intOf]; omega)
              | (have ho := HC.out rfl
                 subst ho
                 clear HC HC2
                 go_wp2
                 go_ret2
                 exact ⟨rfl, rfl⟩))
      · have ho : out = (0, 0) := by
          rcases HP.out with h | ⟨h, _⟩
          · exact HM.out (fun j hj => h j hj (by omega))
          · exact h
        subst ho
        clear HP HH HB HM
        go_wp2
        go_ret2
        exact ⟨rfl, rfl⟩
  · rw [ages_delta h0]
    rw [h0] at k1
    simp only [cond_true] at k1
    obtain ⟨v, hv⟩ : ∃ x : Int, bnd (val s.data.toList) = x := ⟨_, rfl⟩
    rw [hv] at k1 ⊢
    have K1 := Lib.hid k1; clear k1 hv h0
    go_enter Tryz.func122, Tryz.ntmps122
    go_wp2_with fail
    (with_reducible refine (K1.out _).mono ?_)
    rintro e w1 ⟨rfl, rfl⟩
    go_wp2
    go_ret2
    exact ⟨rfl, rfl⟩

theorem ages_nil : agesL [] = (0, 0) := by kernel_rfl
theorem ctl_parts (ls : List Dir) : ctlL ls = ⟨(firstV ls noStore).isSome, (firstV ls sRemote).isSome, wordP sESI [] ((firstV ls sContent).getD []), (firstV ls sMaxAge).isSome, (agesL ((firstV ls sMaxAge).getD [])).1, (agesL ((firstV ls sMaxAge).getD [])).2⟩ := by
  unfold ctlL
  cases firstV ls sContent <;> cases firstV ls sMaxAge
  · simp only [Option.getD_none, ages_nil]; rfl
  · simp only [Option.getD_none, Option.getD_some]; rfl
  · simp only [Option.getD_none, Option.getD_some, ages_nil]
  · simp only [Option.getD_some]
theorem first_len {ls : List Dir} {nm : List UInt8} {B : Nat} (h : ∀ d ∈ ls, d.value.length ≤ B) : ((firstV ls nm).getD []).length ≤ B := by
  unfold firstV
  cases hf : ls.find? fun d => d.name == nm with
  | none => simp
  | some d => exact h d (List.mem_of_find?_eq_some hf)
end Go.Proofs.YtcgdcbnhpbokfaaGreatDoor
/- The walk of the document's Of (layer 12). -/
namespace Go.Proofs.YtcgdcbnhpbokfaaGreatDoor
open Go.RowKit
set_option maxRecDepth 100000

set_option maxHeartbeats 16000000 in
theorem rsurOf_any (A : Option Addr) (n c : Nat) (vs : List (List UInt8)) (dev : ByteArray) (w : World) (hr : Rd A n 1 (strsV vs) w) (hn : n ≤ 10000) (hl : ∀ v ∈ vs, v.length ≤ 900000) :
    Calls Tryz.prog 63 #[.slice A n c, .string dev] w fun e w' => e = .returned (ctlV (ofL vs dev.data.toList)) ∧ Below w.heap.size w w' := by
  obtain rfl := hr.str
  obtain ⟨W0, hW0⟩ : ∃ W0, w.alloc (.cells #[.bool false, .bool false, .bool false, .bool false, .int .i64 0, .int .i64 0] 36) = W0 := ⟨_, rfl⟩
  have hB0 : Below w.heap.size w W0 := by rw [← hW0]; exact (Below.refl _ w).alloc (Nat.le_refl _) _
  have hh0 : W0.heap[w.heap.size]? = some (.cells #[.bool false, .bool false, .bool false, .bool false, .int .i64 0, .int .i64 0] 36 (0, 0)) := by rw [← hW0]; exact World.alloc_heap_new w _
  have hl0 : w.heap.size < W0.heap.size := by rw [← hW0]; simp
  have k1 := rsurList_any A vs.length c vs W0 (hr.below hB0) hn (fun v hv => by have := hl v hv; omega)
  have hsl := slist_le vs
  have hdl0 := slist_dirle (B := 900000) hl
  have hofl : ofL vs dev.data.toList = ctlL (mineL (slistL vs) dev.data.toList) := rfl
  rw [hofl, ctl_parts]
  have hml : (mineL (slistL vs) dev.data.toList).length ≤ (slistL vs).length := List.length_filter_le _ _
  have hdl : ∀ d ∈ mineL (slistL vs) dev.data.toList, d.value.length ≤ 1000000 := fun d hd => by
    have := (hdl0 d (List.mem_filter.1 hd).1).2.1; omega
  have k2 := fun a c W (h : Rd a (slistL vs).length 4 (dirsV (slistL vs)) W) => rmine_any a (slistL vs).length c (slistL vs) dev W h (by omega)
  generalize mineL (slistL vs) dev.data.toList = ls at *
  generalize slistL vs = l0 at *
  have hls : ls.length ≤ 1000000 := by omega
  have q3 := first_len (nm := sContent) hdl
  have q4 := first_len (nm := sMaxAge) hdl
  have f1 := fun a c W (h : Rd a ls.length 4 (dirsV ls) W) => rfirst_any a ls.length c ls noStore W h hls
  have f2 := fun a c W (h : Rd a ls.length 4 (dirsV ls) W) => rfirst_any a ls.length c ls sRemote W h hls
  have f3 := fun a c W (h : Rd a ls.length 4 (dirsV ls) W) => rfirst_any a ls.length c ls sContent W h hls
  have f4 := fun a c W (h : Rd a ls.length 4 (dirsV ls) W) => rfirst_any a ls.length c ls sMaxAge W h hls
  unfold optV at f1 f2 f3 f4
  generalize firstV ls noStore = v1 at *
  generalize firstV ls sRemote = v2 at *
  generalize firstV ls sContent = v3 at *
  generalize firstV ls sMaxAge = v4 at *
  have k5 := fun W => rword_any ⟨(v3.getD []).toArray⟩ ⟨sESI.toArray⟩ W (by rw [Lib.size_eq]; exact q3)
  have k6 := fun W => rages_any ⟨(v4.getD []).toArray⟩ W (by rw [Lib.size_eq]; exact q4)
  simp only at k5 k6
  unfold agesV at k6
  rw [show (⟨noStore.toArray⟩ : ByteArray) = ⟨#[110, 111, 45, 115, 116, 111, 114, 101]⟩ from rfl] at f1
  rw [show (⟨sRemote.toArray⟩ : ByteArray) = ⟨#[110, 111, 45, 115, 116, 111, 114, 101, 45, 114, 101, 109, 111, 116, 101]⟩ from rfl] at f2
  rw [show (⟨sContent.toArray⟩ : ByteArray) = ⟨#[99, 111, 110, 116, 101, 110, 116]⟩ from rfl] at f3
  rw [show (⟨sMaxAge.toArray⟩ : ByteArray) = ⟨#[109, 97, 120, 45, 97, 103, 101]⟩ from rfl] at f4
  rw [show (⟨sESI.toArray⟩ : ByteArray) = ⟨#[69, 83, 73, 47, 49, 46, 48]⟩ from rfl] at k5
  obtain ⟨s3, hs3⟩ : ∃ s : ByteArray, (⟨(v3.getD []).toArray⟩ : ByteArray) = s := ⟨_, rfl⟩
  obtain ⟨s4, hs4⟩ : ∃ s : ByteArray, (⟨(v4.getD []).toArray⟩ : ByteArray) = s := ⟨_, rfl⟩
  rw [hs3] at f3 k5
  rw [hs4] at f4 k6
  generalize wordP sESI [] (v3.getD []) = b3 at *
  generalize agesL (v4.getD []) = ag at *
  obtain ⟨x, y⟩ := ag
  simp only at k6 ⊢
  generalize v1.isSome = b1 at *
  generalize v2.isSome = b2 at *
  generalize v4.isSome = b4 at *
  have K1 := Lib.hid k1; have K2 := Lib.hid k2; have K5 := Lib.hid k5; have K6 := Lib.hid k6; have F1 := Lib.hid f1; have F2 := Lib.hid f2; have F3 := Lib.hid f3; have F4 := Lib.hid f4
  have HW0 := Lib.hid hW0; have HH0 := Lib.hid hh0
  clear k1 k2 k5 k6 f1 f2 f3 f4 hW0 hh0 hdl hdl0 hr hofl hml hsl hl q3 q4 hs3 hs4
  go_enter Tryz.func63, Tryz.ntmps63
  go_wp2_with fail
  rw [HW0.out]
  (with_reducible refine K1.out.mono ?_)
  rintro e w1 ⟨a1, c1, rfl, ho1, hb1⟩
  have R1 := Lib.hid ho1.rd.2
  clear ho1 K1
  go_wp2_with fail
  (with_reducible refine (K2.out _ _ _ R1.out).mono ?_)
  rintro e w2 ⟨la, lc, rfl, ho2, hb2⟩
  have hB2 := bt hb1 hb2
  have hh2 := (hB2.block w.heap.size hl0).trans HH0.out
  have hal := (Below.refl w2.heap.size w2).alloc (Nat.le_refl _) (.cells #[.bool false, .bool false, .bool false, .bool false, .int .i64 0, .int .i64 0] 36)
  have hB2w := hB0.trans (hB2.mono hB0.size)
  have hlt2 : w.heap.size < w2.heap.size := Nat.lt_of_lt_of_le hl0 hB2.size
  have R2 := Lib.hid ho2.rd.2
  have hne : w.heap.size ≠ w2.heap.size := by omega
  have c0 : w2.cell? ⟨w.heap.size, 0, none⟩ = some (.bool false) := (of_heap hh2 0).1
  have c11 : w2.cell? ⟨w.heap.size, 1, none⟩ = some (.bool false) := (of_heap hh2 1).1
  have c2 : w2.cell? ⟨w.heap.size, 2, none⟩ = some (.bool false) := (of_heap hh2 2).1
  have c3 : w2.cell? ⟨w.heap.size, 3, none⟩ = some (.bool false) := (of_heap hh2 3).1
  have c4 : w2.cell? ⟨w.heap.size, 4, none⟩ = some (.int .i64 0) := (of_heap hh2 4).1
  have c5 : w2.cell? ⟨w.heap.size, 5, none⟩ = some (.int .i64 0) := (of_heap hh2 5).1
  have g0 := (of_heap hh2 0).2.1; have g1 := (of_heap hh2 1).2.1; have g2 := (of_heap hh2 2).2.1; have g3 := (of_heap hh2 3).2.1; have g4 := (of_heap hh2 4).2.1; have g5 := (of_heap hh2 5).2.1
  have rdAl : ∀ cs, Rd la ls.length 4 (dirsV ls) (w2.alloc (.cells cs 36)) := fun cs => R2.out.below ((Below.refl w2.heap.size w2).alloc (Nat.le_refl _) _)
  have RA := Lib.hid rdAl
  clear ho2 hb1 hb2 hh2 R1 K2 hal rdAl
  go_wp2_with fail
  (with_reducible refine (F1.out _ _ _ (RA.out _)).mono ?_)
  rintro e w3 ⟨rfl, rfl⟩
  go_wp2_with fail
  (with_reducible refine (F2.out _ _ _ (RA.out _)).mono ?_)
  rintro e w3 ⟨rfl, rfl⟩
  go_wp2_with fail
  (with_reducible refine (F3.out _ _ _ (RA.out _)).mono ?_)
  rintro e w3 ⟨rfl, rfl⟩
  go_wp2_with fail
  (with_reducible refine (K5.out _).mono ?_)
  rintro e w3 ⟨rfl, rfl⟩
  go_wp2_with fail
  (with_reducible refine (F4.out _ _ _ (RA.out _)).mono ?_)
  rintro e w3 ⟨rfl, rfl⟩
  go_wp2_with fail
  (with_reducible refine (K6.out _).mono ?_)
  rintro e w3 ⟨rfl, rfl⟩
  go_wp2_with fail
  refine bodyPost_ret_by (v := ctlV ⟨b1, b2, b3, b4, x, y⟩) ?_ rfl ?_
  · rw [results_cell_one rfl]
    go_simp
    rfl
  · exact ⟨rfl, ((((((hB2w.setCell (p := ⟨w.heap.size, 0, none⟩) (Nat.le_refl _) _).setCell (p := ⟨w.heap.size, 1, none⟩) (Nat.le_refl _) _).setCell (p := ⟨w.heap.size, 2, none⟩) (Nat.le_refl _) _).setCell (p := ⟨w.heap.size, 3, none⟩) (Nat.le_refl _) _).setCell (p := ⟨w.heap.size, 4, none⟩) (Nat.le_refl _) _).setCell (p := ⟨w.heap.size, 5, none⟩) (Nat.le_refl _) _).alloc (by simp; omega) _⟩
end Go.Proofs.YtcgdcbnhpbokfaaGreatDoor
