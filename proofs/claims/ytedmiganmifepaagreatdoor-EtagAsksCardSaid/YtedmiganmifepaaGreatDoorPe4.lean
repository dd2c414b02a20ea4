/- Joined out of the texts RWalk3, OwnF, Many, RWalk4, RWalk5, RWalk6, DatePut, RDateEq, RDateTop, RWalk7, ResOne, RWalkA, Box8, RWalkB (wip/tools/merge.py). -/
import Derived.Test.YtedmiganmifepaaGreatDoorPe3
import Derived.Laws.BytesArg
import Derived.Laws.OwnMore
import Derived.Deep.QuietTactic
import Derived.BigQuiet
import Derived.Deep.RegionHeld3
import Derived.Laws.ResultCell
/- The document's dates: the walk of Digits. -/
namespace Go.Proofs.YtedmiganmifepaaGreatDoor
open Go.RowKit
set_option maxRecDepth 100000

theorem strOf_oneD (d : Nat) : strOfNums [48 + (d : Int)] = ⟨#[UInt8.ofNat (48 + d)]⟩ := by
  have e : ((48 : Int) + (d : Int)).toNat = 48 + d := by omega
  unfold strOfNums; simp [e]
theorem rdig_up (k m : Nat) : rdig (k + 1) (m : Int) = rdig k ((m / 10 : Nat) : Int) ++ [UInt8.ofNat (48 + m % 10)] := by
  rw [rdig]
  have e1 : (m : Int) / 10 = ((m / 10 : Nat) : Int) := by omega
  have e2 : ((m : Int) % 10).toNat = m % 10 := by omega
  rw [e1, e2]
set_option maxHeartbeats 4000000 in
theorem idig_any (N K : Nat) (hN : N ≤ 1000000) (hK : K ≤ 10) (w : World) :
    Calls Tryz.prog 62 #[.int .i64 N, .int .i64 K] w fun e w' => e = .returned (.string ⟨(rdig K N).toArray⟩) ∧ Below w.heap.size w w' := by
  have HP : Hid ((⟨(rdig K N).toArray⟩ : ByteArray).data.toList = rdig K N) := Lib.hid rfl
  generalize (⟨(rdig K N).toArray⟩ : ByteArray) = out at *
  go_enter Tryz.func62, Tryz.ntmps62
  go_wp2_with fail
  go_loopw [0, 5, 6] (fun a s i wr => ∃ (m j : Nat) (b : ByteArray), m ≤ 1000000 ∧ j ≤ K ∧ a = .int .i64 m ∧ s = .string b ∧ i = .int .i64 j ∧ b.size ≤ j ∧ Hid (rdig K N = rdig (K - j) m ++ b.data.toList) ∧ Below w.heap.size w wr) (fun _ _ i _ => K - (intOf i).toNat)
  case atStart => exact ⟨N, 0, _, hN, Nat.zero_le _, rfl, rfl, rfl, Nat.zero_le _, by show _ = _; simp, Below.refl _ _⟩
  case round =>
    obtain ⟨m, j, b, hm, hj, rfl, rfl, rfl, hbs, Hm, hbw⟩ := hrel
    by_cases hlt : j < K
    · have hk1 : (convert 74 9 (.slice (some ⟨wr.heap.size, 0, none⟩) 1 1)).run Tryz.prog (wr.alloc (.cells #[.int .u8 (48 + (m : Int) % 10)] 5)) = .ok (.string (strOfNums [48 + (m : Int) % 10])) (wr.alloc (.cells #[.int .u8 (48 + (m : Int) % 10)] 5)) :=
        run_convert_bytes_arg (P := Tryz.prog) _ 74 5 Tryz.underlying74 Tryz.underlying5 wr.heap.size 0 1 1 [48 + (m : Int) % 10] rfl (by intro i hi; obtain rfl : i = 0 := (by omega); exact World.cell?_alloc_mark wr _ _ _ 0) 9 Tryz.underlying9
      have hd : (strOfNums [48 + (m : Int) % 10]).data.toList = [UInt8.ofNat (48 + m % 10)] := by
        rw [show (48 : Int) + (m : Int) % 10 = 48 + ((m % 10 : Nat) : Int) from by omega, strOf_oneD]
      have hds : (strOfNums [48 + (m : Int) % 10]).size = 1 := strOfNums_size _
      have hdec : rdig (K - j) (m : Int) = rdig (K - (j + 1)) ((m / 10 : Nat) : Int) ++ [UInt8.ofNat (48 + m % 10)] := by
        rw [show K - j = (K - (j + 1)) + 1 by omega]; exact rdig_up _ _
      have Hd := Lib.hid hd; have Hdec := Lib.hid hdec; clear hd hdec
      generalize strOfNums [48 + (m : Int) % 10] = ds at *
      go_wp2
      go_roundw
      case rel => exact ⟨m / 10, j + 1, _, by omega, hlt, by go_num, rfl, by go_num, by rw [ByteArray.size_append]; omega, by show _ = _; rw [app_list, Hd.out, Hm.out, Hdec.out, List.append_assoc], hbw.alloc hbw.size _⟩
      case measure => simp [intOf]; omega
    · have hje : j = K := by omega
      subst hje
      have hfin : b = out := str_eq _ _ (by rw [HP.out, Hm.out, Nat.sub_self]; rfl)
      subst hfin
      clear Hm HP
      go_wp2
      go_ret
      exact ⟨rfl, hbw⟩
end Go.Proofs.YtedmiganmifepaaGreatDoor
/- Fields in a slice that the call made. -/
namespace Go.Proofs.YtedmiganmifepaaGreatDoor
open Go.RowKit

theorem uFld : (Tryz.prog.info? 30).map (fun i => (i.zero, i.size, i.bytes)) = some (some (.agg #[.string ByteArray.empty, .string ByteArray.empty]), 2, 32) := by kernel_rfl
def OwnF (B : Nat) (v : Value) (fs : List Fld) (w : World) : Prop := w.ownsRow B 30 2 v fs.length (fldsV fs)
theorem OwnF.shape {B : Nat} {v : Value} {fs : List Fld} {w : World} (h : OwnF B v fs w) : ∃ a cap, v = .slice a fs.length cap := by
  rcases h.2 with ⟨rfl, h0⟩ | ⟨g, cap, cur, rfl, _⟩
  · exact ⟨none, 0, by rw [h0]⟩
  · exact ⟨_, _, rfl⟩
theorem OwnF.below {B : Nat} {v : Value} {fs : List Fld} {w w1 : World} (h : OwnF B v fs w) (hb : Below w.heap.size w w1) : OwnF B v fs w1 := own_below h hb
theorem OwnF.drew {B : Nat} {v : Value} {fs : List Fld} {w : World} (h : OwnF B v fs w) : OwnF B v fs w.drew := h
theorem OwnF.nil (B : Nat) (w : World) : OwnF B (.slice none 0 0) [] w := World.ownsRow_nil _ _ _ _
theorem OwnF.rd {B m cap : Nat} {a : Option Addr} {fs : List Fld} {w : World} (h : OwnF B (.slice a m cap) fs w) : m = fs.length ∧ Rd a fs.length 2 (fldsV fs) w := Rd.of_own h
theorem OwnF.base {B B' : Nat} {v : Value} {fs : List Fld} {w : World} (h : OwnF B v fs w) (hB : B' ≤ B) : OwnF B' v fs w := by
  refine ⟨h.1, ?_⟩
  rcases h.2 with h | ⟨g, cp, cur, hv, hg, r⟩
  · exact Or.inl h
  · exact Or.inr ⟨g, cp, cur, hv, by omega, r⟩
theorem app_fld {ops : Array Oper} {rest : List Oper} {o : Oper} {a : Act} {Q : Exit → Act → World → Prop} (B : Nat) (y : Fld) {w : World} {v : Value} {fs : List Fld} (hown : OwnF B v fs w) (hB : B ≤ w.heap.size) (hn : fs.length ≤ 1000000000)
    (hgd : o.guard = none) (s x : Operand) (ho : o.op = .call { callee := .builtin .append, args := #[s, x], argTypes := #[22, 22] })
    (hs : a.eval s = v) (hx : a.eval x = .slice (some ⟨w.heap.size, 0, none⟩) 1 1)
    (hK : ∀ v' w1, OwnF B v' (fs ++ [y]) w1 → Below B w w1 → Far w w1 v v' → wpList Tryz.prog ops Q rest (a.put o.dst v') w1) :
    wpList Tryz.prog ops Q (o :: rest) a (w.alloc (.cells #[.string ⟨y.1.toArray⟩, .string ⟨y.2.toArray⟩] 30)) := by
  refine app_one (z := .agg #[.string ByteArray.empty, .string ByteArray.empty]) (bytes := 32) (n := fs.length) hgd s x 22 30 ho Tryz.underlying22 uFld rfl (by decide) (by decide) B (fldV y) rfl (by intro u hu; simp [fldV] at hu; rcases hu with rfl | rfl <;> rfl) hs hx hown hB hn ?_
  intro v' w1 h1 h2 h3
  refine hK v' w1 ?_ h2 h3
  show World.ownsRow _ _ _ _ _ _ _
  rw [List.length_append, List.length_singleton]
  have : fldsV (fs ++ [y]) = fldsV fs ++ fldV y := by unfold fldsV; simp
  rw [this]
  exact h1
theorem step_fld {ops : Array Oper} {o : Oper} {a : Act} {K : Act → World → Prop} {Q : Exit → Act → World → Prop} {G : Prop} (B : Nat) (y : Fld) {w : World} {v : Value} {fs : List Fld} (hown : OwnF B v fs w) (hB : B ≤ w.heap.size) (hn : fs.length ≤ 1000000000)
    (hgd : o.guard = none) (s x : Operand) (ho : o.op = .call { callee := .builtin .append, args := #[s, x], argTypes := #[22, 22] })
    (hs : a.eval s = v) (hx : a.eval x = .slice (some ⟨w.heap.size, 0, none⟩) 1 1)
    (hK : ∀ v' w1, OwnF B v' (fs ++ [y]) w1 → Below B w w1 → Far w w1 v v' → K (a.put o.dst v') w1) :
    if Region.wanted o (yielded ops a.tmps) = true then Oper.wp Tryz.prog o a (w.alloc (.cells #[.string ⟨y.1.toArray⟩, .string ⟨y.2.toArray⟩] 30)) K Q else G := by
  refine step_app_one (z := .agg #[.string ByteArray.empty, .string ByteArray.empty]) (bytes := 32) (n := fs.length) hgd s x 22 30 ho Tryz.underlying22 uFld rfl (by decide) (by decide) B (fldV y) rfl (by intro u hu; simp [fldV] at hu; rcases hu with rfl | rfl <;> rfl) hs hx hown hB hn ?_
  intro v' w1 h1 h2 h3
  refine hK v' w1 ?_ h2 h3
  show World.ownsRow _ _ _ _ _ _ _
  rw [List.length_append, List.length_singleton]
  have : fldsV (fs ++ [y]) = fldsV fs ++ fldV y := by unfold fldsV; simp
  rw [this]
  exact h1
/-- Fields that are handed back in a slice of the call's own. -/
def FieldsPost (w : World) (fs : List Fld) (e : Ending) (w' : World) : Prop :=
  ∃ a cap, e = .returned (.slice a fs.length cap) ∧ OwnF w.heap.size (.slice a fs.length cap) fs w' ∧ Below w.heap.size w w'
end Go.Proofs.YtedmiganmifepaaGreatDoor
/- Many fields at once at the end of a row that the call made. -/
namespace Go.Proofs.YtedmiganmifepaaGreatDoor
open Go.RowKit
set_option maxRecDepth 100000

theorem run_app_none {P : Program} (w : World) (base : Nat) (t ty e : TypeId) (i : TypeInfo) (size c : Nat) (ht : P.underlying t = some (.slice e)) (hi : P.info? e = some i)
    (v : Value) (n : Nat) (xs : List Value) (hown : w.ownsRow base e size v n xs) :
    (Builtin.append_ #[t, t] ty #[v, .slice none 0 c]).run P w = .ok v w := by
  rcases hown.2 with ⟨rfl, rfl⟩ | ⟨g, cap, cur, rfl, _, _, hnc, _⟩
  · simp [Builtin.append_, run_underlying ht, sizeOf, typeInfo, hi, Builtin.lenOf, Builtin.firstCells]
  · simp [Builtin.append_, run_underlying ht, sizeOf, typeInfo, hi, Builtin.lenOf, Builtin.firstCells, hnc, storeCells]
theorem fldsV_one (ys : List Fld) : ∀ u ∈ fldsV ys, u.oneCell' = true := by
  intro u hu
  unfold fldsV at hu
  obtain ⟨f, _, h⟩ := List.mem_flatMap.1 hu
  simp [fldV] at h
  rcases h with rfl | rfl <;> rfl
theorem fldsV_app (xs ys : List Fld) : fldsV (xs ++ ys) = fldsV xs ++ fldsV ys := by unfold fldsV; simp
theorem app_flds {ops : Array Oper} {rest : List Oper} {o : Oper} {a : Act} {Q : Exit → Act → World → Prop} (B : Nat) {w : World} {v : Value} {fs : List Fld} (hown : OwnF B v fs w) (hB : B ≤ w.heap.size)
    {A : Option Addr} {n c : Nat} {ys : List Fld} (hr : Rd A n 2 (fldsV ys) w) (hn : fs.length + n ≤ 1000000000)
    (hgd : o.guard = none) (s x : Operand) (ho : o.op = .call { callee := .builtin .append, args := #[s, x], argTypes := #[22, 22] })
    (hs : a.eval s = v) (hx : a.eval x = .slice A n c)
    (hK : ∀ v' w1, OwnF B v' (fs ++ ys) w1 → Below B w w1 → Far w w1 v v' → wpList Tryz.prog ops Q rest (a.put o.dst v') w1) :
    wpList Tryz.prog ops Q (o :: rest) a w := by
  obtain rfl := hr.fld
  obtain ⟨i0, hi, hz0, hz1, hz2⟩ := info_parts uFld
  have key : ∃ v' w1, (Builtin.append_ #[22, 22] o.type #[v, .slice A ys.length c]).run Tryz.prog w = .ok v' w1 ∧ OwnF B v' (fs ++ ys) w1 ∧ Below B w w1 ∧ Far w w1 v v' := by
    by_cases h0 : A = none
    · subst h0
      have hy : ys.length = 0 := by
        rcases Nat.eq_zero_or_pos ys.length with h | h
        · exact h
        · obtain ⟨b, o', e, _⟩ := hr.2 h; cases e
      have hy2 : ys = [] := List.eq_nil_of_length_eq_zero hy
      subst hy2
      refine ⟨v, w, run_app_none w B _ _ 30 i0 2 c Tryz.underlying22 hi v _ _ hown, by rw [List.append_nil]; exact hown, Below.refl _ _, ⟨⟨rfl, rfl, rfl, Nat.le_refl _, fun _ _ _ => rfl⟩, Or.inl rfl⟩⟩
    · obtain ⟨ad, rfl⟩ := Option.ne_none_iff_exists'.1 h0
      obtain ⟨v', w', hrun, h2, h3, _, h5⟩ := run_append_own_at (P := Tryz.prog) w B 22 o.type 30 i0 (.agg #[.string ByteArray.empty, .string ByteArray.empty]) 2 32 Tryz.underlying22 hi hz0 hz1 hz2 rfl (by decide) v fs.length (fldsV fs) hown ad ys.length c (fldsV ys) (by rw [fldsV_len]) (by
        intro j u hj
        have hjl : j < ys.length * 2 := by have := (List.getElem?_eq_some_iff.1 hj).1; rwa [fldsV_len] at this
        obtain ⟨b, o', e, _, hc⟩ := hr.2 (by omega)
        cases e
        have e2 : (⟨b, o', none⟩ : Addr).add j = ⟨b, o' + j, none⟩ := by unfold Addr.add; split <;> simp_all
        rw [e2]
        exact hc j u hj) (fldsV_one ys) (by unfold maxLen; omega) (by omega) hB
      refine ⟨v', w', hrun, ?_, (Below.refl B w).grown h3 hB (fun k hk => (World.ownsRow.lt hown k hk).1), ⟨h3, ?_⟩⟩
      · unfold OwnF
        rw [List.length_append, fldsV_app]
        exact h2
      · rcases h5 with h | h
        · exact Or.inl h
        · refine Or.inr fun g hg => ?_
          rw [h] at hg
          have := Option.some.inj hg
          omega
  obtain ⟨v', w1, hrun, h1, h2, h3⟩ := key
  refine wpList_plain hgd fun _ hK' => ?_
  unfold Oper.wp execOp
  simp only [ho, resolve, invoke, builtin, Sem.run_bind, Sem.run_pure, Result.andThen_ok, List.map_toArray, List.map_cons, List.map_nil, hs, hx, hrun]
  exact hK' _ _ (hK v' w1 h1 h2 h3)
end Go.Proofs.YtedmiganmifepaaGreatDoor
/- The document's dates: the lists of names, weekday. -/
namespace Go.Proofs.YtedmiganmifepaaGreatDoor
open Go.RowKit
set_option maxRecDepth 100000

theorem Rd.newW (w : World) (ls : List (List UInt8)) (T : TypeId) : Rd (some ⟨w.heap.size, 0, none⟩) ls.length 1 (strsV ls) (w.alloc (.cells (strsV ls).toArray T)) := by
  refine ⟨by unfold strsV; simp, fun _ => ⟨w.heap.size, 0, rfl, by simp, fun j u hu => ?_⟩⟩
  rw [Nat.zero_add, World.cell?_alloc_mark]
  simpa using hu
set_option maxHeartbeats 4000000 in
theorem imons_any (w : World) :
    Calls Tryz.prog 57 #[] w fun e w' => e = .returned (.slice (some ⟨w.heap.size, 0, none⟩) 12 12) ∧ Rd (some ⟨w.heap.size, 0, none⟩) 12 1 (strsV rmons) w' ∧ Below w.heap.size w w' := by
  have hO := Rd.newW w rmons 9
  have hb := (Below.refl w.heap.size w).alloc (Nat.le_refl _) (.cells (rmons.map (fun x => Value.string ⟨x.toArray⟩)).toArray 9)
  go_enter Tryz.func57, Tryz.ntmps57
  go_wp2
  go_ret
  exact ⟨rfl, hO, hb⟩
set_option maxHeartbeats 4000000 in
theorem ishort_any (w : World) :
    Calls Tryz.prog 61 #[] w fun e w' => e = .returned (.slice (some ⟨w.heap.size, 0, none⟩) 7 7) ∧ Rd (some ⟨w.heap.size, 0, none⟩) 7 1 (strsV rshort) w' ∧ Below w.heap.size w w' := by
  have hO := Rd.newW w rshort 9
  have hb := (Below.refl w.heap.size w).alloc (Nat.le_refl _) (.cells (rshort.map (fun x => Value.string ⟨x.toArray⟩)).toArray 9)
  go_enter Tryz.func61, Tryz.ntmps61
  go_wp2
  go_ret
  exact ⟨rfl, hO, hb⟩
set_option maxHeartbeats 4000000 in
theorem ilong_any (w : World) :
    Calls Tryz.prog 65 #[] w fun e w' => e = .returned (.slice (some ⟨w.heap.size, 0, none⟩) 7 7) ∧ Rd (some ⟨w.heap.size, 0, none⟩) 7 1 (strsV rlong) w' ∧ Below w.heap.size w w' := by
  have hO := Rd.newW w rlong 9
  have hb := (Below.refl w.heap.size w).alloc (Nat.le_refl _) (.cells (rlong.map (fun x => Value.string ⟨x.toArray⟩)).toArray 9)
  go_enter Tryz.func65, Tryz.ntmps65
  go_wp2
  go_ret
  exact ⟨rfl, hO, hb⟩
end Go.Proofs.YtedmiganmifepaaGreatDoor
/- The document's dates: the walk of weekday. -/
namespace Go.Proofs.YtedmiganmifepaaGreatDoor
open Go.RowKit
set_option maxRecDepth 100000

set_option maxHeartbeats 4000000 in
theorem iweek_any (N : Option Addr) (c : Nat) (ls : List (List UInt8)) (n : Nat) (hn : n ≤ 10000000) (hl : ls.length = 7) (w : World) (hr : Rd N ls.length 1 (strsV ls) w) :
    Calls Tryz.prog 59 #[.int .i64 n, .slice N ls.length c] w fun e w' => e = .returned (.string ⟨(rwd ls n).toArray⟩) ∧ w' = w := by
  obtain ⟨k, hk⟩ : ∃ k : Nat, ((n : Int) + 3) % 7 = k := ⟨(((n : Int) + 3) % 7).toNat, by omega⟩
  have hk7 : k < ls.length := by omega
  have hx : rwd ls n = ls[k] := by
    unfold rwd
    rw [hk]
    simp [List.getD, hk7]
  rw [hx]
  have e7 : ((n : Int) + 3).tmod 7 = (k : Int) := by rw [Int.tmod_eq_emod_of_nonneg (by omega)]; exact hk
  have hw1 : IntKind.i64.wrap ((n : Int) + 3) = (n : Int) + 3 := by rw [IntKind.wrap_i64]; omega
  have hw2 : IntKind.i64.wrap (k : Int) = (k : Int) := by rw [IntKind.wrap_i64]; omega
  obtain ⟨b, o, rfl, hl', c0⟩ := hr.str_at (k := k) hk7
  generalize ls[k] = x at *
  generalize ls.length = L at *
  clear hk hx hl hr
  go_enter Tryz.func59, Tryz.ntmps59
  go_wp2
  go_ret
  exact ⟨rfl, rfl⟩
end Go.Proofs.YtedmiganmifepaaGreatDoor
/- The document's dates: the walk of month. -/
namespace Go.Proofs.YtedmiganmifepaaGreatDoor
open Go.RowKit
set_option maxRecDepth 100000

theorem rmonF_drop (t : List UInt8) (k : Nat) (h : k < rmons.length) : rmonF t (rmons.drop k) ((k : Int) + 1) = if t = rmons[k] then ((k : Int) + 1) else rmonF t (rmons.drop (k + 1)) (((k + 1 : Nat) : Int) + 1) := by
  rw [List.drop_eq_getElem_cons h, rmonF]
  have e : (k : Int) + 1 + 1 = ((k + 1 : Nat) : Int) + 1 := by omega
  rw [e]
set_option maxHeartbeats 8000000 in
theorem imonth_any (s : ByteArray) (a : Nat) (ha : a ≤ 1000000000) (w : World) :
    Calls Tryz.prog 36 #[.string s, .int .i64 a] w fun e w' => e = .returned (.int .i64 (rmonth s.data.toList a)) ∧ Below w.heap.size w w' := by
  obtain ⟨R, hR⟩ : ∃ R, rmonth s.data.toList a = R := ⟨_, rfl⟩
  rw [hR]
  unfold rmonth at hR
  rw [← Lib.size_eq] at hR
  have t0 : decide ((a : Int) ≥ 0) = true := by simp
  have hwa : IntKind.i64.wrap ((a : Int) + 3) = (a : Int) + 3 := by rw [IntKind.wrap_i64]; omega
  have K0 := Lib.hid (imons_any w)
  have hrl : rmons.length = 12 := rfl
  by_cases hlt : s.size < a + 3
  · rw [if_pos hlt] at hR
    subst hR
    have t1 : decide ((a : Int) + 3 ≤ s.size) = false := by simp; omega
    go_enter Tryz.func36, Tryz.ntmps36
    go_wp2_with fail
    (with_reducible refine K0.out.mono ?_)
    rintro e w1 ⟨rfl, hrd, hb1⟩
    clear hrd
    go_wp2_with fail
    go_loopw [6] (fun i wr => ∃ k : Nat, k ≤ 12 ∧ i = .int .i64 k ∧ Below w.heap.size w wr) (fun i _ => 12 - (intOf i).toNat)
    case atStart => exact ⟨0, Nat.zero_le _, rfl, hb1⟩
    case round =>
      obtain ⟨k, hk, rfl, hbw⟩ := hrel
      by_cases hk12 : k < 12
      · have t2 : decide ((k : Int) < 12) = true := by simp; omega
        go_wp2
        go_quiet (fail)
        go_wp2
        go_roundw
        case rel => exact ⟨k + 1, hk12, by go_num, Go.below_drewN hbw _⟩
        case measure => simp [intOf]; omega
      · have t2 : decide ((k : Int) < 12) = false := by simp; omega
        go_wp2
        go_ret
        exact ⟨rfl, hbw⟩
  · rw [if_neg hlt] at hR
    have t1 : decide ((a : Int) + 3 ≤ s.size) = true := by simp; omega
    have hex : s.extract a (a + 3) = ⟨((s.data.toList.drop a).take 3).toArray⟩ := by
      apply str_eq
      rw [Lib.extract_data]; simp
    have hst := rmonF_drop ((s.data.toList.drop a).take 3)
    generalize (s.data.toList.drop a).take 3 = x at *
    have f1 : ((a : Int) + 3).toNat = a + 3 := by omega
    have f2 : (a : Int) + 3 ≤ s.size := by omega
    have f3 : (a : Int) ≤ (a : Int) + 3 := by omega
    have f4 : a + 3 ≤ s.size := by omega
    have f5 : a ≤ a + 3 := by omega
    have HST := Lib.hid hst; have HR := Lib.hid hR; have HXX := Lib.hid hex
    clear hst hR hex
    go_enter Tryz.func36, Tryz.ntmps36
    go_wp2_with fail
    (with_reducible refine K0.out.mono ?_)
    rintro e w1 ⟨rfl, hrd, hb1⟩
    have HRD := Lib.hid hrd
    clear hrd
    go_wp2_with fail
    go_loopw [6] (fun i wr => ∃ k : Nat, k ≤ 12 ∧ i = .int .i64 k ∧ Hid (rmonF x (rmons.drop k) ((k : Int) + 1) = R) ∧ Below w.heap.size w wr ∧ Below w1.heap.size w1 wr) (fun i _ => 12 - (intOf i).toNat)
    case atStart => exact ⟨0, Nat.zero_le _, rfl, HR, hb1, Below.refl _ _⟩
    case round =>
      obtain ⟨k, hk, rfl, HQ, hbw, hbv⟩ := hrel
      by_cases hk12 : k < 12
      · have t2 : decide ((k : Int) < 12) = true := by simp; omega
        obtain ⟨b, o, hbo, hl', c0⟩ := (HRD.out.below hbv).str_at (k := k) (by omega)
        obtain ⟨rfl, rfl⟩ : b = w.heap.size ∧ o = 0 := by
          have := Option.some.inj hbo
          injection this with h1 h2
          exact ⟨h1.symm, h2.symm⟩
        rw [Nat.zero_add] at c0
        have i1 : (0 : Int) ≤ (k : Int) := by omega
        have i2 : (k : Int) < 12 := by omega
        have i3 : (k : Int) < ((12 : Nat) : Int) := by omega
        have i4 : ((k : Int)).toNat = k := by simp
        have i5 : decide ((k : Int) < 0) = false := by simp
        have i6 : IntKind.i64.wrap (k : Int) = (k : Int) := by rw [IntKind.wrap_i64]; omega
        have hst := HST.out k (by omega)
        rw [HQ.out] at hst
        generalize rmons[k] = y at *
        by_cases he : x = y
        · rw [if_pos he] at hst
          have te : (x == y) = true := by rw [beq_iff_eq]; exact he
          subst hst
          clear HST HR HQ he hbo
          have hx := HXX.out
          go_wp2
          go_quiet (fail)
          go_wp2
          go_ret
          exact ⟨rfl, Go.below_drewN hbw _⟩
        · rw [if_neg he] at hst
          have te : (x == y) = false := by rw [beq_eq_false_iff_ne]; exact he
          have HN := Lib.hid hst.symm
          clear HR HQ he hbo hst
          have hx := HXX.out
          go_wp2
          go_quiet (fail)
          go_wp2
          go_roundw
          case rel => exact ⟨k + 1, hk12, by go_num, HN, Go.below_drewN hbw _, Go.below_drewN hbv _⟩
          case measure => simp [intOf]; omega
      · have hke : k = 12 := by omega
        subst hke
        have hx : R = 0 := by rw [← HQ.out]; rfl
        subst hx
        clear HST HR HQ
        go_wp2
        go_ret
        exact ⟨rfl, hbw⟩
end Go.Proofs.YtedmiganmifepaaGreatDoor
/- Dates: the walk of Put (printed by wip/tools/dateput.py). -/
namespace Go.Proofs.YtedmiganmifepaaGreatDoor
open Go.RowKit
set_option maxRecDepth 100000

/-- What holds behind each operation may be asked more of from here on. -/
theorem wpAnyH_strong {P : Program} {md : Region.Mode} {ops : Array Oper} {Q : Exit → Act → World → Prop} {S S' : World → Prop} (hSS : ∀ w, S' w → S w) : ∀ {fuel : Nat} {listed : Array Bool} {a : Act} {w : World}, wpAnyH P md ops Q S' fuel listed a w → wpAnyH P md ops Q S fuel listed a w
  | 0, _, _, _, h => h
  | _ + 1, _, _, _, h => ⟨h.1, fun i hi => wpOp_mono (fun _ _ h' => ⟨hSS _ h'.1, wpAnyH_strong hSS h'.2⟩) (h.2 i hi)⟩
theorem dmon_ok (y : Int) (r0 : Int) (h : r0 < dmons y 12) : ∀ (f j : Nat) (r : Int), j + f = 12 → 0 ≤ r → r = r0 - dmons y j → 0 ≤ (dmon y f r (j + 1)).1 ∧ (dmon y f r (j + 1)).1 ≤ 30 ∧ 1 ≤ (dmon y f r (j + 1)).2 ∧ (dmon y f r (j + 1)).2 ≤ 12
  | 0, j, r, hj, h0, hr => by
    have : j = 12 := by omega
    subst this
    omega
  | f + 1, j, r, hj, h0, hr => by
    rw [dmon]
    have hl := dlong_le y ((j : Int) + 1)
    have hd : dmons y (j + 1) = dmons y j + dlong y ((j : Int) + 1) := rfl
    split
    · rename_i hle
      have ih := dmon_ok y r0 h f (j + 1) (r - dlong y ((j : Int) + 1)) (by omega) (by omega) (by rw [hd]; omega)
      have e1 : (((j + 1 : Nat) : Int) + 1) = (j : Int) + 1 + 1 := by omega
      rw [e1] at ih
      exact ih
    · simp only
      omega
theorem days_at (k : Nat) (h : k < 7) : ∃ dn, (ddays[k]'h) = dn ∧ ddays.getD k [] = dn ∧ 6 ≤ dn.length := by
  refine ⟨_, rfl, ?_, ?_⟩
  · rw [List.getD_eq_getElem?_getD, List.getElem?_eq_getElem h]; rfl
  · have : ∀ x ∈ ddays, 6 ≤ x.length := by decide
    exact this _ (List.getElem_mem h)
end Go.Proofs.YtedmiganmifepaaGreatDoor
/- The document's dates are the program's: plain (printed by wip/tools/rdate.py). -/
namespace Go.Proofs.YtedmiganmifepaaGreatDoor
set_option maxRecDepth 100000

theorem dp_some {c : UInt8} {r : List UInt8} {m : Mom} {s : List UInt8} {x : Mom × List UInt8} (h : dpieces (c :: r) m s = some x) : (dtake m c.toNat s).2.2 = true ∧ dpieces r (dtake m c.toNat s).1 (dtake m c.toNat s).2.1 = some x := by
  rw [dpieces] at h
  cases hb : (dtake m c.toNat s).2.2
  · rw [hb] at h; cases h
  · rw [hb] at h; exact ⟨rfl, h⟩
theorem dp_take {c : UInt8} {r : List UInt8} {m m' : Mom} {s t : List UInt8} (h : dtake m c.toNat s = (m', t, true)) : dpieces (c :: r) m s = dpieces r m' t := by
  rw [dpieces, h]; rfl
theorem tk_D_ok {m : Mom} {s r : List UInt8} {x : Mom × List UInt8} (h : dpieces (68 :: r) m s = some x) : ∃ a b t, s = a :: b :: t ∧ dg a = true ∧ dg b = true ∧ dpieces r { m with day := dnum [a, b] 0 } t = some x := by
  obtain ⟨h1, h2⟩ := dp_some h
  have e : dtake m (68 : UInt8).toNat s = ({ m with day := (dnumL s 2).1 }, (dnumL s 2).2) := rfl
  rw [e] at h1 h2
  obtain ⟨a, b, t, rfl, ha, hb, e2⟩ := two_ok h1
  rw [e2] at h2
  exact ⟨a, b, t, rfl, ha, hb, h2⟩
theorem tk_D_of {a b : UInt8} (ha : dg a = true) (hb : dg b = true) (m : Mom) (r t : List UInt8) : dpieces (68 :: r) m (a :: b :: t) = dpieces r { m with day := dnum [a, b] 0 } t := by
  have e : dtake m (68 : UInt8).toNat (a :: b :: t) = ({ m with day := (dnumL (a :: b :: t) 2).1 }, (dnumL (a :: b :: t) 2).2) := rfl
  rw [dtwo_of ha hb] at e
  exact dp_take e
theorem tk_H_ok {m : Mom} {s r : List UInt8} {x : Mom × List UInt8} (h : dpieces (72 :: r) m s = some x) : ∃ a b t, s = a :: b :: t ∧ dg a = true ∧ dg b = true ∧ dpieces r { m with hour := dnum [a, b] 0 } t = some x := by
  obtain ⟨h1, h2⟩ := dp_some h
  have e : dtake m (72 : UInt8).toNat s = ({ m with hour := (dnumL s 2).1 }, (dnumL s 2).2) := rfl
  rw [e] at h1 h2
  obtain ⟨a, b, t, rfl, ha, hb, e2⟩ := two_ok h1
  rw [e2] at h2
  exact ⟨a, b, t, rfl, ha, hb, h2⟩
theorem tk_H_of {a b : UInt8} (ha : dg a = true) (hb : dg b = true) (m : Mom) (r t : List UInt8) : dpieces (72 :: r) m (a :: b :: t) = dpieces r { m with hour := dnum [a, b] 0 } t := by
  have e : dtake m (72 : UInt8).toNat (a :: b :: t) = ({ m with hour := (dnumL (a :: b :: t) 2).1 }, (dnumL (a :: b :: t) 2).2) := rfl
  rw [dtwo_of ha hb] at e
  exact dp_take e
theorem tk_I_ok {m : Mom} {s r : List UInt8} {x : Mom × List UInt8} (h : dpieces (73 :: r) m s = some x) : ∃ a b t, s = a :: b :: t ∧ dg a = true ∧ dg b = true ∧ dpieces r { m with minute := dnum [a, b] 0 } t = some x := by
  obtain ⟨h1, h2⟩ := dp_some h
  have e : dtake m (73 : UInt8).toNat s = ({ m with minute := (dnumL s 2).1 }, (dnumL s 2).2) := rfl
  rw [e] at h1 h2
  obtain ⟨a, b, t, rfl, ha, hb, e2⟩ := two_ok h1
  rw [e2] at h2
  exact ⟨a, b, t, rfl, ha, hb, h2⟩
theorem tk_I_of {a b : UInt8} (ha : dg a = true) (hb : dg b = true) (m : Mom) (r t : List UInt8) : dpieces (73 :: r) m (a :: b :: t) = dpieces r { m with minute := dnum [a, b] 0 } t := by
  have e : dtake m (73 : UInt8).toNat (a :: b :: t) = ({ m with minute := (dnumL (a :: b :: t) 2).1 }, (dnumL (a :: b :: t) 2).2) := rfl
  rw [dtwo_of ha hb] at e
  exact dp_take e
theorem tk_S_ok {m : Mom} {s r : List UInt8} {x : Mom × List UInt8} (h : dpieces (83 :: r) m s = some x) : ∃ a b t, s = a :: b :: t ∧ dg a = true ∧ dg b = true ∧ dpieces r { m with second := dnum [a, b] 0 } t = some x := by
  obtain ⟨h1, h2⟩ := dp_some h
  have e : dtake m (83 : UInt8).toNat s = ({ m with second := (dnumL s 2).1 }, (dnumL s 2).2) := rfl
  rw [e] at h1 h2
  obtain ⟨a, b, t, rfl, ha, hb, e2⟩ := two_ok h1
  rw [e2] at h2
  exact ⟨a, b, t, rfl, ha, hb, h2⟩
theorem tk_S_of {a b : UInt8} (ha : dg a = true) (hb : dg b = true) (m : Mom) (r t : List UInt8) : dpieces (83 :: r) m (a :: b :: t) = dpieces r { m with second := dnum [a, b] 0 } t := by
  have e : dtake m (83 : UInt8).toNat (a :: b :: t) = ({ m with second := (dnumL (a :: b :: t) 2).1 }, (dnumL (a :: b :: t) 2).2) := rfl
  rw [dtwo_of ha hb] at e
  exact dp_take e
theorem tk_y_ok {m : Mom} {s r : List UInt8} {x : Mom × List UInt8} (h : dpieces (121 :: r) m s = some x) : ∃ a b t, s = a :: b :: t ∧ dg a = true ∧ dg b = true ∧ dpieces r { m with year := dnum [a, b] 0, two := true } t = some x := by
  obtain ⟨h1, h2⟩ := dp_some h
  have e : dtake m (121 : UInt8).toNat s = ({ m with year := (dnumL s 2).1, two := true }, (dnumL s 2).2) := rfl
  rw [e] at h1 h2
  obtain ⟨a, b, t, rfl, ha, hb, e2⟩ := two_ok h1
  rw [e2] at h2
  exact ⟨a, b, t, rfl, ha, hb, h2⟩
theorem tk_y_of {a b : UInt8} (ha : dg a = true) (hb : dg b = true) (m : Mom) (r t : List UInt8) : dpieces (121 :: r) m (a :: b :: t) = dpieces r { m with year := dnum [a, b] 0, two := true } t := by
  have e : dtake m (121 : UInt8).toNat (a :: b :: t) = ({ m with year := (dnumL (a :: b :: t) 2).1, two := true }, (dnumL (a :: b :: t) 2).2) := rfl
  rw [dtwo_of ha hb] at e
  exact dp_take e
theorem tk_Y_ok {m : Mom} {s r : List UInt8} {x : Mom × List UInt8} (h : dpieces (89 :: r) m s = some x) : ∃ a b c d t, s = a :: b :: c :: d :: t ∧ dg a = true ∧ dg b = true ∧ dg c = true ∧ dg d = true ∧ dpieces r { m with year := dnum [a, b, c, d] 0 } t = some x := by
  obtain ⟨h1, h2⟩ := dp_some h
  have e : dtake m (89 : UInt8).toNat s = ({ m with year := (dnumL s 4).1 }, (dnumL s 4).2) := rfl
  rw [e] at h1 h2
  obtain ⟨a, b, c, d, t, rfl, ha, hb, hc, hd, e2⟩ := four_ok h1
  rw [e2] at h2
  exact ⟨a, b, c, d, t, rfl, ha, hb, hc, hd, h2⟩
theorem tk_Y_of {a b c d : UInt8} (ha : dg a = true) (hb : dg b = true) (hc : dg c = true) (hd : dg d = true) (m : Mom) (r t : List UInt8) : dpieces (89 :: r) m (a :: b :: c :: d :: t) = dpieces r { m with year := dnum [a, b, c, d] 0 } t := by
  have e : dtake m (89 : UInt8).toNat (a :: b :: c :: d :: t) = ({ m with year := (dnumL (a :: b :: c :: d :: t) 4).1 }, (dnumL (a :: b :: c :: d :: t) 4).2) := rfl
  rw [dfour4_of ha hb hc hd] at e
  exact dp_take e
theorem tk_w_ok {m : Mom} {s r : List UInt8} {x : Mom × List UInt8} (h : dpieces (119 :: r) m s = some x) : ∃ k t, k < 7 ∧ s = (ddays.getD k []).take 3 ++ t ∧ dpieces r { m with wd := (k : Int) } t = some x := by
  obtain ⟨h1, h2⟩ := dp_some h
  have e : dtake m (119 : UInt8).toNat s = ({ m with wd := (dname s 3 ddays 0).1 }, (dname s 3 ddays 0).2) := rfl
  rw [e] at h1 h2
  obtain ⟨k, t, hk, hs, e2⟩ := name_ok 3 ddays 0 s h1
  rw [e2] at h2
  refine ⟨k, t, hk, hs, ?_⟩
  rw [Nat.zero_add] at h2
  exact h2
theorem tk_w_of (k : Nat) (hk : k < 7) (m : Mom) (r t : List UInt8) : dpieces (119 :: r) m ((ddays.getD k []).take 3 ++ t) = dpieces r { m with wd := (k : Int) } t := by
  have e : dtake m (119 : UInt8).toNat ((ddays.getD k []).take 3 ++ t) = ({ m with wd := (dname ((ddays.getD k []).take 3 ++ t) 3 ddays 0).1 }, (dname ((ddays.getD k []).take 3 ++ t) 3 ddays 0).2) := rfl
  rw [short_of k hk] at e
  exact dp_take e
theorem tk_W_ok {m : Mom} {s r : List UInt8} {x : Mom × List UInt8} (h : dpieces (87 :: r) m s = some x) : ∃ k t, k < 7 ∧ s = ddays.getD k [] ++ t ∧ dpieces r { m with wd := (k : Int) } t = some x := by
  obtain ⟨h1, h2⟩ := dp_some h
  have e : dtake m (87 : UInt8).toNat s = ({ m with wd := (dname s 0 ddays 0).1 }, (dname s 0 ddays 0).2) := rfl
  rw [e] at h1 h2
  obtain ⟨k, t, hk, hs, e2⟩ := name_ok 0 ddays 0 s h1
  rw [e2] at h2
  refine ⟨k, t, hk, hs, ?_⟩
  rw [Nat.zero_add] at h2
  exact h2
theorem tk_W_of (k : Nat) (hk : k < 7) (m : Mom) (r t : List UInt8) : dpieces (87 :: r) m (ddays.getD k [] ++ t) = dpieces r { m with wd := (k : Int) } t := by
  have e : dtake m (87 : UInt8).toNat (ddays.getD k [] ++ t) = ({ m with wd := (dname (ddays.getD k [] ++ t) 0 ddays 0).1 }, (dname (ddays.getD k [] ++ t) 0 ddays 0).2) := rfl
  rw [long_of k hk] at e
  exact dp_take e
theorem tk_m_ok {m : Mom} {s r : List UInt8} {x : Mom × List UInt8} (h : dpieces (109 :: r) m s = some x) : ∃ k t, k < 12 ∧ s = rmons.getD k [] ++ t ∧ dpieces r { m with month := (k : Int) + 1 } t = some x := by
  obtain ⟨h1, h2⟩ := dp_some h
  have e : dtake m (109 : UInt8).toNat s = if s.length < 3 ∨ Lib.index dmonths (s.take 3) < 0 ∨ Lib.index dmonths (s.take 3) % 3 ≠ 0 then (m, [], false) else ({ m with month := Lib.index dmonths (s.take 3) / 3 + 1 }, s.drop 3, true) := rfl
  rw [e] at h1 h2
  by_cases hc : s.length < 3 ∨ Lib.index dmonths (s.take 3) < 0 ∨ Lib.index dmonths (s.take 3) % 3 ≠ 0
  · rw [if_pos hc] at h1; cases h1
  · rw [if_neg hc] at h2
    match s, hc, h2 with
    | [], hc, _ => exact absurd (Or.inl (by decide)) hc
    | [_], hc, _ => exact absurd (Or.inl (by simp)) hc
    | [_, _], hc, _ => exact absurd (Or.inl (by simp)) hc
    | p :: q :: u :: t, hc, h2 =>
      simp only [List.take_succ_cons, List.take_zero, List.drop_succ_cons, List.drop_zero] at hc h2
      obtain ⟨k, hk, hm, hi⟩ := month_ok (p := p) (q := q) (r := u) (by omega) (by omega)
      refine ⟨k, t, hk, by rw [hm]; rfl, ?_⟩
      rw [hi] at h2
      rw [show 3 * (k : Int) / 3 = (k : Int) from by omega] at h2
      exact h2
theorem tk_m_of (k : Nat) (hk : k < 12) (m : Mom) (r t : List UInt8) : dpieces (109 :: r) m (rmons.getD k [] ++ t) = dpieces r { m with month := (k : Int) + 1 } t := by
  obtain ⟨p, q, u, hm⟩ := mon_three k hk
  have hi := month_of k hk
  rw [hm] at hi ⊢
  have e : dtake m (109 : UInt8).toNat (p :: q :: u :: t) = if (p :: q :: u :: t).length < 3 ∨ Lib.index dmonths [p, q, u] < 0 ∨ Lib.index dmonths [p, q, u] % 3 ≠ 0 then (m, [], false) else ({ m with month := Lib.index dmonths [p, q, u] / 3 + 1 }, t, true) := rfl
  rw [if_neg (by rw [hi]; simp; omega), hi, show 3 * (k : Int) / 3 = (k : Int) from by omega] at e
  exact dp_take e
theorem tk_E_ok {m : Mom} {s r : List UInt8} {x : Mom × List UInt8} (h : dpieces (69 :: r) m s = some x) : (∃ a t, s = 32 :: a :: t ∧ dg a = true ∧ dpieces r { m with day := dnum [a] 0 } t = some x) ∨ (∃ a b t, s = a :: b :: t ∧ dg a = true ∧ dg b = true ∧ dpieces r { m with day := dnum [a, b] 0 } t = some x) := by
  obtain ⟨h1, h2⟩ := dp_some h
  have e : dtake m (69 : UInt8).toNat s = if Lib.hasPrefix s [32] = true then ({ m with day := (dnumL (s.drop 1) 1).1 }, (dnumL (s.drop 1) 1).2) else ({ m with day := (dnumL s 2).1 }, (dnumL s 2).2) := rfl
  rw [e] at h1 h2
  by_cases hp : Lib.hasPrefix s [32] = true
  · rw [if_pos hp] at h1 h2
    obtain ⟨a, t, e1, ha, e2⟩ := one_ok h1
    rw [e2] at h2
    have := pre_is hp
    refine Or.inl ⟨a, t, ?_, ha, h2⟩
    rw [this, show s.drop [(32 : UInt8)].length = a :: t from e1]; rfl
  · rw [if_neg hp] at h1 h2
    obtain ⟨a, b, t, rfl, ha, hb, e2⟩ := two_ok h1
    rw [e2] at h2
    exact Or.inr ⟨a, b, t, rfl, ha, hb, h2⟩
theorem tk_E1_of {a : UInt8} (ha : dg a = true) (m : Mom) (r t : List UInt8) : dpieces (69 :: r) m (32 :: a :: t) = dpieces r { m with day := dnum [a] 0 } t := by
  have e : dtake m (69 : UInt8).toNat (32 :: a :: t) = ({ m with day := (dnumL (a :: t) 1).1 }, (dnumL (a :: t) 1).2) := rfl
  rw [done_of ha] at e
  exact dp_take e
theorem tk_E2_of {a b : UInt8} (ha : dg a = true) (hb : dg b = true) (m : Mom) (r t : List UInt8) : dpieces (69 :: r) m (a :: b :: t) = dpieces r { m with day := dnum [a, b] 0 } t := by
  have e : dtake m (69 : UInt8).toNat (a :: b :: t) = if Lib.hasPrefix (a :: b :: t) [32] = true then ({ m with day := (dnumL (b :: t) 1).1 }, (dnumL (b :: t) 1).2) else ({ m with day := (dnumL (a :: b :: t) 2).1 }, (dnumL (a :: b :: t) 2).2) := rfl
  have hp : ¬ Lib.hasPrefix (a :: b :: t) [32] = true := by
    intro h
    have h1 := pre_is h
    have h2 : a = 32 := by
      have := congrArg List.head? h1
      simpa using this
    subst h2
    exact absurd ha (by decide)
  rw [if_neg hp, dtwo_of ha hb] at e
  exact dp_take e
theorem tk_l44_ok {m : Mom} {s r : List UInt8} {x : Mom × List UInt8} (h : dpieces (44 :: r) m s = some x) : ∃ t, s = 44 :: t ∧ dpieces r m t = some x := by
  obtain ⟨h1, h2⟩ := dp_some h
  have e : dtake m (44 : UInt8).toNat s = if Lib.hasPrefix s [44] = true then (m, s.drop 1, true) else (m, s, false) := rfl
  rw [e] at h1 h2
  by_cases hp : Lib.hasPrefix s [44] = true
  · rw [if_pos hp] at h2
    exact ⟨s.drop 1, pre_is hp, h2⟩
  · rw [if_neg hp] at h1; cases h1
theorem tk_l44_of (m : Mom) (r t : List UInt8) : dpieces (44 :: r) m (44 :: t) = dpieces r m t := dp_take rfl
theorem tk_l32_ok {m : Mom} {s r : List UInt8} {x : Mom × List UInt8} (h : dpieces (32 :: r) m s = some x) : ∃ t, s = 32 :: t ∧ dpieces r m t = some x := by
  obtain ⟨h1, h2⟩ := dp_some h
  have e : dtake m (32 : UInt8).toNat s = if Lib.hasPrefix s [32] = true then (m, s.drop 1, true) else (m, s, false) := rfl
  rw [e] at h1 h2
  by_cases hp : Lib.hasPrefix s [32] = true
  · rw [if_pos hp] at h2
    exact ⟨s.drop 1, pre_is hp, h2⟩
  · rw [if_neg hp] at h1; cases h1
theorem tk_l32_of (m : Mom) (r t : List UInt8) : dpieces (32 :: r) m (32 :: t) = dpieces r m t := dp_take rfl
theorem tk_l58_ok {m : Mom} {s r : List UInt8} {x : Mom × List UInt8} (h : dpieces (58 :: r) m s = some x) : ∃ t, s = 58 :: t ∧ dpieces r m t = some x := by
  obtain ⟨h1, h2⟩ := dp_some h
  have e : dtake m (58 : UInt8).toNat s = if Lib.hasPrefix s [58] = true then (m, s.drop 1, true) else (m, s, false) := rfl
  rw [e] at h1 h2
  by_cases hp : Lib.hasPrefix s [58] = true
  · rw [if_pos hp] at h2
    exact ⟨s.drop 1, pre_is hp, h2⟩
  · rw [if_neg hp] at h1; cases h1
theorem tk_l58_of (m : Mom) (r t : List UInt8) : dpieces (58 :: r) m (58 :: t) = dpieces r m t := dp_take rfl
theorem tk_l71_ok {m : Mom} {s r : List UInt8} {x : Mom × List UInt8} (h : dpieces (71 :: r) m s = some x) : ∃ t, s = 71 :: t ∧ dpieces r m t = some x := by
  obtain ⟨h1, h2⟩ := dp_some h
  have e : dtake m (71 : UInt8).toNat s = if Lib.hasPrefix s [71] = true then (m, s.drop 1, true) else (m, s, false) := rfl
  rw [e] at h1 h2
  by_cases hp : Lib.hasPrefix s [71] = true
  · rw [if_pos hp] at h2
    exact ⟨s.drop 1, pre_is hp, h2⟩
  · rw [if_neg hp] at h1; cases h1
theorem tk_l71_of (m : Mom) (r t : List UInt8) : dpieces (71 :: r) m (71 :: t) = dpieces r m t := dp_take rfl
theorem tk_l77_ok {m : Mom} {s r : List UInt8} {x : Mom × List UInt8} (h : dpieces (77 :: r) m s = some x) : ∃ t, s = 77 :: t ∧ dpieces r m t = some x := by
  obtain ⟨h1, h2⟩ := dp_some h
  have e : dtake m (77 : UInt8).toNat s = if Lib.hasPrefix s [77] = true then (m, s.drop 1, true) else (m, s, false) := rfl
  rw [e] at h1 h2
  by_cases hp : Lib.hasPrefix s [77] = true
  · rw [if_pos hp] at h2
    exact ⟨s.drop 1, pre_is hp, h2⟩
  · rw [if_neg hp] at h1; cases h1
theorem tk_l77_of (m : Mom) (r t : List UInt8) : dpieces (77 :: r) m (77 :: t) = dpieces r m t := dp_take rfl
theorem tk_l84_ok {m : Mom} {s r : List UInt8} {x : Mom × List UInt8} (h : dpieces (84 :: r) m s = some x) : ∃ t, s = 84 :: t ∧ dpieces r m t = some x := by
  obtain ⟨h1, h2⟩ := dp_some h
  have e : dtake m (84 : UInt8).toNat s = if Lib.hasPrefix s [84] = true then (m, s.drop 1, true) else (m, s, false) := rfl
  rw [e] at h1 h2
  by_cases hp : Lib.hasPrefix s [84] = true
  · rw [if_pos hp] at h2
    exact ⟨s.drop 1, pre_is hp, h2⟩
  · rw [if_neg hp] at h1; cases h1
theorem tk_l84_of (m : Mom) (r t : List UInt8) : dpieces (84 :: r) m (84 :: t) = dpieces r m t := dp_take rfl
theorem tk_l45_ok {m : Mom} {s r : List UInt8} {x : Mom × List UInt8} (h : dpieces (45 :: r) m s = some x) : ∃ t, s = 45 :: t ∧ dpieces r m t = some x := by
  obtain ⟨h1, h2⟩ := dp_some h
  have e : dtake m (45 : UInt8).toNat s = if Lib.hasPrefix s [45] = true then (m, s.drop 1, true) else (m, s, false) := rfl
  rw [e] at h1 h2
  by_cases hp : Lib.hasPrefix s [45] = true
  · rw [if_pos hp] at h2
    exact ⟨s.drop 1, pre_is hp, h2⟩
  · rw [if_neg hp] at h1; cases h1
theorem tk_l45_of (m : Mom) (r t : List UInt8) : dpieces (45 :: r) m (45 :: t) = dpieces r m t := dp_take rfl
/-- One form. -/
def pform (f s : List UInt8) (now : Int) : Option Int := match dpieces f mom0 s with
  | some (m, []) => if (dtick m now).2 = true then some (dtick m now).1 else none
  | _ => none
theorem pform_some {f s : List UInt8} {now T : Int} (h : pform f s now = some T) : ∃ m, dpieces f mom0 s = some (m, []) ∧ (dtick m now).2 = true ∧ (dtick m now).1 = T := by
  unfold pform at h
  split at h
  · rename_i m hm
    split at h
    · rename_i h2
      exact ⟨m, hm, h2, Option.some.inj h⟩
    · cases h
  · cases h
theorem pform_of {f s : List UInt8} {now : Int} {m : Mom} {d : Int} (h : dpieces f mom0 s = some (m, [])) (h2 : dtick m now = (d, true)) : pform f s now = some d := by
  unfold pform
  rw [h]
  simp only [h2, if_true]
theorem dparse_pf (s f : List UInt8) (now : Int) (r : List (List UInt8)) : dparse s now (f :: r) = match pform f s now with | some T => (T, 0) | none => dparse s now r := by
  rw [dparse, pform]
  cases dpieces f mom0 s with
  | none => rfl
  | some x =>
    obtain ⟨m, t⟩ := x
    cases t with
    | cons c t => rfl
    | nil =>
      simp only
      by_cases h : (dtick m now).2 = true
      · rw [if_pos h, if_pos h]
      · rw [if_neg h, if_neg h]
theorem tick_is (m : Mom) (now : Int) (d : RD) (hd : d = ⟨dyr m now, m.month, m.day, m.hour, m.minute, m.second⟩) (hM : 1 ≤ m.month ∧ m.month ≤ 12) (h0 : 0 ≤ m.hour ∧ 0 ≤ m.minute ∧ 0 ≤ m.second) :
    dtick m now = if rmay d = true ∧ rcount d % 7 = m.wd then (rtick d, true) else (0, false) := by
  subst hd
  unfold dtick rtick rcount
  simp only
  have hmay : rmay ⟨dyr m now, m.month, m.day, m.hour, m.minute, m.second⟩ = true ↔ ¬ (dyr m now < 1970 ∨ dyr m now > 9999 ∨ m.day < 1 ∨ m.day > dlong (dyr m now) m.month ∨ m.hour > 23 ∨ m.minute > 59 ∨ m.second > 59) := by
    unfold rmay
    simp only [Bool.and_eq_true, decide_eq_true_eq]
    omega
  by_cases hc : dyr m now < 1970 ∨ dyr m now > 9999 ∨ m.day < 1 ∨ m.day > dlong (dyr m now) m.month ∨ m.hour > 23 ∨ m.minute > 59 ∨ m.second > 59
  · rw [if_pos hc, if_neg (by rw [hmay]; intro h; exact h.1 hc)]
  · rw [if_neg hc]
    have e : dahead (dyr m now) + m.day - 1 + dmons (dyr m now) (m.month.toNat - 1) = m.day - 1 + dahead (dyr m now) + dmons (dyr m now) (m.month.toNat - 1) := by omega
    rw [e]
    by_cases h7 : (m.day - 1 + dahead (dyr m now) + dmons (dyr m now) (m.month.toNat - 1)) % 7 = m.wd
    · rw [if_neg (by intro h; exact h h7), if_pos ⟨hmay.2 hc, h7⟩]
      congr 1
      omega
    · rw [if_pos h7, if_neg (by intro h; exact h7 h.2)]
theorem sound0 {s : List UInt8} {m : Mom} (h : dpieces dform0 mom0 s = some (m, [])) : ∃ (k j : Nat) (d1 d2 y1 y2 y3 y4 h1 h2 i1 i2 s1 s2 : UInt8), k < 7 ∧ j < 12 ∧ dg d1 = true ∧ dg d2 = true ∧ dg y1 = true ∧ dg y2 = true ∧ dg y3 = true ∧ dg y4 = true ∧ dg h1 = true ∧ dg h2 = true ∧ dg i1 = true ∧ dg i2 = true ∧ dg s1 = true ∧ dg s2 = true ∧ s = (ddays.getD k []).take 3 ++ (44 :: 32 :: d1 :: d2 :: 32 :: (rmons.getD j [] ++ (32 :: y1 :: y2 :: y3 :: y4 :: 32 :: h1 :: h2 :: 58 :: i1 :: i2 :: 58 :: s1 :: s2 :: 32 :: 71 :: 77 :: 84 :: []))) ∧ m = ⟨(k : Int), dnum [d1, d2] 0, (j : Int) + 1, dnum [y1, y2, y3, y4] 0, dnum [h1, h2] 0, dnum [i1, i2] 0, dnum [s1, s2] 0, false⟩ := by
  unfold dform0 at h
  obtain ⟨k, t0, hk, rfl, g0⟩ := tk_w_ok h
  obtain ⟨t1, rfl, g1⟩ := tk_l44_ok g0
  obtain ⟨t2, rfl, g2⟩ := tk_l32_ok g1
  obtain ⟨d1, d2, t3, rfl, hd1, hd2, g3⟩ := tk_D_ok g2
  obtain ⟨t4, rfl, g4⟩ := tk_l32_ok g3
  obtain ⟨j, t5, hj, rfl, g5⟩ := tk_m_ok g4
  obtain ⟨t6, rfl, g6⟩ := tk_l32_ok g5
  obtain ⟨y1, y2, y3, y4, t7, rfl, hy1, hy2, hy3, hy4, g7⟩ := tk_Y_ok g6
  obtain ⟨t8, rfl, g8⟩ := tk_l32_ok g7
  obtain ⟨h1, h2, t9, rfl, hh1, hh2, g9⟩ := tk_H_ok g8
  obtain ⟨t10, rfl, g10⟩ := tk_l58_ok g9
  obtain ⟨i1, i2, t11, rfl, hi1, hi2, g11⟩ := tk_I_ok g10
  obtain ⟨t12, rfl, g12⟩ := tk_l58_ok g11
  obtain ⟨s1, s2, t13, rfl, hs1, hs2, g13⟩ := tk_S_ok g12
  obtain ⟨t14, rfl, g14⟩ := tk_l32_ok g13
  obtain ⟨t15, rfl, g15⟩ := tk_l71_ok g14
  obtain ⟨t16, rfl, g16⟩ := tk_l77_ok g15
  obtain ⟨t17, rfl, g17⟩ := tk_l84_ok g16
  have h' := Option.some.inj g17
  obtain ⟨e1, e2⟩ := Prod.mk.inj h'
  subst e2
  exact ⟨k, j, d1, d2, y1, y2, y3, y4, h1, h2, i1, i2, s1, s2, hk, hj, hd1, hd2, hy1, hy2, hy3, hy4, hh1, hh2, hi1, hi2, hs1, hs2, rfl, e1.symm⟩
theorem sound1 {s : List UInt8} {m : Mom} (h : dpieces dform1 mom0 s = some (m, [])) : ∃ (k j : Nat) (d1 d2 y1 y2 h1 h2 i1 i2 s1 s2 : UInt8), k < 7 ∧ j < 12 ∧ dg d1 = true ∧ dg d2 = true ∧ dg y1 = true ∧ dg y2 = true ∧ dg h1 = true ∧ dg h2 = true ∧ dg i1 = true ∧ dg i2 = true ∧ dg s1 = true ∧ dg s2 = true ∧ s = ddays.getD k [] ++ (44 :: 32 :: d1 :: d2 :: 45 :: (rmons.getD j [] ++ (45 :: y1 :: y2 :: 32 :: h1 :: h2 :: 58 :: i1 :: i2 :: 58 :: s1 :: s2 :: 32 :: 71 :: 77 :: 84 :: []))) ∧ m = ⟨(k : Int), dnum [d1, d2] 0, (j : Int) + 1, dnum [y1, y2] 0, dnum [h1, h2] 0, dnum [i1, i2] 0, dnum [s1, s2] 0, true⟩ := by
  unfold dform1 at h
  obtain ⟨k, t0, hk, rfl, g0⟩ := tk_W_ok h
  obtain ⟨t1, rfl, g1⟩ := tk_l44_ok g0
  obtain ⟨t2, rfl, g2⟩ := tk_l32_ok g1
  obtain ⟨d1, d2, t3, rfl, hd1, hd2, g3⟩ := tk_D_ok g2
  obtain ⟨t4, rfl, g4⟩ := tk_l45_ok g3
  obtain ⟨j, t5, hj, rfl, g5⟩ := tk_m_ok g4
  obtain ⟨t6, rfl, g6⟩ := tk_l45_ok g5
  obtain ⟨y1, y2, t7, rfl, hy1, hy2, g7⟩ := tk_y_ok g6
  obtain ⟨t8, rfl, g8⟩ := tk_l32_ok g7
  obtain ⟨h1, h2, t9, rfl, hh1, hh2, g9⟩ := tk_H_ok g8
  obtain ⟨t10, rfl, g10⟩ := tk_l58_ok g9
  obtain ⟨i1, i2, t11, rfl, hi1, hi2, g11⟩ := tk_I_ok g10
  obtain ⟨t12, rfl, g12⟩ := tk_l58_ok g11
  obtain ⟨s1, s2, t13, rfl, hs1, hs2, g13⟩ := tk_S_ok g12
  obtain ⟨t14, rfl, g14⟩ := tk_l32_ok g13
  obtain ⟨t15, rfl, g15⟩ := tk_l71_ok g14
  obtain ⟨t16, rfl, g16⟩ := tk_l77_ok g15
  obtain ⟨t17, rfl, g17⟩ := tk_l84_ok g16
  have h' := Option.some.inj g17
  obtain ⟨e1, e2⟩ := Prod.mk.inj h'
  subst e2
  exact ⟨k, j, d1, d2, y1, y2, h1, h2, i1, i2, s1, s2, hk, hj, hd1, hd2, hy1, hy2, hh1, hh2, hi1, hi2, hs1, hs2, rfl, e1.symm⟩
theorem sound2 {s : List UInt8} {m : Mom} (h : dpieces dform2 mom0 s = some (m, [])) : (∃ (k j : Nat) (d1 h1 h2 i1 i2 s1 s2 y1 y2 y3 y4 : UInt8), k < 7 ∧ j < 12 ∧ dg d1 = true ∧ dg h1 = true ∧ dg h2 = true ∧ dg i1 = true ∧ dg i2 = true ∧ dg s1 = true ∧ dg s2 = true ∧ dg y1 = true ∧ dg y2 = true ∧ dg y3 = true ∧ dg y4 = true ∧ s = (ddays.getD k []).take 3 ++ (32 :: (rmons.getD j [] ++ (32 :: 32 :: d1 :: 32 :: h1 :: h2 :: 58 :: i1 :: i2 :: 58 :: s1 :: s2 :: 32 :: y1 :: y2 :: y3 :: y4 :: []))) ∧ m = ⟨(k : Int), dnum [d1] 0, (j : Int) + 1, dnum [y1, y2, y3, y4] 0, dnum [h1, h2] 0, dnum [i1, i2] 0, dnum [s1, s2] 0, false⟩) ∨ (∃ (k j : Nat) (d1 d2 h1 h2 i1 i2 s1 s2 y1 y2 y3 y4 : UInt8), k < 7 ∧ j < 12 ∧ dg d1 = true ∧ dg d2 = true ∧ dg h1 = true ∧ dg h2 = true ∧ dg i1 = true ∧ dg i2 = true ∧ dg s1 = true ∧ dg s2 = true ∧ dg y1 = true ∧ dg y2 = true ∧ dg y3 = true ∧ dg y4 = true ∧ s = (ddays.getD k []).take 3 ++ (32 :: (rmons.getD j [] ++ (32 :: d1 :: d2 :: 32 :: h1 :: h2 :: 58 :: i1 :: i2 :: 58 :: s1 :: s2 :: 32 :: y1 :: y2 :: y3 :: y4 :: []))) ∧ m = ⟨(k : Int), dnum [d1, d2] 0, (j : Int) + 1, dnum [y1, y2, y3, y4] 0, dnum [h1, h2] 0, dnum [i1, i2] 0, dnum [s1, s2] 0, false⟩) := by
  unfold dform2 at h
  obtain ⟨k, t0, hk, rfl, g0⟩ := tk_w_ok h
  obtain ⟨t1, rfl, g1⟩ := tk_l32_ok g0
  obtain ⟨j, t2, hj, rfl, g2⟩ := tk_m_ok g1
  obtain ⟨t3, rfl, g3⟩ := tk_l32_ok g2
  rcases tk_E_ok g3 with ⟨d1, t4, rfl, hd1, g90⟩ | ⟨d1, d2, t4, rfl, hd1, hd2, g90⟩
  · left
    obtain ⟨t5, rfl, g91⟩ := tk_l32_ok g90
    obtain ⟨h1, h2, t6, rfl, hh1, hh2, g92⟩ := tk_H_ok g91
    obtain ⟨t7, rfl, g93⟩ := tk_l58_ok g92
    obtain ⟨i1, i2, t8, rfl, hi1, hi2, g94⟩ := tk_I_ok g93
    obtain ⟨t9, rfl, g95⟩ := tk_l58_ok g94
    obtain ⟨s1, s2, t10, rfl, hs1, hs2, g96⟩ := tk_S_ok g95
    obtain ⟨t11, rfl, g97⟩ := tk_l32_ok g96
    obtain ⟨y1, y2, y3, y4, t12, rfl, hy1, hy2, hy3, hy4, g98⟩ := tk_Y_ok g97
    have h' := Option.some.inj g98
    obtain ⟨e1, e2⟩ := Prod.mk.inj h'
    subst e2
    exact ⟨k, j, d1, h1, h2, i1, i2, s1, s2, y1, y2, y3, y4, hk, hj, hd1, hh1, hh2, hi1, hi2, hs1, hs2, hy1, hy2, hy3, hy4, rfl, e1.symm⟩
  · right
    obtain ⟨t5, rfl, g91⟩ := tk_l32_ok g90
    obtain ⟨h1, h2, t6, rfl, hh1, hh2, g92⟩ := tk_H_ok g91
    obtain ⟨t7, rfl, g93⟩ := tk_l58_ok g92
    obtain ⟨i1, i2, t8, rfl, hi1, hi2, g94⟩ := tk_I_ok g93
    obtain ⟨t9, rfl, g95⟩ := tk_l58_ok g94
    obtain ⟨s1, s2, t10, rfl, hs1, hs2, g96⟩ := tk_S_ok g95
    obtain ⟨t11, rfl, g97⟩ := tk_l32_ok g96
    obtain ⟨y1, y2, y3, y4, t12, rfl, hy1, hy2, hy3, hy4, g98⟩ := tk_Y_ok g97
    have h' := Option.some.inj g98
    obtain ⟨e1, e2⟩ := Prod.mk.inj h'
    subst e2
    exact ⟨k, j, d1, d2, h1, h2, i1, i2, s1, s2, y1, y2, y3, y4, hk, hj, hd1, hd2, hh1, hh2, hi1, hi2, hs1, hs2, hy1, hy2, hy3, hy4, rfl, e1.symm⟩
theorem comp0 {k j : Nat} {d1 d2 y1 y2 y3 y4 h1 h2 i1 i2 s1 s2 : UInt8} (hk : k < 7) (hj : j < 12) (hd1 : dg d1 = true) (hd2 : dg d2 = true) (hy1 : dg y1 = true) (hy2 : dg y2 = true) (hy3 : dg y3 = true) (hy4 : dg y4 = true) (hh1 : dg h1 = true) (hh2 : dg h2 = true) (hi1 : dg i1 = true) (hi2 : dg i2 = true) (hs1 : dg s1 = true) (hs2 : dg s2 = true) : dpieces dform0 mom0 ((ddays.getD k []).take 3 ++ (44 :: 32 :: d1 :: d2 :: 32 :: (rmons.getD j [] ++ (32 :: y1 :: y2 :: y3 :: y4 :: 32 :: h1 :: h2 :: 58 :: i1 :: i2 :: 58 :: s1 :: s2 :: 32 :: 71 :: 77 :: 84 :: [])))) = some (⟨(k : Int), dnum [d1, d2] 0, (j : Int) + 1, dnum [y1, y2, y3, y4] 0, dnum [h1, h2] 0, dnum [i1, i2] 0, dnum [s1, s2] 0, false⟩, []) := by
  unfold dform0
  rw [tk_w_of k hk, tk_l44_of, tk_l32_of, tk_D_of hd1 hd2, tk_l32_of, tk_m_of j hj, tk_l32_of, tk_Y_of hy1 hy2 hy3 hy4, tk_l32_of, tk_H_of hh1 hh2, tk_l58_of, tk_I_of hi1 hi2, tk_l58_of, tk_S_of hs1 hs2, tk_l32_of, tk_l71_of, tk_l77_of, tk_l84_of]
  rfl
theorem comp1 {k j : Nat} {d1 d2 y1 y2 h1 h2 i1 i2 s1 s2 : UInt8} (hk : k < 7) (hj : j < 12) (hd1 : dg d1 = true) (hd2 : dg d2 = true) (hy1 : dg y1 = true) (hy2 : dg y2 = true) (hh1 : dg h1 = true) (hh2 : dg h2 = true) (hi1 : dg i1 = true) (hi2 : dg i2 = true) (hs1 : dg s1 = true) (hs2 : dg s2 = true) : dpieces dform1 mom0 (ddays.getD k [] ++ (44 :: 32 :: d1 :: d2 :: 45 :: (rmons.getD j [] ++ (45 :: y1 :: y2 :: 32 :: h1 :: h2 :: 58 :: i1 :: i2 :: 58 :: s1 :: s2 :: 32 :: 71 :: 77 :: 84 :: [])))) = some (⟨(k : Int), dnum [d1, d2] 0, (j : Int) + 1, dnum [y1, y2] 0, dnum [h1, h2] 0, dnum [i1, i2] 0, dnum [s1, s2] 0, true⟩, []) := by
  unfold dform1
  rw [tk_W_of k hk, tk_l44_of, tk_l32_of, tk_D_of hd1 hd2, tk_l45_of, tk_m_of j hj, tk_l45_of, tk_y_of hy1 hy2, tk_l32_of, tk_H_of hh1 hh2, tk_l58_of, tk_I_of hi1 hi2, tk_l58_of, tk_S_of hs1 hs2, tk_l32_of, tk_l71_of, tk_l77_of, tk_l84_of]
  rfl
theorem comp21 {k j : Nat} {d1 h1 h2 i1 i2 s1 s2 y1 y2 y3 y4 : UInt8} (hk : k < 7) (hj : j < 12) (hd1 : dg d1 = true) (hh1 : dg h1 = true) (hh2 : dg h2 = true) (hi1 : dg i1 = true) (hi2 : dg i2 = true) (hs1 : dg s1 = true) (hs2 : dg s2 = true) (hy1 : dg y1 = true) (hy2 : dg y2 = true) (hy3 : dg y3 = true) (hy4 : dg y4 = true) : dpieces dform2 mom0 ((ddays.getD k []).take 3 ++ (32 :: (rmons.getD j [] ++ (32 :: 32 :: d1 :: 32 :: h1 :: h2 :: 58 :: i1 :: i2 :: 58 :: s1 :: s2 :: 32 :: y1 :: y2 :: y3 :: y4 :: [])))) = some (⟨(k : Int), dnum [d1] 0, (j : Int) + 1, dnum [y1, y2, y3, y4] 0, dnum [h1, h2] 0, dnum [i1, i2] 0, dnum [s1, s2] 0, false⟩, []) := by
  unfold dform2
  rw [tk_w_of k hk, tk_l32_of, tk_m_of j hj, tk_l32_of, tk_E1_of hd1, tk_l32_of, tk_H_of hh1 hh2, tk_l58_of, tk_I_of hi1 hi2, tk_l58_of, tk_S_of hs1 hs2, tk_l32_of, tk_Y_of hy1 hy2 hy3 hy4]
  rfl
theorem comp22 {k j : Nat} {d1 d2 h1 h2 i1 i2 s1 s2 y1 y2 y3 y4 : UInt8} (hk : k < 7) (hj : j < 12) (hd1 : dg d1 = true) (hd2 : dg d2 = true) (hh1 : dg h1 = true) (hh2 : dg h2 = true) (hi1 : dg i1 = true) (hi2 : dg i2 = true) (hs1 : dg s1 = true) (hs2 : dg s2 = true) (hy1 : dg y1 = true) (hy2 : dg y2 = true) (hy3 : dg y3 = true) (hy4 : dg y4 = true) : dpieces dform2 mom0 ((ddays.getD k []).take 3 ++ (32 :: (rmons.getD j [] ++ (32 :: d1 :: d2 :: 32 :: h1 :: h2 :: 58 :: i1 :: i2 :: 58 :: s1 :: s2 :: 32 :: y1 :: y2 :: y3 :: y4 :: [])))) = some (⟨(k : Int), dnum [d1, d2] 0, (j : Int) + 1, dnum [y1, y2, y3, y4] 0, dnum [h1, h2] 0, dnum [i1, i2] 0, dnum [s1, s2] 0, false⟩, []) := by
  unfold dform2
  rw [tk_w_of k hk, tk_l32_of, tk_m_of j hj, tk_l32_of, tk_E2_of hd1 hd2, tk_l32_of, tk_H_of hh1 hh2, tk_l58_of, tk_I_of hi1 hi2, tk_l58_of, tk_S_of hs1 hs2, tk_l32_of, tk_Y_of hy1 hy2 hy3 hy4]
  rfl
theorem rnum_two {s t : List UInt8} {n : Nat} {a b : UInt8} (h : s.drop n = a :: b :: t) (ha : dg a = true) (hb : dg b = true) : rnum s n 2 = dnum [a, b] 0 := by
  have hl : n + 2 ≤ s.length := by
    have := congrArg List.length h
    rw [List.length_drop] at this; simp at this; omega
  unfold rnum
  rw [if_neg (by omega), h]
  simp [ha, hb]
theorem rnum_one {s t : List UInt8} {n : Nat} {a : UInt8} (h : s.drop n = a :: t) (ha : dg a = true) : rnum s n 1 = dnum [a] 0 := by
  have hl : n + 1 ≤ s.length := by
    have := congrArg List.length h
    rw [List.length_drop] at this; simp at this; omega
  unfold rnum
  rw [if_neg (by omega), h]
  simp [ha]
theorem rnum_four {s t : List UInt8} {n : Nat} {a b c d : UInt8} (h : s.drop n = a :: b :: c :: d :: t) (ha : dg a = true) (hb : dg b = true) (hc : dg c = true) (hd : dg d = true) : rnum s n 4 = dnum [a, b, c, d] 0 := by
  have hl : n + 4 ≤ s.length := by
    have := congrArg List.length h
    rw [List.length_drop] at this; simp at this; omega
  unfold rnum
  rw [if_neg (by omega), h]
  simp [ha, hb, hc, hd]
theorem rnum_no {s t : List UInt8} {n : Nat} {a : UInt8} (h : s.drop n = a :: t) (ha : dg a = false) : rnum s n 2 = -1 := by
  unfold rnum
  by_cases hl : s.length < n + 2
  · rw [if_pos hl]
  · rw [if_neg hl, h]
    rw [if_neg]
    simp [ha]
theorem rnum_hi2 (s : List UInt8) (n : Nat) : rnum s n 2 ≤ 99 := by
  unfold rnum
  split
  · decide
  · split
    · rename_i hl h
      match he : (s.drop n).take 2, h with
      | [], _ => decide
      | [a], h =>
        have h1 : dg a = true := by simpa using h
        have := dnum1_in h1; omega
      | a :: b :: t, h =>
        have hlen : ((s.drop n).take 2).length ≤ 2 := by rw [List.length_take]; omega
        rw [he] at hlen
        have ht : t = [] := by cases t with
          | nil => rfl
          | cons c t => simp at hlen
        subst ht
        have h1 : dg a = true ∧ dg b = true := by simpa using h
        have := dnum2_in h1.1 h1.2; omega
    · decide
theorem rnum_hi1 (s : List UInt8) (n : Nat) : rnum s n 1 ≤ 9 := by
  unfold rnum
  split
  · decide
  · split
    · rename_i hl h
      match he : (s.drop n).take 1, h with
      | [], _ => decide
      | a :: t, h =>
        have hlen : ((s.drop n).take 1).length ≤ 1 := by rw [List.length_take]; omega
        rw [he] at hlen
        have ht : t = [] := by cases t with
          | nil => rfl
          | cons c t => simp at hlen
        subst ht
        have h1 : dg a = true := by simpa using h
        have := dnum1_in h1; omega
    · decide
theorem rmonth_is {s t : List UInt8} {n j : Nat} (hj : j < 12) (h : s.drop n = rmons.getD j [] ++ t) : rmonth s n = (j : Int) + 1 := by
  obtain ⟨p, q, r, hm⟩ := mon_three j hj
  have hl : n + 3 ≤ s.length := by
    have := congrArg List.length h
    rw [List.length_drop, hm] at this; simp at this; omega
  unfold rmonth
  rw [if_neg (by omega), h, ← mon_at j hj, hm]
  rfl
theorem rdig2_cong {n N : Int} (h : n % 100 = N % 100) : rdig 2 n = rdig 2 N := by
  simp only [rdig, List.nil_append]
  rw [show n / 10 % 10 = N / 10 % 10 from by omega, show n % 10 = N % 10 from by omega]
theorem rmon_at (j : Nat) : rmon ((j : Int) + 1) = rmons.getD j [] := by
  unfold rmon
  rw [show ((j : Int) + 1 - 1).toNat = j from by omega]
theorem rmon_is (m : Int) (h : 1 ≤ m) (h2 : m ≤ 12) : ∃ j : Nat, j < 12 ∧ rmon m = rmons.getD j [] ∧ (j : Int) + 1 = m := ⟨(m - 1).toNat, by omega, rfl, by omega⟩
theorem rmay_is {d : RD} (h : rmay d = true) : 1970 ≤ d.year ∧ d.year ≤ 9999 ∧ 1 ≤ d.month ∧ d.month ≤ 12 ∧ 1 ≤ d.day ∧ d.day ≤ dlong d.year d.month ∧ 0 ≤ d.hour ∧ d.hour ≤ 23 ∧ 0 ≤ d.minute ∧ d.minute ≤ 59 ∧ 0 ≤ d.second ∧ d.second ≤ 59 := by
  unfold rmay at h
  simp only [Bool.and_eq_true, decide_eq_true_eq] at h
  omega
theorem dlong_hi (y m : Int) : dlong y m ≤ 31 := by
  unfold dlong
  split
  · split <;> omega
  · split <;> omega
theorem wd_three (k : Nat) (hk : k < 7) : ((ddays.getD k []).take 3).length = 3 := by
  have hall : ∀ k < 7, ((ddays.getD k []).take 3).length = 3 := by decide
  exact hall k hk
theorem mon_len (k : Nat) (hk : k < 12) : (rmons.getD k []).length = 3 := by
  have hall : ∀ k < 12, (rmons.getD k []).length = 3 := by decide
  exact hall k hk
theorem drop_past (x t : List UInt8) (n i : Nat) (h : n = x.length + i) : (x ++ t).drop n = t.drop i := by
  subst h
  rw [List.drop_append, List.drop_of_length_le (by omega), List.nil_append]
  congr 1
  omega
end Go.Proofs.YtedmiganmifepaaGreatDoor
/- The document's dates are the program's: the forms, and both (printed by wip/tools/rdate.py). -/
namespace Go.Proofs.YtedmiganmifepaaGreatDoor
set_option maxRecDepth 100000

theorem claim0_s {s : List UInt8} {now T : Int} (h : pform dform0 s now = some T) : rmay (rdA s) = true ∧ rfixed (rdA s) = s ∧ T = rtick (rdA s) := by
  obtain ⟨m, hm, q2, q3⟩ := pform_some h
  obtain ⟨k, j, d1, d2, y1, y2, y3, y4, h1, h2, i1, i2, s1, s2, hk, hj, hd1, hd2, hy1, hy2, hy3, hy4, hh1, hh2, hi1, hi2, hs1, hs2, rfl, rfl⟩ := sound0 hm
  obtain ⟨p, q, r, hw⟩ := short_three k hk
  obtain ⟨u, v, x, hmn⟩ := mon_three j hj
  have n1 := dnum2_in hh1 hh2; have n2 := dnum2_in hi1 hi2; have n3 := dnum2_in hs1 hs2
  have ht := tick_is (⟨(k : Int), dnum [d1, d2] 0, (j : Int) + 1, dnum [y1, y2, y3, y4] 0, dnum [h1, h2] 0, dnum [i1, i2] 0, dnum [s1, s2] 0, false⟩ : Mom) now (⟨dnum [y1, y2, y3, y4] 0, (j : Int) + 1, dnum [d1, d2] 0, dnum [h1, h2] 0, dnum [i1, i2] 0, dnum [s1, s2] 0⟩ : RD) rfl ⟨by show (1 : Int) ≤ (j : Int) + 1; omega, by show (j : Int) + 1 ≤ 12; omega⟩ ⟨n1.1, n2.1, n3.1⟩
  rw [ht] at q2 q3
  by_cases hc : rmay (⟨dnum [y1, y2, y3, y4] 0, (j : Int) + 1, dnum [d1, d2] 0, dnum [h1, h2] 0, dnum [i1, i2] 0, dnum [s1, s2] 0⟩ : RD) = true ∧ rcount (⟨dnum [y1, y2, y3, y4] 0, (j : Int) + 1, dnum [d1, d2] 0, dnum [h1, h2] 0, dnum [i1, i2] 0, dnum [s1, s2] 0⟩ : RD) % 7 = (k : Int)
  rotate_left
  · rw [if_neg hc] at q2; cases q2
  rw [if_pos hc] at q3
  have hcd : (rcount (⟨dnum [y1, y2, y3, y4] 0, (j : Int) + 1, dnum [d1, d2] 0, dnum [h1, h2] 0, dnum [i1, i2] 0, dnum [s1, s2] 0⟩ : RD) % 7).toNat = k := by rw [hc.2]; omega
  have eA : rdA ((ddays.getD k []).take 3 ++ (44 :: 32 :: d1 :: d2 :: 32 :: (rmons.getD j [] ++ (32 :: y1 :: y2 :: y3 :: y4 :: 32 :: h1 :: h2 :: 58 :: i1 :: i2 :: 58 :: s1 :: s2 :: 32 :: 71 :: 77 :: 84 :: [])))) = (⟨dnum [y1, y2, y3, y4] 0, (j : Int) + 1, dnum [d1, d2] 0, dnum [h1, h2] 0, dnum [i1, i2] 0, dnum [s1, s2] 0⟩ : RD) := by
    unfold rdA
    rw [hw]
    rw [rmonth_is (n := 8) hj (by rw [hmn]; rfl)]
    rw [hmn]
    rw [rnum_four (n := 12) rfl hy1 hy2 hy3 hy4, rnum_two (n := 5) rfl hd1 hd2, rnum_two (n := 17) rfl hh1 hh2, rnum_two (n := 20) rfl hi1 hi2, rnum_two (n := 23) rfl hs1 hs2]
  rw [eA]
  refine ⟨hc.1, ?_, q3.symm⟩
  unfold rfixed rclock
  rw [rwd_short, hcd, rmon_at]
  simp only [rdig2 hd1 hd2, rdig2 hh1 hh2, rdig2 hi1 hi2, rdig2 hs1 hs2, rdig4 hy1 hy2 hy3 hy4]
  rfl
theorem claim1_s {s : List UInt8} {now T : Int} (h : pform dform1 s now = some T) : 0 ≤ rnum s (rcomma s + 9) 2 ∧ rmay (rdB s now) = true ∧ rold (rdB s now) = s ∧ T = rtick (rdB s now) := by
  obtain ⟨m, hm, q2, q3⟩ := pform_some h
  obtain ⟨k, j, d1, d2, y1, y2, h1, h2, i1, i2, s1, s2, hk, hj, hd1, hd2, hy1, hy2, hh1, hh2, hi1, hi2, hs1, hs2, rfl, rfl⟩ := sound1 hm
  obtain ⟨u, v, x, hmn⟩ := mon_three j hj
  have n1 := dnum2_in hh1 hh2; have n2 := dnum2_in hi1 hi2; have n3 := dnum2_in hs1 hs2
  have ht := tick_is (⟨(k : Int), dnum [d1, d2] 0, (j : Int) + 1, dnum [y1, y2] 0, dnum [h1, h2] 0, dnum [i1, i2] 0, dnum [s1, s2] 0, true⟩ : Mom) now (⟨rnear (dnum [y1, y2] 0) now, (j : Int) + 1, dnum [d1, d2] 0, dnum [h1, h2] 0, dnum [i1, i2] 0, dnum [s1, s2] 0⟩ : RD) rfl ⟨by show (1 : Int) ≤ (j : Int) + 1; omega, by show (j : Int) + 1 ≤ 12; omega⟩ ⟨n1.1, n2.1, n3.1⟩
  rw [ht] at q2 q3
  by_cases hc : rmay (⟨rnear (dnum [y1, y2] 0) now, (j : Int) + 1, dnum [d1, d2] 0, dnum [h1, h2] 0, dnum [i1, i2] 0, dnum [s1, s2] 0⟩ : RD) = true ∧ rcount (⟨rnear (dnum [y1, y2] 0) now, (j : Int) + 1, dnum [d1, d2] 0, dnum [h1, h2] 0, dnum [i1, i2] 0, dnum [s1, s2] 0⟩ : RD) % 7 = (k : Int)
  rotate_left
  · rw [if_neg hc] at q2; cases q2
  rw [if_pos hc] at q3
  have hcd : (rcount (⟨rnear (dnum [y1, y2] 0) now, (j : Int) + 1, dnum [d1, d2] 0, dnum [h1, h2] 0, dnum [i1, i2] 0, dnum [s1, s2] 0⟩ : RD) % 7).toNat = k := by rw [hc.2]; omega
  have hcm := long_plain k hk (32 :: d1 :: d2 :: 45 :: (rmons.getD j [] ++ (45 :: y1 :: y2 :: 32 :: h1 :: h2 :: 58 :: i1 :: i2 :: 58 :: s1 :: s2 :: [32, 71, 77, 84])))
  have hdp : ∀ i, List.drop ((ddays.getD k []).length + i) (ddays.getD k [] ++ (44 :: 32 :: d1 :: d2 :: 45 :: (rmons.getD j [] ++ (45 :: y1 :: y2 :: 32 :: h1 :: h2 :: 58 :: i1 :: i2 :: 58 :: s1 :: s2 :: 32 :: 71 :: 77 :: 84 :: [])))) = List.drop i (44 :: 32 :: d1 :: d2 :: 45 :: (rmons.getD j [] ++ (45 :: y1 :: y2 :: 32 :: h1 :: h2 :: 58 :: i1 :: i2 :: 58 :: s1 :: s2 :: [32, 71, 77, 84]))) := fun i => drop_past _ _ _ i rfl
  have e9 : rnum (ddays.getD k [] ++ (44 :: 32 :: d1 :: d2 :: 45 :: (rmons.getD j [] ++ (45 :: y1 :: y2 :: 32 :: h1 :: h2 :: 58 :: i1 :: i2 :: 58 :: s1 :: s2 :: 32 :: 71 :: 77 :: 84 :: [])))) ((ddays.getD k []).length + 9) 2 = dnum [y1, y2] 0 := rnum_two (by rw [hdp, hmn]; rfl) hy1 hy2
  have eA : rdB (ddays.getD k [] ++ (44 :: 32 :: d1 :: d2 :: 45 :: (rmons.getD j [] ++ (45 :: y1 :: y2 :: 32 :: h1 :: h2 :: 58 :: i1 :: i2 :: 58 :: s1 :: s2 :: 32 :: 71 :: 77 :: 84 :: [])))) now = (⟨rnear (dnum [y1, y2] 0) now, (j : Int) + 1, dnum [d1, d2] 0, dnum [h1, h2] 0, dnum [i1, i2] 0, dnum [s1, s2] 0⟩ : RD) := by
    unfold rdB
    rw [hcm, e9]
    rw [rmonth_is (n := (ddays.getD k []).length + 5) hj (by rw [hdp]; rfl)]
    rw [rnum_two (n := (ddays.getD k []).length + 2) (by rw [hdp]; rfl) hd1 hd2]
    rw [rnum_two (n := (ddays.getD k []).length + 12) (by rw [hdp, hmn]; rfl) hh1 hh2, rnum_two (n := (ddays.getD k []).length + 15) (by rw [hdp, hmn]; rfl) hi1 hi2, rnum_two (n := (ddays.getD k []).length + 18) (by rw [hdp, hmn]; rfl) hs1 hs2]
  rw [eA, hcm, e9]
  refine ⟨(dnum2_in hy1 hy2).1, hc.1, ?_, q3.symm⟩
  unfold rold rclock
  rw [rwd_long, hcd, rmon_at]
  have hyy : rdig 2 (rnear (dnum [y1, y2] 0) now) = [y1, y2] := by
    refine (rdig2_cong (N := dnum [y1, y2] 0) ?_).trans (rdig2 hy1 hy2)
    have := dnum2_in hy1 hy2
    unfold rnear
    omega
  simp only [rdig2 hd1 hd2, rdig2 hh1 hh2, rdig2 hi1 hi2, rdig2 hs1 hs2, hyy]
  rfl
theorem claim2_s {s : List UInt8} {now T : Int} (h : pform dform2 s now = some T) : (rmay (rdC s) = true ∧ rplain (rdC s) false = s ∧ T = rtick (rdC s)) ∨ (rmay (rdC s) = false ∧ rmay (rdE s) = true ∧ rplain (rdE s) true = s ∧ T = rtick (rdE s)) := by
  obtain ⟨m, hm, q2, q3⟩ := pform_some h
  rcases sound2 hm with hs | hs
  · obtain ⟨k, j, d1, h1, h2, i1, i2, s1, s2, y1, y2, y3, y4, hk, hj, hd1, hh1, hh2, hi1, hi2, hs1, hs2, hy1, hy2, hy3, hy4, rfl, rfl⟩ := hs
    obtain ⟨p, q, r, hw⟩ := short_three k hk
    obtain ⟨u, v, x, hmn⟩ := mon_three j hj
    have n1 := dnum2_in hh1 hh2; have n2 := dnum2_in hi1 hi2; have n3 := dnum2_in hs1 hs2
    have ht := tick_is (⟨(k : Int), dnum [d1] 0, (j : Int) + 1, dnum [y1, y2, y3, y4] 0, dnum [h1, h2] 0, dnum [i1, i2] 0, dnum [s1, s2] 0, false⟩ : Mom) now (⟨dnum [y1, y2, y3, y4] 0, (j : Int) + 1, dnum [d1] 0, dnum [h1, h2] 0, dnum [i1, i2] 0, dnum [s1, s2] 0⟩ : RD) rfl ⟨by show (1 : Int) ≤ (j : Int) + 1; omega, by show (j : Int) + 1 ≤ 12; omega⟩ ⟨n1.1, n2.1, n3.1⟩
    rw [ht] at q2 q3
    by_cases hc : rmay (⟨dnum [y1, y2, y3, y4] 0, (j : Int) + 1, dnum [d1] 0, dnum [h1, h2] 0, dnum [i1, i2] 0, dnum [s1, s2] 0⟩ : RD) = true ∧ rcount (⟨dnum [y1, y2, y3, y4] 0, (j : Int) + 1, dnum [d1] 0, dnum [h1, h2] 0, dnum [i1, i2] 0, dnum [s1, s2] 0⟩ : RD) % 7 = (k : Int)
    rotate_left
    · rw [if_neg hc] at q2; cases q2
    rw [if_pos hc] at q3
    have hcd : (rcount (⟨dnum [y1, y2, y3, y4] 0, (j : Int) + 1, dnum [d1] 0, dnum [h1, h2] 0, dnum [i1, i2] 0, dnum [s1, s2] 0⟩ : RD) % 7).toNat = k := by rw [hc.2]; omega
    have eA : rdE ((ddays.getD k []).take 3 ++ (32 :: (rmons.getD j [] ++ (32 :: 32 :: d1 :: 32 :: h1 :: h2 :: 58 :: i1 :: i2 :: 58 :: s1 :: s2 :: 32 :: y1 :: y2 :: y3 :: y4 :: [])))) = (⟨dnum [y1, y2, y3, y4] 0, (j : Int) + 1, dnum [d1] 0, dnum [h1, h2] 0, dnum [i1, i2] 0, dnum [s1, s2] 0⟩ : RD) := by
      unfold rdE
      rw [hw]
      rw [rmonth_is (n := 4) hj (by rw [hmn]; rfl)]
      rw [hmn]
      rw [rnum_four (n := 20) rfl hy1 hy2 hy3 hy4, rnum_one (n := 9) rfl hd1, rnum_two (n := 11) rfl hh1 hh2, rnum_two (n := 14) rfl hi1 hi2, rnum_two (n := 17) rfl hs1 hs2]
    have hno : rmay (rdC ((ddays.getD k []).take 3 ++ (32 :: (rmons.getD j [] ++ (32 :: 32 :: d1 :: 32 :: h1 :: h2 :: 58 :: i1 :: i2 :: 58 :: s1 :: s2 :: 32 :: y1 :: y2 :: y3 :: y4 :: []))))) = false := by
      have e : rnum ((ddays.getD k []).take 3 ++ (32 :: (rmons.getD j [] ++ (32 :: 32 :: d1 :: 32 :: h1 :: h2 :: 58 :: i1 :: i2 :: 58 :: s1 :: s2 :: 32 :: y1 :: y2 :: y3 :: y4 :: [])))) 8 2 = -1 := by rw [hw, hmn]; exact rnum_no (a := 32) rfl (by decide)
      unfold rmay rdC
      simp only [e]
      simp
    rw [eA]
    refine Or.inr ⟨hno, hc.1, ?_, q3.symm⟩
    unfold rplain rclock
    rw [rwd_short, hcd, rmon_at]
    simp only [rdig1 hd1, rdig2 hh1 hh2, rdig2 hi1 hi2, rdig2 hs1 hs2, rdig4 hy1 hy2 hy3 hy4]
    rfl
  · obtain ⟨k, j, d1, d2, h1, h2, i1, i2, s1, s2, y1, y2, y3, y4, hk, hj, hd1, hd2, hh1, hh2, hi1, hi2, hs1, hs2, hy1, hy2, hy3, hy4, rfl, rfl⟩ := hs
    obtain ⟨p, q, r, hw⟩ := short_three k hk
    obtain ⟨u, v, x, hmn⟩ := mon_three j hj
    have n1 := dnum2_in hh1 hh2; have n2 := dnum2_in hi1 hi2; have n3 := dnum2_in hs1 hs2
    have ht := tick_is (⟨(k : Int), dnum [d1, d2] 0, (j : Int) + 1, dnum [y1, y2, y3, y4] 0, dnum [h1, h2] 0, dnum [i1, i2] 0, dnum [s1, s2] 0, false⟩ : Mom) now (⟨dnum [y1, y2, y3, y4] 0, (j : Int) + 1, dnum [d1, d2] 0, dnum [h1, h2] 0, dnum [i1, i2] 0, dnum [s1, s2] 0⟩ : RD) rfl ⟨by show (1 : Int) ≤ (j : Int) + 1; omega, by show (j : Int) + 1 ≤ 12; omega⟩ ⟨n1.1, n2.1, n3.1⟩
    rw [ht] at q2 q3
    by_cases hc : rmay (⟨dnum [y1, y2, y3, y4] 0, (j : Int) + 1, dnum [d1, d2] 0, dnum [h1, h2] 0, dnum [i1, i2] 0, dnum [s1, s2] 0⟩ : RD) = true ∧ rcount (⟨dnum [y1, y2, y3, y4] 0, (j : Int) + 1, dnum [d1, d2] 0, dnum [h1, h2] 0, dnum [i1, i2] 0, dnum [s1, s2] 0⟩ : RD) % 7 = (k : Int)
    rotate_left
    · rw [if_neg hc] at q2; cases q2
    rw [if_pos hc] at q3
    have hcd : (rcount (⟨dnum [y1, y2, y3, y4] 0, (j : Int) + 1, dnum [d1, d2] 0, dnum [h1, h2] 0, dnum [i1, i2] 0, dnum [s1, s2] 0⟩ : RD) % 7).toNat = k := by rw [hc.2]; omega
    have eA : rdC ((ddays.getD k []).take 3 ++ (32 :: (rmons.getD j [] ++ (32 :: d1 :: d2 :: 32 :: h1 :: h2 :: 58 :: i1 :: i2 :: 58 :: s1 :: s2 :: 32 :: y1 :: y2 :: y3 :: y4 :: [])))) = (⟨dnum [y1, y2, y3, y4] 0, (j : Int) + 1, dnum [d1, d2] 0, dnum [h1, h2] 0, dnum [i1, i2] 0, dnum [s1, s2] 0⟩ : RD) := by
      unfold rdC
      rw [hw]
      rw [rmonth_is (n := 4) hj (by rw [hmn]; rfl)]
      rw [hmn]
      rw [rnum_four (n := 20) rfl hy1 hy2 hy3 hy4, rnum_two (n := 8) rfl hd1 hd2, rnum_two (n := 11) rfl hh1 hh2, rnum_two (n := 14) rfl hi1 hi2, rnum_two (n := 17) rfl hs1 hs2]
    rw [eA]
    refine Or.inl ⟨hc.1, ?_, q3.symm⟩
    unfold rplain rclock
    rw [rwd_short, hcd, rmon_at]
    simp only [rdig2 hd1 hd2, rdig2 hh1 hh2, rdig2 hi1 hi2, rdig2 hs1 hs2, rdig4 hy1 hy2 hy3 hy4]
    rfl
theorem claim0_c (d : RD) (now : Int) (h : rmay d = true) : pform dform0 (rfixed d) now = some (rtick d) := by
  obtain ⟨a1, a2, a3, a4, a5, a6, a7, a8, a9, a10, a11, a12⟩ := rmay_is h
  have hl := dlong_hi d.year d.month
  obtain ⟨y1, y2, y3, y4, ry, hy1, hy2, hy3, hy4, ey⟩ := rdig4_is d.year (by omega) (by omega)
  obtain ⟨d1, d2, rd, hd1, hd2, ed⟩ := rdig2_is d.day (by omega) (by omega)
  obtain ⟨h1, h2, rh, hh1, hh2, eh⟩ := rdig2_is d.hour (by omega) (by omega)
  obtain ⟨i1, i2, ri, hi1, hi2, ei⟩ := rdig2_is d.minute (by omega) (by omega)
  obtain ⟨s1, s2, rs, hs1, hs2, es⟩ := rdig2_is d.second (by omega) (by omega)
  obtain ⟨j, hj, rm, em⟩ := rmon_is d.month (by omega) (by omega)
  have hk : (rcount d % 7).toNat < 7 := by omega
  have hkc : (((rcount d % 7).toNat : Nat) : Int) = rcount d % 7 := by omega
  have hp := comp0 hk hj hd1 hd2 hy1 hy2 hy3 hy4 hh1 hh2 hi1 hi2 hs1 hs2
  rw [ey, ed, eh, ei, es, em, hkc] at hp
  unfold rfixed rclock
  rw [rwd_short, rm, rh, ri, rs, ry]
  rw [rd]
  refine pform_of hp ?_
  rw [tick_is _ now d ?_ ⟨by show 1 ≤ d.month; omega, by show d.month ≤ 12; omega⟩ ⟨by show 0 ≤ d.hour; omega, by show 0 ≤ d.minute; omega, by show 0 ≤ d.second; omega⟩]
  · rw [if_pos ⟨h, rfl⟩]
  · rfl
theorem claim1_c (d : RD) (now : Int) (h : rmay d = true) {N : Int} (hy : d.year = rnear N now) : pform dform1 (rold d) now = some (rtick d) := by
  obtain ⟨a1, a2, a3, a4, a5, a6, a7, a8, a9, a10, a11, a12⟩ := rmay_is h
  have hl := dlong_hi d.year d.month
  obtain ⟨y1, y2, ry, hy1, hy2, ey⟩ := rdig2_is (d.year % 100) (by omega) (by omega)
  have ryy : rdig 2 d.year = [y1, y2] := by rw [← ry]; exact rdig2_cong (by omega)
  obtain ⟨d1, d2, rd, hd1, hd2, ed⟩ := rdig2_is d.day (by omega) (by omega)
  obtain ⟨h1, h2, rh, hh1, hh2, eh⟩ := rdig2_is d.hour (by omega) (by omega)
  obtain ⟨i1, i2, ri, hi1, hi2, ei⟩ := rdig2_is d.minute (by omega) (by omega)
  obtain ⟨s1, s2, rs, hs1, hs2, es⟩ := rdig2_is d.second (by omega) (by omega)
  obtain ⟨j, hj, rm, em⟩ := rmon_is d.month (by omega) (by omega)
  have hk : (rcount d % 7).toNat < 7 := by omega
  have hkc : (((rcount d % 7).toNat : Nat) : Int) = rcount d % 7 := by omega
  have hp := comp1 hk hj hd1 hd2 hy1 hy2 hh1 hh2 hi1 hi2 hs1 hs2
  rw [ey, ed, eh, ei, es, em, hkc] at hp
  unfold rold rclock
  rw [rwd_long, rm, rh, ri, rs, ryy]
  rw [rd]
  refine pform_of hp ?_
  rw [tick_is _ now d ?_ ⟨by show 1 ≤ d.month; omega, by show d.month ≤ 12; omega⟩ ⟨by show 0 ≤ d.hour; omega, by show 0 ≤ d.minute; omega, by show 0 ≤ d.second; omega⟩]
  · rw [if_pos ⟨h, rfl⟩]
  · show d = (⟨rnear (d.year % 100) now, d.month, d.day, d.hour, d.minute, d.second⟩ : RD)
    have : rnear (d.year % 100) now = d.year := by
      rw [hy]
      unfold rnear
      omega
    rw [this]
theorem claim2_c (d : RD) (now : Int) (h : rmay d = true) : pform dform2 (rplain d false) now = some (rtick d) := by
  obtain ⟨a1, a2, a3, a4, a5, a6, a7, a8, a9, a10, a11, a12⟩ := rmay_is h
  have hl := dlong_hi d.year d.month
  obtain ⟨y1, y2, y3, y4, ry, hy1, hy2, hy3, hy4, ey⟩ := rdig4_is d.year (by omega) (by omega)
  obtain ⟨d1, d2, rd, hd1, hd2, ed⟩ := rdig2_is d.day (by omega) (by omega)
  obtain ⟨h1, h2, rh, hh1, hh2, eh⟩ := rdig2_is d.hour (by omega) (by omega)
  obtain ⟨i1, i2, ri, hi1, hi2, ei⟩ := rdig2_is d.minute (by omega) (by omega)
  obtain ⟨s1, s2, rs, hs1, hs2, es⟩ := rdig2_is d.second (by omega) (by omega)
  obtain ⟨j, hj, rm, em⟩ := rmon_is d.month (by omega) (by omega)
  have hk : (rcount d % 7).toNat < 7 := by omega
  have hkc : (((rcount d % 7).toNat : Nat) : Int) = rcount d % 7 := by omega
  have hp := comp22 hk hj hd1 hd2 hh1 hh2 hi1 hi2 hs1 hs2 hy1 hy2 hy3 hy4
  rw [ey, ed, eh, ei, es, em, hkc] at hp
  unfold rplain rclock
  rw [rwd_short, rm, rh, ri, rs, ry]
  simp only [cond_false, rd]
  refine pform_of hp ?_
  rw [tick_is _ now d ?_ ⟨by show 1 ≤ d.month; omega, by show d.month ≤ 12; omega⟩ ⟨by show 0 ≤ d.hour; omega, by show 0 ≤ d.minute; omega, by show 0 ≤ d.second; omega⟩]
  · rw [if_pos ⟨h, rfl⟩]
  · rfl
theorem claim2_e (d : RD) (now : Int) (h : rmay d = true) (h9 : d.day ≤ 9) : pform dform2 (rplain d true) now = some (rtick d) := by
  obtain ⟨a1, a2, a3, a4, a5, a6, a7, a8, a9, a10, a11, a12⟩ := rmay_is h
  have hl := dlong_hi d.year d.month
  obtain ⟨y1, y2, y3, y4, ry, hy1, hy2, hy3, hy4, ey⟩ := rdig4_is d.year (by omega) (by omega)
  obtain ⟨d1, rd, hd1, ed⟩ := rdig1_is d.day (by omega) (by omega)
  obtain ⟨h1, h2, rh, hh1, hh2, eh⟩ := rdig2_is d.hour (by omega) (by omega)
  obtain ⟨i1, i2, ri, hi1, hi2, ei⟩ := rdig2_is d.minute (by omega) (by omega)
  obtain ⟨s1, s2, rs, hs1, hs2, es⟩ := rdig2_is d.second (by omega) (by omega)
  obtain ⟨j, hj, rm, em⟩ := rmon_is d.month (by omega) (by omega)
  have hk : (rcount d % 7).toNat < 7 := by omega
  have hkc : (((rcount d % 7).toNat : Nat) : Int) = rcount d % 7 := by omega
  have hp := comp21 hk hj hd1 hh1 hh2 hi1 hi2 hs1 hs2 hy1 hy2 hy3 hy4
  rw [ey, ed, eh, ei, es, em, hkc] at hp
  unfold rplain rclock
  rw [rwd_short, rm, rh, ri, rs, ry]
  simp only [cond_true, rd]
  refine pform_of hp ?_
  rw [tick_is _ now d ?_ ⟨by show 1 ≤ d.month; omega, by show d.month ≤ 12; omega⟩ ⟨by show 0 ≤ d.hour; omega, by show 0 ≤ d.minute; omega, by show 0 ≤ d.second; omega⟩]
  · rw [if_pos ⟨h, rfl⟩]
  · rfl
/-- THE DOCUMENT'S DATE IS THE PROGRAM'S. -/
theorem date_eq (s : List UInt8) (now : Int) : dateP s now = rparse s now := by
  unfold dateP
  rw [dparse_pf, dparse_pf, dparse_pf]
  unfold rparse
  by_cases hA : rmay (rdA s) = true ∧ rfixed (rdA s) = s
  · rw [if_pos hA]
    have h := claim0_c (rdA s) now hA.1
    rw [hA.2] at h
    rw [h]
  · rw [if_neg hA]
    have h0 : pform dform0 s now = none := by
      cases h : pform dform0 s now with
      | none => rfl
      | some T => obtain ⟨h1, h2, _⟩ := claim0_s h; exact absurd ⟨h1, h2⟩ hA
    rw [h0]
    simp only
    by_cases hB : 0 ≤ rnum s (rcomma s + 9) 2 ∧ rmay (rdB s now) = true ∧ rold (rdB s now) = s
    · rw [if_pos hB]
      have h := claim1_c (rdB s now) now hB.2.1 rfl
      rw [hB.2.2] at h
      rw [h]
    · rw [if_neg hB]
      have h1 : pform dform1 s now = none := by
        cases h : pform dform1 s now with
        | none => rfl
        | some T => obtain ⟨h1, h2, h3, _⟩ := claim1_s h; exact absurd ⟨h1, h2, h3⟩ hB
      rw [h1]
      simp only
      by_cases hC : rmay (rdC s) = true ∧ rplain (rdC s) false = s
      · rw [if_pos hC]
        have h := claim2_c (rdC s) now hC.1
        rw [hC.2] at h
        rw [h]
      · rw [if_neg hC]
        by_cases hE : rmay (rdE s) = true ∧ rplain (rdE s) true = s
        · rw [if_pos hE]
          have h := claim2_e (rdE s) now hE.1 (rnum_hi1 _ _)
          rw [hE.2] at h
          rw [h]
        · rw [if_neg hE]
          have h2 : pform dform2 s now = none := by
            cases h : pform dform2 s now with
            | none => rfl
            | some T =>
              rcases claim2_s h with ⟨h1, h2, _⟩ | ⟨_, h1, h2, _⟩
              · exact absurd ⟨h1, h2⟩ hC
              · exact absurd ⟨h1, h2⟩ hE
          rw [h2]
          rfl
end Go.Proofs.YtedmiganmifepaaGreatDoor
/- The document's dates: the walks of clock, Tick, time (printed by wip/tools/rwalk7.py). -/
namespace Go.Proofs.YtedmiganmifepaaGreatDoor
open Go.RowKit
set_option maxRecDepth 100000

theorem rdig_len : ∀ (k : Nat) (n : Int), (rdig k n).length = k
  | 0, _ => rfl
  | k + 1, n => by rw [rdig, List.length_append, rdig_len k]; rfl
theorem idigI_any (N : Int) (K : Nat) (h0 : 0 ≤ N) (hN : N ≤ 1000000) (hK : K ≤ 10) (w : World) :
    Calls Tryz.prog 62 #[.int .i64 N, .int .i64 K] w fun e w' => e = .returned (.string ⟨(rdig K N).toArray⟩) ∧ Below w.heap.size w w' := by
  obtain ⟨m, rfl⟩ := Int.eq_ofNat_of_zero_le h0
  exact idig_any m K (by omega) hK w
theorem idig1_any (N : Int) (h0 : 0 ≤ N) (hN : N ≤ 1000000) (w : World) :
    Calls Tryz.prog 62 #[.int .i64 N, .int .i64 1] w fun e w' => e = .returned (.string ⟨(rdig 1 N).toArray⟩) ∧ Below w.heap.size w w' := idigI_any N 1 h0 hN (by omega) w
theorem idig2_any (N : Int) (h0 : 0 ≤ N) (hN : N ≤ 1000000) (w : World) :
    Calls Tryz.prog 62 #[.int .i64 N, .int .i64 2] w fun e w' => e = .returned (.string ⟨(rdig 2 N).toArray⟩) ∧ Below w.heap.size w w' := idigI_any N 2 h0 hN (by omega) w
theorem idig4_any (N : Int) (h0 : 0 ≤ N) (hN : N ≤ 1000000) (w : World) :
    Calls Tryz.prog 62 #[.int .i64 N, .int .i64 4] w fun e w' => e = .returned (.string ⟨(rdig 4 N).toArray⟩) ∧ Below w.heap.size w w' := idigI_any N 4 h0 hN (by omega) w
theorem iweekS_any (A : Option Addr) (c : Nat) (n : Nat) (hn : n ≤ 10000000) (w : World) (hr : Rd A 7 1 (strsV rshort) w) :
    Calls Tryz.prog 59 #[.int .i64 n, .slice A 7 c] w fun e w' => e = .returned (.string ⟨(rwd rshort n).toArray⟩) ∧ w' = w := iweek_any A c rshort n hn rfl w hr
theorem iweekL_any (A : Option Addr) (c : Nat) (n : Nat) (hn : n ≤ 10000000) (w : World) (hr : Rd A 7 1 (strsV rlong) w) :
    Calls Tryz.prog 59 #[.int .i64 n, .slice A 7 c] w fun e w' => e = .returned (.string ⟨(rwd rlong n).toArray⟩) ∧ w' = w := iweek_any A c rlong n hn rfl w hr
theorem rcount_in (d : RD) (h : rmay d = true) : ∃ N : Nat, rcount d = N ∧ N ≤ 10000000 := by
  obtain ⟨a1, a2, a3, a4, a5, a6, _⟩ := rmay_is h
  have h1 := dahead_ge d.year a1
  have h2 := dmons_le d.year (d.month.toNat - 1)
  have h3 := dlong_hi d.year d.month
  have h4 : 31 * (d.month.toNat - 1) ≤ 31 * 11 := Nat.mul_le_mul_left _ (by omega)
  refine ⟨(rcount d).toNat, ?_, ?_⟩
  · unfold rcount; omega
  · unfold rcount; omega
set_option maxHeartbeats 8000000 in
theorem iclock_any (Y Mo D h mi s : Int) (hb : 0 ≤ h ∧ h ≤ 99 ∧ 0 ≤ mi ∧ mi ≤ 99 ∧ 0 ≤ s ∧ s ≤ 99) (w : World) :
    Calls Tryz.prog 63 #[.agg #[.int .i64 Y, .int .i64 Mo, .int .i64 D, .int .i64 h, .int .i64 mi, .int .i64 s]] w fun e w' => e = .returned (.string ⟨(rclock ⟨Y, Mo, D, h, mi, s⟩).toArray⟩) ∧ Below w.heap.size w w' := by
  obtain ⟨W1, hW1⟩ : ∃ W1, w.alloc (.cells #[.int .i64 Y, .int .i64 Mo, .int .i64 D, .int .i64 h, .int .i64 mi, .int .i64 s] 65) = W1 := ⟨_, rfl⟩
  have b1 : Below w.heap.size w W1 := by rw [← hW1]; exact (Below.refl w.heap.size w).alloc (Nat.le_refl _) _
  have x1 : W1.heap[w.heap.size]? = some (.cells #[.int .i64 Y, .int .i64 Mo, .int .i64 D, .int .i64 h, .int .i64 mi, .int .i64 s] 65 (0, 0)) := by rw [← hW1]; exact heap_new w _ _ rfl
  have c0 := (of_heap x1 0).1; have c1 := (of_heap x1 1).1; have c2 := (of_heap x1 2).1; have c3 := (of_heap x1 3).1; have c4 := (of_heap x1 4).1; have c5 := (of_heap x1 5).1; have hEl := (of_heap x1 0).2.2
  simp only [List.getElem?_toArray, List.getElem?_cons_succ, List.getElem?_cons_zero] at c0 c1 c2 c3 c4 c5
  have kc : ∀ w', Below W1.heap.size W1 w' → w'.cell? ⟨w.heap.size, 0, none⟩ = some (.int .i64 Y) ∧ w'.cell? ⟨w.heap.size, 1, none⟩ = some (.int .i64 Mo) ∧ w'.cell? ⟨w.heap.size, 2, none⟩ = some (.int .i64 D) ∧ w'.cell? ⟨w.heap.size, 3, none⟩ = some (.int .i64 h) ∧ w'.cell? ⟨w.heap.size, 4, none⟩ = some (.int .i64 mi) ∧ w'.cell? ⟨w.heap.size, 5, none⟩ = some (.int .i64 s) ∧ Below W1.heap.size W1 w' := fun w' h => ⟨(h.cell (p := ⟨w.heap.size, 0, none⟩) hEl).trans c0, (h.cell (p := ⟨w.heap.size, 1, none⟩) hEl).trans c1, (h.cell (p := ⟨w.heap.size, 2, none⟩) hEl).trans c2, (h.cell (p := ⟨w.heap.size, 3, none⟩) hEl).trans c3, (h.cell (p := ⟨w.heap.size, 4, none⟩) hEl).trans c4, (h.cell (p := ⟨w.heap.size, 5, none⟩) hEl).trans c5, h⟩
  have k1 := fun W => idig2_any h (by omega) (by omega) W
  have k2 := fun W => idig2_any mi (by omega) (by omega) W
  have k3 := fun W => idig2_any s (by omega) (by omega) W
  have hfin : ((((⟨(rdig 2 h).toArray⟩ : ByteArray) ++ ⟨#[58]⟩) ++ ⟨(rdig 2 mi).toArray⟩) ++ ⟨#[58]⟩) ++ ⟨(rdig 2 s).toArray⟩ = ⟨(rclock ⟨Y, Mo, D, h, mi, s⟩).toArray⟩ := by
    apply str_eq
    simp only [app_list]
    unfold rclock
    simp
  have z1 : (⟨(rdig 2 h).toArray⟩ : ByteArray).size = 2 := by rw [Lib.size_eq]; exact rdig_len 2 h
  have z2 : (⟨(rdig 2 mi).toArray⟩ : ByteArray).size = 2 := by rw [Lib.size_eq]; exact rdig_len 2 mi
  have z3 : (⟨(rdig 2 s).toArray⟩ : ByteArray).size = 2 := by rw [Lib.size_eq]; exact rdig_len 2 s
  generalize (⟨(rdig 2 h).toArray⟩ : ByteArray) = q1 at *
  generalize (⟨(rdig 2 mi).toArray⟩ : ByteArray) = q2 at *
  generalize (⟨(rdig 2 s).toArray⟩ : ByteArray) = q3 at *
  generalize (⟨(rclock ⟨Y, Mo, D, h, mi, s⟩).toArray⟩ : ByteArray) = R at *
  have y1 : q1.size ≤ 2 := by omega
  have y2 : q2.size ≤ 2 := by omega
  have y3 : q3.size ≤ 2 := by omega
  have f1 : ¬ (9223372036854775807 < q1.size + 1) := by omega
  have f2 : ¬ (9223372036854775807 < q1.size + 1 + q2.size) := by omega
  have f3 : ¬ (9223372036854775807 < q1.size + 1 + q2.size + 1) := by omega
  have f4 : ¬ (9223372036854775807 < q1.size + 1 + q2.size + 1 + q3.size) := by omega
  have K1 := Lib.hid k1; have K2 := Lib.hid k2; have K3 := Lib.hid k3; have KC := Lib.hid kc; have HW1 := Lib.hid hW1; have HF := Lib.hid hfin
  have hB1 : Below W1.heap.size W1 W1.drew := (Below.refl _ _).drew
  clear k1 k2 k3 kc hW1 x1 z1 z2 z3 hfin hb c0 c1 c2 c3 c4 c5 hEl
  go_enter Tryz.func63, Tryz.ntmps63
  go_upto_region 1 with (fail)
  rw [HW1.out]
  go_wp2_with fail
  refine wp_region_held_drew (S := (fun w' => w'.cell? ⟨w.heap.size, 0, none⟩ = some (.int .i64 Y) ∧ w'.cell? ⟨w.heap.size, 1, none⟩ = some (.int .i64 Mo) ∧ w'.cell? ⟨w.heap.size, 2, none⟩ = some (.int .i64 D) ∧ w'.cell? ⟨w.heap.size, 3, none⟩ = some (.int .i64 h) ∧ w'.cell? ⟨w.heap.size, 4, none⟩ = some (.int .i64 mi) ∧ w'.cell? ⟨w.heap.size, 5, none⟩ = some (.int .i64 s) ∧ Below W1.heap.size W1 w')) (by kernel_rfl) (KC.out _ hB1) (fun hHeld => ?_)
  refine wpAnyH_take (i := 0) (v := ?_) (by simp only [List.getElem?_toArray, List.getElem?_cons_zero]; exact rfl) (by kernel_rfl) (by kernel_rfl) (by kernel_rfl) (by intro _ _ _ h; exact h) (Or.inl ⟨by rfl, fun W hSw => ?_⟩) hHeld ?_
  rotate_left
  focus ((try dsimp only at hSw); first | (go_simp; done) | (go_simp; with_reducible rfl))
  try simp only [Act.put, List.setIfInBounds_toArray, List.set_cons_zero, List.set_cons_succ]
  refine wpAnyH_take (i := 1) (v := ?_) (by simp only [List.getElem?_toArray, List.getElem?_cons_succ, List.getElem?_cons_zero]; exact rfl) (by kernel_rfl) (by kernel_rfl) (by kernel_rfl) (by intro _ _ _ h; exact h) (Or.inl ⟨by rfl, fun W hSw => ?_⟩) hHeld ?_
  rotate_left
  focus ((try dsimp only at hSw); first | (go_simp; done) | (go_simp; with_reducible rfl))
  try simp only [Act.put, List.setIfInBounds_toArray, List.set_cons_zero, List.set_cons_succ]
  refine wpAnyH_take (i := 4) (v := ?_) (by simp only [List.getElem?_toArray, List.getElem?_cons_succ, List.getElem?_cons_zero]; exact rfl) (by kernel_rfl) (by kernel_rfl) (by kernel_rfl) (by intro _ _ _ h; exact h) (Or.inl ⟨by rfl, fun W hSw => ?_⟩) hHeld ?_
  rotate_left
  focus ((try dsimp only at hSw); first | (go_simp; done) | (go_simp; with_reducible rfl))
  try simp only [Act.put, List.setIfInBounds_toArray, List.set_cons_zero, List.set_cons_succ]
  refine wpAnyH_take (i := 5) (v := ?_) (by simp only [List.getElem?_toArray, List.getElem?_cons_succ, List.getElem?_cons_zero]; exact rfl) (by kernel_rfl) (by kernel_rfl) (by kernel_rfl) (by intro _ _ _ h; exact h) (Or.inl ⟨by rfl, fun W hSw => ?_⟩) hHeld ?_
  rotate_left
  focus ((try dsimp only at hSw); first | (go_simp; done) | (go_simp; with_reducible rfl))
  try simp only [Act.put, List.setIfInBounds_toArray, List.set_cons_zero, List.set_cons_succ]
  refine wpAnyH_take (i := 9) (v := ?_) (by simp only [List.getElem?_toArray, List.getElem?_cons_succ, List.getElem?_cons_zero]; exact rfl) (by kernel_rfl) (by kernel_rfl) (by kernel_rfl) (by intro _ _ _ h; exact h) (Or.inl ⟨by rfl, fun W hSw => ?_⟩) hHeld ?_
  rotate_left
  focus ((try dsimp only at hSw); first | (go_simp; done) | (go_simp; with_reducible rfl))
  try simp only [Act.put, List.setIfInBounds_toArray, List.set_cons_zero, List.set_cons_succ]
  refine wpAnyH_take (i := 10) (v := ?_) (by simp only [List.getElem?_toArray, List.getElem?_cons_succ, List.getElem?_cons_zero]; exact rfl) (by kernel_rfl) (by kernel_rfl) (by kernel_rfl) (by intro _ _ _ h; exact h) (Or.inl ⟨by rfl, fun W hSw => ?_⟩) hHeld ?_
  rotate_left
  focus ((try dsimp only at hSw); first | (go_simp; done) | (go_simp; with_reducible rfl))
  try simp only [Act.put, List.setIfInBounds_toArray, List.set_cons_zero, List.set_cons_succ]
  refine wpAnyH_ready (rs := [2]) (by kernel_rfl) (by simp) (AllReadyH.cons (by simp only [List.getElem?_toArray, List.getElem?_cons_succ, List.getElem?_cons_zero]; exact rfl) (fun K hK => ?_) AllReadyH.nil)
  rw [if_pos (by rfl)]
  go_simp
  (with_reducible refine (K1.out _).mono ?_); rintro e w2 ⟨rfl, hb2⟩; have hB2 := bt hB1 hb2; go_wp2_with fail
  refine hK.out _ _ (KC.out _ hB2) (fun hHeld => ?_)
  clear hK K
  try simp only [Act.put, List.setIfInBounds_toArray, List.set_cons_zero, List.set_cons_succ]
  refine wpAnyH_take (i := 3) (v := ?_) (by simp only [List.getElem?_toArray, List.getElem?_cons_succ, List.getElem?_cons_zero]; exact rfl) (by kernel_rfl) (by kernel_rfl) (by kernel_rfl) (by intro _ _ _ h; exact h) (Or.inl ⟨by rfl, fun W hSw => ?_⟩) hHeld ?_
  rotate_left
  focus ((try dsimp only at hSw); first | (go_simp; done) | (go_simp; with_reducible rfl))
  try simp only [Act.put, List.setIfInBounds_toArray, List.set_cons_zero, List.set_cons_succ]
  refine wpAnyH_ready (rs := [6]) (by kernel_rfl) (by simp) (AllReadyH.cons (by simp only [List.getElem?_toArray, List.getElem?_cons_succ, List.getElem?_cons_zero]; exact rfl) (fun K hK => ?_) AllReadyH.nil)
  rw [if_pos (by rfl)]
  go_simp
  (with_reducible refine (K2.out _).mono ?_); rintro e w3 ⟨rfl, hb3⟩; have hB3 := bt hB2 hb3; go_wp2_with fail
  refine hK.out _ _ (KC.out _ hB3) (fun hHeld => ?_)
  clear hK K
  try simp only [Act.put, List.setIfInBounds_toArray, List.set_cons_zero, List.set_cons_succ]
  refine wpAnyH_take (i := 7) (v := ?_) (by simp only [List.getElem?_toArray, List.getElem?_cons_succ, List.getElem?_cons_zero]; exact rfl) (by kernel_rfl) (by kernel_rfl) (by kernel_rfl) (by intro _ _ _ h; exact h) (Or.inl ⟨by rfl, fun W hSw => ?_⟩) hHeld ?_
  rotate_left
  focus ((try dsimp only at hSw); first | (go_simp; done) | (go_simp; with_reducible rfl))
  try simp only [Act.put, List.setIfInBounds_toArray, List.set_cons_zero, List.set_cons_succ]
  refine wpAnyH_take (i := 8) (v := ?_) (by simp only [List.getElem?_toArray, List.getElem?_cons_succ, List.getElem?_cons_zero]; exact rfl) (by kernel_rfl) (by kernel_rfl) (by kernel_rfl) (by intro _ _ _ h; exact h) (Or.inl ⟨by rfl, fun W hSw => ?_⟩) hHeld ?_
  rotate_left
  focus ((try dsimp only at hSw); first | (go_simp; done) | (go_simp; with_reducible rfl))
  try simp only [Act.put, List.setIfInBounds_toArray, List.set_cons_zero, List.set_cons_succ]
  refine wpAnyH_ready (rs := [11]) (by kernel_rfl) (by simp) (AllReadyH.cons (by simp only [List.getElem?_toArray, List.getElem?_cons_succ, List.getElem?_cons_zero]; exact rfl) (fun K hK => ?_) AllReadyH.nil)
  rw [if_pos (by rfl)]
  go_simp
  (with_reducible refine (K3.out _).mono ?_); rintro e w4 ⟨rfl, hb4⟩; have hB4 := bt hB3 hb4; go_wp2_with fail
  refine hK.out _ _ (KC.out _ hB4) (fun hHeld => ?_)
  clear hK K
  try simp only [Act.put, List.setIfInBounds_toArray, List.set_cons_zero, List.set_cons_succ]
  refine wpAnyH_take (i := 12) (v := ?_) (by simp only [List.getElem?_toArray, List.getElem?_cons_succ, List.getElem?_cons_zero]; exact rfl) (by kernel_rfl) (by kernel_rfl) (by kernel_rfl) (by intro _ _ _ h; exact h) (Or.inl ⟨by rfl, fun W hSw => ?_⟩) hHeld ?_
  rotate_left
  focus ((try dsimp only at hSw); first | (go_simp; done) | (go_simp; with_reducible rfl))
  try simp only [Act.put, List.setIfInBounds_toArray, List.set_cons_zero, List.set_cons_succ]
  refine wpAnyH_take (i := 13) (v := ?_) (by simp only [List.getElem?_toArray, List.getElem?_cons_succ, List.getElem?_cons_zero]; exact rfl) (by kernel_rfl) (by kernel_rfl) (by kernel_rfl) (by intro _ _ _ h; exact h) (Or.inl ⟨by rfl, fun W hSw => ?_⟩) hHeld ?_
  rotate_left
  focus ((try dsimp only at hSw); first | (go_simp; done) | (go_simp; with_reducible rfl))
  try simp only [Act.put, List.setIfInBounds_toArray, List.set_cons_zero, List.set_cons_succ]
  refine wpAnyH_done (by kernel_rfl) ?_ _
  clear hHeld
  go_wp2
  go_ret
  exact ⟨by rw [← HF.out]; rfl, bt b1 hB4⟩
set_option maxHeartbeats 8000000 in
theorem itick_any (Y Mo D h mi s : Int) (hd : rmay ⟨Y, Mo, D, h, mi, s⟩ = true) (w : World) :
    Calls Tryz.prog 40 #[.agg #[.int .i64 Y, .int .i64 Mo, .int .i64 D, .int .i64 h, .int .i64 mi, .int .i64 s]] w fun e w' => e = .returned (.int .i64 (rtick ⟨Y, Mo, D, h, mi, s⟩)) ∧ Below w.heap.size w w' := by
  obtain ⟨a1, a2, a3, a4, a5, a6, a7, a8, a9, a10, a11, a12⟩ := rmay_is hd
  simp only at a1 a2 a3 a4 a5 a6 a7 a8 a9 a10 a11 a12
  have hdl := dlong_hi Y Mo
  obtain ⟨W1, hW1⟩ : ∃ W1, w.alloc (.cells #[.int .i64 Y, .int .i64 Mo, .int .i64 D, .int .i64 h, .int .i64 mi, .int .i64 s] 65) = W1 := ⟨_, rfl⟩
  have b1 : Below w.heap.size w W1 := by rw [← hW1]; exact (Below.refl w.heap.size w).alloc (Nat.le_refl _) _
  have x1 : W1.heap[w.heap.size]? = some (.cells #[.int .i64 Y, .int .i64 Mo, .int .i64 D, .int .i64 h, .int .i64 mi, .int .i64 s] 65 (0, 0)) := by rw [← hW1]; exact heap_new w _ _ rfl
  have c0 := (of_heap x1 0).1; have c1 := (of_heap x1 1).1; have c2 := (of_heap x1 2).1; have c3 := (of_heap x1 3).1; have c4 := (of_heap x1 4).1; have c5 := (of_heap x1 5).1; have hEl := (of_heap x1 0).2.2
  simp only [List.getElem?_toArray, List.getElem?_cons_succ, List.getElem?_cons_zero] at c0 c1 c2 c3 c4 c5
  have kc : ∀ w', Below W1.heap.size W1 w' → w'.cell? ⟨w.heap.size, 0, none⟩ = some (.int .i64 Y) ∧ w'.cell? ⟨w.heap.size, 1, none⟩ = some (.int .i64 Mo) ∧ w'.cell? ⟨w.heap.size, 2, none⟩ = some (.int .i64 D) ∧ w'.cell? ⟨w.heap.size, 3, none⟩ = some (.int .i64 h) ∧ w'.cell? ⟨w.heap.size, 4, none⟩ = some (.int .i64 mi) ∧ w'.cell? ⟨w.heap.size, 5, none⟩ = some (.int .i64 s) ∧ Below W1.heap.size W1 w' := fun w' h => ⟨(h.cell (p := ⟨w.heap.size, 0, none⟩) hEl).trans c0, (h.cell (p := ⟨w.heap.size, 1, none⟩) hEl).trans c1, (h.cell (p := ⟨w.heap.size, 2, none⟩) hEl).trans c2, (h.cell (p := ⟨w.heap.size, 3, none⟩) hEl).trans c3, (h.cell (p := ⟨w.heap.size, 4, none⟩) hEl).trans c4, (h.cell (p := ⟨w.heap.size, 5, none⟩) hEl).trans c5, h⟩
  have k1 := fun W => icount_any Y Mo D h mi s ⟨a1, a2⟩ ⟨a3, a4⟩ ⟨a5, by omega⟩ W
  obtain ⟨N, hN, hNb⟩ := rcount_in _ hd
  have hR : rtick ⟨Y, Mo, D, h, mi, s⟩ = (N : Int) * 86400 + (3600 * h + 60 * mi + s) := by unfold rtick; rw [hN]
  rw [hR]
  rw [hN] at k1
  have w1 : IntKind.i64.wrap ((N : Int) * 86400) = (N : Int) * 86400 := by rw [IntKind.wrap_i64]; omega
  have w2 : IntKind.i64.wrap (3600 * h) = 3600 * h := by rw [IntKind.wrap_i64]; omega
  have w3 : IntKind.i64.wrap (60 * mi) = 60 * mi := by rw [IntKind.wrap_i64]; omega
  have w4 : IntKind.i64.wrap (3600 * h + 60 * mi) = 3600 * h + 60 * mi := by rw [IntKind.wrap_i64]; omega
  have w5 : IntKind.i64.wrap (3600 * h + 60 * mi + s) = 3600 * h + 60 * mi + s := by rw [IntKind.wrap_i64]; omega
  have w6 : IntKind.i64.wrap ((N : Int) * 86400 + (3600 * h + 60 * mi + s)) = (N : Int) * 86400 + (3600 * h + 60 * mi + s) := by rw [IntKind.wrap_i64]; omega
  have K1 := Lib.hid k1; have KC := Lib.hid kc; have HW1 := Lib.hid hW1
  have hB1 : Below W1.heap.size W1 W1.drew := (Below.refl _ _).drew
  clear k1 kc hW1 x1 hd hN hR c0 c1 c2 c3 c4 c5 hEl
  go_enter Tryz.func40, Tryz.ntmps40
  go_upto_region 1 with (fail)
  rw [HW1.out]
  go_wp2_with fail
  refine wp_region_held_drew (S := (fun w' => w'.cell? ⟨w.heap.size, 0, none⟩ = some (.int .i64 Y) ∧ w'.cell? ⟨w.heap.size, 1, none⟩ = some (.int .i64 Mo) ∧ w'.cell? ⟨w.heap.size, 2, none⟩ = some (.int .i64 D) ∧ w'.cell? ⟨w.heap.size, 3, none⟩ = some (.int .i64 h) ∧ w'.cell? ⟨w.heap.size, 4, none⟩ = some (.int .i64 mi) ∧ w'.cell? ⟨w.heap.size, 5, none⟩ = some (.int .i64 s) ∧ Below W1.heap.size W1 w')) (by kernel_rfl) (KC.out _ hB1) (fun hHeld => ?_)
  refine wpAnyH_take (i := 0) (v := ?_) (by simp only [List.getElem?_toArray, List.getElem?_cons_zero]; exact rfl) (by kernel_rfl) (by kernel_rfl) (by kernel_rfl) (by intro _ _ _ h; exact h) (Or.inl ⟨by rfl, fun W hSw => ?_⟩) hHeld ?_
  rotate_left
  focus ((try dsimp only at hSw); first | (go_simp; done) | (go_simp; with_reducible rfl))
  try simp only [Act.put, List.setIfInBounds_toArray, List.set_cons_zero, List.set_cons_succ]
  refine wpAnyH_take (i := 3) (v := ?_) (by simp only [List.getElem?_toArray, List.getElem?_cons_succ, List.getElem?_cons_zero]; exact rfl) (by kernel_rfl) (by kernel_rfl) (by kernel_rfl) (by intro _ _ _ h; exact h) (Or.inl ⟨by rfl, fun W hSw => ?_⟩) hHeld ?_
  rotate_left
  focus ((try dsimp only at hSw); first | (go_simp; done) | (go_simp; with_reducible rfl))
  try simp only [Act.put, List.setIfInBounds_toArray, List.set_cons_zero, List.set_cons_succ]
  refine wpAnyH_take (i := 4) (v := ?_) (by simp only [List.getElem?_toArray, List.getElem?_cons_succ, List.getElem?_cons_zero]; exact rfl) (by kernel_rfl) (by kernel_rfl) (by kernel_rfl) (by intro _ _ _ h; exact h) (Or.inl ⟨by rfl, fun W hSw => ?_⟩) hHeld ?_
  rotate_left
  focus ((try dsimp only at hSw); first | (go_simp; done) | (go_simp; with_reducible rfl))
  try simp only [Act.put, List.setIfInBounds_toArray, List.set_cons_zero, List.set_cons_succ]
  refine wpAnyH_take (i := 5) (v := ?_) (by simp only [List.getElem?_toArray, List.getElem?_cons_succ, List.getElem?_cons_zero]; exact rfl) (by kernel_rfl) (by kernel_rfl) (by kernel_rfl) (by intro _ _ _ h; exact h) (Or.inl ⟨by rfl, fun W hSw => ?_⟩) hHeld ?_
  rotate_left
  focus ((try dsimp only at hSw); first | (go_simp; done) | (go_simp; with_reducible rfl))
  try simp only [Act.put, List.setIfInBounds_toArray, List.set_cons_zero, List.set_cons_succ]
  refine wpAnyH_take (i := 6) (v := ?_) (by simp only [List.getElem?_toArray, List.getElem?_cons_succ, List.getElem?_cons_zero]; exact rfl) (by kernel_rfl) (by kernel_rfl) (by kernel_rfl) (by intro _ _ _ h; exact h) (Or.inl ⟨by rfl, fun W hSw => ?_⟩) hHeld ?_
  rotate_left
  focus ((try dsimp only at hSw); first | (go_simp; done) | (go_simp; with_reducible rfl))
  try simp only [Act.put, List.setIfInBounds_toArray, List.set_cons_zero, List.set_cons_succ]
  refine wpAnyH_take (i := 7) (v := ?_) (by simp only [List.getElem?_toArray, List.getElem?_cons_succ, List.getElem?_cons_zero]; exact rfl) (by kernel_rfl) (by kernel_rfl) (by kernel_rfl) (by intro _ _ _ h; exact h) (Or.inl ⟨by rfl, fun W hSw => ?_⟩) hHeld ?_
  rotate_left
  focus ((try dsimp only at hSw); first | (go_simp; done) | (go_simp; with_reducible rfl))
  try simp only [Act.put, List.setIfInBounds_toArray, List.set_cons_zero, List.set_cons_succ]
  refine wpAnyH_take (i := 8) (v := ?_) (by simp only [List.getElem?_toArray, List.getElem?_cons_succ, List.getElem?_cons_zero]; exact rfl) (by kernel_rfl) (by kernel_rfl) (by kernel_rfl) (by intro _ _ _ h; exact h) (Or.inl ⟨by rfl, fun W hSw => ?_⟩) hHeld ?_
  rotate_left
  focus ((try dsimp only at hSw); first | (go_simp; done) | (go_simp; with_reducible rfl))
  try simp only [Act.put, List.setIfInBounds_toArray, List.set_cons_zero, List.set_cons_succ]
  refine wpAnyH_take (i := 9) (v := ?_) (by simp only [List.getElem?_toArray, List.getElem?_cons_succ, List.getElem?_cons_zero]; exact rfl) (by kernel_rfl) (by kernel_rfl) (by kernel_rfl) (by intro _ _ _ h; exact h) (Or.inl ⟨by rfl, fun W hSw => ?_⟩) hHeld ?_
  rotate_left
  focus ((try dsimp only at hSw); first | (go_simp; done) | (go_simp; with_reducible rfl))
  try simp only [Act.put, List.setIfInBounds_toArray, List.set_cons_zero, List.set_cons_succ]
  refine wpAnyH_take (i := 10) (v := ?_) (by simp only [List.getElem?_toArray, List.getElem?_cons_succ, List.getElem?_cons_zero]; exact rfl) (by kernel_rfl) (by kernel_rfl) (by kernel_rfl) (by intro _ _ _ h; exact h) (Or.inl ⟨by rfl, fun W hSw => ?_⟩) hHeld ?_
  rotate_left
  focus ((try dsimp only at hSw); first | (go_simp; done) | (go_simp; with_reducible rfl))
  try simp only [Act.put, List.setIfInBounds_toArray, List.set_cons_zero, List.set_cons_succ]
  refine wpAnyH_take (i := 11) (v := ?_) (by simp only [List.getElem?_toArray, List.getElem?_cons_succ, List.getElem?_cons_zero]; exact rfl) (by kernel_rfl) (by kernel_rfl) (by kernel_rfl) (by intro _ _ _ h; exact h) (Or.inl ⟨by rfl, fun W hSw => ?_⟩) hHeld ?_
  rotate_left
  focus ((try dsimp only at hSw); first | (go_simp; done) | (go_simp; with_reducible rfl))
  try simp only [Act.put, List.setIfInBounds_toArray, List.set_cons_zero, List.set_cons_succ]
  refine wpAnyH_take (i := 12) (v := ?_) (by simp only [List.getElem?_toArray, List.getElem?_cons_succ, List.getElem?_cons_zero]; exact rfl) (by kernel_rfl) (by kernel_rfl) (by kernel_rfl) (by intro _ _ _ h; exact h) (Or.inl ⟨by rfl, fun W hSw => ?_⟩) hHeld ?_
  rotate_left
  focus ((try dsimp only at hSw); first | (go_simp; done) | (go_simp; with_reducible rfl))
  try simp only [Act.put, List.setIfInBounds_toArray, List.set_cons_zero, List.set_cons_succ]
  refine wpAnyH_ready (rs := [1]) (by kernel_rfl) (by simp) (AllReadyH.cons (by simp only [List.getElem?_toArray, List.getElem?_cons_succ, List.getElem?_cons_zero]; exact rfl) (fun K hK => ?_) AllReadyH.nil)
  rw [if_pos (by rfl)]
  go_simp
  (with_reducible refine (K1.out _).mono ?_); rintro e w2 ⟨rfl, hb2⟩; have hB2 := bt hB1 hb2; go_wp2_with fail
  refine hK.out _ _ (KC.out _ hB2) (fun hHeld => ?_)
  clear hK K
  try simp only [Act.put, List.setIfInBounds_toArray, List.set_cons_zero, List.set_cons_succ]
  refine wpAnyH_take (i := 2) (v := ?_) (by simp only [List.getElem?_toArray, List.getElem?_cons_succ, List.getElem?_cons_zero]; exact rfl) (by kernel_rfl) (by kernel_rfl) (by kernel_rfl) (by intro _ _ _ h; exact h) (Or.inl ⟨by rfl, fun W hSw => ?_⟩) hHeld ?_
  rotate_left
  focus ((try dsimp only at hSw); first | (go_simp; done) | (go_simp; with_reducible rfl))
  try simp only [Act.put, List.setIfInBounds_toArray, List.set_cons_zero, List.set_cons_succ]
  refine wpAnyH_take (i := 13) (v := ?_) (by simp only [List.getElem?_toArray, List.getElem?_cons_succ, List.getElem?_cons_zero]; exact rfl) (by kernel_rfl) (by kernel_rfl) (by kernel_rfl) (by intro _ _ _ h; exact h) (Or.inl ⟨by rfl, fun W hSw => ?_⟩) hHeld ?_
  rotate_left
  focus ((try dsimp only at hSw); first | (go_simp; done) | (go_simp; with_reducible rfl))
  try simp only [Act.put, List.setIfInBounds_toArray, List.set_cons_zero, List.set_cons_succ]
  refine wpAnyH_take (i := 14) (v := ?_) (by simp only [List.getElem?_toArray, List.getElem?_cons_succ, List.getElem?_cons_zero]; exact rfl) (by kernel_rfl) (by kernel_rfl) (by kernel_rfl) (by intro _ _ _ h; exact h) (Or.inl ⟨by rfl, fun W hSw => ?_⟩) hHeld ?_
  rotate_left
  focus ((try dsimp only at hSw); first | (go_simp; done) | (go_simp; with_reducible rfl))
  try simp only [Act.put, List.setIfInBounds_toArray, List.set_cons_zero, List.set_cons_succ]
  refine wpAnyH_done (by kernel_rfl) ?_ _
  clear hHeld
  go_wp2
  go_ret
  exact ⟨rfl, bt b1 hB2⟩
end Go.Proofs.YtedmiganmifepaaGreatDoor
/- A named result in memory, alone. -/
namespace Go.Proofs.YtedmiganmifepaaGreatDoor
open Go.RowKit
theorem results_cell_one {fn : Func} {p : Tmp} {ty : TypeId} (h : fn.results = #[.cell p ty]) (tmps : Array Value) (P : Program) (w : World) :
    (results fn tmps).run P w = ((asAddr (tmps.getD p undef)).run P w).andThen fun a w₁ => (loadVar ty a).run P w₁ := by
  simp only [results, h]
  simp [Sem.run_bind, Result.andThen]
  try rfl
end Go.Proofs.YtedmiganmifepaaGreatDoor
/- The document's dates: the walks of May, time (printed by wip/tools/rwalk9.py). -/
namespace Go.Proofs.YtedmiganmifepaaGreatDoor
open Go.RowKit
set_option maxRecDepth 100000

theorem rmay_yes0 {Y Mo D h mi s : Int} (q : 1970 ≤ Y ∧ Y ≤ 9999 ∧ 1 ≤ Mo ∧ Mo ≤ 12 ∧ 1 ≤ D ∧ D ≤ dlong Y Mo ∧ 0 ≤ h ∧ h ≤ 23 ∧ 0 ≤ mi ∧ mi ≤ 59 ∧ 0 ≤ s ∧ s ≤ 59) : rmay ⟨Y, Mo, D, h, mi, s⟩ = true := by
  unfold rmay
  simp only [Bool.and_eq_true, decide_eq_true_eq]
  omega
theorem rmay_no0 {Y Mo D h mi s : Int} (q : ¬ (1970 ≤ Y ∧ Y ≤ 9999 ∧ 1 ≤ Mo ∧ Mo ≤ 12 ∧ 1 ≤ D ∧ D ≤ dlong Y Mo ∧ 0 ≤ h ∧ h ≤ 23 ∧ 0 ≤ mi ∧ mi ≤ 59 ∧ 0 ≤ s ∧ s ≤ 59)) : rmay ⟨Y, Mo, D, h, mi, s⟩ = false := by
  cases hb : rmay ⟨Y, Mo, D, h, mi, s⟩ with
  | false => rfl
  | true => have := rmay_is hb; simp only at this; omega
set_option maxHeartbeats 32000000 in
theorem imay_any (Y Mo D h mi s : Int) (w : World) :
    Calls Tryz.prog 38 #[.agg #[.int .i64 Y, .int .i64 Mo, .int .i64 D, .int .i64 h, .int .i64 mi, .int .i64 s]] w fun e w' => e = .returned (.bool (rmay ⟨Y, Mo, D, h, mi, s⟩)) ∧ Below w.heap.size w w' := by
  have rmay_yes := @rmay_yes0 Y Mo D h mi s
  have rmay_no := @rmay_no0 Y Mo D h mi s
  obtain ⟨dl, hdl0⟩ : ∃ dl, dlong Y Mo = dl := ⟨_, rfl⟩
  rw [hdl0] at rmay_yes rmay_no
  obtain ⟨W1, hW1⟩ : ∃ W1, w.alloc (.cells #[.int .i64 Y, .int .i64 Mo, .int .i64 D, .int .i64 h, .int .i64 mi, .int .i64 s] 65) = W1 := ⟨_, rfl⟩
  have b1 : Below w.heap.size w W1 := by rw [← hW1]; exact (Below.refl w.heap.size w).alloc (Nat.le_refl _) _
  have x1 : W1.heap[w.heap.size]? = some (.cells #[.int .i64 Y, .int .i64 Mo, .int .i64 D, .int .i64 h, .int .i64 mi, .int .i64 s] 65 (0, 0)) := by rw [← hW1]; exact heap_new w _ _ rfl
  have c0 := (of_heap x1 0).1; have c1 := (of_heap x1 1).1; have c2 := (of_heap x1 2).1; have c3 := (of_heap x1 3).1; have c4 := (of_heap x1 4).1; have c5 := (of_heap x1 5).1; have hEl := (of_heap x1 0).2.2
  simp only [List.getElem?_toArray, List.getElem?_cons_succ, List.getElem?_cons_zero] at c0 c1 c2 c3 c4 c5
  have kc : ∀ w', Below W1.heap.size W1 w' → w'.cell? ⟨w.heap.size, 0, none⟩ = some (.int .i64 Y) ∧ w'.cell? ⟨w.heap.size, 1, none⟩ = some (.int .i64 Mo) ∧ w'.cell? ⟨w.heap.size, 2, none⟩ = some (.int .i64 D) ∧ w'.cell? ⟨w.heap.size, 3, none⟩ = some (.int .i64 h) ∧ w'.cell? ⟨w.heap.size, 4, none⟩ = some (.int .i64 mi) ∧ w'.cell? ⟨w.heap.size, 5, none⟩ = some (.int .i64 s) ∧ Below W1.heap.size W1 w' := fun w' h => ⟨(h.cell (p := ⟨w.heap.size, 0, none⟩) hEl).trans c0, (h.cell (p := ⟨w.heap.size, 1, none⟩) hEl).trans c1, (h.cell (p := ⟨w.heap.size, 2, none⟩) hEl).trans c2, (h.cell (p := ⟨w.heap.size, 3, none⟩) hEl).trans c3, (h.cell (p := ⟨w.heap.size, 4, none⟩) hEl).trans c4, (h.cell (p := ⟨w.heap.size, 5, none⟩) hEl).trans c5, h⟩
  have HW1 := Lib.hid hW1
  clear hW1 x1
  by_cases q0 : 1970 ≤ Y
  rotate_left
  · have t0 : decide (1970 ≤ Y) = false := by simpa using q0
    have u0 : decide (Y ≥ 1970) = false := by simpa using q0
    clear kc
    go_enter Tryz.func38, Tryz.ntmps38
    go_upto_region 1 with (fail)
    rw [HW1.out]
    go_wp2_with fail
    go_quiet (fail)
    go_wp2
    go_ret
    exact ⟨by first | rfl | (rw [rmay_no (by omega)]; rfl), Go.below_drewN b1 _⟩
  by_cases q1 : Y ≤ 9999
  rotate_left
  · have t0 : decide (1970 ≤ Y) = true := by simpa using q0
    have u0 : decide (Y ≥ 1970) = true := by simpa using q0
    have t1 : decide (Y ≤ 9999) = false := by simpa using q1
    clear kc
    go_enter Tryz.func38, Tryz.ntmps38
    go_upto_region 1 with (fail)
    rw [HW1.out]
    go_wp2_with fail
    go_quiet (fail)
    go_wp2
    go_ret
    exact ⟨by first | rfl | (rw [rmay_no (by omega)]; rfl), Go.below_drewN b1 _⟩
  by_cases q2 : 1 ≤ Mo
  rotate_left
  · have t0 : decide (1970 ≤ Y) = true := by simpa using q0
    have u0 : decide (Y ≥ 1970) = true := by simpa using q0
    have t1 : decide (Y ≤ 9999) = true := by simpa using q1
    have t2 : decide (1 ≤ Mo) = false := by simpa using q2
    have u2 : decide (Mo ≥ 1) = false := by simpa using q2
    clear kc
    go_enter Tryz.func38, Tryz.ntmps38
    go_upto_region 1 with (fail)
    rw [HW1.out]
    go_wp2_with fail
    go_quiet (fail)
    go_wp2
    go_ret
    exact ⟨by first | rfl | (rw [rmay_no (by omega)]; rfl), Go.below_drewN b1 _⟩
  by_cases q3 : Mo ≤ 12
  rotate_left
  · have t0 : decide (1970 ≤ Y) = true := by simpa using q0
    have u0 : decide (Y ≥ 1970) = true := by simpa using q0
    have t1 : decide (Y ≤ 9999) = true := by simpa using q1
    have t2 : decide (1 ≤ Mo) = true := by simpa using q2
    have u2 : decide (Mo ≥ 1) = true := by simpa using q2
    have t3 : decide (Mo ≤ 12) = false := by simpa using q3
    clear kc
    go_enter Tryz.func38, Tryz.ntmps38
    go_upto_region 1 with (fail)
    rw [HW1.out]
    go_wp2_with fail
    go_quiet (fail)
    go_wp2
    go_ret
    exact ⟨by first | rfl | (rw [rmay_no (by omega)]; rfl), Go.below_drewN b1 _⟩
  by_cases q4 : 1 ≤ D
  rotate_left
  · have t0 : decide (1970 ≤ Y) = true := by simpa using q0
    have u0 : decide (Y ≥ 1970) = true := by simpa using q0
    have t1 : decide (Y ≤ 9999) = true := by simpa using q1
    have t2 : decide (1 ≤ Mo) = true := by simpa using q2
    have u2 : decide (Mo ≥ 1) = true := by simpa using q2
    have t3 : decide (Mo ≤ 12) = true := by simpa using q3
    have t4 : decide (1 ≤ D) = false := by simpa using q4
    have u4 : decide (D ≥ 1) = false := by simpa using q4
    clear kc
    go_enter Tryz.func38, Tryz.ntmps38
    go_upto_region 1 with (fail)
    rw [HW1.out]
    go_wp2_with fail
    go_quiet (fail)
    go_wp2
    go_ret
    exact ⟨by first | rfl | (rw [rmay_no (by omega)]; rfl), Go.below_drewN b1 _⟩
  have t0 : decide (1970 ≤ Y) = true := by simpa using q0
  have u0 : decide (Y ≥ 1970) = true := by simpa using q0
  have t1 : decide (Y ≤ 9999) = true := by simpa using q1
  have t2 : decide (1 ≤ Mo) = true := by simpa using q2
  have u2 : decide (Mo ≥ 1) = true := by simpa using q2
  have t3 : decide (Mo ≤ 12) = true := by simpa using q3
  have t4 : decide (1 ≤ D) = true := by simpa using q4
  have u4 : decide (D ≥ 1) = true := by simpa using q4
  have kd := fun W => idays_any Y Mo (by omega) (by omega) W
  have hdl : dlong Y Mo = dl := hdl0
  rw [hdl] at kd
  have KD := Lib.hid kd; have KC := Lib.hid kc
  have hB1 : Below W1.heap.size W1 W1.drew := (Below.refl _ _).drew
  clear kd kc c0 c1 c2 c3 c4 c5 hdl
  go_enter Tryz.func38, Tryz.ntmps38
  go_upto_region 1 with (fail)
  rw [HW1.out]
  go_wp2_with fail
  refine wp_region_held_drew (S := (fun w' => w'.cell? ⟨w.heap.size, 0, none⟩ = some (.int .i64 Y) ∧ w'.cell? ⟨w.heap.size, 1, none⟩ = some (.int .i64 Mo) ∧ w'.cell? ⟨w.heap.size, 2, none⟩ = some (.int .i64 D) ∧ w'.cell? ⟨w.heap.size, 3, none⟩ = some (.int .i64 h) ∧ w'.cell? ⟨w.heap.size, 4, none⟩ = some (.int .i64 mi) ∧ w'.cell? ⟨w.heap.size, 5, none⟩ = some (.int .i64 s) ∧ Below W1.heap.size W1 w')) (by kernel_rfl) (KC.out _ hB1) (fun hHeld => ?_)
  refine wpAnyH_take (i := 0) (v := ?_) (by simp only [List.getElem?_toArray, List.getElem?_cons_zero]; exact rfl) (by kernel_rfl) (by kernel_rfl) (by kernel_rfl) (by intro _ _ _ h; exact h) (Or.inl ⟨by rfl, fun W hSw => ?_⟩) hHeld ?_
  rotate_left
  focus ((try dsimp only at hSw); first | (go_simp; done) | (go_simp; with_reducible rfl))
  try simp only [Act.put, List.setIfInBounds_toArray, List.set_cons_zero, List.set_cons_succ]
  refine wpAnyH_take (i := 1) (v := ?_) (by simp only [List.getElem?_toArray, List.getElem?_cons_succ, List.getElem?_cons_zero]; exact rfl) (by kernel_rfl) (by kernel_rfl) (by kernel_rfl) (by intro _ _ _ h; exact h) (Or.inl ⟨by rfl, fun W hSw => ?_⟩) hHeld ?_
  rotate_left
  focus ((try dsimp only at hSw); first | (go_simp; done) | (go_simp; with_reducible rfl))
  try simp only [Act.put, List.setIfInBounds_toArray, List.set_cons_zero, List.set_cons_succ]
  refine wpAnyH_take (i := 2) (v := ?_) (by simp only [List.getElem?_toArray, List.getElem?_cons_succ, List.getElem?_cons_zero]; exact rfl) (by kernel_rfl) (by kernel_rfl) (by kernel_rfl) (by intro _ _ _ h; exact h) (Or.inl ⟨by rfl, fun W hSw => ?_⟩) hHeld ?_
  rotate_left
  focus ((try dsimp only at hSw); first | (go_simp; done) | (go_simp; with_reducible rfl))
  try simp only [Act.put, List.setIfInBounds_toArray, List.set_cons_zero, List.set_cons_succ]
  refine wpAnyH_take (i := 3) (v := ?_) (by simp only [List.getElem?_toArray, List.getElem?_cons_succ, List.getElem?_cons_zero]; exact rfl) (by kernel_rfl) (by kernel_rfl) (by kernel_rfl) (by intro _ _ _ h; exact h) (Or.inl ⟨by rfl, fun W hSw => ?_⟩) hHeld ?_
  rotate_left
  focus ((try dsimp only at hSw); first | (go_simp; done) | (go_simp; with_reducible rfl))
  try simp only [Act.put, List.setIfInBounds_toArray, List.set_cons_zero, List.set_cons_succ]
  refine wpAnyH_take (i := 4) (v := ?_) (by simp only [List.getElem?_toArray, List.getElem?_cons_succ, List.getElem?_cons_zero]; exact rfl) (by kernel_rfl) (by kernel_rfl) (by kernel_rfl) (by intro _ _ _ h; exact h) (Or.inl ⟨by rfl, fun W hSw => ?_⟩) hHeld ?_
  rotate_left
  focus ((try dsimp only at hSw); first | (go_simp; done) | (go_simp; with_reducible rfl))
  try simp only [Act.put, List.setIfInBounds_toArray, List.set_cons_zero, List.set_cons_succ]
  refine wpAnyH_take (i := 5) (v := ?_) (by simp only [List.getElem?_toArray, List.getElem?_cons_succ, List.getElem?_cons_zero]; exact rfl) (by kernel_rfl) (by kernel_rfl) (by kernel_rfl) (by intro _ _ _ h; exact h) (Or.inl ⟨by rfl, fun W hSw => ?_⟩) hHeld ?_
  rotate_left
  focus ((try dsimp only at hSw); first | (go_simp; done) | (go_simp; with_reducible rfl))
  try simp only [Act.put, List.setIfInBounds_toArray, List.set_cons_zero, List.set_cons_succ]
  refine wpAnyH_take (i := 6) (v := ?_) (by simp only [List.getElem?_toArray, List.getElem?_cons_succ, List.getElem?_cons_zero]; exact rfl) (by kernel_rfl) (by kernel_rfl) (by kernel_rfl) (by intro _ _ _ h; exact h) (Or.inl ⟨by rfl, fun W hSw => ?_⟩) hHeld ?_
  rotate_left
  focus ((try dsimp only at hSw); first | (go_simp; done) | (go_simp; with_reducible rfl))
  try simp only [Act.put, List.setIfInBounds_toArray, List.set_cons_zero, List.set_cons_succ]
  refine wpAnyH_take (i := 7) (v := ?_) (by simp only [List.getElem?_toArray, List.getElem?_cons_succ, List.getElem?_cons_zero]; exact rfl) (by kernel_rfl) (by kernel_rfl) (by kernel_rfl) (by intro _ _ _ h; exact h) (Or.inl ⟨by rfl, fun W hSw => ?_⟩) hHeld ?_
  rotate_left
  focus ((try dsimp only at hSw); first | (go_simp; done) | (go_simp; with_reducible rfl))
  try simp only [Act.put, List.setIfInBounds_toArray, List.set_cons_zero, List.set_cons_succ]
  refine wpAnyH_take (i := 8) (v := ?_) (by simp only [List.getElem?_toArray, List.getElem?_cons_succ, List.getElem?_cons_zero]; exact rfl) (by kernel_rfl) (by kernel_rfl) (by kernel_rfl) (by intro _ _ _ h; exact h) (Or.inl ⟨by rfl, fun W hSw => ?_⟩) hHeld ?_
  rotate_left
  focus ((try dsimp only at hSw); first | (go_simp; done) | (go_simp; with_reducible rfl))
  try simp only [Act.put, List.setIfInBounds_toArray, List.set_cons_zero, List.set_cons_succ]
  refine wpAnyH_take (i := 9) (v := ?_) (by simp only [List.getElem?_toArray, List.getElem?_cons_succ, List.getElem?_cons_zero]; exact rfl) (by kernel_rfl) (by kernel_rfl) (by kernel_rfl) (by intro _ _ _ h; exact h) (Or.inl ⟨by rfl, fun W hSw => ?_⟩) hHeld ?_
  rotate_left
  focus ((try dsimp only at hSw); first | (go_simp; done) | (go_simp; with_reducible rfl))
  try simp only [Act.put, List.setIfInBounds_toArray, List.set_cons_zero, List.set_cons_succ]
  refine wpAnyH_take (i := 10) (v := ?_) (by simp only [List.getElem?_toArray, List.getElem?_cons_succ, List.getElem?_cons_zero]; exact rfl) (by kernel_rfl) (by kernel_rfl) (by kernel_rfl) (by intro _ _ _ h; exact h) (Or.inl ⟨by rfl, fun W hSw => ?_⟩) hHeld ?_
  rotate_left
  focus ((try dsimp only at hSw); first | (go_simp; done) | (go_simp; with_reducible rfl))
  try simp only [Act.put, List.setIfInBounds_toArray, List.set_cons_zero, List.set_cons_succ]
  refine wpAnyH_take (i := 11) (v := ?_) (by simp only [List.getElem?_toArray, List.getElem?_cons_succ, List.getElem?_cons_zero]; exact rfl) (by kernel_rfl) (by kernel_rfl) (by kernel_rfl) (by intro _ _ _ h; exact h) (Or.inl ⟨by rfl, fun W hSw => ?_⟩) hHeld ?_
  rotate_left
  focus ((try dsimp only at hSw); first | (go_simp; done) | (go_simp; with_reducible rfl))
  try simp only [Act.put, List.setIfInBounds_toArray, List.set_cons_zero, List.set_cons_succ]
  refine wpAnyH_take (i := 12) (v := ?_) (by simp only [List.getElem?_toArray, List.getElem?_cons_succ, List.getElem?_cons_zero]; exact rfl) (by kernel_rfl) (by kernel_rfl) (by kernel_rfl) (by intro _ _ _ h; exact h) (Or.inl ⟨by rfl, fun W hSw => ?_⟩) hHeld ?_
  rotate_left
  focus ((try dsimp only at hSw); first | (go_simp; done) | (go_simp; with_reducible rfl))
  try simp only [Act.put, List.setIfInBounds_toArray, List.set_cons_zero, List.set_cons_succ]
  refine wpAnyH_take (i := 13) (v := ?_) (by simp only [List.getElem?_toArray, List.getElem?_cons_succ, List.getElem?_cons_zero]; exact rfl) (by kernel_rfl) (by kernel_rfl) (by kernel_rfl) (by intro _ _ _ h; exact h) (Or.inl ⟨by rfl, fun W hSw => ?_⟩) hHeld ?_
  rotate_left
  focus ((try dsimp only at hSw); first | (go_simp; done) | (go_simp; with_reducible rfl))
  try simp only [Act.put, List.setIfInBounds_toArray, List.set_cons_zero, List.set_cons_succ]
  refine wpAnyH_take (i := 14) (v := ?_) (by simp only [List.getElem?_toArray, List.getElem?_cons_succ, List.getElem?_cons_zero]; exact rfl) (by kernel_rfl) (by kernel_rfl) (by kernel_rfl) (by intro _ _ _ h; exact h) (Or.inl ⟨by rfl, fun W hSw => ?_⟩) hHeld ?_
  rotate_left
  focus ((try dsimp only at hSw); first | (go_simp; done) | (go_simp; with_reducible rfl))
  try simp only [Act.put, List.setIfInBounds_toArray, List.set_cons_zero, List.set_cons_succ]
  refine wpAnyH_take (i := 15) (v := ?_) (by simp only [List.getElem?_toArray, List.getElem?_cons_succ, List.getElem?_cons_zero]; exact rfl) (by kernel_rfl) (by kernel_rfl) (by kernel_rfl) (by intro _ _ _ h; exact h) (Or.inl ⟨by rfl, fun W hSw => ?_⟩) hHeld ?_
  rotate_left
  focus ((try dsimp only at hSw); first | (go_simp; done) | (go_simp; with_reducible rfl))
  try simp only [Act.put, List.setIfInBounds_toArray, List.set_cons_zero, List.set_cons_succ]
  refine wpAnyH_take (i := 16) (v := ?_) (by simp only [List.getElem?_toArray, List.getElem?_cons_succ, List.getElem?_cons_zero]; exact rfl) (by kernel_rfl) (by kernel_rfl) (by kernel_rfl) (by intro _ _ _ h; exact h) (Or.inl ⟨by rfl, fun W hSw => ?_⟩) hHeld ?_
  rotate_left
  focus ((try dsimp only at hSw); first | (go_simp; done) | (go_simp; with_reducible rfl))
  try simp only [Act.put, List.setIfInBounds_toArray, List.set_cons_zero, List.set_cons_succ]
  refine wpAnyH_take (i := 17) (v := ?_) (by simp only [List.getElem?_toArray, List.getElem?_cons_succ, List.getElem?_cons_zero]; exact rfl) (by kernel_rfl) (by kernel_rfl) (by kernel_rfl) (by intro _ _ _ h; exact h) (Or.inl ⟨by rfl, fun W hSw => ?_⟩) hHeld ?_
  rotate_left
  focus ((try dsimp only at hSw); first | (go_simp; done) | (go_simp; with_reducible rfl))
  try simp only [Act.put, List.setIfInBounds_toArray, List.set_cons_zero, List.set_cons_succ]
  refine wpAnyH_take (i := 18) (v := ?_) (by simp only [List.getElem?_toArray, List.getElem?_cons_succ, List.getElem?_cons_zero]; exact rfl) (by kernel_rfl) (by kernel_rfl) (by kernel_rfl) (by intro _ _ _ h; exact h) (Or.inl ⟨by rfl, fun W hSw => ?_⟩) hHeld ?_
  rotate_left
  focus ((try dsimp only at hSw); first | (go_simp; done) | (go_simp; with_reducible rfl))
  try simp only [Act.put, List.setIfInBounds_toArray, List.set_cons_zero, List.set_cons_succ]
  refine wpAnyH_take (i := 19) (v := ?_) (by simp only [List.getElem?_toArray, List.getElem?_cons_succ, List.getElem?_cons_zero]; exact rfl) (by kernel_rfl) (by kernel_rfl) (by kernel_rfl) (by intro _ _ _ h; exact h) (Or.inl ⟨by rfl, fun W hSw => ?_⟩) hHeld ?_
  rotate_left
  focus ((try dsimp only at hSw); first | (go_simp; done) | (go_simp; with_reducible rfl))
  try simp only [Act.put, List.setIfInBounds_toArray, List.set_cons_zero, List.set_cons_succ]
  refine wpAnyH_take (i := 20) (v := ?_) (by simp only [List.getElem?_toArray, List.getElem?_cons_succ, List.getElem?_cons_zero]; exact rfl) (by kernel_rfl) (by kernel_rfl) (by kernel_rfl) (by intro _ _ _ h; exact h) (Or.inl ⟨by rfl, fun W hSw => ?_⟩) hHeld ?_
  rotate_left
  focus ((try dsimp only at hSw); first | (go_simp; done) | (go_simp; with_reducible rfl))
  try simp only [Act.put, List.setIfInBounds_toArray, List.set_cons_zero, List.set_cons_succ]
  refine wpAnyH_take (i := 21) (v := ?_) (by simp only [List.getElem?_toArray, List.getElem?_cons_succ, List.getElem?_cons_zero]; exact rfl) (by kernel_rfl) (by kernel_rfl) (by kernel_rfl) (by intro _ _ _ h; exact h) (Or.inl ⟨by rfl, fun W hSw => ?_⟩) hHeld ?_
  rotate_left
  focus ((try dsimp only at hSw); first | (go_simp; done) | (go_simp; with_reducible rfl))
  try simp only [Act.put, List.setIfInBounds_toArray, List.set_cons_zero, List.set_cons_succ]
  refine wpAnyH_take (i := 22) (v := ?_) (by simp only [List.getElem?_toArray, List.getElem?_cons_succ, List.getElem?_cons_zero]; exact rfl) (by kernel_rfl) (by kernel_rfl) (by kernel_rfl) (by intro _ _ _ h; exact h) (Or.inl ⟨by rfl, fun W hSw => ?_⟩) hHeld ?_
  rotate_left
  focus ((try dsimp only at hSw); first | (go_simp; done) | (go_simp; with_reducible rfl))
  try simp only [Act.put, List.setIfInBounds_toArray, List.set_cons_zero, List.set_cons_succ]
  refine wpAnyH_take (i := 23) (v := ?_) (by simp only [List.getElem?_toArray, List.getElem?_cons_succ, List.getElem?_cons_zero]; exact rfl) (by kernel_rfl) (by kernel_rfl) (by kernel_rfl) (by intro _ _ _ h; exact h) (Or.inl ⟨by rfl, fun W hSw => ?_⟩) hHeld ?_
  rotate_left
  focus ((try dsimp only at hSw); first | (go_simp; done) | (go_simp; with_reducible rfl))
  try simp only [Act.put, List.setIfInBounds_toArray, List.set_cons_zero, List.set_cons_succ]
  refine wpAnyH_take (i := 24) (v := ?_) (by simp only [List.getElem?_toArray, List.getElem?_cons_succ, List.getElem?_cons_zero]; exact rfl) (by kernel_rfl) (by kernel_rfl) (by kernel_rfl) (by intro _ _ _ h; exact h) (Or.inl ⟨by rfl, fun W hSw => ?_⟩) hHeld ?_
  rotate_left
  focus ((try dsimp only at hSw); first | (go_simp; done) | (go_simp; with_reducible rfl))
  try simp only [Act.put, List.setIfInBounds_toArray, List.set_cons_zero, List.set_cons_succ]
  refine wpAnyH_take (i := 25) (v := ?_) (by simp only [List.getElem?_toArray, List.getElem?_cons_succ, List.getElem?_cons_zero]; exact rfl) (by kernel_rfl) (by kernel_rfl) (by kernel_rfl) (by intro _ _ _ h; exact h) (Or.inl ⟨by rfl, fun W hSw => ?_⟩) hHeld ?_
  rotate_left
  focus ((try dsimp only at hSw); first | (go_simp; done) | (go_simp; with_reducible rfl))
  try simp only [Act.put, List.setIfInBounds_toArray, List.set_cons_zero, List.set_cons_succ]
  refine wpAnyH_take (i := 26) (v := ?_) (by simp only [List.getElem?_toArray, List.getElem?_cons_succ, List.getElem?_cons_zero]; exact rfl) (by kernel_rfl) (by kernel_rfl) (by kernel_rfl) (by intro _ _ _ h; exact h) (Or.inl ⟨by rfl, fun W hSw => ?_⟩) hHeld ?_
  rotate_left
  focus ((try dsimp only at hSw); first | (go_simp; done) | (go_simp; with_reducible rfl))
  try simp only [Act.put, List.setIfInBounds_toArray, List.set_cons_zero, List.set_cons_succ]
  refine wpAnyH_take (i := 27) (v := ?_) (by simp only [List.getElem?_toArray, List.getElem?_cons_succ, List.getElem?_cons_zero]; exact rfl) (by kernel_rfl) (by kernel_rfl) (by kernel_rfl) (by intro _ _ _ h; exact h) (Or.inl ⟨by rfl, fun W hSw => ?_⟩) hHeld ?_
  rotate_left
  focus ((try dsimp only at hSw); first | (go_simp; done) | (go_simp; with_reducible rfl))
  try simp only [Act.put, List.setIfInBounds_toArray, List.set_cons_zero, List.set_cons_succ]
  refine wpAnyH_take (i := 28) (v := ?_) (by simp only [List.getElem?_toArray, List.getElem?_cons_succ, List.getElem?_cons_zero]; exact rfl) (by kernel_rfl) (by kernel_rfl) (by kernel_rfl) (by intro _ _ _ h; exact h) (Or.inl ⟨by rfl, fun W hSw => ?_⟩) hHeld ?_
  rotate_left
  focus ((try dsimp only at hSw); first | (go_simp; done) | (go_simp; with_reducible rfl))
  try simp only [Act.put, List.setIfInBounds_toArray, List.set_cons_zero, List.set_cons_succ]
  refine wpAnyH_take (i := 29) (v := ?_) (by simp only [List.getElem?_toArray, List.getElem?_cons_succ, List.getElem?_cons_zero]; exact rfl) (by kernel_rfl) (by kernel_rfl) (by kernel_rfl) (by intro _ _ _ h; exact h) (Or.inl ⟨by rfl, fun W hSw => ?_⟩) hHeld ?_
  rotate_left
  focus ((try dsimp only at hSw); first | (go_simp; done) | (go_simp; with_reducible rfl))
  try simp only [Act.put, List.setIfInBounds_toArray, List.set_cons_zero, List.set_cons_succ]
  refine wpAnyH_ready (rs := [30]) (by kernel_rfl) (by simp) (AllReadyH.cons (by simp only [List.getElem?_toArray, List.getElem?_cons_succ, List.getElem?_cons_zero]; exact rfl) (fun K hK => ?_) AllReadyH.nil)
  rw [if_pos (by rfl)]
  go_simp
  (with_reducible refine (KD.out _).mono ?_)
  rintro e w2 ⟨rfl, hb2⟩
  have hB2 := bt hB1 hb2
  go_wp2_with fail
  refine hK.out _ _ (KC.out _ hB2) (fun hHeld => ?_)
  clear hK K
  try simp only [Act.put, List.setIfInBounds_toArray, List.set_cons_zero, List.set_cons_succ]
  by_cases q5 : D ≤ dl
  · have t5 : decide (D ≤ dl) = true := by simpa using q5
    refine wpAnyH_take (i := 31) (v := ?_) (by simp only [List.getElem?_toArray, List.getElem?_cons_succ, List.getElem?_cons_zero]; exact rfl) (by kernel_rfl) (by kernel_rfl) (by kernel_rfl) (by intro _ _ _ h; exact h) (Or.inl ⟨by rfl, fun W hSw => ?_⟩) hHeld ?_
    rotate_left
    focus ((try dsimp only at hSw); first | (go_simp; done) | (go_simp; with_reducible rfl))
    try simp only [Act.put, List.setIfInBounds_toArray, List.set_cons_zero, List.set_cons_succ]
    refine wpAnyH_take (i := 32) (v := ?_) (by simp only [List.getElem?_toArray, List.getElem?_cons_succ, List.getElem?_cons_zero]; exact rfl) (by kernel_rfl) (by kernel_rfl) (by kernel_rfl) (by intro _ _ _ h; exact h) (Or.inl ⟨by rfl, fun W hSw => ?_⟩) hHeld ?_
    rotate_left
    focus ((try dsimp only at hSw); first | (go_simp; done) | (go_simp; with_reducible rfl))
    try simp only [Act.put, List.setIfInBounds_toArray, List.set_cons_zero, List.set_cons_succ]
    refine wpAnyH_take (i := 33) (v := ?_) (by simp only [List.getElem?_toArray, List.getElem?_cons_succ, List.getElem?_cons_zero]; exact rfl) (by kernel_rfl) (by kernel_rfl) (by kernel_rfl) (by intro _ _ _ h; exact h) (Or.inl ⟨by rfl, fun W hSw => ?_⟩) hHeld ?_
    rotate_left
    focus ((try dsimp only at hSw); first | (go_simp; done) | (go_simp; with_reducible rfl))
    try simp only [Act.put, List.setIfInBounds_toArray, List.set_cons_zero, List.set_cons_succ]
    refine wpAnyH_take (i := 34) (v := ?_) (by simp only [List.getElem?_toArray, List.getElem?_cons_succ, List.getElem?_cons_zero]; exact rfl) (by kernel_rfl) (by kernel_rfl) (by kernel_rfl) (by intro _ _ _ h; exact h) (Or.inl ⟨by rfl, fun W hSw => ?_⟩) hHeld ?_
    rotate_left
    focus ((try dsimp only at hSw); first | (go_simp; done) | (go_simp; with_reducible rfl))
    try simp only [Act.put, List.setIfInBounds_toArray, List.set_cons_zero, List.set_cons_succ]
    refine wpAnyH_take (i := 35) (v := ?_) (by simp only [List.getElem?_toArray, List.getElem?_cons_succ, List.getElem?_cons_zero]; exact rfl) (by kernel_rfl) (by kernel_rfl) (by kernel_rfl) (by intro _ _ _ h; exact h) (Or.inl ⟨by rfl, fun W hSw => ?_⟩) hHeld ?_
    rotate_left
    focus ((try dsimp only at hSw); first | (go_simp; done) | (go_simp; with_reducible rfl))
    try simp only [Act.put, List.setIfInBounds_toArray, List.set_cons_zero, List.set_cons_succ]
    by_cases q6 : 0 ≤ h
    · have t6 : decide (0 ≤ h) = true := by simpa using q6
      have u6 : decide (h ≥ 0) = true := by simpa using q6
      refine wpAnyH_take (i := 36) (v := ?_) (by simp only [List.getElem?_toArray, List.getElem?_cons_succ, List.getElem?_cons_zero]; exact rfl) (by kernel_rfl) (by kernel_rfl) (by kernel_rfl) (by intro _ _ _ h; exact h) (Or.inl ⟨by rfl, fun W hSw => ?_⟩) hHeld ?_
      rotate_left
      focus ((try dsimp only at hSw); first | (go_simp; done) | (go_simp; with_reducible rfl))
      try simp only [Act.put, List.setIfInBounds_toArray, List.set_cons_zero, List.set_cons_succ]
      refine wpAnyH_take (i := 37) (v := ?_) (by simp only [List.getElem?_toArray, List.getElem?_cons_succ, List.getElem?_cons_zero]; exact rfl) (by kernel_rfl) (by kernel_rfl) (by kernel_rfl) (by intro _ _ _ h; exact h) (Or.inl ⟨by rfl, fun W hSw => ?_⟩) hHeld ?_
      rotate_left
      focus ((try dsimp only at hSw); first | (go_simp; done) | (go_simp; with_reducible rfl))
      try simp only [Act.put, List.setIfInBounds_toArray, List.set_cons_zero, List.set_cons_succ]
      refine wpAnyH_take (i := 38) (v := ?_) (by simp only [List.getElem?_toArray, List.getElem?_cons_succ, List.getElem?_cons_zero]; exact rfl) (by kernel_rfl) (by kernel_rfl) (by kernel_rfl) (by intro _ _ _ h; exact h) (Or.inl ⟨by rfl, fun W hSw => ?_⟩) hHeld ?_
      rotate_left
      focus ((try dsimp only at hSw); first | (go_simp; done) | (go_simp; with_reducible rfl))
      try simp only [Act.put, List.setIfInBounds_toArray, List.set_cons_zero, List.set_cons_succ]
      refine wpAnyH_take (i := 39) (v := ?_) (by simp only [List.getElem?_toArray, List.getElem?_cons_succ, List.getElem?_cons_zero]; exact rfl) (by kernel_rfl) (by kernel_rfl) (by kernel_rfl) (by intro _ _ _ h; exact h) (Or.inl ⟨by rfl, fun W hSw => ?_⟩) hHeld ?_
      rotate_left
      focus ((try dsimp only at hSw); first | (go_simp; done) | (go_simp; with_reducible rfl))
      try simp only [Act.put, List.setIfInBounds_toArray, List.set_cons_zero, List.set_cons_succ]
      refine wpAnyH_take (i := 40) (v := ?_) (by simp only [List.getElem?_toArray, List.getElem?_cons_succ, List.getElem?_cons_zero]; exact rfl) (by kernel_rfl) (by kernel_rfl) (by kernel_rfl) (by intro _ _ _ h; exact h) (Or.inl ⟨by rfl, fun W hSw => ?_⟩) hHeld ?_
      rotate_left
      focus ((try dsimp only at hSw); first | (go_simp; done) | (go_simp; with_reducible rfl))
      try simp only [Act.put, List.setIfInBounds_toArray, List.set_cons_zero, List.set_cons_succ]
      by_cases q7 : h ≤ 23
      · have t7 : decide (h ≤ 23) = true := by simpa using q7
        refine wpAnyH_take (i := 41) (v := ?_) (by simp only [List.getElem?_toArray, List.getElem?_cons_succ, List.getElem?_cons_zero]; exact rfl) (by kernel_rfl) (by kernel_rfl) (by kernel_rfl) (by intro _ _ _ h; exact h) (Or.inl ⟨by rfl, fun W hSw => ?_⟩) hHeld ?_
        rotate_left
        focus ((try dsimp only at hSw); first | (go_simp; done) | (go_simp; with_reducible rfl))
        try simp only [Act.put, List.setIfInBounds_toArray, List.set_cons_zero, List.set_cons_succ]
        refine wpAnyH_take (i := 42) (v := ?_) (by simp only [List.getElem?_toArray, List.getElem?_cons_succ, List.getElem?_cons_zero]; exact rfl) (by kernel_rfl) (by kernel_rfl) (by kernel_rfl) (by intro _ _ _ h; exact h) (Or.inl ⟨by rfl, fun W hSw => ?_⟩) hHeld ?_
        rotate_left
        focus ((try dsimp only at hSw); first | (go_simp; done) | (go_simp; with_reducible rfl))
        try simp only [Act.put, List.setIfInBounds_toArray, List.set_cons_zero, List.set_cons_succ]
        refine wpAnyH_take (i := 43) (v := ?_) (by simp only [List.getElem?_toArray, List.getElem?_cons_succ, List.getElem?_cons_zero]; exact rfl) (by kernel_rfl) (by kernel_rfl) (by kernel_rfl) (by intro _ _ _ h; exact h) (Or.inl ⟨by rfl, fun W hSw => ?_⟩) hHeld ?_
        rotate_left
        focus ((try dsimp only at hSw); first | (go_simp; done) | (go_simp; with_reducible rfl))
        try simp only [Act.put, List.setIfInBounds_toArray, List.set_cons_zero, List.set_cons_succ]
        refine wpAnyH_take (i := 44) (v := ?_) (by simp only [List.getElem?_toArray, List.getElem?_cons_succ, List.getElem?_cons_zero]; exact rfl) (by kernel_rfl) (by kernel_rfl) (by kernel_rfl) (by intro _ _ _ h; exact h) (Or.inl ⟨by rfl, fun W hSw => ?_⟩) hHeld ?_
        rotate_left
        focus ((try dsimp only at hSw); first | (go_simp; done) | (go_simp; with_reducible rfl))
        try simp only [Act.put, List.setIfInBounds_toArray, List.set_cons_zero, List.set_cons_succ]
        refine wpAnyH_take (i := 45) (v := ?_) (by simp only [List.getElem?_toArray, List.getElem?_cons_succ, List.getElem?_cons_zero]; exact rfl) (by kernel_rfl) (by kernel_rfl) (by kernel_rfl) (by intro _ _ _ h; exact h) (Or.inl ⟨by rfl, fun W hSw => ?_⟩) hHeld ?_
        rotate_left
        focus ((try dsimp only at hSw); first | (go_simp; done) | (go_simp; with_reducible rfl))
        try simp only [Act.put, List.setIfInBounds_toArray, List.set_cons_zero, List.set_cons_succ]
        by_cases q8 : 0 ≤ mi
        · have t8 : decide (0 ≤ mi) = true := by simpa using q8
          have u8 : decide (mi ≥ 0) = true := by simpa using q8
          refine wpAnyH_take (i := 46) (v := ?_) (by simp only [List.getElem?_toArray, List.getElem?_cons_succ, List.getElem?_cons_zero]; exact rfl) (by kernel_rfl) (by kernel_rfl) (by kernel_rfl) (by intro _ _ _ h; exact h) (Or.inl ⟨by rfl, fun W hSw => ?_⟩) hHeld ?_
          rotate_left
          focus ((try dsimp only at hSw); first | (go_simp; done) | (go_simp; with_reducible rfl))
          try simp only [Act.put, List.setIfInBounds_toArray, List.set_cons_zero, List.set_cons_succ]
          refine wpAnyH_take (i := 47) (v := ?_) (by simp only [List.getElem?_toArray, List.getElem?_cons_succ, List.getElem?_cons_zero]; exact rfl) (by kernel_rfl) (by kernel_rfl) (by kernel_rfl) (by intro _ _ _ h; exact h) (Or.inl ⟨by rfl, fun W hSw => ?_⟩) hHeld ?_
          rotate_left
          focus ((try dsimp only at hSw); first | (go_simp; done) | (go_simp; with_reducible rfl))
          try simp only [Act.put, List.setIfInBounds_toArray, List.set_cons_zero, List.set_cons_succ]
          refine wpAnyH_take (i := 48) (v := ?_) (by simp only [List.getElem?_toArray, List.getElem?_cons_succ, List.getElem?_cons_zero]; exact rfl) (by kernel_rfl) (by kernel_rfl) (by kernel_rfl) (by intro _ _ _ h; exact h) (Or.inl ⟨by rfl, fun W hSw => ?_⟩) hHeld ?_
          rotate_left
          focus ((try dsimp only at hSw); first | (go_simp; done) | (go_simp; with_reducible rfl))
          try simp only [Act.put, List.setIfInBounds_toArray, List.set_cons_zero, List.set_cons_succ]
          refine wpAnyH_take (i := 49) (v := ?_) (by simp only [List.getElem?_toArray, List.getElem?_cons_succ, List.getElem?_cons_zero]; exact rfl) (by kernel_rfl) (by kernel_rfl) (by kernel_rfl) (by intro _ _ _ h; exact h) (Or.inl ⟨by rfl, fun W hSw => ?_⟩) hHeld ?_
          rotate_left
          focus ((try dsimp only at hSw); first | (go_simp; done) | (go_simp; with_reducible rfl))
          try simp only [Act.put, List.setIfInBounds_toArray, List.set_cons_zero, List.set_cons_succ]
          refine wpAnyH_take (i := 50) (v := ?_) (by simp only [List.getElem?_toArray, List.getElem?_cons_succ, List.getElem?_cons_zero]; exact rfl) (by kernel_rfl) (by kernel_rfl) (by kernel_rfl) (by intro _ _ _ h; exact h) (Or.inl ⟨by rfl, fun W hSw => ?_⟩) hHeld ?_
          rotate_left
          focus ((try dsimp only at hSw); first | (go_simp; done) | (go_simp; with_reducible rfl))
          try simp only [Act.put, List.setIfInBounds_toArray, List.set_cons_zero, List.set_cons_succ]
          by_cases q9 : mi ≤ 59
          · have t9 : decide (mi ≤ 59) = true := by simpa using q9
            refine wpAnyH_take (i := 51) (v := ?_) (by simp only [List.getElem?_toArray, List.getElem?_cons_succ, List.getElem?_cons_zero]; exact rfl) (by kernel_rfl) (by kernel_rfl) (by kernel_rfl) (by intro _ _ _ h; exact h) (Or.inl ⟨by rfl, fun W hSw => ?_⟩) hHeld ?_
            rotate_left
            focus ((try dsimp only at hSw); first | (go_simp; done) | (go_simp; with_reducible rfl))
            try simp only [Act.put, List.setIfInBounds_toArray, List.set_cons_zero, List.set_cons_succ]
            refine wpAnyH_take (i := 52) (v := ?_) (by simp only [List.getElem?_toArray, List.getElem?_cons_succ, List.getElem?_cons_zero]; exact rfl) (by kernel_rfl) (by kernel_rfl) (by kernel_rfl) (by intro _ _ _ h; exact h) (Or.inl ⟨by rfl, fun W hSw => ?_⟩) hHeld ?_
            rotate_left
            focus ((try dsimp only at hSw); first | (go_simp; done) | (go_simp; with_reducible rfl))
            try simp only [Act.put, List.setIfInBounds_toArray, List.set_cons_zero, List.set_cons_succ]
            refine wpAnyH_take (i := 53) (v := ?_) (by simp only [List.getElem?_toArray, List.getElem?_cons_succ, List.getElem?_cons_zero]; exact rfl) (by kernel_rfl) (by kernel_rfl) (by kernel_rfl) (by intro _ _ _ h; exact h) (Or.inl ⟨by rfl, fun W hSw => ?_⟩) hHeld ?_
            rotate_left
            focus ((try dsimp only at hSw); first | (go_simp; done) | (go_simp; with_reducible rfl))
            try simp only [Act.put, List.setIfInBounds_toArray, List.set_cons_zero, List.set_cons_succ]
            refine wpAnyH_take (i := 54) (v := ?_) (by simp only [List.getElem?_toArray, List.getElem?_cons_succ, List.getElem?_cons_zero]; exact rfl) (by kernel_rfl) (by kernel_rfl) (by kernel_rfl) (by intro _ _ _ h; exact h) (Or.inl ⟨by rfl, fun W hSw => ?_⟩) hHeld ?_
            rotate_left
            focus ((try dsimp only at hSw); first | (go_simp; done) | (go_simp; with_reducible rfl))
            try simp only [Act.put, List.setIfInBounds_toArray, List.set_cons_zero, List.set_cons_succ]
            refine wpAnyH_take (i := 55) (v := ?_) (by simp only [List.getElem?_toArray, List.getElem?_cons_succ, List.getElem?_cons_zero]; exact rfl) (by kernel_rfl) (by kernel_rfl) (by kernel_rfl) (by intro _ _ _ h; exact h) (Or.inl ⟨by rfl, fun W hSw => ?_⟩) hHeld ?_
            rotate_left
            focus ((try dsimp only at hSw); first | (go_simp; done) | (go_simp; with_reducible rfl))
            try simp only [Act.put, List.setIfInBounds_toArray, List.set_cons_zero, List.set_cons_succ]
            by_cases q10 : 0 ≤ s
            · have t10 : decide (0 ≤ s) = true := by simpa using q10
              have u10 : decide (s ≥ 0) = true := by simpa using q10
              refine wpAnyH_take (i := 56) (v := ?_) (by simp only [List.getElem?_toArray, List.getElem?_cons_succ, List.getElem?_cons_zero]; exact rfl) (by kernel_rfl) (by kernel_rfl) (by kernel_rfl) (by intro _ _ _ h; exact h) (Or.inl ⟨by rfl, fun W hSw => ?_⟩) hHeld ?_
              rotate_left
              focus ((try dsimp only at hSw); first | (go_simp; done) | (go_simp; with_reducible rfl))
              try simp only [Act.put, List.setIfInBounds_toArray, List.set_cons_zero, List.set_cons_succ]
              refine wpAnyH_take (i := 57) (v := ?_) (by simp only [List.getElem?_toArray, List.getElem?_cons_succ, List.getElem?_cons_zero]; exact rfl) (by kernel_rfl) (by kernel_rfl) (by kernel_rfl) (by intro _ _ _ h; exact h) (Or.inl ⟨by rfl, fun W hSw => ?_⟩) hHeld ?_
              rotate_left
              focus ((try dsimp only at hSw); first | (go_simp; done) | (go_simp; with_reducible rfl))
              try simp only [Act.put, List.setIfInBounds_toArray, List.set_cons_zero, List.set_cons_succ]
              refine wpAnyH_take (i := 58) (v := ?_) (by simp only [List.getElem?_toArray, List.getElem?_cons_succ, List.getElem?_cons_zero]; exact rfl) (by kernel_rfl) (by kernel_rfl) (by kernel_rfl) (by intro _ _ _ h; exact h) (Or.inl ⟨by rfl, fun W hSw => ?_⟩) hHeld ?_
              rotate_left
              focus ((try dsimp only at hSw); first | (go_simp; done) | (go_simp; with_reducible rfl))
              try simp only [Act.put, List.setIfInBounds_toArray, List.set_cons_zero, List.set_cons_succ]
              refine wpAnyH_take (i := 59) (v := ?_) (by simp only [List.getElem?_toArray, List.getElem?_cons_succ, List.getElem?_cons_zero]; exact rfl) (by kernel_rfl) (by kernel_rfl) (by kernel_rfl) (by intro _ _ _ h; exact h) (Or.inl ⟨by rfl, fun W hSw => ?_⟩) hHeld ?_
              rotate_left
              focus ((try dsimp only at hSw); first | (go_simp; done) | (go_simp; with_reducible rfl))
              try simp only [Act.put, List.setIfInBounds_toArray, List.set_cons_zero, List.set_cons_succ]
              refine wpAnyH_take (i := 60) (v := ?_) (by simp only [List.getElem?_toArray, List.getElem?_cons_succ, List.getElem?_cons_zero]; exact rfl) (by kernel_rfl) (by kernel_rfl) (by kernel_rfl) (by intro _ _ _ h; exact h) (Or.inl ⟨by rfl, fun W hSw => ?_⟩) hHeld ?_
              rotate_left
              focus ((try dsimp only at hSw); first | (go_simp; done) | (go_simp; with_reducible rfl))
              try simp only [Act.put, List.setIfInBounds_toArray, List.set_cons_zero, List.set_cons_succ]
              by_cases q11 : s ≤ 59
              · have t11 : decide (s ≤ 59) = true := by simpa using q11
                refine wpAnyH_take (i := 61) (v := ?_) (by simp only [List.getElem?_toArray, List.getElem?_cons_succ, List.getElem?_cons_zero]; exact rfl) (by kernel_rfl) (by kernel_rfl) (by kernel_rfl) (by intro _ _ _ h; exact h) (Or.inl ⟨by rfl, fun W hSw => ?_⟩) hHeld ?_
                rotate_left
                focus ((try dsimp only at hSw); first | (go_simp; done) | (go_simp; with_reducible rfl))
                try simp only [Act.put, List.setIfInBounds_toArray, List.set_cons_zero, List.set_cons_succ]
                refine wpAnyH_take (i := 62) (v := ?_) (by simp only [List.getElem?_toArray, List.getElem?_cons_succ, List.getElem?_cons_zero]; exact rfl) (by kernel_rfl) (by kernel_rfl) (by kernel_rfl) (by intro _ _ _ h; exact h) (Or.inl ⟨by rfl, fun W hSw => ?_⟩) hHeld ?_
                rotate_left
                focus ((try dsimp only at hSw); first | (go_simp; done) | (go_simp; with_reducible rfl))
                try simp only [Act.put, List.setIfInBounds_toArray, List.set_cons_zero, List.set_cons_succ]
                refine wpAnyH_take (i := 63) (v := ?_) (by simp only [List.getElem?_toArray, List.getElem?_cons_succ, List.getElem?_cons_zero]; exact rfl) (by kernel_rfl) (by kernel_rfl) (by kernel_rfl) (by intro _ _ _ h; exact h) (Or.inl ⟨by rfl, fun W hSw => ?_⟩) hHeld ?_
                rotate_left
                focus ((try dsimp only at hSw); first | (go_simp; done) | (go_simp; with_reducible rfl))
                try simp only [Act.put, List.setIfInBounds_toArray, List.set_cons_zero, List.set_cons_succ]
                refine wpAnyH_done (by kernel_rfl) ?_ _
                clear hHeld
                go_wp2
                go_ret
                exact ⟨by first | rfl | (rw [rmay_yes (by omega)]; rfl), bt b1 hB2⟩
              · have t11 : decide (s ≤ 59) = false := by simpa using q11
                refine wpAnyH_take (i := 61) (v := ?_) (by simp only [List.getElem?_toArray, List.getElem?_cons_succ, List.getElem?_cons_zero]; exact rfl) (by kernel_rfl) (by kernel_rfl) (by kernel_rfl) (by intro _ _ _ h; exact h) (Or.inl ⟨by rfl, fun W hSw => ?_⟩) hHeld ?_
                rotate_left
                focus ((try dsimp only at hSw); first | (go_simp; done) | (go_simp; with_reducible rfl))
                try simp only [Act.put, List.setIfInBounds_toArray, List.set_cons_zero, List.set_cons_succ]
                refine wpAnyH_take (i := 62) (v := ?_) (by simp only [List.getElem?_toArray, List.getElem?_cons_succ, List.getElem?_cons_zero]; exact rfl) (by kernel_rfl) (by kernel_rfl) (by kernel_rfl) (by intro _ _ _ h; exact h) (Or.inl ⟨by rfl, fun W hSw => ?_⟩) hHeld ?_
                rotate_left
                focus ((try dsimp only at hSw); first | (go_simp; done) | (go_simp; with_reducible rfl))
                try simp only [Act.put, List.setIfInBounds_toArray, List.set_cons_zero, List.set_cons_succ]
                refine wpAnyH_take (i := 63) (v := ?_) (by simp only [List.getElem?_toArray, List.getElem?_cons_succ, List.getElem?_cons_zero]; exact rfl) (by kernel_rfl) (by kernel_rfl) (by kernel_rfl) (by intro _ _ _ h; exact h) (Or.inl ⟨by rfl, fun W hSw => ?_⟩) hHeld ?_
                rotate_left
                focus ((try dsimp only at hSw); first | (go_simp; done) | (go_simp; with_reducible rfl))
                try simp only [Act.put, List.setIfInBounds_toArray, List.set_cons_zero, List.set_cons_succ]
                refine wpAnyH_done (by kernel_rfl) ?_ _
                clear hHeld
                go_wp2
                go_ret
                exact ⟨by first | rfl | (rw [rmay_no (by omega)]; rfl), bt b1 hB2⟩
            · have t10 : decide (0 ≤ s) = false := by simpa using q10
              have u10 : decide (s ≥ 0) = false := by simpa using q10
              refine wpAnyH_take (i := 56) (v := ?_) (by simp only [List.getElem?_toArray, List.getElem?_cons_succ, List.getElem?_cons_zero]; exact rfl) (by kernel_rfl) (by kernel_rfl) (by kernel_rfl) (by intro _ _ _ h; exact h) (Or.inl ⟨by rfl, fun W hSw => ?_⟩) hHeld ?_
              rotate_left
              focus ((try dsimp only at hSw); first | (go_simp; done) | (go_simp; with_reducible rfl))
              try simp only [Act.put, List.setIfInBounds_toArray, List.set_cons_zero, List.set_cons_succ]
              refine wpAnyH_take (i := 57) (v := ?_) (by simp only [List.getElem?_toArray, List.getElem?_cons_succ, List.getElem?_cons_zero]; exact rfl) (by kernel_rfl) (by kernel_rfl) (by kernel_rfl) (by intro _ _ _ h; exact h) (Or.inl ⟨by rfl, fun W hSw => ?_⟩) hHeld ?_
              rotate_left
              focus ((try dsimp only at hSw); first | (go_simp; done) | (go_simp; with_reducible rfl))
              try simp only [Act.put, List.setIfInBounds_toArray, List.set_cons_zero, List.set_cons_succ]
              refine wpAnyH_take (i := 58) (v := ?_) (by simp only [List.getElem?_toArray, List.getElem?_cons_succ, List.getElem?_cons_zero]; exact rfl) (by kernel_rfl) (by kernel_rfl) (by kernel_rfl) (by intro _ _ _ h; exact h) (Or.inl ⟨by rfl, fun W hSw => ?_⟩) hHeld ?_
              rotate_left
              focus ((try dsimp only at hSw); first | (go_simp; done) | (go_simp; with_reducible rfl))
              try simp only [Act.put, List.setIfInBounds_toArray, List.set_cons_zero, List.set_cons_succ]
              refine wpAnyH_take (i := 59) (v := undef) (by simp only [List.getElem?_toArray, List.getElem?_cons_succ, List.getElem?_cons_zero]; exact rfl) (by kernel_rfl) (by kernel_rfl) (by kernel_rfl) (by intro _ _ _ h; exact h) (Or.inr ⟨by rfl, rfl⟩) hHeld ?_
              try simp only [Act.put, List.setIfInBounds_toArray, List.set_cons_zero, List.set_cons_succ]
              refine wpAnyH_take (i := 60) (v := undef) (by simp only [List.getElem?_toArray, List.getElem?_cons_succ, List.getElem?_cons_zero]; exact rfl) (by kernel_rfl) (by kernel_rfl) (by kernel_rfl) (by intro _ _ _ h; exact h) (Or.inr ⟨by rfl, rfl⟩) hHeld ?_
              try simp only [Act.put, List.setIfInBounds_toArray, List.set_cons_zero, List.set_cons_succ]
              refine wpAnyH_take (i := 61) (v := undef) (by simp only [List.getElem?_toArray, List.getElem?_cons_succ, List.getElem?_cons_zero]; exact rfl) (by kernel_rfl) (by kernel_rfl) (by kernel_rfl) (by intro _ _ _ h; exact h) (Or.inr ⟨by rfl, rfl⟩) hHeld ?_
              try simp only [Act.put, List.setIfInBounds_toArray, List.set_cons_zero, List.set_cons_succ]
              refine wpAnyH_take (i := 62) (v := ?_) (by simp only [List.getElem?_toArray, List.getElem?_cons_succ, List.getElem?_cons_zero]; exact rfl) (by kernel_rfl) (by kernel_rfl) (by kernel_rfl) (by intro _ _ _ h; exact h) (Or.inl ⟨by rfl, fun W hSw => ?_⟩) hHeld ?_
              rotate_left
              focus ((try dsimp only at hSw); first | (go_simp; done) | (go_simp; with_reducible rfl))
              try simp only [Act.put, List.setIfInBounds_toArray, List.set_cons_zero, List.set_cons_succ]
              refine wpAnyH_take (i := 63) (v := ?_) (by simp only [List.getElem?_toArray, List.getElem?_cons_succ, List.getElem?_cons_zero]; exact rfl) (by kernel_rfl) (by kernel_rfl) (by kernel_rfl) (by intro _ _ _ h; exact h) (Or.inl ⟨by rfl, fun W hSw => ?_⟩) hHeld ?_
              rotate_left
              focus ((try dsimp only at hSw); first | (go_simp; done) | (go_simp; with_reducible rfl))
              try simp only [Act.put, List.setIfInBounds_toArray, List.set_cons_zero, List.set_cons_succ]
              refine wpAnyH_done (by kernel_rfl) ?_ _
              clear hHeld
              go_wp2
              go_ret
              exact ⟨by first | rfl | (rw [rmay_no (by omega)]; rfl), bt b1 hB2⟩
          · have t9 : decide (mi ≤ 59) = false := by simpa using q9
            refine wpAnyH_take (i := 51) (v := ?_) (by simp only [List.getElem?_toArray, List.getElem?_cons_succ, List.getElem?_cons_zero]; exact rfl) (by kernel_rfl) (by kernel_rfl) (by kernel_rfl) (by intro _ _ _ h; exact h) (Or.inl ⟨by rfl, fun W hSw => ?_⟩) hHeld ?_
            rotate_left
            focus ((try dsimp only at hSw); first | (go_simp; done) | (go_simp; with_reducible rfl))
            try simp only [Act.put, List.setIfInBounds_toArray, List.set_cons_zero, List.set_cons_succ]
            refine wpAnyH_take (i := 52) (v := ?_) (by simp only [List.getElem?_toArray, List.getElem?_cons_succ, List.getElem?_cons_zero]; exact rfl) (by kernel_rfl) (by kernel_rfl) (by kernel_rfl) (by intro _ _ _ h; exact h) (Or.inl ⟨by rfl, fun W hSw => ?_⟩) hHeld ?_
            rotate_left
            focus ((try dsimp only at hSw); first | (go_simp; done) | (go_simp; with_reducible rfl))
            try simp only [Act.put, List.setIfInBounds_toArray, List.set_cons_zero, List.set_cons_succ]
            refine wpAnyH_take (i := 53) (v := ?_) (by simp only [List.getElem?_toArray, List.getElem?_cons_succ, List.getElem?_cons_zero]; exact rfl) (by kernel_rfl) (by kernel_rfl) (by kernel_rfl) (by intro _ _ _ h; exact h) (Or.inl ⟨by rfl, fun W hSw => ?_⟩) hHeld ?_
            rotate_left
            focus ((try dsimp only at hSw); first | (go_simp; done) | (go_simp; with_reducible rfl))
            try simp only [Act.put, List.setIfInBounds_toArray, List.set_cons_zero, List.set_cons_succ]
            refine wpAnyH_take (i := 54) (v := undef) (by simp only [List.getElem?_toArray, List.getElem?_cons_succ, List.getElem?_cons_zero]; exact rfl) (by kernel_rfl) (by kernel_rfl) (by kernel_rfl) (by intro _ _ _ h; exact h) (Or.inr ⟨by rfl, rfl⟩) hHeld ?_
            try simp only [Act.put, List.setIfInBounds_toArray, List.set_cons_zero, List.set_cons_succ]
            refine wpAnyH_take (i := 55) (v := undef) (by simp only [List.getElem?_toArray, List.getElem?_cons_succ, List.getElem?_cons_zero]; exact rfl) (by kernel_rfl) (by kernel_rfl) (by kernel_rfl) (by intro _ _ _ h; exact h) (Or.inr ⟨by rfl, rfl⟩) hHeld ?_
            try simp only [Act.put, List.setIfInBounds_toArray, List.set_cons_zero, List.set_cons_succ]
            refine wpAnyH_take (i := 56) (v := undef) (by simp only [List.getElem?_toArray, List.getElem?_cons_succ, List.getElem?_cons_zero]; exact rfl) (by kernel_rfl) (by kernel_rfl) (by kernel_rfl) (by intro _ _ _ h; exact h) (Or.inr ⟨by rfl, rfl⟩) hHeld ?_
            try simp only [Act.put, List.setIfInBounds_toArray, List.set_cons_zero, List.set_cons_succ]
            refine wpAnyH_take (i := 57) (v := ?_) (by simp only [List.getElem?_toArray, List.getElem?_cons_succ, List.getElem?_cons_zero]; exact rfl) (by kernel_rfl) (by kernel_rfl) (by kernel_rfl) (by intro _ _ _ h; exact h) (Or.inl ⟨by rfl, fun W hSw => ?_⟩) hHeld ?_
            rotate_left
            focus ((try dsimp only at hSw); first | (go_simp; done) | (go_simp; with_reducible rfl))
            try simp only [Act.put, List.setIfInBounds_toArray, List.set_cons_zero, List.set_cons_succ]
            refine wpAnyH_take (i := 58) (v := ?_) (by simp only [List.getElem?_toArray, List.getElem?_cons_succ, List.getElem?_cons_zero]; exact rfl) (by kernel_rfl) (by kernel_rfl) (by kernel_rfl) (by intro _ _ _ h; exact h) (Or.inl ⟨by rfl, fun W hSw => ?_⟩) hHeld ?_
            rotate_left
            focus ((try dsimp only at hSw); first | (go_simp; done) | (go_simp; with_reducible rfl))
            try simp only [Act.put, List.setIfInBounds_toArray, List.set_cons_zero, List.set_cons_succ]
            refine wpAnyH_take (i := 59) (v := undef) (by simp only [List.getElem?_toArray, List.getElem?_cons_succ, List.getElem?_cons_zero]; exact rfl) (by kernel_rfl) (by kernel_rfl) (by kernel_rfl) (by intro _ _ _ h; exact h) (Or.inr ⟨by rfl, rfl⟩) hHeld ?_
            try simp only [Act.put, List.setIfInBounds_toArray, List.set_cons_zero, List.set_cons_succ]
            refine wpAnyH_take (i := 60) (v := undef) (by simp only [List.getElem?_toArray, List.getElem?_cons_succ, List.getElem?_cons_zero]; exact rfl) (by kernel_rfl) (by kernel_rfl) (by kernel_rfl) (by intro _ _ _ h; exact h) (Or.inr ⟨by rfl, rfl⟩) hHeld ?_
            try simp only [Act.put, List.setIfInBounds_toArray, List.set_cons_zero, List.set_cons_succ]
            refine wpAnyH_take (i := 61) (v := undef) (by simp only [List.getElem?_toArray, List.getElem?_cons_succ, List.getElem?_cons_zero]; exact rfl) (by kernel_rfl) (by kernel_rfl) (by kernel_rfl) (by intro _ _ _ h; exact h) (Or.inr ⟨by rfl, rfl⟩) hHeld ?_
            try simp only [Act.put, List.setIfInBounds_toArray, List.set_cons_zero, List.set_cons_succ]
            refine wpAnyH_take (i := 62) (v := ?_) (by simp only [List.getElem?_toArray, List.getElem?_cons_succ, List.getElem?_cons_zero]; exact rfl) (by kernel_rfl) (by kernel_rfl) (by kernel_rfl) (by intro _ _ _ h; exact h) (Or.inl ⟨by rfl, fun W hSw => ?_⟩) hHeld ?_
            rotate_left
            focus ((try dsimp only at hSw); first | (go_simp; done) | (go_simp; with_reducible rfl))
            try simp only [Act.put, List.setIfInBounds_toArray, List.set_cons_zero, List.set_cons_succ]
            refine wpAnyH_take (i := 63) (v := ?_) (by simp only [List.getElem?_toArray, List.getElem?_cons_succ, List.getElem?_cons_zero]; exact rfl) (by kernel_rfl) (by kernel_rfl) (by kernel_rfl) (by intro _ _ _ h; exact h) (Or.inl ⟨by rfl, fun W hSw => ?_⟩) hHeld ?_
            rotate_left
            focus ((try dsimp only at hSw); first | (go_simp; done) | (go_simp; with_reducible rfl))
            try simp only [Act.put, List.setIfInBounds_toArray, List.set_cons_zero, List.set_cons_succ]
            refine wpAnyH_done (by kernel_rfl) ?_ _
            clear hHeld
            go_wp2
            go_ret
            exact ⟨by first | rfl | (rw [rmay_no (by omega)]; rfl), bt b1 hB2⟩
        · have t8 : decide (0 ≤ mi) = false := by simpa using q8
          have u8 : decide (mi ≥ 0) = false := by simpa using q8
          refine wpAnyH_take (i := 46) (v := ?_) (by simp only [List.getElem?_toArray, List.getElem?_cons_succ, List.getElem?_cons_zero]; exact rfl) (by kernel_rfl) (by kernel_rfl) (by kernel_rfl) (by intro _ _ _ h; exact h) (Or.inl ⟨by rfl, fun W hSw => ?_⟩) hHeld ?_
          rotate_left
          focus ((try dsimp only at hSw); first | (go_simp; done) | (go_simp; with_reducible rfl))
          try simp only [Act.put, List.setIfInBounds_toArray, List.set_cons_zero, List.set_cons_succ]
          refine wpAnyH_take (i := 47) (v := ?_) (by simp only [List.getElem?_toArray, List.getElem?_cons_succ, List.getElem?_cons_zero]; exact rfl) (by kernel_rfl) (by kernel_rfl) (by kernel_rfl) (by intro _ _ _ h; exact h) (Or.inl ⟨by rfl, fun W hSw => ?_⟩) hHeld ?_
          rotate_left
          focus ((try dsimp only at hSw); first | (go_simp; done) | (go_simp; with_reducible rfl))
          try simp only [Act.put, List.setIfInBounds_toArray, List.set_cons_zero, List.set_cons_succ]
          refine wpAnyH_take (i := 48) (v := ?_) (by simp only [List.getElem?_toArray, List.getElem?_cons_succ, List.getElem?_cons_zero]; exact rfl) (by kernel_rfl) (by kernel_rfl) (by kernel_rfl) (by intro _ _ _ h; exact h) (Or.inl ⟨by rfl, fun W hSw => ?_⟩) hHeld ?_
          rotate_left
          focus ((try dsimp only at hSw); first | (go_simp; done) | (go_simp; with_reducible rfl))
          try simp only [Act.put, List.setIfInBounds_toArray, List.set_cons_zero, List.set_cons_succ]
          refine wpAnyH_take (i := 49) (v := undef) (by simp only [List.getElem?_toArray, List.getElem?_cons_succ, List.getElem?_cons_zero]; exact rfl) (by kernel_rfl) (by kernel_rfl) (by kernel_rfl) (by intro _ _ _ h; exact h) (Or.inr ⟨by rfl, rfl⟩) hHeld ?_
          try simp only [Act.put, List.setIfInBounds_toArray, List.set_cons_zero, List.set_cons_succ]
          refine wpAnyH_take (i := 50) (v := undef) (by simp only [List.getElem?_toArray, List.getElem?_cons_succ, List.getElem?_cons_zero]; exact rfl) (by kernel_rfl) (by kernel_rfl) (by kernel_rfl) (by intro _ _ _ h; exact h) (Or.inr ⟨by rfl, rfl⟩) hHeld ?_
          try simp only [Act.put, List.setIfInBounds_toArray, List.set_cons_zero, List.set_cons_succ]
          refine wpAnyH_take (i := 51) (v := undef) (by simp only [List.getElem?_toArray, List.getElem?_cons_succ, List.getElem?_cons_zero]; exact rfl) (by kernel_rfl) (by kernel_rfl) (by kernel_rfl) (by intro _ _ _ h; exact h) (Or.inr ⟨by rfl, rfl⟩) hHeld ?_
          try simp only [Act.put, List.setIfInBounds_toArray, List.set_cons_zero, List.set_cons_succ]
          refine wpAnyH_take (i := 52) (v := ?_) (by simp only [List.getElem?_toArray, List.getElem?_cons_succ, List.getElem?_cons_zero]; exact rfl) (by kernel_rfl) (by kernel_rfl) (by kernel_rfl) (by intro _ _ _ h; exact h) (Or.inl ⟨by rfl, fun W hSw => ?_⟩) hHeld ?_
          rotate_left
          focus ((try dsimp only at hSw); first | (go_simp; done) | (go_simp; with_reducible rfl))
          try simp only [Act.put, List.setIfInBounds_toArray, List.set_cons_zero, List.set_cons_succ]
          refine wpAnyH_take (i := 53) (v := ?_) (by simp only [List.getElem?_toArray, List.getElem?_cons_succ, List.getElem?_cons_zero]; exact rfl) (by kernel_rfl) (by kernel_rfl) (by kernel_rfl) (by intro _ _ _ h; exact h) (Or.inl ⟨by rfl, fun W hSw => ?_⟩) hHeld ?_
          rotate_left
          focus ((try dsimp only at hSw); first | (go_simp; done) | (go_simp; with_reducible rfl))
          try simp only [Act.put, List.setIfInBounds_toArray, List.set_cons_zero, List.set_cons_succ]
          refine wpAnyH_take (i := 54) (v := undef) (by simp only [List.getElem?_toArray, List.getElem?_cons_succ, List.getElem?_cons_zero]; exact rfl) (by kernel_rfl) (by kernel_rfl) (by kernel_rfl) (by intro _ _ _ h; exact h) (Or.inr ⟨by rfl, rfl⟩) hHeld ?_
          try simp only [Act.put, List.setIfInBounds_toArray, List.set_cons_zero, List.set_cons_succ]
          refine wpAnyH_take (i := 55) (v := undef) (by simp only [List.getElem?_toArray, List.getElem?_cons_succ, List.getElem?_cons_zero]; exact rfl) (by kernel_rfl) (by kernel_rfl) (by kernel_rfl) (by intro _ _ _ h; exact h) (Or.inr ⟨by rfl, rfl⟩) hHeld ?_
          try simp only [Act.put, List.setIfInBounds_toArray, List.set_cons_zero, List.set_cons_succ]
          refine wpAnyH_take (i := 56) (v := undef) (by simp only [List.getElem?_toArray, List.getElem?_cons_succ, List.getElem?_cons_zero]; exact rfl) (by kernel_rfl) (by kernel_rfl) (by kernel_rfl) (by intro _ _ _ h; exact h) (Or.inr ⟨by rfl, rfl⟩) hHeld ?_
          try simp only [Act.put, List.setIfInBounds_toArray, List.set_cons_zero, List.set_cons_succ]
          refine wpAnyH_take (i := 57) (v := ?_) (by simp only [List.getElem?_toArray, List.getElem?_cons_succ, List.getElem?_cons_zero]; exact rfl) (by kernel_rfl) (by kernel_rfl) (by kernel_rfl) (by intro _ _ _ h; exact h) (Or.inl ⟨by rfl, fun W hSw => ?_⟩) hHeld ?_
          rotate_left
          focus ((try dsimp only at hSw); first | (go_simp; done) | (go_simp; with_reducible rfl))
          try simp only [Act.put, List.setIfInBounds_toArray, List.set_cons_zero, List.set_cons_succ]
          refine wpAnyH_take (i := 58) (v := ?_) (by simp only [List.getElem?_toArray, List.getElem?_cons_succ, List.getElem?_cons_zero]; exact rfl) (by kernel_rfl) (by kernel_rfl) (by kernel_rfl) (by intro _ _ _ h; exact h) (Or.inl ⟨by rfl, fun W hSw => ?_⟩) hHeld ?_
          rotate_left
          focus ((try dsimp only at hSw); first | (go_simp; done) | (go_simp; with_reducible rfl))
          try simp only [Act.put, List.setIfInBounds_toArray, List.set_cons_zero, List.set_cons_succ]
          refine wpAnyH_take (i := 59) (v := undef) (by simp only [List.getElem?_toArray, List.getElem?_cons_succ, List.getElem?_cons_zero]; exact rfl) (by kernel_rfl) (by kernel_rfl) (by kernel_rfl) (by intro _ _ _ h; exact h) (Or.inr ⟨by rfl, rfl⟩) hHeld ?_
          try simp only [Act.put, List.setIfInBounds_toArray, List.set_cons_zero, List.set_cons_succ]
          refine wpAnyH_take (i := 60) (v := undef) (by simp only [List.getElem?_toArray, List.getElem?_cons_succ, List.getElem?_cons_zero]; exact rfl) (by kernel_rfl) (by kernel_rfl) (by kernel_rfl) (by intro _ _ _ h; exact h) (Or.inr ⟨by rfl, rfl⟩) hHeld ?_
          try simp only [Act.put, List.setIfInBounds_toArray, List.set_cons_zero, List.set_cons_succ]
          refine wpAnyH_take (i := 61) (v := undef) (by simp only [List.getElem?_toArray, List.getElem?_cons_succ, List.getElem?_cons_zero]; exact rfl) (by kernel_rfl) (by kernel_rfl) (by kernel_rfl) (by intro _ _ _ h; exact h) (Or.inr ⟨by rfl, rfl⟩) hHeld ?_
          try simp only [Act.put, List.setIfInBounds_toArray, List.set_cons_zero, List.set_cons_succ]
          refine wpAnyH_take (i := 62) (v := ?_) (by simp only [List.getElem?_toArray, List.getElem?_cons_succ, List.getElem?_cons_zero]; exact rfl) (by kernel_rfl) (by kernel_rfl) (by kernel_rfl) (by intro _ _ _ h; exact h) (Or.inl ⟨by rfl, fun W hSw => ?_⟩) hHeld ?_
          rotate_left
          focus ((try dsimp only at hSw); first | (go_simp; done) | (go_simp; with_reducible rfl))
          try simp only [Act.put, List.setIfInBounds_toArray, List.set_cons_zero, List.set_cons_succ]
          refine wpAnyH_take (i := 63) (v := ?_) (by simp only [List.getElem?_toArray, List.getElem?_cons_succ, List.getElem?_cons_zero]; exact rfl) (by kernel_rfl) (by kernel_rfl) (by kernel_rfl) (by intro _ _ _ h; exact h) (Or.inl ⟨by rfl, fun W hSw => ?_⟩) hHeld ?_
          rotate_left
          focus ((try dsimp only at hSw); first | (go_simp; done) | (go_simp; with_reducible rfl))
          try simp only [Act.put, List.setIfInBounds_toArray, List.set_cons_zero, List.set_cons_succ]
          refine wpAnyH_done (by kernel_rfl) ?_ _
          clear hHeld
          go_wp2
          go_ret
          exact ⟨by first | rfl | (rw [rmay_no (by omega)]; rfl), bt b1 hB2⟩
      · have t7 : decide (h ≤ 23) = false := by simpa using q7
        refine wpAnyH_take (i := 41) (v := ?_) (by simp only [List.getElem?_toArray, List.getElem?_cons_succ, List.getElem?_cons_zero]; exact rfl) (by kernel_rfl) (by kernel_rfl) (by kernel_rfl) (by intro _ _ _ h; exact h) (Or.inl ⟨by rfl, fun W hSw => ?_⟩) hHeld ?_
        rotate_left
        focus ((try dsimp only at hSw); first | (go_simp; done) | (go_simp; with_reducible rfl))
        try simp only [Act.put, List.setIfInBounds_toArray, List.set_cons_zero, List.set_cons_succ]
        refine wpAnyH_take (i := 42) (v := ?_) (by simp only [List.getElem?_toArray, List.getElem?_cons_succ, List.getElem?_cons_zero]; exact rfl) (by kernel_rfl) (by kernel_rfl) (by kernel_rfl) (by intro _ _ _ h; exact h) (Or.inl ⟨by rfl, fun W hSw => ?_⟩) hHeld ?_
        rotate_left
        focus ((try dsimp only at hSw); first | (go_simp; done) | (go_simp; with_reducible rfl))
        try simp only [Act.put, List.setIfInBounds_toArray, List.set_cons_zero, List.set_cons_succ]
        refine wpAnyH_take (i := 43) (v := ?_) (by simp only [List.getElem?_toArray, List.getElem?_cons_succ, List.getElem?_cons_zero]; exact rfl) (by kernel_rfl) (by kernel_rfl) (by kernel_rfl) (by intro _ _ _ h; exact h) (Or.inl ⟨by rfl, fun W hSw => ?_⟩) hHeld ?_
        rotate_left
        focus ((try dsimp only at hSw); first | (go_simp; done) | (go_simp; with_reducible rfl))
        try simp only [Act.put, List.setIfInBounds_toArray, List.set_cons_zero, List.set_cons_succ]
        refine wpAnyH_take (i := 44) (v := undef) (by simp only [List.getElem?_toArray, List.getElem?_cons_succ, List.getElem?_cons_zero]; exact rfl) (by kernel_rfl) (by kernel_rfl) (by kernel_rfl) (by intro _ _ _ h; exact h) (Or.inr ⟨by rfl, rfl⟩) hHeld ?_
        try simp only [Act.put, List.setIfInBounds_toArray, List.set_cons_zero, List.set_cons_succ]
        refine wpAnyH_take (i := 45) (v := undef) (by simp only [List.getElem?_toArray, List.getElem?_cons_succ, List.getElem?_cons_zero]; exact rfl) (by kernel_rfl) (by kernel_rfl) (by kernel_rfl) (by intro _ _ _ h; exact h) (Or.inr ⟨by rfl, rfl⟩) hHeld ?_
        try simp only [Act.put, List.setIfInBounds_toArray, List.set_cons_zero, List.set_cons_succ]
        refine wpAnyH_take (i := 46) (v := undef) (by simp only [List.getElem?_toArray, List.getElem?_cons_succ, List.getElem?_cons_zero]; exact rfl) (by kernel_rfl) (by kernel_rfl) (by kernel_rfl) (by intro _ _ _ h; exact h) (Or.inr ⟨by rfl, rfl⟩) hHeld ?_
        try simp only [Act.put, List.setIfInBounds_toArray, List.set_cons_zero, List.set_cons_succ]
        refine wpAnyH_take (i := 47) (v := ?_) (by simp only [List.getElem?_toArray, List.getElem?_cons_succ, List.getElem?_cons_zero]; exact rfl) (by kernel_rfl) (by kernel_rfl) (by kernel_rfl) (by intro _ _ _ h; exact h) (Or.inl ⟨by rfl, fun W hSw => ?_⟩) hHeld ?_
        rotate_left
        focus ((try dsimp only at hSw); first | (go_simp; done) | (go_simp; with_reducible rfl))
        try simp only [Act.put, List.setIfInBounds_toArray, List.set_cons_zero, List.set_cons_succ]
        refine wpAnyH_take (i := 48) (v := ?_) (by simp only [List.getElem?_toArray, List.getElem?_cons_succ, List.getElem?_cons_zero]; exact rfl) (by kernel_rfl) (by kernel_rfl) (by kernel_rfl) (by intro _ _ _ h; exact h) (Or.inl ⟨by rfl, fun W hSw => ?_⟩) hHeld ?_
        rotate_left
        focus ((try dsimp only at hSw); first | (go_simp; done) | (go_simp; with_reducible rfl))
        try simp only [Act.put, List.setIfInBounds_toArray, List.set_cons_zero, List.set_cons_succ]
        refine wpAnyH_take (i := 49) (v := undef) (by simp only [List.getElem?_toArray, List.getElem?_cons_succ, List.getElem?_cons_zero]; exact rfl) (by kernel_rfl) (by kernel_rfl) (by kernel_rfl) (by intro _ _ _ h; exact h) (Or.inr ⟨by rfl, rfl⟩) hHeld ?_
        try simp only [Act.put, List.setIfInBounds_toArray, List.set_cons_zero, List.set_cons_succ]
        refine wpAnyH_take (i := 50) (v := undef) (by simp only [List.getElem?_toArray, List.getElem?_cons_succ, List.getElem?_cons_zero]; exact rfl) (by kernel_rfl) (by kernel_rfl) (by kernel_rfl) (by intro _ _ _ h; exact h) (Or.inr ⟨by rfl, rfl⟩) hHeld ?_
        try simp only [Act.put, List.setIfInBounds_toArray, List.set_cons_zero, List.set_cons_succ]
        refine wpAnyH_take (i := 51) (v := undef) (by simp only [List.getElem?_toArray, List.getElem?_cons_succ, List.getElem?_cons_zero]; exact rfl) (by kernel_rfl) (by kernel_rfl) (by kernel_rfl) (by intro _ _ _ h; exact h) (Or.inr ⟨by rfl, rfl⟩) hHeld ?_
        try simp only [Act.put, List.setIfInBounds_toArray, List.set_cons_zero, List.set_cons_succ]
        refine wpAnyH_take (i := 52) (v := ?_) (by simp only [List.getElem?_toArray, List.getElem?_cons_succ, List.getElem?_cons_zero]; exact rfl) (by kernel_rfl) (by kernel_rfl) (by kernel_rfl) (by intro _ _ _ h; exact h) (Or.inl ⟨by rfl, fun W hSw => ?_⟩) hHeld ?_
        rotate_left
        focus ((try dsimp only at hSw); first | (go_simp; done) | (go_simp; with_reducible rfl))
        try simp only [Act.put, List.setIfInBounds_toArray, List.set_cons_zero, List.set_cons_succ]
        refine wpAnyH_take (i := 53) (v := ?_) (by simp only [List.getElem?_toArray, List.getElem?_cons_succ, List.getElem?_cons_zero]; exact rfl) (by kernel_rfl) (by kernel_rfl) (by kernel_rfl) (by intro _ _ _ h; exact h) (Or.inl ⟨by rfl, fun W hSw => ?_⟩) hHeld ?_
        rotate_left
        focus ((try dsimp only at hSw); first | (go_simp; done) | (go_simp; with_reducible rfl))
        try simp only [Act.put, List.setIfInBounds_toArray, List.set_cons_zero, List.set_cons_succ]
        refine wpAnyH_take (i := 54) (v := undef) (by simp only [List.getElem?_toArray, List.getElem?_cons_succ, List.getElem?_cons_zero]; exact rfl) (by kernel_rfl) (by kernel_rfl) (by kernel_rfl) (by intro _ _ _ h; exact h) (Or.inr ⟨by rfl, rfl⟩) hHeld ?_
        try simp only [Act.put, List.setIfInBounds_toArray, List.set_cons_zero, List.set_cons_succ]
        refine wpAnyH_take (i := 55) (v := undef) (by simp only [List.getElem?_toArray, List.getElem?_cons_succ, List.getElem?_cons_zero]; exact rfl) (by kernel_rfl) (by kernel_rfl) (by kernel_rfl) (by intro _ _ _ h; exact h) (Or.inr ⟨by rfl, rfl⟩) hHeld ?_
        try simp only [Act.put, List.setIfInBounds_toArray, List.set_cons_zero, List.set_cons_succ]
        refine wpAnyH_take (i := 56) (v := undef) (by simp only [List.getElem?_toArray, List.getElem?_cons_succ, List.getElem?_cons_zero]; exact rfl) (by kernel_rfl) (by kernel_rfl) (by kernel_rfl) (by intro _ _ _ h; exact h) (Or.inr ⟨by rfl, rfl⟩) hHeld ?_
        try simp only [Act.put, List.setIfInBounds_toArray, List.set_cons_zero, List.set_cons_succ]
        refine wpAnyH_take (i := 57) (v := ?_) (by simp only [List.getElem?_toArray, List.getElem?_cons_succ, List.getElem?_cons_zero]; exact rfl) (by kernel_rfl) (by kernel_rfl) (by kernel_rfl) (by intro _ _ _ h; exact h) (Or.inl ⟨by rfl, fun W hSw => ?_⟩) hHeld ?_
        rotate_left
        focus ((try dsimp only at hSw); first | (go_simp; done) | (go_simp; with_reducible rfl))
        try simp only [Act.put, List.setIfInBounds_toArray, List.set_cons_zero, List.set_cons_succ]
        refine wpAnyH_take (i := 58) (v := ?_) (by simp only [List.getElem?_toArray, List.getElem?_cons_succ, List.getElem?_cons_zero]; exact rfl) (by kernel_rfl) (by kernel_rfl) (by kernel_rfl) (by intro _ _ _ h; exact h) (Or.inl ⟨by rfl, fun W hSw => ?_⟩) hHeld ?_
        rotate_left
        focus ((try dsimp only at hSw); first | (go_simp; done) | (go_simp; with_reducible rfl))
        try simp only [Act.put, List.setIfInBounds_toArray, List.set_cons_zero, List.set_cons_succ]
        refine wpAnyH_take (i := 59) (v := undef) (by simp only [List.getElem?_toArray, List.getElem?_cons_succ, List.getElem?_cons_zero]; exact rfl) (by kernel_rfl) (by kernel_rfl) (by kernel_rfl) (by intro _ _ _ h; exact h) (Or.inr ⟨by rfl, rfl⟩) hHeld ?_
        try simp only [Act.put, List.setIfInBounds_toArray, List.set_cons_zero, List.set_cons_succ]
        refine wpAnyH_take (i := 60) (v := undef) (by simp only [List.getElem?_toArray, List.getElem?_cons_succ, List.getElem?_cons_zero]; exact rfl) (by kernel_rfl) (by kernel_rfl) (by kernel_rfl) (by intro _ _ _ h; exact h) (Or.inr ⟨by rfl, rfl⟩) hHeld ?_
        try simp only [Act.put, List.setIfInBounds_toArray, List.set_cons_zero, List.set_cons_succ]
        refine wpAnyH_take (i := 61) (v := undef) (by simp only [List.getElem?_toArray, List.getElem?_cons_succ, List.getElem?_cons_zero]; exact rfl) (by kernel_rfl) (by kernel_rfl) (by kernel_rfl) (by intro _ _ _ h; exact h) (Or.inr ⟨by rfl, rfl⟩) hHeld ?_
        try simp only [Act.put, List.setIfInBounds_toArray, List.set_cons_zero, List.set_cons_succ]
        refine wpAnyH_take (i := 62) (v := ?_) (by simp only [List.getElem?_toArray, List.getElem?_cons_succ, List.getElem?_cons_zero]; exact rfl) (by kernel_rfl) (by kernel_rfl) (by kernel_rfl) (by intro _ _ _ h; exact h) (Or.inl ⟨by rfl, fun W hSw => ?_⟩) hHeld ?_
        rotate_left
        focus ((try dsimp only at hSw); first | (go_simp; done) | (go_simp; with_reducible rfl))
        try simp only [Act.put, List.setIfInBounds_toArray, List.set_cons_zero, List.set_cons_succ]
        refine wpAnyH_take (i := 63) (v := ?_) (by simp only [List.getElem?_toArray, List.getElem?_cons_succ, List.getElem?_cons_zero]; exact rfl) (by kernel_rfl) (by kernel_rfl) (by kernel_rfl) (by intro _ _ _ h; exact h) (Or.inl ⟨by rfl, fun W hSw => ?_⟩) hHeld ?_
        rotate_left
        focus ((try dsimp only at hSw); first | (go_simp; done) | (go_simp; with_reducible rfl))
        try simp only [Act.put, List.setIfInBounds_toArray, List.set_cons_zero, List.set_cons_succ]
        refine wpAnyH_done (by kernel_rfl) ?_ _
        clear hHeld
        go_wp2
        go_ret
        exact ⟨by first | rfl | (rw [rmay_no (by omega)]; rfl), bt b1 hB2⟩
    · have t6 : decide (0 ≤ h) = false := by simpa using q6
      have u6 : decide (h ≥ 0) = false := by simpa using q6
      refine wpAnyH_take (i := 36) (v := ?_) (by simp only [List.getElem?_toArray, List.getElem?_cons_succ, List.getElem?_cons_zero]; exact rfl) (by kernel_rfl) (by kernel_rfl) (by kernel_rfl) (by intro _ _ _ h; exact h) (Or.inl ⟨by rfl, fun W hSw => ?_⟩) hHeld ?_
      rotate_left
      focus ((try dsimp only at hSw); first | (go_simp; done) | (go_simp; with_reducible rfl))
      try simp only [Act.put, List.setIfInBounds_toArray, List.set_cons_zero, List.set_cons_succ]
      refine wpAnyH_take (i := 37) (v := ?_) (by simp only [List.getElem?_toArray, List.getElem?_cons_succ, List.getElem?_cons_zero]; exact rfl) (by kernel_rfl) (by kernel_rfl) (by kernel_rfl) (by intro _ _ _ h; exact h) (Or.inl ⟨by rfl, fun W hSw => ?_⟩) hHeld ?_
      rotate_left
      focus ((try dsimp only at hSw); first | (go_simp; done) | (go_simp; with_reducible rfl))
      try simp only [Act.put, List.setIfInBounds_toArray, List.set_cons_zero, List.set_cons_succ]
      refine wpAnyH_take (i := 38) (v := ?_) (by simp only [List.getElem?_toArray, List.getElem?_cons_succ, List.getElem?_cons_zero]; exact rfl) (by kernel_rfl) (by kernel_rfl) (by kernel_rfl) (by intro _ _ _ h; exact h) (Or.inl ⟨by rfl, fun W hSw => ?_⟩) hHeld ?_
      rotate_left
      focus ((try dsimp only at hSw); first | (go_simp; done) | (go_simp; with_reducible rfl))
      try simp only [Act.put, List.setIfInBounds_toArray, List.set_cons_zero, List.set_cons_succ]
      refine wpAnyH_take (i := 39) (v := undef) (by simp only [List.getElem?_toArray, List.getElem?_cons_succ, List.getElem?_cons_zero]; exact rfl) (by kernel_rfl) (by kernel_rfl) (by kernel_rfl) (by intro _ _ _ h; exact h) (Or.inr ⟨by rfl, rfl⟩) hHeld ?_
      try simp only [Act.put, List.setIfInBounds_toArray, List.set_cons_zero, List.set_cons_succ]
      refine wpAnyH_take (i := 40) (v := undef) (by simp only [List.getElem?_toArray, List.getElem?_cons_succ, List.getElem?_cons_zero]; exact rfl) (by kernel_rfl) (by kernel_rfl) (by kernel_rfl) (by intro _ _ _ h; exact h) (Or.inr ⟨by rfl, rfl⟩) hHeld ?_
      try simp only [Act.put, List.setIfInBounds_toArray, List.set_cons_zero, List.set_cons_succ]
      refine wpAnyH_take (i := 41) (v := undef) (by simp only [List.getElem?_toArray, List.getElem?_cons_succ, List.getElem?_cons_zero]; exact rfl) (by kernel_rfl) (by kernel_rfl) (by kernel_rfl) (by intro _ _ _ h; exact h) (Or.inr ⟨by rfl, rfl⟩) hHeld ?_
      try simp only [Act.put, List.setIfInBounds_toArray, List.set_cons_zero, List.set_cons_succ]
      refine wpAnyH_take (i := 42) (v := ?_) (by simp only [List.getElem?_toArray, List.getElem?_cons_succ, List.getElem?_cons_zero]; exact rfl) (by kernel_rfl) (by kernel_rfl) (by kernel_rfl) (by intro _ _ _ h; exact h) (Or.inl ⟨by rfl, fun W hSw => ?_⟩) hHeld ?_
      rotate_left
      focus ((try dsimp only at hSw); first | (go_simp; done) | (go_simp; with_reducible rfl))
      try simp only [Act.put, List.setIfInBounds_toArray, List.set_cons_zero, List.set_cons_succ]
      refine wpAnyH_take (i := 43) (v := ?_) (by simp only [List.getElem?_toArray, List.getElem?_cons_succ, List.getElem?_cons_zero]; exact rfl) (by kernel_rfl) (by kernel_rfl) (by kernel_rfl) (by intro _ _ _ h; exact h) (Or.inl ⟨by rfl, fun W hSw => ?_⟩) hHeld ?_
      rotate_left
      focus ((try dsimp only at hSw); first | (go_simp; done) | (go_simp; with_reducible rfl))
      try simp only [Act.put, List.setIfInBounds_toArray, List.set_cons_zero, List.set_cons_succ]
      refine wpAnyH_take (i := 44) (v := undef) (by simp only [List.getElem?_toArray, List.getElem?_cons_succ, List.getElem?_cons_zero]; exact rfl) (by kernel_rfl) (by kernel_rfl) (by kernel_rfl) (by intro _ _ _ h; exact h) (Or.inr ⟨by rfl, rfl⟩) hHeld ?_
      try simp only [Act.put, List.setIfInBounds_toArray, List.set_cons_zero, List.set_cons_succ]
      refine wpAnyH_take (i := 45) (v := undef) (by simp only [List.getElem?_toArray, List.getElem?_cons_succ, List.getElem?_cons_zero]; exact rfl) (by kernel_rfl) (by kernel_rfl) (by kernel_rfl) (by intro _ _ _ h; exact h) (Or.inr ⟨by rfl, rfl⟩) hHeld ?_
      try simp only [Act.put, List.setIfInBounds_toArray, List.set_cons_zero, List.set_cons_succ]
      refine wpAnyH_take (i := 46) (v := undef) (by simp only [List.getElem?_toArray, List.getElem?_cons_succ, List.getElem?_cons_zero]; exact rfl) (by kernel_rfl) (by kernel_rfl) (by kernel_rfl) (by intro _ _ _ h; exact h) (Or.inr ⟨by rfl, rfl⟩) hHeld ?_
      try simp only [Act.put, List.setIfInBounds_toArray, List.set_cons_zero, List.set_cons_succ]
      refine wpAnyH_take (i := 47) (v := ?_) (by simp only [List.getElem?_toArray, List.getElem?_cons_succ, List.getElem?_cons_zero]; exact rfl) (by kernel_rfl) (by kernel_rfl) (by kernel_rfl) (by intro _ _ _ h; exact h) (Or.inl ⟨by rfl, fun W hSw => ?_⟩) hHeld ?_
      rotate_left
      focus ((try dsimp only at hSw); first | (go_simp; done) | (go_simp; with_reducible rfl))
      try simp only [Act.put, List.setIfInBounds_toArray, List.set_cons_zero, List.set_cons_succ]
      refine wpAnyH_take (i := 48) (v := ?_) (by simp only [List.getElem?_toArray, List.getElem?_cons_succ, List.getElem?_cons_zero]; exact rfl) (by kernel_rfl) (by kernel_rfl) (by kernel_rfl) (by intro _ _ _ h; exact h) (Or.inl ⟨by rfl, fun W hSw => ?_⟩) hHeld ?_
      rotate_left
      focus ((try dsimp only at hSw); first | (go_simp; done) | (go_simp; with_reducible rfl))
      try simp only [Act.put, List.setIfInBounds_toArray, List.set_cons_zero, List.set_cons_succ]
      refine wpAnyH_take (i := 49) (v := undef) (by simp only [List.getElem?_toArray, List.getElem?_cons_succ, List.getElem?_cons_zero]; exact rfl) (by kernel_rfl) (by kernel_rfl) (by kernel_rfl) (by intro _ _ _ h; exact h) (Or.inr ⟨by rfl, rfl⟩) hHeld ?_
      try simp only [Act.put, List.setIfInBounds_toArray, List.set_cons_zero, List.set_cons_succ]
      refine wpAnyH_take (i := 50) (v := undef) (by simp only [List.getElem?_toArray, List.getElem?_cons_succ, List.getElem?_cons_zero]; exact rfl) (by kernel_rfl) (by kernel_rfl) (by kernel_rfl) (by intro _ _ _ h; exact h) (Or.inr ⟨by rfl, rfl⟩) hHeld ?_
      try simp only [Act.put, List.setIfInBounds_toArray, List.set_cons_zero, List.set_cons_succ]
      refine wpAnyH_take (i := 51) (v := undef) (by simp only [List.getElem?_toArray, List.getElem?_cons_succ, List.getElem?_cons_zero]; exact rfl) (by kernel_rfl) (by kernel_rfl) (by kernel_rfl) (by intro _ _ _ h; exact h) (Or.inr ⟨by rfl, rfl⟩) hHeld ?_
      try simp only [Act.put, List.setIfInBounds_toArray, List.set_cons_zero, List.set_cons_succ]
      refine wpAnyH_take (i := 52) (v := ?_) (by simp only [List.getElem?_toArray, List.getElem?_cons_succ, List.getElem?_cons_zero]; exact rfl) (by kernel_rfl) (by kernel_rfl) (by kernel_rfl) (by intro _ _ _ h; exact h) (Or.inl ⟨by rfl, fun W hSw => ?_⟩) hHeld ?_
      rotate_left
      focus ((try dsimp only at hSw); first | (go_simp; done) | (go_simp; with_reducible rfl))
      try simp only [Act.put, List.setIfInBounds_toArray, List.set_cons_zero, List.set_cons_succ]
      refine wpAnyH_take (i := 53) (v := ?_) (by simp only [List.getElem?_toArray, List.getElem?_cons_succ, List.getElem?_cons_zero]; exact rfl) (by kernel_rfl) (by kernel_rfl) (by kernel_rfl) (by intro _ _ _ h; exact h) (Or.inl ⟨by rfl, fun W hSw => ?_⟩) hHeld ?_
      rotate_left
      focus ((try dsimp only at hSw); first | (go_simp; done) | (go_simp; with_reducible rfl))
      try simp only [Act.put, List.setIfInBounds_toArray, List.set_cons_zero, List.set_cons_succ]
      refine wpAnyH_take (i := 54) (v := undef) (by simp only [List.getElem?_toArray, List.getElem?_cons_succ, List.getElem?_cons_zero]; exact rfl) (by kernel_rfl) (by kernel_rfl) (by kernel_rfl) (by intro _ _ _ h; exact h) (Or.inr ⟨by rfl, rfl⟩) hHeld ?_
      try simp only [Act.put, List.setIfInBounds_toArray, List.set_cons_zero, List.set_cons_succ]
      refine wpAnyH_take (i := 55) (v := undef) (by simp only [List.getElem?_toArray, List.getElem?_cons_succ, List.getElem?_cons_zero]; exact rfl) (by kernel_rfl) (by kernel_rfl) (by kernel_rfl) (by intro _ _ _ h; exact h) (Or.inr ⟨by rfl, rfl⟩) hHeld ?_
      try simp only [Act.put, List.setIfInBounds_toArray, List.set_cons_zero, List.set_cons_succ]
      refine wpAnyH_take (i := 56) (v := undef) (by simp only [List.getElem?_toArray, List.getElem?_cons_succ, List.getElem?_cons_zero]; exact rfl) (by kernel_rfl) (by kernel_rfl) (by kernel_rfl) (by intro _ _ _ h; exact h) (Or.inr ⟨by rfl, rfl⟩) hHeld ?_
      try simp only [Act.put, List.setIfInBounds_toArray, List.set_cons_zero, List.set_cons_succ]
      refine wpAnyH_take (i := 57) (v := ?_) (by simp only [List.getElem?_toArray, List.getElem?_cons_succ, List.getElem?_cons_zero]; exact rfl) (by kernel_rfl) (by kernel_rfl) (by kernel_rfl) (by intro _ _ _ h; exact h) (Or.inl ⟨by rfl, fun W hSw => ?_⟩) hHeld ?_
      rotate_left
      focus ((try dsimp only at hSw); first | (go_simp; done) | (go_simp; with_reducible rfl))
      try simp only [Act.put, List.setIfInBounds_toArray, List.set_cons_zero, List.set_cons_succ]
      refine wpAnyH_take (i := 58) (v := ?_) (by simp only [List.getElem?_toArray, List.getElem?_cons_succ, List.getElem?_cons_zero]; exact rfl) (by kernel_rfl) (by kernel_rfl) (by kernel_rfl) (by intro _ _ _ h; exact h) (Or.inl ⟨by rfl, fun W hSw => ?_⟩) hHeld ?_
      rotate_left
      focus ((try dsimp only at hSw); first | (go_simp; done) | (go_simp; with_reducible rfl))
      try simp only [Act.put, List.setIfInBounds_toArray, List.set_cons_zero, List.set_cons_succ]
      refine wpAnyH_take (i := 59) (v := undef) (by simp only [List.getElem?_toArray, List.getElem?_cons_succ, List.getElem?_cons_zero]; exact rfl) (by kernel_rfl) (by kernel_rfl) (by kernel_rfl) (by intro _ _ _ h; exact h) (Or.inr ⟨by rfl, rfl⟩) hHeld ?_
      try simp only [Act.put, List.setIfInBounds_toArray, List.set_cons_zero, List.set_cons_succ]
      refine wpAnyH_take (i := 60) (v := undef) (by simp only [List.getElem?_toArray, List.getElem?_cons_succ, List.getElem?_cons_zero]; exact rfl) (by kernel_rfl) (by kernel_rfl) (by kernel_rfl) (by intro _ _ _ h; exact h) (Or.inr ⟨by rfl, rfl⟩) hHeld ?_
      try simp only [Act.put, List.setIfInBounds_toArray, List.set_cons_zero, List.set_cons_succ]
      refine wpAnyH_take (i := 61) (v := undef) (by simp only [List.getElem?_toArray, List.getElem?_cons_succ, List.getElem?_cons_zero]; exact rfl) (by kernel_rfl) (by kernel_rfl) (by kernel_rfl) (by intro _ _ _ h; exact h) (Or.inr ⟨by rfl, rfl⟩) hHeld ?_
      try simp only [Act.put, List.setIfInBounds_toArray, List.set_cons_zero, List.set_cons_succ]
      refine wpAnyH_take (i := 62) (v := ?_) (by simp only [List.getElem?_toArray, List.getElem?_cons_succ, List.getElem?_cons_zero]; exact rfl) (by kernel_rfl) (by kernel_rfl) (by kernel_rfl) (by intro _ _ _ h; exact h) (Or.inl ⟨by rfl, fun W hSw => ?_⟩) hHeld ?_
      rotate_left
      focus ((try dsimp only at hSw); first | (go_simp; done) | (go_simp; with_reducible rfl))
      try simp only [Act.put, List.setIfInBounds_toArray, List.set_cons_zero, List.set_cons_succ]
      refine wpAnyH_take (i := 63) (v := ?_) (by simp only [List.getElem?_toArray, List.getElem?_cons_succ, List.getElem?_cons_zero]; exact rfl) (by kernel_rfl) (by kernel_rfl) (by kernel_rfl) (by intro _ _ _ h; exact h) (Or.inl ⟨by rfl, fun W hSw => ?_⟩) hHeld ?_
      rotate_left
      focus ((try dsimp only at hSw); first | (go_simp; done) | (go_simp; with_reducible rfl))
      try simp only [Act.put, List.setIfInBounds_toArray, List.set_cons_zero, List.set_cons_succ]
      refine wpAnyH_done (by kernel_rfl) ?_ _
      clear hHeld
      go_wp2
      go_ret
      exact ⟨by first | rfl | (rw [rmay_no (by omega)]; rfl), bt b1 hB2⟩
  · have t5 : decide (D ≤ dl) = false := by simpa using q5
    refine wpAnyH_take (i := 31) (v := ?_) (by simp only [List.getElem?_toArray, List.getElem?_cons_succ, List.getElem?_cons_zero]; exact rfl) (by kernel_rfl) (by kernel_rfl) (by kernel_rfl) (by intro _ _ _ h; exact h) (Or.inl ⟨by rfl, fun W hSw => ?_⟩) hHeld ?_
    rotate_left
    focus ((try dsimp only at hSw); first | (go_simp; done) | (go_simp; with_reducible rfl))
    try simp only [Act.put, List.setIfInBounds_toArray, List.set_cons_zero, List.set_cons_succ]
    refine wpAnyH_take (i := 32) (v := ?_) (by simp only [List.getElem?_toArray, List.getElem?_cons_succ, List.getElem?_cons_zero]; exact rfl) (by kernel_rfl) (by kernel_rfl) (by kernel_rfl) (by intro _ _ _ h; exact h) (Or.inl ⟨by rfl, fun W hSw => ?_⟩) hHeld ?_
    rotate_left
    focus ((try dsimp only at hSw); first | (go_simp; done) | (go_simp; with_reducible rfl))
    try simp only [Act.put, List.setIfInBounds_toArray, List.set_cons_zero, List.set_cons_succ]
    refine wpAnyH_take (i := 33) (v := ?_) (by simp only [List.getElem?_toArray, List.getElem?_cons_succ, List.getElem?_cons_zero]; exact rfl) (by kernel_rfl) (by kernel_rfl) (by kernel_rfl) (by intro _ _ _ h; exact h) (Or.inl ⟨by rfl, fun W hSw => ?_⟩) hHeld ?_
    rotate_left
    focus ((try dsimp only at hSw); first | (go_simp; done) | (go_simp; with_reducible rfl))
    try simp only [Act.put, List.setIfInBounds_toArray, List.set_cons_zero, List.set_cons_succ]
    refine wpAnyH_take (i := 34) (v := undef) (by simp only [List.getElem?_toArray, List.getElem?_cons_succ, List.getElem?_cons_zero]; exact rfl) (by kernel_rfl) (by kernel_rfl) (by kernel_rfl) (by intro _ _ _ h; exact h) (Or.inr ⟨by rfl, rfl⟩) hHeld ?_
    try simp only [Act.put, List.setIfInBounds_toArray, List.set_cons_zero, List.set_cons_succ]
    refine wpAnyH_take (i := 35) (v := undef) (by simp only [List.getElem?_toArray, List.getElem?_cons_succ, List.getElem?_cons_zero]; exact rfl) (by kernel_rfl) (by kernel_rfl) (by kernel_rfl) (by intro _ _ _ h; exact h) (Or.inr ⟨by rfl, rfl⟩) hHeld ?_
    try simp only [Act.put, List.setIfInBounds_toArray, List.set_cons_zero, List.set_cons_succ]
    refine wpAnyH_take (i := 36) (v := undef) (by simp only [List.getElem?_toArray, List.getElem?_cons_succ, List.getElem?_cons_zero]; exact rfl) (by kernel_rfl) (by kernel_rfl) (by kernel_rfl) (by intro _ _ _ h; exact h) (Or.inr ⟨by rfl, rfl⟩) hHeld ?_
    try simp only [Act.put, List.setIfInBounds_toArray, List.set_cons_zero, List.set_cons_succ]
    refine wpAnyH_take (i := 37) (v := ?_) (by simp only [List.getElem?_toArray, List.getElem?_cons_succ, List.getElem?_cons_zero]; exact rfl) (by kernel_rfl) (by kernel_rfl) (by kernel_rfl) (by intro _ _ _ h; exact h) (Or.inl ⟨by rfl, fun W hSw => ?_⟩) hHeld ?_
    rotate_left
    focus ((try dsimp only at hSw); first | (go_simp; done) | (go_simp; with_reducible rfl))
    try simp only [Act.put, List.setIfInBounds_toArray, List.set_cons_zero, List.set_cons_succ]
    refine wpAnyH_take (i := 38) (v := ?_) (by simp only [List.getElem?_toArray, List.getElem?_cons_succ, List.getElem?_cons_zero]; exact rfl) (by kernel_rfl) (by kernel_rfl) (by kernel_rfl) (by intro _ _ _ h; exact h) (Or.inl ⟨by rfl, fun W hSw => ?_⟩) hHeld ?_
    rotate_left
    focus ((try dsimp only at hSw); first | (go_simp; done) | (go_simp; with_reducible rfl))
    try simp only [Act.put, List.setIfInBounds_toArray, List.set_cons_zero, List.set_cons_succ]
    refine wpAnyH_take (i := 39) (v := undef) (by simp only [List.getElem?_toArray, List.getElem?_cons_succ, List.getElem?_cons_zero]; exact rfl) (by kernel_rfl) (by kernel_rfl) (by kernel_rfl) (by intro _ _ _ h; exact h) (Or.inr ⟨by rfl, rfl⟩) hHeld ?_
    try simp only [Act.put, List.setIfInBounds_toArray, List.set_cons_zero, List.set_cons_succ]
    refine wpAnyH_take (i := 40) (v := undef) (by simp only [List.getElem?_toArray, List.getElem?_cons_succ, List.getElem?_cons_zero]; exact rfl) (by kernel_rfl) (by kernel_rfl) (by kernel_rfl) (by intro _ _ _ h; exact h) (Or.inr ⟨by rfl, rfl⟩) hHeld ?_
    try simp only [Act.put, List.setIfInBounds_toArray, List.set_cons_zero, List.set_cons_succ]
    refine wpAnyH_take (i := 41) (v := undef) (by simp only [List.getElem?_toArray, List.getElem?_cons_succ, List.getElem?_cons_zero]; exact rfl) (by kernel_rfl) (by kernel_rfl) (by kernel_rfl) (by intro _ _ _ h; exact h) (Or.inr ⟨by rfl, rfl⟩) hHeld ?_
    try simp only [Act.put, List.setIfInBounds_toArray, List.set_cons_zero, List.set_cons_succ]
    refine wpAnyH_take (i := 42) (v := ?_) (by simp only [List.getElem?_toArray, List.getElem?_cons_succ, List.getElem?_cons_zero]; exact rfl) (by kernel_rfl) (by kernel_rfl) (by kernel_rfl) (by intro _ _ _ h; exact h) (Or.inl ⟨by rfl, fun W hSw => ?_⟩) hHeld ?_
    rotate_left
    focus ((try dsimp only at hSw); first | (go_simp; done) | (go_simp; with_reducible rfl))
    try simp only [Act.put, List.setIfInBounds_toArray, List.set_cons_zero, List.set_cons_succ]
    refine wpAnyH_take (i := 43) (v := ?_) (by simp only [List.getElem?_toArray, List.getElem?_cons_succ, List.getElem?_cons_zero]; exact rfl) (by kernel_rfl) (by kernel_rfl) (by kernel_rfl) (by intro _ _ _ h; exact h) (Or.inl ⟨by rfl, fun W hSw => ?_⟩) hHeld ?_
    rotate_left
    focus ((try dsimp only at hSw); first | (go_simp; done) | (go_simp; with_reducible rfl))
    try simp only [Act.put, List.setIfInBounds_toArray, List.set_cons_zero, List.set_cons_succ]
    refine wpAnyH_take (i := 44) (v := undef) (by simp only [List.getElem?_toArray, List.getElem?_cons_succ, List.getElem?_cons_zero]; exact rfl) (by kernel_rfl) (by kernel_rfl) (by kernel_rfl) (by intro _ _ _ h; exact h) (Or.inr ⟨by rfl, rfl⟩) hHeld ?_
    try simp only [Act.put, List.setIfInBounds_toArray, List.set_cons_zero, List.set_cons_succ]
    refine wpAnyH_take (i := 45) (v := undef) (by simp only [List.getElem?_toArray, List.getElem?_cons_succ, List.getElem?_cons_zero]; exact rfl) (by kernel_rfl) (by kernel_rfl) (by kernel_rfl) (by intro _ _ _ h; exact h) (Or.inr ⟨by rfl, rfl⟩) hHeld ?_
    try simp only [Act.put, List.setIfInBounds_toArray, List.set_cons_zero, List.set_cons_succ]
    refine wpAnyH_take (i := 46) (v := undef) (by simp only [List.getElem?_toArray, List.getElem?_cons_succ, List.getElem?_cons_zero]; exact rfl) (by kernel_rfl) (by kernel_rfl) (by kernel_rfl) (by intro _ _ _ h; exact h) (Or.inr ⟨by rfl, rfl⟩) hHeld ?_
    try simp only [Act.put, List.setIfInBounds_toArray, List.set_cons_zero, List.set_cons_succ]
    refine wpAnyH_take (i := 47) (v := ?_) (by simp only [List.getElem?_toArray, List.getElem?_cons_succ, List.getElem?_cons_zero]; exact rfl) (by kernel_rfl) (by kernel_rfl) (by kernel_rfl) (by intro _ _ _ h; exact h) (Or.inl ⟨by rfl, fun W hSw => ?_⟩) hHeld ?_
    rotate_left
    focus ((try dsimp only at hSw); first | (go_simp; done) | (go_simp; with_reducible rfl))
    try simp only [Act.put, List.setIfInBounds_toArray, List.set_cons_zero, List.set_cons_succ]
    refine wpAnyH_take (i := 48) (v := ?_) (by simp only [List.getElem?_toArray, List.getElem?_cons_succ, List.getElem?_cons_zero]; exact rfl) (by kernel_rfl) (by kernel_rfl) (by kernel_rfl) (by intro _ _ _ h; exact h) (Or.inl ⟨by rfl, fun W hSw => ?_⟩) hHeld ?_
    rotate_left
    focus ((try dsimp only at hSw); first | (go_simp; done) | (go_simp; with_reducible rfl))
    try simp only [Act.put, List.setIfInBounds_toArray, List.set_cons_zero, List.set_cons_succ]
    refine wpAnyH_take (i := 49) (v := undef) (by simp only [List.getElem?_toArray, List.getElem?_cons_succ, List.getElem?_cons_zero]; exact rfl) (by kernel_rfl) (by kernel_rfl) (by kernel_rfl) (by intro _ _ _ h; exact h) (Or.inr ⟨by rfl, rfl⟩) hHeld ?_
    try simp only [Act.put, List.setIfInBounds_toArray, List.set_cons_zero, List.set_cons_succ]
    refine wpAnyH_take (i := 50) (v := undef) (by simp only [List.getElem?_toArray, List.getElem?_cons_succ, List.getElem?_cons_zero]; exact rfl) (by kernel_rfl) (by kernel_rfl) (by kernel_rfl) (by intro _ _ _ h; exact h) (Or.inr ⟨by rfl, rfl⟩) hHeld ?_
    try simp only [Act.put, List.setIfInBounds_toArray, List.set_cons_zero, List.set_cons_succ]
    refine wpAnyH_take (i := 51) (v := undef) (by simp only [List.getElem?_toArray, List.getElem?_cons_succ, List.getElem?_cons_zero]; exact rfl) (by kernel_rfl) (by kernel_rfl) (by kernel_rfl) (by intro _ _ _ h; exact h) (Or.inr ⟨by rfl, rfl⟩) hHeld ?_
    try simp only [Act.put, List.setIfInBounds_toArray, List.set_cons_zero, List.set_cons_succ]
    refine wpAnyH_take (i := 52) (v := ?_) (by simp only [List.getElem?_toArray, List.getElem?_cons_succ, List.getElem?_cons_zero]; exact rfl) (by kernel_rfl) (by kernel_rfl) (by kernel_rfl) (by intro _ _ _ h; exact h) (Or.inl ⟨by rfl, fun W hSw => ?_⟩) hHeld ?_
    rotate_left
    focus ((try dsimp only at hSw); first | (go_simp; done) | (go_simp; with_reducible rfl))
    try simp only [Act.put, List.setIfInBounds_toArray, List.set_cons_zero, List.set_cons_succ]
    refine wpAnyH_take (i := 53) (v := ?_) (by simp only [List.getElem?_toArray, List.getElem?_cons_succ, List.getElem?_cons_zero]; exact rfl) (by kernel_rfl) (by kernel_rfl) (by kernel_rfl) (by intro _ _ _ h; exact h) (Or.inl ⟨by rfl, fun W hSw => ?_⟩) hHeld ?_
    rotate_left
    focus ((try dsimp only at hSw); first | (go_simp; done) | (go_simp; with_reducible rfl))
    try simp only [Act.put, List.setIfInBounds_toArray, List.set_cons_zero, List.set_cons_succ]
    refine wpAnyH_take (i := 54) (v := undef) (by simp only [List.getElem?_toArray, List.getElem?_cons_succ, List.getElem?_cons_zero]; exact rfl) (by kernel_rfl) (by kernel_rfl) (by kernel_rfl) (by intro _ _ _ h; exact h) (Or.inr ⟨by rfl, rfl⟩) hHeld ?_
    try simp only [Act.put, List.setIfInBounds_toArray, List.set_cons_zero, List.set_cons_succ]
    refine wpAnyH_take (i := 55) (v := undef) (by simp only [List.getElem?_toArray, List.getElem?_cons_succ, List.getElem?_cons_zero]; exact rfl) (by kernel_rfl) (by kernel_rfl) (by kernel_rfl) (by intro _ _ _ h; exact h) (Or.inr ⟨by rfl, rfl⟩) hHeld ?_
    try simp only [Act.put, List.setIfInBounds_toArray, List.set_cons_zero, List.set_cons_succ]
    refine wpAnyH_take (i := 56) (v := undef) (by simp only [List.getElem?_toArray, List.getElem?_cons_succ, List.getElem?_cons_zero]; exact rfl) (by kernel_rfl) (by kernel_rfl) (by kernel_rfl) (by intro _ _ _ h; exact h) (Or.inr ⟨by rfl, rfl⟩) hHeld ?_
    try simp only [Act.put, List.setIfInBounds_toArray, List.set_cons_zero, List.set_cons_succ]
    refine wpAnyH_take (i := 57) (v := ?_) (by simp only [List.getElem?_toArray, List.getElem?_cons_succ, List.getElem?_cons_zero]; exact rfl) (by kernel_rfl) (by kernel_rfl) (by kernel_rfl) (by intro _ _ _ h; exact h) (Or.inl ⟨by rfl, fun W hSw => ?_⟩) hHeld ?_
    rotate_left
    focus ((try dsimp only at hSw); first | (go_simp; done) | (go_simp; with_reducible rfl))
    try simp only [Act.put, List.setIfInBounds_toArray, List.set_cons_zero, List.set_cons_succ]
    refine wpAnyH_take (i := 58) (v := ?_) (by simp only [List.getElem?_toArray, List.getElem?_cons_succ, List.getElem?_cons_zero]; exact rfl) (by kernel_rfl) (by kernel_rfl) (by kernel_rfl) (by intro _ _ _ h; exact h) (Or.inl ⟨by rfl, fun W hSw => ?_⟩) hHeld ?_
    rotate_left
    focus ((try dsimp only at hSw); first | (go_simp; done) | (go_simp; with_reducible rfl))
    try simp only [Act.put, List.setIfInBounds_toArray, List.set_cons_zero, List.set_cons_succ]
    refine wpAnyH_take (i := 59) (v := undef) (by simp only [List.getElem?_toArray, List.getElem?_cons_succ, List.getElem?_cons_zero]; exact rfl) (by kernel_rfl) (by kernel_rfl) (by kernel_rfl) (by intro _ _ _ h; exact h) (Or.inr ⟨by rfl, rfl⟩) hHeld ?_
    try simp only [Act.put, List.setIfInBounds_toArray, List.set_cons_zero, List.set_cons_succ]
    refine wpAnyH_take (i := 60) (v := undef) (by simp only [List.getElem?_toArray, List.getElem?_cons_succ, List.getElem?_cons_zero]; exact rfl) (by kernel_rfl) (by kernel_rfl) (by kernel_rfl) (by intro _ _ _ h; exact h) (Or.inr ⟨by rfl, rfl⟩) hHeld ?_
    try simp only [Act.put, List.setIfInBounds_toArray, List.set_cons_zero, List.set_cons_succ]
    refine wpAnyH_take (i := 61) (v := undef) (by simp only [List.getElem?_toArray, List.getElem?_cons_succ, List.getElem?_cons_zero]; exact rfl) (by kernel_rfl) (by kernel_rfl) (by kernel_rfl) (by intro _ _ _ h; exact h) (Or.inr ⟨by rfl, rfl⟩) hHeld ?_
    try simp only [Act.put, List.setIfInBounds_toArray, List.set_cons_zero, List.set_cons_succ]
    refine wpAnyH_take (i := 62) (v := ?_) (by simp only [List.getElem?_toArray, List.getElem?_cons_succ, List.getElem?_cons_zero]; exact rfl) (by kernel_rfl) (by kernel_rfl) (by kernel_rfl) (by intro _ _ _ h; exact h) (Or.inl ⟨by rfl, fun W hSw => ?_⟩) hHeld ?_
    rotate_left
    focus ((try dsimp only at hSw); first | (go_simp; done) | (go_simp; with_reducible rfl))
    try simp only [Act.put, List.setIfInBounds_toArray, List.set_cons_zero, List.set_cons_succ]
    refine wpAnyH_take (i := 63) (v := ?_) (by simp only [List.getElem?_toArray, List.getElem?_cons_succ, List.getElem?_cons_zero]; exact rfl) (by kernel_rfl) (by kernel_rfl) (by kernel_rfl) (by intro _ _ _ h; exact h) (Or.inl ⟨by rfl, fun W hSw => ?_⟩) hHeld ?_
    rotate_left
    focus ((try dsimp only at hSw); first | (go_simp; done) | (go_simp; with_reducible rfl))
    try simp only [Act.put, List.setIfInBounds_toArray, List.set_cons_zero, List.set_cons_succ]
    refine wpAnyH_done (by kernel_rfl) ?_ _
    clear hHeld
    go_wp2
    go_ret
    exact ⟨by first | rfl | (rw [rmay_no (by omega)]; rfl), bt b1 hB2⟩
theorem inumI_any (s : ByteArray) (i k : Int) (a n : Nat) (hi : i = a) (hk : k = n) (ha : a ≤ 1000000000) (hn : n ≤ 4) (w : World) :
    Calls Tryz.prog 35 #[.string s, .int .i64 i, .int .i64 k] w fun e w' => e = .returned (.int .i64 (rnum s.data.toList a n)) ∧ w' = w := by
  subst hi; subst hk
  exact inum_any s a n ha hn w
set_option maxHeartbeats 4000000 in
theorem itime_any (Y Mo D z1 z2 z3 : Int) (s : ByteArray) (i : Int) (a : Nat) (hi : i = a) (ha : a ≤ 900000000) (w : World) :
    Calls Tryz.prog 37 #[.agg #[.int .i64 Y, .int .i64 Mo, .int .i64 D, .int .i64 z1, .int .i64 z2, .int .i64 z3], .string s, .int .i64 i] w fun e w' => e = .returned (.agg #[.int .i64 Y, .int .i64 Mo, .int .i64 D, .int .i64 (rnum s.data.toList a 2), .int .i64 (rnum s.data.toList (a + 3) 2), .int .i64 (rnum s.data.toList (a + 6) 2)]) ∧ Below w.heap.size w w' := by
  have k1 := fun W => inumI_any s i 2 a 2 hi rfl (by omega) (by omega) W
  have e3 : IntKind.i64.wrap (i + 3) = i + 3 := by rw [IntKind.wrap_i64]; omega
  have e6 : IntKind.i64.wrap (i + 6) = i + 6 := by rw [IntKind.wrap_i64]; omega
  have k2 := fun W => inumI_any s (i + 3) 2 (a + 3) 2 (by omega) rfl (by omega) (by omega) W
  have k3 := fun W => inumI_any s (i + 6) 2 (a + 6) 2 (by omega) rfl (by omega) (by omega) W
  generalize rnum s.data.toList a 2 = n1 at *
  generalize rnum s.data.toList (a + 3) 2 = n2 at *
  generalize rnum s.data.toList (a + 6) 2 = n3 at *
  have K1 := Lib.hid k1; have K2 := Lib.hid k2; have K3 := Lib.hid k3
  clear k1 k2 k3 hi
  go_enter Tryz.func37, Tryz.ntmps37
  go_wp2_with fail
  (with_reducible refine (K1.out _).mono ?_)
  rintro e w1 ⟨rfl, rfl⟩
  go_wp2_with fail
  (with_reducible refine (K2.out _).mono ?_)
  rintro e w1 ⟨rfl, rfl⟩
  go_wp2_with fail
  (with_reducible refine (K3.out _).mono ?_)
  rintro e w1 ⟨rfl, rfl⟩
  go_wp2_with fail
  refine bodyPost_ret_by (v := .agg #[.int .i64 Y, .int .i64 Mo, .int .i64 D, .int .i64 n1, .int .i64 n2, .int .i64 n3]) ?_ rfl ?_
  · rw [results_cell_one rfl]
    go_simp
  · refine ⟨rfl, ?_⟩
    first
      | exact ((Below.refl w.heap.size w).alloc (Nat.le_refl _) _).alloc (by simp) _
      | skip
end Go.Proofs.YtedmiganmifepaaGreatDoor
/- Blocks of eight cells. -/
namespace Go.Proofs.YtedmiganmifepaaGreatDoor
open Go.RowKit
/-- Eight cells of a block. -/
def Box8 (b : Nat) (v0 v1 v2 v3 v4 v5 v6 v7 : Value) (w : World) : Prop :=
  b < w.heap.size ∧ w.cell? ⟨b, 0, none⟩ = some v0 ∧ w.cell? ⟨b, 1, none⟩ = some v1 ∧ w.cell? ⟨b, 2, none⟩ = some v2 ∧ w.cell? ⟨b, 3, none⟩ = some v3 ∧ w.cell? ⟨b, 4, none⟩ = some v4 ∧ w.cell? ⟨b, 5, none⟩ = some v5 ∧ w.cell? ⟨b, 6, none⟩ = some v6 ∧ w.cell? ⟨b, 7, none⟩ = some v7
theorem Box8.below {b : Nat} {v0 v1 v2 v3 v4 v5 v6 v7 : Value} {w w' : World} (h : Box8 b v0 v1 v2 v3 v4 v5 v6 v7 w) (hb : Below w.heap.size w w') : Box8 b v0 v1 v2 v3 v4 v5 v6 v7 w' := by
  obtain ⟨h0, h1, h2, h3, h4, h5, h6, h7, h8⟩ := h
  exact ⟨Nat.lt_of_lt_of_le h0 hb.size, (hb.cell (p := ⟨b, 0, none⟩) h0).trans h1, (hb.cell (p := ⟨b, 1, none⟩) h0).trans h2, (hb.cell (p := ⟨b, 2, none⟩) h0).trans h3, (hb.cell (p := ⟨b, 3, none⟩) h0).trans h4, (hb.cell (p := ⟨b, 4, none⟩) h0).trans h5, (hb.cell (p := ⟨b, 5, none⟩) h0).trans h6, (hb.cell (p := ⟨b, 6, none⟩) h0).trans h7, (hb.cell (p := ⟨b, 7, none⟩) h0).trans h8⟩
theorem zero8_after {wr w5 : World} {v0 v1 v2 v3 v4 v5 v6 v7 : Value} {T : TypeId} (h : Below ((wr.alloc (.cells #[v0, v1, v2, v3, v4, v5, v6, v7] T)).drew).heap.size (wr.alloc (.cells #[v0, v1, v2, v3, v4, v5, v6, v7] T)).drew w5) :
    (w5.cell? ⟨wr.heap.size, 0, none⟩ = some v0 ∧ w5.cell? ⟨wr.heap.size, 1, none⟩ = some v1 ∧ w5.cell? ⟨wr.heap.size, 2, none⟩ = some v2 ∧ w5.cell? ⟨wr.heap.size, 3, none⟩ = some v3 ∧ w5.cell? ⟨wr.heap.size, 4, none⟩ = some v4 ∧ w5.cell? ⟨wr.heap.size, 5, none⟩ = some v5 ∧ w5.cell? ⟨wr.heap.size, 6, none⟩ = some v6 ∧ w5.cell? ⟨wr.heap.size, 7, none⟩ = some v7) ∧
    (∀ j, w5.frozen? ⟨wr.heap.size, j, none⟩ = false) ∧ w5.heap[wr.heap.size]? = some (.cells #[v0, v1, v2, v3, v4, v5, v6, v7] T (0, 0)) := by
  have hs : wr.heap.size < ((wr.alloc (.cells #[v0, v1, v2, v3, v4, v5, v6, v7] T)).drew).heap.size := by simp
  have hc : ∀ j, w5.cell? ⟨wr.heap.size, j, none⟩ = #[v0, v1, v2, v3, v4, v5, v6, v7][j]? := fun j => (h.cell (p := ⟨wr.heap.size, j, none⟩) hs).trans (World.cell?_alloc_mark wr _ _ _ j)
  refine ⟨⟨hc 0, hc 1, hc 2, hc 3, hc 4, hc 5, hc 6, hc 7⟩, fun j => ?_, (h.block _ hs).trans (heap_new wr _ _ rfl)⟩
  refine (h.frozen (p := ⟨wr.heap.size, j, none⟩) hs).trans ?_
  exact (World.frozen?_alloc_mark wr _ _ _ _ j).trans (by simp)
theorem heap_setN {w : World} {b j : Nat} {v : Value} {cs : Array Value} {T : TypeId} {m : Nat × Nat} (h : w.heap[b]? = some (.cells cs T m)) : (w.setCell ⟨b, j, none⟩ v).heap[b]? = some (.cells (cs.setIfInBounds j v) T m) := by
  simp [World.setCell, Array.getElem?_modify, h]
def set8 (w5 : World) (g : Nat) (v0 v1 v2 v3 v4 v5 v6 v7 : Value) : World := ((((((((w5.setCell ⟨g, 0, none⟩ v0).setCell ⟨g, 1, none⟩ v1).setCell ⟨g, 2, none⟩ v2).setCell ⟨g, 3, none⟩ v3).setCell ⟨g, 4, none⟩ v4).setCell ⟨g, 5, none⟩ v5).setCell ⟨g, 6, none⟩ v6).setCell ⟨g, 7, none⟩ v7)
theorem setCell_grown (w : World) (g j : Nat) (v : Value) : w.grownBy (w.setCell ⟨g, j, none⟩ v) (some g) :=
  ⟨rfl, rfl, rfl, by simp, fun k _ hne => Below.heap_setCell _ _ _ _ (by exact fun e => hne (by rw [e]))⟩
theorem set8_grown (w5 : World) (g : Nat) (v0 v1 v2 v3 v4 v5 v6 v7 : Value) : w5.grownBy (set8 w5 g v0 v1 v2 v3 v4 v5 v6 v7) (some g) := by
  have h0 := setCell_grown w5 g 0 v0
  have h1 := h0.trans (setCell_grown _ g 1 v1)
  have h2 := h1.trans (setCell_grown _ g 2 v2)
  have h3 := h2.trans (setCell_grown _ g 3 v3)
  have h4 := h3.trans (setCell_grown _ g 4 v4)
  have h5 := h4.trans (setCell_grown _ g 5 v5)
  have h6 := h5.trans (setCell_grown _ g 6 v6)
  have h7 := h6.trans (setCell_grown _ g 7 v7)
  unfold set8
  with_reducible exact h7
theorem set8_below {wr w5 : World} {g : Nat} (h : Below g wr w5) (v0 v1 v2 v3 v4 v5 v6 v7 : Value) : Below g wr (set8 w5 g v0 v1 v2 v3 v4 v5 v6 v7) := by
  unfold set8
  exact (((((((h.setCell (Nat.le_refl _) _).setCell (Nat.le_refl _) _).setCell (Nat.le_refl _) _).setCell (Nat.le_refl _) _).setCell (Nat.le_refl _) _).setCell (Nat.le_refl _) _).setCell (Nat.le_refl _) _).setCell (Nat.le_refl _) _
theorem set8_box {w5 : World} {g : Nat} {z0 z1 z2 z3 z4 z5 z6 z7 : Value} {T : TypeId} (h : w5.heap[g]? = some (.cells #[z0, z1, z2, z3, z4, z5, z6, z7] T (0, 0))) (v0 v1 v2 v3 v4 v5 v6 v7 : Value) : Box8 g v0 v1 v2 v3 v4 v5 v6 v7 (set8 w5 g v0 v1 v2 v3 v4 v5 v6 v7) := by
  have h0 := heap_setN (j := 0) (v := v0) h
  have h1 := heap_setN (j := 1) (v := v1) h0
  have h2 := heap_setN (j := 2) (v := v2) h1
  have h3 := heap_setN (j := 3) (v := v3) h2
  have h4 := heap_setN (j := 4) (v := v4) h3
  have h5 := heap_setN (j := 5) (v := v5) h4
  have h6 := heap_setN (j := 6) (v := v6) h5
  have h7 := heap_setN (j := 7) (v := v7) h6
  clear h0 h1 h2 h3 h4 h5 h6
  have e : (((((((((#[z0, z1, z2, z3, z4, z5, z6, z7] : Array Value).setIfInBounds 0 v0).setIfInBounds 1 v1).setIfInBounds 2 v2).setIfInBounds 3 v3).setIfInBounds 4 v4).setIfInBounds 5 v5).setIfInBounds 6 v6).setIfInBounds 7 v7) = #[v0, v1, v2, v3, v4, v5, v6, v7] := by simp only [List.setIfInBounds_toArray, List.set_cons_zero, List.set_cons_succ]
  rw [e] at h7
  have hs : set8 w5 g v0 v1 v2 v3 v4 v5 v6 v7 = set8 w5 g v0 v1 v2 v3 v4 v5 v6 v7 := rfl
  conv at hs => lhs; unfold set8
  rw [hs] at h7
  generalize set8 w5 g v0 v1 v2 v3 v4 v5 v6 v7 = X at *
  have hc : ∀ j, X.cell? ⟨g, j, none⟩ = #[v0, v1, v2, v3, v4, v5, v6, v7][j]? := fun j => (of_heap h7 j).1
  exact ⟨(of_heap h7 0).2.2, hc 0, hc 1, hc 2, hc 3, hc 4, hc 5, hc 6, hc 7⟩
end Go.Proofs.YtedmiganmifepaaGreatDoor
/- The document's dates: the walks of Of, Near. -/
namespace Go.Proofs.YtedmiganmifepaaGreatDoor
open Go.RowKit
set_option maxRecDepth 100000

/-- A date's cells in memory. -/
def DateAt (b : Nat) (Y Mo D h mi s : Int) (w : World) : Prop := w.heap[b]? = some (.cells #[.int .i64 Y, .int .i64 Mo, .int .i64 D, .int .i64 h, .int .i64 mi, .int .i64 s] 65 (0, 0))
theorem DateAt.cells {b : Nat} {Y Mo D h mi s : Int} {w : World} (x : DateAt b Y Mo D h mi s w) : w.cell? ⟨b, 0, none⟩ = some (.int .i64 Y) ∧ w.cell? ⟨b, 1, none⟩ = some (.int .i64 Mo) ∧ w.cell? ⟨b, 2, none⟩ = some (.int .i64 D) ∧ w.cell? ⟨b, 3, none⟩ = some (.int .i64 h) ∧ w.cell? ⟨b, 4, none⟩ = some (.int .i64 mi) ∧ w.cell? ⟨b, 5, none⟩ = some (.int .i64 s) ∧ b < w.heap.size :=
  ⟨(of_heap x 0).1, (of_heap x 1).1, (of_heap x 2).1, (of_heap x 3).1, (of_heap x 4).1, (of_heap x 5).1, (of_heap x 0).2.2⟩
theorem DateAt.frozen {b : Nat} {Y Mo D h mi s : Int} {w : World} (x : DateAt b Y Mo D h mi s w) : w.frozen? ⟨b, 0, none⟩ = false ∧ w.frozen? ⟨b, 1, none⟩ = false ∧ w.frozen? ⟨b, 2, none⟩ = false ∧ w.frozen? ⟨b, 3, none⟩ = false ∧ w.frozen? ⟨b, 4, none⟩ = false ∧ w.frozen? ⟨b, 5, none⟩ = false :=
  ⟨(of_heap x 0).2.1, (of_heap x 1).2.1, (of_heap x 2).2.1, (of_heap x 3).2.1, (of_heap x 4).2.1, (of_heap x 5).2.1⟩
theorem DateAt.below {b : Nat} {Y Mo D h mi s : Int} {w w' : World} (x : DateAt b Y Mo D h mi s w) (hb : Below w.heap.size w w') : DateAt b Y Mo D h mi s w' := (hb.block b x.cells.2.2.2.2.2.2).trans x
theorem DateAt.set0 {b : Nat} {Y Mo D h mi s : Int} {w : World} (x : DateAt b Y Mo D h mi s w) (v : Int) : DateAt b v Mo D h mi s (w.setCell ⟨b, 0, none⟩ (.int .i64 v)) := by
  unfold DateAt at *
  have := heap_setN (j := 0) (v := .int .i64 v) x
  simpa using this
theorem DateAt.set1 {b : Nat} {Y Mo D h mi s : Int} {w : World} (x : DateAt b Y Mo D h mi s w) (v : Int) : DateAt b Y v D h mi s (w.setCell ⟨b, 1, none⟩ (.int .i64 v)) := by
  unfold DateAt at *
  have := heap_setN (j := 1) (v := .int .i64 v) x
  simpa using this
theorem DateAt.set2 {b : Nat} {Y Mo D h mi s : Int} {w : World} (x : DateAt b Y Mo D h mi s w) (v : Int) : DateAt b Y Mo v h mi s (w.setCell ⟨b, 2, none⟩ (.int .i64 v)) := by
  unfold DateAt at *
  have := heap_setN (j := 2) (v := .int .i64 v) x
  simpa using this
theorem DateAt.oth {b : Nat} {Y Mo D h mi s : Int} {w : World} (x : DateAt b Y Mo D h mi s w) {c j : Nat} {v : Value} (hc : b ≠ c) : DateAt b Y Mo D h mi s (w.setCell ⟨c, j, none⟩ v) := (Below.heap_setCell w ⟨c, j, none⟩ v b hc).trans x
theorem dahead_mono {a b : Int} (h : a ≤ b) : dahead a ≤ dahead b := by unfold dahead; omega
theorem dyear_one (N y : Int) (hN : 0 ≤ N ∧ N ≤ 2932896) (_hy : 1970 ≤ y) (h1 : dahead y ≤ N) (h2 : N < dahead (y + 1)) : (dyearO N).1 = y := by
  have h := dyear_end 9000 N (1970 + N / 366) (by omega) (by omega) (by have := (dahead_ge (1970 + N / 366) (by omega)).2; omega)
  show dyear 9000 N (1970 + N / 366) = y
  generalize dyear 9000 N (1970 + N / 366) = Y at *
  rcases Int.lt_trichotomy Y y with hl | hl | hl
  · have := dahead_mono (a := Y + 1) (b := y) (by omega); omega
  · exact hl
  · have := dahead_mono (a := y + 1) (b := Y) (by omega); omega
set_option maxHeartbeats 16000000 in
theorem iof_any (t : Int) (ht : 0 ≤ t ∧ t ≤ 253402300799) (w : World) :
    Calls Tryz.prog 64 #[.int .i64 t] w fun e w' => ∃ mo da hh mm ss : Int, e = .returned (.agg #[.int .i64 (dyearO (t / 86400)).1, .int .i64 mo, .int .i64 da, .int .i64 hh, .int .i64 mm, .int .i64 ss]) ∧ Below w.heap.size w w' := by
  obtain ⟨N, hN⟩ : ∃ N, t / 86400 = N := ⟨_, rfl⟩
  obtain ⟨S, hS⟩ : ∃ S, t % 86400 = S := ⟨_, rfl⟩
  have hNb : 0 ≤ N ∧ N ≤ 2932896 := by omega
  have hSb : 0 ≤ S ∧ S < 86400 := by omega
  have e1 : t.tdiv 86400 = N := by rw [Int.tdiv_eq_ediv_of_nonneg ht.1]; exact hN
  have e2 : t.tmod 86400 = S := by rw [Int.tmod_eq_emod_of_nonneg ht.1]; exact hS
  have w1 : IntKind.i64.wrap N = N := by rw [IntKind.wrap_i64]; omega
  have w2 : IntKind.i64.wrap S = S := by rw [IntKind.wrap_i64]; omega
  obtain ⟨s1, hs1⟩ : ∃ x, S.tdiv 3600 = x := ⟨_, rfl⟩
  obtain ⟨s2, hs2⟩ : ∃ x, S.tdiv 60 = x := ⟨_, rfl⟩
  obtain ⟨s3, hs3⟩ : ∃ x, s2.tmod 60 = x := ⟨_, rfl⟩
  obtain ⟨s4, hs4⟩ : ∃ x, S.tmod 60 = x := ⟨_, rfl⟩
  have g1 : 0 ≤ s1 ∧ s1 ≤ 86400 := by rw [Int.tdiv_eq_ediv_of_nonneg hSb.1] at hs1; omega
  have g2 : 0 ≤ s2 ∧ s2 ≤ 86400 := by rw [Int.tdiv_eq_ediv_of_nonneg hSb.1] at hs2; omega
  have w3 : IntKind.i64.wrap s1 = s1 := by rw [IntKind.wrap_i64]; omega
  have w4 : IntKind.i64.wrap s2 = s2 := by rw [IntKind.wrap_i64]; omega
  have hdec : dahead 1970 = 0 := by decide
  rw [hN]
  clear hN hS
  obtain ⟨W1, hW1⟩ : ∃ W, w.alloc (.cells #[.int .i64 0, .int .i64 0, .int .i64 0, .int .i64 0, .int .i64 0, .int .i64 0] 65) = W := ⟨_, rfl⟩
  have b1 : Below w.heap.size w W1 := by rw [← hW1]; exact (Below.refl w.heap.size w).alloc (Nat.le_refl _) _
  have z1 : W1.heap.size = w.heap.size + 1 := by rw [← hW1]; simp
  have x1 : DateAt w.heap.size 0 0 0 0 0 0 W1 := by rw [← hW1]; exact heap_new w _ _ rfl
  obtain ⟨W2, hW2⟩ : ∃ W, W1.alloc (.cells #[.int .i64 1970, .int .i64 1, .int .i64 0, .int .i64 s1, .int .i64 s3, .int .i64 s4] 65) = W := ⟨_, rfl⟩
  have b2 : Below W1.heap.size W1 W2 := by rw [← hW2]; exact (Below.refl W1.heap.size W1).alloc (Nat.le_refl _) _
  have x2 : DateAt (w.heap.size + 1) 1970 1 0 s1 s3 s4 W2 := by rw [← hW2]; exact heap_new W1 _ _ z1
  have y1 := x1.below b2
  have hB2 := bt b1 b2
  have hWW : (w.alloc (.cells #[.int .i64 0, .int .i64 0, .int .i64 0, .int .i64 0, .int .i64 0, .int .i64 0] 65)).alloc (.cells #[.int .i64 1970, .int .i64 1, .int .i64 0, .int .i64 s1, .int .i64 s3, .int .i64 s4] 65) = W2 := by rw [hW1]; exact hW2
  have HWW := Lib.hid hWW; have X2 := Lib.hid x2; have Y1 := Lib.hid y1; have HB2 := Lib.hid hB2
  clear hW1 hW2 x1 x2 y1 hB2 b1 b2 z1 hWW ht
  go_enter Tryz.func64, Tryz.ntmps64
  go_wp2_with fail
  rw [HWW.out]
  go_loopw [3] (fun n wr => ∃ (y z : Int), 1970 ≤ y ∧ y ≤ 10000 ∧ n = .int .i64 z ∧ Hid (z = N - dahead y) ∧ 0 ≤ z ∧ z ≤ 3000000 ∧ Hid (DateAt (w.heap.size + 1) y 1 0 s1 s3 s4 wr) ∧ Hid (DateAt w.heap.size 0 0 0 0 0 0 wr) ∧ Hid (Below w.heap.size w wr)) (fun n _ => (intOf n).toNat)
  case atStart => exact ⟨1970, N, by omega, by omega, rfl, Lib.hid (by rw [hdec]; omega), by omega, by omega, X2, Y1, HB2⟩
  case round =>
    clear X2 Y1 HB2
    obtain ⟨y, z, hy1, hy2, rfl, HZ, hz0, hz1, HD, HR, HB⟩ := hrel
    have hz := HZ.out
    have hge := dahead_ge y hy1
    have hup := dahead_leap y
    obtain ⟨d0, d1, d2, d3, d4, d5, dl⟩ := HD.out.cells
    obtain ⟨q0, q1, q2, q3, q4, q5⟩ := HD.out.frozen
    have kl := ileap_any y (by omega) wr
    have hyw : IntKind.i64.wrap (y + 1) = y + 1 := by rw [IntKind.wrap_i64]; omega
    cases hb : dleap y
    all_goals (
      rw [hb] at kl hup
      simp only [Bool.false_eq_true, if_false, if_pos] at hup
      have hlb := hb
      have KL := Lib.hid kl
      clear kl hb)
    · by_cases hlt : z < 365
      · have t1 : decide (z < 365) = true := by simpa using hlt
        have hyo := dyear_one N y hNb hy1 (by omega) (by omega)
        have hzb : z < dmons y 12 := by rw [dmons_12, hlb]; rw [if_neg (by simp)]; omega
        have HYO := Lib.hid hyo
        have HZB := Lib.hid hzb
        clear hup hge hyo hlb hz hzb
        go_wp2_with fail
        (with_reducible refine KL.out.mono ?_)
        rintro e wq ⟨rfl, rfl⟩
        go_wp2_with fail
        obtain ⟨wo, rfl⟩ : ∃ wo : World, wo = wq := ⟨_, rfl⟩
        clear d0 d1 d2 d3 d4 d5 dl q0 q1 q2 q3 q4 q5
        go_loopw [3] (fun n wr => ∃ (m : Nat) (v : Int), m < 12 ∧ n = .int .i64 v ∧ Hid (v = z - dmons y m) ∧ 0 ≤ v ∧ v ≤ 3000000 ∧ Hid (DateAt (w.heap.size + 1) y ((m : Int) + 1) 0 s1 s3 s4 wr) ∧ Hid (DateAt w.heap.size 0 0 0 0 0 0 wr) ∧ Hid (Below w.heap.size w wr)) (fun n _ => (intOf n).toNat)
        case atStart => exact ⟨0, z, by omega, rfl, Lib.hid (by simp [dmons]), by omega, by omega, HD, HR, HB⟩
        case round =>
          clear HD HR HB
          obtain ⟨m, v, hm, rfl, HV, hv0, hv1, HD, HR, HB⟩ := hrel
          obtain ⟨d0, d1, d2, d3, d4, d5, dl⟩ := HD.out.cells
          have kd := fun W => idays_any y ((m : Int) + 1) (by omega) (by omega) W
          have hst : dmons y (m + 1) = dmons y m + dlong y ((m : Int) + 1) := rfl
          have hlen := dlong_le y ((m : Int) + 1)
          generalize hL : dlong y ((m : Int) + 1) = L at *
          by_cases hge : L ≤ v
          · have hm2 : m + 1 < 12 := by
              rcases (by omega : m + 1 < 12 ∨ m = 11) with h | h
              · exact h
              · exfalso
                subst h
                have h1 := HV.out; have h2 := HZB.out
                have h3 : dmons y 12 = dmons y 11 + L := hst
                omega
            have t2 : decide (v ≥ L) = true := by simpa using hge
            have t3 : decide (L ≤ v) = true := by simpa using hge
            have hvw : IntKind.i64.wrap (v - L) = v - L := by rw [IntKind.wrap_i64]; omega
            have hmw : IntKind.i64.wrap ((m : Int) + 1 + 1) = ((m + 1 : Nat) : Int) + 1 := by rw [IntKind.wrap_i64]; omega
            have HV2 : Hid (v - L = z - dmons y (m + 1)) := Lib.hid (by have := HV.out; omega)
            have KD := Lib.hid kd
            clear kd hst hL HV
            go_wp2_with fail
            (with_reducible refine (KD.out _).mono ?_)
            rintro e w2 ⟨rfl, hb2⟩
            have HD2 := Lib.hid (HD.out.below hb2)
            clear d0 d1 d2 d3 d4 d5 dl
            obtain ⟨d0, d1, d2, d3, d4, d5, dl⟩ := HD2.out.cells
            go_wp2_with fail
            (with_reducible refine (KD.out _).mono ?_)
            rintro e w3 ⟨rfl, hb3⟩
            have HD3 := Lib.hid (HD2.out.below hb3)
            have HR3 := Lib.hid ((HR.out.below hb2).below hb3)
            have HB3 := Lib.hid (bt (bt HB.out hb2) hb3)
            clear d0 d1 d2 d3 d4 d5 dl HD HD2 HR HB hb2 hb3
            obtain ⟨d0, d1, d2, d3, d4, d5, dl⟩ := HD3.out.cells
            obtain ⟨q0, q1, q2, q3, q4, q5⟩ := HD3.out.frozen
            have HD4 := Lib.hid (HD3.out.set1 (((m + 1 : Nat) : Int) + 1)); have HR4 := Lib.hid (HR3.out.oth (c := w.heap.size + 1) (j := 1) (v := .int .i64 (((m + 1 : Nat) : Int) + 1)) (by omega)); have HB4 := Lib.hid (HB3.out.setCell (p := ⟨w.heap.size + 1, 1, none⟩) (Nat.le_succ _) (.int .i64 (((m + 1 : Nat) : Int) + 1)))
            go_wp2
            go_roundw
            case rel => exact ⟨m + 1, v - L, hm2, rfl, HV2, by omega, by omega, HD4, HR4, HB4⟩
            case measure => simp [intOf]; omega
          · have t2 : decide (v ≥ L) = false := by simpa using hge
            have t3 : decide (L ≤ v) = false := by simpa using hge
            have hvw : IntKind.i64.wrap (v + 1) = v + 1 := by rw [IntKind.wrap_i64]; omega
            have KD := Lib.hid kd
            clear kd hst hL HV
            go_wp2_with fail
            (with_reducible refine (KD.out _).mono ?_)
            rintro e w2 ⟨rfl, hb2⟩
            have HD2 := Lib.hid (HD.out.below hb2)
            have HR2 := Lib.hid (HR.out.below hb2)
            have HB2 := Lib.hid (bt HB.out hb2)
            clear d0 d1 d2 d3 d4 d5 dl HD HR HB hb2
            obtain ⟨d0, d1, d2, d3, d4, d5, dl⟩ := HD2.out.cells
            obtain ⟨q0, q1, q2, q3, q4, q5⟩ := HD2.out.frozen
            go_upto_region 14 with (fail)
            have HD3 := Lib.hid (HD2.out.set2 (v + 1)); have HR3 := Lib.hid (HR2.out.oth (c := w.heap.size + 1) (j := 2) (v := .int .i64 (v + 1)) (by omega)); have HB3 := Lib.hid (HB2.out.setCell (p := ⟨w.heap.size + 1, 2, none⟩) (Nat.le_succ _) (.int .i64 (v + 1)))
            obtain ⟨WZ, hWZ⟩ : ∃ W, w2.setCell ⟨w.heap.size + 1, 2, none⟩ (.int .i64 (v + 1)) = W := ⟨_, rfl⟩
            rw [hWZ] at HD3 HR3 HB3
            have HWZ := Lib.hid hWZ
            clear d0 d1 d2 d3 d4 d5 dl q0 q1 q2 q3 q4 q5 hWZ HD2 HR2 HB2
            rw [HWZ.out]
            obtain ⟨d0, d1, d2, d3, d4, d5, dl⟩ := HD3.out.cells
            obtain ⟨g0, g1, g2, g3, g4, g5, gl⟩ := HR3.out.cells
            obtain ⟨q0, q1, q2, q3, q4, q5⟩ := HR3.out.frozen
            go_wp2_with fail
            refine bodyPost_ret_by (v := .agg #[.int .i64 y, .int .i64 ((m : Int) + 1), .int .i64 (v + 1), .int .i64 s1, .int .i64 s3, .int .i64 s4]) ?_ rfl ?_
            · rw [results_cell_one rfl]
              go_simp
            · exact ⟨(m : Int) + 1, v + 1, s1, s3, s4, by rw [HYO.out], (((((HB3.out.setCell (p := ⟨w.heap.size, 0, none⟩) (Nat.le_refl _) _).setCell (p := ⟨w.heap.size, 1, none⟩) (Nat.le_refl _) _).setCell (p := ⟨w.heap.size, 2, none⟩) (Nat.le_refl _) _).setCell (p := ⟨w.heap.size, 3, none⟩) (Nat.le_refl _) _).setCell (p := ⟨w.heap.size, 4, none⟩) (Nat.le_refl _) _).setCell (p := ⟨w.heap.size, 5, none⟩) (Nat.le_refl _) _⟩
      · have t1 : decide (z < 365) = false := by simpa using hlt
        have hzw : IntKind.i64.wrap (z - 365) = z - 365 := by rw [IntKind.wrap_i64]; omega
        have HZ2 : Hid (z - 365 = N - dahead (y + 1)) := Lib.hid (by omega)
        have hy3 : y + 1 ≤ 10000 := by
          rcases (by omega : y + 1 ≤ 10000 ∨ y = 10000) with h | h
          · exact h
          · exfalso
            subst h
            have h9 : dahead 10000 = 2932897 := by decide
            omega
        have HD2 := Lib.hid (HD.out.set0 (y + 1)); have HR2 := Lib.hid (HR.out.oth (c := w.heap.size + 1) (j := 0) (v := .int .i64 (y + 1)) (by omega)); have HB2 := Lib.hid (HB.out.setCell (p := ⟨w.heap.size + 1, 0, none⟩) (Nat.le_succ _) (.int .i64 (y + 1)))
        clear hup hge HZ hz hlb
        go_wp2_with fail
        (with_reducible refine KL.out.mono ?_)
        rintro e wq ⟨rfl, rfl⟩
        go_wp2
        go_roundw
        case rel => exact ⟨y + 1, z - 365, by omega, hy3, rfl, HZ2, by omega, by omega, HD2, HR2, HB2⟩
        case measure => simp [intOf]; omega
    · by_cases hlt : z < 366
      · have t1 : decide (z < 366) = true := by simpa using hlt
        have hyo := dyear_one N y hNb hy1 (by omega) (by omega)
        have hzb : z < dmons y 12 := by rw [dmons_12, hlb]; rw [if_pos rfl]; omega
        have HYO := Lib.hid hyo
        have HZB := Lib.hid hzb
        clear hup hge hyo hlb hz hzb
        go_wp2_with fail
        (with_reducible refine KL.out.mono ?_)
        rintro e wq ⟨rfl, rfl⟩
        go_wp2_with fail
        obtain ⟨wo, rfl⟩ : ∃ wo : World, wo = wq := ⟨_, rfl⟩
        clear d0 d1 d2 d3 d4 d5 dl q0 q1 q2 q3 q4 q5
        go_loopw [3] (fun n wr => ∃ (m : Nat) (v : Int), m < 12 ∧ n = .int .i64 v ∧ Hid (v = z - dmons y m) ∧ 0 ≤ v ∧ v ≤ 3000000 ∧ Hid (DateAt (w.heap.size + 1) y ((m : Int) + 1) 0 s1 s3 s4 wr) ∧ Hid (DateAt w.heap.size 0 0 0 0 0 0 wr) ∧ Hid (Below w.heap.size w wr)) (fun n _ => (intOf n).toNat)
        case atStart => exact ⟨0, z, by omega, rfl, Lib.hid (by simp [dmons]), by omega, by omega, HD, HR, HB⟩
        case round =>
          clear HD HR HB
          obtain ⟨m, v, hm, rfl, HV, hv0, hv1, HD, HR, HB⟩ := hrel
          obtain ⟨d0, d1, d2, d3, d4, d5, dl⟩ := HD.out.cells
          have kd := fun W => idays_any y ((m : Int) + 1) (by omega) (by omega) W
          have hst : dmons y (m + 1) = dmons y m + dlong y ((m : Int) + 1) := rfl
          have hlen := dlong_le y ((m : Int) + 1)
          generalize hL : dlong y ((m : Int) + 1) = L at *
          by_cases hge : L ≤ v
          · have hm2 : m + 1 < 12 := by
              rcases (by omega : m + 1 < 12 ∨ m = 11) with h | h
              · exact h
              · exfalso
                subst h
                have h1 := HV.out; have h2 := HZB.out
                have h3 : dmons y 12 = dmons y 11 + L := hst
                omega
            have t2 : decide (v ≥ L) = true := by simpa using hge
            have t3 : decide (L ≤ v) = true := by simpa using hge
            have hvw : IntKind.i64.wrap (v - L) = v - L := by rw [IntKind.wrap_i64]; omega
            have hmw : IntKind.i64.wrap ((m : Int) + 1 + 1) = ((m + 1 : Nat) : Int) + 1 := by rw [IntKind.wrap_i64]; omega
            have HV2 : Hid (v - L = z - dmons y (m + 1)) := Lib.hid (by have := HV.out; omega)
            have KD := Lib.hid kd
            clear kd hst hL HV
            go_wp2_with fail
            (with_reducible refine (KD.out _).mono ?_)
            rintro e w2 ⟨rfl, hb2⟩
            have HD2 := Lib.hid (HD.out.below hb2)
            clear d0 d1 d2 d3 d4 d5 dl
            obtain ⟨d0, d1, d2, d3, d4, d5, dl⟩ := HD2.out.cells
            go_wp2_with fail
            (with_reducible refine (KD.out _).mono ?_)
            rintro e w3 ⟨rfl, hb3⟩
            have HD3 := Lib.hid (HD2.out.below hb3)
            have HR3 := Lib.hid ((HR.out.below hb2).below hb3)
            have HB3 := Lib.hid (bt (bt HB.out hb2) hb3)
            clear d0 d1 d2 d3 d4 d5 dl HD HD2 HR HB hb2 hb3
            obtain ⟨d0, d1, d2, d3, d4, d5, dl⟩ := HD3.out.cells
            obtain ⟨q0, q1, q2, q3, q4, q5⟩ := HD3.out.frozen
            have HD4 := Lib.hid (HD3.out.set1 (((m + 1 : Nat) : Int) + 1)); have HR4 := Lib.hid (HR3.out.oth (c := w.heap.size + 1) (j := 1) (v := .int .i64 (((m + 1 : Nat) : Int) + 1)) (by omega)); have HB4 := Lib.hid (HB3.out.setCell (p := ⟨w.heap.size + 1, 1, none⟩) (Nat.le_succ _) (.int .i64 (((m + 1 : Nat) : Int) + 1)))
            go_wp2
            go_roundw
            case rel => exact ⟨m + 1, v - L, hm2, rfl, HV2, by omega, by omega, HD4, HR4, HB4⟩
            case measure => simp [intOf]; omega
          · have t2 : decide (v ≥ L) = false := by simpa using hge
            have t3 : decide (L ≤ v) = false := by simpa using hge
            have hvw : IntKind.i64.wrap (v + 1) = v + 1 := by rw [IntKind.wrap_i64]; omega
            have KD := Lib.hid kd
            clear kd hst hL HV
            go_wp2_with fail
            (with_reducible refine (KD.out _).mono ?_)
            rintro e w2 ⟨rfl, hb2⟩
            have HD2 := Lib.hid (HD.out.below hb2)
            have HR2 := Lib.hid (HR.out.below hb2)
            have HB2 := Lib.hid (bt HB.out hb2)
            clear d0 d1 d2 d3 d4 d5 dl HD HR HB hb2
            obtain ⟨d0, d1, d2, d3, d4, d5, dl⟩ := HD2.out.cells
            obtain ⟨q0, q1, q2, q3, q4, q5⟩ := HD2.out.frozen
            go_upto_region 14 with (fail)
            have HD3 := Lib.hid (HD2.out.set2 (v + 1)); have HR3 := Lib.hid (HR2.out.oth (c := w.heap.size + 1) (j := 2) (v := .int .i64 (v + 1)) (by omega)); have HB3 := Lib.hid (HB2.out.setCell (p := ⟨w.heap.size + 1, 2, none⟩) (Nat.le_succ _) (.int .i64 (v + 1)))
            obtain ⟨WZ, hWZ⟩ : ∃ W, w2.setCell ⟨w.heap.size + 1, 2, none⟩ (.int .i64 (v + 1)) = W := ⟨_, rfl⟩
            rw [hWZ] at HD3 HR3 HB3
            have HWZ := Lib.hid hWZ
            clear d0 d1 d2 d3 d4 d5 dl q0 q1 q2 q3 q4 q5 hWZ HD2 HR2 HB2
            rw [HWZ.out]
            obtain ⟨d0, d1, d2, d3, d4, d5, dl⟩ := HD3.out.cells
            obtain ⟨g0, g1, g2, g3, g4, g5, gl⟩ := HR3.out.cells
            obtain ⟨q0, q1, q2, q3, q4, q5⟩ := HR3.out.frozen
            go_wp2_with fail
            refine bodyPost_ret_by (v := .agg #[.int .i64 y, .int .i64 ((m : Int) + 1), .int .i64 (v + 1), .int .i64 s1, .int .i64 s3, .int .i64 s4]) ?_ rfl ?_
            · rw [results_cell_one rfl]
              go_simp
            · exact ⟨(m : Int) + 1, v + 1, s1, s3, s4, by rw [HYO.out], (((((HB3.out.setCell (p := ⟨w.heap.size, 0, none⟩) (Nat.le_refl _) _).setCell (p := ⟨w.heap.size, 1, none⟩) (Nat.le_refl _) _).setCell (p := ⟨w.heap.size, 2, none⟩) (Nat.le_refl _) _).setCell (p := ⟨w.heap.size, 3, none⟩) (Nat.le_refl _) _).setCell (p := ⟨w.heap.size, 4, none⟩) (Nat.le_refl _) _).setCell (p := ⟨w.heap.size, 5, none⟩) (Nat.le_refl _) _⟩
      · have t1 : decide (z < 366) = false := by simpa using hlt
        have hzw : IntKind.i64.wrap (z - 366) = z - 366 := by rw [IntKind.wrap_i64]; omega
        have HZ2 : Hid (z - 366 = N - dahead (y + 1)) := Lib.hid (by omega)
        have hy3 : y + 1 ≤ 10000 := by
          rcases (by omega : y + 1 ≤ 10000 ∨ y = 10000) with h | h
          · exact h
          · exfalso
            subst h
            have h9 : dahead 10000 = 2932897 := by decide
            omega
        have HD2 := Lib.hid (HD.out.set0 (y + 1)); have HR2 := Lib.hid (HR.out.oth (c := w.heap.size + 1) (j := 0) (v := .int .i64 (y + 1)) (by omega)); have HB2 := Lib.hid (HB.out.setCell (p := ⟨w.heap.size + 1, 0, none⟩) (Nat.le_succ _) (.int .i64 (y + 1)))
        clear hup hge HZ hz hlb
        go_wp2_with fail
        (with_reducible refine KL.out.mono ?_)
        rintro e wq ⟨rfl, rfl⟩
        go_wp2
        go_roundw
        case rel => exact ⟨y + 1, z - 366, by omega, hy3, rfl, HZ2, by omega, by omega, HD2, HR2, HB2⟩
        case measure => simp [intOf]; omega
set_option maxHeartbeats 8000000 in
theorem inear_any (dg now : Int) (hd : 0 ≤ dg ∧ dg ≤ 99) (w : World) :
    Calls Tryz.prog 41 #[.int .i64 dg, .int .i64 now] w fun e w' => e = .returned (.int .i64 (rnear dg now)) ∧ Below w.heap.size w w' := by
  obtain ⟨T, hT⟩ : ∃ T, max 0 (min now 253402300799) = T := ⟨_, rfl⟩
  have hTb : 0 ≤ T ∧ T ≤ 253402300799 := by omega
  have ko := fun W => iof_any T hTb W
  have hok := dyearO_ok (T / 86400) (by omega)
  have hr0 : rnear dg now = ((dyearO (T / 86400)).1 + 50) - ((dyearO (T / 86400)).1 + 50 - dg) % 100 := by unfold rnear dnow; rw [hT]
  rw [hr0]
  generalize (dyearO (T / 86400)).1 = Y at *
  have hY : 1970 ≤ Y ∧ Y ≤ 9999 := ⟨hok.1, hok.2.1⟩
  obtain ⟨q, hq⟩ : ∃ q : Nat, (Y + 50 - dg) % 100 = q := ⟨((Y + 50 - dg) % 100).toNat, by omega⟩
  rw [hq]
  have hq2 : q < 100 := by omega
  have hw1 : IntKind.i64.wrap (Y + 50) = Y + 50 := by rw [IntKind.wrap_i64]; omega
  have HQ := Lib.hid hq
  have KO := Lib.hid ko
  clear hr0 hok hq ko
  have key : ∀ x : Int, x = T → (∀ W, Below w.heap.size w W → True) → True := fun _ _ _ => trivial
  clear key
  have main : ∀ b1 b2 : Bool, decide (now < 0) = b1 → decide ((bif b1 then 0 else now) > 253402300799) = b2 → (bif b2 then 253402300799 else (bif b1 then 0 else now)) = T → Calls Tryz.prog 41 #[.int .i64 dg, .int .i64 now] w fun e w' => e = .returned (.int .i64 (Y + 50 - q)) ∧ Below w.heap.size w w' := by
    intro b1 b2 t1 t2 t3
    cases b1 <;> cases b2
    all_goals simp only [cond_true, cond_false] at t2 t3
    all_goals try (simp at t2; done)
    all_goals (
      subst t3
      clear hT
      go_enter Tryz.func41, Tryz.ntmps41
      go_wp2_with fail
      (with_reducible refine (KO.out _).mono ?_)
      rintro e w2 ⟨mo, da, hh, mm, ss, rfl, hb2⟩
      have hfd : ∀ w : World, (Instr.field 65 (.agg #[.int .i64 Y, .int .i64 mo, .int .i64 da, .int .i64 hh, .int .i64 mm, .int .i64 ss]) 0).run Tryz.prog w = .ok (.int .i64 Y) w := fun _ => by kernel_rfl
      go_wp2_with fail
      go_loopw [5] (fun v wr => ∃ j : Nat, j ≤ q ∧ v = .int .i64 (Y + 50 - j) ∧ wr = w2) (fun v _ => (intOf v).toNat)
      case atStart => exact ⟨0, Nat.zero_le _, by simp, rfl⟩
      case round =>
        obtain ⟨j, hj, rfl, rfl⟩ := hrel
        have e1 : (Y + 50 - (j : Int)).tmod 100 = (Y + 50 - (j : Int)) % 100 := Int.tmod_eq_emod_of_nonneg (by omega)
        have hqq := HQ.out
        by_cases he : j < q
        · have t5 : ((Y + 50 - (j : Int)) % 100 == dg) = false := by rw [beq_eq_false_iff_ne]; omega
          have t6 : ((Y + 50 - (j : Int)) % 100 != dg) = true := by simp [bne, t5]
          have t7 : ((Y + 50 - (j : Int)).tmod 100 == dg) = false := by rw [e1]; exact t5
          have t8 : ((Y + 50 - (j : Int)).tmod 100 != dg) = true := by simp [bne, t7]
          have hw2 : IntKind.i64.wrap (Y + 50 - (j : Int) - 1) = Y + 50 - ((j + 1 : Nat) : Int) := by rw [IntKind.wrap_i64]; omega
          clear e1 hqq
          go_wp2
          go_roundw
          case rel => exact ⟨j + 1, he, rfl, trivial⟩
          case measure => simp [intOf]; omega
        · have hje : j = q := by omega
          subst hje
          have t5 : ((Y + 50 - (j : Int)) % 100 == dg) = true := by rw [beq_iff_eq]; omega
          have t6 : ((Y + 50 - (j : Int)) % 100 != dg) = false := by simp [bne, t5]
          have t7 : ((Y + 50 - (j : Int)).tmod 100 == dg) = true := by rw [e1]; exact t5
          have t8 : ((Y + 50 - (j : Int)).tmod 100 != dg) = false := by simp [bne, t7]
          clear e1 hqq
          go_wp2
          go_ret
          exact ⟨rfl, hb2⟩)
  refine main _ _ rfl rfl ?_
  by_cases h1 : now < 0
  · have : decide (now < 0) = true := by simpa using h1
    rw [this, cond_true, show decide ((0 : Int) > 253402300799) = false from by decide, cond_false]; omega
  · have : decide (now < 0) = false := by simpa using h1
    rw [this, cond_false]
    by_cases h2 : now > 253402300799
    · have : decide (now > 253402300799) = true := by simpa using h2
      rw [this, cond_true]; omega
    · have : decide (now > 253402300799) = false := by simpa using h2
      rw [this, cond_false]; omega
end Go.Proofs.YtedmiganmifepaaGreatDoor
