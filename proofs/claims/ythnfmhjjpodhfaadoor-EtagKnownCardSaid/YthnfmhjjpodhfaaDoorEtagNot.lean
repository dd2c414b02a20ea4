/- The walk of etag.NotModified. -/
import Derived.Test.YthnfmhjjpodhfaaDoorEtagList
import Derived.Test.YthnfmhjjpodhfaaDoorEtagB
import Derived.Test.YthnfmhjjpodhfaaDoorGet
import Derived.Test.YthnfmhjjpodhfaaDoorDate8
import Derived.Laws.EntriesVeiled
namespace Go.Proofs.YthnfmhjjpodhfaaDoor
open Go.RowKit
set_option maxRecDepth 100000

/-- The date that a field tells. -/
def momL (xs : List Fld) (name : List UInt8) (now : Int) : Int × Bool :=
  ((dateP (getL xs name).1 now).1, (getL xs name).2 && (dateP (getL xs name).1 now).2 == 0)
set_option maxHeartbeats 4000000 in
theorem moment_any (A : Option Addr) (n c : Nat) (xs : List Fld) (name : ByteArray) (now : Int) (w : World) (hE : DEnv w) (hr : Rd A n 2 (fldsV xs) w) (hn : n ≤ 1000000) (hs : sumF xs ≤ 1000000) (hname : name.size ≤ 1000000) :
    Calls Tryd.prog 34 #[.slice A n c, .string name, .int .i64 now] w fun e w' => e = .returned (.tuple #[.int .i64 (momL xs name.data.toList now).1, .bool (momL xs name.data.toList now).2]) ∧ Below w.heap.size w w' := by
  have k1 := get_any A n c xs name w hr hn hs hname
  have k2 := fun W (hb : Below w.heap.size w W) => dparse_any ⟨(getL xs name.data.toList).1.toArray⟩ now W (hE.below hb)
  simp only at k2
  unfold momL
  simp only
  unfold getV at k1
  generalize getL xs name.data.toList = g at *
  obtain ⟨gv, gi⟩ := g
  simp only at k1 k2 ⊢
  generalize dateP gv now = r at *
  obtain ⟨t, er⟩ := r
  simp only at k2 ⊢
  have K1 := Lib.hid k1; have K2 := Lib.hid k2; clear k1 k2 hr hs hE
  cases gi <;> cases hz : (er == 0)
  all_goals
    go_enter Tryd.func34, Tryd.ntmps34
    go_wp2_with fail
    (with_reducible refine K1.out.mono ?_)
    rintro e w1 ⟨rfl, hb1⟩
    have k3 := K2.out w1 hb1
    have K3 := Lib.hid k3; clear k3
    go_wp2_with fail
    (with_reducible refine K3.out.mono ?_)
    rintro e w2 ⟨rfl, hb2⟩
    go_wp2
    go_ret2
    exact ⟨rfl, bt hb1 hb2⟩

set_option maxHeartbeats 1000000 in
theorem notf_any (p own : ByteArray) (T : Nat) (w : World) (hp : p.size ≤ 8000) (ho : own.size ≤ 8000) (hT : w.cell? ⟨T, 0, none⟩ = some (.string own)) :
    Calls Tryd.prog 33 #[.string p, .pointer (some ⟨T, 0, none⟩)] w fun e w' => e = .returned (.bool ((ent p).same (ent own))) ∧ Below w.heap.size w w' := by
  have k1 := weak_any p own w hp ho
  generalize (ent p).same (ent own) = r at *
  have K1 := Lib.hid k1; clear k1
  go_enter Tryd.func33, Tryd.ntmps33
  go_wp2_with fail
  (with_reducible refine K1.out.mono ?_)
  rintro e w1 ⟨rfl, hb1⟩
  go_wp2
  go_ret
  exact ⟨rfl, hb1⟩

/-- Is one of them as the other says? -/
def anyE (ls : List (List UInt8)) (own : ByteArray) : Bool := ls.any fun p => (ent ⟨p.toArray⟩).same (ent own)
set_option maxHeartbeats 2000000 in
theorem indexNot_any (A : Option Addr) (n c : Nat) (ls : List (List UInt8)) (own : ByteArray) (T : Nat) (w : World) (hr : Rd A n 1 (strsV ls) w) (hn : n ≤ 1000000) (hl : ∀ x ∈ ls, x.length ≤ 8000) (ho : own.size ≤ 8000) (hT : w.cell? ⟨T, 0, none⟩ = some (.string own)) (hTw : T < w.heap.size) :
    Calls Tryd.prog 38 #[.slice A n c, .func (.func 33) #[] #[.pointer (some ⟨T, 0, none⟩)]] w fun e w' => ∃ i : Int, e = .returned (.int .i64 i) ∧ decide (0 ≤ i) = anyE ls own ∧ Below w.heap.size w w' := by
  obtain rfl := hr.str
  have HR := Lib.hid hr; have HL := Lib.hid hl; clear hr hl
  have HC := Lib.hid (show ∀ p : List UInt8, p.length ≤ 8000 → ∀ W, Below w.heap.size w W → Calls Tryd.prog 33 #[.string ⟨p.toArray⟩, .pointer (some ⟨T, 0, none⟩)] W fun e w' => e = .returned (.bool ((ent ⟨p.toArray⟩).same (ent own))) ∧ Below W.heap.size W w' from
    fun p hp W hb => notf_any ⟨p.toArray⟩ own T W (by rw [Lib.size_eq]; exact hp) ho ((hb.cell (p := ⟨T, 0, none⟩) hTw).trans hT))
  clear hT
  go_enter Tryd.func38, Tryd.ntmps38
  go_wp2_with fail
  go_loopw [8] (fun i wr => ∃ k : Nat, k ≤ ls.length ∧ i = .int .i64 k ∧ Hid (anyE (ls.take k) own = false) ∧ Below w.heap.size w wr) (fun i _ => ls.length - (intOf i).toNat)
  case atStart => exact ⟨0, Nat.zero_le _, rfl, Lib.hid rfl, Below.refl _ _⟩
  case round =>
    obtain ⟨k, hk, rfl, HA, hbw⟩ := hrel
    by_cases hlt : k < ls.length
    · obtain ⟨b, o, rfl, hl, c1⟩ := (HR.out.below hbw).str_at (k := k) hlt
      have hv := HL.out ls[k] (List.getElem_mem _)
      have hbad : (ent ⟨ls[k].toArray⟩).same (ent own) = true → Hid (decide ((0 : Int) ≤ (k : Int)) = anyE ls own) := by
        intro h
        refine Lib.hid ?_
        have : anyE ls own = true := by unfold anyE; rw [List.any_eq_true]; exact ⟨ls[k], List.getElem_mem _, h⟩
        rw [this]; simp
      have hgood : (ent ⟨ls[k].toArray⟩).same (ent own) = false → Hid (anyE (ls.take (k + 1)) own = false) := by
        intro h
        refine Lib.hid ?_
        have h0 := HA.out
        unfold anyE at h0 ⊢
        rw [List.take_succ_eq_append_getElem hlt, List.any_append, h0]
        simp [h]
      generalize ls[k] = p at *
      have k1 := HC.out p hv wr hbw
      have HBAD := Lib.hid hbad; have HGOOD := Lib.hid hgood; clear hbad hgood HA
      cases hq : (ent ⟨p.toArray⟩).same (ent own)
      · rw [hq] at k1
        have hf := HGOOD.out hq
        have K1 := Lib.hid k1; clear k1 hq
        go_wp2_with fail
        (with_reducible refine K1.out.mono ?_)
        rintro e w1 ⟨rfl, hb1⟩
        go_wp2
        go_roundw
        case rel => exact ⟨k + 1, by omega, by go_num, hf, bt hbw hb1⟩
        case measure => simp [intOf]; omega
      · rw [hq] at k1
        have hf := HBAD.out hq
        have K1 := Lib.hid k1; clear k1 hq
        go_wp2_with fail
        (with_reducible refine K1.out.mono ?_)
        rintro e w1 ⟨rfl, hb1⟩
        go_wp2
        go_ret
        exact ⟨k, rfl, hf.out, bt hbw hb1⟩
    · have hke : k = ls.length := by omega
      subst hke
      have ha := HA.out
      rw [List.take_length] at ha
      have HA2 := Lib.hid ha; clear ha HA
      go_wp2
      go_ret
      exact ⟨-1, rfl, by rw [HA2.out]; rfl, hbw⟩
set_option maxHeartbeats 1000000 in
theorem containsNot_any (A : Option Addr) (n c : Nat) (ls : List (List UInt8)) (own : ByteArray) (T : Nat) (w : World) (hr : Rd A n 1 (strsV ls) w) (hn : n ≤ 1000000) (hl : ∀ x ∈ ls, x.length ≤ 8000) (ho : own.size ≤ 8000) (hT : w.cell? ⟨T, 0, none⟩ = some (.string own)) (hTw : T < w.heap.size) :
    Calls Tryd.prog 22 #[.slice A n c, .func (.func 33) #[] #[.pointer (some ⟨T, 0, none⟩)]] w fun e w' => e = .returned (.bool (anyE ls own)) ∧ Below w.heap.size w w' := by
  have k1 := indexNot_any A n c ls own T w hr hn hl ho hT hTw
  have K1 := Lib.hid k1; clear k1
  go_enter Tryd.func22, Tryd.ntmps22
  go_wp2_with fail
  (with_reducible refine K1.out.mono ?_)
  rintro e w1 ⟨i, rfl, hi, hb1⟩
  have HI := Lib.hid hi; clear hi
  go_wp2
  go_ret
  exact ⟨by rw [← HI.out]; rfl, hb1⟩

/-- Is what a client has still so? -/
def notModL (req rep : List Fld) (now : Int) : Bool :=
  bif (getL req [105, 102, 45, 110, 111, 110, 101, 45, 109, 97, 116, 99, 104]).1 == [42] then true
  else bif (getL req [105, 102, 45, 110, 111, 110, 101, 45, 109, 97, 116, 99, 104]).2 then
    anyE (etagL (getL req [105, 102, 45, 110, 111, 110, 101, 45, 109, 97, 116, 99, 104]).1).1 ⟨(getL rep [101, 116, 97, 103]).1.toArray⟩
  else (momL req [105, 102, 45, 109, 111, 100, 105, 102, 105, 101, 100, 45, 115, 105, 110, 99, 101] now).2 && (momL rep [108, 97, 115, 116, 45, 109, 111, 100, 105, 102, 105, 101, 100] now).2 && decide ((momL rep [108, 97, 115, 116, 45, 109, 111, 100, 105, 102, 105, 101, 100] now).1 ≤ (momL req [105, 102, 45, 109, 111, 100, 105, 102, 105, 101, 100, 45, 115, 105, 110, 99, 101] now).1)
theorem etagL_small (s : List UInt8) (h : s.length ≤ 8000) : (etagL s).1.length ≤ 1000000 ∧ ∀ x ∈ (etagL s).1, x.length ≤ 8000 := by
  have htot := split_total 44 s
  have hcn : (splitL 44 s).1.length ≤ 64 := split_len s
  have he : etagL s = bif (splitL 44 s).2 == 0 && (!(splitL 44 s).1.isEmpty && (splitL 44 s).1.all entOk) then ((splitL 44 s).1, 0) else ([], 4) := rfl
  rw [he]
  cases (splitL 44 s).2 == 0 && (!(splitL 44 s).1.isEmpty && (splitL 44 s).1.all entOk)
  · exact ⟨by simp, by simp⟩
  · refine ⟨by show (splitL 44 s).1.length ≤ 1000000; omega, fun x hx => ?_⟩
    have := total_mem (show x ∈ (splitL 44 s).1 from hx)
    omega

set_option maxHeartbeats 16000000 in
theorem notMod_any (A B : Option Addr) (n c m d : Nat) (st mi : Int) (re bo : ByteArray) (xs ys : List Fld) (now : Int) (w : World) (hE : DEnv w) (hr : Rd A n 2 (fldsV xs) w) (hq : Rd B m 2 (fldsV ys) w) (hn : n ≤ 100) (hm : m ≤ 100) (hs : sumF xs ≤ 7000) (hsq : sumF ys ≤ 7000) :
    Calls Tryd.prog 19 #[.slice A n c, .agg #[.int .i64 st, .string re, .int .i64 mi, .slice B m d, .string bo], .int .i64 now] w fun e w' => e = .returned (.bool (notModL xs ys now)) ∧ Below w.heap.size w w' := by
  have hxn := hr.fld
  have hyn := hq.fld
  obtain ⟨W0, hW0⟩ : ∃ W0, w.alloc (.cells #[.int .i64 st, .string re, .int .i64 mi, .slice B m d, .string bo] 42) = W0 := ⟨_, rfl⟩
  have hB0 : Below w.heap.size w W0 := by rw [← hW0]; exact (Below.refl w.heap.size w).alloc (Nat.le_refl _) _
  have hV0 : W0.cell? ⟨w.heap.size, 3, none⟩ = some (.slice B m d) := by rw [← hW0]; exact World.cell?_alloc_mark w _ _ _ 3
  have hz0 : W0.heap.size = w.heap.size + 1 := by rw [← hW0]; simp
  have g1 := fun (name : ByteArray) (h : name.size ≤ 1000000) W (hb : Below w.heap.size w W) => get_any A n c xs name W (hr.below hb) (by omega) (by omega) h
  have g2 := fun (name : ByteArray) (h : name.size ≤ 1000000) W (hb : Below w.heap.size w W) => get_any B m d ys name W (hq.below hb) (by omega) (by omega) h
  have m1 := fun (name : ByteArray) (h : name.size ≤ 1000000) W (hb : Below w.heap.size w W) => moment_any A n c xs name now W (hE.below hb) (hr.below hb) (by omega) (by omega) h
  have m2 := fun (name : ByteArray) (h : name.size ≤ 1000000) W (hb : Below w.heap.size w W) => moment_any B m d ys name now W (hE.below hb) (hq.below hb) (by omega) (by omega) h
  have b1 := getL_le xs [105, 102, 45, 110, 111, 110, 101, 45, 109, 97, 116, 99, 104]
  have b2 := getL_le ys [101, 116, 97, 103]
  have G1 := Lib.hid (g1 ⟨#[105, 102, 45, 110, 111, 110, 101, 45, 109, 97, 116, 99, 104]⟩ (by decide))
  have G2 := Lib.hid (g2 ⟨#[101, 116, 97, 103]⟩ (by decide))
  have M1 := Lib.hid (m1 ⟨#[105, 102, 45, 109, 111, 100, 105, 102, 105, 101, 100, 45, 115, 105, 110, 99, 101]⟩ (by decide))
  have M2 := Lib.hid (m2 ⟨#[108, 97, 115, 116, 45, 109, 111, 100, 105, 102, 105, 101, 100]⟩ (by decide))
  clear g1 g2 m1 m2 hr hq hE
  have e0 := fun (s : List UInt8) (h : s.length ≤ 8000) => etagL_small s h
  unfold notModL
  simp only at G1 G2 M1 M2
  generalize getL ys [101, 116, 97, 103] = own at *
  generalize getL xs [105, 102, 45, 110, 111, 110, 101, 45, 109, 97, 116, 99, 104] = non at *
  generalize momL xs [105, 102, 45, 109, 111, 100, 105, 102, 105, 101, 100, 45, 115, 105, 110, 99, 101] now = since at *
  generalize momL ys [108, 97, 115, 116, 45, 109, 111, 100, 105, 102, 105, 101, 100] now = last at *
  obtain ⟨ov, oi⟩ := own
  obtain ⟨nv, ni⟩ := non
  obtain ⟨t1, i1⟩ := since
  obtain ⟨t2, i2⟩ := last
  unfold getV at G1 G2
  simp only at G1 G2 M1 M2 b1 b2 ⊢
  have hnv : nv.length ≤ 8000 := by omega
  have hov : ov.length ≤ 8000 := by omega
  have k3 := fun W => elist_any ⟨nv.toArray⟩ W (by rw [Lib.size_eq]; exact hnv)
  simp only at k3
  have e1 := e0 nv hnv
  clear e0 b1 b2 hnv hxn hyn hn hm hs hsq
  have e2 : (⟨nv.toArray⟩ : ByteArray).toList = nv := by rw [Lib.toList_data]
  have HW0 := Lib.hid hW0; have HZ0 := Lib.hid hz0; have K3 := Lib.hid k3; have E1 := Lib.hid e1; have HOV := Lib.hid hov; have HB0 := Lib.hid hB0; have HV0 := Lib.hid hV0
  clear hW0 hz0 k3 e1 hov hB0 hV0
  cases hst : (nv == [42])
  · cases ni
    · go_enter Tryd.func19, Tryd.ntmps19
      go_wp2_with fail
      rw [HW0.out]
      (with_reducible refine (G1.out _ HB0.out).mono ?_)
      rintro e w1 ⟨rfl, hb1⟩
      have hB1 := HB0.out.trans (hb1.mono HB0.out.size)
      have hc1 := (hb1.cell (p := ⟨w.heap.size, 3, none⟩) (by have := HZ0.out; show w.heap.size < W0.heap.size; omega)).trans HV0.out
      go_wp2_with fail
      (with_reducible refine (M1.out _ hB1).mono ?_)
      rintro e w2 ⟨rfl, hb2⟩
      have hB2 := bt hB1 hb2
      have hc2 := (hb2.cell (p := ⟨w.heap.size, 3, none⟩) (by have := HZ0.out; have := hb1.size; show w.heap.size < w1.heap.size; omega)).trans hc1
      clear hc1
      go_wp2_with fail
      (with_reducible refine (M2.out _ hB2).mono ?_)
      rintro e w3 ⟨rfl, hb3⟩
      have hB3 := bt hB2 hb3
      clear hc2 hb3 hB2 hb2 hB1 hb1 K3 G2
      cases i1 <;> cases i2
      all_goals
        go_wp2
        go_ret
        exact ⟨rfl, hB3⟩
    · go_enter Tryd.func19, Tryd.ntmps19
      go_wp2_with fail
      rw [HW0.out]
      (with_reducible refine (G1.out _ HB0.out).mono ?_)
      rintro e w1 ⟨rfl, hb1⟩
      have hB1 := HB0.out.trans (hb1.mono HB0.out.size)
      have hc1 := (hb1.cell (p := ⟨w.heap.size, 3, none⟩) (by have := HZ0.out; show w.heap.size < W0.heap.size; omega)).trans HV0.out
      go_wp2_with fail
      (with_reducible refine (G2.out _ hB1).mono ?_)
      rintro e w2 ⟨rfl, hb2⟩
      have hB2 := bt hB1 hb2
      clear hc1 M1 M2 G1 G2
      go_wp2_with fail
      (with_reducible refine (K3.out _).mono ?_)
      rintro e w3 ⟨a3, c3, rfl, ho3, hb3⟩
      have hal := (Below.refl w2.heap.size w2).alloc (Nat.le_refl _) (.cells #[.string ⟨ov.toArray⟩] 9)
      have hT := World.cell?_alloc_mark w2 #[.string ⟨ov.toArray⟩] 9 (0, 0) 0
      generalize hX : w2.alloc (.cells #[.string ⟨ov.toArray⟩] 9) = X at hT hal ho3 hb3
      have hXs : X.heap.size = w2.heap.size + 1 := by rw [← hX]; simp
      have hT3 : w3.cell? ⟨w2.heap.size, 0, none⟩ = some (.string ⟨ov.toArray⟩) := (hb3.cell (p := ⟨w2.heap.size, 0, none⟩) (by show w2.heap.size < X.heap.size; omega)).trans hT
      have k4 := containsNot_any a3 _ c3 (etagL nv).1 ⟨ov.toArray⟩ w2.heap.size w3 ho3.rd.2 E1.out.1 E1.out.2 (by rw [Lib.size_eq]; exact HOV.out) hT3 (by have := hb3.size; omega)
      have K4 := Lib.hid k4
      have hB3 := bt hB2 (hal.trans (hb3.mono (by omega)))
      clear k4 hT3 hT ho3 hXs hX hal hb3 hB2 hB1 hb1 hb2 K3
      go_wp2_with fail
      (with_reducible refine K4.out.mono ?_)
      rintro e w4 ⟨rfl, hb4⟩
      go_wp2
      go_ret
      exact ⟨rfl, bt hB3 hb4⟩
  · go_enter Tryd.func19, Tryd.ntmps19
    go_wp2_with fail
    rw [HW0.out]
    (with_reducible refine (G1.out _ HB0.out).mono ?_)
    rintro e w1 ⟨rfl, hb1⟩
    have hB1 := HB0.out.trans (hb1.mono HB0.out.size)
    clear M1 M2 G1 G2 K3
    go_wp2
    go_ret
    exact ⟨rfl, hB1⟩
end Go.Proofs.YthnfmhjjpodhfaaDoor
