/- Joined out of the texts Few12, RSurList (wip/tools/merge.py). -/
import Derived.Test.YtfoabdpfadgafaaDoorPa2
import Derived.IntWalk
/- The walk of the law's few (layer 12). -/
namespace Go.Proofs.YtfoabdpfadgafaaDoor
open Go.RowKit
set_option maxRecDepth 100000

def few12 (vs : List (List UInt8)) : Bool := (vs.take 20).all (fun v => decide (v.length ≤ 3000)) && decide (vs.length ≤ 12)
theorem few12_yes {vs : List (List UInt8)} (h : few12 vs = true) : vs.length ≤ 12 ∧ ∀ v ∈ vs, v.length ≤ 3000 := by
  unfold few12 at h
  rw [Bool.and_eq_true, decide_eq_true_eq, List.all_eq_true] at h
  obtain ⟨h1, h2⟩ := h
  rw [List.take_of_length_le (by omega)] at h1
  exact ⟨h2, fun v hv => by simpa using h1 v hv⟩

set_option maxHeartbeats 4000000 in
theorem few12_any (A : Option Addr) (n c : Nat) (vs : List (List UInt8)) (w : World) (hr : Rd A n 1 (strsV vs) w) :
    Calls Tryd.prog 25 #[.slice A n c] w fun e w' => e = .returned (.bool (few12 vs)) ∧ w = w' := by
  obtain rfl := hr.str
  have hbad : ∀ k (h : k < vs.length), k < 20 → 3000 < vs[k].length → few12 vs = false := by
    intro k h h30 hl
    unfold few12
    rw [Bool.and_eq_false_iff]
    left
    rw [List.all_eq_false]
    refine ⟨vs[k], ?_, by simpa using hl⟩
    rw [List.mem_take_iff_getElem]
    exact ⟨k, by omega, rfl⟩
  have hgood : ∀ k, (∀ v ∈ vs.take k, v.length ≤ 3000) → (k = vs.length ∨ 20 ≤ k) → few12 vs = decide ((vs.length : Int) ≤ 12) := by
    intro k h hk
    unfold few12
    rw [show (vs.take 20).all (fun v => decide (v.length ≤ 3000)) = true from by
      rw [List.all_eq_true]; intro v hv
      have : v ∈ vs.take k := by
        rw [List.mem_take_iff_getElem] at hv ⊢
        obtain ⟨i, hi, e⟩ := hv
        exact ⟨i, by omega, e⟩
      simpa using h v this, Bool.true_and]
    rw [Bool.eq_iff_iff]; simp; omega
  have hsn : ∀ k (h : k < vs.length), (∀ v ∈ vs.take k, v.length ≤ 3000) → vs[k].length ≤ 3000 → ∀ v ∈ vs.take (k + 1), v.length ≤ 3000 := by
    intro k h h1 h2 v hv
    rw [List.take_succ_eq_append_getElem h, List.mem_append, List.mem_singleton] at hv
    rcases hv with hv | rfl
    · exact h1 v hv
    · exact h2
  have HR := Lib.hid hr; have HBAD := Lib.hid hbad; have HG := Lib.hid hgood; have HSN := Lib.hid hsn
  clear hr hbad hgood hsn
  generalize few12 vs = out at *
  go_enter Tryd.func25, Tryd.ntmps25
  go_wp2
  go_loopw [3] (fun i wr => ∃ k : Nat, k ≤ vs.length ∧ i = .int .i64 k ∧ Hid (∀ v ∈ vs.take k, v.length ≤ 3000) ∧ k ≤ 20 ∧ wr = w) (fun i _ => vs.length - (intOf i).toNat)
  case atStart => exact ⟨0, Nat.zero_le _, rfl, Lib.hid (by simp), by omega, rfl⟩
  case round =>
    obtain ⟨k, hk, rfl, HE, h30, rfl⟩ := hrel
    by_cases hlt : k < vs.length ∧ k < 20
    · obtain ⟨hlt, hk30⟩ := hlt
      obtain ⟨b, o, rfl, hl, c1⟩ := HR.out.str_at (k := k) hlt
      have hbd := HBAD.out k hlt hk30
      have hsn := HSN.out k hlt HE.out
      have z1 : (⟨(vs[k]).toArray⟩ : ByteArray).size = vs[k].length := by rw [Lib.size_eq]
      generalize vs[k] = v at *
      by_cases hbig : 3000 < v.length
      · have ho := hbd hbig
        subst ho
        clear HBAD HSN HG HE hsn hbd
        go_wp2
        go_ret
        exact ⟨rfl, rfl⟩
      · have HE2 := Lib.hid (hsn (by omega))
        clear HBAD HSN HG HE hsn hbd
        go_wp2
        go_roundw
        case rel => exact ⟨k + 1, by omega, by go_num, HE2, by omega, trivial⟩
        case measure => simp [intOf]; omega
    · have ho := HG.out k HE.out (by omega)
      subst ho
      clear HBAD HSN HG HE
      by_cases hl : k < vs.length
      · go_wp2
        go_ret
        exact ⟨rfl, rfl⟩
      · go_wp2
        go_ret
        exact ⟨rfl, rfl⟩
end Go.Proofs.YtfoabdpfadgafaaDoor
/- The walks of the document's Say and List (layer 12). -/
namespace Go.Proofs.YtfoabdpfadgafaaDoor
open Go.RowKit
set_option maxRecDepth 100000

set_option maxHeartbeats 8000000 in
theorem rsay12_any (s : ByteArray) (w : World) (hs : s.size ≤ 1000000) :
    Calls Tryd.prog 56 #[.string s] w (DirsPost w (sayS s.data.toList)) := by
  have k1 := rsplit_any s 59 w hs
  have htot := split_total 59 s.data.toList
  rw [← Lib.size_eq] at htot
  have hs0 : sayS s.data.toList = bif (splitL 59 s.data.toList).2 != 0 then [neverD] else match (splitL 59 s.data.toList).1 with
    | [a] => oneOf (saidO a).toList []
    | [a, b] => bif tokenL b then oneOf (saidO a).toList b else []
    | _ => [] := rfl
  rw [hs0]
  clear hs0
  generalize splitL 59 s.data.toList = r at *
  obtain ⟨ps, er⟩ := r
  simp only at htot ⊢
  cases hz : (er != 0)
  · have hz0 : er = 0 := by simpa [bne] using hz
    subst hz0
    rw [cond_false]
    have hmem := fun p (hp : p ∈ ps) => total_mem hp
    rcases ps with _ | ⟨p0, _ | ⟨p1, _ | ⟨p2, r⟩⟩⟩
    · have K1 := Lib.hid k1; clear k1
      go_enter Tryd.func56, Tryd.ntmps56
      go_wp2_with fail
      refine K1.out.mono ?_
      rintro e w1 ⟨a1, c1, rfl, ho1, hb1⟩
      go_wp2
      go_ret
      exact DirsPost.nil hb1
    · show Calls Tryd.prog _ _ w (DirsPost w (oneOf (saidO p0).toList []))
      have hp0 : p0.length ≤ 1000000 := by have := hmem p0 (by simp); omega
      clear hmem htot
      have k2 := fun W => rsay_any ⟨p0.toArray⟩ W (by rw [Lib.size_eq]; exact hp0)
      simp only at k2
      generalize saidO p0 = o0 at *
      rcases o0 with _ | ⟨dn, dv, dh, df⟩
      all_goals (
        unfold saidV at k2
        have K1 := Lib.hid k1; have K2 := Lib.hid k2; clear k1 k2
        go_enter Tryd.func56, Tryd.ntmps56
        go_wp2_with fail
        refine K1.out.mono ?_
        rintro e w1 ⟨a1, c1, rfl, ho1, hb1⟩
        obtain ⟨b, o, rfl, hl, x0⟩ := ho1.rd.2.str_at (k := 0) (by simp)
        have x0' : w1.cell? ⟨b, o, none⟩ = some (.string ⟨p0.toArray⟩) := x0
        clear x0 ho1
        go_wp2_with fail
        refine (K2.out _).mono ?_
        rintro e w2 ⟨rfl, hb2⟩
        have hB2 := bt hb1 hb2
        clear x0' hb2 hb1)
      · go_wp2
        go_ret
        exact DirsPost.nil (hB2.alloc hB2.size _)
      · go_wp2
        go_ret
        have hh := World.alloc_heap_new (w2.alloc (.cells #[.string ⟨dn.toArray⟩, .string ⟨dv.toArray⟩, .bool dh, .string ⟨df.toArray⟩] 29)) (.cells #[.string ⟨dn.toArray⟩, .string ⟨dv.toArray⟩, .bool dh, .string ⟨df.toArray⟩] 29)
        rw [World.size_alloc] at hh
        have hsz := hB2.size
        exact ⟨_, _, rfl, OwnD.one (d := ⟨dn, dv, dh, df⟩) hh (by omega), (hB2.alloc hB2.size _).alloc (by simp; omega) _⟩
    · show Calls Tryd.prog _ _ w (DirsPost w (bif tokenL p1 then oneOf (saidO p0).toList p1 else []))
      have hp0 : p0.length ≤ 1000000 := by have := hmem p0 (by simp); omega
      have hp1 : p1.length ≤ 1000000 := by have := hmem p1 (by simp); omega
      clear hmem htot
      have k2 := fun W => rsay_any ⟨p0.toArray⟩ W (by rw [Lib.size_eq]; exact hp0)
      have k3 := fun W => rtoken_any ⟨p1.toArray⟩ W (by rw [Lib.size_eq]; exact hp1)
      simp only at k2 k3
      have hne : tokenL p1 = true → p1.isEmpty = false := fun h => (token_all h).2
      generalize saidO p0 = o0 at *
      rcases o0 with _ | ⟨dn, dv, dh, df⟩
      · have hno : (bif tokenL p1 then oneOf (none : Option Dir).toList p1 else []) = [] := by cases tokenL p1 <;> rfl
        rw [hno]
        clear hno hne k3
        unfold saidV at k2
        have K1 := Lib.hid k1; have K2 := Lib.hid k2; clear k1 k2
        go_enter Tryd.func56, Tryd.ntmps56
        go_wp2_with fail
        refine K1.out.mono ?_
        rintro e w1 ⟨a1, c1, rfl, ho1, hb1⟩
        obtain ⟨b, o, rfl, hl, x0⟩ := ho1.rd.2.str_at (k := 0) (by simp)
        have x0' : w1.cell? ⟨b, o, none⟩ = some (.string ⟨p0.toArray⟩) := x0
        clear x0 ho1
        go_wp2_with fail
        refine (K2.out _).mono ?_
        rintro e w2 ⟨rfl, hb2⟩
        have hB2 := bt hb1 hb2
        clear x0' hb2 hb1
        go_wp2
        go_ret
        exact DirsPost.nil (hB2.alloc hB2.size _)
      · cases ht : tokenL p1
        all_goals (
          rw [ht] at k3
          simp only [cond_true, cond_false]
          have HNE : Hid (tokenL p1 = true → p1.isEmpty = false) := Lib.hid hne
          have HT := Lib.hid ht
          unfold saidV at k2
          have K1 := Lib.hid k1; have K2 := Lib.hid k2; have K3 := Lib.hid k3; clear k1 k2 k3 hne ht
          go_enter Tryd.func56, Tryd.ntmps56
          go_wp2_with fail
          refine K1.out.mono ?_
          rintro e w1 ⟨a1, c1, rfl, ho1, hb1⟩
          obtain ⟨b, o, rfl, hl, x0⟩ := ho1.rd.2.str_at (k := 0) (by simp)
          have x0' : w1.cell? ⟨b, o, none⟩ = some (.string ⟨p0.toArray⟩) := x0
          obtain ⟨b', o', e', _, x1⟩ := ho1.rd.2.str_at (k := 1) (by simp)
          cases e'
          have x1' : w1.cell? ⟨b, o + 1, none⟩ = some (.string ⟨p1.toArray⟩) := x1
          clear x0 x1 ho1
          go_wp2_with fail
          refine (K2.out _).mono ?_
          rintro e w2 ⟨rfl, hb2⟩
          have hB2 := bt hb1 hb2
          obtain ⟨g0, g1, g2, g3, q0, q1, q2, q3, glt⟩ := at4_alloc w2 (.string ⟨dn.toArray⟩) (.string ⟨dv.toArray⟩) (.bool dh) (.string ⟨df.toArray⟩) 29
          have hal := (Below.refl w2.heap.size w2).alloc (Nat.le_refl _) (.cells #[.string ⟨dn.toArray⟩, .string ⟨dv.toArray⟩, .bool dh, .string ⟨df.toArray⟩] 29)
          have x2 := (hal.cell (p := ⟨b, o + 1, none⟩) (Nat.lt_of_lt_of_le hl hb2.size)).trans ((hb2.cell (p := ⟨b, o + 1, none⟩) hl).trans x1')
          have hB3 := hB2.trans (hal.mono hB2.size)
          have hbg : b ≠ w2.heap.size := by have := hb2.size; omega
          have x2e := x2
          obtain ⟨W3, hW3⟩ : ∃ W3, w2.alloc (.cells #[.string ⟨dn.toArray⟩, .string ⟨dv.toArray⟩, .bool dh, .string ⟨df.toArray⟩] 29) = W3 := ⟨_, rfl⟩
          rw [hW3] at g0 g1 g2 g3 q0 q1 q2 q3 glt x2 hB3
          have HW3 := Lib.hid hW3
          clear x0' x1' hb2 hb1 hal hW3
          go_wp2_with fail
          rw [HW3.out]
          refine (K3.out _).mono ?_
          rintro e w4 ⟨rfl, rfl⟩)
        · go_wp2
          go_ret
          exact DirsPost.nil hB3
        · go_wp2
          go_ret
          have hsz := hB3.size
          have hh := World.alloc_heap_new (W3.setCell ⟨w2.heap.size, 3, none⟩ (.string ⟨p1.toArray⟩)) (.cells (dirV ⟨dn, dv, dh, p1⟩).toArray 29)
          rw [World.size_setCell] at hh
          have hres := OwnD.one (B := w.heap.size) (d := ⟨dn, dv, dh, p1⟩) hh (by omega)
          have hone : oneOf (some (⟨dn, dv, dh, df⟩ : Dir)).toList p1 = [⟨dn, dv, dh, p1⟩] := by
            unfold oneOf; simp only [Option.toList]; rw [HNE.out HT.out]; rfl
          rw [hone]
          exact ⟨_, _, rfl, hres, (hB3.setCell hB2.size _).alloc (by simp; omega) _⟩
    · have K1 := Lib.hid k1; clear k1
      have t0 : (((r.length : Int) + 1 + 1 + 1) == 0) = false := by simp; omega
      have t1 : decide (2 < (r.length : Int) + 1 + 1 + 1) = true := by simp; omega
      go_enter Tryd.func56, Tryd.ntmps56
      go_wp2_with fail
      refine K1.out.mono ?_
      rintro e w1 ⟨a1, c1, rfl, ho1, hb1⟩
      go_wp2
      go_ret
      exact DirsPost.nil hb1
  · rw [cond_true]
    have hz1 : (er == 0) = false := by simpa [bne] using hz
    have K1 := Lib.hid k1; clear k1
    go_enter Tryd.func56, Tryd.ntmps56
    go_wp2_with fail
    refine K1.out.mono ?_
    rintro e w1 ⟨a1, c1, rfl, ho1, hb1⟩
    go_wp2
    go_ret
    exact ⟨_, _, rfl, OwnD.one (World.alloc_heap_new w1 _) hb1.size, hb1.alloc hb1.size _⟩
set_option maxHeartbeats 16000000 in
theorem rsurList_any (A : Option Addr) (n c : Nat) (vs : List (List UInt8)) (w : World) (hr : Rd A n 1 (strsV vs) w) (hn : n ≤ 10000) (hl : ∀ v ∈ vs, v.length ≤ 1000000) :
    Calls Tryd.prog 28 #[.slice A n c] w (DirsPost w (slistL vs)) := by
  obtain rfl := hr.str
  have hS : DSt w.heap.size (.slice none 0 0) [] A vs w := ⟨OwnD.nil _ _, hr, fun _ g o e x => by cases x⟩
  have hB := Below.refl w.heap.size w
  have h00 : slistL (vs.take 0) = [] := rfl
  have hstep := fun k (h : k < vs.length) => fmap_take tellsV vs k h
  have hlen : ∀ k, (slistL (vs.take k)).length ≤ 1000000 := fun k => by
    have := slist_le (vs.take k); have h2 : (vs.take k).length ≤ vs.length := by rw [List.length_take]; omega
    omega
  simp only [← slist_eq] at hstep
  have hfin : slistL (vs.take vs.length) = slistL vs := by rw [List.take_length]
  have HS := Lib.hid hS; have H00 := Lib.hid h00; have HSTEP := Lib.hid hstep; have HLEN := Lib.hid hlen; have HH := Lib.hid hfin; have HML := Lib.hid hl
  clear hS h00 hstep hlen hfin hl hr
  go_enter Tryd.func28, Tryd.ntmps28
  go_wp2_with fail
  go_loopw [4, 3] (fun i out wr => ∃ k : Nat, k ≤ vs.length ∧ i = .int .i64 k ∧ Hid (DSt w.heap.size out (slistL (vs.take k)) A vs wr) ∧ Below w.heap.size w wr) (fun i _ _ => vs.length - (intOf i).toNat)
  case atStart => exact ⟨0, Nat.zero_le _, rfl, by rw [H00.out]; exact HS, hB⟩
  case round =>
    clear HS hB H00
    obtain ⟨k, hk, rfl, HO, hbw⟩ := hrel
    obtain ⟨oa, oc, rfl⟩ := HO.out.1.shape
    have hal := HLEN.out k
    by_cases hlt : k < vs.length
    · obtain ⟨b, o, rfl, hl, c1⟩ := HO.out.2.1.str_at (k := k) hlt
      have hst := HSTEP.out k hlt
      have hv := HML.out vs[k] (List.getElem_mem _)
      generalize vs[k] = v at *
      have k2 := fun w => rsplit_any ⟨v.toArray⟩ 44 w (by rw [Lib.size_eq]; exact hv)
      simp only at k2
      have hfew := split_few 44 v
      have hpt := split_total 44 v
      have htv : tellsV v = bif (splitL 44 v).2 == 0 then (splitL 44 v).1.flatMap sayS else [neverD] := rfl
      generalize splitL 44 v = r at *
      obtain ⟨ps, er⟩ := r
      simp only at hfew hpt htv
      rw [htv] at hst
      generalize slistL (vs.take k) = acc at *
      cases hz : (er == 0)
      · rw [hz, cond_false] at hst
        have n0 : (er != 0) = true := by simp [bne, hz]
        have K2 := Lib.hid k2; have HST := Lib.hid hst
        clear k2 hst hpt hfew htv HSTEP HML HLEN hv
        go_wp2_with fail
        refine (K2.out _).mono ?_
        rintro e w3 ⟨a3, c3, rfl, ho3, hb3⟩
        simp only at ho3 ⊢
        have hB3 := hbw.trans (hb3.mono hbw.size)
        have HO3 := Lib.hid (HO.out.below hb3)
        clear ho3 hb3 hbw HO c1 K2
        have hal2 : acc.length ≤ 1000000000 := by omega
        have HO4 := HO3
        have hB4 := hB3
        go_wp2_with (at_builtin; refine app_dir w.heap.size neverD HO4.out.1 hB4.size hal2 rfl _ _ rfl rfl rfl ?_)
        intro v' w7 hO7 hb7 hfar7
        have hB7 := hB4.trans hb7
        have HO7 : Hid (DSt w.heap.size v' (slistL (vs.take (k + 1))) (some ⟨b, o, none⟩) vs w7) := by rw [HST.out]; exact Lib.hid (HO4.out.far hO7 hfar7)
        clear hO7 hb7 hfar7 HO4 HO3 hB3 HST
        go_wp2
        go_roundw
        case rel => exact ⟨k + 1, by omega, by go_num, HO7, hB7⟩
        case measure => simp [intOf]; omega
      · rw [hz, cond_true] at hst
        have n0 : (er != 0) = false := by simp [bne, hz]
        have her : er = 0 := by simpa using hz
        have hps : ∀ p ∈ ps, p.length ≤ 1000000 := fun p hp => by have := total_mem hp; omega
        have hft : ∀ m (h : m < ps.length), acc ++ (ps.take (m + 1)).flatMap sayS = (acc ++ (ps.take m).flatMap sayS) ++ sayS ps[m] := fun m h => by rw [fmap_take sayS ps m h, List.append_assoc]
        have hfl : ∀ m, (acc ++ (ps.take m).flatMap sayS).length ≤ 2000000 := by
          intro m
          have h1 := says_le (ps.take m)
          have h2 : (ps.take m).length ≤ ps.length := by rw [List.length_take]; omega
          rw [List.length_append]; omega
        have hfin : slistL (vs.take (k + 1)) = acc ++ (ps.take ps.length).flatMap sayS := by rw [List.take_length]; exact hst
        have h0 : acc ++ (ps.take 0).flatMap sayS = acc := by simp
        have K2 := Lib.hid k2; have HPS := Lib.hid hps; have HFT := Lib.hid hft; have HFL := Lib.hid hfl; have HFIN := Lib.hid hfin; have H0 := Lib.hid h0
        clear k2 hst hv hpt hps hft hfl hfin h0 htv HSTEP HML HLEN her
        go_wp2_with fail
        refine (K2.out _).mono ?_
        rintro e w3 ⟨a3, c3, rfl, ho3, hb3⟩
        simp only at ho3 ⊢
        have hB3 := hbw.trans (hb3.mono hbw.size)
        have HO3 := Lib.hid (HO.out.below hb3)
        have HP3 := Lib.hid (HO.out.beside hb3 ho3)
        clear ho3 hb3 hbw HO c1 K2
        go_wp2_with fail
        obtain ⟨wo, rfl⟩ : ∃ wo : World, wo = wr := ⟨_, rfl⟩
        go_loopw [7, 3] (fun j out wi => ∃ m : Nat, m ≤ ps.length ∧ j = .int .i64 m ∧ Hid (DSt w.heap.size out (acc ++ (ps.take m).flatMap sayS) (some ⟨b, o, none⟩) vs wi) ∧ Hid (DSt w.heap.size out (acc ++ (ps.take m).flatMap sayS) a3 ps wi) ∧ Below w.heap.size w wi) (fun j _ _ => ps.length - (intOf j).toNat)
        case atStart => exact ⟨0, Nat.zero_le _, rfl, by rw [H0.out]; exact HO3, by rw [H0.out]; exact HP3, hB3⟩
        case round =>
          clear HO3 HP3 hB3 H0
          obtain ⟨m, hm, rfl, HO, HP, hbi⟩ := hrel
          obtain ⟨pa, pc, rfl⟩ := HO.out.1.shape
          have hal2 := HFL.out m
          by_cases hlm : m < ps.length
          · obtain ⟨b2, o2, rfl, hl2, c2⟩ := HP.out.2.1.str_at (k := m) hlm
            have hpp := HPS.out ps[m] (List.getElem_mem _)
            have hft := HFT.out m hlm
            have hsl := sayS_le ps[m]
            generalize ps[m] = p at *
            have k4 := rsay12_any ⟨p.toArray⟩ wr (by rw [Lib.size_eq]; exact hpp)
            simp only at k4
            generalize sayS p = q at *
            generalize acc ++ (ps.take m).flatMap sayS = ac at *
            have hal3 : ac.length + q.length ≤ 1000000000 := by omega
            have HFT2 := Lib.hid hft; have K4 := Lib.hid k4
            clear hft k4 hpp
            go_wp2_with fail
            refine K4.out.mono ?_
            rintro e w4 ⟨a4, c4, rfl, ho4, hb4⟩
            have hB4 := hbi.trans (hb4.mono hbi.size)
            have HO4 := Lib.hid (HO.out.below hb4)
            have HP4 := Lib.hid (HP.out.below hb4)
            have HR4 := Lib.hid ho4.rd.2
            clear HO HP ho4 hb4 c2 K4
            go_wp2_with (at_builtin; refine app_dirs w.heap.size HO4.out.1 hB4.size HR4.out hal3 rfl _ _ rfl rfl rfl ?_)
            intro v' w7 hO7 hb7 hfar7
            have hB7 := hB4.trans hb7
            have HO7 : Hid (DSt w.heap.size v' (acc ++ (ps.take (m + 1)).flatMap sayS) (some ⟨b, o, none⟩) vs w7) := by rw [HFT2.out]; exact Lib.hid (HO4.out.far hO7 hfar7)
            have HP7 : Hid (DSt w.heap.size v' (acc ++ (ps.take (m + 1)).flatMap sayS) (some ⟨b2, o2, none⟩) ps w7) := by rw [HFT2.out]; exact Lib.hid (HP4.out.far hO7 hfar7)
            clear hO7 hb7 hfar7 HO4 HP4 HFT2
            go_wp2
            go_roundw
            case rel => exact ⟨m + 1, by omega, by go_num, HO7, HP7, hB7⟩
            case measure => simp [intOf]; omega
          · have hme : m = ps.length := by omega
            subst hme
            have HN : Hid (DSt w.heap.size (.slice pa (acc ++ (ps.take ps.length).flatMap sayS).length pc) (slistL (vs.take (k + 1))) (some ⟨b, o, none⟩) vs wr) := by rw [HFIN.out]; exact HO
            clear HO HP HFT HFL HFIN HPS
            go_wp2
            go_roundw
            case rel => exact ⟨k + 1, by omega, by go_num, HN, hbi⟩
            case measure => simp [intOf]; omega
    · have hke : k = vs.length := by omega
      subst hke
      have hfin := HH.out
      clear HSTEP HML HLEN HH
      generalize slistL (vs.take vs.length) = q at *
      subst hfin
      go_wp2
      go_ret
      exact ⟨oa, oc, rfl, HO.out.1, hbw⟩
end Go.Proofs.YtfoabdpfadgafaaDoor
