/- The walks of Hop and Clean (layer 4), and of the document's. -/
import Derived.Test.YthppcaoldobocaaDoorHopSpec
import Derived.Test.YthppcaoldobocaaDoorTokLow
import Derived.Test.YthppcaoldobocaaDoorSplit
import Derived.Test.YthppcaoldobocaaDoorSplitR
import Derived.Test.YthppcaoldobocaaDoorToken
import Derived.Test.YthppcaoldobocaaDoorRTok
import Derived.Test.YthppcaoldobocaaDoorRValues
namespace Go.Proofs.YthppcaoldobocaaDoor
open Go.RowKit
set_option maxRecDepth 100000

theorem OwnS.new (w : World) (ls : List (List UInt8)) (h : ls.length ≤ 1000000) : OwnS w.heap.size (.slice (some ⟨w.heap.size, 0, none⟩) ls.length ls.length) ls (w.alloc (.cells (strsV ls).toArray 9)) := by
  refine ⟨by simp, Or.inr ⟨w.heap.size, ls.length, (strsV ls).toArray, rfl, Nat.le_refl _, ?_, Nat.le_refl _, ?_, ?_, ?_⟩⟩
  · exact heap_new _ _ _ rfl
  · unfold maxLen; omega
  · simp [strsV]
  · exact List.take_of_length_le (by simp [strsV])

set_option maxHeartbeats 2000000 in
theorem index_any (A : Option Addr) (n c : Nat) (ls : List (List UInt8)) (nm : List UInt8) (w : World) (hr : Rd A n 1 (strsV ls) w) (hn : n ≤ 1000000) :
    Calls Tryd.prog 74 #[.slice A n c, .string ⟨nm.toArray⟩] w fun e w' => (∃ i : Int, e = .returned (.int .i64 i) ∧ decide (0 ≤ i) = ls.contains nm) ∧ w = w' := by
  obtain rfl := hr.str
  have hY : ∀ k (h : k < ls.length), (ls[k] == nm) = true → ls.contains nm = true := by
    intro k h e
    rw [List.contains_iff_mem, ← beq_iff_eq.1 e]; exact List.getElem_mem _
  have hN : ∀ k, ls.length ≤ k → (ls.take k).contains nm = false → ls.contains nm = false := by
    intro k h e; rwa [List.take_of_length_le h] at e
  have hS : ∀ k (h : k < ls.length), (ls.take k).contains nm = false → (ls[k] == nm) = false → (ls.take (k + 1)).contains nm = false := by
    intro k h e n
    have n2 : nm ≠ ls[k] := fun x => (beq_eq_false_iff_ne.1 n) x.symm
    have e2 : nm ∉ ls.take k := by simpa using e
    rw [List.take_succ_eq_append_getElem h, List.contains_eq_mem, decide_eq_false_iff_not, List.mem_append]
    rintro (x | x)
    · exact e2 x
    · exact n2 (List.mem_singleton.1 x)
  have HY := Lib.hid hY; have HN := Lib.hid hN; have HS := Lib.hid hS; have HR := Lib.hid hr; clear hY hN hS hr
  generalize ls.contains nm = out at *
  go_enter Tryd.func74, Tryd.ntmps74
  go_wp2
  go_loop [8] (fun i => ∃ k : Nat, k ≤ ls.length ∧ i = .int .i64 k ∧ Hid ((ls.take k).contains nm = false)) (fun i => ls.length - (intOf i).toNat)
  case atStart => exact ⟨0, Nat.zero_le _, rfl, by show _ = _; simp⟩
  case round =>
    obtain ⟨k, hk, rfl, Hall⟩ := hrel
    by_cases hlt : k < ls.length
    · obtain ⟨b, o, rfl, hl, c1⟩ := HR.out.str_at (k := k) hlt
      have hy := HY.out k hlt
      have hs := HS.out k hlt Hall.out
      generalize ls[k] = l at *
      have Hy := Lib.hid hy; have Hs := Lib.hid hs; clear hy hs
      have hsw : ∀ b, (l == nm) = b → (nm == l) = b := by intro b h; rw [← h, Bool.eq_iff_iff, beq_iff_eq, beq_iff_eq]; exact eq_comm
      cases hq : (l == nm)
      · have hf := Hs.out hq
        have Hf := Lib.hid hf; clear hf
        have q2 := hsw _ hq
        clear hsw
        go_wp2
        go_round
        case rel => exact ⟨k + 1, by omega, by go_num, Hf⟩
        case measure => simp [intOf]; omega
      · have hf := Hy.out hq
        have Hf := Lib.hid hf; clear hf
        have q2 := hsw _ hq
        clear hsw
        go_wp2
        go_ret
        exact ⟨⟨k, rfl, by rw [Hf.out]; simp⟩, rfl⟩
    · have hf := HN.out k (by omega) Hall.out
      have Hf := Lib.hid hf; clear hf
      go_wp2
      go_ret
      exact ⟨⟨-1, rfl, by rw [Hf.out]; rfl⟩, rfl⟩
theorem contains_any (A : Option Addr) (n c : Nat) (ls : List (List UInt8)) (nm : List UInt8) (w : World) (hr : Rd A n 1 (strsV ls) w) (hn : n ≤ 1000000) :
    Calls Tryd.prog 59 #[.slice A n c, .string ⟨nm.toArray⟩] w fun e w' => e = .returned (.bool (ls.contains nm)) ∧ w = w' := by
  have k1 := index_any A n c ls nm w hr hn
  have K1 := Lib.hid k1; clear k1
  generalize ls.contains nm = out at *
  go_enter Tryd.func59, Tryd.ntmps59
  go_wp2_with fail
  refine K1.out.mono ?_
  rintro e w1 ⟨⟨i, rfl, hi⟩, rfl⟩
  have HI := Lib.hid hi; clear hi
  go_wp2
  go_ret
  exact ⟨by rw [← HI.out]; rfl, rfl⟩

/-- A row of texts that the call made, beside texts that it reads. -/
def HopSt (B : Nat) (out : Value) (acc : List (List UInt8)) (A : Option Addr) (vs : List (List UInt8)) (w : World) : Prop := OwnS B out acc w ∧ Rd A vs.length 1 (strsV vs) w ∧ Sep out A vs.length
theorem HopSt.below {B : Nat} {out : Value} {acc : List (List UInt8)} {A : Option Addr} {vs : List (List UInt8)} {w w1 : World} (h : HopSt B out acc A vs w) (hb : Below w.heap.size w w1) : HopSt B out acc A vs w1 := ⟨h.1.below hb, h.2.1.below hb, h.2.2⟩
theorem HopSt.far {B : Nat} {out v' : Value} {acc acc' : List (List UInt8)} {A : Option Addr} {vs : List (List UInt8)} {w w1 : World} (h : HopSt B out acc A vs w) (ho : OwnS B v' acc' w1) (hf : Far w w1 out v') : HopSt B v' acc' A vs w1 := ⟨ho, h.2.1.far hf h.2.2⟩
theorem HopSt.beside {B : Nat} {out : Value} {acc : List (List UInt8)} {A A2 : Option Addr} {vs ps : List (List UInt8)} {w w1 : World} {c : Nat} (h : HopSt B out acc A vs w) (hb : Below w.heap.size w w1) (hp : OwnS w.heap.size (.slice A2 ps.length c) ps w1) : HopSt B out acc A2 ps w1 := ⟨h.1.below hb, hp.rd.2, Sep.new h.1 (own_new hp)⟩

set_option maxHeartbeats 16000000 in
theorem hop_any (A : Option Addr) (n c : Nat) (xs : List Fld) (w : World) (hr : Rd A n 2 (fldsV xs) w) (hn : n ≤ 10000) (hs : sumF xs ≤ 1000000) :
    Calls Tryd.prog 30 #[.slice A n c] w (TextsPost w (hopL xs)) := by
  have hxn := hr.fld
  obtain ⟨W1, hW1⟩ : ∃ W1, w.alloc (.cells (strsV hop9).toArray 9) = W1 := ⟨_, rfl⟩
  have hB1 : Below w.heap.size w W1 := by rw [← hW1]; exact (Below.refl w.heap.size w).alloc (Nat.le_refl _) _
  have hO0 : OwnS w.heap.size (.slice (some ⟨w.heap.size, 0, none⟩) 9 9) hop9 W1 := by rw [← hW1]; exact OwnS.new w hop9 (by decide)
  have hW2 : w.alloc (.cells #[.string ⟨#[99, 111, 110, 110, 101, 99, 116, 105, 111, 110]⟩, .string ⟨#[107, 101, 101, 112, 45, 97, 108, 105, 118, 101]⟩, .string ⟨#[112, 114, 111, 120, 121, 45, 99, 111, 110, 110, 101, 99, 116, 105, 111, 110]⟩, .string ⟨#[116, 101]⟩, .string ⟨#[116, 114, 97, 105, 108, 101, 114]⟩, .string ⟨#[116, 114, 97, 110, 115, 102, 101, 114, 45, 101, 110, 99, 111, 100, 105, 110, 103]⟩, .string ⟨#[117, 112, 103, 114, 97, 100, 101]⟩, .string ⟨#[112, 114, 111, 120, 121, 45, 97, 117, 116, 104, 101, 110, 116, 105, 99, 97, 116, 101]⟩, .string ⟨#[112, 114, 111, 120, 121, 45, 97, 117, 116, 104, 111, 114, 105, 122, 97, 116, 105, 111, 110]⟩] 9) = W1 := hW1
  have k1 := values_any A n c xs ⟨connW.toArray⟩ W1 (hr.below hB1) (by omega) (fun f hf => by have := sumF_mem hf; omega) (by decide)
  have hvl := valuesL_le xs connW
  have hvt := total_values xs connW
  have hH : hopVs hop9 ((valuesL xs connW).take (valuesL xs connW).length) = hopL xs := by rw [List.take_length]; rfl
  simp only at k1
  have hcw : (⟨connW.toArray⟩ : ByteArray) = ⟨#[99, 111, 110, 110, 101, 99, 116, 105, 111, 110]⟩ := rfl
  rw [hcw] at k1
  generalize hopL xs = tot at *
  generalize valuesL xs connW = vs at *
  have hlen : ∀ k, (hopVs hop9 (vs.take k)).length ≤ 9 + 64 * 10000 := by
    intro k
    have h2 := hopVs_le (vs.take k) hop9
    have h4 : hop9.length = 9 := rfl
    have h5 : (vs.take k).length ≤ vs.length := by rw [List.length_take]; omega
    omega
  have hml : ∀ v ∈ vs, v.length ≤ 1000000 := fun v hv => by have := total_mem hv; omega
  have hstep : ∀ k (h : k < vs.length), hopVs hop9 (vs.take (k + 1)) = (splitL 44 vs[k]).1.foldl hopP (hopVs hop9 (vs.take k)) := fun k h => foldl_take hopV hop9 vs k h
  have h00 : hopVs hop9 (vs.take 0) = hop9 := rfl
  have hvn : vs.length ≤ 10000 := by omega
  have HW2 := Lib.hid hW2; have HO0 := Lib.hid hO0; have K1 := Lib.hid k1; have HLEN := Lib.hid hlen; have HML := Lib.hid hml; have HSTEP := Lib.hid hstep; have HH := Lib.hid hH; have H00 := Lib.hid h00
  clear hW1 hW2 hO0 k1 hvl hvt hlen hml hstep hH hr hs hxn hcw h00
  go_enter Tryd.func30, Tryd.ntmps30
  go_wp2_with fail
  rw [HW2.out]
  refine K1.out.mono ?_
  rintro e w2 ⟨a2, c2, rfl, ho2, hb2⟩
  have hS : HopSt w.heap.size (.slice (some ⟨w.heap.size, 0, none⟩) 9 9) hop9 a2 vs w2 := ⟨HO0.out.below hb2, ho2.rd.2, Sep.new HO0.out (own_new ho2)⟩
  have HS := Lib.hid hS
  have hB2 := bt hB1 hb2
  clear hS ho2 hb2 K1 HO0 HW2
  go_wp2_with fail
  go_loopw [14, 3] (fun i out wr => ∃ k : Nat, k ≤ vs.length ∧ i = .int .i64 k ∧ Hid (HopSt w.heap.size out (hopVs hop9 (vs.take k)) a2 vs wr) ∧ Below w.heap.size w wr) (fun i _ _ => vs.length - (intOf i).toNat)
  case atStart => exact ⟨0, Nat.zero_le _, rfl, by rw [H00.out]; exact HS, hB2⟩
  case round =>
    clear HS hB2 H00
    obtain ⟨k, hk, rfl, HO, hbw⟩ := hrel
    obtain ⟨oa, oc, rfl⟩ := HO.out.1.shape
    have hal := HLEN.out k
    by_cases hlt : k < vs.length
    · obtain ⟨b, o, rfl, hl, c1⟩ := HO.out.2.1.str_at (k := k) hlt
      have hst := HSTEP.out k hlt
      have hv := HML.out vs[k] (List.getElem_mem _)
      generalize vs[k] = v at *
      have k2 := fun w => split_any ⟨v.toArray⟩ 44 w (by rw [Lib.size_eq]; exact hv)
      simp only at k2
      have hfew := split_few 44 v
      have hpt := split_total 44 v
      generalize splitL 44 v = r at *
      obtain ⟨ps, er⟩ := r
      simp only at hst hfew hpt
      generalize hopVs hop9 (vs.take k) = acc at *
      have hps : ∀ p ∈ ps, p.length ≤ 1000000 := fun p hp => by have := total_mem hp; omega
      have hft : ∀ m (h : m < ps.length), (ps.take (m + 1)).foldl hopP acc = hopP ((ps.take m).foldl hopP acc) ps[m] := fun m h => foldl_take hopP acc ps m h
      have hfl : ∀ m, ((ps.take m).foldl hopP acc).length ≤ 1000000 := by
        intro m
        have h1 := hopPs_le (ps.take m) acc
        have h2 : (ps.take m).length ≤ ps.length := by rw [List.length_take]; omega
        omega
      have hfin : hopVs hop9 (vs.take (k + 1)) = (ps.take ps.length).foldl hopP acc := by rw [List.take_length]; exact hst
      have h0 : (ps.take 0).foldl hopP acc = acc := rfl
      have K2 := Lib.hid k2; have HPS := Lib.hid hps; have HFT := Lib.hid hft; have HFL := Lib.hid hfl; have HFIN := Lib.hid hfin; have H0 := Lib.hid h0
      clear k2 hst hv hpt hps hft hfl hfin h0 HSTEP HML HLEN
      go_wp2_with fail
      refine (K2.out _).mono ?_
      rintro e w3 ⟨a3, c3, rfl, ho3, hb3⟩
      simp only at ho3 ⊢
      have hB3 := hbw.trans (hb3.mono hbw.size)
      have HO3 := Lib.hid (HO.out.below hb3)
      have HP3 := Lib.hid (HO.out.beside hb3 ho3)
      clear ho3 hb3 hbw HO c1 K2
      go_wp2_with fail
      obtain ⟨wo, rfl⟩ : ∃ wo : World, wo = wr := ⟨_, rfl⟩
      go_loopw [25, 3] (fun j out wi => ∃ m : Nat, m ≤ ps.length ∧ j = .int .i64 m ∧ Hid (HopSt w.heap.size out ((ps.take m).foldl hopP acc) (some ⟨b, o, none⟩) vs wi) ∧ Hid (HopSt w.heap.size out ((ps.take m).foldl hopP acc) a3 ps wi) ∧ Below w.heap.size w wi) (fun j _ _ => ps.length - (intOf j).toNat)
      case atStart => exact ⟨0, Nat.zero_le _, rfl, by rw [H0.out]; exact HO3, by rw [H0.out]; exact HP3, hB3⟩
      case round =>
        clear HO3 HP3 hB3 H0
        obtain ⟨m, hm, rfl, HO, HP, hbi⟩ := hrel
        obtain ⟨pa, pc, rfl⟩ := HO.out.1.shape
        have hal2 := HFL.out m
        by_cases hlm : m < ps.length
        · obtain ⟨b2, o2, rfl, hl2, c2⟩ := HP.out.2.1.str_at (k := m) hlm
          have hpp := HPS.out ps[m] (List.getElem_mem _)
          have hft := HFT.out m hlm
          generalize ps[m] = p at *
          have hll : (lowerL p).length ≤ 1000000 := by rw [lower_length]; exact hpp
          have k4 := fun w => lower_any ⟨p.toArray⟩ w (by rw [Lib.size_eq]; exact hpp)
          simp only at k4
          have hft2 : (ps.take (m + 1)).foldl hopP acc = bif tokenL (lowerL p) && !((ps.take m).foldl hopP acc).contains (lowerL p) then (ps.take m).foldl hopP acc ++ [lowerL p] else (ps.take m).foldl hopP acc := hft
          clear hft
          generalize lowerL p = q at *
          have k5 := fun w => token_any ⟨q.toArray⟩ w (by rw [Lib.size_eq]; exact hll)
          simp only at k5
          have hrest : ∀ x, (ps.take (m + 1)).foldl hopP acc = x → Hid ((ps.take (m + 1)).foldl hopP acc = x) := fun x h => Lib.hid h
          generalize (ps.take m).foldl hopP acc = ac at *
          have hal3 : ac.length ≤ 1000000000 := by omega
          have k6 := fun (a : Option Addr) (c : Nat) w h => contains_any a ac.length c ac q w h (by omega)
          cases htk : tokenL q
          · rw [htk, Bool.false_and, cond_false] at hft2
            rw [htk] at k5
            have HN := Lib.hid hft2; have K4 := Lib.hid k4; have K5 := Lib.hid k5
            clear hft2 k4 k5 k6 hrest htk hpp hll
            go_wp2_with fail
            refine (K4.out _).mono ?_
            rintro e w4 ⟨rfl, hb4⟩
            have hB4 := hbi.trans (hb4.mono hbi.size)
            have HO4 : Hid (HopSt w.heap.size (.slice pa ac.length pc) ((ps.take (m + 1)).foldl hopP acc) (some ⟨b, o, none⟩) vs w4) := by rw [HN.out]; exact Lib.hid (HO.out.below hb4)
            have HP4 : Hid (HopSt w.heap.size (.slice pa ac.length pc) ((ps.take (m + 1)).foldl hopP acc) (some ⟨b2, o2, none⟩) ps w4) := by rw [HN.out]; exact Lib.hid (HP.out.below hb4)
            clear HO HP hb4 c2
            go_wp2_with fail
            refine (K5.out _).mono ?_
            rintro e w5 ⟨rfl, rfl⟩
            go_wp2
            go_roundw
            case rel => exact ⟨m + 1, by omega, by go_num, HO4, HP4, hB4⟩
            case measure => simp [intOf]; omega
          · rw [htk] at k5
            rw [htk, Bool.true_and] at hft2
            cases hct : ac.contains q
            · rw [hct] at k6
              rw [hct, Bool.not_false, cond_true] at hft2
              have HN := Lib.hid hft2; have K4 := Lib.hid k4; have K5 := Lib.hid k5; have K6 := Lib.hid k6
              clear hft2 k4 k5 k6 hrest htk hct hpp hll
              go_wp2_with fail
              refine (K4.out _).mono ?_
              rintro e w4 ⟨rfl, hb4⟩
              have hB4 := hbi.trans (hb4.mono hbi.size)
              have HO4 := Lib.hid (HO.out.below hb4)
              have HP4 := Lib.hid (HP.out.below hb4)
              clear HO HP hb4 c2
              go_wp2_with fail
              refine (K5.out _).mono ?_
              rintro e w5 ⟨rfl, rfl⟩
              go_wp2_with fail
              refine (K6.out _ _ _ HO4.out.1.rd.2).mono ?_
              rintro e w6 ⟨rfl, rfl⟩
              go_wp2_with (at_builtin; refine app_str w.heap.size q HO4.out.1 hB4.size hal3 rfl _ _ rfl rfl rfl ?_)
              intro v' w7 hO7 hb7 hfar7
              have hB7 := hB4.trans hb7
              have HO7 : Hid (HopSt w.heap.size v' ((ps.take (m + 1)).foldl hopP acc) (some ⟨b, o, none⟩) vs w7) := by rw [HN.out]; exact Lib.hid (HO4.out.far hO7 hfar7)
              have HP7 : Hid (HopSt w.heap.size v' ((ps.take (m + 1)).foldl hopP acc) (some ⟨b2, o2, none⟩) ps w7) := by rw [HN.out]; exact Lib.hid (HP4.out.far hO7 hfar7)
              clear hO7 hb7 hfar7 HO4 HP4
              go_wp2
              go_roundw
              case rel => exact ⟨m + 1, by omega, by go_num, HO7, HP7, hB7⟩
              case measure => simp [intOf]; omega
            · rw [hct] at k6
              rw [hct, Bool.not_true, cond_false] at hft2
              have HN := Lib.hid hft2; have K4 := Lib.hid k4; have K5 := Lib.hid k5; have K6 := Lib.hid k6
              clear hft2 k4 k5 k6 hrest htk hct hpp hll
              go_wp2_with fail
              refine (K4.out _).mono ?_
              rintro e w4 ⟨rfl, hb4⟩
              have hB4 := hbi.trans (hb4.mono hbi.size)
              have hr4 := (HO.out.below hb4).1.rd.2
              have HO4 : Hid (HopSt w.heap.size (.slice pa ac.length pc) ((ps.take (m + 1)).foldl hopP acc) (some ⟨b, o, none⟩) vs w4) := by rw [HN.out]; exact Lib.hid (HO.out.below hb4)
              have HP4 : Hid (HopSt w.heap.size (.slice pa ac.length pc) ((ps.take (m + 1)).foldl hopP acc) (some ⟨b2, o2, none⟩) ps w4) := by rw [HN.out]; exact Lib.hid (HP.out.below hb4)
              clear HO HP hb4 c2
              go_wp2_with fail
              refine (K5.out _).mono ?_
              rintro e w5 ⟨rfl, rfl⟩
              go_wp2_with fail
              refine (K6.out _ _ _ hr4).mono ?_
              rintro e w6 ⟨rfl, rfl⟩
              go_wp2
              go_roundw
              case rel => exact ⟨m + 1, by omega, by go_num, HO4, HP4, hB4⟩
              case measure => simp [intOf]; omega
        · have hme : m = ps.length := by omega
          subst hme
          have HN : Hid (HopSt w.heap.size (.slice pa ((ps.take ps.length).foldl hopP acc).length pc) (hopVs hop9 (vs.take (k + 1))) (some ⟨b, o, none⟩) vs wr) := by rw [HFIN.out]; exact HO
          clear HO HP HFT HFL HFIN HPS
          go_wp2
          go_roundw
          case rel => exact ⟨k + 1, by omega, by go_num, HN, hbi⟩
          case measure => simp [intOf]; omega
    · have hke : k = vs.length := by omega
      subst hke
      have hfin := HH.out
      clear HSTEP HML HLEN HH
      generalize hopVs hop9 (vs.take vs.length) = q at *
      subst hfin
      go_wp2
      go_ret
      exact ⟨oa, oc, rfl, HO.out.1, hbw⟩
end Go.Proofs.YthppcaoldobocaaDoor
