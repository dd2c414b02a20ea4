/- The walk of the document's Hop (layer 4). -/
import Derived.Test.YthppcaoldobocaaDoorHop04
import Derived.Test.YthppcaoldobocaaDoorDel04
namespace Go.Proofs.YthppcaoldobocaaDoor
open Go.RowKit
set_option maxRecDepth 100000

theorem hopP_mem (M : Nat) (acc : List (List UInt8)) (p : List UInt8) (ha : ∀ l ∈ acc, l.length ≤ M) (hp : p.length ≤ M) : ∀ l ∈ hopP acc p, l.length ≤ M := by
  unfold hopP
  cases (tokenL (lowerL p) && !acc.contains (lowerL p))
  · exact ha
  · intro l hl
    rcases List.mem_append.1 hl with h | h
    · exact ha l h
    · rw [List.mem_singleton.1 h, lower_length]; exact hp
theorem hopPs_mem (M : Nat) : ∀ (ps acc : List (List UInt8)), (∀ l ∈ acc, l.length ≤ M) → (∀ p ∈ ps, p.length ≤ M) → ∀ l ∈ ps.foldl hopP acc, l.length ≤ M
  | [], _, ha, _ => ha
  | p :: r, acc, ha, hp => hopPs_mem M r (hopP acc p) (hopP_mem M acc p ha (hp p (by simp))) (fun q hq => hp q (by simp [hq]))
theorem hopVs_mem (M : Nat) : ∀ (vs acc : List (List UInt8)), (∀ l ∈ acc, l.length ≤ M) → (∀ v ∈ vs, v.length ≤ M) → ∀ l ∈ hopVs acc vs, l.length ≤ M
  | [], _, ha, _ => ha
  | v :: r, acc, ha, hv => hopVs_mem M r (hopV acc v) (hopPs_mem M _ acc ha (fun p hp => by have h1 := total_mem hp; have h2 := split_total 44 v; have h3 := hv v (by simp); omega)) (fun q hq => hv q (by simp [hq]))

set_option maxHeartbeats 16000000 in
theorem rhop_any (A : Option Addr) (n c : Nat) (xs : List Fld) (w : World) (hr : Rd A n 2 (fldsV xs) w) (hn : n ≤ 10000) (hs : sumF xs ≤ 1000000) :
    Calls Tryd.prog 31 #[.slice A n c] w (TextsPost w (hopL xs)) := by
  have hxn := hr.fld
  obtain ⟨W1, hW1⟩ : ∃ W1, w.alloc (.cells (strsV hop9).toArray 9) = W1 := ⟨_, rfl⟩
  have hB1 : Below w.heap.size w W1 := by rw [← hW1]; exact (Below.refl w.heap.size w).alloc (Nat.le_refl _) _
  have hO0 : OwnS w.heap.size (.slice (some ⟨w.heap.size, 0, none⟩) 9 9) hop9 W1 := by rw [← hW1]; exact OwnS.new w hop9 (by decide)
  have hW2 : w.alloc (.cells #[.string ⟨#[99, 111, 110, 110, 101, 99, 116, 105, 111, 110]⟩, .string ⟨#[107, 101, 101, 112, 45, 97, 108, 105, 118, 101]⟩, .string ⟨#[112, 114, 111, 120, 121, 45, 99, 111, 110, 110, 101, 99, 116, 105, 111, 110]⟩, .string ⟨#[116, 101]⟩, .string ⟨#[116, 114, 97, 105, 108, 101, 114]⟩, .string ⟨#[116, 114, 97, 110, 115, 102, 101, 114, 45, 101, 110, 99, 111, 100, 105, 110, 103]⟩, .string ⟨#[117, 112, 103, 114, 97, 100, 101]⟩, .string ⟨#[112, 114, 111, 120, 121, 45, 97, 117, 116, 104, 101, 110, 116, 105, 99, 97, 116, 101]⟩, .string ⟨#[112, 114, 111, 120, 121, 45, 97, 117, 116, 104, 111, 114, 105, 122, 97, 116, 105, 111, 110]⟩] 9) = W1 := hW1
  have k1 := rvalues_any A n c xs ⟨connW.toArray⟩ W1 (hr.below hB1) (by omega) (fun f hf => by have := sumF_mem hf; omega) (by decide)
  have hvl := valuesL_le xs connW
  have hvt := total_values xs connW
  have hH : hopVs hop9 ((valuesL xs connW).take (valuesL xs connW).length) = hopL xs := by rw [List.take_length]; rfl
  simp only at k1
  have hcw : (⟨connW.toArray⟩ : ByteArray) = ⟨#[99, 111, 110, 110, 101, 99, 116, 105, 111, 110]⟩ := rfl
  rw [hcw] at k1
  generalize hopL xs = tot at *
  generalize valuesL xs connW = vs at *
  have hlen : ∀ k, (hopVs hop9 (vs.take k)).length ≤ 9 + 64 * 10000 := by
    intro k
    have h2 := hopVs_le (vs.take k) hop9
    have h4 : hop9.length = 9 := rfl
    have h5 : (vs.take k).length ≤ vs.length := by rw [List.length_take]; omega
    omega
  have hml : ∀ v ∈ vs, v.length ≤ 1000000 := fun v hv => by have := total_mem hv; omega
  have hstep : ∀ k (h : k < vs.length), hopVs hop9 (vs.take (k + 1)) = (splitL 44 vs[k]).1.foldl hopP (hopVs hop9 (vs.take k)) := fun k h => foldl_take hopV hop9 vs k h
  have h00 : hopVs hop9 (vs.take 0) = hop9 := rfl
  have hvn : vs.length ≤ 10000 := by omega
  have HW2 := Lib.hid hW2; have HO0 := Lib.hid hO0; have K1 := Lib.hid k1; have HLEN := Lib.hid hlen; have HML := Lib.hid hml; have HSTEP := Lib.hid hstep; have HH := Lib.hid hH; have H00 := Lib.hid h00
  clear hW1 hW2 hO0 k1 hvl hvt hlen hml hstep hH hr hs hxn hcw h00
  go_enter Tryd.func31, Tryd.ntmps31
  go_wp2_with fail
  rw [HW2.out]
  refine K1.out.mono ?_
  rintro e w2 ⟨a2, c2, rfl, ho2, hb2⟩
  have hS : HopSt w.heap.size (.slice (some ⟨w.heap.size, 0, none⟩) 9 9) hop9 a2 vs w2 := ⟨HO0.out.below hb2, ho2.rd.2, Sep.new HO0.out (own_new ho2)⟩
  have HS := Lib.hid hS
  have hB2 := bt hB1 hb2
  clear hS ho2 hb2 K1 HO0 HW2
  go_wp2_with fail
  go_loopw [5, 3] (fun i out wr => ∃ k : Nat, k ≤ vs.length ∧ i = .int .i64 k ∧ Hid (HopSt w.heap.size out (hopVs hop9 (vs.take k)) a2 vs wr) ∧ Hid (Low (hopVs hop9 (vs.take k))) ∧ Below w.heap.size w wr) (fun i _ _ => vs.length - (intOf i).toNat)
  case atStart => exact ⟨0, Nat.zero_le _, rfl, by rw [H00.out]; exact HS, by rw [H00.out]; exact Lib.hid low9, hB2⟩
  case round =>
    clear HS hB2 H00
    obtain ⟨k, hk, rfl, HO, HLOW, hbw⟩ := hrel
    obtain ⟨oa, oc, rfl⟩ := HO.out.1.shape
    have hal := HLEN.out k
    by_cases hlt : k < vs.length
    · obtain ⟨b, o, rfl, hl, c1⟩ := HO.out.2.1.str_at (k := k) hlt
      have hst := HSTEP.out k hlt
      have hv := HML.out vs[k] (List.getElem_mem _)
      generalize vs[k] = v at *
      have k2 := fun w => rsplit_any ⟨v.toArray⟩ 44 w (by rw [Lib.size_eq]; exact hv)
      simp only at k2
      have hfew := split_few 44 v
      have hbad := split_bad 44 v
      have hpt := split_total 44 v
      generalize splitL 44 v = r at *
      obtain ⟨ps, er⟩ := r
      simp only at hst hfew hpt hbad
      have hbad2 : 0 < ps.length → (er == 0) = true := by
        intro h
        rcases hbad with h1 | h1
        · rw [h1]; rfl
        · rw [h1] at h; simp at h
      have HBAD := Lib.hid hbad2
      clear hbad hbad2
      have hacm : ∀ l ∈ hopVs hop9 (vs.take k), l.length ≤ 1000000 := hopVs_mem 1000000 (vs.take k) hop9 (by decide) (fun v hv => HML.out v (List.mem_of_mem_take hv))
      generalize hopVs hop9 (vs.take k) = acc at *
      have hps : ∀ p ∈ ps, p.length ≤ 1000000 := fun p hp => by have := total_mem hp; omega
      have hft : ∀ m (h : m < ps.length), (ps.take (m + 1)).foldl hopP acc = hopP ((ps.take m).foldl hopP acc) ps[m] := fun m h => foldl_take hopP acc ps m h
      have hfl : ∀ m, ((ps.take m).foldl hopP acc).length ≤ 1000000 := by
        intro m
        have h1 := hopPs_le (ps.take m) acc
        have h2 : (ps.take m).length ≤ ps.length := by rw [List.length_take]; omega
        omega
      have hfin : hopVs hop9 (vs.take (k + 1)) = (ps.take ps.length).foldl hopP acc := by rw [List.take_length]; exact hst
      have h0 : (ps.take 0).foldl hopP acc = acc := rfl
      have hmem : ∀ m, ∀ l ∈ (ps.take m).foldl hopP acc, l.length ≤ 1000000 := fun m l hl' => hopPs_mem 1000000 (ps.take m) acc hacm (fun p hp => hps p (List.mem_of_mem_take hp)) l hl'
      have HMEM := Lib.hid hmem
      clear hmem hacm
      have K2 := Lib.hid k2; have HPS := Lib.hid hps; have HFT := Lib.hid hft; have HFL := Lib.hid hfl; have HFIN := Lib.hid hfin; have H0 := Lib.hid h0
      clear k2 hst hv hpt hps hft hfl hfin h0 HSTEP HML HLEN
      go_wp2_with fail
      refine (K2.out _).mono ?_
      rintro e w3 ⟨a3, c3, rfl, ho3, hb3⟩
      simp only at ho3 ⊢
      have hB3 := hbw.trans (hb3.mono hbw.size)
      have HO3 := Lib.hid (HO.out.below hb3)
      have HP3 := Lib.hid (HO.out.beside hb3 ho3)
      clear ho3 hb3 hbw HO c1 K2
      go_wp2_with fail
      obtain ⟨wo, rfl⟩ : ∃ wo : World, wo = wr := ⟨_, rfl⟩
      go_loopw [8, 3] (fun j out wi => ∃ m : Nat, m ≤ ps.length ∧ j = .int .i64 m ∧ Hid (HopSt w.heap.size out ((ps.take m).foldl hopP acc) (some ⟨b, o, none⟩) vs wi) ∧ Hid (HopSt w.heap.size out ((ps.take m).foldl hopP acc) a3 ps wi) ∧ Hid (Low ((ps.take m).foldl hopP acc)) ∧ Below w.heap.size w wi) (fun j _ _ => ps.length - (intOf j).toNat)
      case atStart => exact ⟨0, Nat.zero_le _, rfl, by rw [H0.out]; exact HO3, by rw [H0.out]; exact HP3, by rw [H0.out]; exact HLOW, hB3⟩
      case round =>
        clear HO3 HP3 hB3 H0 HLOW
        obtain ⟨m, hm, rfl, HO, HP, HLOW, hbi⟩ := hrel
        obtain ⟨pa, pc, rfl⟩ := HO.out.1.shape
        have hal2 := HFL.out m
        by_cases hlm : m < ps.length
        · obtain ⟨b2, o2, rfl, hl2, c2⟩ := HP.out.2.1.str_at (k := m) hlm
          have hpp := HPS.out ps[m] (List.getElem_mem _)
          have hft := HFT.out m hlm
          have hlow2 := HLOW.out.step ps[m]
          have hhas := has_low HLOW.out ps[m]
          have hbd := HBAD.out (by omega)
          generalize ps[m] = p at *
          rw [← hft] at hlow2
          have k4 := fun w => rlower_any ⟨p.toArray⟩ w (by rw [Lib.size_eq]; exact hpp)
          have k5 := fun w => rtoken_any ⟨p.toArray⟩ w (by rw [Lib.size_eq]; exact hpp)
          simp only at k4 k5
          have hft2 : (ps.take (m + 1)).foldl hopP acc = bif tokenL p && !((ps.take m).foldl hopP acc).contains (lowerL p) then (ps.take m).foldl hopP acc ++ [lowerL p] else (ps.take m).foldl hopP acc := by rw [← token_low p]; exact hft
          clear hft
          have HL2 := Lib.hid hlow2
          have hllow : ∀ l ∈ (ps.take m).foldl hopP acc, l.length ≤ 1000000 := HMEM.out m
          have k6 := fun (a : Option Addr) (c : Nat) w h => rhas_any a ((ps.take m).foldl hopP acc).length c ((ps.take m).foldl hopP acc) p w h (by omega) hllow hpp
          rw [hhas] at k6
          clear hhas hlow2 hllow HLOW
          generalize (ps.take m).foldl hopP acc = ac at *
          generalize lowerL p = q at *
          have hal3 : ac.length ≤ 1000000000 := by omega
          have t1 : decide ((m : Int) < (ps.length : Int)) = true := by simp; omega
          cases htk : tokenL p
          · rw [htk, Bool.false_and, cond_false] at hft2
            rw [htk] at k5
            have HN := Lib.hid hft2; have K5 := Lib.hid k5
            have HO4 : Hid (HopSt w.heap.size (.slice pa ac.length pc) ((ps.take (m + 1)).foldl hopP acc) (some ⟨b, o, none⟩) vs wr) := by rw [HN.out]; exact HO
            have HP4 : Hid (HopSt w.heap.size (.slice pa ac.length pc) ((ps.take (m + 1)).foldl hopP acc) (some ⟨b2, o2, none⟩) ps wr) := by rw [HN.out]; exact HP
            clear hft2 k4 k5 k6 htk hpp HO HP
            go_wp2_with fail
            refine (K5.out _).mono ?_
            rintro e w5 ⟨rfl, rfl⟩
            go_wp2
            go_roundw
            case rel => exact ⟨m + 1, by omega, by go_num, HO4, HP4, HL2, hbi⟩
            case measure => simp [intOf]; omega
          · rw [htk] at k5
            rw [htk, Bool.true_and] at hft2
            cases hct : ac.contains q
            · rw [hct] at k6
              rw [hct, Bool.not_false, cond_true] at hft2
              have HN := Lib.hid hft2; have K4 := Lib.hid k4; have K5 := Lib.hid k5; have K6 := Lib.hid k6
              clear hft2 k4 k5 k6 htk hct hpp
              go_wp2_with fail
              refine (K5.out _).mono ?_
              rintro e w5 ⟨rfl, rfl⟩
              go_wp2_with fail
              refine (K6.out _ _ _ HO.out.1.rd.2).mono ?_
              rintro e w6 ⟨rfl, hb6⟩
              have hB6 := hbi.trans (hb6.mono hbi.size)
              have d2 := (hb6.cell (p := ⟨b2, o2 + m, none⟩) hl2).trans c2
              have HO6 := Lib.hid (HO.out.below hb6)
              have HP6 := Lib.hid (HP.out.below hb6)
              clear HO HP hb6 c2
              go_wp2_with fail
              refine (K4.out _).mono ?_
              rintro e w4 ⟨rfl, hb4⟩
              have hB4 := hB6.trans (hb4.mono hB6.size)
              have HO4 := Lib.hid (HO6.out.below hb4)
              have HP4 := Lib.hid (HP6.out.below hb4)
              clear HO6 HP6 hb4 d2
              go_wp2_with (at_builtin; refine app_str w.heap.size q HO4.out.1 hB4.size hal3 rfl _ _ rfl rfl rfl ?_)
              intro v' w7 hO7 hb7 hfar7
              have hB7 := hB4.trans hb7
              have HO7 : Hid (HopSt w.heap.size v' ((ps.take (m + 1)).foldl hopP acc) (some ⟨b, o, none⟩) vs w7) := by rw [HN.out]; exact Lib.hid (HO4.out.far hO7 hfar7)
              have HP7 : Hid (HopSt w.heap.size v' ((ps.take (m + 1)).foldl hopP acc) (some ⟨b2, o2, none⟩) ps w7) := by rw [HN.out]; exact Lib.hid (HP4.out.far hO7 hfar7)
              clear hO7 hb7 hfar7 HO4 HP4
              go_wp2
              go_roundw
              case rel => exact ⟨m + 1, by omega, by go_num, HO7, HP7, HL2, hB7⟩
              case measure => simp [intOf]; omega
            · rw [hct] at k6
              rw [hct, Bool.not_true, cond_false] at hft2
              have HN := Lib.hid hft2; have K5 := Lib.hid k5; have K6 := Lib.hid k6
              clear hft2 k4 k5 k6 htk hct hpp
              go_wp2_with fail
              refine (K5.out _).mono ?_
              rintro e w5 ⟨rfl, rfl⟩
              go_wp2_with fail
              refine (K6.out _ _ _ HO.out.1.rd.2).mono ?_
              rintro e w6 ⟨rfl, hb6⟩
              have hB6 := hbi.trans (hb6.mono hbi.size)
              have HO4 : Hid (HopSt w.heap.size (.slice pa ac.length pc) ((ps.take (m + 1)).foldl hopP acc) (some ⟨b, o, none⟩) vs w6) := by rw [HN.out]; exact Lib.hid (HO.out.below hb6)
              have HP4 : Hid (HopSt w.heap.size (.slice pa ac.length pc) ((ps.take (m + 1)).foldl hopP acc) (some ⟨b2, o2, none⟩) ps w6) := by rw [HN.out]; exact Lib.hid (HP.out.below hb6)
              clear HO HP hb6 c2
              go_wp2
              go_roundw
              case rel => exact ⟨m + 1, by omega, by go_num, HO4, HP4, HL2, hB6⟩
              case measure => simp [intOf]; omega
        · have hme : m = ps.length := by omega
          subst hme
          have HN : Hid (HopSt w.heap.size (.slice pa ((ps.take ps.length).foldl hopP acc).length pc) (hopVs hop9 (vs.take (k + 1))) (some ⟨b, o, none⟩) vs wr) := by rw [HFIN.out]; exact HO
          have HL2 : Hid (Low (hopVs hop9 (vs.take (k + 1)))) := by rw [HFIN.out]; exact HLOW
          have t1 : decide ((ps.length : Int) < (ps.length : Int)) = false := by simp
          clear HO HP HFT HFL HFIN HPS HLOW
          go_wp2
          go_roundw
          case rel => exact ⟨k + 1, by omega, by go_num, HN, HL2, hbi⟩
          case measure => simp [intOf]; omega
    · have hke : k = vs.length := by omega
      subst hke
      have hfin := HH.out
      clear HSTEP HML HLEN HH
      generalize hopVs hop9 (vs.take vs.length) = q at *
      subst hfin
      go_wp2
      go_ret
      exact ⟨oa, oc, rfl, HO.out.1, hbw⟩
end Go.Proofs.YthppcaoldobocaaDoor
