/- Joined out of the texts RHop04, Clean04, WithSpec, RefWith, EtagA, EtagP, DateSpec, MaxL, Date1, Date2, Date3, Date4, DateOk (wip/tools/merge.py). -/
import Derived.Test.YtgmmjhcklhajiaaGreatDoorPm1
import Derived.Lib.Index
import Derived.Test.YtgmmjhcklhajiaaGreatDoorShelf
import Derived.RegionTactic
import Derived.BigRegion
import Derived.Deep.RegionHeld3
/- The walk of the document's Hop (layer 4). -/
namespace Go.Proofs.YtgmmjhcklhajiaaGreatDoor
open Go.RowKit
set_option maxRecDepth 100000

theorem hopP_mem (M : Nat) (acc : List (List UInt8)) (p : List UInt8) (ha : ∀ l ∈ acc, l.length ≤ M) (hp : p.length ≤ M) : ∀ l ∈ hopP acc p, l.length ≤ M := by
  unfold hopP
  cases (tokenL (lowerL p) && !acc.contains (lowerL p))
  · exact ha
  · intro l hl
    rcases List.mem_append.1 hl with h | h
    · exact ha l h
    · rw [List.mem_singleton.1 h, lower_length]; exact hp
theorem hopPs_mem (M : Nat) : ∀ (ps acc : List (List UInt8)), (∀ l ∈ acc, l.length ≤ M) → (∀ p ∈ ps, p.length ≤ M) → ∀ l ∈ ps.foldl hopP acc, l.length ≤ M
  | [], _, ha, _ => ha
  | p :: r, acc, ha, hp => hopPs_mem M r (hopP acc p) (hopP_mem M acc p ha (hp p (by simp))) (fun q hq => hp q (by simp [hq]))
theorem hopVs_mem (M : Nat) : ∀ (vs acc : List (List UInt8)), (∀ l ∈ acc, l.length ≤ M) → (∀ v ∈ vs, v.length ≤ M) → ∀ l ∈ hopVs acc vs, l.length ≤ M
  | [], _, ha, _ => ha
  | v :: r, acc, ha, hv => hopVs_mem M r (hopV acc v) (hopPs_mem M _ acc ha (fun p hp => by have h1 := total_mem hp; have h2 := split_total 44 v; have h3 := hv v (by simp); omega)) (fun q hq => hv q (by simp [hq]))

set_option maxHeartbeats 16000000 in
theorem rhop_any (A : Option Addr) (n c : Nat) (xs : List Fld) (w : World) (hr : Rd A n 2 (fldsV xs) w) (hn : n ≤ 10000) (hs : sumF xs ≤ 1000000) :
    Calls Tryz.prog 50 #[.slice A n c] w (TextsPost w (hopL xs)) := by
  have hxn := hr.fld
  obtain ⟨W1, hW1⟩ : ∃ W1, w.alloc (.cells (strsV hop9).toArray 9) = W1 := ⟨_, rfl⟩
  have hB1 : Below w.heap.size w W1 := by rw [← hW1]; exact (Below.refl w.heap.size w).alloc (Nat.le_refl _) _
  have hO0 : OwnS w.heap.size (.slice (some ⟨w.heap.size, 0, none⟩) 9 9) hop9 W1 := by rw [← hW1]; exact OwnS.new w hop9 (by decide)
  have hW2 : w.alloc (.cells #[.string ⟨#[99, 111, 110, 110, 101, 99, 116, 105, 111, 110]⟩, .string ⟨#[107, 101, 101, 112, 45, 97, 108, 105, 118, 101]⟩, .string ⟨#[112, 114, 111, 120, 121, 45, 99, 111, 110, 110, 101, 99, 116, 105, 111, 110]⟩, .string ⟨#[116, 101]⟩, .string ⟨#[116, 114, 97, 105, 108, 101, 114]⟩, .string ⟨#[116, 114, 97, 110, 115, 102, 101, 114, 45, 101, 110, 99, 111, 100, 105, 110, 103]⟩, .string ⟨#[117, 112, 103, 114, 97, 100, 101]⟩, .string ⟨#[112, 114, 111, 120, 121, 45, 97, 117, 116, 104, 101, 110, 116, 105, 99, 97, 116, 101]⟩, .string ⟨#[112, 114, 111, 120, 121, 45, 97, 117, 116, 104, 111, 114, 105, 122, 97, 116, 105, 111, 110]⟩] 9) = W1 := hW1
  have k1 := rvalues_any A n c xs ⟨connW.toArray⟩ W1 (hr.below hB1) (by omega) (fun f hf => by have := sumF_mem hf; omega) (by decide)
  have hvl := valuesL_le xs connW
  have hvt := total_values xs connW
  have hH : hopVs hop9 ((valuesL xs connW).take (valuesL xs connW).length) = hopL xs := by rw [List.take_length]; rfl
  simp only at k1
  have hcw : (⟨connW.toArray⟩ : ByteArray) = ⟨#[99, 111, 110, 110, 101, 99, 116, 105, 111, 110]⟩ := rfl
  rw [hcw] at k1
  generalize hopL xs = tot at *
  generalize valuesL xs connW = vs at *
  have hlen : ∀ k, (hopVs hop9 (vs.take k)).length ≤ 9 + 64 * 10000 := by
    intro k
    have h2 := hopVs_le (vs.take k) hop9
    have h4 : hop9.length = 9 := rfl
    have h5 : (vs.take k).length ≤ vs.length := by rw [List.length_take]; omega
    omega
  have hml : ∀ v ∈ vs, v.length ≤ 1000000 := fun v hv => by have := total_mem hv; omega
  have hstep : ∀ k (h : k < vs.length), hopVs hop9 (vs.take (k + 1)) = (splitL 44 vs[k]).1.foldl hopP (hopVs hop9 (vs.take k)) := fun k h => foldl_take hopV hop9 vs k h
  have h00 : hopVs hop9 (vs.take 0) = hop9 := rfl
  have hvn : vs.length ≤ 10000 := by omega
  have HW2 := Lib.hid hW2; have HO0 := Lib.hid hO0; have K1 := Lib.hid k1; have HLEN := Lib.hid hlen; have HML := Lib.hid hml; have HSTEP := Lib.hid hstep; have HH := Lib.hid hH; have H00 := Lib.hid h00
  clear hW1 hW2 hO0 k1 hvl hvt hlen hml hstep hH hr hs hxn hcw h00
  go_enter Tryz.func50, Tryz.ntmps50
  go_wp2_with fail
  rw [HW2.out]
  refine K1.out.mono ?_
  rintro e w2 ⟨a2, c2, rfl, ho2, hb2⟩
  have hS : HopSt w.heap.size (.slice (some ⟨w.heap.size, 0, none⟩) 9 9) hop9 a2 vs w2 := ⟨HO0.out.below hb2, ho2.rd.2, Sep.new HO0.out (own_new ho2)⟩
  have HS := Lib.hid hS
  have hB2 := bt hB1 hb2
  clear hS ho2 hb2 K1 HO0 HW2
  go_wp2_with fail
  go_loopw [5, 3] (fun i out wr => ∃ k : Nat, k ≤ vs.length ∧ i = .int .i64 k ∧ Hid (HopSt w.heap.size out (hopVs hop9 (vs.take k)) a2 vs wr) ∧ Hid (Low (hopVs hop9 (vs.take k))) ∧ Below w.heap.size w wr) (fun i _ _ => vs.length - (intOf i).toNat)
  case atStart => exact ⟨0, Nat.zero_le _, rfl, by rw [H00.out]; exact HS, by rw [H00.out]; exact Lib.hid low9, hB2⟩
  case round =>
    clear HS hB2 H00
    obtain ⟨k, hk, rfl, HO, HLOW, hbw⟩ := hrel
    obtain ⟨oa, oc, rfl⟩ := HO.out.1.shape
    have hal := HLEN.out k
    by_cases hlt : k < vs.length
    · obtain ⟨b, o, rfl, hl, c1⟩ := HO.out.2.1.str_at (k := k) hlt
      have hst := HSTEP.out k hlt
      have hv := HML.out vs[k] (List.getElem_mem _)
      generalize vs[k] = v at *
      have k2 := fun w => rsplit_any ⟨v.toArray⟩ 44 w (by rw [Lib.size_eq]; exact hv)
      simp only at k2
      have hfew := split_few 44 v
      have hbad := split_bad 44 v
      have hpt := split_total 44 v
      generalize splitL 44 v = r at *
      obtain ⟨ps, er⟩ := r
      simp only at hst hfew hpt hbad
      have hbad2 : 0 < ps.length → (er == 0) = true := by
        intro h
        rcases hbad with h1 | h1
        · rw [h1]; rfl
        · rw [h1] at h; simp at h
      have HBAD := Lib.hid hbad2
      clear hbad hbad2
      have hacm : ∀ l ∈ hopVs hop9 (vs.take k), l.length ≤ 1000000 := hopVs_mem 1000000 (vs.take k) hop9 (by decide) (fun v hv => HML.out v (List.mem_of_mem_take hv))
      generalize hopVs hop9 (vs.take k) = acc at *
      have hps : ∀ p ∈ ps, p.length ≤ 1000000 := fun p hp => by have := total_mem hp; omega
      have hft : ∀ m (h : m < ps.length), (ps.take (m + 1)).foldl hopP acc = hopP ((ps.take m).foldl hopP acc) ps[m] := fun m h => foldl_take hopP acc ps m h
      have hfl : ∀ m, ((ps.take m).foldl hopP acc).length ≤ 1000000 := by
        intro m
        have h1 := hopPs_le (ps.take m) acc
        have h2 : (ps.take m).length ≤ ps.length := by rw [List.length_take]; omega
        omega
      have hfin : hopVs hop9 (vs.take (k + 1)) = (ps.take ps.length).foldl hopP acc := by rw [List.take_length]; exact hst
      have h0 : (ps.take 0).foldl hopP acc = acc := rfl
      have hmem : ∀ m, ∀ l ∈ (ps.take m).foldl hopP acc, l.length ≤ 1000000 := fun m l hl' => hopPs_mem 1000000 (ps.take m) acc hacm (fun p hp => hps p (List.mem_of_mem_take hp)) l hl'
      have HMEM := Lib.hid hmem
      clear hmem hacm
      have K2 := Lib.hid k2; have HPS := Lib.hid hps; have HFT := Lib.hid hft; have HFL := Lib.hid hfl; have HFIN := Lib.hid hfin; have H0 := Lib.hid h0
      clear k2 hst hv hpt hps hft hfl hfin h0 HSTEP HML HLEN
      go_wp2_with fail
      refine (K2.out _).mono ?_
      rintro e w3 ⟨a3, c3, rfl, ho3, hb3⟩
      simp only at ho3 ⊢
      have hB3 := hbw.trans (hb3.mono hbw.size)
      have HO3 := Lib.hid (HO.out.below hb3)
      have HP3 := Lib.hid (HO.out.beside hb3 ho3)
      clear ho3 hb3 hbw HO c1 K2
      go_wp2_with fail
      obtain ⟨wo, rfl⟩ : ∃ wo : World, wo = wr := ⟨_, rfl⟩
      go_loopw [8, 3] (fun j out wi => ∃ m : Nat, m ≤ ps.length ∧ j = .int .i64 m ∧ Hid (HopSt w.heap.size out ((ps.take m).foldl hopP acc) (some ⟨b, o, none⟩) vs wi) ∧ Hid (HopSt w.heap.size out ((ps.take m).foldl hopP acc) a3 ps wi) ∧ Hid (Low ((ps.take m).foldl hopP acc)) ∧ Below w.heap.size w wi) (fun j _ _ => ps.length - (intOf j).toNat)
      case atStart => exact ⟨0, Nat.zero_le _, rfl, by rw [H0.out]; exact HO3, by rw [H0.out]; exact HP3, by rw [H0.out]; exact HLOW, hB3⟩
      case round =>
        clear HO3 HP3 hB3 H0 HLOW
        obtain ⟨m, hm, rfl, HO, HP, HLOW, hbi⟩ := hrel
        obtain ⟨pa, pc, rfl⟩ := HO.out.1.shape
        have hal2 := HFL.out m
        by_cases hlm : m < ps.length
        · obtain ⟨b2, o2, rfl, hl2, c2⟩ := HP.out.2.1.str_at (k := m) hlm
          have hpp := HPS.out ps[m] (List.getElem_mem _)
          have hft := HFT.out m hlm
          have hlow2 := HLOW.out.step ps[m]
          have hhas := has_low HLOW.out ps[m]
          have hbd := HBAD.out (by omega)
          generalize ps[m] = p at *
          rw [← hft] at hlow2
          have k4 := fun w => rlower_any ⟨p.toArray⟩ w (by rw [Lib.size_eq]; exact hpp)
          have k5 := fun w => rtoken_any ⟨p.toArray⟩ w (by rw [Lib.size_eq]; exact hpp)
          simp only at k4 k5
          have hft2 : (ps.take (m + 1)).foldl hopP acc = bif tokenL p && !((ps.take m).foldl hopP acc).contains (lowerL p) then (ps.take m).foldl hopP acc ++ [lowerL p] else (ps.take m).foldl hopP acc := by rw [← token_low p]; exact hft
          clear hft
          have HL2 := Lib.hid hlow2
          have hllow : ∀ l ∈ (ps.take m).foldl hopP acc, l.length ≤ 1000000 := HMEM.out m
          have k6 := fun (a : Option Addr) (c : Nat) w h => rhas_any a ((ps.take m).foldl hopP acc).length c ((ps.take m).foldl hopP acc) p w h (by omega) hllow hpp
          rw [hhas] at k6
          clear hhas hlow2 hllow HLOW
          generalize (ps.take m).foldl hopP acc = ac at *
          generalize lowerL p = q at *
          have hal3 : ac.length ≤ 1000000000 := by omega
          have t1 : decide ((m : Int) < (ps.length : Int)) = true := by simp; omega
          cases htk : tokenL p
          · rw [htk, Bool.false_and, cond_false] at hft2
            rw [htk] at k5
            have HN := Lib.hid hft2; have K5 := Lib.hid k5
            have HO4 : Hid (HopSt w.heap.size (.slice pa ac.length pc) ((ps.take (m + 1)).foldl hopP acc) (some ⟨b, o, none⟩) vs wr) := by rw [HN.out]; exact HO
            have HP4 : Hid (HopSt w.heap.size (.slice pa ac.length pc) ((ps.take (m + 1)).foldl hopP acc) (some ⟨b2, o2, none⟩) ps wr) := by rw [HN.out]; exact HP
            clear hft2 k4 k5 k6 htk hpp HO HP
            go_wp2_with fail
            refine (K5.out _).mono ?_
            rintro e w5 ⟨rfl, rfl⟩
            go_wp2
            go_roundw
            case rel => exact ⟨m + 1, by omega, by go_num, HO4, HP4, HL2, hbi⟩
            case measure => simp [intOf]; omega
          · rw [htk] at k5
            rw [htk, Bool.true_and] at hft2
            cases hct : ac.contains q
            · rw [hct] at k6
              rw [hct, Bool.not_false, cond_true] at hft2
              have HN := Lib.hid hft2; have K4 := Lib.hid k4; have K5 := Lib.hid k5; have K6 := Lib.hid k6
              clear hft2 k4 k5 k6 htk hct hpp
              go_wp2_with fail
              refine (K5.out _).mono ?_
              rintro e w5 ⟨rfl, rfl⟩
              go_wp2_with fail
              refine (K6.out _ _ _ HO.out.1.rd.2).mono ?_
              rintro e w6 ⟨rfl, hb6⟩
              have hB6 := hbi.trans (hb6.mono hbi.size)
              have d2 := (hb6.cell (p := ⟨b2, o2 + m, none⟩) hl2).trans c2
              have HO6 := Lib.hid (HO.out.below hb6)
              have HP6 := Lib.hid (HP.out.below hb6)
              clear HO HP hb6 c2
              go_wp2_with fail
              refine (K4.out _).mono ?_
              rintro e w4 ⟨rfl, hb4⟩
              have hB4 := hB6.trans (hb4.mono hB6.size)
              have HO4 := Lib.hid (HO6.out.below hb4)
              have HP4 := Lib.hid (HP6.out.below hb4)
              clear HO6 HP6 hb4 d2
              go_wp2_with (at_builtin; refine app_str w.heap.size q HO4.out.1 hB4.size hal3 rfl _ _ rfl rfl rfl ?_)
              intro v' w7 hO7 hb7 hfar7
              have hB7 := hB4.trans hb7
              have HO7 : Hid (HopSt w.heap.size v' ((ps.take (m + 1)).foldl hopP acc) (some ⟨b, o, none⟩) vs w7) := by rw [HN.out]; exact Lib.hid (HO4.out.far hO7 hfar7)
              have HP7 : Hid (HopSt w.heap.size v' ((ps.take (m + 1)).foldl hopP acc) (some ⟨b2, o2, none⟩) ps w7) := by rw [HN.out]; exact Lib.hid (HP4.out.far hO7 hfar7)
              clear hO7 hb7 hfar7 HO4 HP4
              go_wp2
              go_roundw
              case rel => exact ⟨m + 1, by omega, by go_num, HO7, HP7, HL2, hB7⟩
              case measure => simp [intOf]; omega
            · rw [hct] at k6
              rw [hct, Bool.not_true, cond_false] at hft2
              have HN := Lib.hid hft2; have K5 := Lib.hid k5; have K6 := Lib.hid k6
              clear hft2 k4 k5 k6 htk hct hpp
              go_wp2_with fail
              refine (K5.out _).mono ?_
              rintro e w5 ⟨rfl, rfl⟩
              go_wp2_with fail
              refine (K6.out _ _ _ HO.out.1.rd.2).mono ?_
              rintro e w6 ⟨rfl, hb6⟩
              have hB6 := hbi.trans (hb6.mono hbi.size)
              have HO4 : Hid (HopSt w.heap.size (.slice pa ac.length pc) ((ps.take (m + 1)).foldl hopP acc) (some ⟨b, o, none⟩) vs w6) := by rw [HN.out]; exact Lib.hid (HO.out.below hb6)
              have HP4 : Hid (HopSt w.heap.size (.slice pa ac.length pc) ((ps.take (m + 1)).foldl hopP acc) (some ⟨b2, o2, none⟩) ps w6) := by rw [HN.out]; exact Lib.hid (HP.out.below hb6)
              clear HO HP hb6 c2
              go_wp2
              go_roundw
              case rel => exact ⟨m + 1, by omega, by go_num, HO4, HP4, HL2, hB6⟩
              case measure => simp [intOf]; omega
        · have hme : m = ps.length := by omega
          subst hme
          have HN : Hid (HopSt w.heap.size (.slice pa ((ps.take ps.length).foldl hopP acc).length pc) (hopVs hop9 (vs.take (k + 1))) (some ⟨b, o, none⟩) vs wr) := by rw [HFIN.out]; exact HO
          have HL2 : Hid (Low (hopVs hop9 (vs.take (k + 1)))) := by rw [HFIN.out]; exact HLOW
          have t1 : decide ((ps.length : Int) < (ps.length : Int)) = false := by simp
          clear HO HP HFT HFL HFIN HPS HLOW
          go_wp2
          go_roundw
          case rel => exact ⟨k + 1, by omega, by go_num, HN, HL2, hbi⟩
          case measure => simp [intOf]; omega
    · have hke : k = vs.length := by omega
      subst hke
      have hfin := HH.out
      clear HSTEP HML HLEN HH
      generalize hopVs hop9 (vs.take vs.length) = q at *
      subst hfin
      go_wp2
      go_ret
      exact ⟨oa, oc, rfl, HO.out.1, hbw⟩
end Go.Proofs.YtgmmjhcklhajiaaGreatDoor
/- The walks of Clean (layer 4), and of the document's. -/
namespace Go.Proofs.YtgmmjhcklhajiaaGreatDoor
open Go.RowKit
set_option maxRecDepth 100000

theorem hopL_mem (xs : List Fld) (hs : sumF xs ≤ 1000000) : ∀ l ∈ hopL xs, l.length ≤ 1000000 := by
  have hvt := total_values xs connW
  exact hopVs_mem 1000000 _ hop9 (by decide) (fun v hv => by have := total_mem hv; omega)
theorem hopL_le (xs : List Fld) : (hopL xs).length ≤ 9 + 64 * xs.length := by
  have h1 := hopVs_le (valuesL xs connW) hop9
  have h2 := valuesL_le xs connW
  have h3 : hop9.length = 9 := rfl
  unfold hopL; omega
end Go.Proofs.YtgmmjhcklhajiaaGreatDoor
/- What a 304 makes of an entry: the plain law. -/
namespace Go.Proofs.YtgmmjhcklhajiaaGreatDoor
open Go.RowKit

def own5 : List (List UInt8) := [[99, 111, 110, 116, 101, 110, 116, 45, 108, 101, 110, 103, 116, 104], [99, 111, 110, 116, 101, 110, 116, 45, 101, 110, 99, 111, 100, 105, 110, 103], [99, 111, 110, 116, 101, 110, 116, 45, 116, 121, 112, 101], [99, 111, 110, 116, 101, 110, 116, 45, 114, 97, 110, 103, 101], [118, 97, 114, 121]]
def dated2 : List (List UInt8) := [[97, 103, 101], [100, 97, 116, 101]]
/-- What a 304 brings. -/
def bringsL (rep : List Fld) : List Fld := delL rep (hopL rep ++ own5)
/-- The fields of an entry that is made new. -/
def withL (xs rep : List Fld) : List Fld := delL xs (dated2 ++ (bringsL rep).map (·.1)) ++ bringsL rep
theorem bringsL_le (rep : List Fld) : (bringsL rep).length ≤ rep.length := delL_le _ _
theorem delL_sum (xs : List Fld) (ns : List (List UInt8)) : sumF (delL xs ns) ≤ sumF xs := by
  unfold delL sumF
  induction xs with
  | nil => simp
  | cons x r ih =>
    rw [List.filter_cons, List.map_cons, List.sum_cons]
    split
    · rw [List.map_cons, List.sum_cons]; omega
    · omega
theorem delL_mem {xs : List Fld} {ns : List (List UInt8)} {f : Fld} (h : f ∈ delL xs ns) : f ∈ xs := (List.mem_filter.1 h).1

theorem hasL_app (a b : List (List UInt8)) (nm : List UInt8) : hasL (a ++ b) nm = (hasL a nm || hasL b nm) := by unfold hasL; exact List.any_append
theorem hasL_congr (ns : List (List UInt8)) {a b : List UInt8} (h : lowerL a = lowerL b) : hasL ns a = hasL ns b := by unfold hasL; rw [h]
theorem hasL_mem {ns : List (List UInt8)} {x nm : List UInt8} (h : x ∈ ns) (e : lowerL x = lowerL nm) : hasL ns nm = true := by
  unfold hasL; rw [List.any_eq_true]; exact ⟨x, h, by rw [e]; simp⟩
theorem delL_app (xs ys : List Fld) (ns : List (List UInt8)) : delL (xs ++ ys) ns = delL xs ns ++ delL ys ns := by unfold delL; exact List.filter_append ..
theorem delL_twice (xs : List Fld) (ns : List (List UInt8)) : delL (delL xs ns) ns = delL xs ns := by unfold delL; rw [List.filter_filter]; simp
theorem delL_all {bs : List Fld} {ns : List (List UInt8)} (h : ∀ f ∈ bs, hasL ns f.1 = true) : delL bs ns = [] := by
  unfold delL
  rw [List.filter_eq_nil_iff]
  intro f hf
  rw [h f hf]; simp
theorem with_twice (xs rep : List Fld) : withL (withL xs rep) rep = withL xs rep := by
  unfold withL
  rw [delL_app, delL_twice, delL_all (bs := bringsL rep), List.append_nil]
  intro f hf
  rw [hasL_app]
  rw [hasL_mem (ns := (bringsL rep).map (·.1)) (List.mem_map.2 ⟨f, hf, rfl⟩) rfl]
  simp
theorem with_none (xs : List Fld) : withL xs [] = delL xs dated2 := by
  have h : bringsL [] = [] := rfl
  unfold withL
  rw [h]; simp
theorem valuesL_app (xs ys : List Fld) (nm : List UInt8) : valuesL (xs ++ ys) nm = valuesL xs nm ++ valuesL ys nm := by unfold valuesL; rw [List.filter_append, List.map_append]
theorem valuesL_out {xs : List Fld} {nm : List UInt8} (h : ∀ f ∈ xs, (lowerL f.1 == lowerL nm) = false) : valuesL xs nm = [] := by
  unfold valuesL
  rw [List.filter_eq_nil_iff.2 (fun f hf => by rw [h f hf]; simp)]
  rfl
theorem valuesL_del_in {xs : List Fld} {ns : List (List UInt8)} {nm : List UInt8} (h : hasL ns nm = true) : valuesL (delL xs ns) nm = [] := by
  apply valuesL_out
  intro f hf
  have h2 := (List.mem_filter.1 hf).2
  cases e : (lowerL f.1 == lowerL nm)
  · rfl
  · rw [hasL_congr ns (beq_iff_eq.1 e), h] at h2
    simp at h2
theorem valuesL_del_out {xs : List Fld} {ns : List (List UInt8)} {nm : List UInt8} (h : hasL ns nm = false) : valuesL (delL xs ns) nm = valuesL xs nm := by
  unfold valuesL delL
  rw [List.filter_filter]
  congr 1
  apply List.filter_congr
  intro f _
  cases e : (lowerL f.1 == lowerL nm)
  · simp
  · rw [hasL_congr ns (beq_iff_eq.1 e), h]; simp
theorem has_brought (bs : List Fld) (nm : List UInt8) : hasL (bs.map (·.1)) nm = false → valuesL bs nm = [] := by
  intro h
  apply valuesL_out
  intro f hf
  cases e : (lowerL f.1 == lowerL nm)
  · rfl
  · rw [hasL_mem (List.mem_map.2 ⟨f, hf, rfl⟩) (beq_iff_eq.1 e)] at h
    cases h
theorem brought_has (bs : List Fld) (nm : List UInt8) : hasL (bs.map (·.1)) nm = true → ∃ f ∈ bs, lowerL f.1 = lowerL nm := by
  intro h
  unfold hasL at h
  obtain ⟨x, hx, e⟩ := List.any_eq_true.1 h
  obtain ⟨f, hf, rfl⟩ := List.mem_map.1 hx
  exact ⟨f, hf, beq_iff_eq.1 e⟩
theorem brings_not {rep : List Fld} {f : Fld} (h : f ∈ bringsL rep) : hasL (hopL rep ++ own5) f.1 = false := by
  have := (List.mem_filter.1 h).2
  simpa using this
/-- What is told of a name behind it. -/
theorem with_told (xs rep : List Fld) (nm : List UInt8) : valuesL (withL xs rep) nm = valuesL rep nm ∨ valuesL (withL xs rep) nm = valuesL xs nm ∨ (hasL dated2 nm = true ∧ valuesL (withL xs rep) nm = []) := by
  unfold withL
  rw [valuesL_app]
  cases hb : hasL ((bringsL rep).map (·.1)) nm
  · rw [has_brought _ _ hb, List.append_nil]
    cases hd : hasL dated2 nm
    · rw [valuesL_del_out (by rw [hasL_app, hb, hd]; rfl)]
      exact Or.inr (Or.inl rfl)
    · rw [valuesL_del_in (by rw [hasL_app, hd]; rfl)]
      exact Or.inr (Or.inr ⟨rfl, rfl⟩)
  · obtain ⟨f, hf, e⟩ := brought_has _ _ hb
    have h1 := brings_not hf
    rw [hasL_congr _ e] at h1
    rw [valuesL_del_in (by rw [hasL_app, hb]; simp), List.nil_append]
    exact Or.inl (valuesL_del_out h1)
theorem own5_low : ∀ nm ∈ own5, lowerL nm = nm := by
  have h : own5.all (fun a => lowerL a == a) = true := by decide
  intro a ha
  exact beq_iff_eq.1 (List.all_eq_true.1 h a ha)
theorem own5_dated : ∀ nm ∈ own5, hasL dated2 nm = false := by
  have h : own5.all (fun a => !hasL dated2 a) = true := by decide
  intro a ha
  have := List.all_eq_true.1 h a ha
  simpa using this
/-- The five names stay. -/
theorem with_own (xs rep : List Fld) (nm : List UInt8) (h : nm ∈ own5) : valuesL (withL xs rep) nm = valuesL xs nm := by
  have hb : hasL ((bringsL rep).map (·.1)) nm = false := by
    cases hb : hasL ((bringsL rep).map (·.1)) nm
    · rfl
    · obtain ⟨f, hf, e⟩ := brought_has _ _ hb
      have h1 := brings_not hf
      rw [hasL_congr _ e, hasL_app, hasL_mem h rfl] at h1
      simp at h1
  unfold withL
  rw [valuesL_app, has_brought _ _ hb, List.append_nil]
  exact valuesL_del_out (by rw [hasL_app, hb, own5_dated nm h]; rfl)
theorem with_len (xs rep : List Fld) : (withL xs rep).length ≤ xs.length + rep.length := by
  unfold withL
  rw [List.length_append]
  have := delL_le xs (dated2 ++ (bringsL rep).map (·.1))
  have := bringsL_le rep
  omega
theorem with_sum (xs rep : List Fld) : sumF (withL xs rep) ≤ sumF xs + sumF rep := by
  unfold withL
  rw [sumF_app]
  have h1 := delL_sum xs (dated2 ++ (bringsL rep).map (·.1))
  have h2 : sumF (bringsL rep) ≤ sumF rep := delL_sum _ _
  omega
theorem dated_is (nm : List UInt8) : hasL dated2 nm = ((lowerL nm == [97, 103, 101]) || (lowerL nm == [100, 97, 116, 101])) := by
  have h1 : lowerL [97, 103, 101] = [97, 103, 101] := by decide
  have h2 : lowerL [100, 97, 116, 101] = [100, 97, 116, 101] := by decide
  unfold hasL dated2
  simp only [List.any_cons, List.any_nil, Bool.or_false, h1, h2]
  congr 1
  · rw [Bool.eq_iff_iff, beq_iff_eq, beq_iff_eq]; exact eq_comm
  · rw [Bool.eq_iff_iff, beq_iff_eq, beq_iff_eq]; exact eq_comm
end Go.Proofs.YtgmmjhcklhajiaaGreatDoor
/- The walk of refresh.With. -/
namespace Go.Proofs.YtgmmjhcklhajiaaGreatDoor
open Go.RowKit
set_option maxRecDepth 100000

/-- An entry with rows of the call's own. -/
def EntPost (w : World) (st : Int) (re : ByteArray) (mi : Int) (fs : List Fld) (bo : ByteArray) (asked got : Int) (vs : List Fld) (e : Ending) (w' : World) : Prop :=
  ∃ a c b d, e = .returned (entV st re mi a fs.length c bo asked got b vs.length d) ∧ OwnF w.heap.size (.slice a fs.length c) fs w' ∧ OwnF w.heap.size (.slice b vs.length d) vs w' ∧ Below w.heap.size w w'
/-- Names beside the fields that bring them. -/
def NmSt (B : Nat) (out : Value) (acc : List (List UInt8)) (A : Option Addr) (fs : List Fld) (w : World) : Prop := OwnS B out acc w ∧ Rd A fs.length 2 (fldsV fs) w ∧ Sep out A fs.length
theorem NmSt.below {B : Nat} {out : Value} {acc : List (List UInt8)} {A : Option Addr} {fs : List Fld} {w w1 : World} (h : NmSt B out acc A fs w) (hb : Below w.heap.size w w1) : NmSt B out acc A fs w1 := ⟨h.1.below hb, h.2.1.below hb, h.2.2⟩
theorem NmSt.far {B : Nat} {out v' : Value} {acc acc' : List (List UInt8)} {A : Option Addr} {fs : List Fld} {w w1 : World} (h : NmSt B out acc A fs w) (ho : OwnS B v' acc' w1) (hf : Far w w1 out v') : NmSt B v' acc' A fs w1 := ⟨ho, h.2.1.far hf h.2.2⟩
theorem heap_setO {w : World} {p : Addr} {v : Value} {b : Nat} {o : Obj} (h : w.heap[b]? = some o) (hne : b ≠ p.block) : (w.setCell p v).heap[b]? = some o := (Below.heap_setCell _ _ _ _ hne).trans h
theorem set8_ownF {w : World} {E B : Nat} {v : Value} {fs : List Fld} {v0 v1 v2 v3 v4 v5 v6 v7 : Value} (hl : E < B) (h : OwnF B v fs w) : OwnF B v fs (set8 w E v0 v1 v2 v3 v4 v5 v6 v7) := by
  unfold set8
  exact ownsRow_setCell_below (a := ⟨E, 7, none⟩) (ownsRow_setCell_below (a := ⟨E, 6, none⟩) (ownsRow_setCell_below (a := ⟨E, 5, none⟩) (ownsRow_setCell_below (a := ⟨E, 4, none⟩) (ownsRow_setCell_below (a := ⟨E, 3, none⟩) (ownsRow_setCell_below (a := ⟨E, 2, none⟩) (ownsRow_setCell_below (a := ⟨E, 1, none⟩) (ownsRow_setCell_below (a := ⟨E, 0, none⟩) h hl _) hl _) hl _) hl _) hl _) hl _) hl _) hl _
theorem set8_below' {B : Nat} {w w1 : World} {E : Nat} {v0 v1 v2 v3 v4 v5 v6 v7 : Value} (hl : B ≤ E) (h : Below B w w1) : Below B w (set8 w1 E v0 v1 v2 v3 v4 v5 v6 v7) := by
  unfold set8
  exact (((((((h.setCell (p := ⟨E, 0, none⟩) hl _).setCell (p := ⟨E, 1, none⟩) hl _).setCell (p := ⟨E, 2, none⟩) hl _).setCell (p := ⟨E, 3, none⟩) hl _).setCell (p := ⟨E, 4, none⟩) hl _).setCell (p := ⟨E, 5, none⟩) hl _).setCell (p := ⟨E, 6, none⟩) hl _).setCell (p := ⟨E, 7, none⟩) hl _
set_option maxHeartbeats 16000000 in
theorem with_any (st mi asked got rst rmi t0 t1 : Int) (re bo rre rbo : ByteArray) (A V R : Option Addr) (n c m d k l : Nat) (xs vs rep : List Fld) (w : World) (hr : Rd A n 2 (fldsV xs) w) (hv : Rd V m 2 (fldsV vs) w) (hq : Rd R k 2 (fldsV rep) w) (hn : n ≤ 100) (hs : sumF xs ≤ 7000) (hm : m ≤ 100) (hk : k ≤ 100) (hsq : sumF rep ≤ 7000) :
    Calls Tryz.prog 15 #[entV st re mi A n c bo asked got V m d, .agg #[.int .i64 rst, .string rre, .int .i64 rmi, .slice R k l, .string rbo], .int .i64 t0, .int .i64 t1] w (EntPost w st re mi (withL xs rep) bo t0 t1 vs) := by
  obtain rfl := hr.fld; obtain rfl := hv.fld; obtain rfl := hq.fld
  obtain ⟨W1, hW1⟩ : ∃ W1, w.alloc (.cells #[.int .i64 st, .string re, .int .i64 mi, .slice A xs.length c, .string bo, .int .i64 asked, .int .i64 got, .slice V vs.length d] 26) = W1 := ⟨_, rfl⟩
  have b1 : Below w.heap.size w W1 := by rw [← hW1]; exact (Below.refl w.heap.size w).alloc (Nat.le_refl _) _
  have z1 : W1.heap.size = w.heap.size + 1 := by rw [← hW1]; simp
  have x1 : W1.heap[w.heap.size]? = some (.cells #[.int .i64 st, .string re, .int .i64 mi, .slice A xs.length c, .string bo, .int .i64 asked, .int .i64 got, .slice V vs.length d] 26 (0, 0)) := by rw [← hW1]; exact heap_new w _ _ rfl
  obtain ⟨W2, hW2⟩ : ∃ W2, W1.alloc (.cells #[.int .i64 rst, .string rre, .int .i64 rmi, .slice R rep.length l, .string rbo] 24) = W2 := ⟨_, rfl⟩
  have b2 : Below W1.heap.size W1 W2 := by rw [← hW2]; exact (Below.refl _ W1).alloc (Nat.le_refl _) _
  have z2 : W2.heap.size = w.heap.size + 2 := by rw [← hW2]; simp [z1]
  have x2 : W2.heap[w.heap.size + 1]? = some (.cells #[.int .i64 rst, .string rre, .int .i64 rmi, .slice R rep.length l, .string rbo] 24 (0, 0)) := by rw [← hW2]; exact heap_new W1 _ _ z1
  obtain ⟨W3, hW3⟩ : ∃ W3, W2.alloc (.cells #[.int .i64 0, .string ⟨#[]⟩, .int .i64 0, .slice none 0 0, .string ⟨#[]⟩, .int .i64 0, .int .i64 0, .slice none 0 0] 26) = W3 := ⟨_, rfl⟩
  have b3 : Below W2.heap.size W2 W3 := by rw [← hW3]; exact (Below.refl _ W2).alloc (Nat.le_refl _) _
  have z3 : W3.heap.size = w.heap.size + 3 := by rw [← hW3]; simp [z2]
  have x3 : W3.heap[w.heap.size + 2]? = some (.cells #[.int .i64 0, .string ⟨#[]⟩, .int .i64 0, .slice none 0 0, .string ⟨#[]⟩, .int .i64 0, .int .i64 0, .slice none 0 0] 26 (0, 0)) := by rw [← hW3]; exact heap_new W2 _ _ z2
  have y1 := (b3.block _ (by omega)).trans ((b2.block _ (by omega)).trans x1)
  have y2 := (b3.block _ (by omega)).trans x2
  have hB3 : Below w.heap.size w W3 := bt (bt b1 b2) b3
  have k1 := hop_any R rep.length l rep W3 (hq.below hB3) (by omega) (by omega)
  have hhl := hopL_le rep
  have hhm := hopL_mem rep (by omega)
  have hbl := bringsL_le rep
  have k2 := fun W (hb : Below w.heap.size w W) a c' (h : Rd a (hopL rep ++ own5).length 1 (strsV (hopL rep ++ own5)) W) => del_any R rep.length l rep a (hopL rep ++ own5).length c' (hopL rep ++ own5) W (hq.below hb) (by omega) (fun f hf => by have := sumF_mem hf; omega) h (by rw [List.length_append]; have : own5.length = 5 := rfl; omega)
    (fun l' hl' => by
      rcases List.mem_append.1 hl' with h' | h'
      · exact hhm l' h'
      · have := (show ∀ x ∈ own5, x.length ≤ 1000000 by decide) l' h'; exact this)
  have hbm : ∀ f ∈ bringsL rep, f.1.length ≤ 7000 := fun f hf => by have := sumF_mem (delL_mem hf); omega
  have k3 := fun W (hb : Below w.heap.size w W) a c' (ns : List (List UInt8)) (hns : ns = dated2 ++ (bringsL rep).map (·.1)) (h : Rd a ns.length 1 (strsV ns) W) => del_any A xs.length c xs a ns.length c' ns W (hr.below hb) (by omega) (fun f hf => by have := sumF_mem hf; omega) h (by rw [hns, List.length_append, List.length_map]; have : dated2.length = 2 := rfl; omega)
    (fun l' hl' => by
      rw [hns] at hl'
      rcases List.mem_append.1 hl' with h' | h'
      · have := (show ∀ x ∈ dated2, x.length ≤ 1000000 by decide) l' h'; exact this
      · obtain ⟨f, hf, rfl⟩ := List.mem_map.1 h'
        have := hbm f hf; omega)
  have hwl : withL xs rep = delL xs (dated2 ++ (bringsL rep).map (·.1)) ++ bringsL rep := rfl
  have hdl := delL_le xs (dated2 ++ (bringsL rep).map (·.1))
  rw [hwl]
  have hbr : delL rep (hopL rep ++ own5) = bringsL rep := rfl
  rw [hbr] at k2
  have HV := Lib.hid (fun W (hb : Below w.heap.size w W) => hv.below hb)
  have K1 := Lib.hid k1; have K2 := Lib.hid k2; have K3 := Lib.hid k3
  have HW1 := Lib.hid hW1; have HW2 := Lib.hid hW2; have HW3 := Lib.hid hW3
  have Y1 := Lib.hid y1; have Y2 := Lib.hid y2; have Y3 := Lib.hid x3; have Z3 := Lib.hid z3; have HB3 := Lib.hid hB3
  have r1 : W3.cell? ⟨w.heap.size + 1, 3, none⟩ = some (.slice R rep.length l) := (of_heap y2 3).1
  clear k1 k2 k3 hW1 hW2 hW3 y1 y2 x3 z3 hB3 hhm hbm hwl b1 b2 b3 x1 x2 z1 z2 hr hv hq hbr
  unfold entV
  go_enter Tryz.func15, Tryz.ntmps15
  go_wp2_with fail
  rw [HW1.out, HW2.out, HW3.out]
  (with_reducible refine K1.out.mono ?_)
  rintro e w1 ⟨ha, hc, rfl, ho1, hb1⟩
  have hq1 := HB3.out.trans (hb1.mono HB3.out.size)
  have hs1 := hb1.size
  have r2 := (hb1.cell (p := ⟨w.heap.size + 1, 3, none⟩) (by have := Z3.out; show w.heap.size + 1 < W3.heap.size; omega)).trans r1
  have al1 := (Below.refl w1.heap.size w1).alloc (Nat.le_refl _) (.cells (strsV own5).toArray 9)
  have ho2 := ho1.below al1
  have hr2 : Rd (some ⟨w1.heap.size, 0, none⟩) 5 1 (strsV own5) (w1.alloc (.cells (strsV own5).toArray 9)) := (OwnS.new w1 own5 (by decide)).rd.2
  have hlit : (strsV own5).toArray = #[.string ⟨#[99, 111, 110, 116, 101, 110, 116, 45, 108, 101, 110, 103, 116, 104]⟩, .string ⟨#[99, 111, 110, 116, 101, 110, 116, 45, 101, 110, 99, 111, 100, 105, 110, 103]⟩, .string ⟨#[99, 111, 110, 116, 101, 110, 116, 45, 116, 121, 112, 101]⟩, .string ⟨#[99, 111, 110, 116, 101, 110, 116, 45, 114, 97, 110, 103, 101]⟩, .string ⟨#[118, 97, 114, 121]⟩] := rfl
  have hal1 : Below w1.heap.size w1 (w1.alloc (.cells (strsV own5).toArray 9)) := al1
  rw [hlit] at ho2 hr2 hal1
  have HO2 := Lib.hid ho2; have HR2 := Lib.hid hr2; have HAL1 := Lib.hid hal1; have HQ1 := Lib.hid hq1
  have hhn : (hopL rep).length + 5 ≤ 1000000000 := by omega
  clear ho2 hr2 hal1 al1 ho1 hlit hq1 K1 r1
  generalize hopL rep = hp at *
  go_wp2_with (at_builtin; refine app_strs W3.heap.size HO2.out (by simp; omega) HR2.out hhn rfl _ _ rfl rfl rfl ?_)
  intro v2 w2 hO2 hb2 hfar2
  obtain ⟨a2, c2, rfl⟩ := hO2.shape
  have hB2 : Below w.heap.size w w2 := HQ1.out.trans ((HAL1.out.mono HQ1.out.size).trans (hb2.mono (by have := Z3.out; omega)))
  have hB23 : Below W3.heap.size W3 w2 := hb1.trans ((HAL1.out.mono hs1).trans hb2)
  have r3 := (hb2.cell (p := ⟨w.heap.size + 1, 3, none⟩) (by have := Z3.out; show w.heap.size + 1 < W3.heap.size; omega)).trans ((HAL1.out.cell (p := ⟨w.heap.size + 1, 3, none⟩) (by have := Z3.out; show w.heap.size + 1 < w1.heap.size; omega)).trans r2)
  have k4 := K2.out w2 hB2 _ c2 hO2.rd.2
  rw [List.length_append] at k4
  have K4 := Lib.hid k4
  have HB2 := Lib.hid hB2; have HB23 := Lib.hid hB23
  clear hO2 hb2 hfar2 hB2 hB23 k4 K2 HO2 HR2 HAL1 HQ1 hb1 r2
  go_wp2_with fail
  (with_reducible refine K4.out.mono ?_)
  rintro e w3 ⟨ba, bc, rfl, ho3, hb3⟩
  have hB4 : Below w.heap.size w w3 := bt HB2.out hb3
  have hB43 : Below W3.heap.size W3 w3 := bt HB23.out hb3
  have hs3 := hB43.size
  have al4 := (Below.refl w3.heap.size w3).alloc (Nat.le_refl _) (.cells (strsV dated2).toArray 9)
  have hd0 : OwnS W3.heap.size (.slice (some ⟨w3.heap.size, 0, none⟩) 2 2) dated2 (w3.alloc (.cells (strsV dated2).toArray 9)) := (OwnS.new w3 dated2 (by decide)).base hs3
  have hbr : OwnF W3.heap.size (.slice ba (bringsL rep).length bc) (bringsL rep) w3 := OwnF.base ho3 (by have := HB23.out.size; omega)
  have hsep : Sep (.slice (some ⟨w3.heap.size, 0, none⟩) 2 2) ba (bringsL rep).length := by
    intro hpos g o e x
    obtain ⟨b, o', e', hl, _⟩ := ho3.rd.2.2 (by rw [(ho3.rd.2).fld] at *; exact hpos)
    rw [e] at e'
    cases e'
    cases x
    exact absurd hl (Nat.lt_irrefl _)
  have hN0 : NmSt W3.heap.size (.slice (some ⟨w3.heap.size, 0, none⟩) 2 2) dated2 ba (bringsL rep) (w3.alloc (.cells (strsV dated2).toArray 9)) := ⟨hd0, ho3.rd.2.below al4, hsep⟩
  have hB5 : Below W3.heap.size W3 (w3.alloc (.cells (strsV dated2).toArray 9)) := bt hB43 al4
  have hlit : (strsV dated2).toArray = #[.string ⟨#[97, 103, 101]⟩, .string ⟨#[100, 97, 116, 101]⟩] := rfl
  have hnames : ∀ k' (h : k' < (bringsL rep).length), dated2 ++ ((bringsL rep).take (k' + 1)).map (·.1) = (dated2 ++ ((bringsL rep).take k').map (·.1)) ++ [(bringsL rep)[k'].1] := by
    intro k' h
    rw [List.take_succ_eq_append_getElem h, List.map_append, List.append_assoc]; rfl
  have hnl : ∀ k', (dated2 ++ ((bringsL rep).take k').map (·.1)).length ≤ 102 := by
    intro k'
    rw [List.length_append, List.length_map, List.length_take]
    have : dated2.length = 2 := rfl
    omega
  have h00 : dated2 ++ ((bringsL rep).take 0).map (·.1) = dated2 := rfl
  rw [hlit] at hN0 hB5
  have HN0 := Lib.hid hN0; have HB5 := Lib.hid hB5; have HNAMES := Lib.hid hnames; have HNL := Lib.hid hnl; have H00 := Lib.hid h00
  clear hN0 hB5 hlit hsep hbr hd0 al4 hB43 hB4 ho3 hb3 K4 hnames hnl h00 HB2 HB23 r3
  have hbf := hbl
  generalize hgb : bringsL rep = brs at *
  have HGB := Lib.hid hgb
  clear hgb
  go_wp2_with fail
  go_loopw [26, 11] (fun i out wr => ∃ k' : Nat, k' ≤ brs.length ∧ i = .int .i64 k' ∧ Hid (NmSt W3.heap.size out (dated2 ++ (brs.take k').map (·.1)) ba brs wr) ∧ Hid (Below W3.heap.size W3 wr)) (fun i _ _ => brs.length - (intOf i).toNat)
  case atStart => exact ⟨0, Nat.zero_le _, rfl, by rw [H00.out]; exact HN0, HB5⟩
  case round =>
    clear HN0 HB5 H00
    obtain ⟨k', hk', rfl, HO, HBW⟩ := hrel
    obtain ⟨oa, oc, rfl⟩ := HO.out.1.shape
    by_cases hlt : k' < brs.length
    · obtain ⟨b, o, rfl, hl, c0, c1⟩ := HO.out.2.1.fld_at (k := k') hlt
      have hst := HNAMES.out k' hlt
      have hll := HNL.out k'
      generalize brs[k'] = f at *
      obtain ⟨fn, fv⟩ := f
      simp only at c0 c1 hst
      obtain ⟨acc, hacc⟩ : ∃ l, dated2 ++ (brs.take k').map (·.1) = l := ⟨_, rfl⟩
      rw [hacc] at HO hll hst
      rw [hacc]
      clear hacc
      have al6 := (Below.refl wr.heap.size wr).alloc (Nat.le_refl _) (.cells #[.string ⟨fn.toArray⟩, .string ⟨fv.toArray⟩] 55)
      have hsw := HBW.out.size
      have hz6 : (wr.alloc (.cells #[.string ⟨fn.toArray⟩, .string ⟨fv.toArray⟩] 55)).heap.size = wr.heap.size + 1 := by simp
      have HO6 := Lib.hid (HO.out.below al6)
      have HBW6 := Lib.hid (HBW.out.trans (al6.mono hsw))
      have HST := Lib.hid hst
      clear al6 HO HBW hst HNAMES HNL
      go_wp2_with (at_builtin; refine app_str W3.heap.size fn HO6.out.1 (by simp; omega) (by omega) rfl _ _ rfl rfl (by rw [hz6]; rfl) ?_)
      intro v7 w7 hO7 hb7 hfar7
      have hn7 := HO6.out.far hO7 hfar7
      obtain ⟨a7, c7, rfl⟩ := hO7.shape
      have HN7 := Lib.hid hn7
      have HB7 := Lib.hid (HBW6.out.trans hb7)
      clear hn7 hO7 hb7 hfar7 HO6 HBW6
      go_wp2
      go_roundw
      case rel => exact ⟨k' + 1, by omega, by go_num, by rw [HST.out]; exact HN7, HB7⟩
      case measure => simp [intOf]; omega
    · have hke : k' = brs.length := by omega
      subst hke
      have hN := HO.out
      rw [List.take_length] at hN
      have hnl := HNL.out brs.length
      rw [List.take_length] at hnl
      have hNF := hN.1.rd.2
      obtain ⟨acc, hacc⟩ : ∃ l, dated2 ++ brs.map (·.1) = l := ⟨_, rfl⟩
      rw [hacc] at hN hnl hdl hNF
      have hBW := HB3.out.trans (HBW.out.mono HB3.out.size)
      have k5 := K3.out wr hBW oa oc acc (by rw [← hacc]) hNF
      have hal : acc.length = dated2.length + brs.length := by rw [← hacc]; simp
      rw [hal] at k5
      have HAL := Lib.hid hal
      clear hal
      have e1 := (HBW.out.block w.heap.size (by have := Z3.out; omega)).trans Y1.out
      have e2 := (HBW.out.block (w.heap.size + 2) (by have := Z3.out; omega)).trans Y3.out
      have q3 := (of_heap e1 3).1
      have q7 := (of_heap e1 7).1
      simp at q3 q7
      have HN := Lib.hid hN; have K5 := Lib.hid k5
      have HBW' := Lib.hid hBW
      have HACC := Lib.hid hacc
      clear HO K3 hN k5 hNF hacc HNAMES HNL hBW
      go_wp2_with fail
      (with_reducible refine K5.out.mono ?_)
      rintro e w8 ⟨a8, c8, rfl, ho8, hb8⟩
      have hsz8 := hb8.size
      have hsw := HBW.out.size
      have hO8 := Lib.hid (OwnF.base ho8 hsw)
      have hR8 := Lib.hid ((HN.out.2.1).below hb8)
      have hB8 := Lib.hid (HBW.out.trans (hb8.mono hsw))
      clear ho8 K5 HN
      obtain ⟨ds, hds⟩ : ∃ ds, delL xs acc = ds := ⟨_, rfl⟩
      rw [hds] at hO8 hdl ⊢
      have HDS := Lib.hid hds
      clear hds
      go_wp2_with (at_builtin; refine app_flds W3.heap.size hO8.out (by omega) hR8.out (by omega) rfl _ _ rfl rfl rfl ?_)
      intro v9 w9 hO9 hb9 _
      obtain ⟨a9, c9, rfl⟩ := hO9.shape
      have hB9 : Below W3.heap.size W3 w9 := hB8.out.trans hb9
      have z9 : w.heap.size < W3.heap.size := by have := Z3.out; omega
      have z92 : w.heap.size + 2 < W3.heap.size := by have := Z3.out; omega
      have f1 := (hB9.block w.heap.size z9).trans Y1.out
      have f2 := (hB9.block (w.heap.size + 2) z92).trans Y3.out
      have e3 := (of_heap f1 3).1; have g3 := (of_heap f1 3).2.1
      have e5 := (of_heap f1 5).1; have g5 := (of_heap f1 5).2.1
      have e6 := (of_heap f1 6).1; have g6 := (of_heap f1 6).2.1
      have e7 := (of_heap f1 7).1; have ez := (of_heap f1 7).2.2
      simp only [List.getElem?_toArray, List.getElem?_cons_succ, List.getElem?_cons_zero] at e3 e5 e6 e7
      have hBw : Below w.heap.size w w9 := HB3.out.trans (hB9.mono HB3.out.size)
      have hs9 := hB9.size
      have hdb : (ds ++ brs).length = ds.length + brs.length := List.length_append
      rw [hdb] at hO9
      have HDB := Lib.hid hdb
      have HO9 := Lib.hid hO9; have HBw := Lib.hid hBw; have F1 := Lib.hid f1; have F2 := Lib.hid f2; have Z9 := Lib.hid z9; have HS9 := Lib.hid hs9
      clear hdb hO9 hBw f1 f2 hb9 hB9 hO8 hB8 hR8
      go_wp2_with (at_builtin; refine app_flds _ (OwnF.nil _ _) (Nat.le_refl _) (HV.out _ (((HBw.out.setCell (Nat.le_refl _) _).setCell (Nat.le_refl _) _).setCell (Nat.le_refl _) _)) (by simp; omega) rfl _ _ rfl rfl rfl ?_)
      intro v10 w10 hO10 hb10 _
      obtain ⟨a10, c10, rfl⟩ := hO10.shape
      have ew : w.heap.size < w9.heap.size := Nat.lt_of_lt_of_le Z9.out HS9.out
      have ew2 : w.heap.size + 2 < w9.heap.size := by have := Z3.out; have := HS9.out; omega
      have p1 := (hb10.block w.heap.size ew).trans (heap_setN (j := 6) (v := .int .i64 t1) (heap_setN (j := 5) (v := .int .i64 t0) (heap_setN (j := 3) (v := .slice a9 (ds.length + brs.length) c9) F1.out)))
      have p2 := (hb10.block (w.heap.size + 2) ew2).trans (heap_setO (p := ⟨w.heap.size, 6, none⟩) (v := .int .i64 t1) (heap_setO (p := ⟨w.heap.size, 5, none⟩) (v := .int .i64 t0) (heap_setO (p := ⟨w.heap.size, 3, none⟩) (v := .slice a9 (ds.length + brs.length) c9) F2.out (by simp)) (by simp)) (by simp))
      simp only [List.setIfInBounds_toArray, List.set_cons_zero, List.set_cons_succ] at p1
      have i0 := (of_heap p1 0).1; have i1 := (of_heap p1 1).1; have i2 := (of_heap p1 2).1; have i3 := (of_heap p1 3).1; have i4 := (of_heap p1 4).1; have i5 := (of_heap p1 5).1; have i6 := (of_heap p1 6).1; have i7 := (of_heap p1 7).1; have k7 := (of_heap p1 7).2.1
      have j0 := (of_heap p2 0).1; have j1 := (of_heap p2 1).1; have j2 := (of_heap p2 2).1; have j3 := (of_heap p2 3).1; have j4 := (of_heap p2 4).1; have j5 := (of_heap p2 5).1; have j6 := (of_heap p2 6).1; have j7 := (of_heap p2 7).1
      have l0 := (of_heap p2 0).2.1; have l1 := (of_heap p2 1).2.1; have l2 := (of_heap p2 2).2.1; have l3 := (of_heap p2 3).2.1; have l4 := (of_heap p2 4).2.1; have l5 := (of_heap p2 5).2.1; have l6 := (of_heap p2 6).2.1; have l7 := (of_heap p2 7).2.1
      simp only [List.getElem?_toArray, List.getElem?_cons_succ, List.getElem?_cons_zero] at i0 i1 i2 i3 i4 i5 i6 i7 j0 j1 j2 j3 j4 j5 j6 j7
      have hO9' : OwnF W3.heap.size (.slice a9 (ds.length + brs.length) c9) (ds ++ brs) w10 := OwnF.below (ownsRow_setCell_below (a := ⟨w.heap.size, 6, none⟩) (ownsRow_setCell_below (a := ⟨w.heap.size, 5, none⟩) (ownsRow_setCell_below (a := ⟨w.heap.size, 3, none⟩) HO9.out Z9.out _) Z9.out _) Z9.out _) (hb10.mono (by simp))
      have hBw10 : Below w.heap.size w w10 := (((HBw.out.setCell (Nat.le_refl _) _).setCell (Nat.le_refl _) _).setCell (Nat.le_refl _) _).trans (hb10.mono (Nat.le_of_lt ew))
      have HO9' := Lib.hid hO9'; have HO10 := Lib.hid hO10; have HB10 := Lib.hid hBw10; have EW := Lib.hid ew; have EW2 := Lib.hid ew2
      clear hO9' hO10 hBw10 p1 p2 hb10 e3 e5 e6 e7 g3 g5 g6 HBw F1 F2 HO9
      go_wp2_with fail
      have hfs : delL xs (dated2 ++ (bringsL rep).map (·.1)) ++ bringsL rep = ds ++ brs := by rw [HGB.out, HACC.out, HDS.out]
      refine bodyPost_ret_by (v := .agg #[.int .i64 st, .string re, .int .i64 mi, .slice a9 (ds.length + brs.length) c9, .string bo, .int .i64 t0, .int .i64 t1, .slice a10 vs.length c10]) ?_ rfl ?_
      · rw [results_cell_one rfl]
        go_simp
      · rw [hfs]
        have z0 : w.heap.size < W3.heap.size := by have := Z3.out; omega
        have z2 : w.heap.size + 1 + 1 < W3.heap.size := by have := Z3.out; omega
        refine ⟨a9, c9, a10, c10, by unfold entV; rw [HDB.out], ?_, ?_, ?_⟩
        · rw [HDB.out]
          exact OwnF.base (set8_ownF z2 (ownsRow_setCell_below (a := ⟨w.heap.size, 7, none⟩) HO9'.out z0 _)) (Nat.le_of_lt z0)
        · have h10 : OwnF w9.heap.size (.slice a10 vs.length c10) vs w10 := by
            have := HO10.out
            simpa using this
          exact OwnF.base (set8_ownF (by have := EW2.out; omega) (ownsRow_setCell_below (a := ⟨w.heap.size, 7, none⟩) h10 EW.out _)) (Nat.le_of_lt EW.out)
        · exact set8_below' (by omega) (HB10.out.setCell (p := ⟨w.heap.size, 7, none⟩) (Nat.le_refl _) _)
end Go.Proofs.YtgmmjhcklhajiaaGreatDoor
/- The walks of strings.CutPrefix and etag.read. -/
namespace Go.Proofs.YtgmmjhcklhajiaaGreatDoor
open Go.RowKit

set_option maxHeartbeats 400000 in
theorem hp (s p : ByteArray) (w : World) :
    Calls Tryz.prog 229 #[.string s, .string p] w fun e w' => e = .returned (.bool (Lib.hasPrefix s.data.toList p.data.toList)) ∧ w = w' := by
  have H := Lib.hasPrefix_raw s p
  by_cases h1 : p.size ≤ s.size
  · have H2 := Lib.hid H; clear H
    go_enter Tryz.func229, Tryz.ntmps229
    go_wp2
    go_ret
    exact ⟨by rw [← H2.out]; simp [h1], rfl⟩
  · have H2 := Lib.hid H; clear H
    go_enter Tryz.func229, Tryz.ntmps229
    go_wp2
    go_ret
    exact ⟨by rw [← H2.out]; simp [h1], rfl⟩

/-- strings.CutPrefix. -/
def cutP (s p : ByteArray) : ByteArray := if Lib.hasPrefix s.data.toList p.data.toList then s.extract p.size s.size else s
theorem cutP_le (s p : ByteArray) : (cutP s p).size ≤ s.size := by
  unfold cutP; split <;> simp [ByteArray.size_extract]

set_option maxHeartbeats 400000 in
theorem cp (s p : ByteArray) (w : World) :
    Calls Tryz.prog 192 #[.string s, .string p] w fun e w' => e = .returned (.tuple #[.string (cutP s p), .bool (Lib.hasPrefix s.data.toList p.data.toList)]) ∧ w = w' := by
  by_cases h : Lib.hasPrefix s.data.toList p.data.toList = true
  · have hle : p.size ≤ s.size := by
      have := Lib.hasPrefix_raw s p; rw [h] at this; simp at this; exact this.1
    have hc : cutP s p = s.extract p.size s.size := by unfold cutP; rw [if_pos h]
    have Hc := Lib.hid hc; clear hc
    have H := Lib.hid h; clear h

    go_enter Tryz.func192, Tryz.ntmps192
    go_wp2_with (first | (go_at_call 229; refine (hp s p _).mono ?_; rintro e w' ⟨rfl, rfl⟩; rw [H.out]) | go_in)
    go_ret2
    exact ⟨by rw [Hc.out, H.out]; rfl, rfl⟩
  · have h' : Lib.hasPrefix s.data.toList p.data.toList = false := by simpa using h
    have hc : cutP s p = s := by unfold cutP; rw [if_neg h]
    have Hc := Lib.hid hc; clear hc h
    have H := Lib.hid h'; clear h'
    go_enter Tryz.func192, Tryz.ntmps192
    go_wp2_with (first | (go_at_call 229; refine (hp s p _).mono ?_; rintro e w' ⟨rfl, rfl⟩; rw [H.out]) | go_in)
    go_ret2
    exact ⟨by rw [Hc.out, H.out]; rfl, rfl⟩

/-! plain -/
def okb (c : UInt8) : Bool := !(decide (c.toNat ≤ 32) || c.toNat == 34 || c.toNat == 127)
/-- the tag between the quotes -/
def inner (t : ByteArray) : ByteArray := t.extract 1 (t.size - 1)
def tagged (t : ByteArray) : Bool :=
  if h : 2 ≤ t.size then t[0].toNat == 34 && t[t.size - 1].toNat == 34 && (inner t).data.toList.all okb else false
def empt : ByteArray := ⟨#[]⟩
structure Ent where
  weak : Bool
  right : Bool
  tag : ByteArray
def ent (s : ByteArray) : Ent :=
  if tagged (cutP s ⟨#[87, 47]⟩) then ⟨Lib.hasPrefix s.data.toList [87, 47], true, inner (cutP s ⟨#[87, 47]⟩)⟩ else ⟨false, false, empt⟩
def Ent.val (x : Ent) : Value := .agg #[.bool x.weak, .bool x.right, .string x.tag]

set_option linter.unusedVariables false in
set_option maxHeartbeats 1000000 in
theorem rd (s : ByteArray) (w : World) (hs : s.size ≤ 8000) :
    Calls Tryz.prog 150 #[.string s] w fun e w' => e = .returned (ent s).val ∧ Below w.heap.size w w' := by
  have hle := cutP_le s ⟨#[87, 47]⟩
  obtain ⟨E, hE⟩ : ∃ E, E = ent s := ⟨_, rfl⟩
  have HE := Lib.hid hE
  rw [← hE]; clear hE
  unfold ent at HE
  rw [show Lib.hasPrefix s.data.toList [87, 47] = Lib.hasPrefix s.data.toList (⟨#[87, 47]⟩ : ByteArray).data.toList from rfl] at HE
  go_enter Tryz.func150, Tryz.ntmps150
  go_upto_region 2 with (first | (go_at_call 192; refine (cp s _ _).mono ?_; rintro e w' ⟨rfl, rfl⟩) )
  generalize cutP s ⟨#[87, 47]⟩ = t at *
  generalize Lib.hasPrefix _ _ = b at *
  have ht : t.size ≤ 8000 := by omega
  clear hle
  by_cases h2 : 2 ≤ t.size
  · by_cases h0 : t[0].toNat = 34
    · by_cases h1 : t[t.size - 1].toNat = 34
      · have hx : (inner t).size = t.size - 2 := by unfold inner; simp [ByteArray.size_extract]; omega
        have Hx := Lib.hid hx
        have e1 : t.size - 1 - 1 = t.size - 2 := by omega
        have d0 : ((t[0].toNat : Int) != 34) = false := by simp; omega
        have d1 : ((t[t.size - 1].toNat : Int) != 34) = false := by simp; omega
        have d2 : decide ((t.size : Int) < 2) = false := by simp; omega
        go_wp2
        clear d0 d1 d2
        have ei : t.extract 1 (t.size - 1) = inner t := rfl
        simp only [ei, ← Hx.out]
        have ht2 : t.size = (inner t).size + 2 := by omega
        have hI : ∀ k, k ≤ (inner t).size → ((inner t).data.toList.take k).all okb = true → k = (inner t).size → tagged t = true := by
          intro k _ hk e
          unfold tagged
          rw [dif_pos h2, h0, h1, ← take_all (inner t) k (by omega), hk]; rfl
        have hB : ∀ k (h : k < (inner t).size), okb (inner t)[k] = false → tagged t = false := by
          intro k h hk
          unfold tagged
          rw [dif_pos h2, all_bad okb (inner t) k h hk]; simp
        have HI := Lib.hid hI; have HB := Lib.hid hB
        clear hI hB hx e1 ht2 Hx ei h0 h1
        have hn : (inner t).size ≤ 8000 := by unfold inner; simp [ByteArray.size_extract]; omega
        clear ht h2 hs
        generalize inner t = g at *
        go_loop [37] (fun i => ∃ k : Nat, k ≤ g.size ∧ i = .int .i64 k ∧ (g.data.toList.take k).all okb = true) (fun i => g.size - (intOf i).toNat)
        case atStart => exact ⟨0, Nat.zero_le _, rfl, by simp⟩
        case round =>
          obtain ⟨k, hk, rfl, hall⟩ := hrel
          have Hall := Lib.hid hall; clear hall
          by_cases hlt : k < g.size
          · by_cases hb : okb g[k] = true
            · have c1 : decide ((g[k].toNat : Int) ≤ 32) = false := by simp [okb] at hb; simp; omega
              have c2 : ((g[k].toNat : Int) == 34) = false := by simp [okb] at hb; simp; omega
              have c3 : ((g[k].toNat : Int) == 127) = false := by simp [okb] at hb; simp; omega
              have Hb := Lib.hid hb; clear hb
              go_wp2
              go_round
              case rel => exact ⟨k + 1, by omega, by go_num, by rw [all_snoc okb g k hlt, Hall.out, Hb.out]; rfl⟩
              case measure => simp [intOf]; omega
            · have hf := HB.out k hlt (by simpa using hb)
              have Hf := Lib.hid hf; clear hf
              have hb' : decide ((g[k].toNat : Int) ≤ 32) = true ∨ (decide ((g[k].toNat : Int) ≤ 32) = false ∧ ((g[k].toNat : Int) == 34) = true) ∨ (decide ((g[k].toNat : Int) ≤ 32) = false ∧ ((g[k].toNat : Int) == 34) = false ∧ ((g[k].toNat : Int) == 127) = true) := by simp [okb] at hb; simp; omega
              clear hb
              rcases hb' with c1 | ⟨c1, c2⟩ | ⟨c1, c2, c3⟩
              all_goals
                go_wp2
                refine bodyPost_ret (v := (⟨false, false, empt⟩ : Ent).val) (by simp [results, Tryz.results150, go_sem]; rfl) rfl ⟨?_, (Below.refl _ _).alloc (Nat.le_refl _) _⟩
                rw [HE.out, Hf.out]; rfl
          · have hf := HI.out k hk Hall.out (by omega)
            have Hf := Lib.hid hf; clear hf
            go_wp2
            refine bodyPost_ret (v := (⟨b, true, g⟩ : Ent).val) (by simp [results, Tryz.results150, go_sem]; rfl) rfl ⟨?_, (Below.refl _ _).alloc (Nat.le_refl _) _⟩
            rw [HE.out, Hf.out]; rfl
      · have hf : tagged t = false := by unfold tagged; rw [dif_pos h2]; simp [h1]
        have d0 : ((t[0].toNat : Int) != 34) = false := by simp; omega
        have d1 : ((t[t.size - 1].toNat : Int) != 34) = true := by simp; omega
        have d2 : decide ((t.size : Int) < 2) = false := by simp; omega
        clear h0 h1
        have Hf := Lib.hid hf; clear hf
        go_wp2
        refine bodyPost_ret (v := (⟨false, false, empt⟩ : Ent).val) (by simp [results, Tryz.results150, go_sem]; rfl) rfl ⟨?_, (Below.refl _ _).alloc (Nat.le_refl _) _⟩
        rw [HE.out, Hf.out]; rfl
    · have hf : tagged t = false := by unfold tagged; rw [dif_pos h2]; simp [h0]
      have d0 : ((t[0].toNat : Int) != 34) = true := by simp; omega
      have d2 : decide ((t.size : Int) < 2) = false := by simp; omega
      clear h0
      have Hf := Lib.hid hf; clear hf
      go_wp2
      refine bodyPost_ret (v := (⟨false, false, empt⟩ : Ent).val) (by simp [results, Tryz.results150, go_sem]; rfl) rfl ⟨?_, (Below.refl _ _).alloc (Nat.le_refl _) _⟩
      rw [HE.out, Hf.out]; rfl
  · have hf : tagged t = false := by unfold tagged; rw [dif_neg h2]
    have Hf := Lib.hid hf; clear hf
    go_wp2
    refine bodyPost_ret (v := (⟨false, false, empt⟩ : Ent).val) (by simp [results, Tryz.results150, go_sem]; rfl) rfl ⟨?_, (Below.refl _ _).alloc (Nat.le_refl _) _⟩
    rw [HE.out, Hf.out]; rfl

end Go.Proofs.YtgmmjhcklhajiaaGreatDoor
/- The walk of etag.Parse. -/
namespace Go.Proofs.YtgmmjhcklhajiaaGreatDoor
open Go.RowKit
set_option maxHeartbeats 1000000 in
theorem parse_yes (a : ByteArray) (w : World) (ha : a.size ≤ 8000) (h : (ent a).right = true) :
    Calls Tryz.prog 99 #[.string a] w fun e w' => e = .returned (.tuple #[.bool (ent a).weak, .string (ent a).tag, .int .i64 0]) ∧ Below w.heap.size w w' := by
  have hr := rd a
  unfold Ent.val at hr
  rw [h] at hr
  have H := Lib.hid hr
  clear h hr
  generalize (ent a).weak = wk at *
  generalize (ent a).tag = tg at *
  go_enter Tryz.func99, Tryz.ntmps99
  go_wp2_with (go_at_call 150; refine (H.out _ ha).mono ?_; rintro e w' ⟨rfl, hb⟩)
  go_quiet (fail)
  go_wp2
  go_ret3
  exact ⟨rfl, Go.below_drewN (hb.alloc hb.size _) _⟩
set_option maxHeartbeats 1000000 in
theorem parse_no (a : ByteArray) (w : World) (ha : a.size ≤ 8000) (h : (ent a).right = false) :
    Calls Tryz.prog 99 #[.string a] w fun e w' => e = .returned (.tuple #[.bool false, .string empt, .int .i64 4]) ∧ Below w.heap.size w w' := by
  have hr := rd a
  unfold Ent.val at hr
  rw [h] at hr
  have H := Lib.hid hr
  clear h hr
  generalize (ent a).weak = wk at *
  generalize (ent a).tag = tg at *
  go_enter Tryz.func99, Tryz.ntmps99
  go_wp2_with (go_at_call 150; refine (H.out _ ha).mono ?_; rintro e w' ⟨rfl, hb⟩)
  go_ret3
  exact ⟨rfl, hb.alloc hb.size _⟩

def Ent.parse (x : Ent) : Value := bif x.right then .tuple #[.bool x.weak, .string x.tag, .int .i64 0] else .tuple #[.bool false, .string empt, .int .i64 4]
theorem parse_any (a : ByteArray) (w : World) (ha : a.size ≤ 8000) :
    Calls Tryz.prog 99 #[.string a] w fun e w' => e = .returned (ent a).parse ∧ Below w.heap.size w w' := by
  unfold Ent.parse
  cases h : (ent a).right
  · exact parse_no a w ha h
  · exact parse_yes a w ha h
end Go.Proofs.YtgmmjhcklhajiaaGreatDoor
/- Dates: what date.Parse and date.Put compute, in plain words; no program in sight. -/
namespace Go.Proofs.YtgmmjhcklhajiaaGreatDoor

def dg (c : UInt8) : Bool := decide (48 ≤ c.toNat) && decide (c.toNat ≤ 57)
def dnum : List UInt8 → Int → Int
  | [], a => a
  | c :: r, a => dnum r (10 * a + ((c.toNat : Int) - 48))
/-- So many digits off a text. -/
def dnumL (s : List UInt8) (n : Nat) : Int × List UInt8 × Bool :=
  bif decide (s.length < n) then (0, [], false) else bif (s.take n).all dg then (dnum (s.take n) 0, s.drop n, true) else (0, [], false)
/-- One of some names off a text. -/
def dname (s : List UInt8) (n : Nat) : List (List UInt8) → Nat → Int × List UInt8 × Bool
  | [], _ => (0, [], false)
  | x :: r, i =>
    bif Lib.hasPrefix s (bif decide (0 < n) then x.take n else x) then ((i : Int), s.drop (bif decide (0 < n) then x.take n else x).length, true) else dname s n r (i + 1)
def ddays : List (List UInt8) := [[84, 104, 117, 114, 115, 100, 97, 121], [70, 114, 105, 100, 97, 121], [83, 97, 116, 117, 114, 100, 97, 121], [83, 117, 110, 100, 97, 121], [77, 111, 110, 100, 97, 121], [84, 117, 101, 115, 100, 97, 121], [87, 101, 100, 110, 101, 115, 100, 97, 121]]
def dmonths : List UInt8 := [74, 97, 110, 70, 101, 98, 77, 97, 114, 65, 112, 114, 77, 97, 121, 74, 117, 110, 74, 117, 108, 65, 117, 103, 83, 101, 112, 79, 99, 116, 78, 111, 118, 68, 101, 99]
def dleap (y : Int) : Bool := y % 4 == 0 && y % 100 != 0 || y % 400 == 0
def dlong (y m : Int) : Int := if m = 2 then (if dleap y = true then 29 else 28) else if m = 4 ∨ m = 6 ∨ m = 9 ∨ m = 11 then 30 else 31
def dahead (y : Int) : Int := 365 * (y - 1970) + (y - 1) / 4 - (y - 1) / 100 + (y - 1) / 400 - 492 + 19 - 4
theorem dahead_up (y : Int) : dahead y + 365 ≤ dahead (y + 1) ∧ dahead (y + 1) ≤ dahead y + 366 := by
  unfold dahead; omega
theorem dahead_ge (y : Int) (h : 1970 ≤ y) : 365 * (y - 1970) ≤ dahead y ∧ dahead y ≤ 366 * (y - 1970) := by
  unfold dahead; omega
/-- The year of a day. -/
def dyear : Nat → Int → Int → Int
  | 0, _, y => y
  | f + 1, d, y => if dahead (y + 1) ≤ d then dyear f d (y + 1) else y
theorem dyear_go (d : Int) : ∀ (f : Nat) (y : Int), 1970 ≤ y → d < 365 * (y - 1970) + 365 * f → ∀ g, f ≤ g → dyear g d y = dyear f d y
  | 0, y, hy, h, g, _ => by
    have := dahead_ge (y + 1) (by omega)
    cases g with
    | zero => rfl
    | succ g =>
      show dyear (g + 1) d y = y
      have hn : ¬ dahead (y + 1) ≤ d := by omega
      unfold dyear
      rw [if_neg hn]
  | f + 1, y, hy, h, g, hg => by
    cases g with
    | zero => omega
    | succ g =>
      rw [dyear, dyear]
      split
      · exact dyear_go d f (y + 1) (by omega) (by omega) g (by omega)
      · rfl
/-- Its year, and how many days of it are ahead. -/
def dyearO (d : Int) : Int × Int := (dyear 9000 d (1970 + d / 366), d - dahead (dyear 9000 d (1970 + d / 366)))
/-- A date's numbers. -/
structure Mom where
  wd : Int
  day : Int
  month : Int
  year : Int
  hour : Int
  minute : Int
  second : Int
  two : Bool
def mom0 : Mom := ⟨0, 0, 0, 0, 0, 0, 0, false⟩
def Mom.cs (m : Mom) : List Value := [.int .i64 m.wd, .int .i64 m.day, .int .i64 m.month, .int .i64 m.year, .int .i64 m.hour, .int .i64 m.minute, .int .i64 m.second, .bool m.two]
/-- A piece of a form off a text. -/
def dtake (m : Mom) (c : Nat) (s : List UInt8) : Mom × List UInt8 × Bool :=
  if c = 119 then ({ m with wd := (dname s 3 ddays 0).1 }, (dname s 3 ddays 0).2)
  else if c = 87 then ({ m with wd := (dname s 0 ddays 0).1 }, (dname s 0 ddays 0).2)
  else if c = 68 then ({ m with day := (dnumL s 2).1 }, (dnumL s 2).2)
  else if c = 69 then (if Lib.hasPrefix s [32] = true then ({ m with day := (dnumL (s.drop 1) 1).1 }, (dnumL (s.drop 1) 1).2) else ({ m with day := (dnumL s 2).1 }, (dnumL s 2).2))
  else if c = 109 then
    (if s.length < 3 ∨ Lib.index dmonths (s.take 3) < 0 ∨ Lib.index dmonths (s.take 3) % 3 ≠ 0 then (m, [], false) else ({ m with month := Lib.index dmonths (s.take 3) / 3 + 1 }, s.drop 3, true))
  else if c = 89 then ({ m with year := (dnumL s 4).1 }, (dnumL s 4).2)
  else if c = 121 then ({ m with year := (dnumL s 2).1, two := true }, (dnumL s 2).2)
  else if c = 72 then ({ m with hour := (dnumL s 2).1 }, (dnumL s 2).2)
  else if c = 73 then ({ m with minute := (dnumL s 2).1 }, (dnumL s 2).2)
  else if c = 83 then ({ m with second := (dnumL s 2).1 }, (dnumL s 2).2)
  else if Lib.hasPrefix s [UInt8.ofNat c] = true then (m, s.drop 1, true) else (m, s, false)
/-- The forms. -/
def dform0 : List UInt8 := [119, 44, 32, 68, 32, 109, 32, 89, 32, 72, 58, 73, 58, 83, 32, 71, 77, 84]
def dform1 : List UInt8 := [87, 44, 32, 68, 45, 109, 45, 121, 32, 72, 58, 73, 58, 83, 32, 71, 77, 84]
def dform2 : List UInt8 := [119, 32, 109, 32, 69, 32, 72, 58, 73, 58, 83, 32, 89]
/-- All pieces of a form off a text. -/
def dpieces : List UInt8 → Mom → List UInt8 → Option (Mom × List UInt8)
  | [], m, s => some (m, s)
  | c :: r, m, s => bif (dtake m c.toNat s).2.2 then dpieces r (dtake m c.toNat s).1 (dtake m c.toNat s).2.1 else none
def dnow (now : Int) : Int := (max 0 (min now 253402300799)) / 86400
def dyr (m : Mom) (now : Int) : Int := if m.two = true then ((dyearO (dnow now)).1 + 50) - ((dyearO (dnow now)).1 + 50 - m.year) % 100 else m.year
/-- Days of the months ahead. -/
def dmons (y : Int) : Nat → Int
  | 0 => 0
  | k + 1 => dmons y k + dlong y (k + 1)
/-- The tick of a date. -/
def dtick (m : Mom) (now : Int) : Int × Bool :=
  if dyr m now < 1970 ∨ dyr m now > 9999 ∨ m.day < 1 ∨ m.day > dlong (dyr m now) m.month ∨ m.hour > 23 ∨ m.minute > 59 ∨ m.second > 59 then (0, false)
  else if (dahead (dyr m now) + m.day - 1 + dmons (dyr m now) (m.month.toNat - 1)) % 7 ≠ m.wd then (0, false)
  else ((dahead (dyr m now) + m.day - 1 + dmons (dyr m now) (m.month.toNat - 1)) * 86400 + m.hour * 3600 + m.minute * 60 + m.second, true)
def dparse (s : List UInt8) (now : Int) : List (List UInt8) → Int × Int
  | [] => (0, 4)
  | f :: r => match dpieces f mom0 s with
    | some (m, []) => if (dtick m now).2 = true then ((dtick m now).1, 0) else dparse s now r
    | _ => dparse s now r
/-- A date's tick. -/
def dateP (s : List UInt8) (now : Int) : Int × Int := dparse s now [dform0, dform1, dform2]
theorem t1 : dateP [84, 104, 117, 44, 32, 48, 49, 32, 74, 97, 110, 32, 49, 57, 55, 48, 32, 48, 48, 58, 48, 50, 58, 48, 48, 32, 71, 77, 84] 110 = (120, 0) := by decide +kernel
end Go.Proofs.YtgmmjhcklhajiaaGreatDoor
/- The library's own mark. -/
namespace Go.Proofs.YtgmmjhcklhajiaaGreatDoor
open Go.RowKit
set_option maxRecDepth 100000

/-- The library's own mark holds a number. -/
def MaxL (w : World) : Prop := 3 < w.heap.size ∧ ∃ m, w.cell? ⟨3, 0, none⟩ = some (.int .i64 m)
theorem MaxL.of {w : World} (h : ∃ m, w.cell? ⟨3, 0, none⟩ = some (.int .i64 m)) : MaxL w := by
  obtain ⟨m, h⟩ := h
  exact ⟨World.block_lt_of_cell? w _ h, m, h⟩
theorem MaxL.below {w w' : World} (h : MaxL w) (hb : Below w.heap.size w w') : MaxL w' := by
  obtain ⟨h0, m, h⟩ := h
  exact ⟨Nat.lt_of_lt_of_le h0 hb.size, m, (hb.cell (p := ⟨_, 0, none⟩) h0).trans h⟩
end Go.Proofs.YtgmmjhcklhajiaaGreatDoor
/- Dates: the walks of number, name, leap, long, ahead, year, two. -/
namespace Go.Proofs.YtgmmjhcklhajiaaGreatDoor
open Go.RowKit
set_option maxRecDepth 100000

def intD : Value → Int
  | .int _ n => n
  | _ => 0
theorem dgI (c : UInt8) : dg c = (decide (48 ≤ (c.toNat : Int)) && decide ((c.toNat : Int) ≤ 57)) := by
  unfold dg; rw [Bool.eq_iff_iff]; simp; omega
theorem dnum_snoc : ∀ (l : List UInt8) (c : UInt8) (a : Int), dnum (l ++ [c]) a = 10 * dnum l a + ((c.toNat : Int) - 48)
  | [], c, a => rfl
  | x :: r, c, a => by rw [List.cons_append, dnum, dnum, dnum_snoc r c]
theorem dnum_le : ∀ (l : List UInt8), l.all dg = true → ∀ a : Int, 0 ≤ a → 0 ≤ dnum l a ∧ dnum l a < (a + 1) * 10 ^ l.length
  | [], _, a, ha => by simp [dnum]; omega
  | x :: r, h, a, ha => by
    rw [List.all_cons, Bool.and_eq_true] at h
    have hx := h.1
    unfold dg at hx
    simp at hx
    have ih := dnum_le r h.2 (10 * a + ((x.toNat : Int) - 48)) (by omega)
    rw [dnum, List.length_cons, Int.pow_succ]
    refine ⟨ih.1, Int.lt_of_lt_of_le ih.2 ?_⟩
    have h1 : (10 * a + ((x.toNat : Int) - 48) + 1) ≤ (a + 1) * 10 := by omega
    have h2 := Int.mul_le_mul_of_nonneg_right h1 (show (0 : Int) ≤ 10 ^ r.length from Int.le_of_lt (Int.pow_pos (by decide)))
    rw [Int.mul_comm (10 ^ r.length) 10, ← Int.mul_assoc]
    exact h2
set_option maxHeartbeats 4000000 in
theorem dnumber_any (s : ByteArray) (n : Nat) (hn : n ≤ 4) (w : World) :
    Calls Tryz.prog 194 #[.string s, .int .i64 n] w fun e w' => e = .returned (.tuple #[.int .i64 (dnumL s.data.toList n).1, .string ⟨(dnumL s.data.toList n).2.1.toArray⟩, .bool (dnumL s.data.toList n).2.2]) ∧ ∃ q, w' = w.drewN q := by
  obtain ⟨R, hR⟩ : ∃ R, dnumL s.data.toList n = R := ⟨_, rfl⟩
  rw [hR]
  unfold dnumL at hR
  rw [← Lib.size_eq] at hR
  by_cases hlt : s.size < n
  · have hR2 : R = (0, [], false) := by rw [← hR]; simp [hlt]
    subst hR2
    clear hR
    go_enter Tryz.func194, Tryz.ntmps194
    go_wp2
    go_ret3
    exact ⟨rfl, 0, rfl⟩
  · have hd : decide (s.size < n) = false := by simpa using hlt
    rw [hd] at hR
    simp only [cond_false] at hR
    have HR := Lib.hid hR
    clear hR hd
    go_enter Tryz.func194, Tryz.ntmps194
    go_wp2_with fail
    go_loopw [7, 14] (fun k i wr => ∃ j : Nat, j ≤ n ∧ i = .int .i64 j ∧ (∃ v, k = .int .i64 v ∧ Hid (v = dnum (s.data.toList.take j) 0)) ∧ Hid ((s.data.toList.take j).all dg = true) ∧ wr = w) (fun _ i _ => n - (intD i).toNat)
    case atStart => exact ⟨0, Nat.zero_le _, rfl, ⟨0, rfl, Lib.hid (by simp [dnum])⟩, Lib.hid (by simp), rfl⟩
    case round =>
      obtain ⟨j, hj, rfl, ⟨v, rfl, HV⟩, HALL, rfl⟩ := hrel
      by_cases hjn : j < n
      · have hjs : j < s.size := by omega
        have hu := u8_lt s[j]
        have hts := take_snoc s j hjs
        cases hdg : dg s[j]
        · have hbad : ∃ (b : Bool), (s.data.toList.take n).all dg = false := by
            refine ⟨true, ?_⟩
            rw [List.all_eq_false]
            exact ⟨s[j], by rw [List.mem_take_iff_getElem]; exact ⟨j, by rw [← Lib.size_eq]; omega, rfl⟩, by simp [hdg]⟩
          obtain ⟨_, hbad⟩ := hbad
          have hR2 : R = (0, [], false) := by rw [← HR.out, hbad]; rfl
          have hI := dgI s[j]
          rw [hdg] at hI
          subst hR2
          have hcase : (s[j].toNat : Int) < 48 ∨ (¬ (s[j].toNat : Int) < 48 ∧ 57 < (s[j].toNat : Int)) := by
            have := hI
            simp at this
            omega
          clear hI hdg hbad hts HR
          rcases hcase with hc | ⟨hc1, hc2⟩
          · have t1 : decide ((s[j].toNat : Int) < 48) = true := by simpa using hc
            go_wp2
            go_ret3
            exact ⟨rfl, 0, rfl⟩
          · have t1 : decide ((s[j].toNat : Int) < 48) = false := by simpa using hc1
            have t2 : decide ((s[j].toNat : Int) > 57) = true := by simpa using hc2
            go_wp2
            go_ret3
            exact ⟨rfl, 0, rfl⟩
        · have hI := dgI s[j]
          rw [hdg] at hI
          have hc : 48 ≤ (s[j].toNat : Int) ∧ (s[j].toNat : Int) ≤ 57 := by
            have := hI.symm
            simp at this
            omega
          have t1 : decide ((s[j].toNat : Int) < 48) = false := by simp; omega
          have t2 : decide ((s[j].toNat : Int) > 57) = false := by simp; omega
          have hb := dnum_le (s.data.toList.take j) HALL.out 0 (by omega)
          rw [← HV.out] at hb
          have hl4 : (s.data.toList.take j).length ≤ 3 := by rw [List.length_take]; omega
          have hp : ((10 : Int)) ^ (s.data.toList.take j).length ≤ 1000 := by
            generalize (s.data.toList.take j).length = L at hl4
            have h4 : L = 0 ∨ L = 1 ∨ L = 2 ∨ L = 3 := by omega
            rcases h4 with rfl | rfl | rfl | rfl <;> decide
          have hv : 0 ≤ v ∧ v ≤ 1000 := by omega
          have hw1 : IntKind.i64.wrap (10 * v) = 10 * v := by rw [IntKind.wrap_i64]; omega
          have hw2 : IntKind.u8.wrap ((s[j].toNat : Int) - 48) = (s[j].toNat : Int) - 48 := by rw [IntKind.wrap_u8]; omega
          have hw3 : IntKind.i64.wrap ((s[j].toNat : Int) - 48) = (s[j].toNat : Int) - 48 := by rw [IntKind.wrap_i64]; omega
          have hw4 : IntKind.i64.wrap (10 * v + ((s[j].toNat : Int) - 48)) = 10 * v + ((s[j].toNat : Int) - 48) := by rw [IntKind.wrap_i64]; omega
          have hw5 : IntKind.i64.wrap ((j : Int) + 1) = ((j + 1 : Nat) : Int) := by rw [IntKind.wrap_i64]; omega
          have hnext : 10 * v + ((s[j].toNat : Int) - 48) = dnum (s.data.toList.take (j + 1)) 0 := by rw [hts, dnum_snoc, ← HV.out]
          have hall : (s.data.toList.take (j + 1)).all dg = true := by rw [hts, List.all_append, HALL.out]; simp [hdg]
          have HN := Lib.hid hnext; have HA2 := Lib.hid hall
          clear hI hdg hb hp hl4 hnext hall hts HV HALL
          go_wp2
          go_roundw
          case rel => exact ⟨j + 1, hjn, rfl, ⟨_, rfl, HN⟩, HA2, trivial⟩
          case measure => simp [intD]; omega
      · have hjn2 : j = n := by omega
        subst hjn2
        have hR2 : R = (v, s.data.toList.drop j, true) := by rw [← HR.out, HALL.out, ← HV.out]; rfl
        have hns : j ≤ s.size := by omega
        subst hR2
        have hex : s.extract j s.size = ⟨(s.data.toList.drop j).toArray⟩ := by
          apply str_eq
          rw [Lib.extract_data]
          have : (s.data.toList.drop j).length ≤ s.size - j := by rw [List.length_drop, ← Lib.size_eq]; omega
          rw [List.take_of_length_le this]
        have HEX := Lib.hid hex
        clear HR HV HALL hex
        go_wp2
        go_region
        go_wp2
        go_ret3
        exact ⟨by rw [← HEX.out]; rfl, 1, rfl⟩
end Go.Proofs.YtgmmjhcklhajiaaGreatDoor
/- Dates: the walks of leap, long, ahead, year, two. -/
namespace Go.Proofs.YtgmmjhcklhajiaaGreatDoor
open Go.RowKit
set_option maxRecDepth 100000

set_option maxHeartbeats 2000000 in
theorem dleap_any (y : Int) (hy : 0 ≤ y ∧ y ≤ 100000) (w : World) :
    Calls Tryz.prog 146 #[.int .i64 y] w fun e w' => e = .returned (.bool (dleap y)) ∧ w' = w := by
  have e4 : y.tmod 4 = y % 4 := Int.tmod_eq_emod_of_nonneg hy.1
  have e100 : y.tmod 100 = y % 100 := Int.tmod_eq_emod_of_nonneg hy.1
  have e400 : y.tmod 400 = y % 400 := Int.tmod_eq_emod_of_nonneg hy.1
  obtain ⟨R, hR⟩ : ∃ R, dleap y = R := ⟨_, rfl⟩
  rw [hR]
  unfold dleap at hR
  have HR := Lib.hid hR
  clear hR
  by_cases h4 : y % 4 = 0
  · by_cases h100 : y % 100 = 0
    · by_cases h400 : y % 400 = 0
      · have hx : R = true := by rw [← HR.out]; simp [h4, h100, h400]
        subst hx
        clear HR
        go_enter Tryz.func146, Tryz.ntmps146
        go_wp2
        go_ret
        exact ⟨rfl, rfl⟩
      · have hx : R = false := by rw [← HR.out]; simp [h4, h100, h400]
        subst hx
        clear HR
        go_enter Tryz.func146, Tryz.ntmps146
        go_wp2
        go_ret
        exact ⟨by first | rfl | simp [h400], rfl⟩
    · have hx : R = true := by rw [← HR.out]; simp [h4, h100]
      subst hx
      clear HR
      go_enter Tryz.func146, Tryz.ntmps146
      go_wp2
      go_ret
      exact ⟨by first | rfl | simp [h100], rfl⟩
  · have h400 : ¬ y % 400 = 0 := by omega
    have hx : R = false := by rw [← HR.out]; simp [h4, h400]
    subst hx
    clear HR
    go_enter Tryz.func146, Tryz.ntmps146
    go_wp2
    go_ret
    exact ⟨by first | rfl | simp [h400], rfl⟩
set_option maxHeartbeats 2000000 in
theorem dlong_any (y m : Int) (hy : 0 ≤ y ∧ y ≤ 100000) (w : World) :
    Calls Tryz.prog 93 #[.int .i64 y, .int .i64 m] w fun e w' => e = .returned (.int .i64 (dlong y m)) ∧ w' = w := by
  by_cases h2 : m = 2
  · subst h2
    have hx : dlong y 2 = if dleap y = true then 29 else 28 := by unfold dlong; rw [if_pos rfl]
    have k := dleap_any y hy w
    rw [hx]
    generalize dleap y = b at *
    have K := Lib.hid k
    clear k hx
    cases b
    · go_enter Tryz.func93, Tryz.ntmps93
      go_wp2_with fail
      (with_reducible refine K.out.mono ?_)
      rintro e w1 ⟨rfl, rfl⟩
      go_wp2
      go_ret
      exact ⟨rfl, rfl⟩
    · go_enter Tryz.func93, Tryz.ntmps93
      go_wp2_with fail
      (with_reducible refine K.out.mono ?_)
      rintro e w1 ⟨rfl, rfl⟩
      go_wp2
      go_ret
      exact ⟨rfl, rfl⟩
  · by_cases h4 : m = 4 ∨ m = 6 ∨ m = 9 ∨ m = 11
    · have hx : dlong y m = 30 := by unfold dlong; rw [if_neg h2, if_pos h4]
      rw [hx]
      clear hx h2
      rcases h4 with rfl | rfl | rfl | rfl
      all_goals
        go_enter Tryz.func93, Tryz.ntmps93
        go_wp2
        go_ret
        exact ⟨rfl, rfl⟩
    · have hx : dlong y m = 31 := by unfold dlong; rw [if_neg h2, if_neg h4]
      rw [hx]
      have n4 : ¬ m = 4 := fun h => h4 (by simp [h])
      have n6 : ¬ m = 6 := fun h => h4 (by simp [h])
      have n9 : ¬ m = 9 := fun h => h4 (by simp [h])
      have n11 : ¬ m = 11 := fun h => h4 (by simp [h])
      clear hx h4
      go_enter Tryz.func93, Tryz.ntmps93
      go_wp2
      go_ret
      exact ⟨rfl, rfl⟩
set_option maxHeartbeats 2000000 in
theorem dahead_any (y : Int) (hy : 1970 ≤ y ∧ y ≤ 100000) (w : World) :
    Calls Tryz.prog 145 #[.int .i64 y] w fun e w' => e = .returned (.int .i64 (dahead y)) ∧ w' = w := by
  obtain ⟨R, hR⟩ : ∃ R, dahead y = R := ⟨_, rfl⟩
  rw [hR]
  unfold dahead at hR
  have e1 : (y - 1).tdiv 4 = (y - 1) / 4 := Int.tdiv_eq_ediv_of_nonneg (by omega)
  have e2 : (y - 1).tdiv 100 = (y - 1) / 100 := Int.tdiv_eq_ediv_of_nonneg (by omega)
  have e3 : (y - 1).tdiv 400 = (y - 1) / 400 := Int.tdiv_eq_ediv_of_nonneg (by omega)
  have w0 : IntKind.i64.wrap (y - 1) = y - 1 := by rw [IntKind.wrap_i64]; omega
  have w1 : IntKind.i64.wrap (y - 1970) = y - 1970 := by rw [IntKind.wrap_i64]; omega
  have w2 : IntKind.i64.wrap (365 * (y - 1970)) = 365 * (y - 1970) := by rw [IntKind.wrap_i64]; omega
  obtain ⟨a, ha⟩ : ∃ a, (y - 1) / 4 = a := ⟨_, rfl⟩
  obtain ⟨b, hb⟩ : ∃ b, (y - 1) / 100 = b := ⟨_, rfl⟩
  obtain ⟨c, hc⟩ : ∃ c, (y - 1) / 400 = c := ⟨_, rfl⟩
  rw [ha] at e1 hR; rw [hb] at e2 hR; rw [hc] at e3 hR
  have u1 : IntKind.i64.wrap a = a := by rw [IntKind.wrap_i64]; omega
  have u2 : IntKind.i64.wrap b = b := by rw [IntKind.wrap_i64]; omega
  have u3 : IntKind.i64.wrap c = c := by rw [IntKind.wrap_i64]; omega
  have v1 : IntKind.i64.wrap (365 * (y - 1970) + a) = 365 * (y - 1970) + a := by rw [IntKind.wrap_i64]; omega
  have v2 : IntKind.i64.wrap (365 * (y - 1970) + a - b) = 365 * (y - 1970) + a - b := by rw [IntKind.wrap_i64]; omega
  have v3 : IntKind.i64.wrap (365 * (y - 1970) + a - b + c) = 365 * (y - 1970) + a - b + c := by rw [IntKind.wrap_i64]; omega
  have v4 : IntKind.i64.wrap (365 * (y - 1970) + a - b + c - 492) = 365 * (y - 1970) + a - b + c - 492 := by rw [IntKind.wrap_i64]; omega
  have v5 : IntKind.i64.wrap (365 * (y - 1970) + a - b + c - 492 + 19) = 365 * (y - 1970) + a - b + c - 492 + 19 := by rw [IntKind.wrap_i64]; omega
  have v6 : IntKind.i64.wrap (365 * (y - 1970) + a - b + c - 492 + 19 - 4) = 365 * (y - 1970) + a - b + c - 492 + 19 - 4 := by rw [IntKind.wrap_i64]; omega
  have HR := Lib.hid hR
  clear ha hb hc hR
  rw [← HR.out]
  go_enter Tryz.func145, Tryz.ntmps145
  go_wp2
  go_ret
  exact ⟨rfl, rfl⟩
set_option maxHeartbeats 4000000 in
theorem dyear_any (d : Int) (hd : 0 ≤ d ∧ d ≤ 3000000) (w : World) :
    Calls Tryz.prog 92 #[.int .i64 d] w fun e w' => e = .returned (.tuple #[.int .i64 (dyearO d).1, .int .i64 (dyearO d).2]) ∧ w' = w := by
  obtain ⟨R, hR⟩ : ∃ R, dyear 9000 d (1970 + d / 366) = R := ⟨_, rfl⟩
  have hO : dyearO d = (R, d - dahead R) := by unfold dyearO; rw [hR]
  rw [hO]
  have e1 : d.tdiv 366 = d / 366 := Int.tdiv_eq_ediv_of_nonneg hd.1
  obtain ⟨a, ha⟩ : ∃ a, d / 366 = a := ⟨_, rfl⟩
  rw [ha] at e1 hR
  have hab : 0 ≤ a ∧ a ≤ 9000 := by omega
  have w0 : IntKind.i64.wrap a = a := by rw [IntKind.wrap_i64]; omega
  have w1 : IntKind.i64.wrap (1970 + a) = 1970 + a := by rw [IntKind.wrap_i64]; omega
  have hinv0 : dahead (1970 + a) ≤ d := by have := (dahead_ge (1970 + a) (by omega)).2; omega
  have HR := Lib.hid hR
  have HI := Lib.hid hinv0
  clear hR ha hO hinv0
  go_enter Tryz.func92, Tryz.ntmps92
  go_wp2_with fail
  go_loopw [2] (fun v wr => ∃ (y : Int) (f : Nat), v = .int .i64 y ∧ 1970 ≤ y ∧ y ≤ 90000 ∧ Hid (dahead y ≤ d) ∧ Hid (dyear f d y = R) ∧ Hid (d < 365 * (y - 1970) + 365 * f) ∧ wr = w) (fun v _ => 100000 - (intD v).toNat)
  case atStart => exact ⟨1970 + a, 9000, rfl, by omega, by omega, HI, HR, Lib.hid (by omega), rfl⟩
  case round =>
    obtain ⟨y, f, rfl, hy1, hy2, HA, HY, HF, rfl⟩ := hrel
    have hy3 : y ≤ 12000 := by have := (dahead_ge y hy1).1; have := HA.out; omega
    have k1 := dahead_any (y + 1) (by omega) wr
    have k2 := dahead_any y (by omega) wr
    have w2 : IntKind.i64.wrap (y + 1) = y + 1 := by rw [IntKind.wrap_i64]; omega
    have hge := dahead_ge y hy1
    have hge1 := dahead_ge (y + 1) (by omega)
    by_cases hle : dahead (y + 1) ≤ d
    · have hnext : ∃ f', dyear f' d (y + 1) = R ∧ d < 365 * (y + 1 - 1970) + 365 * f' := by
        cases f with
        | zero => have := HF.out; omega
        | succ f =>
          refine ⟨f, ?_, by have := HF.out; omega⟩
          have := HY.out
          rw [dyear, if_pos hle] at this
          exact this
      obtain ⟨f', hn1, hn2⟩ := hnext
      have HN := Lib.hid (And.intro hn1 (And.intro hn2 hle))
      have t1 : decide (dahead (y + 1) ≤ d) = true := by simpa using hle
      have K1 := Lib.hid k1
      clear k1 k2 hge hge1 hn1 hn2 hle HY HF
      go_wp2_with fail
      (with_reducible refine K1.out.mono ?_)
      rintro e w1 ⟨rfl, rfl⟩
      go_wp2
      go_roundw
      case rel => exact ⟨y + 1, f', rfl, by omega, by omega, Lib.hid HN.out.2.2, Lib.hid HN.out.1, Lib.hid HN.out.2.1, trivial⟩
      case measure => simp [intD]; omega
    · have hyR : y = R := by
        have := HY.out
        cases f with
        | zero => exact this
        | succ f => rw [dyear, if_neg hle] at this; exact this
      subst hyR
      have t1 : decide (dahead (y + 1) ≤ d) = false := by simpa using hle
      have w3 : IntKind.i64.wrap (d - dahead y) = d - dahead y := by rw [IntKind.wrap_i64]; omega
      have K1 := Lib.hid k1
      have K2 := Lib.hid k2
      clear k1 k2 hge hge1 hle HY HF
      go_wp2_with fail
      (with_reducible refine K1.out.mono ?_)
      rintro e w1 ⟨rfl, rfl⟩
      go_wp2_with fail
      (with_reducible refine K2.out.mono ?_)
      rintro e w1 ⟨rfl, rfl⟩
      go_wp2
      go_ret2
      exact ⟨rfl, rfl⟩
end Go.Proofs.YtgmmjhcklhajiaaGreatDoor
/- Dates: the walks of name and of the names of the days. -/
namespace Go.Proofs.YtgmmjhcklhajiaaGreatDoor
open Go.RowKit
set_option maxRecDepth 100000

/-- What the library's own texts read. -/
def DEnv (w : World) : Prop := MaxL w ∧ 0 < w.heap.size ∧ Lib.TabIs Tryz.prog w "strings.asciiSpace" .u8 Lib.asciiSpaceTab
theorem var_heap {P : Program} {w w' : World} {name : String} {k : IntKind} {zs : List Int} {g : Nat} (hg : P.globalNamed name = some g) (h : Lib.TabIs P w name k zs) (hb : w'.heap[g]? = w.heap[g]?) : Lib.TabIs P w' name k zs := by
  unfold Lib.TabIs World.var? at *
  rw [hg] at h ⊢
  simp only [Option.bind_some] at h ⊢
  rw [hb]
  exact h
theorem DEnv.below {w w' : World} (h : DEnv w) (hb : Below w.heap.size w w') : DEnv w' :=
  ⟨h.1.below hb, Nat.lt_of_lt_of_le h.2.1 hb.size, var_heap (g := 0) (by kernel_rfl) h.2.2 (hb.block _ h.2.1)⟩
def dayS : ByteArray := ⟨#[84, 104, 117, 114, 115, 100, 97, 121, 32, 70, 114, 105, 100, 97, 121, 32, 83, 97, 116, 117, 114, 100, 97, 121, 32, 83, 117, 110, 100, 97, 121, 32, 77, 111, 110, 100, 97, 121, 32, 84, 117, 101, 115, 100, 97, 121, 32, 87, 101, 100, 110, 101, 115, 100, 97, 121]⟩
theorem fields_days : Lib.fields dayS.data.toList = ddays := by decide +kernel
theorem ddays_any (w : World) (h : DEnv w) :
    Calls Tryz.prog 94 #[.string ⟨#[84, 104, 117, 114, 115, 100, 97, 121, 32, 70, 114, 105, 100, 97, 121, 32, 83, 97, 116, 117, 114, 100, 97, 121, 32, 83, 117, 110, 100, 97, 121, 32, 77, 111, 110, 100, 97, 121, 32, 84, 117, 101, 115, 100, 97, 121, 32, 87, 101, 100, 110, 101, 115, 100, 97, 121]⟩] w fun e w' => e = .returned (.slice (some ⟨w.heap.size, 0, none⟩) 7 7) ∧ Rd (some ⟨w.heap.size, 0, none⟩) 7 1 (strsV ddays) w' ∧ Below w.heap.size w w' := by
  have k := Tryz.strings_Fields dayS w (by decide) (by
    intro j b hb
    have := List.mem_of_getElem? hb
    have hall : (dayS.data.toList.all fun b => decide (b.toNat < 128)) = true := by decide +kernel
    simpa using List.all_eq_true.1 hall b this) h.2.2
  rw [fields_days] at k
  refine k.mono ?_
  rintro e w' ⟨rfl, rfl⟩
  refine ⟨rfl, ⟨rfl, fun _ => ⟨_, 0, rfl, by simp, fun j u hu => ?_⟩⟩, (Below.refl _ w).alloc (Nat.le_refl _) _⟩
  rw [Nat.zero_add, World.cell?_alloc_mark]
  simpa [strsV] using hu
set_option maxHeartbeats 4000000 in
theorem dname0_any (s : ByteArray) (b c : Nat) (w : World) (hr : Rd (some ⟨b, 0, none⟩) 7 1 (strsV ddays) w) :
    Calls Tryz.prog 193 #[.string s, .slice (some ⟨b, 0, none⟩) 7 c, .int .i64 0] w fun e w' => e = .returned (.tuple #[.int .i64 (dname s.data.toList 0 ddays 0).1, .string ⟨(dname s.data.toList 0 ddays 0).2.1.toArray⟩, .bool (dname s.data.toList 0 ddays 0).2.2]) ∧ w' = w := by
  obtain ⟨R, hR⟩ : ∃ R, dname s.data.toList 0 ddays 0 = R := ⟨_, rfl⟩
  rw [hR]
  have hlen : ∀ x ∈ ddays, 3 ≤ x.length := by decide
  have hl7 : ddays.length = 7 := rfl
  have HR := Lib.hid hR; have HRD := Lib.hid hr; have HLEN := Lib.hid hlen; have HL7 := Lib.hid hl7
  clear hR hr hlen hl7
  generalize ddays = ls at *
  go_enter Tryz.func193, Tryz.ntmps193
  go_wp2_with fail
  go_loopw [15] (fun i wr => ∃ j : Nat, j ≤ 7 ∧ i = .int .i64 j ∧ Hid (dname s.data.toList 0 (ls.drop j) j = R) ∧ wr = w) (fun i _ => 7 - (intD i).toNat)
  case atStart => exact ⟨0, Nat.zero_le _, rfl, HR, rfl⟩
  case round =>
    obtain ⟨j, hj, rfl, HD, rfl⟩ := hrel
    by_cases hj7 : j < 7
    · have hjl : j < ls.length := by rw [HL7.out]; exact hj7
      obtain ⟨b', o', e, _, d0⟩ := HRD.out.str_at hjl
      cases e
      have h3 := HLEN.out ls[j] (List.getElem_mem hjl)
      have hdr : ls.drop j = ls[j] :: ls.drop (j + 1) := List.drop_eq_getElem_cons hjl
      have hD := HD.out
      rw [hdr, dname] at hD
      generalize ls[j] = x at *
      obtain ⟨o, rfl⟩ : ∃ o : ByteArray, x = o.data.toList := ⟨⟨x.toArray⟩, by simp⟩
      rw [str_of, Nat.zero_add] at d0
      have i2 : IntKind.i64.wrap ((j : Int) + 1) = ((j + 1 : Nat) : Int) := by rw [IntKind.wrap_i64]; omega
      have j1 : IntKind.i64.wrap (j : Int) = j := by rw [IntKind.wrap_i64]; omega
      simp only [Nat.lt_irrefl, decide_false, cond_false] at hD
      have k1 := Tryz.strings_CutPrefix s o wr
      cases hp : Lib.hasPrefix s.data.toList o.data.toList
      · rw [hp] at hD k1
        simp only [cond_false] at hD
        have HD2 := Lib.hid hD
        have K1 := Lib.hid k1
        clear hD k1 hdr h3 hjl hp HD
        go_wp2_with fail
        (with_reducible refine K1.out.mono ?_)
        rintro e w1 ⟨rfl, rfl⟩
        go_wp2
        go_roundw
        case rel => exact ⟨j + 1, hj7, rfl, HD2, trivial⟩
        case measure => simp [intD]; omega
      · rw [hp] at hD k1
        simp only [cond_true] at hD
        have htp : Lib.trimPrefix s.data.toList o.data.toList = s.data.toList.drop o.data.toList.length := by unfold Lib.trimPrefix; rw [hp]; rfl
        rw [htp] at k1
        have HD2 := Lib.hid hD
        have K1 := Lib.hid k1
        clear hD k1 hdr h3 hjl hp HD htp
        go_wp2_with fail
        (with_reducible refine K1.out.mono ?_)
        rintro e w1 ⟨rfl, rfl⟩
        go_wp2
        go_ret3
        exact ⟨by rw [← HD2.out]; rfl, rfl⟩
    · have hj2 : j = 7 := by omega
      subst hj2
      have hD := HD.out
      rw [List.drop_eq_nil_of_le (by rw [HL7.out]; exact Nat.le_refl _), dname] at hD
      have HD2 := Lib.hid hD
      clear hD
      go_wp2
      go_ret3
      exact ⟨by rw [← HD2.out]; rfl, rfl⟩
set_option maxHeartbeats 4000000 in
theorem dname3_any (s : ByteArray) (b c : Nat) (w : World) (hr : Rd (some ⟨b, 0, none⟩) 7 1 (strsV ddays) w) :
    Calls Tryz.prog 193 #[.string s, .slice (some ⟨b, 0, none⟩) 7 c, .int .i64 3] w fun e w' => e = .returned (.tuple #[.int .i64 (dname s.data.toList 3 ddays 0).1, .string ⟨(dname s.data.toList 3 ddays 0).2.1.toArray⟩, .bool (dname s.data.toList 3 ddays 0).2.2]) ∧ w' = w := by
  obtain ⟨R, hR⟩ : ∃ R, dname s.data.toList 3 ddays 0 = R := ⟨_, rfl⟩
  rw [hR]
  have hlen : ∀ x ∈ ddays, 3 ≤ x.length := by decide
  have hl7 : ddays.length = 7 := rfl
  have HR := Lib.hid hR; have HRD := Lib.hid hr; have HLEN := Lib.hid hlen; have HL7 := Lib.hid hl7
  clear hR hr hlen hl7
  generalize ddays = ls at *
  go_enter Tryz.func193, Tryz.ntmps193
  go_wp2_with fail
  go_loopw [15] (fun i wr => ∃ j : Nat, j ≤ 7 ∧ i = .int .i64 j ∧ Hid (dname s.data.toList 3 (ls.drop j) j = R) ∧ wr = w) (fun i _ => 7 - (intD i).toNat)
  case atStart => exact ⟨0, Nat.zero_le _, rfl, HR, rfl⟩
  case round =>
    obtain ⟨j, hj, rfl, HD, rfl⟩ := hrel
    by_cases hj7 : j < 7
    · have hjl : j < ls.length := by rw [HL7.out]; exact hj7
      obtain ⟨b', o', e, _, d0⟩ := HRD.out.str_at hjl
      cases e
      have h3 := HLEN.out ls[j] (List.getElem_mem hjl)
      have hdr : ls.drop j = ls[j] :: ls.drop (j + 1) := List.drop_eq_getElem_cons hjl
      have hD := HD.out
      rw [hdr, dname] at hD
      generalize ls[j] = x at *
      obtain ⟨o, rfl⟩ : ∃ o : ByteArray, x = o.data.toList := ⟨⟨x.toArray⟩, by simp⟩
      rw [str_of, Nat.zero_add] at d0
      have i2 : IntKind.i64.wrap ((j : Int) + 1) = ((j + 1 : Nat) : Int) := by rw [IntKind.wrap_i64]; omega
      have j1 : IntKind.i64.wrap (j : Int) = j := by rw [IntKind.wrap_i64]; omega
      have hdec : decide (0 < 3) = true := rfl
      simp only [hdec, cond_true] at hD
      have hex : (o.extract 0 3).data.toList = o.data.toList.take 3 := by rw [Lib.extract_data]; simp
      have k1 := Tryz.strings_CutPrefix s (o.extract 0 3) wr
      rw [hex] at k1
      have hl3 : (o.data.toList.take 3).length = 3 := by rw [List.length_take]; omega
      rw [hl3] at hD
      have h3s : 3 ≤ o.size := by rw [Lib.size_eq]; exact h3
      cases hp : Lib.hasPrefix s.data.toList (o.data.toList.take 3)
      · rw [hp] at hD k1
        simp only [cond_false] at hD
        have HD2 := Lib.hid hD
        have K1 := Lib.hid k1
        clear hD k1 hdr h3 hjl hp HD hex hl3
        go_wp2_with fail
        (with_reducible refine K1.out.mono ?_)
        rintro e w1 ⟨rfl, rfl⟩
        go_wp2
        go_roundw
        case rel => exact ⟨j + 1, hj7, rfl, HD2, trivial⟩
        case measure => simp [intD]; omega
      · rw [hp] at hD k1
        simp only [cond_true] at hD
        have htp : Lib.trimPrefix s.data.toList (o.data.toList.take 3) = s.data.toList.drop (o.data.toList.take 3).length := by unfold Lib.trimPrefix; rw [hp]; rfl
        rw [htp, hl3] at k1
        have HD2 := Lib.hid hD
        have K1 := Lib.hid k1
        clear hD k1 hdr h3 hjl hp HD htp hex hl3
        go_wp2_with fail
        (with_reducible refine K1.out.mono ?_)
        rintro e w1 ⟨rfl, rfl⟩
        go_wp2
        go_ret3
        exact ⟨by rw [← HD2.out]; rfl, rfl⟩
    · have hj2 : j = 7 := by omega
      subst hj2
      have hD := HD.out
      rw [List.drop_eq_nil_of_le (by rw [HL7.out]; exact Nat.le_refl _), dname] at hD
      have HD2 := Lib.hid hD
      clear hD
      go_wp2
      go_ret3
      exact ⟨by rw [← HD2.out]; rfl, rfl⟩
end Go.Proofs.YtgmmjhcklhajiaaGreatDoor
/- Dates: the walk of take, piece by piece (printed by wip/tools/date4.py). -/
namespace Go.Proofs.YtgmmjhcklhajiaaGreatDoor
open Go.RowKit
set_option maxRecDepth 100000

/-- Nothing that was there turned, but for this block. -/
def ButB (mb : Nat) (w w' : World) : Prop := w'.os = w.os ∧ w'.tape = w.tape ∧ w'.output = w.output ∧ w.heap.size ≤ w'.heap.size ∧ ∀ b, b < w.heap.size → b ≠ mb → w'.heap[b]? = w.heap[b]?
theorem ButB.refl (mb : Nat) (w : World) : ButB mb w w := ⟨rfl, rfl, rfl, Nat.le_refl _, fun _ _ _ => rfl⟩
theorem ButB.ofBelow {mb : Nat} {w w' : World} (h : Below w.heap.size w w') : ButB mb w w' := ⟨h.os, h.tape, h.output, h.size, fun b hb _ => h.block b hb⟩
theorem ButB.trans {mb : Nat} {w w1 w' : World} (h : ButB mb w w1) (h2 : ButB mb w1 w') : ButB mb w w' :=
  ⟨h2.1.trans h.1, h2.2.1.trans h.2.1, h2.2.2.1.trans h.2.2.1, Nat.le_trans h.2.2.2.1 h2.2.2.2.1, fun b hb hn => (h2.2.2.2.2 b (Nat.lt_of_lt_of_le hb h.2.2.2.1) hn).trans (h.2.2.2.2 b hb hn)⟩
theorem ButB.set (mb j q : Nat) (w : World) (v : Value) : ButB mb w ((w.drewN q).setCell ⟨mb, j, none⟩ v) :=
  ⟨rfl, rfl, rfl, by simp, fun b _ hn => by simp [World.setCell, Array.getElem?_modify]; intro h; exact absurd h.symm hn⟩
theorem ButB.below {mb B : Nat} {w w' : World} (h : ButB mb w w') (hB : B ≤ mb) (hw : B ≤ w.heap.size) : Below B w w' := ⟨h.1, h.2.1, h.2.2.1, h.2.2.2.1, fun b hb => h.2.2.2.2 b (by omega) (by omega)⟩
def MomAt (mb : Nat) (m : Mom) (w : World) : Prop := w.heap[mb]? = some (.cells #[.int .i64 m.wd, .int .i64 m.day, .int .i64 m.month, .int .i64 m.year, .int .i64 m.hour, .int .i64 m.minute, .int .i64 m.second, .bool m.two] 176 (0, 0))
theorem MomAt.lt {mb : Nat} {m : Mom} {w : World} (h : MomAt mb m w) : mb < w.heap.size := by
  unfold MomAt at h
  rcases Nat.lt_or_ge mb w.heap.size with h' | h'
  · exact h'
  · simp [Array.getElem?_eq_none h'] at h
theorem MomAt.cells {mb : Nat} {m : Mom} {w : World} (h : MomAt mb m w) : w.cell? ⟨mb, 0, none⟩ = some (.int .i64 m.wd) ∧ w.cell? ⟨mb, 1, none⟩ = some (.int .i64 m.day) ∧ w.cell? ⟨mb, 2, none⟩ = some (.int .i64 m.month) ∧ w.cell? ⟨mb, 3, none⟩ = some (.int .i64 m.year) ∧ w.cell? ⟨mb, 4, none⟩ = some (.int .i64 m.hour) ∧ w.cell? ⟨mb, 5, none⟩ = some (.int .i64 m.minute) ∧ w.cell? ⟨mb, 6, none⟩ = some (.int .i64 m.second) ∧ w.cell? ⟨mb, 7, none⟩ = some (.bool m.two) ∧ ∀ j, w.frozen? ⟨mb, j, none⟩ = false := by
  unfold MomAt at h
  refine ⟨?_, ?_, ?_, ?_, ?_, ?_, ?_, ?_, fun j => ?_⟩ <;> first | simp [World.cell?, h] | simp [World.frozen?, h]
theorem MomAt.below {mb : Nat} {m : Mom} {w w' : World} (h : MomAt mb m w) (hb : Below w.heap.size w w') : MomAt mb m w' := (hb.block mb h.lt).trans h
theorem MomAt.set0 {mb q : Nat} {m : Mom} {w : World} (h : MomAt mb m w) (v : Int) : MomAt mb { m with wd := v } ((w.drewN q).setCell ⟨mb, 0, none⟩ (.int .i64 v)) := by
  unfold MomAt at *
  simp [World.setCell, Array.getElem?_modify, h]
theorem MomAt.set1 {mb q : Nat} {m : Mom} {w : World} (h : MomAt mb m w) (v : Int) : MomAt mb { m with day := v } ((w.drewN q).setCell ⟨mb, 1, none⟩ (.int .i64 v)) := by
  unfold MomAt at *
  simp [World.setCell, Array.getElem?_modify, h]
theorem MomAt.set2 {mb q : Nat} {m : Mom} {w : World} (h : MomAt mb m w) (v : Int) : MomAt mb { m with month := v } ((w.drewN q).setCell ⟨mb, 2, none⟩ (.int .i64 v)) := by
  unfold MomAt at *
  simp [World.setCell, Array.getElem?_modify, h]
theorem MomAt.set3 {mb q : Nat} {m : Mom} {w : World} (h : MomAt mb m w) (v : Int) : MomAt mb { m with year := v } ((w.drewN q).setCell ⟨mb, 3, none⟩ (.int .i64 v)) := by
  unfold MomAt at *
  simp [World.setCell, Array.getElem?_modify, h]
theorem MomAt.set4 {mb q : Nat} {m : Mom} {w : World} (h : MomAt mb m w) (v : Int) : MomAt mb { m with hour := v } ((w.drewN q).setCell ⟨mb, 4, none⟩ (.int .i64 v)) := by
  unfold MomAt at *
  simp [World.setCell, Array.getElem?_modify, h]
theorem MomAt.set5 {mb q : Nat} {m : Mom} {w : World} (h : MomAt mb m w) (v : Int) : MomAt mb { m with minute := v } ((w.drewN q).setCell ⟨mb, 5, none⟩ (.int .i64 v)) := by
  unfold MomAt at *
  simp [World.setCell, Array.getElem?_modify, h]
theorem MomAt.set6 {mb q : Nat} {m : Mom} {w : World} (h : MomAt mb m w) (v : Int) : MomAt mb { m with second := v } ((w.drewN q).setCell ⟨mb, 6, none⟩ (.int .i64 v)) := by
  unfold MomAt at *
  simp [World.setCell, Array.getElem?_modify, h]
theorem MomAt.set7 {mb q : Nat} {m : Mom} {w : World} (h : MomAt mb m w) (v : Bool) : MomAt mb { m with two := v } ((w.drewN q).setCell ⟨mb, 7, none⟩ (.bool v)) := by
  unfold MomAt at *
  simp [World.setCell, Array.getElem?_modify, h]
set_option maxHeartbeats 4000000 in
theorem dtake68_any (mb : Nat) (m : Mom) (s : ByteArray) (w : World) (_hE : DEnv w) (hm : MomAt mb m w) :
    Calls Tryz.prog 152 #[.pointer (some ⟨mb, 0, none⟩), .int .i32 68, .string s] w fun e w' => e = .returned (.tuple #[.string ⟨(dtake m 68 s.data.toList).2.1.toArray⟩, .bool (dtake m 68 s.data.toList).2.2]) ∧ ButB mb w w' ∧ MomAt mb (dtake m 68 s.data.toList).1 w' := by
  have hd : dtake m 68 s.data.toList = ({ m with day := (dnumL s.data.toList 2).1 }, (dnumL s.data.toList 2).2) := by unfold dtake; simp
  rw [hd]
  have k := dnumber_any s 2 (by decide) w
  rw [show ((2 : Nat) : Int) = 2 from rfl] at k
  generalize dnumL s.data.toList 2 = r at *
  obtain ⟨v, rest, is⟩ := r
  simp only at k ⊢
  obtain ⟨c0, c1, c2, c3, c4, c5, c6, c7, hf⟩ := hm.cells
  have f1 := hf 1
  have K := Lib.hid k; have HM := Lib.hid hm
  clear k hm hd hf
  go_enter Tryz.func152, Tryz.ntmps152
  go_wp2_with fail
  (with_reducible refine K.out.mono ?_)
  rintro e w1 ⟨rfl, q, rfl⟩
  go_wp2
  go_ret2
  exact ⟨rfl, ButB.set mb 1 q w _, HM.out.set1 (q := q) v⟩
set_option maxHeartbeats 4000000 in
theorem dtake89_any (mb : Nat) (m : Mom) (s : ByteArray) (w : World) (_hE : DEnv w) (hm : MomAt mb m w) :
    Calls Tryz.prog 152 #[.pointer (some ⟨mb, 0, none⟩), .int .i32 89, .string s] w fun e w' => e = .returned (.tuple #[.string ⟨(dtake m 89 s.data.toList).2.1.toArray⟩, .bool (dtake m 89 s.data.toList).2.2]) ∧ ButB mb w w' ∧ MomAt mb (dtake m 89 s.data.toList).1 w' := by
  have hd : dtake m 89 s.data.toList = ({ m with year := (dnumL s.data.toList 4).1 }, (dnumL s.data.toList 4).2) := by unfold dtake; simp
  rw [hd]
  have k := dnumber_any s 4 (by decide) w
  rw [show ((4 : Nat) : Int) = 4 from rfl] at k
  generalize dnumL s.data.toList 4 = r at *
  obtain ⟨v, rest, is⟩ := r
  simp only at k ⊢
  obtain ⟨c0, c1, c2, c3, c4, c5, c6, c7, hf⟩ := hm.cells
  have f3 := hf 3
  have K := Lib.hid k; have HM := Lib.hid hm
  clear k hm hd hf
  go_enter Tryz.func152, Tryz.ntmps152
  go_wp2_with fail
  (with_reducible refine K.out.mono ?_)
  rintro e w1 ⟨rfl, q, rfl⟩
  go_wp2
  go_ret2
  exact ⟨rfl, ButB.set mb 3 q w _, HM.out.set3 (q := q) v⟩
set_option maxHeartbeats 4000000 in
theorem dtake121_any (mb : Nat) (m : Mom) (s : ByteArray) (w : World) (_hE : DEnv w) (hm : MomAt mb m w) :
    Calls Tryz.prog 152 #[.pointer (some ⟨mb, 0, none⟩), .int .i32 121, .string s] w fun e w' => e = .returned (.tuple #[.string ⟨(dtake m 121 s.data.toList).2.1.toArray⟩, .bool (dtake m 121 s.data.toList).2.2]) ∧ ButB mb w w' ∧ MomAt mb (dtake m 121 s.data.toList).1 w' := by
  have hd : dtake m 121 s.data.toList = ({ m with year := (dnumL s.data.toList 2).1, two := true }, (dnumL s.data.toList 2).2) := by unfold dtake; simp
  rw [hd]
  have k := dnumber_any s 2 (by decide) w
  rw [show ((2 : Nat) : Int) = 2 from rfl] at k
  generalize dnumL s.data.toList 2 = r at *
  obtain ⟨v, rest, is⟩ := r
  simp only at k ⊢
  obtain ⟨c0, c1, c2, c3, c4, c5, c6, c7, hf⟩ := hm.cells
  have f3 := hf 3
  have f7 := hf 7
  have K := Lib.hid k; have HM := Lib.hid hm
  clear k hm hd hf
  go_enter Tryz.func152, Tryz.ntmps152
  go_wp2_with fail
  (with_reducible refine K.out.mono ?_)
  rintro e w1 ⟨rfl, q, rfl⟩
  have c7' : ((w.drewN q).setCell ⟨mb, 3, none⟩ (.int .i64 v)).cell? ⟨mb, 7, none⟩ = some (.bool m.two) := by
    rw [World.cell?_setCell_other _ _ _ _ (by intro e; cases e)]; exact c7
  have f7' : ((w.drewN q).setCell ⟨mb, 3, none⟩ (.int .i64 v)).frozen? ⟨mb, 7, none⟩ = false := by rw [World.frozen?_setCell]; exact f7
  go_wp2
  go_ret2
  exact ⟨rfl, (ButB.set mb 3 q w _).trans (ButB.set mb 7 0 _ _), MomAt.set7 (q := 0) (HM.out.set3 (q := q) v) true⟩
set_option maxHeartbeats 4000000 in
theorem dtake72_any (mb : Nat) (m : Mom) (s : ByteArray) (w : World) (_hE : DEnv w) (hm : MomAt mb m w) :
    Calls Tryz.prog 152 #[.pointer (some ⟨mb, 0, none⟩), .int .i32 72, .string s] w fun e w' => e = .returned (.tuple #[.string ⟨(dtake m 72 s.data.toList).2.1.toArray⟩, .bool (dtake m 72 s.data.toList).2.2]) ∧ ButB mb w w' ∧ MomAt mb (dtake m 72 s.data.toList).1 w' := by
  have hd : dtake m 72 s.data.toList = ({ m with hour := (dnumL s.data.toList 2).1 }, (dnumL s.data.toList 2).2) := by unfold dtake; simp
  rw [hd]
  have k := dnumber_any s 2 (by decide) w
  rw [show ((2 : Nat) : Int) = 2 from rfl] at k
  generalize dnumL s.data.toList 2 = r at *
  obtain ⟨v, rest, is⟩ := r
  simp only at k ⊢
  obtain ⟨c0, c1, c2, c3, c4, c5, c6, c7, hf⟩ := hm.cells
  have f4 := hf 4
  have K := Lib.hid k; have HM := Lib.hid hm
  clear k hm hd hf
  go_enter Tryz.func152, Tryz.ntmps152
  go_wp2_with fail
  (with_reducible refine K.out.mono ?_)
  rintro e w1 ⟨rfl, q, rfl⟩
  go_wp2
  go_ret2
  exact ⟨rfl, ButB.set mb 4 q w _, HM.out.set4 (q := q) v⟩
set_option maxHeartbeats 4000000 in
theorem dtake73_any (mb : Nat) (m : Mom) (s : ByteArray) (w : World) (_hE : DEnv w) (hm : MomAt mb m w) :
    Calls Tryz.prog 152 #[.pointer (some ⟨mb, 0, none⟩), .int .i32 73, .string s] w fun e w' => e = .returned (.tuple #[.string ⟨(dtake m 73 s.data.toList).2.1.toArray⟩, .bool (dtake m 73 s.data.toList).2.2]) ∧ ButB mb w w' ∧ MomAt mb (dtake m 73 s.data.toList).1 w' := by
  have hd : dtake m 73 s.data.toList = ({ m with minute := (dnumL s.data.toList 2).1 }, (dnumL s.data.toList 2).2) := by unfold dtake; simp
  rw [hd]
  have k := dnumber_any s 2 (by decide) w
  rw [show ((2 : Nat) : Int) = 2 from rfl] at k
  generalize dnumL s.data.toList 2 = r at *
  obtain ⟨v, rest, is⟩ := r
  simp only at k ⊢
  obtain ⟨c0, c1, c2, c3, c4, c5, c6, c7, hf⟩ := hm.cells
  have f5 := hf 5
  have K := Lib.hid k; have HM := Lib.hid hm
  clear k hm hd hf
  go_enter Tryz.func152, Tryz.ntmps152
  go_wp2_with fail
  (with_reducible refine K.out.mono ?_)
  rintro e w1 ⟨rfl, q, rfl⟩
  go_wp2
  go_ret2
  exact ⟨rfl, ButB.set mb 5 q w _, HM.out.set5 (q := q) v⟩
set_option maxHeartbeats 4000000 in
theorem dtake83_any (mb : Nat) (m : Mom) (s : ByteArray) (w : World) (_hE : DEnv w) (hm : MomAt mb m w) :
    Calls Tryz.prog 152 #[.pointer (some ⟨mb, 0, none⟩), .int .i32 83, .string s] w fun e w' => e = .returned (.tuple #[.string ⟨(dtake m 83 s.data.toList).2.1.toArray⟩, .bool (dtake m 83 s.data.toList).2.2]) ∧ ButB mb w w' ∧ MomAt mb (dtake m 83 s.data.toList).1 w' := by
  have hd : dtake m 83 s.data.toList = ({ m with second := (dnumL s.data.toList 2).1 }, (dnumL s.data.toList 2).2) := by unfold dtake; simp
  rw [hd]
  have k := dnumber_any s 2 (by decide) w
  rw [show ((2 : Nat) : Int) = 2 from rfl] at k
  generalize dnumL s.data.toList 2 = r at *
  obtain ⟨v, rest, is⟩ := r
  simp only at k ⊢
  obtain ⟨c0, c1, c2, c3, c4, c5, c6, c7, hf⟩ := hm.cells
  have f6 := hf 6
  have K := Lib.hid k; have HM := Lib.hid hm
  clear k hm hd hf
  go_enter Tryz.func152, Tryz.ntmps152
  go_wp2_with fail
  (with_reducible refine K.out.mono ?_)
  rintro e w1 ⟨rfl, q, rfl⟩
  go_wp2
  go_ret2
  exact ⟨rfl, ButB.set mb 6 q w _, HM.out.set6 (q := q) v⟩
set_option maxHeartbeats 4000000 in
theorem dtake119_any (mb : Nat) (m : Mom) (s : ByteArray) (w : World) (hE : DEnv w) (hm : MomAt mb m w) :
    Calls Tryz.prog 152 #[.pointer (some ⟨mb, 0, none⟩), .int .i32 119, .string s] w fun e w' => e = .returned (.tuple #[.string ⟨(dtake m 119 s.data.toList).2.1.toArray⟩, .bool (dtake m 119 s.data.toList).2.2]) ∧ ButB mb w w' ∧ MomAt mb (dtake m 119 s.data.toList).1 w' := by
  have hd : dtake m 119 s.data.toList = ({ m with wd := (dname s.data.toList 3 ddays 0).1 }, (dname s.data.toList 3 ddays 0).2) := by unfold dtake; simp
  rw [hd]
  have k0 := ddays_any w hE
  have k := fun w' hr => dname3_any s w.heap.size 7 w' hr
  generalize dname s.data.toList 3 ddays 0 = r at *
  obtain ⟨v, rest, is⟩ := r
  simp only at k ⊢
  have K0 := Lib.hid k0; have K := Lib.hid k; have HM := Lib.hid hm
  clear k0 k hm hd hE
  go_enter Tryz.func152, Tryz.ntmps152
  go_wp2_with fail
  (with_reducible refine K0.out.mono ?_)
  rintro e w1 ⟨rfl, hr, hb⟩
  have k1 := K.out w1 hr
  have hm1 := HM.out.below hb
  obtain ⟨c0, _, _, _, _, _, _, _, hf⟩ := hm1.cells
  have f0 := hf 0
  have K1 := Lib.hid k1; have HM1 := Lib.hid hm1; have HB := Lib.hid hb
  clear k1 hm1 hr hb hf
  go_wp2_with fail
  (with_reducible refine K1.out.mono ?_)
  rintro e w2 ⟨rfl, rfl⟩
  go_wp2
  go_ret2
  exact ⟨rfl, (ButB.ofBelow HB.out).trans (ButB.set mb 0 0 _ _), HM1.out.set0 (q := 0) v⟩
set_option maxHeartbeats 4000000 in
theorem dtake87_any (mb : Nat) (m : Mom) (s : ByteArray) (w : World) (hE : DEnv w) (hm : MomAt mb m w) :
    Calls Tryz.prog 152 #[.pointer (some ⟨mb, 0, none⟩), .int .i32 87, .string s] w fun e w' => e = .returned (.tuple #[.string ⟨(dtake m 87 s.data.toList).2.1.toArray⟩, .bool (dtake m 87 s.data.toList).2.2]) ∧ ButB mb w w' ∧ MomAt mb (dtake m 87 s.data.toList).1 w' := by
  have hd : dtake m 87 s.data.toList = ({ m with wd := (dname s.data.toList 0 ddays 0).1 }, (dname s.data.toList 0 ddays 0).2) := by unfold dtake; simp
  rw [hd]
  have k0 := ddays_any w hE
  have k := fun w' hr => dname0_any s w.heap.size 7 w' hr
  generalize dname s.data.toList 0 ddays 0 = r at *
  obtain ⟨v, rest, is⟩ := r
  simp only at k ⊢
  have K0 := Lib.hid k0; have K := Lib.hid k; have HM := Lib.hid hm
  clear k0 k hm hd hE
  go_enter Tryz.func152, Tryz.ntmps152
  go_wp2_with fail
  (with_reducible refine K0.out.mono ?_)
  rintro e w1 ⟨rfl, hr, hb⟩
  have k1 := K.out w1 hr
  have hm1 := HM.out.below hb
  obtain ⟨c0, _, _, _, _, _, _, _, hf⟩ := hm1.cells
  have f0 := hf 0
  have K1 := Lib.hid k1; have HM1 := Lib.hid hm1; have HB := Lib.hid hb
  clear k1 hm1 hr hb hf
  go_wp2_with fail
  (with_reducible refine K1.out.mono ?_)
  rintro e w2 ⟨rfl, rfl⟩
  go_wp2
  go_ret2
  exact ⟨rfl, (ButB.ofBelow HB.out).trans (ButB.set mb 0 0 _ _), HM1.out.set0 (q := 0) v⟩
set_option maxHeartbeats 4000000 in
theorem dtake44_any (mb : Nat) (m : Mom) (s : ByteArray) (w : World) (_hE : DEnv w) (hm : MomAt mb m w) :
    Calls Tryz.prog 152 #[.pointer (some ⟨mb, 0, none⟩), .int .i32 44, .string s] w fun e w' => e = .returned (.tuple #[.string ⟨(dtake m 44 s.data.toList).2.1.toArray⟩, .bool (dtake m 44 s.data.toList).2.2]) ∧ ButB mb w w' ∧ MomAt mb (dtake m 44 s.data.toList).1 w' := by
  have hd : dtake m 44 s.data.toList = (if Lib.hasPrefix s.data.toList [44] = true then (m, s.data.toList.drop 1, true) else (m, s.data.toList, false)) := by unfold dtake; simp
  rw [hd]
  have k := Tryz.strings_CutPrefix s ⟨#[44]⟩ w
  have e1 : (⟨#[44]⟩ : ByteArray).data.toList = [44] := rfl
  rw [e1] at k
  unfold Lib.trimPrefix at k
  rw [show ([44] : List UInt8).length = 1 from rfl] at k
  generalize s.data.toList.drop 1 = dr at *
  cases hp : Lib.hasPrefix s.data.toList [44]
  all_goals
    rw [hp] at k
    simp only [Bool.false_eq_true, if_false, if_true] at k ⊢
    have K := Lib.hid k; have HM := Lib.hid hm
    clear k hm hd hp e1
    go_enter Tryz.func152, Tryz.ntmps152
    go_wp2_with fail
    rw [show Utf8.encode 44 = ⟨#[44]⟩ from by decide +kernel]
    (with_reducible refine K.out.mono ?_)
    rintro e w1 ⟨rfl, rfl⟩
    go_wp2
    go_ret2
    exact ⟨rfl, ButB.refl _ _, HM.out⟩
set_option maxHeartbeats 4000000 in
theorem dtake32_any (mb : Nat) (m : Mom) (s : ByteArray) (w : World) (_hE : DEnv w) (hm : MomAt mb m w) :
    Calls Tryz.prog 152 #[.pointer (some ⟨mb, 0, none⟩), .int .i32 32, .string s] w fun e w' => e = .returned (.tuple #[.string ⟨(dtake m 32 s.data.toList).2.1.toArray⟩, .bool (dtake m 32 s.data.toList).2.2]) ∧ ButB mb w w' ∧ MomAt mb (dtake m 32 s.data.toList).1 w' := by
  have hd : dtake m 32 s.data.toList = (if Lib.hasPrefix s.data.toList [32] = true then (m, s.data.toList.drop 1, true) else (m, s.data.toList, false)) := by unfold dtake; simp
  rw [hd]
  have k := Tryz.strings_CutPrefix s ⟨#[32]⟩ w
  have e1 : (⟨#[32]⟩ : ByteArray).data.toList = [32] := rfl
  rw [e1] at k
  unfold Lib.trimPrefix at k
  rw [show ([32] : List UInt8).length = 1 from rfl] at k
  generalize s.data.toList.drop 1 = dr at *
  cases hp : Lib.hasPrefix s.data.toList [32]
  all_goals
    rw [hp] at k
    simp only [Bool.false_eq_true, if_false, if_true] at k ⊢
    have K := Lib.hid k; have HM := Lib.hid hm
    clear k hm hd hp e1
    go_enter Tryz.func152, Tryz.ntmps152
    go_wp2_with fail
    rw [show Utf8.encode 32 = ⟨#[32]⟩ from by decide +kernel]
    (with_reducible refine K.out.mono ?_)
    rintro e w1 ⟨rfl, rfl⟩
    go_wp2
    go_ret2
    exact ⟨rfl, ButB.refl _ _, HM.out⟩
set_option maxHeartbeats 4000000 in
theorem dtake58_any (mb : Nat) (m : Mom) (s : ByteArray) (w : World) (_hE : DEnv w) (hm : MomAt mb m w) :
    Calls Tryz.prog 152 #[.pointer (some ⟨mb, 0, none⟩), .int .i32 58, .string s] w fun e w' => e = .returned (.tuple #[.string ⟨(dtake m 58 s.data.toList).2.1.toArray⟩, .bool (dtake m 58 s.data.toList).2.2]) ∧ ButB mb w w' ∧ MomAt mb (dtake m 58 s.data.toList).1 w' := by
  have hd : dtake m 58 s.data.toList = (if Lib.hasPrefix s.data.toList [58] = true then (m, s.data.toList.drop 1, true) else (m, s.data.toList, false)) := by unfold dtake; simp
  rw [hd]
  have k := Tryz.strings_CutPrefix s ⟨#[58]⟩ w
  have e1 : (⟨#[58]⟩ : ByteArray).data.toList = [58] := rfl
  rw [e1] at k
  unfold Lib.trimPrefix at k
  rw [show ([58] : List UInt8).length = 1 from rfl] at k
  generalize s.data.toList.drop 1 = dr at *
  cases hp : Lib.hasPrefix s.data.toList [58]
  all_goals
    rw [hp] at k
    simp only [Bool.false_eq_true, if_false, if_true] at k ⊢
    have K := Lib.hid k; have HM := Lib.hid hm
    clear k hm hd hp e1
    go_enter Tryz.func152, Tryz.ntmps152
    go_wp2_with fail
    rw [show Utf8.encode 58 = ⟨#[58]⟩ from by decide +kernel]
    (with_reducible refine K.out.mono ?_)
    rintro e w1 ⟨rfl, rfl⟩
    go_wp2
    go_ret2
    exact ⟨rfl, ButB.refl _ _, HM.out⟩
set_option maxHeartbeats 4000000 in
theorem dtake71_any (mb : Nat) (m : Mom) (s : ByteArray) (w : World) (_hE : DEnv w) (hm : MomAt mb m w) :
    Calls Tryz.prog 152 #[.pointer (some ⟨mb, 0, none⟩), .int .i32 71, .string s] w fun e w' => e = .returned (.tuple #[.string ⟨(dtake m 71 s.data.toList).2.1.toArray⟩, .bool (dtake m 71 s.data.toList).2.2]) ∧ ButB mb w w' ∧ MomAt mb (dtake m 71 s.data.toList).1 w' := by
  have hd : dtake m 71 s.data.toList = (if Lib.hasPrefix s.data.toList [71] = true then (m, s.data.toList.drop 1, true) else (m, s.data.toList, false)) := by unfold dtake; simp
  rw [hd]
  have k := Tryz.strings_CutPrefix s ⟨#[71]⟩ w
  have e1 : (⟨#[71]⟩ : ByteArray).data.toList = [71] := rfl
  rw [e1] at k
  unfold Lib.trimPrefix at k
  rw [show ([71] : List UInt8).length = 1 from rfl] at k
  generalize s.data.toList.drop 1 = dr at *
  cases hp : Lib.hasPrefix s.data.toList [71]
  all_goals
    rw [hp] at k
    simp only [Bool.false_eq_true, if_false, if_true] at k ⊢
    have K := Lib.hid k; have HM := Lib.hid hm
    clear k hm hd hp e1
    go_enter Tryz.func152, Tryz.ntmps152
    go_wp2_with fail
    rw [show Utf8.encode 71 = ⟨#[71]⟩ from by decide +kernel]
    (with_reducible refine K.out.mono ?_)
    rintro e w1 ⟨rfl, rfl⟩
    go_wp2
    go_ret2
    exact ⟨rfl, ButB.refl _ _, HM.out⟩
set_option maxHeartbeats 4000000 in
theorem dtake77_any (mb : Nat) (m : Mom) (s : ByteArray) (w : World) (_hE : DEnv w) (hm : MomAt mb m w) :
    Calls Tryz.prog 152 #[.pointer (some ⟨mb, 0, none⟩), .int .i32 77, .string s] w fun e w' => e = .returned (.tuple #[.string ⟨(dtake m 77 s.data.toList).2.1.toArray⟩, .bool (dtake m 77 s.data.toList).2.2]) ∧ ButB mb w w' ∧ MomAt mb (dtake m 77 s.data.toList).1 w' := by
  have hd : dtake m 77 s.data.toList = (if Lib.hasPrefix s.data.toList [77] = true then (m, s.data.toList.drop 1, true) else (m, s.data.toList, false)) := by unfold dtake; simp
  rw [hd]
  have k := Tryz.strings_CutPrefix s ⟨#[77]⟩ w
  have e1 : (⟨#[77]⟩ : ByteArray).data.toList = [77] := rfl
  rw [e1] at k
  unfold Lib.trimPrefix at k
  rw [show ([77] : List UInt8).length = 1 from rfl] at k
  generalize s.data.toList.drop 1 = dr at *
  cases hp : Lib.hasPrefix s.data.toList [77]
  all_goals
    rw [hp] at k
    simp only [Bool.false_eq_true, if_false, if_true] at k ⊢
    have K := Lib.hid k; have HM := Lib.hid hm
    clear k hm hd hp e1
    go_enter Tryz.func152, Tryz.ntmps152
    go_wp2_with fail
    rw [show Utf8.encode 77 = ⟨#[77]⟩ from by decide +kernel]
    (with_reducible refine K.out.mono ?_)
    rintro e w1 ⟨rfl, rfl⟩
    go_wp2
    go_ret2
    exact ⟨rfl, ButB.refl _ _, HM.out⟩
set_option maxHeartbeats 4000000 in
theorem dtake84_any (mb : Nat) (m : Mom) (s : ByteArray) (w : World) (_hE : DEnv w) (hm : MomAt mb m w) :
    Calls Tryz.prog 152 #[.pointer (some ⟨mb, 0, none⟩), .int .i32 84, .string s] w fun e w' => e = .returned (.tuple #[.string ⟨(dtake m 84 s.data.toList).2.1.toArray⟩, .bool (dtake m 84 s.data.toList).2.2]) ∧ ButB mb w w' ∧ MomAt mb (dtake m 84 s.data.toList).1 w' := by
  have hd : dtake m 84 s.data.toList = (if Lib.hasPrefix s.data.toList [84] = true then (m, s.data.toList.drop 1, true) else (m, s.data.toList, false)) := by unfold dtake; simp
  rw [hd]
  have k := Tryz.strings_CutPrefix s ⟨#[84]⟩ w
  have e1 : (⟨#[84]⟩ : ByteArray).data.toList = [84] := rfl
  rw [e1] at k
  unfold Lib.trimPrefix at k
  rw [show ([84] : List UInt8).length = 1 from rfl] at k
  generalize s.data.toList.drop 1 = dr at *
  cases hp : Lib.hasPrefix s.data.toList [84]
  all_goals
    rw [hp] at k
    simp only [Bool.false_eq_true, if_false, if_true] at k ⊢
    have K := Lib.hid k; have HM := Lib.hid hm
    clear k hm hd hp e1
    go_enter Tryz.func152, Tryz.ntmps152
    go_wp2_with fail
    rw [show Utf8.encode 84 = ⟨#[84]⟩ from by decide +kernel]
    (with_reducible refine K.out.mono ?_)
    rintro e w1 ⟨rfl, rfl⟩
    go_wp2
    go_ret2
    exact ⟨rfl, ButB.refl _ _, HM.out⟩
set_option maxHeartbeats 4000000 in
theorem dtake45_any (mb : Nat) (m : Mom) (s : ByteArray) (w : World) (_hE : DEnv w) (hm : MomAt mb m w) :
    Calls Tryz.prog 152 #[.pointer (some ⟨mb, 0, none⟩), .int .i32 45, .string s] w fun e w' => e = .returned (.tuple #[.string ⟨(dtake m 45 s.data.toList).2.1.toArray⟩, .bool (dtake m 45 s.data.toList).2.2]) ∧ ButB mb w w' ∧ MomAt mb (dtake m 45 s.data.toList).1 w' := by
  have hd : dtake m 45 s.data.toList = (if Lib.hasPrefix s.data.toList [45] = true then (m, s.data.toList.drop 1, true) else (m, s.data.toList, false)) := by unfold dtake; simp
  rw [hd]
  have k := Tryz.strings_CutPrefix s ⟨#[45]⟩ w
  have e1 : (⟨#[45]⟩ : ByteArray).data.toList = [45] := rfl
  rw [e1] at k
  unfold Lib.trimPrefix at k
  rw [show ([45] : List UInt8).length = 1 from rfl] at k
  generalize s.data.toList.drop 1 = dr at *
  cases hp : Lib.hasPrefix s.data.toList [45]
  all_goals
    rw [hp] at k
    simp only [Bool.false_eq_true, if_false, if_true] at k ⊢
    have K := Lib.hid k; have HM := Lib.hid hm
    clear k hm hd hp e1
    go_enter Tryz.func152, Tryz.ntmps152
    go_wp2_with fail
    rw [show Utf8.encode 45 = ⟨#[45]⟩ from by decide +kernel]
    (with_reducible refine K.out.mono ?_)
    rintro e w1 ⟨rfl, rfl⟩
    go_wp2
    go_ret2
    exact ⟨rfl, ButB.refl _ _, HM.out⟩
set_option maxHeartbeats 4000000 in
theorem dtake69_any (mb : Nat) (m : Mom) (s : ByteArray) (w : World) (_hE : DEnv w) (hm : MomAt mb m w) :
    Calls Tryz.prog 152 #[.pointer (some ⟨mb, 0, none⟩), .int .i32 69, .string s] w fun e w' => e = .returned (.tuple #[.string ⟨(dtake m 69 s.data.toList).2.1.toArray⟩, .bool (dtake m 69 s.data.toList).2.2]) ∧ ButB mb w w' ∧ MomAt mb (dtake m 69 s.data.toList).1 w' := by
  have hd : dtake m 69 s.data.toList = (if Lib.hasPrefix s.data.toList [32] = true then ({ m with day := (dnumL (s.data.toList.drop 1) 1).1 }, (dnumL (s.data.toList.drop 1) 1).2) else ({ m with day := (dnumL s.data.toList 2).1 }, (dnumL s.data.toList 2).2)) := by unfold dtake; simp
  rw [hd]
  have k := Tryz.strings_CutPrefix s ⟨#[32]⟩ w
  have e1 : (⟨#[32]⟩ : ByteArray).data.toList = [32] := rfl
  rw [e1] at k
  unfold Lib.trimPrefix at k
  rw [show ([32] : List UInt8).length = 1 from rfl] at k
  have n1 := dnumber_any ⟨(s.data.toList.drop 1).toArray⟩ 1 (by decide) w
  rw [show ((1 : Nat) : Int) = 1 from rfl] at n1
  have n2 := dnumber_any s 2 (by decide) w
  rw [show ((2 : Nat) : Int) = 2 from rfl] at n2
  have e2 : (⟨(s.data.toList.drop 1).toArray⟩ : ByteArray).data.toList = s.data.toList.drop 1 := by simp
  rw [e2] at n1
  generalize s.data.toList.drop 1 = dr at *
  generalize dnumL dr 1 = r1 at *
  generalize dnumL s.data.toList 2 = r2 at *
  obtain ⟨v1, rest1, is1⟩ := r1
  obtain ⟨v2, rest2, is2⟩ := r2
  simp only at n1 n2 ⊢
  obtain ⟨c0, c1, c2, c3, c4, c5, c6, c7, hf⟩ := hm.cells
  have f1 := hf 1
  have N1 := Lib.hid n1; have N2 := Lib.hid n2; have HM := Lib.hid hm
  clear n1 n2 hm hd hf e1 e2
  cases hp : Lib.hasPrefix s.data.toList [32]
  · rw [hp] at k
    simp only [Bool.false_eq_true, if_false] at k ⊢
    have K := Lib.hid k
    clear k hp
    go_enter Tryz.func152, Tryz.ntmps152
    go_wp2_with fail
    (with_reducible refine K.out.mono ?_)
    rintro e w1 ⟨rfl, rfl⟩
    go_wp2_with fail
    (with_reducible refine N2.out.mono ?_)
    rintro e w2 ⟨rfl, q, rfl⟩
    go_wp2
    go_ret2
    exact ⟨rfl, ButB.set mb 1 q _ _, HM.out.set1 (q := q) v2⟩
  · rw [hp] at k
    simp only [if_true] at k ⊢
    have K := Lib.hid k
    clear k hp
    go_enter Tryz.func152, Tryz.ntmps152
    go_wp2_with fail
    (with_reducible refine K.out.mono ?_)
    rintro e w1 ⟨rfl, rfl⟩
    go_wp2_with fail
    (with_reducible refine N1.out.mono ?_)
    rintro e w2 ⟨rfl, q, rfl⟩
    go_wp2
    go_ret2
    exact ⟨rfl, ButB.set mb 1 q _ _, HM.out.set1 (q := q) v1⟩
theorem dindex_range : ∀ (l sub : List UInt8), -1 ≤ Lib.index l sub ∧ Lib.index l sub ≤ l.length
  | [], sub => by unfold Lib.index; split <;> simp
  | b :: l, sub => by
    have ih := dindex_range l sub
    rw [Lib.index, List.length_cons]
    split
    · omega
    · split <;> omega
set_option maxHeartbeats 4000000 in
theorem dtake109_any (mb : Nat) (m : Mom) (s : ByteArray) (w : World) (hE : DEnv w) (hm : MomAt mb m w) :
    Calls Tryz.prog 152 #[.pointer (some ⟨mb, 0, none⟩), .int .i32 109, .string s] w fun e w' => e = .returned (.tuple #[.string ⟨(dtake m 109 s.data.toList).2.1.toArray⟩, .bool (dtake m 109 s.data.toList).2.2]) ∧ ButB mb w w' ∧ MomAt mb (dtake m 109 s.data.toList).1 w' := by
  have hxr := dindex_range dmonths (s.data.toList.take 3)
  have hml : dmonths.length = 36 := rfl
  rw [hml] at hxr
  have hd : dtake m 109 s.data.toList = (if s.data.toList.length < 3 ∨ Lib.index dmonths (s.data.toList.take 3) < 0 ∨ Lib.index dmonths (s.data.toList.take 3) % 3 ≠ 0 then (m, [], false) else ({ m with month := Lib.index dmonths (s.data.toList.take 3) / 3 + 1 }, s.data.toList.drop 3, true)) := by unfold dtake; simp
  rw [hd]
  obtain ⟨c0, c1, c2, c3, c4, c5, c6, c7, hf⟩ := hm.cells
  have f2 := hf 2
  obtain ⟨_, mx, hmx⟩ := hE.1
  have hex : (s.extract 0 3).data.toList = s.data.toList.take 3 := by rw [Lib.extract_data]; simp
  have k := Tryz.strings_Index ⟨#[74, 97, 110, 70, 101, 98, 77, 97, 114, 65, 112, 114, 77, 97, 121, 74, 117, 110, 74, 117, 108, 65, 117, 103, 83, 101, 112, 79, 99, 116, 78, 111, 118, 68, 101, 99]⟩ (s.extract 0 3) mx w (by decide) hmx
  rw [hex, show (⟨#[74, 97, 110, 70, 101, 98, 77, 97, 114, 65, 112, 114, 77, 97, 121, 74, 117, 110, 74, 117, 108, 65, 117, 103, 83, 101, 112, 79, 99, 116, 78, 111, 118, 68, 101, 99]⟩ : ByteArray).data.toList = dmonths from rfl] at k
  rw [← Lib.size_eq]
  have hdr : s.extract 3 s.size = ⟨(s.data.toList.drop 3).toArray⟩ := by
    apply str_eq
    rw [Lib.extract_data]
    have : (s.data.toList.drop 3).length ≤ s.size - 3 := by rw [List.length_drop, ← Lib.size_eq]; omega
    rw [List.take_of_length_le this]
  have HDR := Lib.hid hdr; have HM := Lib.hid hm
  clear hd hex hmx hf hm hE hdr hml
  generalize Lib.index dmonths (s.data.toList.take 3) = at_ at *
  have K := Lib.hid k
  clear k
  by_cases h3 : s.size < 3
  · have t1 : decide ((s.size : Int) ≥ 3) = false := by simp; omega
    rw [if_pos (Or.inl h3)]
    go_enter Tryz.func152, Tryz.ntmps152
    go_wp2
    go_ret2
    exact ⟨rfl, ButB.refl _ _, HM.out⟩
  · have t1 : decide ((s.size : Int) ≥ 3) = true := by simp; omega
    have h3' : 3 ≤ s.size := by omega
    by_cases hneg : at_ < 0
    · rw [if_pos (Or.inr (Or.inl hneg))]
      have t2 : decide (at_ < 0) = true := by simpa using hneg
      go_enter Tryz.func152, Tryz.ntmps152
      go_wp2_with fail
      (with_reducible refine K.out.mono ?_)
      rintro e w1 ⟨rfl, rfl⟩
      go_wp2
      go_ret2
      exact ⟨rfl, ButB.refl _ _, HM.out⟩
    · have t2 : decide (at_ < 0) = false := by simpa using hneg
      have em : at_.tmod 3 = at_ % 3 := Int.tmod_eq_emod_of_nonneg (by omega)
      have ed : at_.tdiv 3 = at_ / 3 := Int.tdiv_eq_ediv_of_nonneg (by omega)
      by_cases hm3 : at_ % 3 = 0
      · rw [if_neg (by omega)]
        obtain ⟨q3, hq3⟩ : ∃ q3, at_ / 3 = q3 := ⟨_, rfl⟩
        have hq4 : 0 ≤ q3 ∧ q3 ≤ 12 := by omega
        rw [hq3] at ed ⊢
        have w1' : IntKind.i64.wrap q3 = q3 := by rw [IntKind.wrap_i64]; omega
        have w2' : IntKind.i64.wrap (q3 + 1) = q3 + 1 := by rw [IntKind.wrap_i64]; omega
        clear hq3
        go_enter Tryz.func152, Tryz.ntmps152
        go_wp2_with fail
        (with_reducible refine K.out.mono ?_)
        rintro e w1 ⟨rfl, rfl⟩
        go_wp2
        go_region
        go_wp2
        go_ret2
        exact ⟨by rw [← HDR.out]; rfl, ButB.set mb 2 1 _ _, HM.out.set2 (q := 1) _⟩
      · rw [if_pos (Or.inr (Or.inr hm3))]
        go_enter Tryz.func152, Tryz.ntmps152
        go_wp2_with fail
        (with_reducible refine K.out.mono ?_)
        rintro e w1 ⟨rfl, rfl⟩
        go_wp2
        go_ret2
        exact ⟨rfl, ButB.refl _ _, HM.out⟩
end Go.Proofs.YtgmmjhcklhajiaaGreatDoor
/- Dates: the walk of tick (printed by wip/tools/date5.py). -/
namespace Go.Proofs.YtgmmjhcklhajiaaGreatDoor
open Go.RowKit
set_option maxRecDepth 100000

/-- What a date's pieces can be. -/
structure MomOk (m : Mom) : Prop where
  wd : 0 ≤ m.wd ∧ m.wd ≤ 6
  day : 0 ≤ m.day ∧ m.day ≤ 9999
  month : 0 ≤ m.month ∧ m.month ≤ 13
  year : 0 ≤ m.year ∧ m.year ≤ 9999
  hour : 0 ≤ m.hour ∧ m.hour ≤ 9999
  minute : 0 ≤ m.minute ∧ m.minute ≤ 9999
  second : 0 ≤ m.second ∧ m.second ≤ 9999
  two : m.two = true → m.year ≤ 99
theorem dlong_le (y m : Int) : 28 ≤ dlong y m ∧ dlong y m ≤ 31 := by
  unfold dlong
  split
  · split <;> omega
  · split <;> omega
theorem dmons_le (y : Int) : ∀ k, 0 ≤ dmons y k ∧ dmons y k ≤ 31 * k
  | 0 => by simp [dmons]
  | k + 1 => by
    have ih := dmons_le y k
    have := dlong_le y (k + 1)
    rw [dmons]; omega
theorem dyear_ge : ∀ (f : Nat) (d y : Int), y ≤ dyear f d y ∧ dyear f d y ≤ y + f
  | 0, d, y => by rw [dyear]; omega
  | f + 1, d, y => by
    rw [dyear]
    split
    · have := dyear_ge f d (y + 1); omega
    · omega
theorem MomAt.drewN {mb : Nat} {m : Mom} {w : World} (h : MomAt mb m w) (q : Nat) : MomAt mb m (w.drewN q) := h
theorem ButB.drewN {mb : Nat} {w w' : World} (h : ButB mb w w') (q : Nat) : ButB mb w (w'.drewN q) := h
def TickPost (mb : Nat) (w : World) (r : Int × Bool) (e : Ending) (w' : World) : Prop := e = .returned (.tuple #[.int .i64 r.1, .bool r.2]) ∧ ButB mb w w'
end Go.Proofs.YtgmmjhcklhajiaaGreatDoor
