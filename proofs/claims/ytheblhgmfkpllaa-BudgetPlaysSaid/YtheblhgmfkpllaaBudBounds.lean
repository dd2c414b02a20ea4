/- BudgetBounds: the walk of the law. -/
import Derived.Test.YtheblhgmfkpllaaBudDo
import Derived.Test.YtheblhgmfkpllaaBudAre
import Derived.Test.YtheblhgmfkpllaaBudOpen
namespace Go.Proofs.Ytheblhgmfkpllaa
open Go.RowKit
set_option maxRecDepth 100000

def intV : Value → Int
  | .int _ n => n
  | _ => 0
theorem strs_nd {es : List Ent} (h : (es.map (·.key)).Nodup) : (strs (es.map (·.key))).Nodup := by
  unfold strs
  rw [List.nodup_iff_pairwise_ne] at h ⊢
  exact h.map _ (fun a b hab e => hab (str_eq _ _ e))
set_option maxHeartbeats 16000000 in
theorem budgetBounds_any (a0 a1 : Int) (A : Option Addr) (n c : Nat) (xs : List ActL) (w : World) (h0 : 0 ≤ a0 ∧ a0 < 256) (h1 : 0 ≤ a1 ∧ a1 < 65536) (hr : Rd A n 4 (actsV xs) w) (hxs : ∀ d ∈ xs, d.key.size ≤ maxLen ∧ d.q < 256) :
    Calls Try.prog 5 #[.int .u8 a0, .int .u16 a1, .slice A n c] w fun e w' => e = .returned (.bool true) ∧ Below w.heap.size w w' := by
  obtain rfl := hr.act
  obtain ⟨N, hN⟩ : ∃ N, N = 1 + a0 % 64 := ⟨_, rfl⟩
  obtain ⟨M, hM⟩ : ∃ M, M = 1 + a1 := ⟨_, rfl⟩
  have hNb : 1 ≤ N ∧ N ≤ 64 := by omega
  have hMb : 1 ≤ M ∧ M ≤ 65536 := by omega
  have f1 : IntKind.i64.wrap (a0 % 64) = a0 % 64 := by rw [IntKind.wrap_i64]; omega
  have f2 : IntKind.i64.wrap (1 + a0 % 64) = N := by rw [IntKind.wrap_i64]; omega
  have f3 : IntKind.i64.wrap a1 = a1 := by rw [IntKind.wrap_i64]; omega
  have f4 : IntKind.i64.wrap (1 + a1) = M := by rw [IntKind.wrap_i64]; omega
  have HN := Lib.hid hN
  have HM := Lib.hid hM
  clear hN hM
  have k0 := newI_q N M w (by omega) (by omega)
  have K0 := Lib.hid k0
  have HXS := Lib.hid hxs
  have HR := Lib.hid hr
  clear k0 hxs hr
  go_enter Try.func5, Try.ntmps5
  go_wp2_with fail
  (with_reducible refine K0.out.mono ?_)
  rintro y w1 ⟨bl, fp1, rfl, hq1, hb1, hf1⟩
  have HQ := Lib.hid hq1
  have HF := Lib.hid hf1
  clear hq1 hf1 K0
  go_wp2_with fail
  go_loopw [10] (fun i wr => ∃ (k : Nat) (fp : List Nat) (es : List Ent), i = .int .i64 k ∧ k ≤ xs.length ∧ Hid (BQI wr fp bl N M es) ∧ Hid (∀ b ∈ fp, w.heap.size ≤ b) ∧ Below w.heap.size w wr) (fun i _ => 151 - (intV i).toNat)
  case atStart => exact ⟨0, fp1, [], rfl, Nat.zero_le _, HQ, HF, hb1⟩
  case round =>
    clear HQ HF hb1
    obtain ⟨k, fp, es, rfl, hk, HQ, HF, hbw⟩ := hrel
    by_cases hlt : k < xs.length
    · have t1 : decide ((k : Int) < (xs.length : Int)) = true := by simpa using hlt
      by_cases h150 : k < 150
      · have t2 : decide ((k : Int) < 150) = true := by simp; omega
        obtain ⟨b, o, rfl, hl, c0, c1, c2, c3⟩ := (HR.out.below hbw).act_at (k := k) hlt
        have hact := HXS.out xs[k] (List.getElem_mem hlt)
        generalize xs[k] = act at *
        obtain ⟨q, key, s, x⟩ := act
        simp only at c0 c1 c2 c3 hact
        have k1 := do_q HQ.out q key hact.1 s x
        generalize doE N M (q % 4) key s (.int .i64 x) es = es2 at *
        have K1 := Lib.hid k1
        clear k1
        go_wp2_with fail
        (with_reducible refine K1.out.mono ?_)
        rintro y w2 ⟨rfl, fp2, hq2, ht2, hf2⟩
        have hb2 : Below w.heap.size w w2 := hbw.trans (ht2.below HF.out hbw.size)
        have hF2 := mem_disj HF.out hf2 hbw.size
        have hen := hq2.ends
        have hlen2 : (strs (es2.map (·.key))).length = es2.length := by unfold strs; rw [List.length_map, List.length_map]
        have hnd := strs_nd hq2.nd
        have t3 : decide ((es2.length : Int) > N) = false := by simp; omega
        have t4 : decide (sumE es2 > M) = false := by simp; omega
        have t5 : decide (sumE es2 < 0) = false := by simp; omega
        have k2 := lenI_q hq2
        have k3 := bytesI_q hq2
        have k4 := keysI_q hq2
        have K2 := Lib.hid k2; have K3 := Lib.hid k3; have K4 := Lib.hid k4; have HQ2 := Lib.hid hq2; have HF2 := Lib.hid hF2; have HB2 := Lib.hid hb2; have HND := Lib.hid hnd; have HL2 := Lib.hid hlen2; have HEN := Lib.hid hen
        clear k2 k3 k4 hq2 hF2 hb2 hnd hlen2 hen ht2 hf2 K1 HQ HF hbw
        go_wp2_with fail
        (with_reducible refine K2.out.mono ?_)
        rintro y w3 ⟨rfl, rfl⟩
        go_wp2_with fail
        (with_reducible refine K3.out.mono ?_)
        rintro y w3 ⟨rfl, rfl⟩
        go_wp2_with fail
        (with_reducible refine K3.out.mono ?_)
        rintro y w3 ⟨rfl, rfl⟩
        go_wp2_with fail
        (with_reducible refine K4.out.mono ?_)
        rintro y w4 ⟨ka, kc, rfl, hO, hb4⟩
        have k5 := lenI_q (HQ2.out.below hb4)
        have K5 := Lib.hid k5
        have HQ4 := Lib.hid (HQ2.out.below hb4)
        have hb24 : Below w.heap.size w w4 := HB2.out.trans (hb4.mono HB2.out.size)
        rw [HL2.out]
        rw [HL2.out] at hO
        clear k5
        go_wp2_with fail
        (with_reducible refine K5.out.mono ?_)
        rintro y w5 ⟨rfl, rfl⟩
        go_wp2_with fail
        have hls0 := HND.out
        have hln0 := HL2.out
        generalize strs (es2.map (·.key)) = ls at hO hls0 hln0
        have HND2 := Lib.hid hls0
        obtain ⟨L, hL⟩ : ∃ L, es2.length = L := ⟨_, rfl⟩
        rw [hL] at hln0 hO
        rw [hL]
        have HLN := Lib.hid hln0
        have hL64 : L ≤ 4096 := by have := HEN.out; rw [← hL]; omega
        clear hls0 hln0 hL K2 K3 K4 K5 HND HL2 HEN t3 t4 t5 HQ2 HB2 hb4
        go_loopw [12] (fun ii wi => ∃ i : Nat, i ≤ L ∧ ii = .int .i64 i ∧ ∃ qn, wi = w4.drewN qn) (fun ii _ => L - (intV ii).toNat)
        case atStart => exact ⟨0, Nat.zero_le _, rfl, 0, rfl⟩
        case round =>
          obtain ⟨i, hi, rfl, qn, rfl⟩ := hrel
          by_cases hil : i < L
          · have t6 : decide ((i : Int) < (L : Int)) = true := by simpa using hil
            go_wp2_with fail
            go_loopw [13] (fun jj wj => ∃ j : Nat, j ≤ i ∧ jj = .int .i64 j ∧ ∃ qn, wj = w4.drewN qn) (fun jj _ => i - (intV jj).toNat)
            case atStart => exact ⟨0, Nat.zero_le _, rfl, qn, rfl⟩
            case round =>
              obtain ⟨j, hj, rfl, qj, rfl⟩ := hrel
              by_cases hji : j < i
              · have t7 : decide ((j : Int) < (i : Int)) = true := by simpa using hji
                have hjl : j < ls.length := by have := HLN.out; omega
                have hil2 : i < ls.length := by have := HLN.out; omega
                obtain ⟨g, rfl, d1, _⟩ := hO.cell j hjl
                obtain ⟨g2, e2, d2, _⟩ := hO.cell i hil2
                cases e2
                have hne : ls[j] ≠ ls[i] := fun e => by
                  have := (List.getElem_inj HND2.out).1 e
                  omega
                have d1' : (w4.drewN qj).cell? ⟨g, j, none⟩ = some (.string ⟨ls[j].toArray⟩) := d1
                have d2' : (w4.drewN qj).cell? ⟨g, i, none⟩ = some (.string ⟨ls[i].toArray⟩) := d2
                have hne2 : (ls[j] == ls[i]) = false := by simpa using hne
                generalize ls[j] = lj at *
                generalize ls[i] = li at *
                have hjL : j < L := by omega
                clear d1' d2' hne hjl hil2
                have i1 : IntKind.i64.wrap (j : Int) = j := by rw [IntKind.wrap_i64]; omega
                have i2 : IntKind.i64.wrap ((j : Int) + 1) = ((j + 1 : Nat) : Int) := by rw [IntKind.wrap_i64]; omega
                have i3 : IntKind.i64.wrap (i : Int) = i := by rw [IntKind.wrap_i64]; omega
                go_wp2
                go_region
                go_wp2
                go_roundw
                case rel => exact ⟨j + 1, hji, rfl, qj + 1, rfl⟩
                case measure => simp [intV]; omega
              · have t7 : decide ((j : Int) < (i : Int)) = false := by simpa using hji
                have i2 : IntKind.i64.wrap ((i : Int) + 1) = ((i + 1 : Nat) : Int) := by rw [IntKind.wrap_i64]; omega
                go_wp2
                go_roundw
                case rel => exact ⟨i + 1, hil, rfl, qj, rfl⟩
                case measure => simp [intV]; omega
          · have t6 : decide ((i : Int) < (L : Int)) = false := by simpa using hil
            have i2 : IntKind.i64.wrap ((k : Int) + 1) = ((k + 1 : Nat) : Int) := by rw [IntKind.wrap_i64]; omega
            have HQ5 : Hid (BQI (w4.drewN qn) fp2 bl N M es2) := Lib.hid (HQ4.out.below ⟨rfl, rfl, rfl, Nat.le_refl _, fun _ _ => rfl⟩)
            have hb5 : Below w.heap.size w (w4.drewN qn) := hb24.trans ⟨rfl, rfl, rfl, Nat.le_refl _, fun _ _ => rfl⟩
            go_wp2
            go_roundw
            case rel => exact ⟨k + 1, fp2, es2, rfl, hlt, HQ5, HF2, hb5⟩
            case measure => simp [intV]; omega
      · have t2 : decide ((k : Int) < 150) = false := by simp; omega
        have k9 := works_q wr
        have K9 := Lib.hid k9
        clear k9
        go_wp2_with fail
        (with_reducible refine K9.out.mono ?_)
        rintro y w9 ⟨rfl, hb9⟩
        go_wp2
        go_ret
        exact ⟨rfl, hbw.trans (hb9.mono hbw.size)⟩
    · have t1 : decide ((k : Int) < (xs.length : Int)) = false := by simpa using hlt
      have k9 := works_q wr
      have K9 := Lib.hid k9
      clear k9
      go_wp2_with fail
      (with_reducible refine K9.out.mono ?_)
      rintro y w9 ⟨rfl, hb9⟩
      go_wp2
      go_ret
      exact ⟨rfl, hbw.trans (hb9.mono hbw.size)⟩
theorem u8_wf {a : Int} (h : (Lit.int .u8 a).wf = true) : 0 ≤ a ∧ a < 256 := by
  have m1 : IntKind.u8.min = 0 := by rfl
  have m2 : IntKind.u8.max = 255 := by rfl
  simp [Lit.wf] at h
  omega
theorem u16_wf {a : Int} (h : (Lit.int .u16 a).wf = true) : 0 ≤ a ∧ a < 65536 := by
  have m1 : IntKind.u16.min = 0 := by rfl
  have m2 : IntKind.u16.max = 65535 := by rfl
  simp [Lit.wf] at h
  omega
theorem budgetBounds_law {H : Type} {enc : TypeId × Value → H} {base : Nat} {d : DataW H} {p : List MemPlace} (a0 a1 : Int) (v : Value) (w : World) (hv : Value.okWide Try.prog w .any base 22 v) (ht : DataW.Trod enc Try.prog w 0 (fun _ => true) true 22 v d p) (w0 : (Lit.int .u8 a0).wf = true) (w1 : (Lit.int .u16 a1).wf = true) :
    Calls Try.prog 5 #[.int .u8 a0, .int .u16 a1, v] w fun e w' => e = .returned (.bool true) ∧ Below w.heap.size w w' := by
  obtain ⟨A, n, c, xs, rfl, hr, _, hx⟩ := open_acts_v hv ht
  exact budgetBounds_any a0 a1 A n c xs w (u8_wf w0) (u16_wf w1) hr hx
end Go.Proofs.Ytheblhgmfkpllaa
