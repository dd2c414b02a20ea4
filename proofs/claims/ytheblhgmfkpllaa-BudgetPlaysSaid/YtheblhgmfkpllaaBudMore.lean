/- BudgetMore: the walk of the law. -/
import Derived.Test.YtheblhgmfkpllaaBudBounds
namespace Go.Proofs.Ytheblhgmfkpllaa
open Go.RowKit
set_option maxRecDepth 100000

theorem More.nil (n n' : Nat) (h : n ≤ n') : More n n' [] [] := ⟨List.Sublist.refl _, Nat.zero_le _, Nat.zero_le _, by simpa using h, by simp, by simp⟩
/-- What few keeps, many keeps, with the same answer. -/
theorem More.at {n n' : Nat} {a b : List Ent} (h : More n n' a b) {e : Ent} (he : e ∈ a) : findE e.key a = some e ∧ findE e.key b = some e :=
  ⟨has_mem h.ndA he rfl, has_mem h.nd (h.sub.subset he) rfl⟩
theorem XInt.mk {es : List Ent} (h : ∀ e ∈ es, ∃ x : Int, e.x = .int .i64 x) (n m : Int) (q : Nat) (k : ByteArray) (s x : Int) : ∀ e ∈ doE n m q k s (.int .i64 x) es, ∃ x : Int, e.x = .int .i64 x := by
  have hsub : ∀ es' : List Ent, es'.Sublist es → ∀ e ∈ es', ∃ x : Int, e.x = .int .i64 x := fun es' hs e he => h e (hs.subset he)
  have hev : ∀ (zs : List Ent), (evE n m zs).2.Sublist zs := by
    intro zs
    induction zs with
    | nil => exact List.Sublist.refl _
    | cons e t ih =>
      rw [evE]
      split
      · exact ih.cons _
      · exact List.Sublist.refl _
  unfold doE
  split
  · unfold putE
    split
    · exact hsub _ List.filter_sublist
    · intro e he
      rcases List.mem_append.1 ((hev _).subset he) with h' | h'
      · exact h e (List.filter_sublist.subset h')
      · rw [List.mem_singleton.1 h']; exact ⟨x, rfl⟩
  · unfold getE
    cases hf : findE k es with
    | none => exact h
    | some e =>
      intro y hy
      rcases List.mem_append.1 hy with h' | h'
      · exact h y (List.filter_sublist.subset h')
      · rw [List.mem_singleton.1 h']
        unfold findE at hf
        exact h e (List.mem_of_find?_eq_some hf)
  · exact h
  · exact hsub _ List.filter_sublist
theorem StI.keep {w w1 : World} {fp fp2 : List Nat} {bl bl2 : Nat} {n m n2 m2 : Int} {es es2 : List Ent} (h : StI w w1 fp bl n m es) (h2 : BQI w fp2 bl2 n2 m2 es2) (hd : ∀ b ∈ fp2, b ∉ fp) : BQI w1 fp2 bl2 n2 m2 es2 := by
  obtain ⟨fp', _, ht, _⟩ := h
  exact h2.keep ht hd
set_option maxHeartbeats 16000000 in
theorem budgetMore_any (a0 a1 : Int) (A : Option Addr) (n c : Nat) (xs : List ActL) (w : World) (h0 : 0 ≤ a0 ∧ a0 < 256) (h1 : 0 ≤ a1 ∧ a1 < 256) (hr : Rd A n 4 (actsV xs) w) (hxs : ∀ d ∈ xs, d.key.size ≤ maxLen ∧ d.q < 256) :
    Calls Try.prog 3 #[.int .u8 a0, .int .u8 a1, .slice A n c] w fun e w' => e = .returned (.bool true) ∧ Below w.heap.size w w' := by
  obtain rfl := hr.act
  obtain ⟨N, hN⟩ : ∃ N : Nat, (N : Int) = 1 + a0 % 32 := ⟨(1 + a0 % 32).toNat, by omega⟩
  obtain ⟨N2, hN2⟩ : ∃ N2 : Nat, (N2 : Int) = N + a1 % 33 := ⟨((N : Int) + a1 % 33).toNat, by omega⟩
  have hNb : (1 : Int) ≤ N ∧ (N : Int) ≤ 32 := by omega
  have hN2b : (1 : Int) ≤ N2 ∧ (N2 : Int) ≤ 64 := by omega
  have hNN : N ≤ N2 := by omega
  have f1 : IntKind.i64.wrap (a0 % 32) = a0 % 32 := by rw [IntKind.wrap_i64]; omega
  have f2 : IntKind.i64.wrap (1 + a0 % 32) = N := by rw [IntKind.wrap_i64]; omega
  have f3 : IntKind.i64.wrap (a1 % 33) = a1 % 33 := by rw [IntKind.wrap_i64]; omega
  have f4 : IntKind.i64.wrap ((N : Int) + a1 % 33) = N2 := by rw [IntKind.wrap_i64]; omega
  have HN := Lib.hid hN
  have HM := Lib.hid hN2
  clear hN hN2
  have k0 := newI_q N 10 w (by omega) (by decide)
  have K0 := Lib.hid k0
  have HXS := Lib.hid hxs
  have HR := Lib.hid hr
  clear k0 hxs hr
  go_enter Try.func3, Try.ntmps3
  go_wp2_with fail
  (with_reducible refine K0.out.mono ?_)
  rintro y w1 ⟨bl, fp1, rfl, hq1, hb1, hf1⟩
  have k1 := newI_q N2 10 w1 (by omega) (by decide)
  have K1 := Lib.hid k1
  have HQ := Lib.hid hq1
  have HF := Lib.hid hf1
  clear hq1 hf1 K0 k1
  go_wp2_with fail
  (with_reducible refine K1.out.mono ?_)
  rintro y w2 ⟨bl2, fp2, rfl, hq2, hb2, hf2⟩
  have HQ1 := Lib.hid (HQ.out.below hb2)
  have HQ2 := Lib.hid hq2
  have HFF := Lib.hid (show ∀ b ∈ fp2, b ∉ fp1 from fun b hb hb' => by have := hf2 b hb; have := HQ.out.low b hb'; omega)
  have HF2 := Lib.hid (show ∀ b ∈ fp2, w.heap.size ≤ b from fun b hb => Nat.le_trans hb1.size (hf2 b hb))
  have hbw : Below w.heap.size w w2 := hb1.trans (hb2.mono hb1.size)
  clear hq2 hf2 K1 HQ hb1 hb2
  have HM0 := Lib.hid (More.nil N N2 hNN)
  go_wp2_with fail
  go_loopw [10] (fun i wr => ∃ (k : Nat) (fp fp' : List Nat) (es es' : List Ent), i = .int .i64 k ∧ k ≤ xs.length ∧ Hid (BQI wr fp bl N 10 es) ∧ Hid (BQI wr fp' bl2 N2 10 es') ∧ Hid (∀ b ∈ fp', b ∉ fp) ∧ Hid (∀ b ∈ fp, w.heap.size ≤ b) ∧ Hid (∀ b ∈ fp', w.heap.size ≤ b) ∧ Hid (More N N2 es es') ∧ Hid (∀ e ∈ es', ∃ x : Int, e.x = .int .i64 x) ∧ Below w.heap.size w wr) (fun i _ => 151 - (intV i).toNat)
  case atStart => exact ⟨0, fp1, fp2, [], [], rfl, Nat.zero_le _, HQ1, HQ2, HFF, HF, HF2, HM0, Lib.hid (by simp), hbw⟩
  case round =>
    clear HQ1 HQ2 HFF HF HF2 HM0 hbw
    obtain ⟨k, fp, fp', es, es', rfl, hk, HQ1, HQ2, HFF, HF, HF2, HMO, HXI, hbw⟩ := hrel
    by_cases hlt : k < xs.length
    · have t1 : decide ((k : Int) < (xs.length : Int)) = true := by simpa using hlt
      by_cases h150 : k < 150
      · have t2 : decide ((k : Int) < 150) = true := by simp; omega
        obtain ⟨b, o, rfl, hl, c0, c1, c2, c3⟩ := (HR.out.below hbw).act_at (k := k) hlt
        have hact := HXS.out xs[k] (List.getElem_mem hlt)
        generalize xs[k] = act at *
        obtain ⟨q, key, s, x⟩ := act
        simp only at c0 c1 c2 c3 hact
        have hal := (Below.refl wr.heap.size wr).alloc (Nat.le_refl _) (.cells #[.int .u8 q, .string key, .int .i64 0, .int .i64 x] 26 (0, 0))
        have hA := heap_alloc_last wr (.cells #[.int .u8 q, .string key, .int .i64 0, .int .i64 x] 26 (0, 0))
        have hAl : wr.heap.size < (wr.alloc (.cells #[.int .u8 q, .string key, .int .i64 0, .int .i64 x] 26 (0, 0))).heap.size := by rw [alloc_sz]; omega
        have hwA : Below w.heap.size w (wr.alloc (.cells #[.int .u8 q, .string key, .int .i64 0, .int .i64 x] 26 (0, 0))) := hbw.trans (hal.mono hbw.size)
        have hq1A := HQ1.out.below hal
        have hq2A := HQ2.out.below hal
        have k1 := do_q hq1A q key hact.1 0 x
        have hmo := HMO.out.doD (q % 4) key (.int .i64 x)
        have hxi := XInt.mk HXI.out N2 10 (q % 4) key 0 x
        have hlow1 := HQ1.out.low
        have hlow2 := HQ2.out.low
        generalize hes1 : doE N 10 (q % 4) key 0 (.int .i64 x) es = eA at *
        generalize hes2 : doE N2 10 (q % 4) key 0 (.int .i64 x) es' = eB at *
        have K1 := Lib.hid k1; have HES2 := Lib.hid hes2; have HMO2 := Lib.hid hmo; have HXI2 := Lib.hid hxi; have HA := Lib.hid hA; have HAL := Lib.hid hAl; have HWA := Lib.hid hwA; have HQ2A := Lib.hid hq2A; have HL1 := Lib.hid hlow1; have HL2 := Lib.hid hlow2
        clear k1 hmo hxi hA hAl hwA hq1A hq2A hes1 hes2 hlow1 hlow2 HMO HXI hbw hal
        go_wp2_with fail
        (with_reducible refine K1.out.mono ?_)
        rintro y w3 ⟨rfl, fp3, hq3, ht3, hf3⟩
        have hA3 := (ht3.2.2.2.2 wr.heap.size HAL.out (fun hx => Nat.lt_irrefl _ (HL1.out _ hx))).trans HA.out
        have hq23 := HQ2A.out.keep ht3 HFF.out
        have k2 := do_q hq23 q key hact.1 0 x
        rw [HES2.out] at k2
        have hw3 : Below w.heap.size w w3 := HWA.out.trans (ht3.below HF.out HWA.out.size)
        have hF3 := mem_disj HF.out hf3 HWA.out.size
        have hdis3 : ∀ b ∈ fp3, b ∉ fp' := fun b hb hb' => by
          rcases hf3 b hb with h' | h'
          · exact HFF.out b hb' h'
          · have := HL2.out b hb'; have := HAL.out; omega
        obtain ⟨d0, d1, d2, d3⟩ := act_cells hA3
        have K2 := Lib.hid k2; have HQ3 := Lib.hid hq3; have HW3 := Lib.hid hw3; have HF3 := Lib.hid hF3; have HD3 := Lib.hid hdis3
        clear k2 hq3 hw3 hF3 hdis3 hA3 hq23 ht3 hf3 K1 HQ2A HA HL1 HL2 HFF HF HES2 HQ1 HQ2 HWA HAL
        go_wp2_with fail
        (with_reducible refine K2.out.mono ?_)
        rintro y w4 ⟨rfl, fp4, hq4, ht4, hf4⟩
        have hq34 := HQ3.out.keep ht4 HD3.out
        have hw4 : Below w.heap.size w w4 := HW3.out.trans (ht4.below HF2.out HW3.out.size)
        have hF4 := mem_disj HF2.out hf4 HW3.out.size
        have hdis4 : ∀ b ∈ fp4, b ∉ fp3 := fun b hb hb' => by
          rcases hf4 b hb with h' | h'
          · exact HD3.out b hb' h'
          · have := HQ3.out.low b hb'; omega
        have k3 := keysI_q hq34
        have hkl : (strs (eA.map (·.key))).length = eA.length := by unfold strs; rw [List.length_map, List.length_map]
        have heN := hq34.ends
        have K3 := Lib.hid k3; have HQ4 := Lib.hid hq4; have HQ34 := Lib.hid hq34; have HW4 := Lib.hid hw4; have HF4 := Lib.hid hF4; have HD4 := Lib.hid hdis4; have HKL := Lib.hid hkl; have HEN := Lib.hid heN
        clear k3 hq4 hq34 hw4 hF4 hdis4 ht4 hf4 hkl heN d0 d1 d2 d3 K2 HQ3 HW3 HF2 HD3
        go_wp2_with fail
        (with_reducible refine K3.out.mono ?_)
        rintro y w5 ⟨ka, kc, rfl, hO, hb5⟩
        have HQA := Lib.hid (HQ34.out.below hb5)
        have HQB := Lib.hid (HQ4.out.below hb5)
        have HW5 := Lib.hid (show Below w.heap.size w w5 from HW4.out.trans (hb5.mono HW4.out.size))
        rw [HKL.out]
        rw [HKL.out] at hO
        obtain ⟨L, hL⟩ : ∃ L, eA.length = L := ⟨_, rfl⟩
        have hL2 := hL
        rw [hL] at hO
        rw [hL]
        have HLL := Lib.hid hL2
        have hL64 : L ≤ 4096 := by have := HEN.out; rw [← hL]; omega
        clear hL hL2 hb5 HQ34 HQ4 HW4 K3
        go_wp2_with fail
        go_loopw [13] (fun ii wi => ∃ i : Nat, i ≤ L ∧ ii = .int .i64 i ∧ wi = w5) (fun ii _ => L - (intV ii).toNat)
        case atStart => exact ⟨0, Nat.zero_le _, rfl, rfl⟩
        case round =>
          obtain ⟨i, hi, rfl, rfl⟩ := hrel
          by_cases hil : i < L
          · have t6 : decide ((i : Int) < (L : Int)) = true := by simpa using hil
            have hie : i < eA.length := by rw [HLL.out]; exact hil
            obtain ⟨g, rfl, g1, _⟩ := hO.cell i (by rw [HKL.out]; exact hie)
            have hmem : eA[i] ∈ eA := List.getElem_mem hie
            have hkey : (strs (eA.map (·.key)))[i]'(by rw [HKL.out]; exact hie) = (eA[i]).key.data.toList := by unfold strs; simp
            rw [hkey, str_back] at g1
            clear hkey
            generalize eA[i] = e at *
            obtain ⟨m1, m2⟩ := HMO2.out.at hmem
            obtain ⟨xv, hxv⟩ := HXI2.out e (HMO2.out.sub.subset hmem)
            have hks := (HQA.out.sz e hmem).2
            have p1 := peekI_q HQA.out e.key hks
            have p2 := peekI_q HQB.out e.key hks
            unfold hasE valE at p1 p2
            rw [m1] at p1
            rw [m2] at p2
            simp only [Option.isSome_some, hxv] at p1 p2
            have P1 := Lib.hid p1; have P2 := Lib.hid p2
            clear p1 p2 m1 m2 hxv hks hmem hie
            go_wp2_with fail
            (with_reducible refine P1.out.mono ?_)
            rintro y w6 ⟨rfl, rfl⟩
            go_wp2_with fail
            (with_reducible refine P2.out.mono ?_)
            rintro y w6 ⟨rfl, rfl⟩
            have i2 : IntKind.i64.wrap ((i : Int) + 1) = ((i + 1 : Nat) : Int) := by rw [IntKind.wrap_i64]; omega
            go_wp2
            go_roundw
            case rel => exact ⟨i + 1, hil, rfl, trivial⟩
            case measure => simp [intV]; omega
          · have t6 : decide ((i : Int) < (L : Int)) = false := by simpa using hil
            have i2 : IntKind.i64.wrap ((k : Int) + 1) = ((k + 1 : Nat) : Int) := by rw [IntKind.wrap_i64]; omega
            go_wp2
            go_roundw
            case rel => exact ⟨k + 1, fp3, fp4, eA, eB, rfl, hlt, HQA, HQB, HD4, HF3, HF4, HMO2, HXI2, HW5.out⟩
            case measure => simp [intV]; omega
      · have t2 : decide ((k : Int) < 150) = false := by simp; omega
        have k9 := works_q wr
        have K9 := Lib.hid k9
        clear k9
        go_wp2_with fail
        (with_reducible refine K9.out.mono ?_)
        rintro y w9 ⟨rfl, hb9⟩
        go_wp2
        go_ret
        exact ⟨rfl, hbw.trans (hb9.mono hbw.size)⟩
    · have t1 : decide ((k : Int) < (xs.length : Int)) = false := by simpa using hlt
      have k9 := works_q wr
      have K9 := Lib.hid k9
      clear k9
      go_wp2_with fail
      (with_reducible refine K9.out.mono ?_)
      rintro y w9 ⟨rfl, hb9⟩
      go_wp2
      go_ret
      exact ⟨rfl, hbw.trans (hb9.mono hbw.size)⟩
theorem budgetMore_law {H : Type} {enc : TypeId × Value → H} {base : Nat} {d : DataW H} {p : List MemPlace} (a0 a1 : Int) (v : Value) (w : World) (hv : Value.okWide Try.prog w .any base 22 v) (ht : DataW.Trod enc Try.prog w 0 (fun _ => true) true 22 v d p) (w0 : (Lit.int .u8 a0).wf = true) (w1 : (Lit.int .u8 a1).wf = true) :
    Calls Try.prog 3 #[.int .u8 a0, .int .u8 a1, v] w fun e w' => e = .returned (.bool true) ∧ Below w.heap.size w w' := by
  obtain ⟨A, n, c, xs, rfl, hr, _, hx⟩ := open_acts_v hv ht
  exact budgetMore_any a0 a1 A n c xs w (u8_wf w0) (u8_wf w1) hr hx
end Go.Proofs.Ytheblhgmfkpllaa
