/- BudgetPlays: the walk of the law (printed by wip/tools/budplays.py). -/
import Derived.Test.YtheblhgmfkpllaaBudStep
import Derived.Deep.RegionHeld3
namespace Go.Proofs.Ytheblhgmfkpllaa
open Go.RowKit
set_option maxRecDepth 100000

set_option maxHeartbeats 16000000 in
theorem budgetPlays_none (a0 a1 : Int) (V : Value) (w : World) (hno : ¬ ((1 ≤ a0 ∧ a0 ≤ 4096) ∧ (1 ≤ a1 ∧ a1 ≤ 1073741824))) :
    Calls Try.prog 4 #[.int .i64 a0, .int .i64 a1, V] w fun e w' => e = .returned (.bool true) ∧ Below w.heap.size w w' := by
  have k0 := newI_none a0 a1 w hno
  have K0 := Lib.hid k0
  have k9 := works_q w
  have K9 := Lib.hid k9
  clear k0 k9
  have hc : a0 < 1 ∨ (¬ a0 < 1 ∧ 4096 < a0) ∨ (¬ a0 < 1 ∧ ¬ 4096 < a0 ∧ a1 < 1) ∨ (¬ a0 < 1 ∧ ¬ 4096 < a0 ∧ ¬ a1 < 1 ∧ 1073741824 < a1) := by omega
  clear hno
  rcases hc with h1 | ⟨h1, h2⟩ | ⟨h1, h2, h3⟩ | ⟨h1, h2, h3, h4⟩
  all_goals
    go_enter Try.func4, Try.ntmps4
    go_wp2_with fail
    (with_reducible refine K0.out.mono ?_)
    rintro y w1 ⟨rfl, rfl⟩
    go_wp2_with fail
    (with_reducible refine K9.out.mono ?_)
    rintro y w2 ⟨rfl, hb9⟩
    go_wp2
    go_ret
    exact ⟨rfl, hb9⟩
set_option maxHeartbeats 32000000 in
theorem budgetPlays_any (n m : Int) (A : Option Addr) (n0 c : Nat) (xs : List ActL) (w : World) (hn : 1 ≤ n ∧ n ≤ 4096) (hm : 1 ≤ m ∧ m ≤ 1073741824) (hr : Rd A n0 4 (actsV xs) w) (hxs : ∀ d ∈ xs, d.key.size ≤ maxLen ∧ d.q < 256) :
    Calls Try.prog 4 #[.int .i64 n, .int .i64 m, .slice A n0 c] w fun e w' => e = .returned (.bool true) ∧ Below w.heap.size w w' := by
  obtain rfl := hr.act
  have k0 := newI_q n m w hn hm
  have K0 := Lib.hid k0
  have HXS := Lib.hid hxs
  have HR := Lib.hid hr
  obtain ⟨h1, h2⟩ := hn
  obtain ⟨h3, h4⟩ := hm
  have t1 : decide (n < 1) = false := by simpa using h1
  have t2 : decide (n > 4096) = false := by simpa using h2
  have t3 : decide (m < 1) = false := by simpa using h3
  have t4 : decide (m > 1073741824) = false := by simpa using h4
  clear k0 hxs hr
  go_enter Try.func4, Try.ntmps4
  go_wp2_with fail
  (with_reducible refine K0.out.mono ?_)
  rintro y w1 ⟨bl, fp1, rfl, hq1, hb1, hf1⟩
  have hal := (Below.refl w1.heap.size w1).alloc (Nat.le_refl _) (.cells #[.int .i64 n, .int .i64 m, .slice none 0 0] 37 (0, 0))
  have hA := heap_alloc_last w1 (.cells #[.int .i64 n, .int .i64 m, .slice none 0 0] 37 (0, 0))
  have hB : Both (w1.alloc (.cells #[.int .i64 n, .int .i64 m, .slice none 0 0] 37 (0, 0))) fp1 bl [] w1.heap.size n m [] := by
    refine ⟨hq1.below hal, ⟨none, 0, hA, Row1.nil _ _, by simp⟩, ⟨by simp, by simp, by simp, by simp⟩, fun b hb hb' => ?_⟩
    simp at hb
    subst hb
    exact Nat.lt_irrefl _ (hq1.low _ hb')
  have hG : ∀ b ∈ w1.heap.size :: ([] : List Nat), w.heap.size ≤ b := fun b hb => by simp at hb; rw [hb]; exact hb1.size
  have hbw : Below w.heap.size w (w1.alloc (.cells #[.int .i64 n, .int .i64 m, .slice none 0 0] 37 (0, 0))) := hb1.trans (hal.mono hb1.size)
  obtain ⟨rb, hrb⟩ : ∃ rb, w1.heap.size = rb := ⟨_, rfl⟩
  rw [hrb] at hB hG
  have HB := Lib.hid hB; have HF := Lib.hid hf1; have HG := Lib.hid hG; have HRB := Lib.hid hrb
  clear hq1 hf1 hal hA hB hG hb1 hrb K0
  go_wp2_with fail
  rw [HRB.out]
  go_loopw [9] (fun i wr => ∃ (k : Nat) (fp fr : List Nat) (es : List Ent), i = .int .i64 k ∧ k ≤ xs.length ∧ Hid (Both wr fp bl fr rb n m es) ∧ Hid (∀ b ∈ fp, w.heap.size ≤ b) ∧ Hid (∀ b ∈ rb :: fr, w.heap.size ≤ b) ∧ Below w.heap.size w wr) (fun i _ => 151 - (intV i).toNat)
  case atStart => exact ⟨0, fp1, [], [], rfl, Nat.zero_le _, HB, HF, HG, hbw⟩
  case round =>
    clear HB HF HG hbw t1 t2 t3 t4
    obtain ⟨k, fp, fr, es, rfl, hk, HB, HF, HG, hbw⟩ := hrel
    by_cases hlt : k < xs.length
    · have t1 : decide ((k : Int) < (xs.length : Int)) = true := by simpa using hlt
      by_cases h150 : k < 150
      · have t2 : decide ((k : Int) < 150) = true := by simp; omega
        obtain ⟨b, o, rfl, hl, _⟩ := HR.out.act_at (k := k) hlt
        have hact := HXS.out xs[k] (List.getElem_mem hlt)
        have kc : ∀ w', Below w.heap.size w w' → w'.cell? ⟨b, o + k * 4, none⟩ = some (.int .u8 (xs[k]).q) ∧ w'.cell? ⟨b, o + k * 4 + 1, none⟩ = some (.string (xs[k]).key) ∧ w'.cell? ⟨b, o + k * 4 + 2, none⟩ = some (.int .i64 (xs[k]).s) ∧ w'.cell? ⟨b, o + k * 4 + 3, none⟩ = some (.int .i64 (xs[k]).x) := fun w' hb => by
          obtain ⟨b', o', e, _, h⟩ := (HR.out.below hb).act_at (k := k) hlt
          cases e
          exact h
        generalize xs[k] = act at *
        obtain ⟨q, key, s, x⟩ := act
        simp only at kc hact
        have hBD : Both (wr.drewN 1) fp bl fr rb n m es := HB.out.below ⟨rfl, rfl, rfl, Nat.le_refl _, fun _ _ => rfl⟩
        have k1 := step_q hBD q key hact.1 s x
        generalize doE n m (q % 4) key s (.int .i64 x) es = es2 at *
        have K1 := Lib.hid k1; have KC := Lib.hid kc
        clear k1 kc hBD
        have i1 : IntKind.i64.wrap (k : Int) = k := by rw [IntKind.wrap_i64]; omega
        have i2 : IntKind.i64.wrap ((k : Int) + 1) = ((k + 1 : Nat) : Int) := by rw [IntKind.wrap_i64]; omega
        go_wp2_with fail
        refine wp_region_held_drew (S := (fun w' => w'.cell? ⟨b, o + k * 4, none⟩ = some (.int .u8 q) ∧ w'.cell? ⟨b, o + k * 4 + 1, none⟩ = some (.string key) ∧ w'.cell? ⟨b, o + k * 4 + 2, none⟩ = some (.int .i64 s) ∧ w'.cell? ⟨b, o + k * 4 + 3, none⟩ = some (.int .i64 x))) (by kernel_rfl) (KC.out _ (hbw.trans ⟨rfl, rfl, rfl, Nat.le_refl _, fun _ _ => rfl⟩)) (fun hHeld => ?_)
        refine wpAnyH_take (i := 0) (v := ?_) (by simp only [List.getElem?_toArray, List.getElem?_cons_zero]; exact rfl) (by kernel_rfl) (by kernel_rfl) (by kernel_rfl) (by intro _ _ _ h; exact h) (Or.inl ⟨by rfl, fun W hSw => ?_⟩) hHeld ?_
        rotate_left
        focus ((try dsimp only at hSw); first | (go_simp; done) | (go_simp; with_reducible rfl))
        try simp only [Act.put, List.setIfInBounds_toArray, List.set_cons_zero, List.set_cons_succ]
        refine wpAnyH_take (i := 1) (v := ?_) (by simp only [List.getElem?_toArray, List.getElem?_cons_succ, List.getElem?_cons_zero]; exact rfl) (by kernel_rfl) (by kernel_rfl) (by kernel_rfl) (by intro _ _ _ h; exact h) (Or.inl ⟨by rfl, fun W hSw => ?_⟩) hHeld ?_
        rotate_left
        focus ((try dsimp only at hSw); first | (go_simp; done) | (go_simp; with_reducible rfl))
        try simp only [Act.put, List.setIfInBounds_toArray, List.set_cons_zero, List.set_cons_succ]
        refine wpAnyH_take (i := 2) (v := ?_) (by simp only [List.getElem?_toArray, List.getElem?_cons_succ, List.getElem?_cons_zero]; exact rfl) (by kernel_rfl) (by kernel_rfl) (by kernel_rfl) (by intro _ _ _ h; exact h) (Or.inl ⟨by rfl, fun W hSw => ?_⟩) hHeld ?_
        rotate_left
        focus ((try dsimp only at hSw); first | (go_simp; done) | (go_simp; with_reducible rfl))
        try simp only [Act.put, List.setIfInBounds_toArray, List.set_cons_zero, List.set_cons_succ]
        refine wpAnyH_take (i := 3) (v := ?_) (by simp only [List.getElem?_toArray, List.getElem?_cons_succ, List.getElem?_cons_zero]; exact rfl) (by kernel_rfl) (by kernel_rfl) (by kernel_rfl) (by intro _ _ _ h; exact h) (Or.inl ⟨by rfl, fun W hSw => ?_⟩) hHeld ?_
        rotate_left
        focus ((try dsimp only at hSw); first | (go_simp; done) | (go_simp; with_reducible rfl))
        try simp only [Act.put, List.setIfInBounds_toArray, List.set_cons_zero, List.set_cons_succ]
        refine wpAnyH_take (i := 4) (v := ?_) (by simp only [List.getElem?_toArray, List.getElem?_cons_succ, List.getElem?_cons_zero]; exact rfl) (by kernel_rfl) (by kernel_rfl) (by kernel_rfl) (by intro _ _ _ h; exact h) (Or.inl ⟨by rfl, fun W hSw => ?_⟩) hHeld ?_
        rotate_left
        focus ((try dsimp only at hSw); first | (go_simp; done) | (go_simp; with_reducible rfl))
        try simp only [Act.put, List.setIfInBounds_toArray, List.set_cons_zero, List.set_cons_succ]
        refine wpAnyH_take (i := 5) (v := ?_) (by simp only [List.getElem?_toArray, List.getElem?_cons_succ, List.getElem?_cons_zero]; exact rfl) (by kernel_rfl) (by kernel_rfl) (by kernel_rfl) (by intro _ _ _ h; exact h) (Or.inl ⟨by rfl, fun W hSw => ?_⟩) hHeld ?_
        rotate_left
        focus ((try dsimp only at hSw); first | (go_simp; done) | (go_simp; with_reducible rfl))
        try simp only [Act.put, List.setIfInBounds_toArray, List.set_cons_zero, List.set_cons_succ]
        refine wpAnyH_ready (rs := [6]) (by kernel_rfl) (by simp) (AllReadyH.cons (by simp only [List.getElem?_toArray, List.getElem?_cons_succ, List.getElem?_cons_zero]; exact rfl) (fun K hK => ?_) AllReadyH.nil)
        rw [if_pos (by rfl)]
        go_simp
        refine K1.out.mono ?_
        rintro y w2 ⟨rfl, fp2, fr2, hB2, ht2, hf2, hg2⟩
        have hbD : Below w.heap.size w (wr.drewN 1) := hbw.trans ⟨rfl, rfl, rfl, Nat.le_refl _, fun _ _ => rfl⟩
        have hF0 : ∀ b ∈ fp ++ rb :: fr, w.heap.size ≤ b := fun b hb => by
          rcases List.mem_append.1 hb with h' | h'
          · exact HF.out b h'
          · exact HG.out b h'
        have hb2 : Below w.heap.size w w2 := hbD.trans (ht2.below hF0 hbD.size)
        have hF2 := mem_disj HF.out hf2 hbD.size
        have hG2 : ∀ b ∈ rb :: fr2, w.heap.size ≤ b := fun b hb => by
          rcases List.mem_cons.1 hb with rfl | hb
          · exact HG.out _ List.mem_cons_self
          · rcases hg2 b hb with h' | h'
            · exact HG.out b (List.mem_cons_of_mem _ h')
            · exact Nat.le_trans hbD.size h'
        have hen := hB2.i.ends
        obtain ⟨A2, cap2, _, _, _, _, _, c2R, _⟩ := hB2.r.cells
        have hkl : (strs (es2.map (·.key))).length = es2.length := by unfold strs; rw [List.length_map, List.length_map]
        have HB2 := Lib.hid hb2; have HBB := Lib.hid hB2; have HF2 := Lib.hid hF2; have HG2 := Lib.hid hG2; have HKL := Lib.hid hkl; have HEN := Lib.hid hen
        obtain ⟨LN, hLN⟩ : ∃ LN, es2.length = LN := ⟨_, rfl⟩
        have kl := lenI_q hB2.i
        rw [hLN] at c2R kl
        have kb := bytesI_q hB2.i
        have kbr := bytesR_any hB2.r hB2.ok
        have kk := keysI_q hB2.i
        have KL := Lib.hid kl; have KB := Lib.hid kb; have KBR := Lib.hid kbr; have KK := Lib.hid kk; have HLN := Lib.hid hLN
        clear hbD hF0 hb2 hF2 hG2 hen hkl hB2 ht2 hf2 hg2 kl kb kbr kk hLN
        go_wp2_with fail
        refine hK.out _ _ (KC.out _ HB2.out) (fun hHeld => ?_)
        clear hK K
        try simp only [Act.put, List.setIfInBounds_toArray, List.set_cons_zero, List.set_cons_succ]
        refine wpAnyH_take (i := 7) (v := ?_) (by simp only [List.getElem?_toArray, List.getElem?_cons_succ, List.getElem?_cons_zero]; exact rfl) (by kernel_rfl) (by kernel_rfl) (by kernel_rfl) (by intro _ _ _ h; exact h) (Or.inl ⟨by rfl, fun W hSw => ?_⟩) hHeld ?_
        rotate_left
        focus ((try dsimp only at hSw); first | (go_simp; done) | (go_simp; with_reducible rfl))
        try simp only [Act.put, List.setIfInBounds_toArray, List.set_cons_zero, List.set_cons_succ]
        refine wpAnyH_take (i := 8) (v := ?_) (by simp only [List.getElem?_toArray, List.getElem?_cons_succ, List.getElem?_cons_zero]; exact rfl) (by kernel_rfl) (by kernel_rfl) (by kernel_rfl) (by intro _ _ _ h; exact h) (Or.inl ⟨by rfl, fun W hSw => ?_⟩) hHeld ?_
        rotate_left
        focus ((try dsimp only at hSw); first | (go_simp; done) | (go_simp; with_reducible rfl))
        try simp only [Act.put, List.setIfInBounds_toArray, List.set_cons_zero, List.set_cons_succ]
        refine wpAnyH_take (i := 9) (v := ?_) (by simp only [List.getElem?_toArray, List.getElem?_cons_succ, List.getElem?_cons_zero]; exact rfl) (by kernel_rfl) (by kernel_rfl) (by kernel_rfl) (by intro _ _ _ h; exact h) (Or.inl ⟨by rfl, fun W hSw => ?_⟩) hHeld ?_
        rotate_left
        focus ((try dsimp only at hSw); first | (go_simp; done) | (go_simp; with_reducible rfl))
        try simp only [Act.put, List.setIfInBounds_toArray, List.set_cons_zero, List.set_cons_succ]
        refine wpAnyH_take (i := 11) (v := ?_) (by simp only [List.getElem?_toArray, List.getElem?_cons_succ, List.getElem?_cons_zero]; exact rfl) (by kernel_rfl) (by kernel_rfl) (by kernel_rfl) (by intro _ _ _ h; exact h) (Or.inl ⟨by rfl, fun W hSw => ?_⟩) hHeld ?_
        rotate_left
        focus ((try dsimp only at hSw); first | (go_simp; done) | (go_simp; with_reducible rfl))
        try simp only [Act.put, List.setIfInBounds_toArray, List.set_cons_zero, List.set_cons_succ]
        refine wpAnyH_take (i := 12) (v := ?_) (by simp only [List.getElem?_toArray, List.getElem?_cons_succ, List.getElem?_cons_zero]; exact rfl) (by kernel_rfl) (by kernel_rfl) (by kernel_rfl) (by intro _ _ _ h; exact h) (Or.inl ⟨by rfl, fun W hSw => ?_⟩) hHeld ?_
        rotate_left
        focus ((try dsimp only at hSw); first | (go_simp; done) | (go_simp; with_reducible rfl))
        try simp only [Act.put, List.setIfInBounds_toArray, List.set_cons_zero, List.set_cons_succ]
        refine wpAnyH_take (i := 13) (v := ?_) (by simp only [List.getElem?_toArray, List.getElem?_cons_succ, List.getElem?_cons_zero]; exact rfl) (by kernel_rfl) (by kernel_rfl) (by kernel_rfl) (by intro _ _ _ h; exact h) (Or.inl ⟨by rfl, fun W hSw => ?_⟩) hHeld ?_
        rotate_left
        focus ((try dsimp only at hSw); first | (go_simp; done) | (go_simp; with_reducible rfl))
        try simp only [Act.put, List.setIfInBounds_toArray, List.set_cons_zero, List.set_cons_succ]
        refine wpAnyH_ready (rs := [10, 14]) (by kernel_rfl) (by simp) (AllReadyH.cons (by simp only [List.getElem?_toArray, List.getElem?_cons_succ, List.getElem?_cons_zero]; exact rfl) (fun K hK => ?_) (AllReadyH.cons (by simp only [List.getElem?_toArray, List.getElem?_cons_succ, List.getElem?_cons_zero]; exact rfl) (fun K hK => ?_) AllReadyH.nil))
        · rw [if_pos (by rfl)]
          go_simp
          refine KL.out.mono ?_
          rintro y w3 ⟨rfl, rfl⟩
          go_wp2_with fail
          refine hK.out _ _ (KC.out _ HB2.out) (fun hHeld => ?_)
          clear hK K
          try simp only [Act.put, List.setIfInBounds_toArray, List.set_cons_zero, List.set_cons_succ]
          refine wpAnyH_ready (rs := [14]) (by kernel_rfl) (by simp) (AllReadyH.cons (by simp only [List.getElem?_toArray, List.getElem?_cons_succ, List.getElem?_cons_zero]; exact rfl) (fun K hK => ?_) AllReadyH.nil)
          rw [if_pos (by rfl)]
          go_simp
          refine hK.out _ _ (KC.out _ HB2.out) (fun hHeld => ?_)
          clear hK K
          try simp only [Act.put, List.setIfInBounds_toArray, List.set_cons_zero, List.set_cons_succ]
          refine wpAnyH_take (i := 15) (v := ?_) (by simp only [List.getElem?_toArray, List.getElem?_cons_succ, List.getElem?_cons_zero]; exact rfl) (by kernel_rfl) (by kernel_rfl) (by kernel_rfl) (by intro _ _ _ h; exact h) (Or.inl ⟨by rfl, fun W hSw => ?_⟩) hHeld ?_
          rotate_left
          focus ((try dsimp only at hSw); first | (go_simp; done) | (go_simp; with_reducible rfl))
          try simp only [Act.put, List.setIfInBounds_toArray, List.set_cons_zero, List.set_cons_succ]
          refine wpAnyH_take (i := 16) (v := ?_) (by simp only [List.getElem?_toArray, List.getElem?_cons_succ, List.getElem?_cons_zero]; exact rfl) (by kernel_rfl) (by kernel_rfl) (by kernel_rfl) (by intro _ _ _ h; exact h) (Or.inl ⟨by rfl, fun W hSw => ?_⟩) hHeld ?_
          rotate_left
          focus ((try dsimp only at hSw); first | (go_simp; done) | (go_simp; with_reducible rfl))
          try simp only [Act.put, List.setIfInBounds_toArray, List.set_cons_zero, List.set_cons_succ]
          refine wpAnyH_take (i := 17) (v := ?_) (by simp only [List.getElem?_toArray, List.getElem?_cons_succ, List.getElem?_cons_zero]; exact rfl) (by kernel_rfl) (by kernel_rfl) (by kernel_rfl) (by intro _ _ _ h; exact h) (Or.inl ⟨by rfl, fun W hSw => ?_⟩) hHeld ?_
          rotate_left
          focus ((try dsimp only at hSw); first | (go_simp; done) | (go_simp; with_reducible rfl))
          try simp only [Act.put, List.setIfInBounds_toArray, List.set_cons_zero, List.set_cons_succ]
          refine wpAnyH_take (i := 18) (v := ?_) (by simp only [List.getElem?_toArray, List.getElem?_cons_succ, List.getElem?_cons_zero]; exact rfl) (by kernel_rfl) (by kernel_rfl) (by kernel_rfl) (by intro _ _ _ h; exact h) (Or.inl ⟨by rfl, fun W hSw => ?_⟩) hHeld ?_
          rotate_left
          focus ((try dsimp only at hSw); first | (go_simp; done) | (go_simp; with_reducible rfl))
          try simp only [Act.put, List.setIfInBounds_toArray, List.set_cons_zero, List.set_cons_succ]
          refine wpAnyH_take (i := 19) (v := ?_) (by simp only [List.getElem?_toArray, List.getElem?_cons_succ, List.getElem?_cons_zero]; exact rfl) (by kernel_rfl) (by kernel_rfl) (by kernel_rfl) (by intro _ _ _ h; exact h) (Or.inl ⟨by rfl, fun W hSw => ?_⟩) hHeld ?_
          rotate_left
          focus ((try dsimp only at hSw); first | (go_simp; done) | (go_simp; with_reducible rfl))
          try simp only [Act.put, List.setIfInBounds_toArray, List.set_cons_zero, List.set_cons_succ]
          refine wpAnyH_take (i := 21) (v := ?_) (by simp only [List.getElem?_toArray, List.getElem?_cons_succ, List.getElem?_cons_zero]; exact rfl) (by kernel_rfl) (by kernel_rfl) (by kernel_rfl) (by intro _ _ _ h; exact h) (Or.inl ⟨by rfl, fun W hSw => ?_⟩) hHeld ?_
          rotate_left
          focus ((try dsimp only at hSw); first | (go_simp; done) | (go_simp; with_reducible rfl))
          try simp only [Act.put, List.setIfInBounds_toArray, List.set_cons_zero, List.set_cons_succ]
          refine wpAnyH_ready (rs := [20]) (by kernel_rfl) (by simp) (AllReadyH.cons (by simp only [List.getElem?_toArray, List.getElem?_cons_succ, List.getElem?_cons_zero]; exact rfl) (fun K hK => ?_) AllReadyH.nil)
          rw [if_pos (by rfl)]
          go_simp
          refine KB.out.mono ?_
          rintro y w3 ⟨rfl, rfl⟩
          go_wp2_with fail
          refine hK.out _ _ (KC.out _ HB2.out) (fun hHeld => ?_)
          clear hK K
          try simp only [Act.put, List.setIfInBounds_toArray, List.set_cons_zero, List.set_cons_succ]
          refine wpAnyH_ready (rs := [22]) (by kernel_rfl) (by simp) (AllReadyH.cons (by simp only [List.getElem?_toArray, List.getElem?_cons_succ, List.getElem?_cons_zero]; exact rfl) (fun K hK => ?_) AllReadyH.nil)
          rw [if_pos (by rfl)]
          go_simp
          refine KBR.out.mono ?_
          rintro y w3 ⟨rfl, rfl⟩
          go_wp2_with fail
          refine hK.out _ _ (KC.out _ HB2.out) (fun hHeld => ?_)
          clear hK K
          try simp only [Act.put, List.setIfInBounds_toArray, List.set_cons_zero, List.set_cons_succ]
          refine wpAnyH_take (i := 23) (v := ?_) (by simp only [List.getElem?_toArray, List.getElem?_cons_succ, List.getElem?_cons_zero]; exact rfl) (by kernel_rfl) (by kernel_rfl) (by kernel_rfl) (by intro _ _ _ h; exact h) (Or.inl ⟨by rfl, fun W hSw => ?_⟩) hHeld ?_
          rotate_left
          focus ((try dsimp only at hSw); first | (go_simp; done) | (go_simp; with_reducible rfl))
          try simp only [Act.put, List.setIfInBounds_toArray, List.set_cons_zero, List.set_cons_succ]
          refine wpAnyH_take (i := 24) (v := ?_) (by simp only [List.getElem?_toArray, List.getElem?_cons_succ, List.getElem?_cons_zero]; exact rfl) (by kernel_rfl) (by kernel_rfl) (by kernel_rfl) (by intro _ _ _ h; exact h) (Or.inl ⟨by rfl, fun W hSw => ?_⟩) hHeld ?_
          rotate_left
          focus ((try dsimp only at hSw); first | (go_simp; done) | (go_simp; with_reducible rfl))
          try simp only [Act.put, List.setIfInBounds_toArray, List.set_cons_zero, List.set_cons_succ]
          refine wpAnyH_take (i := 25) (v := ?_) (by simp only [List.getElem?_toArray, List.getElem?_cons_succ, List.getElem?_cons_zero]; exact rfl) (by kernel_rfl) (by kernel_rfl) (by kernel_rfl) (by intro _ _ _ h; exact h) (Or.inl ⟨by rfl, fun W hSw => ?_⟩) hHeld ?_
          rotate_left
          focus ((try dsimp only at hSw); first | (go_simp; done) | (go_simp; with_reducible rfl))
          try simp only [Act.put, List.setIfInBounds_toArray, List.set_cons_zero, List.set_cons_succ]
          refine wpAnyH_take (i := 26) (v := ?_) (by simp only [List.getElem?_toArray, List.getElem?_cons_succ, List.getElem?_cons_zero]; exact rfl) (by kernel_rfl) (by kernel_rfl) (by kernel_rfl) (by intro _ _ _ h; exact h) (Or.inl ⟨by rfl, fun W hSw => ?_⟩) hHeld ?_
          rotate_left
          focus ((try dsimp only at hSw); first | (go_simp; done) | (go_simp; with_reducible rfl))
          try simp only [Act.put, List.setIfInBounds_toArray, List.set_cons_zero, List.set_cons_succ]
          refine wpAnyH_take (i := 28) (v := ?_) (by simp only [List.getElem?_toArray, List.getElem?_cons_succ, List.getElem?_cons_zero]; exact rfl) (by kernel_rfl) (by kernel_rfl) (by kernel_rfl) (by intro _ _ _ h; exact h) (Or.inl ⟨by rfl, fun W hSw => ?_⟩) hHeld ?_
          rotate_left
          focus ((try dsimp only at hSw); first | (go_simp; done) | (go_simp; with_reducible rfl))
          try simp only [Act.put, List.setIfInBounds_toArray, List.set_cons_zero, List.set_cons_succ]
          refine wpAnyH_ready (rs := [27]) (by kernel_rfl) (by simp) (AllReadyH.cons (by simp only [List.getElem?_toArray, List.getElem?_cons_succ, List.getElem?_cons_zero]; exact rfl) (fun K hK => ?_) AllReadyH.nil)
          rw [if_pos (by rfl)]
          go_simp
          refine KK.out.mono ?_
          rintro y w3 ⟨a3, cap3, rfl, hO3, hb3⟩
          have hB3 := HBB.out.below hb3
          have hb23 : Below w.heap.size w w3 := HB2.out.trans (hb3.mono HB2.out.size)
          have kkr := keysR_any hB3.r hB3.ok
          have KKR := Lib.hid kkr; have HB3 := Lib.hid (And.intro hb23 (And.intro hb3 hO3))
          clear kkr hb3 hb23 hB3 hO3
          go_wp2_with fail
          refine hK.out _ _ (KC.out _ HB3.out.1) (fun hHeld => ?_)
          clear hK K
          try simp only [Act.put, List.setIfInBounds_toArray, List.set_cons_zero, List.set_cons_succ]
          refine wpAnyH_ready (rs := [29]) (by kernel_rfl) (by simp) (AllReadyH.cons (by simp only [List.getElem?_toArray, List.getElem?_cons_succ, List.getElem?_cons_zero]; exact rfl) (fun K hK => ?_) AllReadyH.nil)
          rw [if_pos (by rfl)]
          go_simp
          refine KKR.out.mono ?_
          rintro y w4 ⟨a4, cap4, rfl, hO4, hb4⟩
          have hb14 : Below w.heap.size w w4 := HB3.out.1.trans (hb4.mono HB3.out.1.size)
          have hb24 : Below w2.heap.size w2 w4 := bt HB3.out.2.1 hb4
          have ks := same18_any a3 a4 cap3 cap4 (strs (es2.map (·.key))) w4 (HB3.out.2.2.below hb4).rd.2 hO4.rd.2 (by rw [HKL.out]; have := HEN.out; omega)
          have KS := Lib.hid ks; have HB4 := Lib.hid (And.intro hb14 hb24)
          clear ks hb14 hb24 hO4 hb4
          go_wp2_with fail
          refine hK.out _ _ (KC.out _ HB4.out.1) (fun hHeld => ?_)
          clear hK K
          try simp only [Act.put, List.setIfInBounds_toArray, List.set_cons_zero, List.set_cons_succ]
          refine wpAnyH_ready (rs := [30]) (by kernel_rfl) (by simp) (AllReadyH.cons (by simp only [List.getElem?_toArray, List.getElem?_cons_succ, List.getElem?_cons_zero]; exact rfl) (fun K hK => ?_) AllReadyH.nil)
          rw [if_pos (by rfl)]
          go_simp
          refine KS.out.mono ?_
          rintro y w5 ⟨rfl, q5, rfl⟩
          go_wp2_with fail
          refine hK.out _ _ (KC.out _ (HB4.out.1.trans ⟨rfl, rfl, rfl, Nat.le_refl _, fun _ _ => rfl⟩)) (fun hHeld => ?_)
          clear hK K
          try simp only [Act.put, List.setIfInBounds_toArray, List.set_cons_zero, List.set_cons_succ]
          refine wpAnyH_take (i := 31) (v := ?_) (by simp only [List.getElem?_toArray, List.getElem?_cons_succ, List.getElem?_cons_zero]; exact rfl) (by kernel_rfl) (by kernel_rfl) (by kernel_rfl) (by intro _ _ _ h; exact h) (Or.inl ⟨by rfl, fun W hSw => ?_⟩) hHeld ?_
          rotate_left
          focus ((try dsimp only at hSw); first | (go_simp; done) | (go_simp; with_reducible rfl))
          try simp only [Act.put, List.setIfInBounds_toArray, List.set_cons_zero, List.set_cons_succ]
          refine wpAnyH_take (i := 32) (v := ?_) (by simp only [List.getElem?_toArray, List.getElem?_cons_succ, List.getElem?_cons_zero]; exact rfl) (by kernel_rfl) (by kernel_rfl) (by kernel_rfl) (by intro _ _ _ h; exact h) (Or.inl ⟨by rfl, fun W hSw => ?_⟩) hHeld ?_
          rotate_left
          focus ((try dsimp only at hSw); first | (go_simp; done) | (go_simp; with_reducible rfl))
          try simp only [Act.put, List.setIfInBounds_toArray, List.set_cons_zero, List.set_cons_succ]
          refine wpAnyH_done (by kernel_rfl) ?_ _
          clear hHeld
          have hbe : Below w2.heap.size w2 (w4.drewN q5) := HB4.out.2.trans ⟨rfl, rfl, rfl, Nat.le_refl _, fun _ _ => rfl⟩
          have hwe : Below w.heap.size w (w4.drewN q5) := HB4.out.1.trans ⟨rfl, rfl, rfl, Nat.le_refl _, fun _ _ => rfl⟩
          have HBE := Lib.hid (HBB.out.below hbe)
          clear hbe
          go_wp2
          go_roundw
          case rel => exact ⟨k + 1, fp2, fr2, es2, rfl, hlt, HBE, HF2, HG2, hwe⟩
          case measure => simp [intV]; omega
        · rw [if_pos (by rfl)]
          go_simp
          refine hK.out _ _ (KC.out _ HB2.out) (fun hHeld => ?_)
          clear hK K
          try simp only [Act.put, List.setIfInBounds_toArray, List.set_cons_zero, List.set_cons_succ]
          refine wpAnyH_take (i := 15) (v := ?_) (by simp only [List.getElem?_toArray, List.getElem?_cons_succ, List.getElem?_cons_zero]; exact rfl) (by kernel_rfl) (by kernel_rfl) (by kernel_rfl) (by intro _ _ _ h; exact h) (Or.inl ⟨by rfl, fun W hSw => ?_⟩) hHeld ?_
          rotate_left
          focus ((try dsimp only at hSw); first | (go_simp; done) | (go_simp; with_reducible rfl))
          try simp only [Act.put, List.setIfInBounds_toArray, List.set_cons_zero, List.set_cons_succ]
          refine wpAnyH_ready (rs := [10]) (by kernel_rfl) (by simp) (AllReadyH.cons (by simp only [List.getElem?_toArray, List.getElem?_cons_succ, List.getElem?_cons_zero]; exact rfl) (fun K hK => ?_) AllReadyH.nil)
          rw [if_pos (by rfl)]
          go_simp
          refine KL.out.mono ?_
          rintro y w3 ⟨rfl, rfl⟩
          go_wp2_with fail
          refine hK.out _ _ (KC.out _ HB2.out) (fun hHeld => ?_)
          clear hK K
          try simp only [Act.put, List.setIfInBounds_toArray, List.set_cons_zero, List.set_cons_succ]
          refine wpAnyH_take (i := 16) (v := ?_) (by simp only [List.getElem?_toArray, List.getElem?_cons_succ, List.getElem?_cons_zero]; exact rfl) (by kernel_rfl) (by kernel_rfl) (by kernel_rfl) (by intro _ _ _ h; exact h) (Or.inl ⟨by rfl, fun W hSw => ?_⟩) hHeld ?_
          rotate_left
          focus ((try dsimp only at hSw); first | (go_simp; done) | (go_simp; with_reducible rfl))
          try simp only [Act.put, List.setIfInBounds_toArray, List.set_cons_zero, List.set_cons_succ]
          refine wpAnyH_take (i := 17) (v := ?_) (by simp only [List.getElem?_toArray, List.getElem?_cons_succ, List.getElem?_cons_zero]; exact rfl) (by kernel_rfl) (by kernel_rfl) (by kernel_rfl) (by intro _ _ _ h; exact h) (Or.inl ⟨by rfl, fun W hSw => ?_⟩) hHeld ?_
          rotate_left
          focus ((try dsimp only at hSw); first | (go_simp; done) | (go_simp; with_reducible rfl))
          try simp only [Act.put, List.setIfInBounds_toArray, List.set_cons_zero, List.set_cons_succ]
          refine wpAnyH_take (i := 18) (v := ?_) (by simp only [List.getElem?_toArray, List.getElem?_cons_succ, List.getElem?_cons_zero]; exact rfl) (by kernel_rfl) (by kernel_rfl) (by kernel_rfl) (by intro _ _ _ h; exact h) (Or.inl ⟨by rfl, fun W hSw => ?_⟩) hHeld ?_
          rotate_left
          focus ((try dsimp only at hSw); first | (go_simp; done) | (go_simp; with_reducible rfl))
          try simp only [Act.put, List.setIfInBounds_toArray, List.set_cons_zero, List.set_cons_succ]
          refine wpAnyH_take (i := 19) (v := ?_) (by simp only [List.getElem?_toArray, List.getElem?_cons_succ, List.getElem?_cons_zero]; exact rfl) (by kernel_rfl) (by kernel_rfl) (by kernel_rfl) (by intro _ _ _ h; exact h) (Or.inl ⟨by rfl, fun W hSw => ?_⟩) hHeld ?_
          rotate_left
          focus ((try dsimp only at hSw); first | (go_simp; done) | (go_simp; with_reducible rfl))
          try simp only [Act.put, List.setIfInBounds_toArray, List.set_cons_zero, List.set_cons_succ]
          refine wpAnyH_take (i := 21) (v := ?_) (by simp only [List.getElem?_toArray, List.getElem?_cons_succ, List.getElem?_cons_zero]; exact rfl) (by kernel_rfl) (by kernel_rfl) (by kernel_rfl) (by intro _ _ _ h; exact h) (Or.inl ⟨by rfl, fun W hSw => ?_⟩) hHeld ?_
          rotate_left
          focus ((try dsimp only at hSw); first | (go_simp; done) | (go_simp; with_reducible rfl))
          try simp only [Act.put, List.setIfInBounds_toArray, List.set_cons_zero, List.set_cons_succ]
          refine wpAnyH_ready (rs := [20]) (by kernel_rfl) (by simp) (AllReadyH.cons (by simp only [List.getElem?_toArray, List.getElem?_cons_succ, List.getElem?_cons_zero]; exact rfl) (fun K hK => ?_) AllReadyH.nil)
          rw [if_pos (by rfl)]
          go_simp
          refine KB.out.mono ?_
          rintro y w3 ⟨rfl, rfl⟩
          go_wp2_with fail
          refine hK.out _ _ (KC.out _ HB2.out) (fun hHeld => ?_)
          clear hK K
          try simp only [Act.put, List.setIfInBounds_toArray, List.set_cons_zero, List.set_cons_succ]
          refine wpAnyH_ready (rs := [22]) (by kernel_rfl) (by simp) (AllReadyH.cons (by simp only [List.getElem?_toArray, List.getElem?_cons_succ, List.getElem?_cons_zero]; exact rfl) (fun K hK => ?_) AllReadyH.nil)
          rw [if_pos (by rfl)]
          go_simp
          refine KBR.out.mono ?_
          rintro y w3 ⟨rfl, rfl⟩
          go_wp2_with fail
          refine hK.out _ _ (KC.out _ HB2.out) (fun hHeld => ?_)
          clear hK K
          try simp only [Act.put, List.setIfInBounds_toArray, List.set_cons_zero, List.set_cons_succ]
          refine wpAnyH_take (i := 23) (v := ?_) (by simp only [List.getElem?_toArray, List.getElem?_cons_succ, List.getElem?_cons_zero]; exact rfl) (by kernel_rfl) (by kernel_rfl) (by kernel_rfl) (by intro _ _ _ h; exact h) (Or.inl ⟨by rfl, fun W hSw => ?_⟩) hHeld ?_
          rotate_left
          focus ((try dsimp only at hSw); first | (go_simp; done) | (go_simp; with_reducible rfl))
          try simp only [Act.put, List.setIfInBounds_toArray, List.set_cons_zero, List.set_cons_succ]
          refine wpAnyH_take (i := 24) (v := ?_) (by simp only [List.getElem?_toArray, List.getElem?_cons_succ, List.getElem?_cons_zero]; exact rfl) (by kernel_rfl) (by kernel_rfl) (by kernel_rfl) (by intro _ _ _ h; exact h) (Or.inl ⟨by rfl, fun W hSw => ?_⟩) hHeld ?_
          rotate_left
          focus ((try dsimp only at hSw); first | (go_simp; done) | (go_simp; with_reducible rfl))
          try simp only [Act.put, List.setIfInBounds_toArray, List.set_cons_zero, List.set_cons_succ]
          refine wpAnyH_take (i := 25) (v := ?_) (by simp only [List.getElem?_toArray, List.getElem?_cons_succ, List.getElem?_cons_zero]; exact rfl) (by kernel_rfl) (by kernel_rfl) (by kernel_rfl) (by intro _ _ _ h; exact h) (Or.inl ⟨by rfl, fun W hSw => ?_⟩) hHeld ?_
          rotate_left
          focus ((try dsimp only at hSw); first | (go_simp; done) | (go_simp; with_reducible rfl))
          try simp only [Act.put, List.setIfInBounds_toArray, List.set_cons_zero, List.set_cons_succ]
          refine wpAnyH_take (i := 26) (v := ?_) (by simp only [List.getElem?_toArray, List.getElem?_cons_succ, List.getElem?_cons_zero]; exact rfl) (by kernel_rfl) (by kernel_rfl) (by kernel_rfl) (by intro _ _ _ h; exact h) (Or.inl ⟨by rfl, fun W hSw => ?_⟩) hHeld ?_
          rotate_left
          focus ((try dsimp only at hSw); first | (go_simp; done) | (go_simp; with_reducible rfl))
          try simp only [Act.put, List.setIfInBounds_toArray, List.set_cons_zero, List.set_cons_succ]
          refine wpAnyH_take (i := 28) (v := ?_) (by simp only [List.getElem?_toArray, List.getElem?_cons_succ, List.getElem?_cons_zero]; exact rfl) (by kernel_rfl) (by kernel_rfl) (by kernel_rfl) (by intro _ _ _ h; exact h) (Or.inl ⟨by rfl, fun W hSw => ?_⟩) hHeld ?_
          rotate_left
          focus ((try dsimp only at hSw); first | (go_simp; done) | (go_simp; with_reducible rfl))
          try simp only [Act.put, List.setIfInBounds_toArray, List.set_cons_zero, List.set_cons_succ]
          refine wpAnyH_ready (rs := [27]) (by kernel_rfl) (by simp) (AllReadyH.cons (by simp only [List.getElem?_toArray, List.getElem?_cons_succ, List.getElem?_cons_zero]; exact rfl) (fun K hK => ?_) AllReadyH.nil)
          rw [if_pos (by rfl)]
          go_simp
          refine KK.out.mono ?_
          rintro y w3 ⟨a3, cap3, rfl, hO3, hb3⟩
          have hB3 := HBB.out.below hb3
          have hb23 : Below w.heap.size w w3 := HB2.out.trans (hb3.mono HB2.out.size)
          have kkr := keysR_any hB3.r hB3.ok
          have KKR := Lib.hid kkr; have HB3 := Lib.hid (And.intro hb23 (And.intro hb3 hO3))
          clear kkr hb3 hb23 hB3 hO3
          go_wp2_with fail
          refine hK.out _ _ (KC.out _ HB3.out.1) (fun hHeld => ?_)
          clear hK K
          try simp only [Act.put, List.setIfInBounds_toArray, List.set_cons_zero, List.set_cons_succ]
          refine wpAnyH_ready (rs := [29]) (by kernel_rfl) (by simp) (AllReadyH.cons (by simp only [List.getElem?_toArray, List.getElem?_cons_succ, List.getElem?_cons_zero]; exact rfl) (fun K hK => ?_) AllReadyH.nil)
          rw [if_pos (by rfl)]
          go_simp
          refine KKR.out.mono ?_
          rintro y w4 ⟨a4, cap4, rfl, hO4, hb4⟩
          have hb14 : Below w.heap.size w w4 := HB3.out.1.trans (hb4.mono HB3.out.1.size)
          have hb24 : Below w2.heap.size w2 w4 := bt HB3.out.2.1 hb4
          have ks := same18_any a3 a4 cap3 cap4 (strs (es2.map (·.key))) w4 (HB3.out.2.2.below hb4).rd.2 hO4.rd.2 (by rw [HKL.out]; have := HEN.out; omega)
          have KS := Lib.hid ks; have HB4 := Lib.hid (And.intro hb14 hb24)
          clear ks hb14 hb24 hO4 hb4
          go_wp2_with fail
          refine hK.out _ _ (KC.out _ HB4.out.1) (fun hHeld => ?_)
          clear hK K
          try simp only [Act.put, List.setIfInBounds_toArray, List.set_cons_zero, List.set_cons_succ]
          refine wpAnyH_ready (rs := [30]) (by kernel_rfl) (by simp) (AllReadyH.cons (by simp only [List.getElem?_toArray, List.getElem?_cons_succ, List.getElem?_cons_zero]; exact rfl) (fun K hK => ?_) AllReadyH.nil)
          rw [if_pos (by rfl)]
          go_simp
          refine KS.out.mono ?_
          rintro y w5 ⟨rfl, q5, rfl⟩
          go_wp2_with fail
          refine hK.out _ _ (KC.out _ (HB4.out.1.trans ⟨rfl, rfl, rfl, Nat.le_refl _, fun _ _ => rfl⟩)) (fun hHeld => ?_)
          clear hK K
          try simp only [Act.put, List.setIfInBounds_toArray, List.set_cons_zero, List.set_cons_succ]
          refine wpAnyH_take (i := 31) (v := ?_) (by simp only [List.getElem?_toArray, List.getElem?_cons_succ, List.getElem?_cons_zero]; exact rfl) (by kernel_rfl) (by kernel_rfl) (by kernel_rfl) (by intro _ _ _ h; exact h) (Or.inl ⟨by rfl, fun W hSw => ?_⟩) hHeld ?_
          rotate_left
          focus ((try dsimp only at hSw); first | (go_simp; done) | (go_simp; with_reducible rfl))
          try simp only [Act.put, List.setIfInBounds_toArray, List.set_cons_zero, List.set_cons_succ]
          refine wpAnyH_take (i := 32) (v := ?_) (by simp only [List.getElem?_toArray, List.getElem?_cons_succ, List.getElem?_cons_zero]; exact rfl) (by kernel_rfl) (by kernel_rfl) (by kernel_rfl) (by intro _ _ _ h; exact h) (Or.inl ⟨by rfl, fun W hSw => ?_⟩) hHeld ?_
          rotate_left
          focus ((try dsimp only at hSw); first | (go_simp; done) | (go_simp; with_reducible rfl))
          try simp only [Act.put, List.setIfInBounds_toArray, List.set_cons_zero, List.set_cons_succ]
          refine wpAnyH_done (by kernel_rfl) ?_ _
          clear hHeld
          have hbe : Below w2.heap.size w2 (w4.drewN q5) := HB4.out.2.trans ⟨rfl, rfl, rfl, Nat.le_refl _, fun _ _ => rfl⟩
          have hwe : Below w.heap.size w (w4.drewN q5) := HB4.out.1.trans ⟨rfl, rfl, rfl, Nat.le_refl _, fun _ _ => rfl⟩
          have HBE := Lib.hid (HBB.out.below hbe)
          clear hbe
          go_wp2
          go_roundw
          case rel => exact ⟨k + 1, fp2, fr2, es2, rfl, hlt, HBE, HF2, HG2, hwe⟩
          case measure => simp [intV]; omega
      · have t2 : decide ((k : Int) < 150) = false := by simp; omega
        have k9 := works_q wr
        have K9 := Lib.hid k9
        clear k9
        go_wp2_with fail
        (with_reducible refine K9.out.mono ?_)
        rintro y w9 ⟨rfl, hb9⟩
        go_wp2
        go_ret
        exact ⟨rfl, hbw.trans (hb9.mono hbw.size)⟩
    · have t1 : decide ((k : Int) < (xs.length : Int)) = false := by simpa using hlt
      have k9 := works_q wr
      have K9 := Lib.hid k9
      clear k9
      go_wp2_with fail
      (with_reducible refine K9.out.mono ?_)
      rintro y w9 ⟨rfl, hb9⟩
      go_wp2
      go_ret
      exact ⟨rfl, hbw.trans (hb9.mono hbw.size)⟩
theorem i64_wf {a : Int} (h : (Lit.int .i64 a).wf = true) : -9223372036854775808 ≤ a ∧ a ≤ 9223372036854775807 := by
  have m1 : IntKind.i64.min = -9223372036854775808 := by rfl
  have m2 : IntKind.i64.max = 9223372036854775807 := by rfl
  simp [Lit.wf] at h
  omega
theorem budgetPlays_law {H : Type} {enc : TypeId × Value → H} {base : Nat} {d : DataW H} {p : List MemPlace} (a0 a1 : Int) (v : Value) (w : World) (hv : Value.okWide Try.prog w .any base 22 v) (ht : DataW.Trod enc Try.prog w 0 (fun _ => true) true 22 v d p) (_w0 : (Lit.int .i64 a0).wf = true) (_w1 : (Lit.int .i64 a1).wf = true) :
    Calls Try.prog 4 #[.int .i64 a0, .int .i64 a1, v] w fun e w' => e = .returned (.bool true) ∧ Below w.heap.size w w' := by
  obtain ⟨A, n, c, xs, rfl, hr, _, hx⟩ := open_acts_v hv ht
  by_cases hin : (1 ≤ a0 ∧ a0 ≤ 4096) ∧ (1 ≤ a1 ∧ a1 ≤ 1073741824)
  · exact budgetPlays_any a0 a1 A n c xs w hin.1 hin.2 hr hx
  · exact budgetPlays_none a0 a1 _ w hin
end Go.Proofs.Ytheblhgmfkpllaa
