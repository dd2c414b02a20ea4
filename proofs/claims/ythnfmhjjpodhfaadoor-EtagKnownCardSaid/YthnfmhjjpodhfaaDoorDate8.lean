/- Dates: the walk of date.Parse. -/
import Derived.Test.YthnfmhjjpodhfaaDoorDate5
import Derived.Test.YthnfmhjjpodhfaaDoorDate6
import Derived.Test.YthnfmhjjpodhfaaDoorDate7
import Derived.WalkMore
namespace Go.Proofs.YthnfmhjjpodhfaaDoor
open Go.RowKit
set_option maxRecDepth 100000

def dfs : List (List UInt8) := [dform0, dform1, dform2]
theorem dtick_any (mb : Nat) (m : Mom) (now : Int) (w : World) (hm : MomAt mb m w) (ho : MomOk m) :
    Calls Tryd.prog 57 #[.pointer (some ⟨mb, 0, none⟩), .int .i64 now] w (TickPost mb w (dtick m now)) := by
  cases h : m.two
  · exact dtick_one mb m now w hm ho h
  · exact dtick_two mb m now w hm ho h
/-- A form's letters. -/
def FormOk (f : List UInt8) : Prop := (∀ c ∈ f, c.toNat ∈ dletters) ∧ ((∃ c ∈ f, c.toNat = 89) → ∀ c ∈ f, c.toNat ≠ 121)
theorem dfs_ok : ∀ f ∈ dfs, FormOk f := by
  have h1 : (dfs.all fun f => (f.all fun c => dletters.contains c.toNat) && (!(f.any fun c => c.toNat == 89) || f.all fun c => c.toNat != 121)) = true := by decide +kernel
  intro f hf
  have h2 := List.all_eq_true.1 h1 f hf
  rw [Bool.and_eq_true] at h2
  refine ⟨fun c hc => by simpa using List.all_eq_true.1 h2.1 c hc, fun ⟨c, hc, h89⟩ c' hc' => ?_⟩
  have hany : (f.any fun c => c.toNat == 89) = true := List.any_eq_true.2 ⟨c, hc, by simpa using h89⟩
  rw [hany] at h2
  have h3 := h2.2
  simp only [Bool.not_true, Bool.false_or] at h3
  simpa using List.all_eq_true.1 h3 c' hc'
theorem dpieces_ok : ∀ (f : List UInt8) (m : Mom) (s : List UInt8) (m' : Mom) (r : List UInt8), (∀ c ∈ f, c.toNat ∈ dletters) → ((∃ c ∈ f, c.toNat = 89) → m.two = false ∧ ∀ c ∈ f, c.toNat ≠ 121) → MomOk m → dpieces f m s = some (m', r) → MomOk m'
  | [], m, s, m', r, _, _, h, e => by
    rw [dpieces] at e
    cases e
    exact h
  | c :: f, m, s, m', r, hl, hy, h, e => by
    rw [dpieces] at e
    have hk := dtake_ok h c.toNat (hl c (by simp)) s (fun h89 => (hy ⟨c, by simp, h89⟩).1)
    cases hs : (dtake m c.toNat s).2.2
    · rw [hs] at e; cases e
    · rw [hs] at e
      refine dpieces_ok f _ _ m' r (fun c' hc' => hl c' (by simp [hc'])) (fun ⟨c', hc', h89⟩ => ?_) hk.1 e
      have h2 := hy ⟨c', by simp [hc'], h89⟩
      have hne : c.toNat ≠ 121 := h2.2 c (by simp)
      exact ⟨(hk.2 hne).trans h2.1, fun c'' hc'' => h2.2 c'' (by simp [hc''])⟩
theorem mom0_ok : MomOk mom0 := ⟨by decide, by decide, by decide, by decide, by decide, by decide, by decide, by intro h; cases h⟩
theorem dforms_any (w : World) :
    Calls Tryd.prog 55 #[] w fun e w' => e = .returned (.slice (some ⟨w.heap.size, 0, none⟩) 3 3) ∧ Rd (some ⟨w.heap.size, 0, none⟩) 3 1 (strsV dfs) w' ∧ Below w.heap.size w w' := by
  go_enter Tryd.func55, Tryd.ntmps55
  go_wp2
  go_ret
  refine ⟨rfl, ⟨rfl, fun _ => ⟨_, 0, rfl, by simp, fun j u hu => ?_⟩⟩, (Below.refl _ w).alloc (Nat.le_refl _) _⟩
  rw [Nat.zero_add, World.cell?_alloc_mark]
  simpa [strsV, dfs, dform0, dform1, dform2] using hu
/-- Where a text's iterator stands. -/
def posI (w : World) (ib : Nat) : Nat := match w.heap[ib]? with
  | some (.stringIter _ p) => p
  | _ => 0
theorem posI_of {w : World} {ib p : Nat} {s : ByteArray} (h : w.heap[ib]? = some (.stringIter s p)) : posI w ib = p := by
  unfold posI; rw [h]
theorem dparse_none {s f : List UInt8} {now : Int} {r : List (List UInt8)} (h : dpieces f mom0 s = none) : dparse s now (f :: r) = dparse s now r := by
  rw [dparse, h]
theorem dparse_more {s f : List UInt8} {now : Int} {r : List (List UInt8)} {m : Mom} {c : UInt8} {t : List UInt8} (h : dpieces f mom0 s = some (m, c :: t)) : dparse s now (f :: r) = dparse s now r := by
  rw [dparse, h]
theorem dparse_end {s f : List UInt8} {now : Int} {r : List (List UInt8)} {m : Mom} (h : dpieces f mom0 s = some (m, [])) : dparse s now (f :: r) = if (dtick m now).2 = true then ((dtick m now).1, 0) else dparse s now r := by
  rw [dparse, h]
set_option maxHeartbeats 16000000 in
theorem dparse_any (s : ByteArray) (now : Int) (w : World) (hE : DEnv w) :
    Calls Tryd.prog 47 #[.string s, .int .i64 now] w fun e w' => e = .returned (.tuple #[.int .i64 (dateP s.data.toList now).1, .int .i64 (dateP s.data.toList now).2]) ∧ Below w.heap.size w w' := by
  obtain ⟨R, hR⟩ : ∃ R, dateP s.data.toList now = R := ⟨_, rfl⟩
  rw [hR]
  have hR0 : dparse s.data.toList now dfs = R := hR
  have hok := dfs_ok
  have hl3 : dfs.length = 3 := rfl
  have kf := dforms_any w
  obtain ⟨y, rfl⟩ : ∃ y : List UInt8, s = ⟨y.toArray⟩ := ⟨s.data.toList, (str_of s).symm⟩
  have ey : (⟨y.toArray⟩ : ByteArray).data.toList = y := by simp
  rw [ey] at hR0
  have HR0 := Lib.hid hR0; have HOK := Lib.hid hok; have HL3 := Lib.hid hl3; have KF := Lib.hid kf; have HE := Lib.hid hE
  clear hR hR0 hok hl3 kf hE ey
  generalize dfs = ls at *
  go_enter Tryd.func47, Tryd.ntmps47
  go_wp2_with fail
  go_step3
  go_wp2_with fail
  go_step3
  go_wp2_with fail
  (with_reducible refine KF.out.mono ?_)
  rintro e W1 ⟨rfl, hrd, hb1⟩
  have HE1 := Lib.hid (HE.out.below hb1)
  have HRD := Lib.hid hrd
  have hlow : w.heap.size < W1.heap.size := by
    obtain ⟨b, o, e, hl, _⟩ := hrd.2 (by decide)
    cases e; exact hl
  clear hrd KF
  go_wp2_with fail
  go_loopw [18] (fun i wr => ∃ k : Nat, k ≤ 3 ∧ i = .int .i64 k ∧ Below W1.heap.size W1 wr ∧ Hid (dparse y now (ls.drop k) = R)) (fun i _ => 3 - (intD i).toNat)
  case atStart => exact ⟨0, Nat.zero_le _, rfl, Below.refl _ _, HR0⟩
  case round =>
    obtain ⟨k, hk, rfl, hbr, HP⟩ := hrel
    by_cases hk3 : k < 3
    · have hkl : k < ls.length := by rw [HL3.out]; exact hk3
      obtain ⟨b', o', e, _, d0⟩ := (HRD.out.below hbr).str_at hkl
      cases e
      have hfo := HOK.out ls[k] (List.getElem_mem hkl)
      have hdr : ls.drop k = ls[k] :: ls.drop (k + 1) := List.drop_eq_getElem_cons hkl
      have hP := HP.out
      rw [hdr] at hP
      generalize ls[k] = f at *
      obtain ⟨fo, rfl⟩ : ∃ fo : ByteArray, f = fo.data.toList := ⟨⟨f.toArray⟩, by simp⟩
      rw [str_of, Nat.zero_add] at d0
      have HP2 := Lib.hid hP
      have HFO := Lib.hid hfo
      have i2 : IntKind.i64.wrap ((k : Int) + 1) = ((k + 1 : Nat) : Int) := by rw [IntKind.wrap_i64]; omega
      have i3 : IntKind.i64.wrap (k : Int) = k := by rw [IntKind.wrap_i64]; omega
      have t0 : decide ((k : Int) < 3) = true := by simp; omega
      clear hP hdr hfo HP hkl
      go_wp2_with fail
      obtain ⟨wo, rfl⟩ : ∃ wo : World, wo = wr := ⟨_, rfl⟩
      have hm0 : MomAt wo.heap.size mom0 ((wo.alloc (.cells #[.int .i64 0, .int .i64 0, .int .i64 0, .int .i64 0, .int .i64 0, .int .i64 0, .int .i64 0, .bool false] 96 (0, 0))).iter fo 0) := by
        unfold MomAt World.iter
        exact (Below.heap_alloc _ _ _ (by simp)).trans (heap_new wo _ _ rfl)
      have hi0 : ((wo.alloc (.cells #[.int .i64 0, .int .i64 0, .int .i64 0, .int .i64 0, .int .i64 0, .int .i64 0, .int .i64 0, .bool false] 96 (0, 0))).iter fo 0).heap[wo.heap.size + 1]? = some (.stringIter fo 0) := by
        have := World.iter_heap (wo.alloc (.cells #[.int .i64 0, .int .i64 0, .int .i64 0, .int .i64 0, .int .i64 0, .int .i64 0, .int .i64 0, .bool false] 96 (0, 0))) fo 0
        rw [show (wo.alloc (.cells #[.int .i64 0, .int .i64 0, .int .i64 0, .int .i64 0, .int .i64 0, .int .i64 0, .int .i64 0, .bool false] 96 (0, 0))).heap.size = wo.heap.size + 1 from by simp] at this
        exact this
      have hb0 : Below W1.heap.size W1 ((wo.alloc (.cells #[.int .i64 0, .int .i64 0, .int .i64 0, .int .i64 0, .int .i64 0, .int .i64 0, .int .i64 0, .bool false] 96 (0, 0))).iter fo 0) := (hbr.alloc hbr.size _).alloc (by simp; have := hbr.size; omega) _
      obtain ⟨W2, hW2⟩ : ∃ W2, (wo.alloc (.cells #[.int .i64 0, .int .i64 0, .int .i64 0, .int .i64 0, .int .i64 0, .int .i64 0, .int .i64 0, .bool false] 96 (0, 0))).iter fo 0 = W2 := ⟨_, rfl⟩
      rw [hW2] at hm0 hi0 hb0 ⊢
      have hmbs : W1.heap.size ≤ wo.heap.size := hbr.size
      obtain ⟨mb, hmb⟩ : ∃ mb, wo.heap.size = mb := ⟨_, rfl⟩
      rw [hmb] at hm0 hi0 hmbs ⊢
      obtain ⟨P0, hP0⟩ : ∃ P0, dpieces fo.data.toList mom0 y = P0 := ⟨_, rfl⟩
      have HP0 := Lib.hid hP0; have HM0 := Lib.hid hm0; have HI0 := Lib.hid hi0; have HB0 := Lib.hid hb0
      clear hP0 hm0 hi0 hb0 hW2 hmb d0 hbr
      go_loopw [9] (fun rv wi => ∃ (p : Nat) (m : Mom) (rest : List UInt8), rv = .string ⟨rest.toArray⟩ ∧ p ≤ fo.size ∧ Hid (MomAt mb m wi) ∧ Hid (wi.heap[mb + 1]? = some (.stringIter fo p)) ∧ Hid (Below W1.heap.size W1 wi) ∧ Hid (dpieces (fo.data.toList.drop p) m rest = P0)) (fun _ wi => fo.size - posI wi (mb + 1))
      case atStart => exact ⟨0, mom0, y, rfl, Nat.zero_le _, HM0, HI0, HB0, HP0⟩
      case round =>
        obtain ⟨p, m, rest, rfl, hp, HM, HI, HB, HD⟩ := hrel
        by_cases hpf : p < fo.size
        · have hdc := drop_cons fo p hpf
          have hcm : fo[p] ∈ fo.data.toList := by rw [at_list fo p hpf]; exact List.getElem_mem _
          have hlet := HFO.out.1 fo[p] hcm
          have hasc : fo[p].toNat < 128 := by
            have hall : ∀ c ∈ dletters, c < 128 := by decide
            exact hall _ hlet
          have hnx : ∀ ty, (Instr.next (.pointer (some ⟨mb + 1, 0, none⟩)) true ty).run Tryd.prog wr = .ok (.tuple #[.bool true, .int .i64 p, .int .i32 (fo[p]'hpf).toNat]) (stepI wr (mb + 1) fo (p + 1)) := fun ty => run_next_at wr (mb + 1) fo p ty HI.out hpf hasc
          have hil : mb + 1 < wr.heap.size := by
            rcases Nat.lt_or_ge (mb + 1) wr.heap.size with h' | h'
            · exact h'
            · have := HI.out; simp [Array.getElem?_eq_none h'] at this
          have hm3 : MomAt mb m (stepI wr (mb + 1) fo (p + 1)) := (stepI_other (by omega)).trans HM.out
          have hi3 : (stepI wr (mb + 1) fo (p + 1)).heap[mb + 1]? = some (.stringIter fo (p + 1)) := stepI_same hil
          have hb3 : Below W1.heap.size W1 (stepI wr (mb + 1) fo (p + 1)) := HB.out.trans ((stepI_but wr (mb + 1) (p + 1) fo).below (by omega) HB.out.size)
          have hD := HD.out
          rw [hdc, dpieces] at hD
          obtain ⟨c, hc⟩ : ∃ c, fo[p].toNat = c := ⟨_, rfl⟩
          rw [hc] at hD hlet hnx
          have hsz3 : (stepI wr (mb + 1) fo (p + 1)).heap.size = wr.heap.size := by simp [stepI]
          obtain ⟨W3, hW3⟩ : ∃ W3, stepI wr (mb + 1) fo (p + 1) = W3 := ⟨_, rfl⟩
          rw [hW3] at hnx hm3 hi3 hb3 hsz3
          have kt := dtake_any c hlet mb m ⟨rest.toArray⟩ W3 (HE1.out.below hb3) hm3
          have er : (⟨rest.toArray⟩ : ByteArray).data.toList = rest := by simp
          rw [er] at kt
          have hpos := posI_of HI.out
          generalize dtake m c rest = r at *
          obtain ⟨m', rest', is⟩ := r
          simp only at kt hD
          have KT := Lib.hid kt; have HI3 := Lib.hid hi3; have HB3 := Lib.hid hb3; have HS3 := Lib.hid hsz3; have HPOS := Lib.hid hpos
          clear kt hm3 hi3 hb3 hsz3 hpos hdc hcm hlet hasc hil er hW3 hc HD HM
          cases is
          · simp only [cond_false] at hD
            have HN := Lib.hid hD
            clear hD
            go_wp2_with fail
            (with_reducible refine KT.out.mono ?_)
            rintro e w4 ⟨rfl, hbt, _⟩
            have hb4 : Below W1.heap.size W1 w4 := HB3.out.trans (hbt.below hmbs HB3.out.size)
            have hRn : dparse y now (ls.drop (k + 1)) = R := (dparse_none (HP0.out.trans HN.out.symm)).symm.trans HP2.out
            have HRN := Lib.hid hRn
            clear hRn hbt
            go_wp2
            go_roundw
            case rel => exact ⟨k + 1, hk3, rfl, hb4, HRN⟩
            case measure => simp [intD]; omega
          · simp only [cond_true] at hD
            have HN := Lib.hid hD
            clear hD
            go_wp2_with fail
            (with_reducible refine KT.out.mono ?_)
            rintro e w4 ⟨rfl, hbt, hm4⟩
            have hil3 : mb + 1 < W3.heap.size := by
              rcases Nat.lt_or_ge (mb + 1) W3.heap.size with h' | h'
              · exact h'
              · have := HI3.out; simp [Array.getElem?_eq_none h'] at this
            have hi4 : w4.heap[mb + 1]? = some (.stringIter fo (p + 1)) := (hbt.2.2.2.2 (mb + 1) hil3 (by omega)).trans HI3.out
            have hb4 : Below W1.heap.size W1 w4 := HB3.out.trans (hbt.below hmbs HB3.out.size)
            have hpos4 := posI_of hi4
            have HM4 := Lib.hid hm4; have HI4 := Lib.hid hi4; have HB4 := Lib.hid hb4; have HPOS4 := Lib.hid hpos4
            clear hm4 hi4 hb4 hpos4 hbt hil3
            go_wp2
            go_roundw
            case rel =>
              exact ⟨p + 1, m', rest', rfl, hpf, HM4, HI4, HB4, HN⟩
            case measure => rw [HPOS4.out, HPOS.out]; omega
        · have hpe : p = fo.size := by omega
          subst hpe
          have hst : ∀ ty, (Instr.next (.pointer (some ⟨mb + 1, 0, none⟩)) true ty).run Tryd.prog wr = .ok (.tuple #[.bool false]) wr := fun ty => run_next_stop wr (mb + 1) fo fo.size ty HI.out hpf
          have hD := HD.out
          rw [drop_all fo fo.size (Nat.le_refl _), dpieces] at hD
          have hPF := HP0.out.trans hD.symm
          cases rest with
          | cons c0 t0 =>
            have hRn : dparse y now (ls.drop (k + 1)) = R := (dparse_more hPF).symm.trans HP2.out
            have HRN := Lib.hid hRn
            have HBB := Lib.hid HB.out
            clear hD hPF hRn HD HM HI
            go_wp2
            go_roundw
            case rel => exact ⟨k + 1, hk3, rfl, HBB.out, HRN⟩
            case measure => simp [intD]; omega
          | nil =>
            have hok := dpieces_ok fo.data.toList mom0 y m [] HFO.out.1 (fun h => ⟨rfl, HFO.out.2 h⟩) mom0_ok hPF
            have kt := dtick_any mb m now wr HM.out hok
            have hRn : (if (dtick m now).2 = true then ((dtick m now).1, 0) else dparse y now (ls.drop (k + 1))) = R := (dparse_end hPF).symm.trans HP2.out
            unfold TickPost at kt
            generalize dtick m now = r at *
            obtain ⟨t, is⟩ := r
            simp only at kt hRn
            have KT := Lib.hid kt; have HRN := Lib.hid hRn; have HBB := Lib.hid HB.out
            clear hD hPF hRn HD HM HI kt hok HB
            cases is
            · go_wp2_with fail
              (with_reducible refine KT.out.mono ?_)
              rintro e w4 ⟨rfl, hbt⟩
              have hb4 : Below W1.heap.size W1 w4 := HBB.out.trans (hbt.below hmbs HBB.out.size)
              have hRm : dparse y now (ls.drop (k + 1)) = R := by have := HRN.out; simpa using this
              have HRM := Lib.hid hRm
              clear hRm hbt
              go_wp2
              go_roundw
              case rel => exact ⟨k + 1, hk3, rfl, hb4, HRM⟩
              case measure => simp [intD]; omega
            · go_wp2_with fail
              (with_reducible refine KT.out.mono ?_)
              rintro e w4 ⟨rfl, hbt⟩
              have hb4 : Below W1.heap.size W1 w4 := HBB.out.trans (hbt.below hmbs HBB.out.size)
              have hRm : (t, 0) = R := by have := HRN.out; simpa using this
              have HRM := Lib.hid (And.intro hRm hb4)
              clear hRm hbt hb4
              go_wp2
              rw [Exit.noGoto_ret]
              go_ret2
              exact ⟨by rw [← HRM.out.1]; rfl, hb1.trans (HRM.out.2.mono (Nat.le_of_lt hlow))⟩
    · have hk2 : k = 3 := by omega
      subst hk2
      have hP := HP.out
      rw [List.drop_eq_nil_of_le (by rw [HL3.out]; exact Nat.le_refl _), dparse] at hP
      have HP2 := Lib.hid hP
      clear hP
      go_wp2
      rw [Exit.noGoto_ret]
      go_ret2
      exact ⟨by rw [← HP2.out]; rfl, hb1.trans (hbr.mono (Nat.le_of_lt hlow))⟩
end Go.Proofs.YthnfmhjjpodhfaaDoor
