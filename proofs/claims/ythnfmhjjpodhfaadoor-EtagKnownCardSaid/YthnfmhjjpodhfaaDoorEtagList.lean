/- The walks of etag.List and of the document's List, Weak, Strong (layer 14). -/
import Derived.Test.YthnfmhjjpodhfaaDoorEtagR
import Derived.Test.YthnfmhjjpodhfaaDoorEtagSpec
import Derived.Test.YthnfmhjjpodhfaaDoorSplit
import Derived.Test.YthnfmhjjpodhfaaDoorSplitR
namespace Go.Proofs.YthnfmhjjpodhfaaDoor
open Go.RowKit
set_option maxRecDepth 100000

set_option maxHeartbeats 1000000 in
theorem listf_any (p : List UInt8) (w : World) (hp : p.length ≤ 8000) :
    Calls Tryd.prog 23 #[.string ⟨p.toArray⟩] w fun e w' => e = .returned (.bool (!entOk p)) ∧ Below w.heap.size w w' := by
  have k1 := rd ⟨p.toArray⟩ w (by rw [Lib.size_eq]; exact hp)
  unfold Ent.val at k1
  have hk : entOk p = (ent ⟨p.toArray⟩).right := rfl
  rw [← hk] at k1
  clear hk
  generalize entOk p = r at *
  generalize (ent ⟨p.toArray⟩).weak = wk at *
  generalize (ent ⟨p.toArray⟩).tag = tg at *
  have K1 := Lib.hid k1; clear k1
  have hfd : ∀ w : World, (Instr.field 45 (.agg #[.bool wk, .bool r, .string tg]) 1).run Tryd.prog w = .ok (.bool r) w := fun _ => by kernel_rfl
  go_enter Tryd.func23, Tryd.ntmps23
  go_wp2_with fail
  refine K1.out.mono ?_
  rintro e w1 ⟨rfl, hb1⟩
  go_wp2
  go_ret
  exact ⟨rfl, hb1⟩

/-- Where the first bad one stands; below nought: there is none. -/
def IxPost (ls : List (List UInt8)) (w : World) (e : Ending) (w' : World) : Prop := ∃ i : Int, e = .returned (.int .i64 i) ∧ decide (0 ≤ i) = !ls.all entOk ∧ Below w.heap.size w w'
set_option maxRecDepth 100000 in
set_option maxHeartbeats 2000000 in
theorem index14_any (A : Option Addr) (n c : Nat) (ls : List (List UInt8)) (w : World) (hr : Rd A n 1 (strsV ls) w) (hn : n ≤ 1000000) (hl : ∀ x ∈ ls, x.length ≤ 8000) :
    Calls Tryd.prog 38 #[.slice A n c, .func (.func 23) #[] #[]] w (IxPost ls w) := by
  obtain rfl := hr.str
  have hB := Below.refl w.heap.size w
  have HR := Lib.hid hr; have HL := Lib.hid hl; clear hr hl
  go_enter Tryd.func38, Tryd.ntmps38
  go_wp2
  go_loopw [8] (fun i wr => ∃ k : Nat, k ≤ ls.length ∧ i = .int .i64 k ∧ Hid ((ls.take k).all entOk = true) ∧ Below w.heap.size w wr) (fun i _ => ls.length - (intOf i).toNat)
  case atStart => exact ⟨0, Nat.zero_le _, rfl, Lib.hid rfl, hB⟩
  case round =>
    clear hB
    obtain ⟨k, hk, rfl, HA, hbw⟩ := hrel
    by_cases hlt : k < ls.length
    · obtain ⟨b, o, rfl, hl, c1⟩ := (HR.out.below hbw).str_at (k := k) hlt
      have hv := HL.out ls[k] (List.getElem_mem _)
      have hbad : entOk ls[k] = false → Hid (decide ((0 : Int) ≤ (k : Int)) = !ls.all entOk) := by
        intro h
        refine Lib.hid ?_
        have : ls.all entOk = false := by rw [List.all_eq_false]; exact ⟨ls[k], List.getElem_mem _, by simp [h]⟩
        rw [this]; simp
      have hgood : entOk ls[k] = true → Hid ((ls.take (k + 1)).all entOk = true) := by
        intro h
        refine Lib.hid ?_
        rw [List.take_succ_eq_append_getElem hlt, List.all_append, HA.out]
        simp [h]
      generalize ls[k] = p at *
      have k1 := fun w => listf_any p w hv
      have HBAD := Lib.hid hbad; have HGOOD := Lib.hid hgood; clear hbad hgood HA
      cases hq : entOk p
      · rw [hq] at k1
        have hf := HBAD.out hq
        have K1 := Lib.hid k1; clear k1 hq
        go_wp2_with fail
        refine (K1.out _).mono ?_
        rintro e w1 ⟨rfl, hb1⟩
        go_wp2
        go_ret
        exact ⟨k, rfl, hf.out, bt hbw hb1⟩
      · rw [hq] at k1
        have hf := HGOOD.out hq
        have K1 := Lib.hid k1; clear k1 hq
        go_wp2_with fail
        refine (K1.out _).mono ?_
        rintro e w1 ⟨rfl, hb1⟩
        go_wp2
        go_roundw
        case rel => exact ⟨k + 1, by omega, by go_num, hf, bt hbw hb1⟩
        case measure => simp [intOf]; omega
    · have hke : k = ls.length := by omega
      subst hke
      have ha := HA.out
      rw [List.take_length] at ha
      have HA2 := Lib.hid ha; clear ha HA
      go_wp2
      go_ret
      exact ⟨-1, rfl, by rw [HA2.out]; rfl, hbw⟩
set_option maxHeartbeats 1000000 in
theorem contains14_any (A : Option Addr) (n c : Nat) (ls : List (List UInt8)) (w : World) (hr : Rd A n 1 (strsV ls) w) (hn : n ≤ 1000000) (hl : ∀ x ∈ ls, x.length ≤ 8000) :
    Calls Tryd.prog 22 #[.slice A n c, .func (.func 23) #[] #[]] w fun e w' => e = .returned (.bool (!ls.all entOk)) ∧ Below w.heap.size w w' := by
  have k1 := index14_any A n c ls w hr hn hl
  have K1 := Lib.hid k1; clear k1
  go_enter Tryd.func22, Tryd.ntmps22
  go_wp2_with fail
  refine K1.out.mono ?_
  rintro e w1 ⟨i, rfl, hi, hb1⟩
  have HI := Lib.hid hi; clear hi
  go_wp2
  go_ret
  exact ⟨by rw [← HI.out]; rfl, hb1⟩

set_option maxHeartbeats 2000000 in
theorem elist_any (s : ByteArray) (w : World) (hs : s.size ≤ 8000) :
    Calls Tryd.prog 8 #[.string s] w (SplitPost w (etagL s.data.toList)) := by
  have k1 := split_any s 44 w (by omega)
  have htot := split_total 44 s.data.toList
  have hcn : (splitL 44 s.data.toList).1.length ≤ 64 := by
    have := split_len s.data.toList; exact this
  rw [← Lib.size_eq] at htot
  have he : etagL s.data.toList = bif (splitL 44 s.data.toList).2 == 0 && (!(splitL 44 s.data.toList).1.isEmpty && (splitL 44 s.data.toList).1.all entOk) then ((splitL 44 s.data.toList).1, 0) else ([], 4) := rfl
  generalize etagL s.data.toList = out at *
  generalize splitL 44 s.data.toList = r at *
  obtain ⟨ls, er⟩ := r
  simp only at htot hcn he
  have K1 := Lib.hid k1; have HE := Lib.hid he; clear k1 he
  have hl : ∀ x ∈ ls, x.length ≤ 8000 := fun x hx => by have := total_mem hx; omega
  go_enter Tryd.func8, Tryd.ntmps8
  go_wp2_with fail
  refine K1.out.mono ?_
  rintro e w1 ⟨a1, c1, rfl, ho1, hb1⟩
  simp only at ho1
  cases hz : (er == 0)
  · have n1 : (er != 0) = true := by simp [bne, hz]
    have ho := HE.out
    rw [hz, Bool.false_and, cond_false] at ho
    subst ho
    go_wp2
    go_ret2
    exact SplitPost.none hb1
  · have n1 : (er != 0) = false := by simp [bne, hz]
    cases hls : ls with
    | nil =>
      have ho := HE.out
      rw [hls, List.isEmpty_nil, Bool.not_true, Bool.false_and, Bool.and_false, cond_false] at ho
      subst ho; subst hls
      go_wp2
      go_ret2
      exact SplitPost.none hb1
    | cons x r =>
      rw [← hls]
      have hpos : 0 < ls.length := by rw [hls]; simp
      have hemp : ls.isEmpty = false := by rw [hls]; rfl
      have ho := HE.out
      rw [hz, hemp, Bool.not_false, Bool.true_and, Bool.true_and] at ho
      clear hls hemp
      have k2 := contains14_any a1 ls.length c1 ls w1 ho1.rd.2 (by omega) hl
      have HO := Lib.hid ho1; clear ho1
      have t0 : ((ls.length : Int) == 0) = false := by rw [beq_eq_false_iff_ne]; omega
      cases ha : ls.all entOk
      · rw [ha] at k2
        rw [ha, cond_false] at ho
        subst ho
        have K2 := Lib.hid k2; clear k2 ha
        go_wp2_with fail
        refine K2.out.mono ?_
        rintro e w2 ⟨rfl, hb2⟩
        go_wp2
        go_ret2
        exact SplitPost.none (bt hb1 hb2)
      · rw [ha] at k2
        rw [ha, cond_true] at ho
        subst ho
        have K2 := Lib.hid k2; clear k2 ha
        go_wp2_with fail
        refine K2.out.mono ?_
        rintro e w2 ⟨rfl, hb2⟩
        go_wp2
        go_ret2
        exact ⟨a1, c1, rfl, HO.out.below hb2, bt hb1 hb2⟩

set_option maxRecDepth 100000 in
set_option maxHeartbeats 4000000 in
theorem relist_any (s : ByteArray) (w : World) (hs : s.size ≤ 8000) :
    Calls Tryd.prog 9 #[.string s] w (SplitPost w (etagL s.data.toList)) := by
  have k1 := rsplit_any s 44 w (by omega)
  have htot := split_total 44 s.data.toList
  have hcn : (splitL 44 s.data.toList).1.length ≤ 64 := split_len s.data.toList
  rw [← Lib.size_eq] at htot
  have he : etagL s.data.toList = bif (splitL 44 s.data.toList).2 == 0 && (!(splitL 44 s.data.toList).1.isEmpty && (splitL 44 s.data.toList).1.all entOk) then ((splitL 44 s.data.toList).1, 0) else ([], 4) := rfl
  generalize etagL s.data.toList = out at *
  generalize splitL 44 s.data.toList = r at *
  obtain ⟨ls, er⟩ := r
  simp only at htot hcn he
  have K1 := Lib.hid k1; have HE := Lib.hid he; clear k1 he
  have hl : ∀ x ∈ ls, x.length ≤ 8000 := fun x hx => by have := total_mem hx; omega
  have HL := Lib.hid hl; clear hl
  go_enter Tryd.func9, Tryd.ntmps9
  go_wp2_with fail
  refine K1.out.mono ?_
  rintro e w1 ⟨a1, c1, rfl, ho1, hb1⟩
  simp only at ho1
  cases hz : (er == 0)
  · have n1 : (er != 0) = true := by simp [bne, hz]
    have ho := HE.out
    rw [hz, Bool.false_and, cond_false] at ho
    subst ho
    go_wp2
    go_ret2
    exact SplitPost.none hb1
  · have n1 : (er != 0) = false := by simp [bne, hz]
    cases hls : ls with
    | nil =>
      have ho := HE.out
      rw [hls, List.isEmpty_nil, Bool.not_true, Bool.false_and, Bool.and_false, cond_false] at ho
      subst ho; subst hls
      go_wp2
      go_ret2
      exact SplitPost.none hb1
    | cons x r =>
      rw [← hls]
      have hpos : 0 < ls.length := by rw [hls]; simp
      have hemp : ls.isEmpty = false := by rw [hls]; rfl
      have ho := HE.out
      rw [hz, hemp, Bool.not_false, Bool.true_and, Bool.true_and] at ho
      clear hls hemp HE
      have HO := Lib.hid ho1; have HOUT := Lib.hid ho; clear ho1 ho
      have t0 : ((ls.length : Int) == 0) = false := by rw [beq_eq_false_iff_ne]; omega
      have hb11 := Below.refl w1.heap.size w1
      go_wp2_with fail
      go_loopw [6] (fun i wr => ∃ k : Nat, k ≤ ls.length ∧ i = .int .i64 k ∧ Hid ((ls.take k).all entOk = true) ∧ Below w1.heap.size w1 wr) (fun i _ => ls.length - (intOf i).toNat)
      case atStart => exact ⟨0, Nat.zero_le _, rfl, Lib.hid rfl, hb11⟩
      case round =>
        clear hb11
        obtain ⟨k, hk, rfl, HA, hbw⟩ := hrel
        by_cases hlt : k < ls.length
        · obtain ⟨b, o, rfl, hl, c2⟩ := (HO.out.rd.2.below hbw).str_at (k := k) hlt
          have hv := HL.out ls[k] (List.getElem_mem _)
          have hbad : entOk ls[k] = false → Hid (out = ([], 4)) := by
            intro h
            refine Lib.hid ?_
            have : ls.all entOk = false := by rw [List.all_eq_false]; exact ⟨ls[k], List.getElem_mem _, by simp [h]⟩
            rw [HOUT.out, this]; rfl
          have hgood : entOk ls[k] = true → Hid ((ls.take (k + 1)).all entOk = true) := by
            intro h
            refine Lib.hid ?_
            rw [List.take_succ_eq_append_getElem hlt, List.all_append, HA.out]
            simp [h]
          generalize ls[k] = p at *
          have k1 := fun w => rparse14_any ⟨p.toArray⟩ w (by rw [Lib.size_eq]; exact hv)
          have HBAD := Lib.hid hbad; have HGOOD := Lib.hid hgood; clear hbad hgood HA
          have hdef : entOk p = (ent ⟨p.toArray⟩).right := rfl
          cases hq : entOk p
          · have hx : (ent ⟨p.toArray⟩).parse = .tuple #[.bool false, .string empt, .int .i64 4] := by unfold Ent.parse; rw [← hdef, hq]; rfl
            rw [hx] at k1
            have hf := HBAD.out hq
            have K1 := Lib.hid k1; clear k1 hq hx hdef
            go_wp2_with fail
            refine (K1.out _).mono ?_
            rintro e w2 ⟨rfl, hb2⟩
            go_wp2
            go_ret2
            rw [hf.out]
            exact SplitPost.none (bt (hb1.trans (hbw.mono hb1.size)) hb2)
          · have hx : (ent ⟨p.toArray⟩).parse = .tuple #[.bool (ent ⟨p.toArray⟩).weak, .string (ent ⟨p.toArray⟩).tag, .int .i64 0] := by unfold Ent.parse; rw [← hdef, hq]; rfl
            rw [hx] at k1
            have hf := HGOOD.out hq
            clear hx hdef
            generalize (ent ⟨p.toArray⟩).weak = wk at *
            generalize (ent ⟨p.toArray⟩).tag = tg at *
            have K1 := Lib.hid k1; clear k1 hq
            go_wp2_with fail
            refine (K1.out _).mono ?_
            rintro e w2 ⟨rfl, hb2⟩
            go_wp2
            go_roundw
            case rel => exact ⟨k + 1, by omega, by go_num, hf, bt hbw hb2⟩
            case measure => simp [intOf]; omega
        · have hke : k = ls.length := by omega
          subst hke
          have ha := HA.out
          rw [List.take_length] at ha
          have ho : out = (ls, 0) := by rw [HOUT.out, ha]; rfl
          subst ho
          clear ha
          go_wp2
          go_ret2
          exact ⟨a1, c1, rfl, (HO.out.below hbw), hb1.trans (hbw.mono hb1.size)⟩

theorem parse_form (x : Ent) : ∃ wk tg er, x.parse = .tuple #[.bool wk, .string tg, .int .i64 er] := by
  unfold Ent.parse
  cases x.right
  · exact ⟨_, _, _, rfl⟩
  · exact ⟨_, _, _, rfl⟩
theorem ent_no (a : ByteArray) (h : (ent a).right = false) : (ent a).weak = false := by
  unfold ent at *; split <;> simp_all

set_option maxHeartbeats 2000000 in
theorem rweak_any (a b : ByteArray) (w : World) (ha : a.size ≤ 8000) (hb : b.size ≤ 8000) :
    Calls Tryd.prog 14 #[.string a, .string b] w fun e w' => e = .returned (.bool ((ent a).same (ent b))) ∧ Below w.heap.size w w' := by
  have k1 := fun w => rparse14_any a w ha
  have k2 := fun w => rparse14_any b w hb
  generalize ent a = x at *
  generalize ent b = y at *
  obtain ⟨xw, xr, xt⟩ := x
  obtain ⟨yw, yr, yt⟩ := y
  unfold Ent.parse at k1 k2
  unfold Ent.same
  cases xr <;> cases yr <;> simp only [cond_true, cond_false] at k1 k2
  all_goals
    have K1 := Lib.hid k1; have K2 := Lib.hid k2; clear k1 k2
    go_enter Tryd.func14, Tryd.ntmps14
    go_wp2_with fail
    refine (K1.out _).mono ?_
    rintro e w1 ⟨rfl, hb1⟩
    go_wp2_with fail
    refine (K2.out _).mono ?_
    rintro e w2 ⟨rfl, hb2⟩
    go_wp2
    go_ret
    exact ⟨by simp [Lib.toList_data], bt hb1 hb2⟩
set_option maxHeartbeats 2000000 in
theorem rstrong_any (a b : ByteArray) (w : World) (ha : a.size ≤ 8000) (hb : b.size ≤ 8000) :
    Calls Tryd.prog 12 #[.string a, .string b] w fun e w' => e = .returned (.bool ((ent a).sure (ent b))) ∧ Below w.heap.size w w' := by
  have k1 := fun w => rparse14_any a w ha
  have k2 := fun w => rparse14_any b w hb
  have k3 := fun w => rweak_any a b w ha hb
  have n1 := ent_no a
  have n2 := ent_no b
  have hsr : (ent a).same (ent b) = true → (ent a).right = true ∧ (ent b).right = true := by
    intro h; unfold Ent.same at h; simp at h; exact h.1
  unfold Ent.sure
  generalize (ent a).same (ent b) = sm at *
  generalize ent a = x at *
  generalize ent b = y at *
  obtain ⟨xw, xr, xt⟩ := x
  obtain ⟨yw, yr, yt⟩ := y
  unfold Ent.parse at k1 k2
  have key : ∀ (xr yr sm xw yw : Bool), (xr = false → xw = false) → (yr = false → yw = false) → (sm = true → xr = true ∧ yr = true) → (xr = true ∧ yr = true) ∨ (sm = false ∧ (xr = false → xw = false) ∧ (yr = false → yw = false)) := by decide
  cases sm <;> cases xr <;> cases yr <;> simp only [cond_true, cond_false, Bool.true_eq_false, Bool.false_eq_true, forall_const, false_implies, and_self, and_false, and_true] at k1 k2 n1 n2 hsr
  all_goals
    cases xw <;> cases yw <;> first
      | exact absurd n1 (by decide)
      | exact absurd n2 (by decide)
      | (clear n1 n2 key
         have K1 := Lib.hid k1; have K2 := Lib.hid k2; have K3 := Lib.hid k3; clear k1 k2 k3
         go_enter Tryd.func12, Tryd.ntmps12
         go_wp2_with fail
         refine (K1.out _).mono ?_
         rintro e w1 ⟨rfl, hb1⟩
         go_wp2_with fail
         refine (K2.out _).mono ?_
         rintro e w2 ⟨rfl, hb2⟩
         first
           | (go_wp2_with fail
              refine (K3.out _).mono ?_
              rintro e w3 ⟨rfl, hb3⟩
              go_wp2
              go_ret
              exact ⟨rfl, bt (bt hb1 hb2) hb3⟩)
           | (go_wp2
              go_ret
              exact ⟨rfl, bt hb1 hb2⟩)
           | fail)
end Go.Proofs.YthnfmhjjpodhfaaDoor
