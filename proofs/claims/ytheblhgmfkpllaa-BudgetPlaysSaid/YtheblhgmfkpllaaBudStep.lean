/- BudgetPlays: the walks of Same and of the law's step. -/
import Derived.Test.YtheblhgmfkpllaaBudRefG
import Derived.Test.YtheblhgmfkpllaaBudMore
namespace Go.Proofs.Ytheblhgmfkpllaa
open Go.RowKit
set_option maxRecDepth 100000

theorem Rd.drewK {A : Option Addr} {n size : Nat} {xs : List Value} {w : World} (h : Rd A n size xs w) (q : Nat) : Rd A n size xs (w.drewN q) := h
set_option maxHeartbeats 8000000 in
theorem same18_any (A B : Option Addr) (c d : Nat) (ls : List (List UInt8)) (w : World) (ha : Rd A ls.length 1 (strsV ls) w) (hb : Rd B ls.length 1 (strsV ls) w) (hn : ls.length ≤ 100000) :
    Calls Try.prog 16 #[.slice A ls.length c, .slice B ls.length d] w fun e w' => e = .returned (.bool true) ∧ ∃ q, w' = w.drewN q := by
  obtain ⟨L, hL⟩ : ∃ L, ls.length = L := ⟨_, rfl⟩
  rw [hL]
  have HA := Lib.hid ha; have HB := Lib.hid hb; have HL := Lib.hid hL
  rw [hL] at hn
  clear ha hb hL
  go_enter Try.func16, Try.ntmps16
  go_wp2_with fail
  go_loopw [5] (fun i wr => ∃ k : Nat, k ≤ L ∧ i = .int .i64 k ∧ ∃ q, wr = w.drewN q) (fun i _ => L - (intV i).toNat)
  case atStart => exact ⟨0, Nat.zero_le _, rfl, 0, rfl⟩
  case round =>
    obtain ⟨k, hk, rfl, q, rfl⟩ := hrel
    by_cases hlt : k < L
    · have t1 : decide ((k : Int) < (L : Int)) = true := by simpa using hlt
      have hkl : k < ls.length := by rw [HL.out]; exact hlt
      obtain ⟨b1, o1, rfl, _, d1⟩ := HA.out.str_at hkl
      obtain ⟨b2, o2, rfl, _, d2⟩ := HB.out.str_at hkl
      generalize ls[k] = x at *
      have i1 : IntKind.i64.wrap (k : Int) = k := by rw [IntKind.wrap_i64]; omega
      have i2 : IntKind.i64.wrap ((k : Int) + 1) = ((k + 1 : Nat) : Int) := by rw [IntKind.wrap_i64]; omega
      clear hkl
      go_wp2
      go_region
      go_wp2
      go_roundw
      case rel => exact ⟨k + 1, hlt, rfl, q + 1, rfl⟩
      case measure => simp [intV]; omega
    · have t1 : decide ((k : Int) < (L : Int)) = false := by simpa using hlt
      go_wp2
      go_ret
      exact ⟨rfl, q, rfl⟩
/-- Both budgets stand, and keep the same. -/
structure Both (w : World) (fp : List Nat) (bl : Nat) (fr : List Nat) (rb : Nat) (n m : Int) (es : List Ent) : Prop where
  i : BQI w fp bl n m es
  r : BR w fr rb n m es
  ok : EsOk es
  apart : ∀ b ∈ rb :: fr, b ∉ fp
def StB (w w' : World) (fp : List Nat) (bl : Nat) (fr : List Nat) (rb : Nat) (n m : Int) (es : List Ent) : Prop :=
  ∃ fp' fr', Both w' fp' bl fr' rb n m es ∧ Touch (fp ++ rb :: fr) w w' ∧ (∀ b ∈ fp', b ∈ fp ∨ w.heap.size ≤ b) ∧ ∀ b ∈ fr', b ∈ fr ∨ w.heap.size ≤ b
theorem EsOk.ofBQ {w : World} {fp : List Nat} {bl : Nat} {n m : Int} {es : List Ent} (h : BQI w fp bl n m es) (hx : ∀ e ∈ es, ∃ x : Int, e.x = .int .i64 x) : EsOk es :=
  ⟨h.nd, fun e he => (h.sz e he).1, hx, by have := h.ends; omega⟩
theorem Both.below {w w' : World} {fp : List Nat} {bl : Nat} {fr : List Nat} {rb : Nat} {n m : Int} {es : List Ent} (h : Both w fp bl fr rb n m es) (hb : Below w.heap.size w w') : Both w' fp bl fr rb n m es := ⟨h.i.below hb, h.r.below hb, h.ok, h.apart⟩
theorem StB.go {w w1 w2 : World} {fp : List Nat} {bl : Nat} {fr : List Nat} {rb : Nat} {n m : Int} {es : List Ent} (h : StB w w1 fp bl fr rb n m es) (hb : Below w1.heap.size w1 w2) : StB w w2 fp bl fr rb n m es := by
  obtain ⟨fp', fr', h1, h2, h3, h4⟩ := h
  exact ⟨fp', fr', h1.below hb, h2.belowR (hb.mono h2.2.2.2.1), h3, h4⟩
theorem StB.ofA {w w1 : World} {o : Obj} {fp : List Nat} {bl : Nat} {fr : List Nat} {rb : Nat} {n m : Int} {es : List Ent} (h : StB (w.alloc o) w1 fp bl fr rb n m es) : StB w w1 fp bl fr rb n m es := by
  obtain ⟨fp', fr', h1, h2, h3, h4⟩ := h
  refine ⟨fp', fr', h1, ((Touch.refl _ w).alloc o).trans h2 (fun b hb => Or.inl hb), fun b hb => ?_, fun b hb => ?_⟩
  · rcases h3 b hb with h | h
    · exact Or.inl h
    · rw [alloc_sz] at h; exact Or.inr (by omega)
  · rcases h4 b hb with h | h
    · exact Or.inl h
    · rw [alloc_sz] at h; exact Or.inr (by omega)
/-- One behind the other. -/
theorem both_mid {w w1 : World} {fp fp1 : List Nat} {bl : Nat} {fr : List Nat} {rb : Nat} {n m : Int} {es : List Ent} (h : Both w fp bl fr rb n m es) (ht : Touch fp w w1) (hf : ∀ b ∈ fp1, b ∈ fp ∨ w.heap.size ≤ b) : BR w1 fr rb n m es ∧ ∀ b ∈ rb :: fr, b ∉ fp1 := by
  refine ⟨h.r.keep ht h.apart, fun b hb hb' => ?_⟩
  rcases hf b hb' with h' | h'
  · exact h.apart b hb h'
  · have := h.r.low b hb; omega
theorem both_end {w w1 w2 : World} {fp fp1 : List Nat} {bl : Nat} {fr : List Nat} {rb : Nat} {n m : Int} {es1 : List Ent} (h1 : BQI w1 fp1 bl n m es1) (hx : ∀ e ∈ es1, ∃ x : Int, e.x = .int .i64 x) (ht : Touch fp w w1) (hf : ∀ b ∈ fp1, b ∈ fp ∨ w.heap.size ≤ b) (ha : ∀ b ∈ rb :: fr, b ∉ fp1) (h2 : StR w1 w2 fr rb n m es1) : StB w w2 fp bl fr rb n m es1 := by
  obtain ⟨fr2, hr2, ht2, hf2⟩ := h2
  have hq2 : BQI w2 fp1 bl n m es1 := h1.keep ht2 (fun b hb hb' => ha b hb' hb)
  refine ⟨fp1, fr2, ⟨hq2, hr2, EsOk.ofBQ hq2 hx, fun b hb hb' => ?_⟩, ?_, hf, fun b hb => ?_⟩
  · rcases List.mem_cons.1 hb with rfl | hb
    · exact ha _ List.mem_cons_self hb'
    · rcases hf2 b hb with h' | h'
      · exact ha b (List.mem_cons_of_mem _ h') hb'
      · have := h1.low b hb'; omega
  · exact (ht.mono (fun b hb => Or.inl (List.mem_append_left _ hb))).trans ht2 (fun b hb => Or.inl (List.mem_append_right _ hb))
  · rcases hf2 b hb with h' | h'
    · exact Or.inl h'
    · exact Or.inr (Nat.le_trans ht.2.2.2.1 h')
theorem putR_any {w : World} {fr : List Nat} {rb : Nat} {n m : Int} {es : List Ent} (h : BR w fr rb n m es) (hes : EsOk es) (hn : 1 ≤ n ∧ n ≤ 4096) (hm : 1 ≤ m ∧ m ≤ 1073741824) (hln : (es.length : Int) ≤ n) (key : ByteArray) (s x0 : Int) :
    Calls Try.prog 31 #[.pointer (some ⟨rb, 0, none⟩), .string key, .int .i64 s, .int .i64 x0] w (PutRPost w fr rb n m (putE n m key s (.int .i64 x0) es)) := by
  by_cases hs : m < s
  · exact putR_big h hes hm.1 key s x0 hs
  · exact putR_small h hes hn hm hln key s x0 hs
theorem val_int {es : List Ent} (h : EsOk es) (key : ByteArray) : ∃ x : Int, valE (.int .i64 0) key es = .int .i64 x := by
  unfold valE
  cases hf : findE key es with
  | none => exact ⟨0, rfl⟩
  | some e =>
    unfold findE at hf
    exact h.x e (List.mem_of_find?_eq_some hf)
def actB (w : World) (T q : Nat) (key : ByteArray) (s x : Int) : Prop := w.heap[T]? = some (.cells #[.int .u8 q, .string key, .int .i64 s, .int .i64 x] 26 (0, 0))
set_option maxHeartbeats 16000000 in
theorem step_q {w : World} {fp : List Nat} {bl : Nat} {fr : List Nat} {rb : Nat} {n m : Int} {es : List Ent} (h : Both w fp bl fr rb n m es) (q : Nat) (key : ByteArray) (hkey : key.size ≤ maxLen) (s x : Int) :
    Calls Try.prog 12 #[.pointer (some ⟨bl, 0, none⟩), .pointer (some ⟨rb, 0, none⟩), .agg #[.int .u8 q, .string key, .int .i64 s, .int .i64 x]] w fun e w' => e = .returned (.bool true) ∧ StB w w' fp bl fr rb n m (doE n m (q % 4) key s (.int .i64 x) es) := by
  have hal := (Below.refl w.heap.size w).alloc (Nat.le_refl _) (.cells #[.int .u8 q, .string key, .int .i64 s, .int .i64 x] 26 (0, 0))
  have hA := heap_alloc_last w (.cells #[.int .u8 q, .string key, .int .i64 s, .int .i64 x] 26 (0, 0))
  have hAl : w.heap.size < (w.alloc (.cells #[.int .u8 q, .string key, .int .i64 s, .int .i64 x] 26 (0, 0))).heap.size := by rw [alloc_sz]; omega
  have h0 := h.below hal
  have hlowI := h.i.low
  have hlowR := h.r.low
  obtain ⟨c0, c1, c2, c3⟩ := act_cells hA
  have hends := h.i.ends
  have hnb : 1 ≤ n ∧ n ≤ 4096 := by omega
  have hmb : 1 ≤ m ∧ m ≤ 1073741824 := by omega
  obtain ⟨xv, hxv⟩ := val_int h.ok key
  have hz : zeI.x = .int .i64 0 := rfl
  have hxs := XInt.mk h.ok.x n m (q % 4) key s x
  obtain ⟨W, hW⟩ : ∃ W, w.alloc (.cells #[.int .u8 q, .string key, .int .i64 s, .int .i64 x] 26 (0, 0)) = W := ⟨_, rfl⟩
  obtain ⟨T, hT⟩ : ∃ T, w.heap.size = T := ⟨_, rfl⟩
  rw [hW, hT] at hA c0 c1 c2 c3
  rw [hW] at h0
  rw [hT, hW] at hAl
  rw [hT] at hlowI hlowR
  have hfin : ∀ w', StB W w' fp bl fr rb n m (doE n m (q % 4) key s (.int .i64 x) es) → StB w w' fp bl fr rb n m (doE n m (q % 4) key s (.int .i64 x) es) := fun w' h => by rw [← hW] at h; exact h.ofA
  have hkeep : ∀ w1, Touch fp W w1 → w1.heap[T]? = W.heap[T]? := fun w1 ht => ht.2.2.2.2 T hAl (fun hx => Nat.lt_irrefl _ (hlowI _ hx))
  have HFIN := Lib.hid hfin; have HW := Lib.hid hW; have HT := Lib.hid hT; have H0 := Lib.hid h0; have HA := Lib.hid hA; have HKEEP := Lib.hid hkeep; have HXS := Lib.hid hxs; have HENDS := Lib.hid hends
  clear hfin hW hT hA hkeep hxs hends hal h hAl hlowI hlowR
  have h4 : q % 4 < 4 := Nat.mod_lt _ (by decide)
  by_cases hq0 : q % 4 = 0
  · have hqq : ((q : Int) % 4) = 0 := by omega
    rw [hq0] at HFIN HXS
    have k1 := putI_q h0.i key hkey s x
    have kr := fun w1 fr1 (hb : BR w1 fr1 rb n m es) => putR_any hb h0.ok hnb hmb HENDS.out.1 key s x
    have hde : doE n m 0 key s (.int .i64 x) es = (putE n m key s (.int .i64 x) es).2 := rfl
    rw [hq0]
    rw [hde] at HFIN HXS
    rw [hde]
    have hlen9 : (putE n m key s (.int .i64 x) es).1.length ≤ 100000 := by
      have h9 := HENDS.out
      unfold putE
      split
      · split <;> simp
      · have := (evE_len n m (delE key es ++ [⟨key, max 0 s, .int .i64 x⟩])).1
        have h8 : (delE key es).length ≤ es.length := List.length_filter_le _ _
        rw [List.length_append, List.length_singleton] at this
        omega
    generalize putE n m key s (.int .i64 x) es = R at *
    have K1 := Lib.hid k1; have KR := Lib.hid kr
    clear k1 kr h0 hde
    go_enter Try.func12, Try.ntmps12
    go_wp2_with fail
    rw [HW.out, HT.out]
    (with_reducible refine K1.out.mono ?_)
    rintro y w1 ⟨a1, cap1, fp1, rfl, hO1, hq1, ht1, hf1, hg1⟩
    obtain ⟨hr1, hd1⟩ := both_mid H0.out ht1 hf1
    have kp := KR.out w1 fr hr1
    obtain ⟨c0, c1, c2, c3⟩ := act_cells ((HKEEP.out w1 ht1).trans HA.out)
    have KP := Lib.hid kp
    have H1 := Lib.hid (And.intro hq1 (And.intro ht1 (And.intro hf1 (And.intro hd1 (And.intro hO1 hr1)))))
    clear kp hq1 ht1 hf1 hd1 hO1 hr1 hg1
    go_wp2_with fail
    (with_reducible refine KP.out.mono ?_)
    rintro y w2 ⟨a2, cap2, rfl, hO2, hst2⟩
    have hend := both_end (fr := fr) H1.out.1 HXS.out H1.out.2.1 H1.out.2.2.1 H1.out.2.2.2.1 hst2
    have hR1 : OwnS W.heap.size (.slice a1 R.1.length cap1) (strs R.1) w2 := by
      obtain ⟨fr2, _, ht2, _⟩ := hst2
      refine H1.out.2.2.2.2.1.touch ht2 (fun b hb => Or.inl (H0.out.r.low b hb))
    have hsl : (strs R.1).length = R.1.length := by unfold strs; rw [List.length_map]
    rw [← hsl] at hR1 hO2 hlen9
    have ks := same18_any a1 a2 cap1 cap2 (strs R.1) w2 hR1.rd.2 hO2.rd.2 hlen9
    rw [hsl] at ks
    have KS := Lib.hid ks
    have HEND := Lib.hid hend
    clear ks hend hR1 hO2 hst2
    go_wp2_with fail
    (with_reducible refine KS.out.mono ?_)
    rintro y w3 ⟨rfl, q3, rfl⟩
    go_wp2
    go_ret
    exact ⟨rfl, (HFIN.out _ HEND.out).go ⟨rfl, rfl, rfl, Nat.le_refl _, fun _ _ => rfl⟩⟩
  by_cases hq1 : q % 4 = 1
  · have hqq : ((q : Int) % 4) = 1 := by omega
    rw [hq1] at HFIN HXS
    have k1 := getI_q h0.i key hkey
    have kr := fun w1 fr1 (hb : BR w1 fr1 rb n m es) => getR_any hb h0.ok key
    have hde : doE n m 1 key s (.int .i64 x) es = getE key es := rfl
    rw [hq1]
    rw [hde] at HFIN HXS
    rw [hde]
    rw [hz, hxv] at k1
    rw [hxv] at kr
    generalize getE key es = R at *
    generalize hasE key es = hv at *
    have K1 := Lib.hid k1; have KR := Lib.hid kr
    clear k1 kr h0 hde hxv
    go_enter Try.func12, Try.ntmps12
    go_wp2_with fail
    rw [HW.out, HT.out]
    (with_reducible refine K1.out.mono ?_)
    rintro y w1 ⟨rfl, fp1, hq1', ht1, hf1⟩
    obtain ⟨hr1, hd1⟩ := both_mid H0.out ht1 hf1
    have kp := KR.out w1 fr hr1
    obtain ⟨c0, c1, c2, c3⟩ := act_cells ((HKEEP.out w1 ht1).trans HA.out)
    have KP := Lib.hid kp
    have H1 := Lib.hid (And.intro hq1' (And.intro ht1 (And.intro hf1 hd1)))
    clear kp hq1' ht1 hf1 hd1 hr1
    go_wp2_with fail
    (with_reducible refine KP.out.mono ?_)
    rintro y w2 ⟨rfl, hst2⟩
    have hend := both_end (fr := fr) H1.out.1 HXS.out H1.out.2.1 H1.out.2.2.1 H1.out.2.2.2 hst2
    have HEND := Lib.hid hend
    clear hend hst2
    go_wp2
    go_ret
    exact ⟨rfl, HFIN.out _ HEND.out⟩
  by_cases hq2 : q % 4 = 2
  · have hqq : ((q : Int) % 4) = 2 := by omega
    rw [hq2] at HFIN
    have k1 := peekI_q h0.i key hkey
    have kr := peekR_any h0.r h0.ok key
    have hde : doE n m 2 key s (.int .i64 x) es = es := rfl
    rw [hq2]
    rw [hde] at HFIN
    rw [hde]
    rw [hz, hxv] at k1
    rw [hxv] at kr
    generalize hasE key es = hv at *
    have K1 := Lib.hid k1; have KR := Lib.hid kr
    clear k1 kr h0 hde hxv
    go_enter Try.func12, Try.ntmps12
    go_wp2_with fail
    rw [HW.out, HT.out]
    (with_reducible refine K1.out.mono ?_)
    rintro y w1 ⟨rfl, rfl⟩
    go_wp2_with fail
    (with_reducible refine KR.out.mono ?_)
    rintro y w1 ⟨rfl, rfl⟩
    go_wp2
    go_ret
    exact ⟨rfl, HFIN.out _ ⟨fp, fr, H0.out, Touch.refl _ _, fun _ h => Or.inl h, fun _ h => Or.inl h⟩⟩
  have hqq : ((q : Int) % 4) = 3 := by omega
  have hq3 : q % 4 = 3 := by omega
  rw [hq3] at HFIN HXS
  have k1 := dropI_q h0.i key hkey
  have kr := fun w1 fr1 (hb : BR w1 fr1 rb n m es) => dropR_any hb h0.ok key
  have hde : doE n m 3 key s (.int .i64 x) es = delE key es := rfl
  rw [hq3]
  rw [hde] at HFIN HXS
  rw [hde]
  generalize delE key es = R at *
  generalize hasE key es = hv at *
  have K1 := Lib.hid k1; have KR := Lib.hid kr
  clear k1 kr h0 hde hxv
  go_enter Try.func12, Try.ntmps12
  go_wp2_with fail
  rw [HW.out, HT.out]
  (with_reducible refine K1.out.mono ?_)
  rintro y w1 ⟨rfl, fp1, hq1', ht1, hf1⟩
  obtain ⟨hr1, hd1⟩ := both_mid H0.out ht1 hf1
  have kp := KR.out w1 fr hr1
  obtain ⟨c0, c1, c2, c3⟩ := act_cells ((HKEEP.out w1 ht1).trans HA.out)
  have KP := Lib.hid kp
  have H1 := Lib.hid (And.intro hq1' (And.intro ht1 (And.intro hf1 hd1)))
  clear kp hq1' ht1 hf1 hd1 hr1
  go_wp2_with fail
  (with_reducible refine KP.out.mono ?_)
  rintro y w2 ⟨rfl, hst2⟩
  have hend := both_end (fr := fr) H1.out.1 HXS.out H1.out.2.1 H1.out.2.2.1 H1.out.2.2.2 hst2
  have HEND := Lib.hid hend
  clear hend hst2
  go_wp2
  go_ret
  exact ⟨rfl, HFIN.out _ HEND.out⟩
end Go.Proofs.Ytheblhgmfkpllaa
