/- Joined out of the texts St11, St12, St13, StKnown (wip/tools/merge.py). -/
import Derived.Test.YtokhlmoanlcjmaaDoorPs3
import Derived.Lib.SlicesS
/- Store: what StoreKnown needs besides: rows made behind the store, accept, Names, stores that are none. -/
namespace Go.Proofs.YtokhlmoanlcjmaaDoor
open Go.RowKit
set_option maxRecDepth 100000

theorem StAt.kept {w w' : World} {sb : Nat} {fp : List Nat} {bl : Nat} {n m : Int} {es : List Ent} {put : Int} (h : StAt w sb fp bl n m es put) (ht : Touch (sb :: fp) w w') : Kept w w' := by
  refine ⟨ht.2.2.2.1, fun g cs T z h1 a b c => ?_⟩
  rcases Nat.lt_or_ge g w.heap.size with h' | h'
  · refine (ht.2.2.2.2 g h' (fun hm => ?_)).trans h1
    rcases List.mem_cons.1 hm with rfl | hm
    · rw [h.blk] at h1
      injection h1 with h1
      injection h1 with _ h1 _
      exact c h1.symm
    · rcases h.bud.kind g hm _ _ _ h1 with e | e
      · exact a e
      · exact b e
  · simp [Array.getElem?_eq_none h'] at h1
theorem live_putK {w0 w : World} {sb bl : Nat} {nn mm : Int} {es : List Ent} {put : Int} (h : Live w0 w sb bl nn mm es put) (key : List UInt8) (st mi asked got : Int) (re bo : ByteArray) (A V : Option Addr) (n c m d : Nat) (fl vl : List Fld) (hr : ∀ W, Kept w W → Rd A n 2 (fldsV fl) W) (hq : ∀ W, Kept w W → Rd V m 2 (fldsV vl) W) (hk : key.length ≤ 1000) (hn : fl.length ≤ 100) (hm : vl.length ≤ 100) (hs : sumF fl ≤ 10000) (hs2 : sumF vl ≤ 10000) (hre : re.size ≤ 10000) (hbo : bo.size ≤ 10000) (hp : 0 ≤ put ∧ put ≤ 1000) (ht : TabN w0) :
    Calls Tryd.prog 10 #[.pointer (some ⟨sb, 0, none⟩), .string ⟨key.toArray⟩, entV st re mi A n c bo asked got V m d] w fun e w' => ∃ x, NewX x key st mi asked got re bo fl vl (put + 1) ∧ e = .returned (.bool (hasE (nameB key vl) (putE nn mm (nameB key vl) (sizeZ ⟨key.toArray⟩ re bo fl vl) x es).2)) ∧ Live w0 w' sb bl nn mm (putE nn mm (nameB key vl) (sizeZ ⟨key.toArray⟩ re bo fl vl) x es).2 (put + 1) ∧ Kept w w' := by
  obtain ⟨fp, ha, h1, hf⟩ := h
  have hbw : ∀ W, Touch (sb :: fp) w W → Below w0.heap.size w0 W := fun W ht => h1.trans (ht.below hf h1.size)
  refine (put19_any ha key st mi asked got re bo A V n c m d fl vl (fun W ht => hr W (ha.kept ht)) (fun W ht => hq W (ha.kept ht)) hk hn hm hs hs2 hre hbo hp (fun W h' => ht.on (hbw W h'))).mono ?_
  rintro e w' ⟨a, ac, v, vc, rfl, hto⟩
  exact ⟨⟨⟨key.toArray⟩, st, re, mi, a, fl.length, ac, bo, asked, got, v, vl.length, vc, put + 1, fl, vl⟩, ⟨rfl, rfl, rfl, rfl, rfl, rfl, rfl, rfl, rfl, rfl⟩, rfl, Live.to h1 hf hto, hto.kept ha⟩
set_option maxHeartbeats 4000000 in
theorem findsK_any {w0 w : World} {sb bl : Nat} {nn mm : Int} {es : List Ent} {put : Int} (h : Live w0 w sb bl nn mm es put) (kk : List UInt8) (A : Option Addr) (n c : Nat) (xs : List Fld) (hr : Rd A n 2 (fldsV xs) w) (hn : n ≤ 100) (hs : ∀ f ∈ xs, f.1.length ≤ 10000 ∧ f.2.length ≤ 10000) (hk : kk.length ≤ 1000) (ht : TabN w0) :
    Calls Tryd.prog 16 #[.pointer (some ⟨sb, 0, none⟩), .string ⟨kk.toArray⟩, .slice A n c] w fun e w' => e = .returned (.string (findsB (bestL kk xs es))) ∧ Live w0 w' sb bl nn mm (getO (bestL kk xs es) es) put ∧ Kept w w' := by
  obtain ⟨fp, ha, h1, hf⟩ := h
  have k1 := find19_any ha kk A n c xs hr hn hs hk (fun W hb => ht.on (bt h1 hb))
  unfold FindPost at k1
  have K1 := Lib.hid k1; have H1 := Lib.hid h1; have HF := Lib.hid hf; have HA := Lib.hid ha
  clear k1 hr h1 hf ha
  cases hb : bestL kk xs es with
  | none =>
    rw [hb] at K1
    go_enter Tryd.func16, Tryd.ntmps16
    go_wp2_with fail
    (with_reducible refine K1.out.mono ?_)
    rintro e w1 ⟨rfl, hto⟩
    have hal := (Below.refl w1.heap.size w1).alloc (Nat.le_refl _) (.cells #[.int .i64 0, .string ⟨#[]⟩, .int .i64 0, .slice none 0 0, .string ⟨#[]⟩, .int .i64 0, .int .i64 0, .slice none 0 0] 33)
    have HL := Lib.hid ((Live.to H1.out HF.out hto).below hal); have HK := Lib.hid ((hto.kept HA.out).trans (Kept.of_below hal))
    clear hto hal
    unfold entV
    go_wp2
    go_ret
    exact ⟨rfl, HL.out, HK.out⟩
  | some b =>
    rw [hb] at K1
    go_enter Tryd.func16, Tryd.ntmps16
    go_wp2_with fail
    (with_reducible refine K1.out.mono ?_)
    rintro e w1 ⟨a, ac, v, vc, rfl, -, -, hto⟩
    have hal := (Below.refl w1.heap.size w1).alloc (Nat.le_refl _) (.cells #[.int .i64 b.x.st, .string b.x.re, .int .i64 b.x.mi, .slice a b.x.fl.length ac, .string b.x.bo, .int .i64 b.x.asked, .int .i64 b.x.got, .slice v b.x.vl.length vc] 33)
    have HL := Lib.hid ((Live.to H1.out HF.out hto).below hal); have HK := Lib.hid ((hto.kept HA.out).trans (Kept.of_below hal))
    clear hto hal
    unfold entV
    go_wp2
    go_ret
    exact ⟨rfl, HL.out, HK.out⟩
def accL : List UInt8 := [97, 99, 99, 101, 112, 116]
theorem accept_any (v : List UInt8) (w : World) :
    Calls Tryd.prog 22 #[.string ⟨v.toArray⟩] w fun e w' => ∃ a, e = .returned (.slice a 1 1) ∧ OwnF w.heap.size (.slice a 1 1) [(accL, v)] w' ∧ Below w.heap.size w w' := by
  go_enter Tryd.func22, Tryd.ntmps22
  go_wp2
  go_ret
  refine ⟨some ⟨w.heap.size, 0, none⟩, rfl, ⟨rfl, Or.inr ⟨w.heap.size, 1, #[.string ⟨accL.toArray⟩, .string ⟨v.toArray⟩], rfl, Nat.le_refl _, heap_new w _ _ rfl, Nat.le_refl _, by unfold maxLen; omega, rfl, rfl⟩⟩, (Below.refl w.heap.size w).alloc (Nat.le_refl _) _⟩

/-! Stores that are none: nil, and one that New did not make. -/
/-- A receiver that is no store. -/
def NoSt (w : World) (v : Value) : Prop := v = .pointer none ∨ ∃ b p, v = .pointer (some ⟨b, 0, none⟩) ∧ w.heap[b]? = some (.cells #[.pointer none, .int .i64 p] 57 (0, 0))
theorem NoSt.below {w w' : World} {v : Value} (h : NoSt w v) (hb : Below w.heap.size w w') : NoSt w' v := by
  rcases h with h | ⟨b, p, h, hc⟩
  · exact Or.inl h
  · exact Or.inr ⟨b, p, h, (hb.block b (of_heap hc 0).2.2).trans hc⟩
theorem is_no {w : World} {v : Value} (h : NoSt w v) : Calls Tryd.prog 27 #[v] w fun e w' => e = .returned (.bool false) ∧ w = w' := by
  rcases h with rfl | ⟨b, p, rfl, hc⟩
  · go_enter Tryd.func27, Tryd.ntmps27
    go_wp2
    go_ret
    exact ⟨rfl, rfl⟩
  · have c0 := (of_heap hc 0).1
    simp only [List.getElem?_toArray, List.getElem?_cons_zero] at c0
    clear hc
    go_enter Tryd.func27, Tryd.ntmps27
    go_wp2
    go_ret
    exact ⟨rfl, rfl⟩
theorem len_no {w : World} {v : Value} (h : NoSt w v) : Calls Tryd.prog 19 #[v] w fun e w' => e = .returned (.int .i64 0) ∧ w = w' := by
  have K1 := Lib.hid (is_no h)
  clear h
  go_enter Tryd.func19, Tryd.ntmps19
  go_wp2_with fail
  (with_reducible refine K1.out.mono ?_)
  rintro e w1 ⟨rfl, rfl⟩
  go_wp2
  go_ret
  exact ⟨rfl, rfl⟩
theorem bytes_no {w : World} {v : Value} (h : NoSt w v) : Calls Tryd.prog 20 #[v] w fun e w' => e = .returned (.int .i64 0) ∧ w = w' := by
  have K1 := Lib.hid (is_no h)
  clear h
  go_enter Tryd.func20, Tryd.ntmps20
  go_wp2_with fail
  (with_reducible refine K1.out.mono ?_)
  rintro e w1 ⟨rfl, rfl⟩
  go_wp2
  go_ret
  exact ⟨rfl, rfl⟩
theorem keys_no {w : World} {v : Value} (h : NoSt w v) : Calls Tryd.prog 18 #[v] w fun e w' => e = .returned (.slice none 0 0) ∧ w = w' := by
  have K1 := Lib.hid (is_no h)
  clear h
  go_enter Tryd.func18, Tryd.ntmps18
  go_wp2_with fail
  (with_reducible refine K1.out.mono ?_)
  rintro e w1 ⟨rfl, rfl⟩
  go_wp2
  go_ret
  exact ⟨rfl, rfl⟩
theorem names_no {w : World} {v : Value} (h : NoSt w v) (key : ByteArray) : Calls Tryd.prog 24 #[v, .string key] w fun e w' => e = .returned (.slice none 0 0) ∧ w = w' := by
  have K1 := Lib.hid (is_no h)
  clear h
  go_enter Tryd.func24, Tryd.ntmps24
  go_wp2_with fail
  (with_reducible refine K1.out.mono ?_)
  rintro e w1 ⟨rfl, rfl⟩
  go_wp2
  go_ret
  exact ⟨rfl, rfl⟩
theorem drop_no {w : World} {v : Value} (h : NoSt w v) (key : ByteArray) : Calls Tryd.prog 12 #[v, .string key] w fun e w' => e = .returned (.int .i64 0) ∧ w = w' := by
  have K1 := Lib.hid (is_no h)
  clear h
  go_enter Tryd.func12, Tryd.ntmps12
  go_wp2_with fail
  (with_reducible refine K1.out.mono ?_)
  rintro e w1 ⟨rfl, rfl⟩
  go_wp2
  go_ret
  exact ⟨rfl, rfl⟩
theorem forget_no {w : World} {v : Value} (h : NoSt w v) (k : Int) : Calls Tryd.prog 15 #[v, .int .i64 k] w fun e w' => e = .returned (.bool false) ∧ w = w' := by
  have K1 := Lib.hid (is_no h)
  clear h
  go_enter Tryd.func15, Tryd.ntmps15
  go_wp2_with fail
  (with_reducible refine K1.out.mono ?_)
  rintro e w1 ⟨rfl, rfl⟩
  go_wp2
  go_ret
  exact ⟨rfl, rfl⟩
theorem put_no {w : World} {v : Value} (h : NoSt w v) (key s : ByteArray) : Calls Tryd.prog 10 #[v, .string key, entV 0 ⟨#[]⟩ 0 none 0 0 s 0 0 none 0 0] w fun e w' => e = .returned (.bool false) ∧ Below w.heap.size w w' := by
  obtain ⟨W1, hW1⟩ : ∃ W1, w.alloc (.cells #[.int .i64 0, .string ⟨#[]⟩, .int .i64 0, .slice none 0 0, .string s, .int .i64 0, .int .i64 0, .slice none 0 0] 33) = W1 := ⟨_, rfl⟩
  have b1 : Below w.heap.size w W1 := by rw [← hW1]; exact (Below.refl w.heap.size w).alloc (Nat.le_refl _) _
  have K1 := Lib.hid (is_no (h.below b1)); have HW := Lib.hid hW1; have B1 := Lib.hid b1
  clear h hW1 b1
  unfold entV
  go_enter Tryd.func10, Tryd.ntmps10
  go_upto_region 1 with (fail)
  rw [HW.out]
  go_wp2_with fail
  (with_reducible refine K1.out.mono ?_)
  rintro e w1 ⟨rfl, rfl⟩
  go_wp2
  go_ret
  exact ⟨rfl, B1.out⟩
end Go.Proofs.YtokhlmoanlcjmaaDoor
/- Store: Remove and Find of none; New out of bounds; Names (printed by wip/tools/st12.py). -/
namespace Go.Proofs.YtokhlmoanlcjmaaDoor
open Go.RowKit
set_option maxRecDepth 100000

theorem remove_no {w : World} {v : Value} (h : NoSt w v) (key s : ByteArray) : Calls Tryd.prog 11 #[v, .string key, entV 0 ⟨#[]⟩ 0 none 0 0 s 0 0 none 0 0] w fun e w' => e = .returned (.bool false) ∧ Below w.heap.size w w' := by
  obtain ⟨W1, hW1⟩ : ∃ W1, w.alloc (.cells #[.int .i64 0, .string ⟨#[]⟩, .int .i64 0, .slice none 0 0, .string s, .int .i64 0, .int .i64 0, .slice none 0 0] 33) = W1 := ⟨_, rfl⟩
  have b1 : Below w.heap.size w W1 := by rw [← hW1]; exact (Below.refl w.heap.size w).alloc (Nat.le_refl _) _
  have K1 := Lib.hid (fun W (hb : Below W1.heap.size W1 W) => is_no ((h.below b1).below hb)); have HW := Lib.hid hW1; have B1 := Lib.hid b1
  clear h hW1 b1
  unfold entV
  go_enter Tryd.func11, Tryd.ntmps11
  go_upto_region 1 with (fail)
  rw [HW.out]
  refine wp_region_held_drew (S := (fun _ => True)) (by kernel_rfl) (trivial) (fun hHeld => ?_)
  refine wpAnyH_take (i := 0) (v := ?_) (by simp only [List.getElem?_toArray, List.getElem?_cons_zero]; exact rfl) (by kernel_rfl) (by kernel_rfl) (by kernel_rfl) (by intro _ _ _ h; exact h) (Or.inl ⟨by rfl, fun W hSw => ?_⟩) hHeld ?_
  rotate_left
  focus ((try dsimp only at hSw); first | (go_simp; done) | (go_simp; with_reducible rfl))
  try simp only [Act.put, List.setIfInBounds_toArray, List.set_cons_zero, List.set_cons_succ]
  refine wpAnyH_ready (rs := [1]) (by kernel_rfl) (by simp) (AllReadyH.cons (by simp only [List.getElem?_toArray, List.getElem?_cons_succ, List.getElem?_cons_zero]; exact rfl) (fun K hK => ?_) AllReadyH.nil)
  rw [if_pos (by rfl)]
  go_simp
  (with_reducible refine (K1.out _ (Below.refl _ _).drew).mono ?_); rintro e v1 ⟨rfl, rfl⟩; go_wp2_with fail
  refine hK.out _ _ (trivial) (fun hHeld => ?_)
  clear hK K
  try simp only [Act.put, List.setIfInBounds_toArray, List.set_cons_zero, List.set_cons_succ]
  refine wpAnyH_take (i := 2) (v := ?_) (by simp only [List.getElem?_toArray, List.getElem?_cons_succ, List.getElem?_cons_zero]; exact rfl) (by kernel_rfl) (by kernel_rfl) (by kernel_rfl) (by intro _ _ _ h; exact h) (Or.inl ⟨by rfl, fun W hSw => ?_⟩) hHeld ?_
  rotate_left
  focus ((try dsimp only at hSw); first | (go_simp; done) | (go_simp; with_reducible rfl))
  try simp only [Act.put, List.setIfInBounds_toArray, List.set_cons_zero, List.set_cons_succ]
  refine wpAnyH_take (i := 3) (v := undef) (by simp only [List.getElem?_toArray, List.getElem?_cons_succ, List.getElem?_cons_zero]; exact rfl) (by kernel_rfl) (by kernel_rfl) (by kernel_rfl) (by intro _ _ _ h; exact h) (Or.inr ⟨by rfl, rfl⟩) hHeld ?_
  try simp only [Act.put, List.setIfInBounds_toArray, List.set_cons_zero, List.set_cons_succ]
  refine wpAnyH_take (i := 4) (v := undef) (by simp only [List.getElem?_toArray, List.getElem?_cons_succ, List.getElem?_cons_zero]; exact rfl) (by kernel_rfl) (by kernel_rfl) (by kernel_rfl) (by intro _ _ _ h; exact h) (Or.inr ⟨by rfl, rfl⟩) hHeld ?_
  try simp only [Act.put, List.setIfInBounds_toArray, List.set_cons_zero, List.set_cons_succ]
  refine wpAnyH_take (i := 5) (v := undef) (by simp only [List.getElem?_toArray, List.getElem?_cons_succ, List.getElem?_cons_zero]; exact rfl) (by kernel_rfl) (by kernel_rfl) (by kernel_rfl) (by intro _ _ _ h; exact h) (Or.inr ⟨by rfl, rfl⟩) hHeld ?_
  try simp only [Act.put, List.setIfInBounds_toArray, List.set_cons_zero, List.set_cons_succ]
  refine wpAnyH_take (i := 6) (v := undef) (by simp only [List.getElem?_toArray, List.getElem?_cons_succ, List.getElem?_cons_zero]; exact rfl) (by kernel_rfl) (by kernel_rfl) (by kernel_rfl) (by intro _ _ _ h; exact h) (Or.inr ⟨by rfl, rfl⟩) hHeld ?_
  try simp only [Act.put, List.setIfInBounds_toArray, List.set_cons_zero, List.set_cons_succ]
  refine wpAnyH_take (i := 7) (v := undef) (by simp only [List.getElem?_toArray, List.getElem?_cons_succ, List.getElem?_cons_zero]; exact rfl) (by kernel_rfl) (by kernel_rfl) (by kernel_rfl) (by intro _ _ _ h; exact h) (Or.inr ⟨by rfl, rfl⟩) hHeld ?_
  try simp only [Act.put, List.setIfInBounds_toArray, List.set_cons_zero, List.set_cons_succ]
  refine wpAnyH_take (i := 8) (v := undef) (by simp only [List.getElem?_toArray, List.getElem?_cons_succ, List.getElem?_cons_zero]; exact rfl) (by kernel_rfl) (by kernel_rfl) (by kernel_rfl) (by intro _ _ _ h; exact h) (Or.inr ⟨by rfl, rfl⟩) hHeld ?_
  try simp only [Act.put, List.setIfInBounds_toArray, List.set_cons_zero, List.set_cons_succ]
  refine wpAnyH_take (i := 9) (v := undef) (by simp only [List.getElem?_toArray, List.getElem?_cons_succ, List.getElem?_cons_zero]; exact rfl) (by kernel_rfl) (by kernel_rfl) (by kernel_rfl) (by intro _ _ _ h; exact h) (Or.inr ⟨by rfl, rfl⟩) hHeld ?_
  try simp only [Act.put, List.setIfInBounds_toArray, List.set_cons_zero, List.set_cons_succ]
  refine wpAnyH_take (i := 10) (v := undef) (by simp only [List.getElem?_toArray, List.getElem?_cons_succ, List.getElem?_cons_zero]; exact rfl) (by kernel_rfl) (by kernel_rfl) (by kernel_rfl) (by intro _ _ _ h; exact h) (Or.inr ⟨by rfl, rfl⟩) hHeld ?_
  try simp only [Act.put, List.setIfInBounds_toArray, List.set_cons_zero, List.set_cons_succ]
  refine wpAnyH_take (i := 11) (v := undef) (by simp only [List.getElem?_toArray, List.getElem?_cons_succ, List.getElem?_cons_zero]; exact rfl) (by kernel_rfl) (by kernel_rfl) (by kernel_rfl) (by intro _ _ _ h; exact h) (Or.inr ⟨by rfl, rfl⟩) hHeld ?_
  try simp only [Act.put, List.setIfInBounds_toArray, List.set_cons_zero, List.set_cons_succ]
  refine wpAnyH_take (i := 12) (v := ?_) (by simp only [List.getElem?_toArray, List.getElem?_cons_succ, List.getElem?_cons_zero]; exact rfl) (by kernel_rfl) (by kernel_rfl) (by kernel_rfl) (by intro _ _ _ h; exact h) (Or.inl ⟨by rfl, fun W hSw => ?_⟩) hHeld ?_
  rotate_left
  focus ((try dsimp only at hSw); first | (go_simp; done) | (go_simp; with_reducible rfl))
  try simp only [Act.put, List.setIfInBounds_toArray, List.set_cons_zero, List.set_cons_succ]
  refine wpAnyH_take (i := 13) (v := ?_) (by simp only [List.getElem?_toArray, List.getElem?_cons_succ, List.getElem?_cons_zero]; exact rfl) (by kernel_rfl) (by kernel_rfl) (by kernel_rfl) (by intro _ _ _ h; exact h) (Or.inl ⟨by rfl, fun W hSw => ?_⟩) hHeld ?_
  rotate_left
  focus ((try dsimp only at hSw); first | (go_simp; done) | (go_simp; with_reducible rfl))
  try simp only [Act.put, List.setIfInBounds_toArray, List.set_cons_zero, List.set_cons_succ]
  refine wpAnyH_done (by kernel_rfl) ?_ _
  clear hHeld
  go_wp2
  go_ret
  exact ⟨rfl, B1.out.drew⟩
set_option maxHeartbeats 4000000 in
theorem find_no {w : World} {v : Value} (h : NoSt w v) (key : ByteArray) (A : Option Addr) (n c : Nat) : Calls Tryd.prog 13 #[v, .string key, .slice A n c] w fun e w' => e = .returned (.tuple #[entV 0 ⟨#[]⟩ 0 none 0 0 ⟨#[]⟩ 0 0 none 0 0, .bool false]) ∧ Below w.heap.size w w' := by
  obtain ⟨W1, hW1⟩ : ∃ W1, w.alloc (.cells #[.int .i64 0, .string ⟨#[]⟩, .int .i64 0, .slice none 0 0, .string ⟨#[]⟩, .int .i64 0, .int .i64 0, .slice none 0 0] 33) = W1 := ⟨_, rfl⟩
  have b1 : Below w.heap.size w W1 := by rw [← hW1]; exact (Below.refl w.heap.size w).alloc (Nat.le_refl _) _
  have xr0 : W1.heap[w.heap.size]? = some (.cells #[.int .i64 0, .string ⟨#[]⟩, .int .i64 0, .slice none 0 0, .string ⟨#[]⟩, .int .i64 0, .int .i64 0, .slice none 0 0] 33 (0, 0)) := by rw [← hW1]; exact heap_new w _ _ rfl
  have k0 := (of_heap xr0 0).1; have k1 := (of_heap xr0 1).1; have k2 := (of_heap xr0 2).1; have k3 := (of_heap xr0 3).1; have k4 := (of_heap xr0 4).1; have k5 := (of_heap xr0 5).1; have k6 := (of_heap xr0 6).1; have k7 := (of_heap xr0 7).1
  have j0 := (of_heap xr0 0).2.1; have j1 := (of_heap xr0 1).2.1; have j2 := (of_heap xr0 2).2.1; have j3 := (of_heap xr0 3).2.1; have j4 := (of_heap xr0 4).2.1; have j5 := (of_heap xr0 5).2.1; have j6 := (of_heap xr0 6).2.1; have j7 := (of_heap xr0 7).2.1
  simp only [List.getElem?_toArray, List.getElem?_cons_succ, List.getElem?_cons_zero] at k0 k1 k2 k3 k4 k5 k6 k7
  have K1 := Lib.hid (is_no (h.below b1)); have HW := Lib.hid hW1; have B1 := Lib.hid b1
  clear h hW1 b1 xr0
  go_enter Tryd.func13, Tryd.ntmps13
  go_upto_region 1 with (fail)
  rw [HW.out]
  go_wp2_with fail
  (with_reducible refine K1.out.mono ?_)
  rintro e w1 ⟨rfl, rfl⟩
  go_wp2_with fail
  refine bodyPost_ret_by (v := .tuple #[entV 0 ⟨#[]⟩ 0 none 0 0 ⟨#[]⟩ 0 0 none 0 0, .bool false]) ?_ rfl ?_
  · rw [results_cell_tmp rfl]
    go_simp
    rfl
  · exact ⟨rfl, ((((((((B1.out.setCell (p := ⟨w.heap.size, 0, none⟩) (Nat.le_refl _) (.int .i64 0)).setCell (p := ⟨w.heap.size, 1, none⟩) (Nat.le_refl _) (.string ⟨#[]⟩)).setCell (p := ⟨w.heap.size, 2, none⟩) (Nat.le_refl _) (.int .i64 0)).setCell (p := ⟨w.heap.size, 3, none⟩) (Nat.le_refl _) (.slice none 0 0)).setCell (p := ⟨w.heap.size, 4, none⟩) (Nat.le_refl _) (.string ⟨#[]⟩)).setCell (p := ⟨w.heap.size, 5, none⟩) (Nat.le_refl _) (.int .i64 0)).setCell (p := ⟨w.heap.size, 6, none⟩) (Nat.le_refl _) (.int .i64 0)).setCell (p := ⟨w.heap.size, 7, none⟩) (Nat.le_refl _) (.slice none 0 0))⟩
theorem newI_bad (n m : Int) (w : World) (h : n < 1 ∨ 4096 < n ∨ m < 1) :
    Calls Tryd.prog 26 #[.int .i64 n, .int .i64 m] w fun x w' => x = .returned (.pointer none) ∧ w = w' := by
  by_cases h1 : n < 1
  · have t1 : decide (n < 1) = true := by simpa using h1
    go_enter Tryd.func26, Tryd.ntmps26
    go_wp2
    go_ret
    exact ⟨rfl, rfl⟩
  have t1 : decide (n < 1) = false := by simpa using h1
  by_cases h2 : 4096 < n
  · have t2 : decide (n > 4096) = true := by simpa using h2
    go_enter Tryd.func26, Tryd.ntmps26
    go_wp2
    go_ret
    exact ⟨rfl, rfl⟩
  have t2 : decide (n > 4096) = false := by simpa using h2
  have h3 : m < 1 := by omega
  have t3 : decide (m < 1) = true := by simpa using h3
  go_enter Tryd.func26, Tryd.ntmps26
  go_wp2
  go_ret
  exact ⟨rfl, rfl⟩
theorem new_bad (n m : Int) (w : World) (h : n < 1 ∨ 4096 < n ∨ m < 1) :
    Calls Tryd.prog 7 #[.int .i64 n, .int .i64 m] w fun x w' => x = .returned (.pointer none) ∧ w = w' := by
  have K1 := Lib.hid (newI_bad n m w h)
  clear h
  go_enter Tryd.func7, Tryd.ntmps7
  go_wp2_with fail
  (with_reducible refine K1.out.mono ?_)
  rintro e w1 ⟨rfl, rfl⟩
  go_wp2
  go_ret
  exact ⟨rfl, rfl⟩

/-! Names. -/
def nmF (l : List (List UInt8)) (f : Fld) : List (List UInt8) := if l.contains f.1 then l else l ++ [f.1]
def nmE (kk : List UInt8) (l : List (List UInt8)) (e : Ent) : List (List UInt8) := if e.x.key.data.toList == kk then e.x.vl.foldl nmF l else l
def namesL (kk : List UInt8) (es : List Ent) : List (List UInt8) := es.foldl (nmE kk) []
theorem contains_own {B : Nat} {ls : List (List UInt8)} {a : Option Addr} {n c : Nat} {w : World} (h : OwnS B (.slice a n c) ls w) (hl : ls.length ≤ 1000000) (x : List UInt8) :
    Calls Tryd.prog 43 #[.slice a n c, .string ⟨x.toArray⟩] w fun e w' => e = .returned (.bool (ls.contains x)) ∧ w' = w := by
  obtain ⟨rfl, hr⟩ := h.rd
  rcases Nat.eq_zero_or_pos ls.length with h0 | h0
  · have : ls = [] := List.eq_nil_of_length_eq_zero h0
    subst this
    exact Tryd.slices_Contains_string_empty a c _ w
  · obtain ⟨b, o, rfl, hb, hc⟩ := hr.2 h0
    have k := Tryd.slices_Contains_string b o ls.length c (ls.map fun l => (⟨l.toArray⟩ : ByteArray)) ⟨x.toArray⟩ w (by simp) (by omega) (fun j hj => by
      have hj2 : j < ls.length := by simpa using hj
      rw [hc j (.string ⟨(ls[j]).toArray⟩) (by simp [strsV, hj2])]
      simp [List.getD, hj2])
    have e : Lib.containsS ((ls.map fun l => (⟨l.toArray⟩ : ByteArray)).take ls.length) ⟨x.toArray⟩ = ls.contains x := by
      rw [List.take_of_length_le (by simp), Bool.eq_iff_iff, Lib.containsS_iff, List.contains_iff_mem, List.mem_map]
      constructor
      · rintro ⟨l, hl, e⟩
        have : l = x := by
          have := congrArg (fun b : ByteArray => b.data.toList) e
          simpa using this
        rw [← this]; exact hl
      · intro hx
        exact ⟨x, hx, rfl⟩
    rw [e] at k
    exact k
end Go.Proofs.YtokhlmoanlcjmaaDoor
/- Store: the walk of Names (printed by wip/tools/st13.py). -/
namespace Go.Proofs.YtokhlmoanlcjmaaDoor
open Go.RowKit
set_option maxRecDepth 100000

def nmG (b : Bool) (l : List (List UInt8)) (f : Fld) : List (List UInt8) := if b then nmF l f else l
theorem nmG_fold (b : Bool) : ∀ (vl : List Fld) (l : List (List UInt8)), vl.foldl (nmG b) l = if b then vl.foldl nmF l else l := by
  intro vl
  induction vl with
  | nil => intro l; cases b <;> rfl
  | cons f t ih =>
    intro l
    rw [List.foldl_cons, ih]
    cases b <;> rfl
theorem nmG_len (b : Bool) (l : List (List UInt8)) (f : Fld) : (nmG b l f).length ≤ l.length + 1 := by
  unfold nmG nmF
  split
  · split
    · omega
    · simp
  · omega
theorem nmG_fold_len (b : Bool) : ∀ (vl : List Fld) (l : List (List UInt8)), (vl.foldl (nmG b) l).length ≤ l.length + vl.length := by
  intro vl
  induction vl with
  | nil => intro l; simp
  | cons f t ih =>
    intro l
    rw [List.foldl_cons]
    have h1 := ih (nmG b l f)
    have h2 := nmG_len b l f
    rw [List.length_cons]; omega
set_option maxHeartbeats 16000000 in
theorem names19_any {w : World} {sb : Nat} {fp : List Nat} {bl : Nat} {n m : Int} {es : List Ent} {put : Int} (h : StAt w sb fp bl n m es put) (kk : List UInt8) :
    Calls Tryd.prog 24 #[.pointer (some ⟨sb, 0, none⟩), .string ⟨kk.toArray⟩] w (TextsPost w (namesL kk es)) := by
  have c0 := (of_heap h.blk 0).1
  have z0 := h.lt
  simp only [List.getElem?_toArray, List.getElem?_cons_zero] at c0
  unfold ptr at c0
  have hlen : es.length ≤ 4096 := by have := h.bud.ends; omega
  have hkm := h.bud.sz
  have hpk := fun (k : Nat) (hk : k < es.length) (W : World) (hb : Below w.heap.size w W) => peekI_q (h.bud.below hb) es[k].key (hkm _ (List.getElem_mem hk)).2
  have hfk := fun (k : Nat) (hk : k < es.length) => find_at h.bud.nd hk
  have hgd := fun (k : Nat) (hk : k < es.length) => (h.good _ (List.getElem_mem hk)).1
  have hsn : ∀ k (hk : k < es.length), namesL kk (es.take (k + 1)) = es[k].x.vl.foldl (nmG (es[k].x.key.data.toList == kk)) (namesL kk (es.take k)) := fun k hk => by
    unfold namesL
    rw [List.take_succ_eq_append_getElem hk, List.foldl_append, nmG_fold]
    rfl
  have hall : namesL kk (es.take es.length) = namesL kk es := by rw [List.take_length]
  have h00 : namesL kk (es.take 0) = [] := rfl
  have K1 := Lib.hid (is19_any h)
  have K2 := Lib.hid (keysI_q h.bud)
  have KP := Lib.hid hpk; have KF := Lib.hid hfk; have KG := Lib.hid hgd; have HSN := Lib.hid hsn; have HALL := Lib.hid hall; have H00 := Lib.hid h00
  clear h hkm hpk hfk hgd hsn hall h00
  generalize namesL kk es = tot at *
  go_enter Tryd.func24, Tryd.ntmps24
  go_wp2_with fail
  (with_reducible refine K1.out.mono ?_)
  rintro e w1 ⟨rfl, rfl⟩
  go_wp2_with fail
  (with_reducible refine K2.out.mono ?_)
  rintro e w1 ⟨ka, kc, rfl, hO, hb1⟩
  have hRK := hO.rd.2
  have hkl : (strs (es.map (·.key))).length = es.length := by unfold strs; simp
  have HRK := Lib.hid hRK; have HKL := Lib.hid hkl
  have d0 : w1.cell? ⟨sb, 0, none⟩ = some (.pointer (some ⟨bl, 0, none⟩)) := (hb1.cell (p := ⟨sb, 0, none⟩) z0).trans c0
  clear hO hRK K1 K2
  rw [hkl]
  clear hkl
  go_wp2_with fail
  go_loopw [21, 5] (fun i out wr => ∃ k : Nat, k ≤ es.length ∧ i = .int .i64 k ∧ Hid (OwnS w1.heap.size out (namesL kk (es.take k)) wr) ∧ (namesL kk (es.take k)).length ≤ 100 * k ∧ Below w1.heap.size w1 wr) (fun i _ _ => es.length - (intOf i).toNat)
  case atStart => exact ⟨0, Nat.zero_le _, rfl, by rw [H00.out]; exact Lib.hid (OwnS.nil _ _), by rw [H00.out]; simp, Below.refl _ _⟩
  case round =>
    obtain ⟨k, hk, rfl, HO, hln, hbw⟩ := hrel
    by_cases hlt : k < es.length
    · obtain ⟨b, o, rfl, hl, e1⟩ := (HRK.out.below hbw).str_at (k := k) (by rw [HKL.out]; exact hlt)
      have hst : (strs (es.map (·.key)))[k]'(by rw [HKL.out]; exact hlt) = es[k].key.data.toList := by unfold strs; simp
      rw [hst, str_of] at e1
      have d1 := (hbw.cell (p := ⟨sb, 0, none⟩) (Nat.lt_of_lt_of_le z0 hb1.size)).trans d0
      have kp := KP.out k hlt wr (bt hb1 hbw)
      unfold valE hasE at kp
      rw [KF.out k hlt] at kp
      have hgd := KG.out k hlt
      have hsn := HSN.out k hlt
      generalize namesL kk (es.take k) = l0 at *
      generalize es[k] = ex at *
      unfold Hv.val at kp
      obtain ⟨y, hy⟩ : ∃ y : List UInt8, ex.x.key = ⟨y.toArray⟩ := ⟨ex.x.key.data.toList, (str_back ex.x.key).symm⟩
      have hy2 : ex.x.key.data.toList = y := by rw [hy]
      rw [hy] at kp
      rw [hy2] at hsn
      have hvl := hgd.vl.1
      have K3 := Lib.hid kp; have HSN2 := Lib.hid hsn; have HGD := Lib.hid hgd
      clear kp hsn hst hgd
      go_wp2_with fail
      (with_reducible refine K3.out.mono ?_)
      rintro e w5 ⟨rfl, hb5⟩
      obtain ⟨W6, hW6⟩ : ∃ W6, w5.alloc (.cells #[.string ⟨y.toArray⟩, .int .i64 ex.x.st, .string ex.x.re, .int .i64 ex.x.mi, .slice ex.x.fA ex.x.fn ex.x.fc, .string ex.x.bo, .int .i64 ex.x.asked, .int .i64 ex.x.got, .slice ex.x.vA ex.x.vn ex.x.vc, .int .i64 ex.x.num] 60) = W6 := ⟨_, rfl⟩
      have b6 : Below w5.heap.size w5 W6 := by rw [← hW6]; exact (Below.refl _ _).alloc (Nat.le_refl _) _
      have x6 : W6.heap[w5.heap.size]? = some (.cells #[.string ⟨y.toArray⟩, .int .i64 ex.x.st, .string ex.x.re, .int .i64 ex.x.mi, .slice ex.x.fA ex.x.fn ex.x.fc, .string ex.x.bo, .int .i64 ex.x.asked, .int .i64 ex.x.got, .slice ex.x.vA ex.x.vn ex.x.vc, .int .i64 ex.x.num] 60 (0, 0)) := by rw [← hW6]; exact heap_new w5 _ _ rfl
      have ho6 := (HO.out.below hb5).below b6
      have hsep : ∀ v : Value, ∀ g, OwnS w1.heap.size v l0 w5 → v.ownBlock = some g → g ≠ w5.heap.size := fun v g hv hg => by have := (World.ownsRow.lt hv g hg).2; omega
      have hs5 := fun g => hsep _ g (HO.out.below hb5)
      have hbw6 := bt (bt hbw hb5) b6
      have g8 := (of_heap x6 8).1
      simp only [List.getElem?_toArray, List.getElem?_cons_succ, List.getElem?_cons_zero] at g8
      have HW6 := Lib.hid hW6; have X6 := Lib.hid x6; have HO6 := Lib.hid ho6; have HS5 := Lib.hid hs5
      clear hW6 x6 ho6 hs5 hsep HO K3 b6
      have hb15 := bt hbw hb5
      clear hb5
      have HVN := Lib.hid HGD.out.v.rd.1
      go_upto_region 9 with (fail)
      rw [HW6.out]
      have hv6 := fun W (hb : Below w1.heap.size w1 W) => (HGD.out.v.below (bt hb1 hb)).rd.2
      have HV6 := Lib.hid hv6
      clear hv6
      have hbb : ∃ bb, (y == kk) = bb := ⟨_, rfl⟩
      obtain ⟨bb, hbb⟩ := hbb
      rw [hbb] at HSN2
      have hfs : ∀ j (h : j < ex.x.vl.length), (ex.x.vl.take (j + 1)).foldl (nmG bb) l0 = nmG bb ((ex.x.vl.take j).foldl (nmG bb) l0) ex.x.vl[j] := fun j h => by
        rw [List.take_succ_eq_append_getElem h, List.foldl_append]; rfl
      have hfl : ∀ j, ((ex.x.vl.take j).foldl (nmG bb) l0).length ≤ 100 * k + 100 := fun j => by
        have := nmG_fold_len bb (ex.x.vl.take j) l0
        rw [List.length_take] at this
        omega
      have hfe : (ex.x.vl.take ex.x.vl.length).foldl (nmG bb) l0 = ex.x.vl.foldl (nmG bb) l0 := by rw [List.take_length]
      have hf0 : (ex.x.vl.take 0).foldl (nmG bb) l0 = l0 := rfl
      have hfin : (ex.x.vl.foldl (nmG bb) l0).length ≤ 100 * (k + 1) := by
        have := nmG_fold_len bb ex.x.vl l0
        omega
      have HFS := Lib.hid hfs; have HFL := Lib.hid hfl; have HFE := Lib.hid hfe; have HF0 := Lib.hid hf0; have HFIN := Lib.hid hfin
      clear hfs hfl hfe hf0 hfin
      have hzb : w5.heap.size < W6.heap.size := (of_heap X6.out 0).2.2
      have X60 : Hid (W6.cell? ⟨w5.heap.size, 0, none⟩ = some (.string ⟨y.toArray⟩)) := Lib.hid (of_heap X6.out 0).1
      go_loopw [38, 5] (fun i out wi => ∃ j : Nat, j ≤ ex.x.vl.length ∧ i = .int .i64 j ∧ Hid (OwnS w1.heap.size out ((ex.x.vl.take j).foldl (nmG bb) l0) wi) ∧ (∀ g, out.ownBlock = some g → g ≠ w5.heap.size) ∧ Hid (wi.cell? ⟨w5.heap.size, 0, none⟩ = some (.string ⟨y.toArray⟩)) ∧ W6.heap.size ≤ wi.heap.size ∧ Below w1.heap.size w1 wi) (fun i _ _ => ex.x.vl.length - (intOf i).toNat)
      case atStart => exact ⟨0, Nat.zero_le _, rfl, by rw [HF0.out]; exact HO6, HS5.out, X60, Nat.le_refl _, hbw6⟩
      case round =>
        obtain ⟨j, hj, rfl, HOj, hsj, HXj, hszj, hbj⟩ := hrel
        by_cases hjl : j < ex.x.vl.length
        · obtain ⟨b2, o2, hA2, hl2, f1, f2⟩ := (HV6.out wr hbj).fld_at (k := j) hjl
          have hfs := HFS.out j hjl
          have hfl := HFL.out j
          have hlen1 : ex.x.vl[j].1.length ≤ 1000000 := by
            have h1 := HGD.out.vl.2
            have h2 := sumF_mem (List.getElem_mem hjl)
            omega
          generalize ex.x.vl[j] = f at *
          obtain ⟨p1, p2⟩ := f
          simp only at f1 f2 hlen1
          obtain ⟨oa, oc, rfl⟩ := HOj.out.shape
          have v1 : (0 : Int) ≤ (j : Int) := by omega
          have v2 : (j : Int) < (ex.x.vn : Int) := by have := HVN.out; omega
          have v3 : decide ((j : Int) < (ex.x.vn : Int)) = true := by simpa using v2
          obtain ⟨W7, hW7⟩ : ∃ W7, wr.alloc (.cells #[.string ⟨p1.toArray⟩, .string ⟨p2.toArray⟩] 62) = W7 := ⟨_, rfl⟩
          have b7 : Below wr.heap.size wr W7 := by rw [← hW7]; exact (Below.refl _ _).alloc (Nat.le_refl _) _
          have x7 : W7.heap[wr.heap.size]? = some (.cells #[.string ⟨p1.toArray⟩, .string ⟨p2.toArray⟩] 62 (0, 0)) := by rw [← hW7]; exact heap_new wr _ _ rfl
          have g0 := (b7.cell (p := ⟨w5.heap.size, 0, none⟩) (by show w5.heap.size < wr.heap.size; omega)).trans HXj.out
          have ho7 := HOj.out.below b7
          have hb7 := bt hbj b7
          have hz7 : W6.heap.size ≤ W7.heap.size := Nat.le_trans hszj b7.size
          have m0 := (of_heap x7 0).1
          simp only [List.getElem?_toArray, List.getElem?_cons_zero] at m0
          have HW7 := Lib.hid hW7; have XH := Lib.hid g0; have X7 := Lib.hid x7; have HO7 := Lib.hid ho7
          have kct := contains_own ho7 (by omega) p1
          have KCT := Lib.hid kct
          clear hW7 x7 ho7 HOj HXj kct
          generalize (ex.x.vl.take j).foldl (nmG bb) l0 = lj at *
          simp only [hA2]
          go_upto_region 11 with (fail)
          rw [HW7.out]
          cases bb
          · have HO8 : Hid (OwnS w1.heap.size (.slice oa lj.length oc) ((ex.x.vl.take (j + 1)).foldl (nmG false) l0) W7) := by rw [hfs]; exact HO7
            go_wp2
            go_roundw
            case rel => exact ⟨j + 1, by omega, by go_num, HO8, hsj, XH, hz7, hb7⟩
            case measure => simp [intOf]; omega
          · cases hct : lj.contains p1
            · have hnf : nmG true lj (p1, p2) = lj ++ [p1] := by unfold nmG nmF; rw [if_pos rfl, if_neg (by rw [hct]; simp)]
              rw [hct] at KCT
              have HFS2 := Lib.hid (hfs.trans hnf)
              clear hfs hnf
              go_wp2_with fail
              (with_reducible refine KCT.out.mono ?_)
              rintro e w8 ⟨rfl, rfl⟩
              go_wp2_with (at_builtin; refine app_str w1.heap.size p1 HO7.out hb7.size (by omega) rfl _ _ rfl rfl rfl ?_)
              intro v' w9 hO9 hb9 hfar
              have HO9 : Hid (OwnS w1.heap.size v' ((ex.x.vl.take (j + 1)).foldl (nmG true) l0) w9) := by rw [HFS2.out]; exact Lib.hid hO9
              have hs9 : ∀ g, v'.ownBlock = some g → g ≠ w5.heap.size := fun g hg => by
                rcases hfar.2 with h' | h'
                · rw [h'] at hg; exact hsj g hg
                · have := h' g hg; omega
              have xh9 := (World.cell?_of_block (a := ⟨w5.heap.size, 0, none⟩) (hfar.1.block w5.heap.size (by omega) (fun x => hsj _ x.symm rfl))).trans XH.out
              have XH9 := Lib.hid xh9
              have hz9 : W6.heap.size ≤ w9.heap.size := Nat.le_trans hz7 hfar.1.size
              have hb79 := hb7.trans hb9
              clear hO9 hfar xh9
              go_wp2
              go_roundw
              case rel => exact ⟨j + 1, by omega, by go_num, HO9, hs9, XH9, hz9, hb79⟩
              case measure => simp [intOf]; omega
            · have hnf : nmG true lj (p1, p2) = lj := by unfold nmG nmF; rw [if_pos rfl, if_pos (by rw [hct])]
              rw [hct] at KCT
              have HO8 : Hid (OwnS w1.heap.size (.slice oa lj.length oc) ((ex.x.vl.take (j + 1)).foldl (nmG true) l0) W7) := by rw [hfs, hnf]; exact HO7
              clear hfs hnf
              go_wp2_with fail
              (with_reducible refine KCT.out.mono ?_)
              rintro e w8 ⟨rfl, rfl⟩
              go_wp2
              go_roundw
              case rel => exact ⟨j + 1, by omega, by go_num, HO8, hsj, XH, hz7, hb7⟩
              case measure => simp [intOf]; omega
        · have hje : j = ex.x.vl.length := by omega
          subst hje
          have v3 : decide ((ex.x.vl.length : Int) < (ex.x.vn : Int)) = false := by have := HVN.out; simp; omega
          have v4 : ex.x.vn ≤ ex.x.vl.length := by have := HVN.out; omega
          have v5 : (ex.x.vn : Int) ≤ (ex.x.vl.length : Int) := by omega
          have ho := HOj.out
          rw [HFE.out, ← HSN2.out] at ho
          have HO10 := Lib.hid ho
          have hfin := HFIN.out
          rw [← HSN2.out] at hfin
          clear ho HOj
          go_wp2
          go_roundw
          case rel => exact ⟨k + 1, by omega, by go_num, HO10, hfin, hbj⟩
          case measure => simp [intOf]; omega
    · have hke : k = es.length := by omega
      subst hke
      have ho := HO.out
      rw [HALL.out] at ho
      obtain ⟨la, lc, rfl⟩ := ho.shape
      have HO1 := Lib.hid ho
      clear ho HO
      go_wp2
      go_ret
      exact ⟨la, lc, rfl, HO1.out.base hb1.size, bt hb1 hbw⟩
end Go.Proofs.YtokhlmoanlcjmaaDoor
/- StoreKnown: the walk of the law (printed by wip/tools/stknown.py). -/
namespace Go.Proofs.YtokhlmoanlcjmaaDoor
open Go.RowKit
set_option maxRecDepth 100000

theorem Live.side {w0 w w' : World} {sb bl : Nat} {n m : Int} {es : List Ent} {put : Int} (h : Live w0 w sb bl n m es put) {g : Nat} {cs : Array Value} (hg : w0.heap.size ≤ g) (hx : w.heap[g]? = some (.cells cs 33 (0, 0))) (ht : Touch [g] w w') : Live w0 w' sb bl n m es put := by
  obtain ⟨fp, ha, h1, hf⟩ := h
  refine ⟨fp, ha.keep ht (fun b hb hm => ?_) (fun b hb cs T z hc => ?_), h1.trans (ht.below (fun b hb => by rw [List.mem_singleton.1 hb]; exact hg) h1.size), hf⟩
  · have hm := List.mem_singleton.1 hm
    subst hm
    rcases List.mem_cons.1 hb with rfl | hb
    · rw [ha.blk] at hx
      injection hx with hx
      injection hx with _ hx _
      exact absurd hx (by decide)
    · rcases ha.bud.kind _ hb _ _ _ hx with e | e <;> exact absurd e (by decide)
  · rw [List.mem_singleton.1 hb, hx] at hc
    injection hc with hc
    injection hc with _ hc _
    rw [← hc]; decide
set_option maxHeartbeats 64000000 in
theorem storeKnown_law (w : World) (ht : TabN w) :
    Calls Tryd.prog 6 #[] w fun e w' => e = .returned (.bool true) ∧ Below w.heap.size w w' := by
  have K1 := Lib.hid (live_new 2 1000 w w (Below.refl _ _) (by omega) (by omega))
  have HT := Lib.hid ht
  clear ht
  go_enter Tryd.func6, Tryd.ntmps6
  go_wp2_with fail
  (with_reducible refine K1.out.mono ?_)
  rintro e w1 ⟨sb, bl, rfl, h1⟩
  have HL0 := Lib.hid h1
  clear h1 K1
  have kb := body_any ⟨#[121]⟩ w1
  unfold entV at kb
  have KK := Lib.hid kb
  clear kb
  go_wp2_with fail
  (with_reducible refine KK.out.mono ?_)
  rintro e v1 ⟨rfl, hb1⟩
  clear KK
  have HL2 := Lib.hid (HL0.out.below hb1)
  clear HL0
  clear hb1
  obtain ⟨W2, hW2⟩ : ∃ W2, v1.alloc (.cells #[.int .i64 0, .string ⟨#[]⟩, .int .i64 0, .slice none 0 0, .string ⟨#[121]⟩, .int .i64 0, .int .i64 0, .slice none 0 0] 33) = W2 := ⟨_, rfl⟩
  have b2 : Below v1.heap.size v1 W2 := by rw [← hW2]; exact (Below.refl _ _).alloc (Nat.le_refl _) _
  have x2 : W2.heap[v1.heap.size]? = some (.cells #[.int .i64 0, .string ⟨#[]⟩, .int .i64 0, .slice none 0 0, .string ⟨#[121]⟩, .int .i64 0, .int .i64 0, .slice none 0 0] 33 (0, 0)) := by rw [← hW2]; exact heap_new v1 _ _ rfl
  have hge : w.heap.size ≤ v1.heap.size := HL2.out.base.size
  have HL3 := Lib.hid (HL2.out.below b2)
  clear HL2
  have HW2 := Lib.hid hW2; have HX2 := Lib.hid x2
  clear hW2 b2 x2
  go_upto_region 5 with (fail)
  rw [HW2.out]
  have ka := accept_any [97] W2
  have KK := Lib.hid ka
  clear ka
  go_wp2_with fail
  (with_reducible refine KK.out.mono ?_)
  rintro e v4 ⟨ra4, rfl, ho4, hb4⟩
  clear KK
  have HL5 := Lib.hid (HL3.out.below hb4)
  clear HL3
  have x3 := (hb4.block _ (of_heap HX2.out 0).2.2).trans HX2.out
  have hfz := (of_heap x3 7).2.1; have hfc := (of_heap x3 7).1
  simp only [List.getElem?_toArray, List.getElem?_cons_succ, List.getElem?_cons_zero] at hfc
  obtain ⟨W4, hW4⟩ : ∃ W4, v4.setCell ⟨v1.heap.size, 7, none⟩ (.slice ra4 1 1) = W4 := ⟨_, rfl⟩
  have hrow : OwnF W2.heap.size (.slice ra4 1 1) [(accL, [97])] W4 := by
    rw [← hW4]; exact own_setc 7 _ ho4 (fun x => by have h1 := (World.ownsRow.lt ho4 _ x).1; have h2 := (of_heap HX2.out 0).2.2; omega)
  have x4 : W4.heap[v1.heap.size]? = some (.cells #[.int .i64 0, .string ⟨#[]⟩, .int .i64 0, .slice none 0 0, .string ⟨#[121]⟩, .int .i64 0, .int .i64 0, .slice ra4 1 1] 33 (0, 0)) := by
    have h := heap_setN (j := 7) (v := .slice ra4 1 1) x3
    simp only [List.setIfInBounds_toArray, List.set_cons_zero, List.set_cons_succ] at h
    rw [← hW4]; exact h
  have ht4 : Touch [v1.heap.size] v4 W4 := by rw [← hW4]; exact (Touch.refl _ _).setCell _ 7 _ (by simp)
  have HL6 := Lib.hid (Live.side HL5.out hge x3 ht4)
  clear HL5
  have HW4 := Lib.hid hW4; have HR0 := Lib.hid hrow; have HX0 := Lib.hid x4
  clear hW4 hrow x4 ht4 x3 hb4 ho4 HX2 HW2
  go_upto_region 6 with (fail)
  rw [HW4.out]
  have kb := body_any ⟨#[120]⟩ W4
  unfold entV at kb
  have KK := Lib.hid kb
  clear kb
  go_wp2_with fail
  (with_reducible refine KK.out.mono ?_)
  rintro e v7 ⟨rfl, hb7⟩
  clear KK
  have HL8 := Lib.hid (HL6.out.below hb7)
  clear HL6
  have HR9 := Lib.hid (HR0.out.below hb7)
  have HX9 := Lib.hid ((hb7.block _ (of_heap HX0.out 0).2.2).trans HX0.out)
  clear HR0 HX0
  clear hb7
  have ks := sizeOf_any ⟨[107].toArray⟩ 0 0 0 0 ⟨#[]⟩ ⟨#[120]⟩ none none 0 0 0 0 [] [] v7 Rd.nil Rd.nil (by decide) (by decide) (by decide) (by decide) (by decide) (by decide) (by decide)
  rw [show sizeZ ⟨[107].toArray⟩ ⟨#[]⟩ ⟨#[120]⟩ [] [] = 66 from by kernel_rfl] at ks
  unfold entV at ks
  have f0 := (of_heap HX9.out 0).1
  have f1 := (of_heap HX9.out 1).1
  have f2 := (of_heap HX9.out 2).1
  have f3 := (of_heap HX9.out 3).1
  have f4 := (of_heap HX9.out 4).1
  have f5 := (of_heap HX9.out 5).1
  have f6 := (of_heap HX9.out 6).1
  have f7 := (of_heap HX9.out 7).1
  simp only [List.getElem?_toArray, List.getElem?_cons_succ, List.getElem?_cons_zero] at f0 f1 f2 f3 f4 f5 f6 f7
  have KK := Lib.hid ks
  clear ks
  go_wp2_with fail
  (with_reducible refine KK.out.mono ?_)
  rintro e v10 ⟨rfl, hb10⟩
  clear KK
  clear f0 f1 f2 f3 f4 f5 f6 f7
  have HL12 := Lib.hid (HL8.out.below hb10)
  clear HL8
  have HR13 := Lib.hid (HR9.out.below hb10)
  have HX13 := Lib.hid ((hb10.block _ (of_heap HX9.out 0).2.2).trans HX9.out)
  clear HR9 HX9
  clear hb10
  have f0 := (of_heap HX13.out 0).1
  have f1 := (of_heap HX13.out 1).1
  have f2 := (of_heap HX13.out 2).1
  have f3 := (of_heap HX13.out 3).1
  have f4 := (of_heap HX13.out 4).1
  have f5 := (of_heap HX13.out 5).1
  have f6 := (of_heap HX13.out 6).1
  have f7 := (of_heap HX13.out 7).1
  simp only [List.getElem?_toArray, List.getElem?_cons_succ, List.getElem?_cons_zero] at f0 f1 f2 f3 f4 f5 f6 f7
  have ks := sizeOf_any ⟨[107].toArray⟩ 0 0 0 0 ⟨#[]⟩ ⟨#[121]⟩ none ra4 0 0 1 1 [] [(accL, [97])] v10 Rd.nil (HR13.out.rd.2) (by decide) (by decide) (by decide) (by decide) (by decide) (by decide) (by decide)
  rw [show sizeZ ⟨[107].toArray⟩ ⟨#[]⟩ ⟨#[121]⟩ [] [(accL, [97])] = 73 from by kernel_rfl] at ks
  unfold entV at ks
  have KK := Lib.hid ks
  clear ks
  go_wp2_with fail
  (with_reducible refine KK.out.mono ?_)
  rintro e v15 ⟨rfl, hb15⟩
  clear KK
  clear f0 f1 f2 f3 f4 f5 f6 f7
  have HL16 := Lib.hid (HL12.out.below hb15)
  clear HL12
  have HR17 := Lib.hid (HR13.out.below hb15)
  have HX17 := Lib.hid ((hb15.block _ (of_heap HX13.out 0).2.2).trans HX13.out)
  clear HR13 HX13
  clear hb15
  have kb := body_any ⟨#[120]⟩ v15
  unfold entV at kb
  have KK := Lib.hid kb
  clear kb
  go_wp2_with fail
  (with_reducible refine KK.out.mono ?_)
  rintro e v18 ⟨rfl, hb18⟩
  clear KK
  have HL19 := Lib.hid (HL16.out.below hb18)
  clear HL16
  have HR20 := Lib.hid (HR17.out.below hb18)
  have HX20 := Lib.hid ((hb18.block _ (of_heap HX17.out 0).2.2).trans HX17.out)
  clear HR17 HX17
  clear hb18
  have kp := live_putK HL19.out [107] 0 0 0 0 ⟨#[]⟩ ⟨#[120]⟩ none none 0 0 0 0 [] [] (fun W _ => Rd.nil) (fun W _ => Rd.nil) (by decide) (by decide) (by decide) (by decide) (by decide) (by decide) (by decide) (by omega) HT.out
  have hz : sizeZ ⟨[107].toArray⟩ ⟨#[]⟩ ⟨#[120]⟩ [] [] = 66 := by kernel_rfl
  rw [hz] at kp
  have hp : ∀ x, (putE 2 1000 (nameB [107] []) 66 x ([] : List Ent)).2 = ([⟨(nameB [107] []), 66, x⟩] : List Ent) := fun x => by kernel_rfl
  have hh : ∀ x : Hv, hasE (nameB [107] []) ([⟨(nameB [107] []), 66, x⟩] : List Ent) = true := fun x => by kernel_rfl
  simp only [hp, hh] at kp
  unfold entV at kp
  clear hz hp hh
  have KK := Lib.hid kp
  clear kp
  go_wp2_with fail
  (with_reducible refine KK.out.mono ?_)
  rintro e v21 ⟨⟨a1, a2, a3, a4, g21A, g21n, g21c, a5, a6, a7, u21A, u21n, u21c, a8, a9, a10⟩, hx, rfl, hl, hk⟩
  clear KK
  obtain ⟨q1, q2, q3, q4, q5, q6, q7, q8, q9, q10⟩ := hx
  simp only at q1 q2 q3 q4 q5 q6 q7 q8 q9 q10
  replace q1 := q1.symm; subst q1; replace q2 := q2.symm; subst q2; replace q3 := q3.symm; subst q3; replace q4 := q4.symm; subst q4; replace q5 := q5.symm; subst q5; replace q6 := q6.symm; subst q6; replace q7 := q7.symm; subst q7; replace q8 := q8.symm; subst q8; replace q9 := q9.symm; subst q9; replace q10 := q10.symm; subst q10
  have hl2 : Live w v21 sb bl 2 1000 ([⟨(nameB [107] []), 66, ⟨⟨[107].toArray⟩, 0, ⟨#[]⟩, 0, g21A, g21n, g21c, ⟨#[120]⟩, 0, 0, u21A, u21n, u21c, 1, [], []⟩⟩] : List Ent) 1 := hl
  have HL22 := Lib.hid (hl2)
  clear HL19
  have HR23 := Lib.hid (hk.own HR20.out)
  have HX23 := Lib.hid (hk.2 _ _ _ _ HX20.out (by decide) (by decide) (by decide))
  clear HR20 HX20
  clear hl hl2 hk
  have f0 := (of_heap HX23.out 0).1
  have f1 := (of_heap HX23.out 1).1
  have f2 := (of_heap HX23.out 2).1
  have f3 := (of_heap HX23.out 3).1
  have f4 := (of_heap HX23.out 4).1
  have f5 := (of_heap HX23.out 5).1
  have f6 := (of_heap HX23.out 6).1
  have f7 := (of_heap HX23.out 7).1
  simp only [List.getElem?_toArray, List.getElem?_cons_succ, List.getElem?_cons_zero] at f0 f1 f2 f3 f4 f5 f6 f7
  have kp := live_putK HL22.out [107] 0 0 0 0 ⟨#[]⟩ ⟨#[121]⟩ none ra4 0 0 1 1 [] [(accL, [97])] (fun W _ => Rd.nil) (fun W hk => (hk.own HR23.out).rd.2) (by decide) (by decide) (by decide) (by decide) (by decide) (by decide) (by decide) (by omega) HT.out
  have hz : sizeZ ⟨[107].toArray⟩ ⟨#[]⟩ ⟨#[121]⟩ [] [(accL, [97])] = 73 := by kernel_rfl
  rw [hz] at kp
  have hp : ∀ x, (putE 2 1000 (nameB [107] [(accL, [97])]) 73 x ([⟨(nameB [107] []), 66, ⟨⟨[107].toArray⟩, 0, ⟨#[]⟩, 0, g21A, g21n, g21c, ⟨#[120]⟩, 0, 0, u21A, u21n, u21c, 1, [], []⟩⟩] : List Ent)).2 = ([⟨(nameB [107] []), 66, ⟨⟨[107].toArray⟩, 0, ⟨#[]⟩, 0, g21A, g21n, g21c, ⟨#[120]⟩, 0, 0, u21A, u21n, u21c, 1, [], []⟩⟩, ⟨(nameB [107] [(accL, [97])]), 73, x⟩] : List Ent) := fun x => by kernel_rfl
  have hh : ∀ x : Hv, hasE (nameB [107] [(accL, [97])]) ([⟨(nameB [107] []), 66, ⟨⟨[107].toArray⟩, 0, ⟨#[]⟩, 0, g21A, g21n, g21c, ⟨#[120]⟩, 0, 0, u21A, u21n, u21c, 1, [], []⟩⟩, ⟨(nameB [107] [(accL, [97])]), 73, x⟩] : List Ent) = true := fun x => by kernel_rfl
  simp only [hp, hh] at kp
  unfold entV at kp
  clear hz hp hh
  have KK := Lib.hid kp
  clear kp
  go_wp2_with fail
  (with_reducible refine KK.out.mono ?_)
  rintro e v25 ⟨⟨a1, a2, a3, a4, g25A, g25n, g25c, a5, a6, a7, u25A, u25n, u25c, a8, a9, a10⟩, hx, rfl, hl, hk⟩
  clear KK
  obtain ⟨q1, q2, q3, q4, q5, q6, q7, q8, q9, q10⟩ := hx
  simp only at q1 q2 q3 q4 q5 q6 q7 q8 q9 q10
  replace q1 := q1.symm; subst q1; replace q2 := q2.symm; subst q2; replace q3 := q3.symm; subst q3; replace q4 := q4.symm; subst q4; replace q5 := q5.symm; subst q5; replace q6 := q6.symm; subst q6; replace q7 := q7.symm; subst q7; replace q8 := q8.symm; subst q8; replace q9 := q9.symm; subst q9; replace q10 := q10.symm; subst q10
  have hl2 : Live w v25 sb bl 2 1000 ([⟨(nameB [107] []), 66, ⟨⟨[107].toArray⟩, 0, ⟨#[]⟩, 0, g21A, g21n, g21c, ⟨#[120]⟩, 0, 0, u21A, u21n, u21c, 1, [], []⟩⟩, ⟨(nameB [107] [(accL, [97])]), 73, ⟨⟨[107].toArray⟩, 0, ⟨#[]⟩, 0, g25A, g25n, g25c, ⟨#[121]⟩, 0, 0, u25A, u25n, u25c, 2, [], [(accL, [97])]⟩⟩] : List Ent) 2 := hl
  have HL26 := Lib.hid (hl2)
  clear HL22
  have HR27 := Lib.hid (hk.own HR23.out)
  have HX27 := Lib.hid (hk.2 _ _ _ _ HX23.out (by decide) (by decide) (by decide))
  clear HR23 HX23
  clear hl hl2 hk
  clear f0 f1 f2 f3 f4 f5 f6 f7
  clear HR27 HX27
  have ka := accept_any [97] v25
  have KK := Lib.hid ka
  clear ka
  go_wp2_with fail
  (with_reducible refine KK.out.mono ?_)
  rintro e v28 ⟨ra28, rfl, ho28, hb28⟩
  clear KK
  have HL29 := Lib.hid (HL26.out.below hb28)
  clear HL26
  clear hb28
  have kf := findsK_any HL29.out [107] ra28 1 1 [(accL, [97])] ho28.rd.2 (by decide) (by decide) (by decide) HT.out
  have hb : bestL [107] [(accL, [97])] ([⟨(nameB [107] []), 66, ⟨⟨[107].toArray⟩, 0, ⟨#[]⟩, 0, g21A, g21n, g21c, ⟨#[120]⟩, 0, 0, u21A, u21n, u21c, 1, [], []⟩⟩, ⟨(nameB [107] [(accL, [97])]), 73, ⟨⟨[107].toArray⟩, 0, ⟨#[]⟩, 0, g25A, g25n, g25c, ⟨#[121]⟩, 0, 0, u25A, u25n, u25c, 2, [], [(accL, [97])]⟩⟩] : List Ent) = some ⟨(nameB [107] [(accL, [97])]), 73, ⟨⟨[107].toArray⟩, 0, ⟨#[]⟩, 0, g25A, g25n, g25c, ⟨#[121]⟩, 0, 0, u25A, u25n, u25c, 2, [], [(accL, [97])]⟩⟩ := by kernel_rfl
  have hg : getO (some ⟨(nameB [107] [(accL, [97])]), 73, ⟨⟨[107].toArray⟩, 0, ⟨#[]⟩, 0, g25A, g25n, g25c, ⟨#[121]⟩, 0, 0, u25A, u25n, u25c, 2, [], [(accL, [97])]⟩⟩) ([⟨(nameB [107] []), 66, ⟨⟨[107].toArray⟩, 0, ⟨#[]⟩, 0, g21A, g21n, g21c, ⟨#[120]⟩, 0, 0, u21A, u21n, u21c, 1, [], []⟩⟩, ⟨(nameB [107] [(accL, [97])]), 73, ⟨⟨[107].toArray⟩, 0, ⟨#[]⟩, 0, g25A, g25n, g25c, ⟨#[121]⟩, 0, 0, u25A, u25n, u25c, 2, [], [(accL, [97])]⟩⟩] : List Ent) = ([⟨(nameB [107] []), 66, ⟨⟨[107].toArray⟩, 0, ⟨#[]⟩, 0, g21A, g21n, g21c, ⟨#[120]⟩, 0, 0, u21A, u21n, u21c, 1, [], []⟩⟩, ⟨(nameB [107] [(accL, [97])]), 73, ⟨⟨[107].toArray⟩, 0, ⟨#[]⟩, 0, g25A, g25n, g25c, ⟨#[121]⟩, 0, 0, u25A, u25n, u25c, 2, [], [(accL, [97])]⟩⟩] : List Ent) := by kernel_rfl
  have hf : findsB (some ⟨(nameB [107] [(accL, [97])]), 73, ⟨⟨[107].toArray⟩, 0, ⟨#[]⟩, 0, g25A, g25n, g25c, ⟨#[121]⟩, 0, 0, u25A, u25n, u25c, 2, [], [(accL, [97])]⟩⟩) = ⟨#[121]⟩ := rfl
  rw [hb, hg, hf] at kf
  clear hb hg hf
  have KK := Lib.hid kf
  clear kf
  go_wp2_with fail
  (with_reducible refine KK.out.mono ?_)
  rintro e v30 ⟨rfl, hl, hk⟩
  clear KK
  have HL31 := Lib.hid (hl)
  clear HL29
  clear hl hk
  clear ho28
  have kf := findsK_any HL31.out [107] none 0 0 [] Rd.nil (by decide) (by simp) (by decide) HT.out
  have hb : bestL [107] [] ([⟨(nameB [107] []), 66, ⟨⟨[107].toArray⟩, 0, ⟨#[]⟩, 0, g21A, g21n, g21c, ⟨#[120]⟩, 0, 0, u21A, u21n, u21c, 1, [], []⟩⟩, ⟨(nameB [107] [(accL, [97])]), 73, ⟨⟨[107].toArray⟩, 0, ⟨#[]⟩, 0, g25A, g25n, g25c, ⟨#[121]⟩, 0, 0, u25A, u25n, u25c, 2, [], [(accL, [97])]⟩⟩] : List Ent) = some ⟨(nameB [107] []), 66, ⟨⟨[107].toArray⟩, 0, ⟨#[]⟩, 0, g21A, g21n, g21c, ⟨#[120]⟩, 0, 0, u21A, u21n, u21c, 1, [], []⟩⟩ := by kernel_rfl
  have hg : getO (some ⟨(nameB [107] []), 66, ⟨⟨[107].toArray⟩, 0, ⟨#[]⟩, 0, g21A, g21n, g21c, ⟨#[120]⟩, 0, 0, u21A, u21n, u21c, 1, [], []⟩⟩) ([⟨(nameB [107] []), 66, ⟨⟨[107].toArray⟩, 0, ⟨#[]⟩, 0, g21A, g21n, g21c, ⟨#[120]⟩, 0, 0, u21A, u21n, u21c, 1, [], []⟩⟩, ⟨(nameB [107] [(accL, [97])]), 73, ⟨⟨[107].toArray⟩, 0, ⟨#[]⟩, 0, g25A, g25n, g25c, ⟨#[121]⟩, 0, 0, u25A, u25n, u25c, 2, [], [(accL, [97])]⟩⟩] : List Ent) = ([⟨(nameB [107] [(accL, [97])]), 73, ⟨⟨[107].toArray⟩, 0, ⟨#[]⟩, 0, g25A, g25n, g25c, ⟨#[121]⟩, 0, 0, u25A, u25n, u25c, 2, [], [(accL, [97])]⟩⟩, ⟨(nameB [107] []), 66, ⟨⟨[107].toArray⟩, 0, ⟨#[]⟩, 0, g21A, g21n, g21c, ⟨#[120]⟩, 0, 0, u21A, u21n, u21c, 1, [], []⟩⟩] : List Ent) := by kernel_rfl
  have hf : findsB (some ⟨(nameB [107] []), 66, ⟨⟨[107].toArray⟩, 0, ⟨#[]⟩, 0, g21A, g21n, g21c, ⟨#[120]⟩, 0, 0, u21A, u21n, u21c, 1, [], []⟩⟩) = ⟨#[120]⟩ := rfl
  rw [hb, hg, hf] at kf
  clear hb hg hf
  have KK := Lib.hid kf
  clear kf
  go_wp2_with fail
  (with_reducible refine KK.out.mono ?_)
  rintro e v32 ⟨rfl, hl, hk⟩
  clear KK
  have HL33 := Lib.hid (hl)
  clear HL31
  clear hl hk
  have kl := live_len HL33.out
  rw [show ((([⟨(nameB [107] [(accL, [97])]), 73, ⟨⟨[107].toArray⟩, 0, ⟨#[]⟩, 0, g25A, g25n, g25c, ⟨#[121]⟩, 0, 0, u25A, u25n, u25c, 2, [], [(accL, [97])]⟩⟩, ⟨(nameB [107] []), 66, ⟨⟨[107].toArray⟩, 0, ⟨#[]⟩, 0, g21A, g21n, g21c, ⟨#[120]⟩, 0, 0, u21A, u21n, u21c, 1, [], []⟩⟩] : List Ent).length : Nat) : Int) = 2 from rfl] at kl
  have KK := Lib.hid kl
  clear kl
  go_wp2_with fail
  (with_reducible refine KK.out.mono ?_)
  rintro e vz ⟨rfl, rfl⟩
  clear KK
  have kl := live_bytes HL33.out
  rw [show sumE ([⟨(nameB [107] [(accL, [97])]), 73, ⟨⟨[107].toArray⟩, 0, ⟨#[]⟩, 0, g25A, g25n, g25c, ⟨#[121]⟩, 0, 0, u25A, u25n, u25c, 2, [], [(accL, [97])]⟩⟩, ⟨(nameB [107] []), 66, ⟨⟨[107].toArray⟩, 0, ⟨#[]⟩, 0, g21A, g21n, g21c, ⟨#[120]⟩, 0, 0, u21A, u21n, u21c, 1, [], []⟩⟩] : List Ent) = 139 from by kernel_rfl] at kl
  have KK := Lib.hid kl
  clear kl
  go_wp2_with fail
  (with_reducible refine KK.out.mono ?_)
  rintro e vz ⟨rfl, rfl⟩
  clear KK
  have kn : Calls Tryd.prog 24 #[.pointer (some ⟨sb, 0, none⟩), .string ⟨[107].toArray⟩] v32 (TextsPost v32 (namesL [107] ([⟨(nameB [107] [(accL, [97])]), 73, ⟨⟨[107].toArray⟩, 0, ⟨#[]⟩, 0, g25A, g25n, g25c, ⟨#[121]⟩, 0, 0, u25A, u25n, u25c, 2, [], [(accL, [97])]⟩⟩, ⟨(nameB [107] []), 66, ⟨⟨[107].toArray⟩, 0, ⟨#[]⟩, 0, g21A, g21n, g21c, ⟨#[120]⟩, 0, 0, u21A, u21n, u21c, 1, [], []⟩⟩] : List Ent))) := by
    obtain ⟨fp, ha, _, _⟩ := HL33.out
    exact names19_any ha [107]
  rw [show namesL [107] ([⟨(nameB [107] [(accL, [97])]), 73, ⟨⟨[107].toArray⟩, 0, ⟨#[]⟩, 0, g25A, g25n, g25c, ⟨#[121]⟩, 0, 0, u25A, u25n, u25c, 2, [], [(accL, [97])]⟩⟩, ⟨(nameB [107] []), 66, ⟨⟨[107].toArray⟩, 0, ⟨#[]⟩, 0, g21A, g21n, g21c, ⟨#[120]⟩, 0, 0, u21A, u21n, u21c, 1, [], []⟩⟩] : List Ent) = [accL] from by kernel_rfl] at kn
  have kn2 := Calls.mono kn (R' := fun e w' => ∃ a c, e = .returned (.slice a 1 c) ∧ OwnS v32.heap.size (.slice a 1 c) [accL] w' ∧ Below v32.heap.size v32 w') (fun e w' h => by obtain ⟨a, c, h1, h2, h3⟩ := h; exact ⟨a, c, h1, h2, h3⟩)
  clear kn
  have KK := Lib.hid kn2
  clear kn2
  go_wp2_with fail
  (with_reducible refine KK.out.mono ?_)
  rintro e v34 ⟨ta, tc, rfl, hO, hb⟩
  clear KK
  have HL35 := Lib.hid (HL33.out.below hb)
  clear HL33
  have kj := join_any _ tc ta [accL] ⟨#[32]⟩ v34 hO (by decide) (by decide)
  rw [show (⟨(Lib.join [accL] (⟨#[32]⟩ : ByteArray).data.toList).toArray⟩ : ByteArray) = ⟨#[97, 99, 99, 101, 112, 116]⟩ from by kernel_rfl] at kj
  rw [show ([accL] : List (List UInt8)).length = 1 from rfl] at kj
  clear hO hb
  have KK := Lib.hid kj
  clear kj
  go_wp2_with fail
  (with_reducible refine KK.out.mono ?_)
  rintro e v36 ⟨rfl, hb⟩
  clear KK
  have HL37 := Lib.hid (HL35.out.below hb)
  clear HL35
  clear hb
  have kn : Calls Tryd.prog 24 #[.pointer (some ⟨sb, 0, none⟩), .string ⟨[109].toArray⟩] v36 (TextsPost v36 (namesL [109] ([⟨(nameB [107] [(accL, [97])]), 73, ⟨⟨[107].toArray⟩, 0, ⟨#[]⟩, 0, g25A, g25n, g25c, ⟨#[121]⟩, 0, 0, u25A, u25n, u25c, 2, [], [(accL, [97])]⟩⟩, ⟨(nameB [107] []), 66, ⟨⟨[107].toArray⟩, 0, ⟨#[]⟩, 0, g21A, g21n, g21c, ⟨#[120]⟩, 0, 0, u21A, u21n, u21c, 1, [], []⟩⟩] : List Ent))) := by
    obtain ⟨fp, ha, _, _⟩ := HL37.out
    exact names19_any ha [109]
  rw [show namesL [109] ([⟨(nameB [107] [(accL, [97])]), 73, ⟨⟨[107].toArray⟩, 0, ⟨#[]⟩, 0, g25A, g25n, g25c, ⟨#[121]⟩, 0, 0, u25A, u25n, u25c, 2, [], [(accL, [97])]⟩⟩, ⟨(nameB [107] []), 66, ⟨⟨[107].toArray⟩, 0, ⟨#[]⟩, 0, g21A, g21n, g21c, ⟨#[120]⟩, 0, 0, u21A, u21n, u21c, 1, [], []⟩⟩] : List Ent) = [] from by kernel_rfl] at kn
  have kn2 := Calls.mono kn (R' := fun e w' => ∃ a c, e = .returned (.slice a 0 c) ∧ OwnS v36.heap.size (.slice a 0 c) [] w' ∧ Below v36.heap.size v36 w') (fun e w' h => by obtain ⟨a, c, h1, h2, h3⟩ := h; exact ⟨a, c, h1, h2, h3⟩)
  clear kn
  have KK := Lib.hid kn2
  clear kn2
  go_wp2_with fail
  (with_reducible refine KK.out.mono ?_)
  rintro e v38 ⟨ta, tc, rfl, hO, hb⟩
  clear KK
  have HL39 := Lib.hid (HL37.out.below hb)
  clear HL37
  clear hO hb
  have kb := body_any ⟨#[122]⟩ v38
  unfold entV at kb
  have KK := Lib.hid kb
  clear kb
  go_wp2_with fail
  (with_reducible refine KK.out.mono ?_)
  rintro e v40 ⟨rfl, hb40⟩
  clear KK
  have HL41 := Lib.hid (HL39.out.below hb40)
  clear HL39
  clear hb40
  have kp := live_putK HL41.out [107] 0 0 0 0 ⟨#[]⟩ ⟨#[122]⟩ none none 0 0 0 0 [] [] (fun W _ => Rd.nil) (fun W _ => Rd.nil) (by decide) (by decide) (by decide) (by decide) (by decide) (by decide) (by decide) (by omega) HT.out
  have hz : sizeZ ⟨[107].toArray⟩ ⟨#[]⟩ ⟨#[122]⟩ [] [] = 66 := by kernel_rfl
  rw [hz] at kp
  have hp : ∀ x, (putE 2 1000 (nameB [107] []) 66 x ([⟨(nameB [107] [(accL, [97])]), 73, ⟨⟨[107].toArray⟩, 0, ⟨#[]⟩, 0, g25A, g25n, g25c, ⟨#[121]⟩, 0, 0, u25A, u25n, u25c, 2, [], [(accL, [97])]⟩⟩, ⟨(nameB [107] []), 66, ⟨⟨[107].toArray⟩, 0, ⟨#[]⟩, 0, g21A, g21n, g21c, ⟨#[120]⟩, 0, 0, u21A, u21n, u21c, 1, [], []⟩⟩] : List Ent)).2 = ([⟨(nameB [107] [(accL, [97])]), 73, ⟨⟨[107].toArray⟩, 0, ⟨#[]⟩, 0, g25A, g25n, g25c, ⟨#[121]⟩, 0, 0, u25A, u25n, u25c, 2, [], [(accL, [97])]⟩⟩, ⟨(nameB [107] []), 66, x⟩] : List Ent) := fun x => by kernel_rfl
  have hh : ∀ x : Hv, hasE (nameB [107] []) ([⟨(nameB [107] [(accL, [97])]), 73, ⟨⟨[107].toArray⟩, 0, ⟨#[]⟩, 0, g25A, g25n, g25c, ⟨#[121]⟩, 0, 0, u25A, u25n, u25c, 2, [], [(accL, [97])]⟩⟩, ⟨(nameB [107] []), 66, x⟩] : List Ent) = true := fun x => by kernel_rfl
  simp only [hp, hh] at kp
  unfold entV at kp
  clear hz hp hh
  have KK := Lib.hid kp
  clear kp
  go_wp2_with fail
  (with_reducible refine KK.out.mono ?_)
  rintro e v42 ⟨⟨a1, a2, a3, a4, g42A, g42n, g42c, a5, a6, a7, u42A, u42n, u42c, a8, a9, a10⟩, hx, rfl, hl, hk⟩
  clear KK
  obtain ⟨q1, q2, q3, q4, q5, q6, q7, q8, q9, q10⟩ := hx
  simp only at q1 q2 q3 q4 q5 q6 q7 q8 q9 q10
  replace q1 := q1.symm; subst q1; replace q2 := q2.symm; subst q2; replace q3 := q3.symm; subst q3; replace q4 := q4.symm; subst q4; replace q5 := q5.symm; subst q5; replace q6 := q6.symm; subst q6; replace q7 := q7.symm; subst q7; replace q8 := q8.symm; subst q8; replace q9 := q9.symm; subst q9; replace q10 := q10.symm; subst q10
  have hl2 : Live w v42 sb bl 2 1000 ([⟨(nameB [107] [(accL, [97])]), 73, ⟨⟨[107].toArray⟩, 0, ⟨#[]⟩, 0, g25A, g25n, g25c, ⟨#[121]⟩, 0, 0, u25A, u25n, u25c, 2, [], [(accL, [97])]⟩⟩, ⟨(nameB [107] []), 66, ⟨⟨[107].toArray⟩, 0, ⟨#[]⟩, 0, g42A, g42n, g42c, ⟨#[122]⟩, 0, 0, u42A, u42n, u42c, 3, [], []⟩⟩] : List Ent) 3 := hl
  have HL43 := Lib.hid (hl2)
  clear HL41
  clear hl hl2 hk
  have ka := accept_any [97] v42
  have KK := Lib.hid ka
  clear ka
  go_wp2_with fail
  (with_reducible refine KK.out.mono ?_)
  rintro e v44 ⟨ra44, rfl, ho44, hb44⟩
  clear KK
  have HL45 := Lib.hid (HL43.out.below hb44)
  clear HL43
  clear hb44
  have kf := findsK_any HL45.out [107] ra44 1 1 [(accL, [97])] ho44.rd.2 (by decide) (by decide) (by decide) HT.out
  have hb : bestL [107] [(accL, [97])] ([⟨(nameB [107] [(accL, [97])]), 73, ⟨⟨[107].toArray⟩, 0, ⟨#[]⟩, 0, g25A, g25n, g25c, ⟨#[121]⟩, 0, 0, u25A, u25n, u25c, 2, [], [(accL, [97])]⟩⟩, ⟨(nameB [107] []), 66, ⟨⟨[107].toArray⟩, 0, ⟨#[]⟩, 0, g42A, g42n, g42c, ⟨#[122]⟩, 0, 0, u42A, u42n, u42c, 3, [], []⟩⟩] : List Ent) = some ⟨(nameB [107] []), 66, ⟨⟨[107].toArray⟩, 0, ⟨#[]⟩, 0, g42A, g42n, g42c, ⟨#[122]⟩, 0, 0, u42A, u42n, u42c, 3, [], []⟩⟩ := by kernel_rfl
  have hg : getO (some ⟨(nameB [107] []), 66, ⟨⟨[107].toArray⟩, 0, ⟨#[]⟩, 0, g42A, g42n, g42c, ⟨#[122]⟩, 0, 0, u42A, u42n, u42c, 3, [], []⟩⟩) ([⟨(nameB [107] [(accL, [97])]), 73, ⟨⟨[107].toArray⟩, 0, ⟨#[]⟩, 0, g25A, g25n, g25c, ⟨#[121]⟩, 0, 0, u25A, u25n, u25c, 2, [], [(accL, [97])]⟩⟩, ⟨(nameB [107] []), 66, ⟨⟨[107].toArray⟩, 0, ⟨#[]⟩, 0, g42A, g42n, g42c, ⟨#[122]⟩, 0, 0, u42A, u42n, u42c, 3, [], []⟩⟩] : List Ent) = ([⟨(nameB [107] [(accL, [97])]), 73, ⟨⟨[107].toArray⟩, 0, ⟨#[]⟩, 0, g25A, g25n, g25c, ⟨#[121]⟩, 0, 0, u25A, u25n, u25c, 2, [], [(accL, [97])]⟩⟩, ⟨(nameB [107] []), 66, ⟨⟨[107].toArray⟩, 0, ⟨#[]⟩, 0, g42A, g42n, g42c, ⟨#[122]⟩, 0, 0, u42A, u42n, u42c, 3, [], []⟩⟩] : List Ent) := by kernel_rfl
  have hf : findsB (some ⟨(nameB [107] []), 66, ⟨⟨[107].toArray⟩, 0, ⟨#[]⟩, 0, g42A, g42n, g42c, ⟨#[122]⟩, 0, 0, u42A, u42n, u42c, 3, [], []⟩⟩) = ⟨#[122]⟩ := rfl
  rw [hb, hg, hf] at kf
  clear hb hg hf
  have KK := Lib.hid kf
  clear kf
  go_wp2_with fail
  (with_reducible refine KK.out.mono ?_)
  rintro e v46 ⟨rfl, hl, hk⟩
  clear KK
  have HL47 := Lib.hid (hl)
  clear HL45
  clear hl hk
  clear ho44
  have kn := live_keys HL47.out
  rw [show (([⟨(nameB [107] [(accL, [97])]), 73, ⟨⟨[107].toArray⟩, 0, ⟨#[]⟩, 0, g25A, g25n, g25c, ⟨#[121]⟩, 0, 0, u25A, u25n, u25c, 2, [], [(accL, [97])]⟩⟩, ⟨(nameB [107] []), 66, ⟨⟨[107].toArray⟩, 0, ⟨#[]⟩, 0, g42A, g42n, g42c, ⟨#[122]⟩, 0, 0, u42A, u42n, u42c, 3, [], []⟩⟩] : List Ent).map fun e => e.x.key.data.toList) = [[107], [107]] from by kernel_rfl] at kn
  have kn2 := Calls.mono kn (R' := fun e w' => ∃ a c, e = .returned (.slice a 2 c) ∧ OwnS v46.heap.size (.slice a 2 c) [[107], [107]] w' ∧ Below v46.heap.size v46 w') (fun e w' h => by obtain ⟨a, c, h1, h2, h3⟩ := h; exact ⟨a, c, h1, h2, h3⟩)
  clear kn
  have KK := Lib.hid kn2
  clear kn2
  go_wp2_with fail
  (with_reducible refine KK.out.mono ?_)
  rintro e v48 ⟨ta, tc, rfl, hO, hb⟩
  clear KK
  have HL49 := Lib.hid (HL47.out.below hb)
  clear HL47
  have kj := join_any _ tc ta [[107], [107]] ⟨#[32]⟩ v48 hO (by decide) (by decide)
  rw [show (⟨(Lib.join [[107], [107]] (⟨#[32]⟩ : ByteArray).data.toList).toArray⟩ : ByteArray) = ⟨#[107, 32, 107]⟩ from by kernel_rfl] at kj
  rw [show ([[107], [107]] : List (List UInt8)).length = 2 from rfl] at kj
  clear hO hb
  have KK := Lib.hid kj
  clear kj
  go_wp2_with fail
  (with_reducible refine KK.out.mono ?_)
  rintro e v50 ⟨rfl, hb⟩
  clear KK
  have HL51 := Lib.hid (HL49.out.below hb)
  clear HL49
  clear hb
  have kb := body_any ⟨#[120]⟩ v50
  unfold entV at kb
  have KK := Lib.hid kb
  clear kb
  go_wp2_with fail
  (with_reducible refine KK.out.mono ?_)
  rintro e v52 ⟨rfl, hb52⟩
  clear KK
  have HL53 := Lib.hid (HL51.out.below hb52)
  clear HL51
  clear hb52
  have kp := live_putK HL53.out [109] 0 0 0 0 ⟨#[]⟩ ⟨#[120]⟩ none none 0 0 0 0 [] [] (fun W _ => Rd.nil) (fun W _ => Rd.nil) (by decide) (by decide) (by decide) (by decide) (by decide) (by decide) (by decide) (by omega) HT.out
  have hz : sizeZ ⟨[109].toArray⟩ ⟨#[]⟩ ⟨#[120]⟩ [] [] = 66 := by kernel_rfl
  rw [hz] at kp
  have hp : ∀ x, (putE 2 1000 (nameB [109] []) 66 x ([⟨(nameB [107] [(accL, [97])]), 73, ⟨⟨[107].toArray⟩, 0, ⟨#[]⟩, 0, g25A, g25n, g25c, ⟨#[121]⟩, 0, 0, u25A, u25n, u25c, 2, [], [(accL, [97])]⟩⟩, ⟨(nameB [107] []), 66, ⟨⟨[107].toArray⟩, 0, ⟨#[]⟩, 0, g42A, g42n, g42c, ⟨#[122]⟩, 0, 0, u42A, u42n, u42c, 3, [], []⟩⟩] : List Ent)).2 = ([⟨(nameB [107] []), 66, ⟨⟨[107].toArray⟩, 0, ⟨#[]⟩, 0, g42A, g42n, g42c, ⟨#[122]⟩, 0, 0, u42A, u42n, u42c, 3, [], []⟩⟩, ⟨(nameB [109] []), 66, x⟩] : List Ent) := fun x => by kernel_rfl
  have hh : ∀ x : Hv, hasE (nameB [109] []) ([⟨(nameB [107] []), 66, ⟨⟨[107].toArray⟩, 0, ⟨#[]⟩, 0, g42A, g42n, g42c, ⟨#[122]⟩, 0, 0, u42A, u42n, u42c, 3, [], []⟩⟩, ⟨(nameB [109] []), 66, x⟩] : List Ent) = true := fun x => by kernel_rfl
  simp only [hp, hh] at kp
  unfold entV at kp
  clear hz hp hh
  have KK := Lib.hid kp
  clear kp
  go_wp2_with fail
  (with_reducible refine KK.out.mono ?_)
  rintro e v54 ⟨⟨a1, a2, a3, a4, g54A, g54n, g54c, a5, a6, a7, u54A, u54n, u54c, a8, a9, a10⟩, hx, rfl, hl, hk⟩
  clear KK
  obtain ⟨q1, q2, q3, q4, q5, q6, q7, q8, q9, q10⟩ := hx
  simp only at q1 q2 q3 q4 q5 q6 q7 q8 q9 q10
  replace q1 := q1.symm; subst q1; replace q2 := q2.symm; subst q2; replace q3 := q3.symm; subst q3; replace q4 := q4.symm; subst q4; replace q5 := q5.symm; subst q5; replace q6 := q6.symm; subst q6; replace q7 := q7.symm; subst q7; replace q8 := q8.symm; subst q8; replace q9 := q9.symm; subst q9; replace q10 := q10.symm; subst q10
  have hl2 : Live w v54 sb bl 2 1000 ([⟨(nameB [107] []), 66, ⟨⟨[107].toArray⟩, 0, ⟨#[]⟩, 0, g42A, g42n, g42c, ⟨#[122]⟩, 0, 0, u42A, u42n, u42c, 3, [], []⟩⟩, ⟨(nameB [109] []), 66, ⟨⟨[109].toArray⟩, 0, ⟨#[]⟩, 0, g54A, g54n, g54c, ⟨#[120]⟩, 0, 0, u54A, u54n, u54c, 4, [], []⟩⟩] : List Ent) 4 := hl
  have HL55 := Lib.hid (hl2)
  clear HL53
  clear hl hl2 hk
  have kn := live_keys HL55.out
  rw [show (([⟨(nameB [107] []), 66, ⟨⟨[107].toArray⟩, 0, ⟨#[]⟩, 0, g42A, g42n, g42c, ⟨#[122]⟩, 0, 0, u42A, u42n, u42c, 3, [], []⟩⟩, ⟨(nameB [109] []), 66, ⟨⟨[109].toArray⟩, 0, ⟨#[]⟩, 0, g54A, g54n, g54c, ⟨#[120]⟩, 0, 0, u54A, u54n, u54c, 4, [], []⟩⟩] : List Ent).map fun e => e.x.key.data.toList) = [[107], [109]] from by kernel_rfl] at kn
  have kn2 := Calls.mono kn (R' := fun e w' => ∃ a c, e = .returned (.slice a 2 c) ∧ OwnS v54.heap.size (.slice a 2 c) [[107], [109]] w' ∧ Below v54.heap.size v54 w') (fun e w' h => by obtain ⟨a, c, h1, h2, h3⟩ := h; exact ⟨a, c, h1, h2, h3⟩)
  clear kn
  have KK := Lib.hid kn2
  clear kn2
  go_wp2_with fail
  (with_reducible refine KK.out.mono ?_)
  rintro e v56 ⟨ta, tc, rfl, hO, hb⟩
  clear KK
  have HL57 := Lib.hid (HL55.out.below hb)
  clear HL55
  have kj := join_any _ tc ta [[107], [109]] ⟨#[32]⟩ v56 hO (by decide) (by decide)
  rw [show (⟨(Lib.join [[107], [109]] (⟨#[32]⟩ : ByteArray).data.toList).toArray⟩ : ByteArray) = ⟨#[107, 32, 109]⟩ from by kernel_rfl] at kj
  rw [show ([[107], [109]] : List (List UInt8)).length = 2 from rfl] at kj
  clear hO hb
  have KK := Lib.hid kj
  clear kj
  go_wp2_with fail
  (with_reducible refine KK.out.mono ?_)
  rintro e v58 ⟨rfl, hb⟩
  clear KK
  have HL59 := Lib.hid (HL57.out.below hb)
  clear HL57
  clear hb
  have kf := live_forget HL59.out 0
  rw [show forB ([⟨(nameB [107] []), 66, ⟨⟨[107].toArray⟩, 0, ⟨#[]⟩, 0, g42A, g42n, g42c, ⟨#[122]⟩, 0, 0, u42A, u42n, u42c, 3, [], []⟩⟩, ⟨(nameB [109] []), 66, ⟨⟨[109].toArray⟩, 0, ⟨#[]⟩, 0, g54A, g54n, g54c, ⟨#[120]⟩, 0, 0, u54A, u54n, u54c, 4, [], []⟩⟩] : List Ent) 0 = true from by kernel_rfl, show forL ([⟨(nameB [107] []), 66, ⟨⟨[107].toArray⟩, 0, ⟨#[]⟩, 0, g42A, g42n, g42c, ⟨#[122]⟩, 0, 0, u42A, u42n, u42c, 3, [], []⟩⟩, ⟨(nameB [109] []), 66, ⟨⟨[109].toArray⟩, 0, ⟨#[]⟩, 0, g54A, g54n, g54c, ⟨#[120]⟩, 0, 0, u54A, u54n, u54c, 4, [], []⟩⟩] : List Ent) 0 = ([⟨(nameB [109] []), 66, ⟨⟨[109].toArray⟩, 0, ⟨#[]⟩, 0, g54A, g54n, g54c, ⟨#[120]⟩, 0, 0, u54A, u54n, u54c, 4, [], []⟩⟩] : List Ent) from by kernel_rfl] at kf
  have KK := Lib.hid kf
  clear kf
  go_wp2_with fail
  (with_reducible refine KK.out.mono ?_)
  rintro e v60 ⟨rfl, hl, hk⟩
  clear KK
  have HL61 := Lib.hid (hl)
  clear HL59
  clear hl hk
  have kf := live_forget HL61.out 1
  rw [show forB ([⟨(nameB [109] []), 66, ⟨⟨[109].toArray⟩, 0, ⟨#[]⟩, 0, g54A, g54n, g54c, ⟨#[120]⟩, 0, 0, u54A, u54n, u54c, 4, [], []⟩⟩] : List Ent) 1 = false from by kernel_rfl, show forL ([⟨(nameB [109] []), 66, ⟨⟨[109].toArray⟩, 0, ⟨#[]⟩, 0, g54A, g54n, g54c, ⟨#[120]⟩, 0, 0, u54A, u54n, u54c, 4, [], []⟩⟩] : List Ent) 1 = ([⟨(nameB [109] []), 66, ⟨⟨[109].toArray⟩, 0, ⟨#[]⟩, 0, g54A, g54n, g54c, ⟨#[120]⟩, 0, 0, u54A, u54n, u54c, 4, [], []⟩⟩] : List Ent) from by kernel_rfl] at kf
  have KK := Lib.hid kf
  clear kf
  go_wp2_with fail
  (with_reducible refine KK.out.mono ?_)
  rintro e v62 ⟨rfl, hl, hk⟩
  clear KK
  have HL63 := Lib.hid (hl)
  clear HL61
  clear hl hk
  have kf := live_forget HL63.out (-1)
  rw [show forB ([⟨(nameB [109] []), 66, ⟨⟨[109].toArray⟩, 0, ⟨#[]⟩, 0, g54A, g54n, g54c, ⟨#[120]⟩, 0, 0, u54A, u54n, u54c, 4, [], []⟩⟩] : List Ent) (-1) = false from by kernel_rfl, show forL ([⟨(nameB [109] []), 66, ⟨⟨[109].toArray⟩, 0, ⟨#[]⟩, 0, g54A, g54n, g54c, ⟨#[120]⟩, 0, 0, u54A, u54n, u54c, 4, [], []⟩⟩] : List Ent) (-1) = ([⟨(nameB [109] []), 66, ⟨⟨[109].toArray⟩, 0, ⟨#[]⟩, 0, g54A, g54n, g54c, ⟨#[120]⟩, 0, 0, u54A, u54n, u54c, 4, [], []⟩⟩] : List Ent) from by kernel_rfl] at kf
  have KK := Lib.hid kf
  clear kf
  go_wp2_with fail
  (with_reducible refine KK.out.mono ?_)
  rintro e v64 ⟨rfl, hl, hk⟩
  clear KK
  have HL65 := Lib.hid (hl)
  clear HL63
  clear hl hk
  have kn := live_keys HL65.out
  rw [show (([⟨(nameB [109] []), 66, ⟨⟨[109].toArray⟩, 0, ⟨#[]⟩, 0, g54A, g54n, g54c, ⟨#[120]⟩, 0, 0, u54A, u54n, u54c, 4, [], []⟩⟩] : List Ent).map fun e => e.x.key.data.toList) = [[109]] from by kernel_rfl] at kn
  have kn2 := Calls.mono kn (R' := fun e w' => ∃ a c, e = .returned (.slice a 1 c) ∧ OwnS v64.heap.size (.slice a 1 c) [[109]] w' ∧ Below v64.heap.size v64 w') (fun e w' h => by obtain ⟨a, c, h1, h2, h3⟩ := h; exact ⟨a, c, h1, h2, h3⟩)
  clear kn
  have KK := Lib.hid kn2
  clear kn2
  go_wp2_with fail
  (with_reducible refine KK.out.mono ?_)
  rintro e v66 ⟨ta, tc, rfl, hO, hb⟩
  clear KK
  have HL67 := Lib.hid (HL65.out.below hb)
  clear HL65
  have kj := join_any _ tc ta [[109]] ⟨#[32]⟩ v66 hO (by decide) (by decide)
  rw [show (⟨(Lib.join [[109]] (⟨#[32]⟩ : ByteArray).data.toList).toArray⟩ : ByteArray) = ⟨#[109]⟩ from by kernel_rfl] at kj
  rw [show ([[109]] : List (List UInt8)).length = 1 from rfl] at kj
  clear hO hb
  have KK := Lib.hid kj
  clear kj
  go_wp2_with fail
  (with_reducible refine KK.out.mono ?_)
  rintro e v68 ⟨rfl, hb⟩
  clear KK
  have HL69 := Lib.hid (HL67.out.below hb)
  clear HL67
  clear hb
  have kr := Tryd.strings_Repeat ⟨#[120]⟩ 937 v68 (by decide) (by decide)
  have hz70 : sizeZ ⟨[107].toArray⟩ ⟨#[]⟩ ⟨(Lib.repeatL (⟨#[120]⟩ : ByteArray).data.toList 937).toArray⟩ [] [] = 1002 := by kernel_rfl
  have hs70 : (⟨(Lib.repeatL (⟨#[120]⟩ : ByteArray).data.toList 937).toArray⟩ : ByteArray).size ≤ 10000 := by rw [show (⟨(Lib.repeatL (⟨#[120]⟩ : ByteArray).data.toList 937).toArray⟩ : ByteArray).size = 937 from by kernel_rfl]; omega
  rw [show ((937 : Nat) : Int) = 937 from rfl] at kr
  generalize (⟨(Lib.repeatL (⟨#[120]⟩ : ByteArray).data.toList 937).toArray⟩ : ByteArray) = RB70 at *
  have KK := Lib.hid kr
  clear kr
  go_wp2_with fail
  (with_reducible refine KK.out.mono ?_)
  rintro e v70 ⟨rfl, hb⟩
  clear KK
  have HL71 := Lib.hid (HL69.out.below hb)
  clear HL69
  clear hb
  have kb := body_any RB70 v70
  unfold entV at kb
  have KK := Lib.hid kb
  clear kb
  go_wp2_with fail
  (with_reducible refine KK.out.mono ?_)
  rintro e v72 ⟨rfl, hb72⟩
  clear KK
  have HL73 := Lib.hid (HL71.out.below hb72)
  clear HL71
  clear hb72
  have kp := live_putK HL73.out [107] 0 0 0 0 ⟨#[]⟩ RB70 none none 0 0 0 0 [] [] (fun W _ => Rd.nil) (fun W _ => Rd.nil) (by decide) (by decide) (by decide) (by decide) (by decide) (by decide) hs70 (by omega) HT.out
  have hz : sizeZ ⟨[107].toArray⟩ ⟨#[]⟩ RB70 [] [] = 1002 := hz70
  rw [hz] at kp
  have hp : ∀ x, (putE 2 1000 (nameB [107] []) 1002 x ([⟨(nameB [109] []), 66, ⟨⟨[109].toArray⟩, 0, ⟨#[]⟩, 0, g54A, g54n, g54c, ⟨#[120]⟩, 0, 0, u54A, u54n, u54c, 4, [], []⟩⟩] : List Ent)).2 = ([⟨(nameB [109] []), 66, ⟨⟨[109].toArray⟩, 0, ⟨#[]⟩, 0, g54A, g54n, g54c, ⟨#[120]⟩, 0, 0, u54A, u54n, u54c, 4, [], []⟩⟩] : List Ent) := fun x => by kernel_rfl
  have hh : hasE (nameB [107] []) ([⟨(nameB [109] []), 66, ⟨⟨[109].toArray⟩, 0, ⟨#[]⟩, 0, g54A, g54n, g54c, ⟨#[120]⟩, 0, 0, u54A, u54n, u54c, 4, [], []⟩⟩] : List Ent) = false := by kernel_rfl
  simp only [hp, hh] at kp
  unfold entV at kp
  clear hz hp hh
  have KK := Lib.hid kp
  clear kp
  go_wp2_with fail
  (with_reducible refine KK.out.mono ?_)
  rintro e v74 ⟨⟨a1, a2, a3, a4, g74A, g74n, g74c, a5, a6, a7, u74A, u74n, u74c, a8, a9, a10⟩, hx, rfl, hl, hk⟩
  clear KK
  obtain ⟨q1, q2, q3, q4, q5, q6, q7, q8, q9, q10⟩ := hx
  simp only at q1 q2 q3 q4 q5 q6 q7 q8 q9 q10
  replace q1 := q1.symm; subst q1; replace q2 := q2.symm; subst q2; replace q3 := q3.symm; subst q3; replace q4 := q4.symm; subst q4; replace q5 := q5.symm; subst q5; replace q6 := q6.symm; subst q6; replace q7 := q7.symm; subst q7; replace q8 := q8.symm; subst q8; replace q9 := q9.symm; subst q9; replace q10 := q10.symm; subst q10
  have hl2 : Live w v74 sb bl 2 1000 ([⟨(nameB [109] []), 66, ⟨⟨[109].toArray⟩, 0, ⟨#[]⟩, 0, g54A, g54n, g54c, ⟨#[120]⟩, 0, 0, u54A, u54n, u54c, 4, [], []⟩⟩] : List Ent) 5 := hl
  have HL75 := Lib.hid (hl2)
  clear HL73
  clear hl hl2 hk
  have kl := live_len HL75.out
  rw [show ((([⟨(nameB [109] []), 66, ⟨⟨[109].toArray⟩, 0, ⟨#[]⟩, 0, g54A, g54n, g54c, ⟨#[120]⟩, 0, 0, u54A, u54n, u54c, 4, [], []⟩⟩] : List Ent).length : Nat) : Int) = 1 from rfl] at kl
  have KK := Lib.hid kl
  clear kl
  go_wp2_with fail
  (with_reducible refine KK.out.mono ?_)
  rintro e vz ⟨rfl, rfl⟩
  clear KK
  have kf := live_drop HL75.out [109]
  rw [show dropN [109] ([⟨(nameB [109] []), 66, ⟨⟨[109].toArray⟩, 0, ⟨#[]⟩, 0, g54A, g54n, g54c, ⟨#[120]⟩, 0, 0, u54A, u54n, u54c, 4, [], []⟩⟩] : List Ent) = 1 from by kernel_rfl, show dropL [109] ([⟨(nameB [109] []), 66, ⟨⟨[109].toArray⟩, 0, ⟨#[]⟩, 0, g54A, g54n, g54c, ⟨#[120]⟩, 0, 0, u54A, u54n, u54c, 4, [], []⟩⟩] : List Ent) = ([] : List Ent) from by kernel_rfl] at kf
  have KK := Lib.hid kf
  clear kf
  go_wp2_with fail
  (with_reducible refine KK.out.mono ?_)
  rintro e v76 ⟨rfl, hl, hk⟩
  clear KK
  have HL77 := Lib.hid (hl)
  clear HL75
  clear hl hk
  have kf := live_drop HL77.out [109]
  rw [show dropN [109] ([] : List Ent) = 0 from by kernel_rfl, show dropL [109] ([] : List Ent) = ([] : List Ent) from by kernel_rfl] at kf
  have KK := Lib.hid kf
  clear kf
  go_wp2_with fail
  (with_reducible refine KK.out.mono ?_)
  rintro e v78 ⟨rfl, hl, hk⟩
  clear KK
  have HL79 := Lib.hid (hl)
  clear HL77
  clear hl hk
  have kb := body_any ⟨#[120]⟩ v78
  unfold entV at kb
  have KK := Lib.hid kb
  clear kb
  go_wp2_with fail
  (with_reducible refine KK.out.mono ?_)
  rintro e v80 ⟨rfl, hb80⟩
  clear KK
  have HL81 := Lib.hid (HL79.out.below hb80)
  clear HL79
  clear hb80
  have kf := live_remove HL81.out [107] 0 0 0 0 ⟨#[]⟩ ⟨#[120]⟩ none none 0 0 0 0 [] Rd.nil (by decide) (by decide) (by decide) HT.out
  rw [show hasE (nameB [107] []) ([] : List Ent) = false from by kernel_rfl, show delE (nameB [107] []) ([] : List Ent) = ([] : List Ent) from by kernel_rfl] at kf
  unfold entV at kf
  have KK := Lib.hid kf
  clear kf
  go_wp2_with fail
  (with_reducible refine KK.out.mono ?_)
  rintro e v82 ⟨rfl, hl, hk⟩
  clear KK
  have HL83 := Lib.hid (hl)
  clear HL81
  clear hl hk
  have kr := Tryd.strings_Repeat ⟨#[120]⟩ 935 v82 (by decide) (by decide)
  have hz84 : sizeZ ⟨[107].toArray⟩ ⟨#[]⟩ ⟨(Lib.repeatL (⟨#[120]⟩ : ByteArray).data.toList 935).toArray⟩ [] [] = 1000 := by kernel_rfl
  have hs84 : (⟨(Lib.repeatL (⟨#[120]⟩ : ByteArray).data.toList 935).toArray⟩ : ByteArray).size ≤ 10000 := by rw [show (⟨(Lib.repeatL (⟨#[120]⟩ : ByteArray).data.toList 935).toArray⟩ : ByteArray).size = 935 from by kernel_rfl]; omega
  rw [show ((935 : Nat) : Int) = 935 from rfl] at kr
  generalize (⟨(Lib.repeatL (⟨#[120]⟩ : ByteArray).data.toList 935).toArray⟩ : ByteArray) = RB84 at *
  have KK := Lib.hid kr
  clear kr
  go_wp2_with fail
  (with_reducible refine KK.out.mono ?_)
  rintro e v84 ⟨rfl, hb⟩
  clear KK
  have HL85 := Lib.hid (HL83.out.below hb)
  clear HL83
  clear hb
  have kb := body_any RB84 v84
  unfold entV at kb
  have KK := Lib.hid kb
  clear kb
  go_wp2_with fail
  (with_reducible refine KK.out.mono ?_)
  rintro e v86 ⟨rfl, hb86⟩
  clear KK
  have HL87 := Lib.hid (HL85.out.below hb86)
  clear HL85
  clear hb86
  have kp := live_putK HL87.out [107] 0 0 0 0 ⟨#[]⟩ RB84 none none 0 0 0 0 [] [] (fun W _ => Rd.nil) (fun W _ => Rd.nil) (by decide) (by decide) (by decide) (by decide) (by decide) (by decide) hs84 (by omega) HT.out
  have hz : sizeZ ⟨[107].toArray⟩ ⟨#[]⟩ RB84 [] [] = 1000 := hz84
  rw [hz] at kp
  have hp : ∀ x, (putE 2 1000 (nameB [107] []) 1000 x ([] : List Ent)).2 = ([⟨(nameB [107] []), 1000, x⟩] : List Ent) := fun x => by kernel_rfl
  have hh : ∀ x : Hv, hasE (nameB [107] []) ([⟨(nameB [107] []), 1000, x⟩] : List Ent) = true := fun x => by kernel_rfl
  simp only [hp, hh] at kp
  unfold entV at kp
  clear hz hp hh
  have KK := Lib.hid kp
  clear kp
  go_wp2_with fail
  (with_reducible refine KK.out.mono ?_)
  rintro e v88 ⟨⟨a1, a2, a3, a4, g88A, g88n, g88c, a5, a6, a7, u88A, u88n, u88c, a8, a9, a10⟩, hx, rfl, hl, hk⟩
  clear KK
  obtain ⟨q1, q2, q3, q4, q5, q6, q7, q8, q9, q10⟩ := hx
  simp only at q1 q2 q3 q4 q5 q6 q7 q8 q9 q10
  replace q1 := q1.symm; subst q1; replace q2 := q2.symm; subst q2; replace q3 := q3.symm; subst q3; replace q4 := q4.symm; subst q4; replace q5 := q5.symm; subst q5; replace q6 := q6.symm; subst q6; replace q7 := q7.symm; subst q7; replace q8 := q8.symm; subst q8; replace q9 := q9.symm; subst q9; replace q10 := q10.symm; subst q10
  have hl2 : Live w v88 sb bl 2 1000 ([⟨(nameB [107] []), 1000, ⟨⟨[107].toArray⟩, 0, ⟨#[]⟩, 0, g88A, g88n, g88c, RB84, 0, 0, u88A, u88n, u88c, 6, [], []⟩⟩] : List Ent) 6 := hl
  have HL89 := Lib.hid (hl2)
  clear HL87
  clear hl hl2 hk
  have kb := body_any ⟨#[]⟩ v88
  unfold entV at kb
  have KK := Lib.hid kb
  clear kb
  go_wp2_with fail
  (with_reducible refine KK.out.mono ?_)
  rintro e v90 ⟨rfl, hb90⟩
  clear KK
  have HL91 := Lib.hid (HL89.out.below hb90)
  clear HL89
  clear hb90
  have kf := live_remove HL91.out [107] 0 0 0 0 ⟨#[]⟩ ⟨#[]⟩ none none 0 0 0 0 [] Rd.nil (by decide) (by decide) (by decide) HT.out
  rw [show hasE (nameB [107] []) ([⟨(nameB [107] []), 1000, ⟨⟨[107].toArray⟩, 0, ⟨#[]⟩, 0, g88A, g88n, g88c, RB84, 0, 0, u88A, u88n, u88c, 6, [], []⟩⟩] : List Ent) = true from by kernel_rfl, show delE (nameB [107] []) ([⟨(nameB [107] []), 1000, ⟨⟨[107].toArray⟩, 0, ⟨#[]⟩, 0, g88A, g88n, g88c, RB84, 0, 0, u88A, u88n, u88c, 6, [], []⟩⟩] : List Ent) = ([] : List Ent) from by kernel_rfl] at kf
  unfold entV at kf
  have KK := Lib.hid kf
  clear kf
  go_wp2_with fail
  (with_reducible refine KK.out.mono ?_)
  rintro e v92 ⟨rfl, hl, hk⟩
  clear KK
  have HL93 := Lib.hid (hl)
  clear HL91
  clear hl hk
  have kl := live_bytes HL93.out
  rw [show sumE ([] : List Ent) = 0 from by kernel_rfl] at kl
  have KK := Lib.hid kl
  clear kl
  go_wp2_with fail
  (with_reducible refine KK.out.mono ?_)
  rintro e vz ⟨rfl, rfl⟩
  clear KK
  have HN : Hid (∀ W, NoSt W (.pointer none)) := Lib.hid (fun W => Or.inl rfl)
  obtain ⟨W7, hW7⟩ : ∃ W7, v92.alloc (.cells #[.pointer none, .int .i64 0] 57) = W7 := ⟨_, rfl⟩
  have hz7 : NoSt W7 (.pointer (some ⟨v92.heap.size, 0, none⟩)) := Or.inr ⟨_, 0, rfl, by rw [← hW7]; exact heap_new v92 _ _ rfl⟩
  have hb7 : Below w.heap.size w W7 := by rw [← hW7]; exact HL93.out.base.alloc HL93.out.base.size _
  have HW7 := Lib.hid hW7; have HZ := Lib.hid hz7; have HB := Lib.hid hb7
  clear hW7 hz7 hb7 HL93
  go_upto_region 14 with (fail)
  rw [HW7.out]
  clear HW7
  generalize v92.heap.size = zb at *
  have kk := find_no (HN.out W7) ⟨#[107]⟩ none 0 0
  have KK := Lib.hid kk
  clear kk
  go_wp2_with fail
  (with_reducible refine KK.out.mono ?_)
  rintro e n94 ⟨rfl, hbn⟩
  clear KK
  have HZ95 := Lib.hid (HZ.out.below hbn); have HB95 := Lib.hid (bt HB.out hbn)
  clear HZ HB hbn
  unfold entV
  obtain ⟨W8, hW8⟩ : ∃ W8, n94.alloc (.cells #[.int .i64 0, .string ⟨#[]⟩, .int .i64 0, .slice none 0 0, .string ⟨#[]⟩, .int .i64 0, .int .i64 0, .slice none 0 0] 33) = W8 := ⟨_, rfl⟩
  have hb8 : Below n94.heap.size n94 W8 := by rw [← hW8]; exact (Below.refl _ _).alloc (Nat.le_refl _) _
  have HW8 := Lib.hid hW8
  clear hW8
  have HZ97 := Lib.hid (HZ95.out.below hb8); have HB97 := Lib.hid (bt HB95.out hb8)
  clear HZ95 HB95 hb8
  go_wp2_with fail
  rw [HW8.out]
  have kb := body_any ⟨#[120]⟩ W8
  unfold entV at kb
  have KK := Lib.hid kb
  clear kb
  (with_reducible refine KK.out.mono ?_)
  rintro e n98 ⟨rfl, hbn⟩
  clear KK
  have HZ99 := Lib.hid (HZ97.out.below hbn); have HB99 := Lib.hid (bt HB97.out hbn)
  clear HZ97 HB97 hbn
  have kk := put_no HZ99.out ⟨#[107]⟩ ⟨#[120]⟩
  unfold entV at kk
  have KK := Lib.hid kk
  clear kk
  go_wp2_with fail
  (with_reducible refine KK.out.mono ?_)
  rintro e n100 ⟨rfl, hbn⟩
  clear KK
  have HZ101 := Lib.hid (HZ99.out.below hbn); have HB101 := Lib.hid (bt HB99.out hbn)
  clear HZ99 HB99 hbn
  have kb := body_any ⟨#[120]⟩ n100
  unfold entV at kb
  have KK := Lib.hid kb
  clear kb
  go_wp2_with fail
  (with_reducible refine KK.out.mono ?_)
  rintro e n102 ⟨rfl, hbn⟩
  clear KK
  have HZ103 := Lib.hid (HZ101.out.below hbn); have HB103 := Lib.hid (bt HB101.out hbn)
  clear HZ101 HB101 hbn
  have kk := put_no (HN.out n102) ⟨#[107]⟩ ⟨#[120]⟩
  unfold entV at kk
  have KK := Lib.hid kk
  clear kk
  go_wp2_with fail
  (with_reducible refine KK.out.mono ?_)
  rintro e n104 ⟨rfl, hbn⟩
  clear KK
  have HZ105 := Lib.hid (HZ103.out.below hbn); have HB105 := Lib.hid (bt HB103.out hbn)
  clear HZ103 HB103 hbn
  have kk := drop_no (HN.out n104) ⟨#[107]⟩
  have KK := Lib.hid kk
  clear kk
  go_wp2_with fail
  (with_reducible refine KK.out.mono ?_)
  rintro e nz ⟨rfl, rfl⟩
  clear KK
  have kb := body_any ⟨#[120]⟩ n104
  unfold entV at kb
  have KK := Lib.hid kb
  clear kb
  go_wp2_with fail
  (with_reducible refine KK.out.mono ?_)
  rintro e n106 ⟨rfl, hbn⟩
  clear KK
  have HZ107 := Lib.hid (HZ105.out.below hbn); have HB107 := Lib.hid (bt HB105.out hbn)
  clear HZ105 HB105 hbn
  have kk := remove_no HZ107.out ⟨#[107]⟩ ⟨#[120]⟩
  unfold entV at kk
  have KK := Lib.hid kk
  clear kk
  go_wp2_with fail
  (with_reducible refine KK.out.mono ?_)
  rintro e n108 ⟨rfl, hbn⟩
  clear KK
  have HZ109 := Lib.hid (HZ107.out.below hbn); have HB109 := Lib.hid (bt HB107.out hbn)
  clear HZ107 HB107 hbn
  have kk := forget_no (HN.out n108) 0
  have KK := Lib.hid kk
  clear kk
  go_wp2_with fail
  (with_reducible refine KK.out.mono ?_)
  rintro e nz ⟨rfl, rfl⟩
  clear KK
  have kk := names_no HZ109.out ⟨#[107]⟩
  have KK := Lib.hid kk
  clear kk
  go_wp2_with fail
  (with_reducible refine KK.out.mono ?_)
  rintro e nz ⟨rfl, rfl⟩
  clear KK
  have kk := len_no HZ109.out
  have KK := Lib.hid kk
  clear kk
  go_wp2_with fail
  (with_reducible refine KK.out.mono ?_)
  rintro e nz ⟨rfl, rfl⟩
  clear KK
  have kk := bytes_no (HN.out n108)
  have KK := Lib.hid kk
  clear kk
  go_wp2_with fail
  (with_reducible refine KK.out.mono ?_)
  rintro e nz ⟨rfl, rfl⟩
  clear KK
  have kk := keys_no (HN.out n108)
  have KK := Lib.hid kk
  clear kk
  go_wp2_with fail
  (with_reducible refine KK.out.mono ?_)
  rintro e nz ⟨rfl, rfl⟩
  clear KK
  have kk := new_bad 0 1 n108 (by omega)
  have KK := Lib.hid kk
  clear kk
  go_wp2_with fail
  (with_reducible refine KK.out.mono ?_)
  rintro e nz ⟨rfl, rfl⟩
  clear KK
  have kk := new_bad 1 0 n108 (by omega)
  have KK := Lib.hid kk
  clear kk
  go_wp2_with fail
  (with_reducible refine KK.out.mono ?_)
  rintro e nz ⟨rfl, rfl⟩
  clear KK
  have kk := new_bad 4097 1 n108 (by omega)
  have KK := Lib.hid kk
  clear kk
  go_wp2_with fail
  (with_reducible refine KK.out.mono ?_)
  rintro e nz ⟨rfl, rfl⟩
  clear KK
  have kk := awake19_any n108 (HT.out.on HB109.out)
  have KK := Lib.hid kk
  clear kk
  go_wp2_with fail
  (with_reducible refine KK.out.mono ?_)
  rintro e nf ⟨rfl, hbf⟩
  clear KK
  have HE := Lib.hid (bt HB109.out hbf)
  clear hbf
  go_wp2
  go_ret
  exact ⟨rfl, HE.out⟩
end Go.Proofs.YtokhlmoanlcjmaaDoor
