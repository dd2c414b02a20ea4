/- Joined out of the texts St11, Apart, Two, StApart (wip/tools/merge.py). -/
import Derived.Test.YtokhlmoanlcjmaaDoorPt3
import Derived.Lib.SlicesS
/- Store: what StoreKnown needs besides: rows made behind the store, accept, Names, stores that are none. -/
namespace Go.Proofs.YtokhlmoanlcjmaaDoor
open Go.RowKit
set_option maxRecDepth 100000

theorem StAt.kept {w w' : World} {sb : Nat} {fp : List Nat} {bl : Nat} {n m : Int} {es : List Ent} {put : Int} (h : StAt w sb fp bl n m es put) (ht : Touch (sb :: fp) w w') : Kept w w' := by
  refine ⟨ht.2.2.2.1, fun g cs T z h1 a b c => ?_⟩
  rcases Nat.lt_or_ge g w.heap.size with h' | h'
  · refine (ht.2.2.2.2 g h' (fun hm => ?_)).trans h1
    rcases List.mem_cons.1 hm with rfl | hm
    · rw [h.blk] at h1
      injection h1 with h1
      injection h1 with _ h1 _
      exact c h1.symm
    · rcases h.bud.kind g hm _ _ _ h1 with e | e
      · exact a e
      · exact b e
  · simp [Array.getElem?_eq_none h'] at h1
theorem live_putK {w0 w : World} {sb bl : Nat} {nn mm : Int} {es : List Ent} {put : Int} (h : Live w0 w sb bl nn mm es put) (key : List UInt8) (st mi asked got : Int) (re bo : ByteArray) (A V : Option Addr) (n c m d : Nat) (fl vl : List Fld) (hr : ∀ W, Kept w W → Rd A n 2 (fldsV fl) W) (hq : ∀ W, Kept w W → Rd V m 2 (fldsV vl) W) (hk : key.length ≤ 1000) (hn : fl.length ≤ 100) (hm : vl.length ≤ 100) (hs : sumF fl ≤ 10000) (hs2 : sumF vl ≤ 10000) (hre : re.size ≤ 10000) (hbo : bo.size ≤ 10000) (hp : 0 ≤ put ∧ put ≤ 1000) (ht : TabN w0) :
    Calls Tryd.prog 10 #[.pointer (some ⟨sb, 0, none⟩), .string ⟨key.toArray⟩, entV st re mi A n c bo asked got V m d] w fun e w' => ∃ x, NewX x key st mi asked got re bo fl vl (put + 1) ∧ e = .returned (.bool (hasE (nameB key vl) (putE nn mm (nameB key vl) (sizeZ ⟨key.toArray⟩ re bo fl vl) x es).2)) ∧ Live w0 w' sb bl nn mm (putE nn mm (nameB key vl) (sizeZ ⟨key.toArray⟩ re bo fl vl) x es).2 (put + 1) ∧ Kept w w' := by
  obtain ⟨fp, ha, h1, hf⟩ := h
  have hbw : ∀ W, Touch (sb :: fp) w W → Below w0.heap.size w0 W := fun W ht => h1.trans (ht.below hf h1.size)
  refine (put19_any ha key st mi asked got re bo A V n c m d fl vl (fun W ht => hr W (ha.kept ht)) (fun W ht => hq W (ha.kept ht)) hk hn hm hs hs2 hre hbo hp (fun W h' => ht.on (hbw W h'))).mono ?_
  rintro e w' ⟨a, ac, v, vc, rfl, hto⟩
  exact ⟨⟨⟨key.toArray⟩, st, re, mi, a, fl.length, ac, bo, asked, got, v, vl.length, vc, put + 1, fl, vl⟩, ⟨rfl, rfl, rfl, rfl, rfl, rfl, rfl, rfl, rfl, rfl⟩, rfl, Live.to h1 hf hto, hto.kept ha⟩
set_option maxHeartbeats 4000000 in
theorem findsK_wide {w0 w : World} {sb bl : Nat} {nn mm : Int} {es : List Ent} {put : Int} (h : Live w0 w sb bl nn mm es put) (kk : List UInt8) (A : Option Addr) (n c : Nat) (xs : List Fld) (hr : Rd A n 2 (fldsV xs) w) (hn : n ≤ 100) (hs : ∀ f ∈ xs, f.1.length ≤ 2000000 ∧ f.2.length ≤ 2000000) (hk : kk.length ≤ 1000) (ht : TabN w0) :
    Calls Tryd.prog 16 #[.pointer (some ⟨sb, 0, none⟩), .string ⟨kk.toArray⟩, .slice A n c] w fun e w' => e = .returned (.string (findsB (bestL kk xs es))) ∧ Live w0 w' sb bl nn mm (getO (bestL kk xs es) es) put ∧ Kept w w' := by
  obtain ⟨fp, ha, h1, hf⟩ := h
  have k1 := find19_wide ha kk A n c xs hr hn hs hk (fun W hb => ht.on (bt h1 hb))
  unfold FindPost at k1
  have K1 := Lib.hid k1; have H1 := Lib.hid h1; have HF := Lib.hid hf; have HA := Lib.hid ha
  clear k1 hr h1 hf ha
  cases hb : bestL kk xs es with
  | none =>
    rw [hb] at K1
    go_enter Tryd.func16, Tryd.ntmps16
    go_wp2_with fail
    (with_reducible refine K1.out.mono ?_)
    rintro e w1 ⟨rfl, hto⟩
    have hal := (Below.refl w1.heap.size w1).alloc (Nat.le_refl _) (.cells #[.int .i64 0, .string ⟨#[]⟩, .int .i64 0, .slice none 0 0, .string ⟨#[]⟩, .int .i64 0, .int .i64 0, .slice none 0 0] 33)
    have HL := Lib.hid ((Live.to H1.out HF.out hto).below hal); have HK := Lib.hid ((hto.kept HA.out).trans (Kept.of_below hal))
    clear hto hal
    unfold entV
    go_wp2
    go_ret
    exact ⟨rfl, HL.out, HK.out⟩
  | some b =>
    rw [hb] at K1
    go_enter Tryd.func16, Tryd.ntmps16
    go_wp2_with fail
    (with_reducible refine K1.out.mono ?_)
    rintro e w1 ⟨a, ac, v, vc, rfl, -, -, hto⟩
    have hal := (Below.refl w1.heap.size w1).alloc (Nat.le_refl _) (.cells #[.int .i64 b.x.st, .string b.x.re, .int .i64 b.x.mi, .slice a b.x.fl.length ac, .string b.x.bo, .int .i64 b.x.asked, .int .i64 b.x.got, .slice v b.x.vl.length vc] 33)
    have HL := Lib.hid ((Live.to H1.out HF.out hto).below hal); have HK := Lib.hid ((hto.kept HA.out).trans (Kept.of_below hal))
    clear hto hal
    unfold entV
    go_wp2
    go_ret
    exact ⟨rfl, HL.out, HK.out⟩
theorem findsK_any {w0 w : World} {sb bl : Nat} {nn mm : Int} {es : List Ent} {put : Int} (h : Live w0 w sb bl nn mm es put) (kk : List UInt8) (A : Option Addr) (n c : Nat) (xs : List Fld) (hr : Rd A n 2 (fldsV xs) w) (hn : n ≤ 100) (hs : ∀ f ∈ xs, f.1.length ≤ 10000 ∧ f.2.length ≤ 10000) (hk : kk.length ≤ 1000) (ht : TabN w0) :
    Calls Tryd.prog 16 #[.pointer (some ⟨sb, 0, none⟩), .string ⟨kk.toArray⟩, .slice A n c] w fun e w' => e = .returned (.string (findsB (bestL kk xs es))) ∧ Live w0 w' sb bl nn mm (getO (bestL kk xs es) es) put ∧ Kept w w' := findsK_wide h kk A n c xs hr hn (fun f hf => ⟨Nat.le_trans (hs f hf).1 (by decide), Nat.le_trans (hs f hf).2 (by decide)⟩) hk ht
def accL : List UInt8 := [97, 99, 99, 101, 112, 116]
theorem accept_any (v : List UInt8) (w : World) :
    Calls Tryd.prog 22 #[.string ⟨v.toArray⟩] w fun e w' => ∃ a, e = .returned (.slice a 1 1) ∧ OwnF w.heap.size (.slice a 1 1) [(accL, v)] w' ∧ Below w.heap.size w w' := by
  go_enter Tryd.func22, Tryd.ntmps22
  go_wp2
  go_ret
  refine ⟨some ⟨w.heap.size, 0, none⟩, rfl, ⟨rfl, Or.inr ⟨w.heap.size, 1, #[.string ⟨accL.toArray⟩, .string ⟨v.toArray⟩], rfl, Nat.le_refl _, heap_new w _ _ rfl, Nat.le_refl _, by unfold maxLen; omega, rfl, rfl⟩⟩, (Below.refl w.heap.size w).alloc (Nat.le_refl _) _⟩

/-! Stores that are none: nil, and one that New did not make. -/
/-- A receiver that is no store. -/
def NoSt (w : World) (v : Value) : Prop := v = .pointer none ∨ ∃ b p, v = .pointer (some ⟨b, 0, none⟩) ∧ w.heap[b]? = some (.cells #[.pointer none, .int .i64 p] 57 (0, 0))
theorem NoSt.below {w w' : World} {v : Value} (h : NoSt w v) (hb : Below w.heap.size w w') : NoSt w' v := by
  rcases h with h | ⟨b, p, h, hc⟩
  · exact Or.inl h
  · exact Or.inr ⟨b, p, h, (hb.block b (of_heap hc 0).2.2).trans hc⟩
theorem is_no {w : World} {v : Value} (h : NoSt w v) : Calls Tryd.prog 27 #[v] w fun e w' => e = .returned (.bool false) ∧ w = w' := by
  rcases h with rfl | ⟨b, p, rfl, hc⟩
  · go_enter Tryd.func27, Tryd.ntmps27
    go_wp2
    go_ret
    exact ⟨rfl, rfl⟩
  · have c0 := (of_heap hc 0).1
    simp only [List.getElem?_toArray, List.getElem?_cons_zero] at c0
    clear hc
    go_enter Tryd.func27, Tryd.ntmps27
    go_wp2
    go_ret
    exact ⟨rfl, rfl⟩
theorem len_no {w : World} {v : Value} (h : NoSt w v) : Calls Tryd.prog 19 #[v] w fun e w' => e = .returned (.int .i64 0) ∧ w = w' := by
  have K1 := Lib.hid (is_no h)
  clear h
  go_enter Tryd.func19, Tryd.ntmps19
  go_wp2_with fail
  (with_reducible refine K1.out.mono ?_)
  rintro e w1 ⟨rfl, rfl⟩
  go_wp2
  go_ret
  exact ⟨rfl, rfl⟩
theorem bytes_no {w : World} {v : Value} (h : NoSt w v) : Calls Tryd.prog 20 #[v] w fun e w' => e = .returned (.int .i64 0) ∧ w = w' := by
  have K1 := Lib.hid (is_no h)
  clear h
  go_enter Tryd.func20, Tryd.ntmps20
  go_wp2_with fail
  (with_reducible refine K1.out.mono ?_)
  rintro e w1 ⟨rfl, rfl⟩
  go_wp2
  go_ret
  exact ⟨rfl, rfl⟩
theorem keys_no {w : World} {v : Value} (h : NoSt w v) : Calls Tryd.prog 18 #[v] w fun e w' => e = .returned (.slice none 0 0) ∧ w = w' := by
  have K1 := Lib.hid (is_no h)
  clear h
  go_enter Tryd.func18, Tryd.ntmps18
  go_wp2_with fail
  (with_reducible refine K1.out.mono ?_)
  rintro e w1 ⟨rfl, rfl⟩
  go_wp2
  go_ret
  exact ⟨rfl, rfl⟩
theorem names_no {w : World} {v : Value} (h : NoSt w v) (key : ByteArray) : Calls Tryd.prog 24 #[v, .string key] w fun e w' => e = .returned (.slice none 0 0) ∧ w = w' := by
  have K1 := Lib.hid (is_no h)
  clear h
  go_enter Tryd.func24, Tryd.ntmps24
  go_wp2_with fail
  (with_reducible refine K1.out.mono ?_)
  rintro e w1 ⟨rfl, rfl⟩
  go_wp2
  go_ret
  exact ⟨rfl, rfl⟩
theorem drop_no {w : World} {v : Value} (h : NoSt w v) (key : ByteArray) : Calls Tryd.prog 12 #[v, .string key] w fun e w' => e = .returned (.int .i64 0) ∧ w = w' := by
  have K1 := Lib.hid (is_no h)
  clear h
  go_enter Tryd.func12, Tryd.ntmps12
  go_wp2_with fail
  (with_reducible refine K1.out.mono ?_)
  rintro e w1 ⟨rfl, rfl⟩
  go_wp2
  go_ret
  exact ⟨rfl, rfl⟩
theorem forget_no {w : World} {v : Value} (h : NoSt w v) (k : Int) : Calls Tryd.prog 15 #[v, .int .i64 k] w fun e w' => e = .returned (.bool false) ∧ w = w' := by
  have K1 := Lib.hid (is_no h)
  clear h
  go_enter Tryd.func15, Tryd.ntmps15
  go_wp2_with fail
  (with_reducible refine K1.out.mono ?_)
  rintro e w1 ⟨rfl, rfl⟩
  go_wp2
  go_ret
  exact ⟨rfl, rfl⟩
theorem put_no {w : World} {v : Value} (h : NoSt w v) (key s : ByteArray) : Calls Tryd.prog 10 #[v, .string key, entV 0 ⟨#[]⟩ 0 none 0 0 s 0 0 none 0 0] w fun e w' => e = .returned (.bool false) ∧ Below w.heap.size w w' := by
  obtain ⟨W1, hW1⟩ : ∃ W1, w.alloc (.cells #[.int .i64 0, .string ⟨#[]⟩, .int .i64 0, .slice none 0 0, .string s, .int .i64 0, .int .i64 0, .slice none 0 0] 33) = W1 := ⟨_, rfl⟩
  have b1 : Below w.heap.size w W1 := by rw [← hW1]; exact (Below.refl w.heap.size w).alloc (Nat.le_refl _) _
  have K1 := Lib.hid (is_no (h.below b1)); have HW := Lib.hid hW1; have B1 := Lib.hid b1
  clear h hW1 b1
  unfold entV
  go_enter Tryd.func10, Tryd.ntmps10
  go_upto_region 1 with (fail)
  rw [HW.out]
  go_wp2_with fail
  (with_reducible refine K1.out.mono ?_)
  rintro e w1 ⟨rfl, rfl⟩
  go_wp2
  go_ret
  exact ⟨rfl, B1.out⟩
end Go.Proofs.YtokhlmoanlcjmaaDoor
/- StoreApart: the plain law: what lies under a key, and what lies under others. -/
namespace Go.Proofs.YtokhlmoanlcjmaaDoor
open Go.RowKit

/-- Numerals are read back. -/
def valD (l : List UInt8) : Nat := l.foldl (fun a c => 10 * a + (c.toNat - 48)) 0
theorem valD_dec : ∀ u : Nat, valD (Lib.decDigits u) = u ∧ ∀ c ∈ Lib.decDigits u, c ≠ 32 := by
  intro u
  induction u using Nat.strongRecOn with
  | _ u ih =>
    rw [Lib.decDigits]
    have hd : ∀ k, k < 10 → (UInt8.ofNat (48 + k)).toNat = 48 + k := by
      intro k hk; simp; omega
    split
    · rename_i h
      refine ⟨?_, ?_⟩
      · show 10 * 0 + ((UInt8.ofNat (48 + u)).toNat - 48) = u
        rw [hd u h]; omega
      · intro c hc e
        rw [List.mem_singleton.1 hc] at e
        have := congrArg UInt8.toNat e
        rw [hd u h] at this
        exact absurd this (by rw [show (32 : UInt8).toNat = 32 from rfl]; omega)
    · rename_i h
      obtain ⟨h1, h2⟩ := ih (u / 10) (by omega)
      have hm : u % 10 < 10 := Nat.mod_lt _ (by decide)
      refine ⟨?_, ?_⟩
      · unfold valD at h1 ⊢
        rw [List.foldl_append, h1]
        show 10 * (u / 10) + ((UInt8.ofNat (48 + u % 10)).toNat - 48) = u
        rw [hd _ hm]; omega
      · intro c hc
        rcases List.mem_append.1 hc with hc | hc
        · exact h2 c hc
        · intro e
          rw [List.mem_singleton.1 hc] at e
          have := congrArg UInt8.toNat e
          rw [hd _ hm] at this
          exact absurd this (by rw [show (32 : UInt8).toNat = 32 from rfl]; omega)
theorem at_blank : ∀ (a b r s : List UInt8), (∀ c ∈ a, c ≠ 32) → (∀ c ∈ b, c ≠ 32) → a ++ 32 :: r = b ++ 32 :: s → a = b ∧ r = s
  | [], [], r, s, _, _, h => ⟨rfl, (List.cons.inj h).2⟩
  | [], y :: b, r, s, _, hb, h => absurd (List.cons.inj h).1.symm (hb y (by simp))
  | x :: a, [], r, s, ha, _, h => absurd (List.cons.inj h).1 (ha x (by simp))
  | x :: a, y :: b, r, s, ha, hb, h => by
    obtain ⟨h1, h2⟩ := List.cons.inj h
    obtain ⟨h3, h4⟩ := at_blank a b r s (fun c hc => ha c (by simp [hc])) (fun c hc => hb c (by simp [hc])) h2
    exact ⟨by rw [h1, h3], h4⟩
/-- A name tells its key. -/
theorem nameL_key {k1 k2 : List UInt8} {v1 v2 : List Fld} (h : nameL k1 v1 = nameL k2 v2) : k1 = k2 := by
  unfold nameL addL at h
  rw [Lib.itoa_nonneg, Lib.itoa_nonneg, List.append_assoc, List.append_assoc, List.cons_append, List.cons_append] at h
  obtain ⟨h1, h2⟩ := at_blank _ _ _ _ (valD_dec _).2 (valD_dec _).2 h
  have hl : k1.length = k2.length := by rw [← (valD_dec k1.length).1, h1, (valD_dec k2.length).1]
  exact (List.append_inj h2 hl).1

inductive All2 (R : Ent → Ent → Prop) : List Ent → List Ent → Prop where
  | nil : All2 R [] []
  | cons {e f : Ent} {a b : List Ent} : R e f → All2 R a b → All2 R (e :: a) (f :: b)
def keyOf (kk : List UInt8) (e : Ent) : Bool := e.x.key.data.toList == kk
/-- Alike: all but the number and what store reckons by it. -/
def AlikeE (e f : Ent) : Prop := e.key = f.key ∧ e.x.key = f.x.key ∧ e.x.vl = f.x.vl ∧ e.x.bo = f.x.bo
def Apart (kk : List UInt8) (ea eb : List Ent) : Prop := All2 AlikeE (ea.filter (keyOf kk)) eb
/-- What is put comes last: the numbers grow. -/
def Grows (es : List Ent) : Prop := es.Pairwise fun e f => e.x.num < f.x.num

theorem best_last (kk : List UInt8) (xs : List Fld) (es : List Ent) (hg : Grows es) (hp : ∀ e ∈ es, 0 < e.x.num) : bestL kk xs es = (es.filter fun e => keyOf kk e && matchesL e.x.vl xs).getLast? := by
  have key : ∀ (n : Nat) (es : List Ent), es.length = n → Grows es → (∀ e ∈ es, 0 < e.x.num) → bestL kk xs es = (es.filter fun e => keyOf kk e && matchesL e.x.vl xs).getLast? := by
    intro n
    induction n with
    | zero => intro es hl _ _; have := List.length_eq_zero_iff.1 hl; subst this; rfl
    | succ n ih =>
      intro es hl hg hp
      obtain ⟨p, e, rfl⟩ : ∃ p e, es = p ++ [e] := by
        rcases List.eq_nil_or_concat es with h | ⟨p, e, h⟩
        · subst h; simp at hl
        · exact ⟨p, e, by rw [h, List.concat_eq_append]⟩
      have hg' := List.pairwise_append.1 hg
      have hi := ih p (by simpa using hl) hg'.1 (fun x hx => hp x (by simp [hx]))
      have hs : bestL kk xs (p ++ [e]) = stepB kk xs (bestL kk xs p) e := by unfold bestL; rw [List.foldl_append]; rfl
      rw [hs, List.filter_append]
      have hnum : (boxO (bestL kk xs p)).num < e.x.num := by
        cases hb : bestL kk xs p with
        | none => exact hp e (by simp)
        | some b => exact hg'.2.2 b (bestL_mem kk xs p hb).1 e (by simp)
      unfold stepB
      rw [decide_eq_true hnum, Bool.true_and]
      cases hm : (keyOf kk e && matchesL e.x.vl xs)
      · have hm' : ((e.x.key.data.toList == kk) && matchesL e.x.vl xs) = false := hm
        rw [hm', if_neg (by decide), hi, List.filter_cons_of_neg (by simp [hm]), List.filter_nil, List.append_nil]
      · have hm' : ((e.x.key.data.toList == kk) && matchesL e.x.vl xs) = true := hm
        rw [hm', if_pos rfl, List.filter_cons_of_pos (by simp [hm]), List.filter_nil, List.getLast?_append]
        rfl
  exact key es.length es rfl hg hp
theorem all2_filter {R : Ent → Ent → Prop} {q : Ent → Bool} (hq : ∀ e f, R e f → q e = q f) {a b : List Ent} (h : All2 R a b) : All2 R (a.filter q) (b.filter q) := by
  induction h with
  | nil => exact .nil
  | cons h _ ih =>
    have e := hq _ _ h
    cases hb : q _ with
    | true => rw [List.filter_cons_of_pos (e.trans hb), List.filter_cons_of_pos hb]; exact .cons h ih
    | false => rw [List.filter_cons_of_neg (by simp [e.trans hb]), List.filter_cons_of_neg (by simp [hb])]; exact ih
theorem all2_last {R : Ent → Ent → Prop} {a b : List Ent} (h : All2 R a b) : (a.getLast? = none ∧ b.getLast? = none) ∨ ∃ e f, a.getLast? = some e ∧ b.getLast? = some f ∧ R e f := by
  induction h with
  | nil => exact Or.inl ⟨rfl, rfl⟩
  | @cons x y p q h t ih =>
    rcases ih with ⟨h1, h2⟩ | ⟨e, f, h1, h2, h3⟩
    · rw [List.getLast?_eq_none_iff] at h1 h2
      subst h1; subst h2
      exact Or.inr ⟨x, y, rfl, rfl, h⟩
    · refine Or.inr ⟨e, f, ?_, ?_, h3⟩
      · rw [List.getLast?_cons, h1]; rfl
      · rw [List.getLast?_cons, h2]; rfl
/-- What is found is the same. -/
theorem apart_finds {kk : List UInt8} {xs : List Fld} {ea eb : List Ent} (h : Apart kk ea eb) (hb : ∀ e ∈ eb, keyOf kk e = true) (ga : Grows ea) (gb : Grows eb) (pa : ∀ e ∈ ea, 0 < e.x.num) (pb : ∀ e ∈ eb, 0 < e.x.num) : findsB (bestL kk xs ea) = findsB (bestL kk xs eb) := by
  rw [best_last kk xs ea ga pa, best_last kk xs eb gb pb]
  have e1 : (ea.filter fun e => keyOf kk e && matchesL e.x.vl xs) = (ea.filter (keyOf kk)).filter fun e => matchesL e.x.vl xs := by
    rw [List.filter_filter]
    congr 1; funext e; rw [Bool.and_comm]
  have e2 : (eb.filter fun e => keyOf kk e && matchesL e.x.vl xs) = eb.filter fun e => matchesL e.x.vl xs := by
    apply List.filter_congr
    intro e he
    rw [hb e he, Bool.true_and]
  rw [e1, e2]
  have h2 := all2_filter (q := fun e => matchesL e.x.vl xs) (fun e f (h : AlikeE e f) => by simp only [h.2.2.1]) h
  rcases all2_last h2 with ⟨h3, h4⟩ | ⟨e, f, h3, h4, h5⟩
  · rw [h3, h4]
  · rw [h3, h4]; exact h5.2.2.2

/-- What all of a store's entries keep to. -/
structure WellE (n : Nat) (put : Int) (es : List Ent) : Prop where
  len : es.length ≤ n
  grows : Grows es
  pos : ∀ e ∈ es, 0 < e.x.num ∧ e.x.num ≤ put ∧ 0 ≤ e.size ∧ e.size ≤ 10000 ∧ e.key = nameB e.x.key.data.toList e.x.vl
theorem WellE.sum {n : Nat} {put : Int} {es : List Ent} (h : WellE n put es) : 0 ≤ sumE es ∧ sumE es ≤ 10000 * n := by
  have : ∀ l : List Ent, (∀ e ∈ l, 0 ≤ e.size ∧ e.size ≤ 10000) → 0 ≤ sumE l ∧ sumE l ≤ 10000 * (l.length : Int) := by
    intro l
    induction l with
    | nil => intro _; exact ⟨Int.le_refl _, by simp [sumE]⟩
    | cons e t ih =>
      intro hl
      have h1 := hl e (by simp)
      have h2 := ih (fun x hx => hl x (by simp [hx]))
      rw [sumE, List.length_cons]
      omega
  have := this es (fun e he => ⟨(h.pos e he).2.2.1, (h.pos e he).2.2.2.1⟩)
  have := h.len
  omega
theorem WellE.sub {n m : Nat} {put put' : Int} {es es' : List Ent} (h : WellE n put es) (hs : es'.Sublist es) (hn : n ≤ m) (hp : put ≤ put') : WellE m put' es' :=
  ⟨Nat.le_trans hs.length_le (Nat.le_trans h.len hn), h.grows.sublist hs, fun e he => by
    obtain ⟨h1, h2, h3⟩ := h.pos e (hs.subset he)
    exact ⟨h1, by omega, h3⟩⟩
theorem evE_room (n m : Int) : ∀ (es : List Ent), (es.length : Int) ≤ n → sumE es ≤ m → (evE n m es).2 = es
  | [], _, _ => rfl
  | e :: t, h1, h2 => by
    rw [evE]
    have : overE n m (e :: t) = false := by unfold overE; rw [decide_eq_false (by omega), decide_eq_false (by omega)]; rfl
    rw [this]; rfl
theorem putE_room {n m : Int} {k : ByteArray} {s : Int} {x : Hv} {es : List Ent} (hs : 0 ≤ s) (h1 : ((delE k es).length : Int) + 1 ≤ n) (h2 : sumE (delE k es) + s ≤ m) (h3 : 0 ≤ sumE (delE k es)) : (putE n m k s x es).2 = delE k es ++ [⟨k, s, x⟩] := by
  unfold putE
  rw [if_neg (by omega), show max 0 s = s from by omega]
  apply evE_room
  · rw [List.length_append, List.length_singleton]; omega
  · rw [sumE_app]; simp only [sumE]; omega
theorem delE_sub (k : ByteArray) (es : List Ent) : (delE k es).Sublist es := List.filter_sublist
/-- An entry that is put where there is room. -/
theorem put_room {n : Nat} {put : Int} {es : List Ent} (h : WellE n put es) (hn : n ≤ 70) {key : List UInt8} {vl : List Fld} {s : Int} (hs : 0 ≤ s ∧ s ≤ 10000) {x : Hv} (hx : x.key.data.toList = key ∧ x.vl = vl ∧ x.num = put + 1) (hp : 0 ≤ put) :
    (putE 4096 1073741824 (nameB key vl) s x es).2 = delE (nameB key vl) es ++ [⟨nameB key vl, s, x⟩] ∧ WellE (n + 1) (put + 1) (delE (nameB key vl) es ++ [⟨nameB key vl, s, x⟩]) := by
  have hd := h.sub (delE_sub (nameB key vl) es) (Nat.le_refl _) (Int.le_refl _)
  have h1 := hd.len
  have h2 := hd.sum
  refine ⟨putE_room hs.1 (by omega) (by omega) h2.1, ⟨by rw [List.length_append, List.length_singleton]; omega, ?_, ?_⟩⟩
  · refine List.pairwise_append.2 ⟨hd.grows, by simp, fun e he f hf => ?_⟩
    rw [List.mem_singleton.1 hf]
    have := (hd.pos e he).2.1
    show e.x.num < x.num
    omega
  · intro e he
    rcases List.mem_append.1 he with he | he
    · obtain ⟨a, b, c⟩ := hd.pos e he
      exact ⟨a, by omega, c⟩
    · rw [List.mem_singleton.1 he]
      refine ⟨?_, ?_, hs.1, hs.2, ?_⟩
      · show 0 < x.num; omega
      · show x.num ≤ put + 1; omega
      · show nameB key vl = nameB x.key.data.toList x.vl
        rw [hx.1, hx.2.1]
theorem other_name {kk key : List UInt8} {vl : List Fld} {e : Ent} (he : e.key = nameB e.x.key.data.toList e.x.vl) (hk : keyOf kk e = true) (hne : key ≠ kk) : keyIs (nameB key vl) e = false := by
  rw [keyIs_false, he]
  intro h
  unfold keyOf at hk
  rw [beq_iff_eq] at hk
  unfold nameB at h
  have h1 := nameL_key (by have h2 := congrArg (fun b : ByteArray => b.data.toList) h; simpa using h2)
  exact hne (by rw [← h1, hk])
/-- What is done under another key. -/
theorem apart_del_other {kk key : List UInt8} {vl : List Fld} {n : Nat} {put : Int} {ea eb : List Ent} (h : Apart kk ea eb) (hw : WellE n put ea) (hne : key ≠ kk) : Apart kk (delE (nameB key vl) ea) eb := by
  unfold Apart at *
  have : (delE (nameB key vl) ea).filter (keyOf kk) = ea.filter (keyOf kk) := by
    unfold delE
    rw [List.filter_filter]
    apply List.filter_congr
    intro e he
    cases hk : keyOf kk e
    · rfl
    · rw [other_name (hw.pos e he).2.2.2.2 hk hne]; rfl
  rw [this]; exact h
theorem apart_put_other {kk key : List UInt8} {vl : List Fld} {n : Nat} {put : Int} {ea eb : List Ent} {s : Int} {x : Hv} (h : Apart kk ea eb) (hw : WellE n put ea) (hne : key ≠ kk) (hx : x.key.data.toList = key) : Apart kk (delE (nameB key vl) ea ++ [⟨nameB key vl, s, x⟩]) eb := by
  have h1 := apart_del_other (vl := vl) h hw hne
  unfold Apart at *
  rw [List.filter_append, List.filter_cons_of_neg (by unfold keyOf; simp only [hx]; simpa using hne), List.filter_nil, List.append_nil]
  exact h1
theorem apart_drop_other {kk key : List UInt8} {ea eb : List Ent} (h : Apart kk ea eb) (hne : key ≠ kk) : Apart kk (dropL key ea) eb := by
  unfold Apart dropL at *
  have : (ea.filter fun e => !(e.x.key.data.toList == key)).filter (keyOf kk) = ea.filter (keyOf kk) := by
    rw [List.filter_filter]
    apply List.filter_congr
    intro e _
    cases hk : keyOf kk e
    · rfl
    · unfold keyOf at hk
      rw [beq_iff_eq] at hk
      rw [hk, Bool.true_and]
      have : (kk == key) = false := by rw [beq_eq_false_iff_ne]; exact fun h => hne h.symm
      rw [this]; rfl
  rw [this]; exact h
/-- What is done under this key, in both. -/
theorem apart_del {kk : List UInt8} {k : ByteArray} {ea eb : List Ent} (h : Apart kk ea eb) : Apart kk (delE k ea) (delE k eb) := by
  unfold Apart delE at *
  have : (ea.filter fun e => !keyIs k e).filter (keyOf kk) = (ea.filter (keyOf kk)).filter fun e => !keyIs k e := by
    rw [List.filter_filter, List.filter_filter]
    congr 1; funext e; rw [Bool.and_comm]
  rw [this]
  exact all2_filter (q := fun e => !keyIs k e) (fun e f (h : AlikeE e f) => by simp only [keyIs, h.1]) h
theorem all2_snoc {R : Ent → Ent → Prop} {a b : List Ent} {e f : Ent} (h : All2 R a b) (he : R e f) : All2 R (a ++ [e]) (b ++ [f]) := by
  induction h with
  | nil => exact .cons he .nil
  | cons h _ ih => exact .cons h ih
theorem apart_put {kk : List UInt8} {vl : List Fld} {ea eb : List Ent} {s : Int} {x y : Hv} (h : Apart kk ea eb) (hx : x.key.data.toList = kk) (he : AlikeE ⟨nameB kk vl, s, x⟩ ⟨nameB kk vl, s, y⟩) : Apart kk (delE (nameB kk vl) ea ++ [⟨nameB kk vl, s, x⟩]) (delE (nameB kk vl) eb ++ [⟨nameB kk vl, s, y⟩]) := by
  have h1 := apart_del (k := nameB kk vl) h
  unfold Apart at *
  rw [List.filter_append, List.filter_cons_of_pos (by unfold keyOf; simp only [hx]; simp), List.filter_nil]
  exact all2_snoc h1 he
theorem apart_drop {kk : List UInt8} {ea eb : List Ent} (hb : ∀ e ∈ eb, keyOf kk e = true) : Apart kk (dropL kk ea) (dropL kk eb) := by
  unfold Apart dropL
  have h1 : (ea.filter fun e => !(e.x.key.data.toList == kk)).filter (keyOf kk) = [] := by
    rw [List.filter_filter, List.filter_eq_nil_iff]
    intro e _
    unfold keyOf
    cases (e.x.key.data.toList == kk) <;> simp
  have h2 : (eb.filter fun e => !(e.x.key.data.toList == kk)) = [] := by
    rw [List.filter_eq_nil_iff]
    intro e he
    have := hb e he
    unfold keyOf at this
    rw [this]; simp
  rw [h1, h2]
  exact .nil
end Go.Proofs.YtokhlmoanlcjmaaDoor
/- StoreApart: two stores that stand apart. -/
namespace Go.Proofs.YtokhlmoanlcjmaaDoor
open Go.RowKit
set_option maxRecDepth 100000

/-- Two stores with room stand in w, apart from one another; both were made behind w0. -/
def Two (w0 w : World) (sa bla : Nat) (ea : List Ent) (pa : Int) (sb blb : Nat) (eb : List Ent) (pb : Int) : Prop :=
  ∃ fa fb, StAt w sa fa bla 4096 1073741824 ea pa ∧ StAt w sb fb blb 4096 1073741824 eb pb ∧ Below w0.heap.size w0 w ∧ (∀ b ∈ sa :: fa, w0.heap.size ≤ b) ∧ (∀ b ∈ sb :: fb, w0.heap.size ≤ b) ∧ ∀ b ∈ sb :: fb, b ∉ sa :: fa
theorem Two.swap {w0 w : World} {sa bla sb blb : Nat} {ea eb : List Ent} {pa pb : Int} (h : Two w0 w sa bla ea pa sb blb eb pb) : Two w0 w sb blb eb pb sa bla ea pa := by
  obtain ⟨fa, fb, ha, hb, h1, h2, h3, h4⟩ := h
  exact ⟨fb, fa, hb, ha, h1, h3, h2, fun b hb hm => h4 b hm hb⟩
theorem Two.base {w0 w : World} {sa bla sb blb : Nat} {ea eb : List Ent} {pa pb : Int} (h : Two w0 w sa bla ea pa sb blb eb pb) : Below w0.heap.size w0 w := by
  obtain ⟨fa, fb, ha, hb, h1, h2, h3, h4⟩ := h
  exact h1
theorem Two.below {w0 w w' : World} {sa bla sb blb : Nat} {ea eb : List Ent} {pa pb : Int} (h : Two w0 w sa bla ea pa sb blb eb pb) (hw : Below w.heap.size w w') : Two w0 w' sa bla ea pa sb blb eb pb := by
  obtain ⟨fa, fb, ha, hb, h1, h2, h3, h4⟩ := h
  exact ⟨fa, fb, ha.below hw, hb.below hw, bt h1 hw, h2, h3, h4⟩
/-- What is done to one leaves the other as it is. -/
theorem two_step {w0 w w' : World} {sa bla sb blb : Nat} {ea ea' eb : List Ent} {pa pa' pb : Int} {fa fb : List Nat} (ha : StAt w sa fa bla 4096 1073741824 ea pa) (hb : StAt w sb fb blb 4096 1073741824 eb pb) (h1 : Below w0.heap.size w0 w) (h2 : ∀ b ∈ sa :: fa, w0.heap.size ≤ b) (h3 : ∀ b ∈ sb :: fb, w0.heap.size ≤ b) (h4 : ∀ b ∈ sb :: fb, b ∉ sa :: fa) (hto : StTo w w' sa fa bla 4096 1073741824 ea' pa') : Two w0 w' sa bla ea' pa' sb blb eb pb := by
  obtain ⟨fa', ha', ht, hg⟩ := hto
  refine ⟨fa', fb, ha', hb.keep ht h4 (fun b hb' => ha.kind b hb'), h1.trans (ht.below h2 h1.size), fun b hb' => ?_, h3, fun b hb' hm => ?_⟩
  · rcases List.mem_cons.1 hb' with rfl | hb'
    · exact h2 _ List.mem_cons_self
    · rcases hg b hb' with h' | h'
      · exact h2 b (List.mem_cons_of_mem _ h')
      · exact Nat.le_trans h1.size h'
  · rcases List.mem_cons.1 hm with e | hm
    · exact h4 b hb' (by rw [e]; exact List.mem_cons_self)
    · rcases hg b hm with h' | h'
      · exact h4 b hb' (List.mem_cons_of_mem _ h')
      · have := hb.low b hb'; omega
theorem okA_size {a : PAct} (h : okA a = true) : 0 ≤ sizeZ ⟨a.key.toArray⟩ a.re a.bo a.fl a.vl ∧ sizeZ ⟨a.key.toArray⟩ a.re a.bo a.fl a.vl ≤ 10000 := by
  obtain ⟨h1, h2, h3, h4, h5, h6, h7⟩ := okA_yes h
  have e1 := sumF_few h5
  have e2 := sumF_few h6
  have e3 : (⟨a.key.toArray⟩ : ByteArray).size = a.key.length := mkS_size _
  unfold sizeZ
  rw [e3]
  omega
/-- What an act makes of a store with room. -/
def ActTo (a : PAct) (es es' : List Ent) (p p' : Int) : Prop :=
  (a.what.tmod 5 = 0 ∧ p' = p + 1 ∧ ∃ x, NewX x a.key a.st a.mi a.asked a.got a.re a.bo a.fl a.vl (p + 1) ∧ es' = delE (nameB a.key a.vl) es ++ [⟨nameB a.key a.vl, sizeZ ⟨a.key.toArray⟩ a.re a.bo a.fl a.vl, x⟩]) ∨
  (a.what.tmod 5 = 2 ∧ p' = p ∧ es' = delE (nameB a.key a.vl) es) ∨ (a.what.tmod 5 = 3 ∧ p' = p ∧ es' = dropL a.key es) ∨ (a.what.tmod 5 ≠ 0 ∧ a.what.tmod 5 ≠ 2 ∧ a.what.tmod 5 ≠ 3 ∧ p' = p ∧ es' = es)
theorem two_put {w0 w : World} {sa bla sb blb : Nat} {ea eb : List Ent} {pa pb : Int} (h : Two w0 w sa bla ea pa sb blb eb pb) {a : PAct} (hr : ActR w0 a) (ho : okA a = true) {k : Nat} (hw : WellE k pa ea) (hk : k ≤ 70) (hp : 0 ≤ pa ∧ pa ≤ 1000) (ht : TabN w0) :
    Calls Tryd.prog 10 #[.pointer (some ⟨sa, 0, none⟩), .string ⟨a.key.toArray⟩, entV a.st a.re a.mi a.fA a.fn a.fc a.bo a.asked a.got a.vA a.vn a.vc] w fun e w' => ∃ x, NewX x a.key a.st a.mi a.asked a.got a.re a.bo a.fl a.vl (pa + 1) ∧ e = .returned (.bool true) ∧ Two w0 w' sa bla (delE (nameB a.key a.vl) ea ++ [⟨nameB a.key a.vl, sizeZ ⟨a.key.toArray⟩ a.re a.bo a.fl a.vl, x⟩]) (pa + 1) sb blb eb pb ∧ Kept w w' := by
  obtain ⟨fa, fb, ha, hb, h1, h2, h3, h4⟩ := h
  obtain ⟨q1, q2, q3, q4, q5, q6, q7⟩ := okA_yes ho
  have e1 := sumF_few q5
  have e2 := sumF_few q6
  have hbw : ∀ W, Touch (sa :: fa) w W → Below w0.heap.size w0 W := fun W ht => h1.trans (ht.below h2 h1.size)
  have hs := okA_size ho
  refine (put19_any ha a.key a.st a.mi a.asked a.got a.re a.bo a.fA a.vA a.fn a.fc a.vn a.vc a.fl a.vl (fun W ht => hr.f.below (hbw W ht)) (fun W ht => hr.v.below (hbw W ht)) (by omega) (by omega) (by omega) (by omega) (by omega) (by omega) (by omega) hp (fun W h' => ht.on (hbw W h'))).mono ?_
  rintro e w' ⟨A, ac, v, vc, rfl, hto⟩
  obtain ⟨x, hx⟩ : ∃ x : Hv, (⟨⟨a.key.toArray⟩, a.st, a.re, a.mi, A, a.fl.length, ac, a.bo, a.asked, a.got, v, a.vl.length, vc, pa + 1, a.fl, a.vl⟩ : Hv) = x := ⟨_, rfl⟩
  have hn : NewX x a.key a.st a.mi a.asked a.got a.re a.bo a.fl a.vl (pa + 1) := by rw [← hx]; exact ⟨rfl, rfl, rfl, rfl, rfl, rfl, rfl, rfl, rfl, rfl⟩
  rw [hx] at hto ⊢
  have hroom := (put_room hw hk (key := a.key) (vl := a.vl) hs (x := x) ⟨by rw [hn.key], hn.vl, hn.num⟩ hp.1).1
  have hhas := (putE_has (n := 4096) (m := 1073741824) (by decide) hs.1 (k := nameB a.key a.vl) x ea).1
  refine ⟨x, hn, ?_, ?_, hto.kept ha⟩
  · rw [hhas, decide_eq_true (by omega)]
  · rw [hroom] at hto
    exact two_step ha hb h1 h2 h3 h4 hto
theorem two_remove {w0 w : World} {sa bla sb blb : Nat} {ea eb : List Ent} {pa pb : Int} (h : Two w0 w sa bla ea pa sb blb eb pb) {a : PAct} (hr : ActR w0 a) (ho : okA a = true) (ht : TabN w0) :
    Calls Tryd.prog 11 #[.pointer (some ⟨sa, 0, none⟩), .string ⟨a.key.toArray⟩, entV a.st a.re a.mi a.fA a.fn a.fc a.bo a.asked a.got a.vA a.vn a.vc] w fun e w' => e = .returned (.bool (hasE (nameB a.key a.vl) ea)) ∧ Two w0 w' sa bla (delE (nameB a.key a.vl) ea) pa sb blb eb pb ∧ Kept w w' := by
  obtain ⟨fa, fb, ha, hb, h1, h2, h3, h4⟩ := h
  obtain ⟨q1, q2, q3, q4, q5, q6, q7⟩ := okA_yes ho
  have e2 := sumF_few q6
  refine (remove19_any ha a.key a.st a.mi a.asked a.got a.re a.bo a.fA a.vA a.fn a.fc a.vn a.vc a.vl (hr.v.below h1) (by omega) (by omega) (by omega) (ht.on h1)).mono ?_
  rintro e w' ⟨rfl, hto⟩
  exact ⟨rfl, two_step ha hb h1 h2 h3 h4 hto, hto.kept ha⟩
theorem two_drop {w0 w : World} {sa bla sb blb : Nat} {ea eb : List Ent} {pa pb : Int} (h : Two w0 w sa bla ea pa sb blb eb pb) (key : List UInt8) :
    Calls Tryd.prog 12 #[.pointer (some ⟨sa, 0, none⟩), .string ⟨key.toArray⟩] w fun e w' => e = .returned (.int .i64 (dropN key ea : Nat)) ∧ Two w0 w' sa bla (dropL key ea) pa sb blb eb pb ∧ Kept w w' := by
  obtain ⟨fa, fb, ha, hb, h1, h2, h3, h4⟩ := h
  refine (drop19_any ha key).mono ?_
  rintro e w' ⟨rfl, hto⟩
  exact ⟨rfl, two_step ha hb h1 h2 h3 h4 hto, hto.kept ha⟩
set_option maxHeartbeats 4000000 in
theorem findsT_any {w : World} {sb : Nat} {fp : List Nat} {bl : Nat} {nn mm : Int} {es : List Ent} {put : Int} (ha : StAt w sb fp bl nn mm es put) (kk : List UInt8) (A : Option Addr) (n c : Nat) (xs : List Fld) (hr : Rd A n 2 (fldsV xs) w) (hn : n ≤ 100) (hs : ∀ f ∈ xs, f.1.length ≤ 2000000 ∧ f.2.length ≤ 2000000) (hk : kk.length ≤ 1000) (ht : ∀ W, Below w.heap.size w W → TabN W) :
    Calls Tryd.prog 16 #[.pointer (some ⟨sb, 0, none⟩), .string ⟨kk.toArray⟩, .slice A n c] w fun e w' => e = .returned (.string (findsB (bestL kk xs es))) ∧ StTo w w' sb fp bl nn mm (getO (bestL kk xs es) es) put := by
  have k1 := find19_wide ha kk A n c xs hr hn hs hk ht
  unfold FindPost at k1
  have K1 := Lib.hid k1
  clear k1 hr ht ha
  cases hb : bestL kk xs es with
  | none =>
    rw [hb] at K1
    go_enter Tryd.func16, Tryd.ntmps16
    go_wp2_with fail
    (with_reducible refine K1.out.mono ?_)
    rintro e w1 ⟨rfl, hto⟩
    have HL := Lib.hid (hto.then ((Below.refl w1.heap.size w1).alloc (Nat.le_refl _) (.cells #[.int .i64 0, .string ⟨#[]⟩, .int .i64 0, .slice none 0 0, .string ⟨#[]⟩, .int .i64 0, .int .i64 0, .slice none 0 0] 33)))
    clear hto
    unfold entV
    go_wp2
    go_ret
    exact ⟨rfl, HL.out⟩
  | some b =>
    rw [hb] at K1
    go_enter Tryd.func16, Tryd.ntmps16
    go_wp2_with fail
    (with_reducible refine K1.out.mono ?_)
    rintro e w1 ⟨a, ac, v, vc, rfl, -, -, hto⟩
    have HL := Lib.hid (hto.then ((Below.refl w1.heap.size w1).alloc (Nat.le_refl _) (.cells #[.int .i64 b.x.st, .string b.x.re, .int .i64 b.x.mi, .slice a b.x.fl.length ac, .string b.x.bo, .int .i64 b.x.asked, .int .i64 b.x.got, .slice v b.x.vl.length vc] 33)))
    clear hto
    unfold entV
    go_wp2
    go_ret
    exact ⟨rfl, HL.out⟩
theorem two_finds {w0 w : World} {sa bla sb blb : Nat} {ea eb : List Ent} {pa pb : Int} (h : Two w0 w sa bla ea pa sb blb eb pb) (kk : List UInt8) (A : Option Addr) (n c : Nat) (xs : List Fld) (hr : Rd A n 2 (fldsV xs) w0) (hn : n ≤ 100) (hs : ∀ f ∈ xs, f.1.length ≤ 2000000 ∧ f.2.length ≤ 2000000) (hk : kk.length ≤ 1000) (ht : TabN w0) :
    Calls Tryd.prog 16 #[.pointer (some ⟨sa, 0, none⟩), .string ⟨kk.toArray⟩, .slice A n c] w fun e w' => e = .returned (.string (findsB (bestL kk xs ea))) ∧ Two w0 w' sa bla (getO (bestL kk xs ea) ea) pa sb blb eb pb := by
  obtain ⟨fa, fb, ha, hb, h1, h2, h3, h4⟩ := h
  refine (findsT_any ha kk A n c xs (hr.below h1) hn hs hk (fun W hb => ht.on (bt h1 hb))).mono ?_
  rintro e w' ⟨rfl, hto⟩
  exact ⟨rfl, two_step ha hb h1 h2 h3 h4 hto⟩
/-- Two new stores. -/
theorem two_new {w0 w1 w2 : World} {sa bla sb blb : Nat} {fa fb : List Nat} (hw : Below w0.heap.size w0 w1) (ha : StAt w1 sa fa bla 4096 1073741824 [] 0) (h2 : ∀ b ∈ sa :: fa, w0.heap.size ≤ b) (hb : StAt w2 sb fb blb 4096 1073741824 [] 0) (h12 : Below w1.heap.size w1 w2) (h3 : ∀ b ∈ sb :: fb, w1.heap.size ≤ b) : Two w0 w2 sa bla [] 0 sb blb [] 0 :=
  ⟨fa, fb, ha.below h12, hb, bt hw h12, h2, fun b hb' => Nat.le_trans hw.size (h3 b hb'), fun b hb' hm => by have := ha.low b hm; have := h3 b hb'; omega⟩

/-- What an act leaves keeps to what all entries keep to. -/
theorem ActTo.well {a : PAct} {es es' : List Ent} {p p' : Int} (h : ActTo a es es' p p') {k : Nat} (hw : WellE k p es) (hk : k ≤ 70) (ho : okA a = true) (hp : 0 ≤ p ∧ p ≤ k) : WellE (k + 1) p' es' ∧ 0 ≤ p' ∧ p' ≤ (k + 1 : Nat) := by
  rcases h with ⟨-, rfl, x, hn, rfl⟩ | ⟨-, rfl, rfl⟩ | ⟨-, rfl, rfl⟩ | ⟨-, -, -, rfl, rfl⟩
  · exact ⟨(put_room hw hk (okA_size ho) ⟨by rw [hn.key], hn.vl, hn.num⟩ hp.1).2, by omega, by omega⟩
  · exact ⟨hw.sub (delE_sub _ _) (by omega) (Int.le_refl _), by omega, by omega⟩
  · exact ⟨hw.sub List.filter_sublist (by omega) (Int.le_refl _), by omega, by omega⟩
  · exact ⟨hw.sub (List.Sublist.refl _) (by omega) (Int.le_refl _), by omega, by omega⟩
/-- Done in the one alone, under another key. -/
theorem ActTo.other {a : PAct} {ea ea' eb : List Ent} {p p' : Int} (h : ActTo a ea ea' p p') {kk : List UInt8} {k : Nat} (hw : WellE k p ea) (hne : a.key ≠ kk) (hap : Apart kk ea eb) : Apart kk ea' eb := by
  rcases h with ⟨-, -, x, hn, rfl⟩ | ⟨-, -, rfl⟩ | ⟨-, -, rfl⟩ | ⟨-, -, -, -, rfl⟩
  · exact apart_put_other hap hw hne (by rw [hn.key])
  · exact apart_del_other hap hw hne
  · exact apart_drop_other hap hne
  · exact hap
/-- Done in both. -/
theorem ActTo.both {a : PAct} {ea ea' eb eb' : List Ent} {p p' q q' : Int} (h : ActTo a ea ea' p p') (h2 : ActTo a eb eb' q q') (hap : Apart a.key ea eb) (hk : ∀ e ∈ eb, keyOf a.key e = true) : Apart a.key ea' eb' ∧ ∀ e ∈ eb', keyOf a.key e = true := by
  rcases h with ⟨t, -, x, hn, rfl⟩ | ⟨t, -, rfl⟩ | ⟨t, -, rfl⟩ | ⟨t0, t2, t3, -, rfl⟩ <;> rcases h2 with ⟨u, -, y, hm, rfl⟩ | ⟨u, -, rfl⟩ | ⟨u, -, rfl⟩ | ⟨u0, u2, u3, -, rfl⟩
  all_goals try omega
  · refine ⟨apart_put hap (by rw [hn.key]) ⟨rfl, by show x.key = y.key; rw [hn.key, hm.key], by show x.vl = y.vl; rw [hn.vl, hm.vl], by show x.bo = y.bo; rw [hn.bo, hm.bo]⟩, fun e he => ?_⟩
    rcases List.mem_append.1 he with he | he
    · exact hk e ((delE_sub _ _).subset he)
    · rw [List.mem_singleton.1 he]; unfold keyOf; simp only [hm.key]; simp
  · exact ⟨apart_del hap, fun e he => hk e ((delE_sub _ _).subset he)⟩
  · exact ⟨apart_drop hk, fun e he => hk e (List.filter_sublist.subset he)⟩
  · exact ⟨hap, hk⟩
end Go.Proofs.YtokhlmoanlcjmaaDoor
/- StoreApart: the walk of the law (printed by wip/tools/stapart.py). -/
namespace Go.Proofs.YtokhlmoanlcjmaaDoor
open Go.RowKit
set_option maxRecDepth 100000

def GAt (w : World) (G sa sb : Nat) : Prop := w.heap[G]? = some (.cells #[.pointer (some ⟨sa, 0, none⟩), .pointer (some ⟨sb, 0, none⟩)] 25 (0, 0))
/-- Within an act: in how many of the stores it was done. -/
def InRel (a : PAct) (L : Nat) (w0 : World) (sa bla sb blb G : Nat) (ea : List Ent) (pa : Int) (eb : List Ent) (pb : Int) (j : Nat) (w : World) : Prop :=
  GAt w G sa sb ∧ ((j = 0 ∧ Two w0 w sa bla ea pa sb blb eb pb) ∨ (j = 1 ∧ ∃ ea' pa', ActTo a ea ea' pa pa' ∧ Two w0 w sa bla ea' pa' sb blb eb pb) ∨ (j = 2 ∧ L = 2 ∧ ∃ ea' pa' eb' pb', ActTo a ea ea' pa pa' ∧ ActTo a eb eb' pb pb' ∧ Two w0 w sa bla ea' pa' sb blb eb' pb'))
theorem InRel.first {a : PAct} {L : Nat} {w0 w : World} {sa bla sb blb G : Nat} {ea eb : List Ent} {pa pb : Int} (h : InRel a L w0 sa bla sb blb G ea pa eb pb 0 w) :
    GAt w G sa sb ∧ Two w0 w sa bla ea pa sb blb eb pb ∧ ∀ w3 ea' pa', ActTo a ea ea' pa pa' → Two w0 w3 sa bla ea' pa' sb blb eb pb → GAt w3 G sa sb → InRel a L w0 sa bla sb blb G ea pa eb pb 1 w3 := by
  obtain ⟨hg, ⟨_, h⟩ | ⟨h, _⟩ | ⟨h, _⟩⟩ := h
  · exact ⟨hg, h, fun w3 ea' pa' h1 h2 h3 => ⟨h3, Or.inr (Or.inl ⟨rfl, ea', pa', h1, h2⟩)⟩⟩
  · omega
  · omega
theorem InRel.second {a : PAct} {w0 w : World} {sa bla sb blb G : Nat} {ea eb : List Ent} {pa pb : Int} (h : InRel a 2 w0 sa bla sb blb G ea pa eb pb 1 w) :
    GAt w G sa sb ∧ ∃ ea' pa', Two w0 w sb blb eb pb sa bla ea' pa' ∧ ∀ w3 eb' pb', ActTo a eb eb' pb pb' → Two w0 w3 sb blb eb' pb' sa bla ea' pa' → GAt w3 G sa sb → InRel a 2 w0 sa bla sb blb G ea pa eb pb 2 w3 := by
  obtain ⟨hg, ⟨h, _⟩ | ⟨_, ea', pa', h1, h2⟩ | ⟨h, _⟩⟩ := h
  · omega
  · exact ⟨hg, ea', pa', h2.swap, fun w3 eb' pb' h3 h4 h5 => ⟨h5, Or.inr (Or.inr ⟨rfl, rfl, ea', pa', eb', pb', h1, h3, h4.swap⟩)⟩⟩
  · omega
/-- Between the acts. -/
def Out (w0 : World) (kk : List UInt8) (sa bla sb blb : Nat) (k : Nat) (w : World) : Prop :=
  ∃ ea pa eb pb, Two w0 w sa bla ea pa sb blb eb pb ∧ WellE k pa ea ∧ WellE k pb eb ∧ (0 ≤ pa ∧ pa ≤ k) ∧ (0 ≤ pb ∧ pb ≤ k) ∧ Apart kk ea eb ∧ ∀ e ∈ eb, keyOf kk e = true
theorem WellE.nil (k : Nat) : WellE k 0 [] := ⟨by simp, List.Pairwise.nil, by simp⟩
theorem InRel.out1 {a : PAct} {w0 w : World} {kk : List UInt8} {sa bla sb blb G k : Nat} {ea eb : List Ent} {pa pb : Int} (h : InRel a 1 w0 sa bla sb blb G ea pa eb pb 1 w) (ho : okA a = true) (hk : k ≤ 70) (hne : a.key ≠ kk) (hwa : WellE k pa ea) (hwb : WellE k pb eb) (hpa : 0 ≤ pa ∧ pa ≤ k) (hpb : 0 ≤ pb ∧ pb ≤ k) (hap : Apart kk ea eb) (hkb : ∀ e ∈ eb, keyOf kk e = true) : Out w0 kk sa bla sb blb (k + 1) w := by
  obtain ⟨hg, ⟨h, _⟩ | ⟨_, ea', pa', h1, h2⟩ | ⟨h, _⟩⟩ := h
  · omega
  · obtain ⟨q1, q2⟩ := h1.well hwa hk ho hpa
    exact ⟨ea', pa', eb, pb, h2, q1, hwb.sub (List.Sublist.refl _) (by omega) (Int.le_refl _), q2, by omega, h1.other hwa hne hap, hkb⟩
  · omega
theorem InRel.out2 {a : PAct} {w0 w : World} {sa bla sb blb G k : Nat} {ea eb : List Ent} {pa pb : Int} (h : InRel a 2 w0 sa bla sb blb G ea pa eb pb 2 w) (ho : okA a = true) (hk : k ≤ 70) (hwa : WellE k pa ea) (hwb : WellE k pb eb) (hpa : 0 ≤ pa ∧ pa ≤ k) (hpb : 0 ≤ pb ∧ pb ≤ k) (hap : Apart a.key ea eb) (hkb : ∀ e ∈ eb, keyOf a.key e = true) : Out w0 a.key sa bla sb blb (k + 1) w := by
  obtain ⟨hg, ⟨h, _⟩ | ⟨h, _⟩ | ⟨_, _, ea', pa', eb', pb', h1, h2, h3⟩⟩ := h
  · omega
  · omega
  · obtain ⟨q1, q2⟩ := h1.well hwa hk ho hpa
    obtain ⟨q3, q4⟩ := h2.well hwb hk ho hpb
    obtain ⟨q5, q6⟩ := h1.both h2 hap hkb
    exact ⟨ea', pa', eb', pb', h3, q1, q3, q2, q4, q5, q6⟩
theorem wells_find {kk : List UInt8} {xs : List Fld} {k : Nat} {ea eb : List Ent} {pa pb : Int} (hwa : WellE k pa ea) (hwb : WellE k pb eb) (hap : Apart kk ea eb) (hkb : ∀ e ∈ eb, keyOf kk e = true) : findsB (bestL kk xs ea) = findsB (bestL kk xs eb) :=
  apart_finds hap hkb hwa.grows hwb.grows (fun e he => (hwa.pos e he).1) (fun e he => (hwb.pos e he).1)
set_option maxHeartbeats 64000000 in
theorem storeApart_any (A : Option Addr) (n c : Nat) (xs : List PAct) (kk : List UInt8) (Q : Option Addr) (qn qc : Nat) (qs : List Fld) (w : World) (hr : Rd A n 12 (pactsV xs) w) (hx : ∀ a ∈ xs, ActR w a) (hn : n ≤ maxLen) (hq : Rd Q qn 2 (fldsV qs) w) (hqm : qn ≤ maxLen) (hqs : ∀ f ∈ qs, f.1.length ≤ 2000000 ∧ f.2.length ≤ 2000000) (hkz : kk.length ≤ maxLen) (ht : TabN w) :
    Calls Tryd.prog 4 #[.slice A n c, .string ⟨kk.toArray⟩, .slice Q qn qc] w fun e w' => e = .returned (.bool true) ∧ Below w.heap.size w w' := by
  have k2 := few19_any A n c xs w hr hx hn
  have hks : (⟨kk.toArray⟩ : ByteArray).size = kk.length := mkS_size kk
  have hml : maxLen = 9223372036854775807 := rfl
  have HR := Lib.hid hr; have HX := Lib.hid hx; have HT := Lib.hid ht; have HQ := Lib.hid hq; have HQS := Lib.hid hqs
  clear hr hx ht hq hqs
  go_enter Tryd.func4, Tryd.ntmps4
  cases hf : few19 xs
  · rw [hf] at k2
    have K2 := Lib.hid k2; clear k2
    go_wp2_with fail
    (with_reducible refine K2.out.mono ?_)
    rintro e w3 ⟨rfl, hb3⟩
    have K9 := Lib.hid (awake19_any w3 (HT.out.on hb3)); have HB9 := Lib.hid hb3
    go_wp2_with fail
    (with_reducible refine K9.out.mono ?_)
    rintro e w9 ⟨rfl, hb9⟩
    go_wp2
    go_ret
    exact ⟨rfl, bt HB9.out hb9⟩
  · rw [hf] at k2
    have K2 := Lib.hid k2; clear k2
    obtain ⟨hlen, hok⟩ := few19_yes hf
    have HOK := Lib.hid hok
    clear hok hf
    go_wp2_with fail
    (with_reducible refine K2.out.mono ?_)
    rintro e w3 ⟨rfl, hb3⟩
    clear K2
    cases q1 : decide (10 < (qn : Int))
    case true =>
      have K9 := Lib.hid (awake19_any w3 (HT.out.on hb3)); have HB9 := Lib.hid hb3
      go_wp2_with fail
      (with_reducible refine K9.out.mono ?_)
      rintro e w9 ⟨rfl, hb9⟩
      go_wp2
      go_ret
      exact ⟨rfl, bt HB9.out hb9⟩
    case false =>
      cases q2 : decide (300 < (kk.length : Int))
      case true =>
        have K9 := Lib.hid (awake19_any w3 (HT.out.on hb3)); have HB9 := Lib.hid hb3
        go_wp2_with fail
        (with_reducible refine K9.out.mono ?_)
        rintro e w9 ⟨rfl, hb9⟩
        go_wp2
        go_ret
        exact ⟨rfl, bt HB9.out hb9⟩
      case false =>
        have hqn : qn ≤ 10 := by simp at q1; omega
        have hkl : kk.length ≤ 300 := by simp at q2; omega
        have KN := Lib.hid (fun W => new19_any 4096 1073741824 W (by omega) (by omega))
        have HB3 := Lib.hid hb3; clear hb3
        go_wp2_with fail
        (with_reducible refine (KN.out _).mono ?_)
        rintro e w4 ⟨sa, fa, bla, rfl, ha4, hb4, hf4⟩
        have HA4 := Lib.hid ha4; have HB4 := Lib.hid hb4; have HF4 := Lib.hid hf4; clear ha4 hb4 hf4
        go_wp2_with fail
        (with_reducible refine (KN.out _).mono ?_)
        rintro e w5 ⟨sb, fb, blb, rfl, hb5, hw5, hf5⟩
        have HT0 := Lib.hid (two_new (bt HB3.out HB4.out) HA4.out (fun b hb => Nat.le_trans HB3.out.size (HF4.out b hb)) hb5 hw5 hf5)
        clear HA4 HF4 hb5 hf5 hw5 HB4 KN
        have HO0 : Hid (Out w kk sa bla sb blb 0 w5) := Lib.hid ⟨[], 0, [], 0, HT0.out, WellE.nil 0, WellE.nil 0, by omega, by omega, .nil, by simp⟩
        clear HT0
        obtain rfl := HR.out.pact
        go_wp2_with fail
        go_loopw [9] (fun i wr => ∃ k : Nat, k ≤ xs.length ∧ i = .int .i64 k ∧ Hid (Out w kk sa bla sb blb k wr)) (fun i _ => xs.length - (intOf i).toNat)
        case atStart => exact ⟨0, Nat.zero_le _, rfl, HO0⟩
        case round =>
          clear HO0
          obtain ⟨k, hk, rfl, HO⟩ := hrel
          obtain ⟨ea, pa, eb, pb, h2, hwa, hwb, hpa, hpb, hap, hkb⟩ := HO.out
          clear HO
          by_cases hlt : k < xs.length
          · obtain ⟨b, o, rfl, hlb, hcell⟩ := HR.out.pact_at (k := k) hlt
            have ha := HX.out xs[k] (List.getElem_mem _)
            have hao := HOK.out xs[k] (List.getElem_mem _)
            generalize xs[k] = a at *
            have kc : ∀ W, Below w.heap.size w W → W.cell? ⟨b, o + k * 12, none⟩ = some (.int .i64 a.what) ∧ W.cell? ⟨b, o + k * 12 + 2, none⟩ = some (.string ⟨a.key.toArray⟩) ∧ W.cell? ⟨b, o + k * 12 + 3, none⟩ = some (.int .i64 a.st) ∧ W.cell? ⟨b, o + k * 12 + 4, none⟩ = some (.string a.re) ∧ W.cell? ⟨b, o + k * 12 + 5, none⟩ = some (.int .i64 a.mi) ∧ W.cell? ⟨b, o + k * 12 + 6, none⟩ = some (.slice a.fA a.fn a.fc) ∧ W.cell? ⟨b, o + k * 12 + 7, none⟩ = some (.string a.bo) ∧ W.cell? ⟨b, o + k * 12 + 8, none⟩ = some (.int .i64 a.asked) ∧ W.cell? ⟨b, o + k * 12 + 9, none⟩ = some (.int .i64 a.got) ∧ W.cell? ⟨b, o + k * 12 + 10, none⟩ = some (.slice a.vA a.vn a.vc) := fun W hb => ⟨(hb.cell (p := ⟨b, o + k * 12, none⟩) hlb).trans (hcell 0 _ rfl), (hb.cell (p := ⟨b, o + k * 12 + 2, none⟩) hlb).trans (hcell 2 _ rfl), (hb.cell (p := ⟨b, o + k * 12 + 3, none⟩) hlb).trans (hcell 3 _ rfl), (hb.cell (p := ⟨b, o + k * 12 + 4, none⟩) hlb).trans (hcell 4 _ rfl), (hb.cell (p := ⟨b, o + k * 12 + 5, none⟩) hlb).trans (hcell 5 _ rfl), (hb.cell (p := ⟨b, o + k * 12 + 6, none⟩) hlb).trans (hcell 6 _ rfl), (hb.cell (p := ⟨b, o + k * 12 + 7, none⟩) hlb).trans (hcell 7 _ rfl), (hb.cell (p := ⟨b, o + k * 12 + 8, none⟩) hlb).trans (hcell 8 _ rfl), (hb.cell (p := ⟨b, o + k * 12 + 9, none⟩) hlb).trans (hcell 9 _ rfl), (hb.cell (p := ⟨b, o + k * 12 + 10, none⟩) hlb).trans (hcell 10 _ rfl)⟩
            have hw5 := ha.what
            obtain ⟨W9, hW9⟩ : ∃ W, wr.alloc (.cells #[.pointer (some ⟨sa, 0, none⟩), .pointer (some ⟨sb, 0, none⟩)] 25) = W := ⟨_, rfl⟩
            have h29 := h2.below (show Below wr.heap.size wr W9 by rw [← hW9]; exact (Below.refl _ _).alloc (Nat.le_refl _) _)
            have g9 : GAt W9 wr.heap.size sa sb := by rw [← hW9]; exact heap_new wr _ _ rfl
            have HI0 : ∀ L, Hid (InRel a L w sa bla sb blb wr.heap.size ea pa eb pb 0 W9) := fun L => Lib.hid ⟨g9, Or.inl ⟨rfl, h29⟩⟩
            have hb9 := h29.base
            have KC := Lib.hid kc; have HA := Lib.hid ha; have HW9 := Lib.hid hW9; have HWA := Lib.hid hwa; have HWB := Lib.hid hwb; have HAP := Lib.hid hap; have HKB := Lib.hid hkb
            clear kc ha hW9 hwa hwb hap hkb hcell h2 h29 g9
            have t1 : decide ((k : Int) < (xs.length : Int)) = true := decide_eq_true (by omega)
            have hk0 : (0 : Int) ≤ k := by omega
            have hk1 : (k : Int) < xs.length := by omega
            go_upto_region 10 with (fail)
            rw [HW9.out]
            generalize wr.heap.size = G at *
            obtain ⟨c0, c2, c3, c4, c5, c6, c7, c8, c9, c10⟩ := KC.out _ hb9
            clear c3 c4 c5 c6 c7 c8 c9 c10
            cases hkey : (a.key == kk)
            · have q3 : (!(a.key == kk)) = true := by rw [hkey]; rfl
              go_wp2_with fail
              clear q3
              go_loopw [11] (fun j wi => ∃ jn : Nat, jn ≤ 1 ∧ j = .int .i64 jn ∧ Hid (InRel a 1 w sa bla sb blb G ea pa eb pb jn wi)) (fun j _ => 1 - (intOf j).toNat)
              case atStart => exact ⟨0, by omega, rfl, HI0 1⟩
              case round =>
                clear HI0 hb9
                obtain ⟨jn, hj, rfl, HI⟩ := hrel
                rcases (show jn = 0 ∨ jn = 1 from by omega) with rfl | rfl
                · obtain ⟨hg, h2, hnext⟩ := HI.out.first
                  have hbi := h2.base
                  obtain ⟨c0, _⟩ := KC.out _ hbi
                  have hd : Below wr.heap.size wr wr.drew := (Below.refl _ _).drew
                  have hbd := bt hbi hd
                  have h3 := h2.below hd
                  have hgd : GAt wr.drew G sa sb := hg
                  have H2 := Lib.hid h2; have H3 := Lib.hid h3; have HN := Lib.hid hnext; have HG := Lib.hid hg; clear h2 h3 hnext HI
                  have ks : ∀ W, Below w.heap.size w W → GAt W G sa sb → W.cell? ⟨G, 0, none⟩ = some (.pointer (some ⟨sa, 0, none⟩)) ∧ W.cell? ⟨b, o + k * 12 + 2, none⟩ = some (.string ⟨a.key.toArray⟩) ∧ W.cell? ⟨b, o + k * 12 + 3, none⟩ = some (.int .i64 a.st) ∧ W.cell? ⟨b, o + k * 12 + 4, none⟩ = some (.string a.re) ∧ W.cell? ⟨b, o + k * 12 + 5, none⟩ = some (.int .i64 a.mi) ∧ W.cell? ⟨b, o + k * 12 + 6, none⟩ = some (.slice a.fA a.fn a.fc) ∧ W.cell? ⟨b, o + k * 12 + 7, none⟩ = some (.string a.bo) ∧ W.cell? ⟨b, o + k * 12 + 8, none⟩ = some (.int .i64 a.asked) ∧ W.cell? ⟨b, o + k * 12 + 9, none⟩ = some (.int .i64 a.got) ∧ W.cell? ⟨b, o + k * 12 + 10, none⟩ = some (.slice a.vA a.vn a.vc) := fun W hb hg => ⟨(of_heap hg 0).1, (KC.out W hb).2⟩
                  have ks2 : ∀ W, Below w.heap.size w W → GAt W G sa sb → W.cell? ⟨G, 0, none⟩ = some (.pointer (some ⟨sa, 0, none⟩)) ∧ W.cell? ⟨b, o + k * 12 + 2, none⟩ = some (.string ⟨a.key.toArray⟩) := fun W hb hg => ⟨(ks W hb hg).1, (ks W hb hg).2.1⟩
                  have KS := Lib.hid ks; have KS2 := Lib.hid ks2; clear ks ks2
                  go_upto_region 16 with (fail)
                  generalize hrr : a.what.tmod 5 = r at *
                  clear hw5 c0
                  by_cases r0 : r = 0
                  · subst r0
                    have kp := two_put H3.out HA.out hao HWA.out (by omega) (by omega) HT.out
                    unfold entV at kp
                    have KP := Lib.hid kp; clear kp
                    go_upto_region 17 with (fail)
                    refine wp_region_held_drew (S := (fun w' => w'.cell? ⟨G, 0, none⟩ = some (.pointer (some ⟨sa, 0, none⟩)) ∧ w'.cell? ⟨b, o + k * 12 + 2, none⟩ = some (.string ⟨a.key.toArray⟩) ∧ w'.cell? ⟨b, o + k * 12 + 3, none⟩ = some (.int .i64 a.st) ∧ w'.cell? ⟨b, o + k * 12 + 4, none⟩ = some (.string a.re) ∧ w'.cell? ⟨b, o + k * 12 + 5, none⟩ = some (.int .i64 a.mi) ∧ w'.cell? ⟨b, o + k * 12 + 6, none⟩ = some (.slice a.fA a.fn a.fc) ∧ w'.cell? ⟨b, o + k * 12 + 7, none⟩ = some (.string a.bo) ∧ w'.cell? ⟨b, o + k * 12 + 8, none⟩ = some (.int .i64 a.asked) ∧ w'.cell? ⟨b, o + k * 12 + 9, none⟩ = some (.int .i64 a.got) ∧ w'.cell? ⟨b, o + k * 12 + 10, none⟩ = some (.slice a.vA a.vn a.vc))) (by kernel_rfl) (KS.out _ hbd hgd) (fun hHeld => ?_)
                    refine wpAnyH_take (i := 0) (v := ?_) (by simp only [List.getElem?_toArray, List.getElem?_cons_zero]; exact rfl) (by kernel_rfl) (by kernel_rfl) (by kernel_rfl) (by intro _ _ _ h; exact h) (Or.inl ⟨by rfl, fun W hSw => ?_⟩) hHeld ?_
                    rotate_left
                    focus ((try dsimp only at hSw); first | (go_simp; done) | (go_simp; with_reducible rfl))
                    try simp only [Act.put, List.setIfInBounds_toArray, List.set_cons_zero, List.set_cons_succ]
                    refine wpAnyH_take (i := 1) (v := ?_) (by simp only [List.getElem?_toArray, List.getElem?_cons_succ, List.getElem?_cons_zero]; exact rfl) (by kernel_rfl) (by kernel_rfl) (by kernel_rfl) (by intro _ _ _ h; exact h) (Or.inl ⟨by rfl, fun W hSw => ?_⟩) hHeld ?_
                    rotate_left
                    focus ((try dsimp only at hSw); first | (go_simp; done) | (go_simp; with_reducible rfl))
                    try simp only [Act.put, List.setIfInBounds_toArray, List.set_cons_zero, List.set_cons_succ]
                    refine wpAnyH_take (i := 2) (v := ?_) (by simp only [List.getElem?_toArray, List.getElem?_cons_succ, List.getElem?_cons_zero]; exact rfl) (by kernel_rfl) (by kernel_rfl) (by kernel_rfl) (by intro _ _ _ h; exact h) (Or.inl ⟨by rfl, fun W hSw => ?_⟩) hHeld ?_
                    rotate_left
                    focus ((try dsimp only at hSw); first | (go_simp; done) | (go_simp; with_reducible rfl))
                    try simp only [Act.put, List.setIfInBounds_toArray, List.set_cons_zero, List.set_cons_succ]
                    refine wpAnyH_take (i := 3) (v := ?_) (by simp only [List.getElem?_toArray, List.getElem?_cons_succ, List.getElem?_cons_zero]; exact rfl) (by kernel_rfl) (by kernel_rfl) (by kernel_rfl) (by intro _ _ _ h; exact h) (Or.inl ⟨by rfl, fun W hSw => ?_⟩) hHeld ?_
                    rotate_left
                    focus ((try dsimp only at hSw); first | (go_simp; done) | (go_simp; with_reducible rfl))
                    try simp only [Act.put, List.setIfInBounds_toArray, List.set_cons_zero, List.set_cons_succ]
                    refine wpAnyH_take (i := 4) (v := ?_) (by simp only [List.getElem?_toArray, List.getElem?_cons_succ, List.getElem?_cons_zero]; exact rfl) (by kernel_rfl) (by kernel_rfl) (by kernel_rfl) (by intro _ _ _ h; exact h) (Or.inl ⟨by rfl, fun W hSw => ?_⟩) hHeld ?_
                    rotate_left
                    focus ((try dsimp only at hSw); first | (go_simp; done) | (go_simp; with_reducible rfl))
                    try simp only [Act.put, List.setIfInBounds_toArray, List.set_cons_zero, List.set_cons_succ]
                    refine wpAnyH_take (i := 5) (v := ?_) (by simp only [List.getElem?_toArray, List.getElem?_cons_succ, List.getElem?_cons_zero]; exact rfl) (by kernel_rfl) (by kernel_rfl) (by kernel_rfl) (by intro _ _ _ h; exact h) (Or.inl ⟨by rfl, fun W hSw => ?_⟩) hHeld ?_
                    rotate_left
                    focus ((try dsimp only at hSw); first | (go_simp; done) | (go_simp; with_reducible rfl))
                    try simp only [Act.put, List.setIfInBounds_toArray, List.set_cons_zero, List.set_cons_succ]
                    refine wpAnyH_take (i := 6) (v := ?_) (by simp only [List.getElem?_toArray, List.getElem?_cons_succ, List.getElem?_cons_zero]; exact rfl) (by kernel_rfl) (by kernel_rfl) (by kernel_rfl) (by intro _ _ _ h; exact h) (Or.inl ⟨by rfl, fun W hSw => ?_⟩) hHeld ?_
                    rotate_left
                    focus ((try dsimp only at hSw); first | (go_simp; done) | (go_simp; with_reducible rfl))
                    try simp only [Act.put, List.setIfInBounds_toArray, List.set_cons_zero, List.set_cons_succ]
                    refine wpAnyH_take (i := 7) (v := ?_) (by simp only [List.getElem?_toArray, List.getElem?_cons_succ, List.getElem?_cons_zero]; exact rfl) (by kernel_rfl) (by kernel_rfl) (by kernel_rfl) (by intro _ _ _ h; exact h) (Or.inl ⟨by rfl, fun W hSw => ?_⟩) hHeld ?_
                    rotate_left
                    focus ((try dsimp only at hSw); first | (go_simp; done) | (go_simp; with_reducible rfl))
                    try simp only [Act.put, List.setIfInBounds_toArray, List.set_cons_zero, List.set_cons_succ]
                    refine wpAnyH_take (i := 8) (v := ?_) (by simp only [List.getElem?_toArray, List.getElem?_cons_succ, List.getElem?_cons_zero]; exact rfl) (by kernel_rfl) (by kernel_rfl) (by kernel_rfl) (by intro _ _ _ h; exact h) (Or.inl ⟨by rfl, fun W hSw => ?_⟩) hHeld ?_
                    rotate_left
                    focus ((try dsimp only at hSw); first | (go_simp; done) | (go_simp; with_reducible rfl))
                    try simp only [Act.put, List.setIfInBounds_toArray, List.set_cons_zero, List.set_cons_succ]
                    refine wpAnyH_take (i := 9) (v := ?_) (by simp only [List.getElem?_toArray, List.getElem?_cons_succ, List.getElem?_cons_zero]; exact rfl) (by kernel_rfl) (by kernel_rfl) (by kernel_rfl) (by intro _ _ _ h; exact h) (Or.inl ⟨by rfl, fun W hSw => ?_⟩) hHeld ?_
                    rotate_left
                    focus ((try dsimp only at hSw); first | (go_simp; done) | (go_simp; with_reducible rfl))
                    try simp only [Act.put, List.setIfInBounds_toArray, List.set_cons_zero, List.set_cons_succ]
                    refine wpAnyH_take (i := 10) (v := ?_) (by simp only [List.getElem?_toArray, List.getElem?_cons_succ, List.getElem?_cons_zero]; exact rfl) (by kernel_rfl) (by kernel_rfl) (by kernel_rfl) (by intro _ _ _ h; exact h) (Or.inl ⟨by rfl, fun W hSw => ?_⟩) hHeld ?_
                    rotate_left
                    focus ((try dsimp only at hSw); first | (go_simp; done) | (go_simp; with_reducible rfl))
                    try simp only [Act.put, List.setIfInBounds_toArray, List.set_cons_zero, List.set_cons_succ]
                    refine wpAnyH_take (i := 11) (v := ?_) (by simp only [List.getElem?_toArray, List.getElem?_cons_succ, List.getElem?_cons_zero]; exact rfl) (by kernel_rfl) (by kernel_rfl) (by kernel_rfl) (by intro _ _ _ h; exact h) (Or.inl ⟨by rfl, fun W hSw => ?_⟩) hHeld ?_
                    rotate_left
                    focus ((try dsimp only at hSw); first | (go_simp; done) | (go_simp; with_reducible rfl))
                    try simp only [Act.put, List.setIfInBounds_toArray, List.set_cons_zero, List.set_cons_succ]
                    refine wpAnyH_take (i := 12) (v := ?_) (by simp only [List.getElem?_toArray, List.getElem?_cons_succ, List.getElem?_cons_zero]; exact rfl) (by kernel_rfl) (by kernel_rfl) (by kernel_rfl) (by intro _ _ _ h; exact h) (Or.inl ⟨by rfl, fun W hSw => ?_⟩) hHeld ?_
                    rotate_left
                    focus ((try dsimp only at hSw); first | (go_simp; done) | (go_simp; with_reducible rfl))
                    try simp only [Act.put, List.setIfInBounds_toArray, List.set_cons_zero, List.set_cons_succ]
                    refine wpAnyH_take (i := 13) (v := ?_) (by simp only [List.getElem?_toArray, List.getElem?_cons_succ, List.getElem?_cons_zero]; exact rfl) (by kernel_rfl) (by kernel_rfl) (by kernel_rfl) (by intro _ _ _ h; exact h) (Or.inl ⟨by rfl, fun W hSw => ?_⟩) hHeld ?_
                    rotate_left
                    focus ((try dsimp only at hSw); first | (go_simp; done) | (go_simp; with_reducible rfl))
                    try simp only [Act.put, List.setIfInBounds_toArray, List.set_cons_zero, List.set_cons_succ]
                    refine wpAnyH_ready (rs := [14]) (by kernel_rfl) (by simp) (AllReadyH.cons (by simp only [List.getElem?_toArray, List.getElem?_cons_succ, List.getElem?_cons_zero]; exact rfl) (fun K hK => ?_) AllReadyH.nil)
                    rw [if_pos (by rfl)]
                    go_simp
                    (with_reducible refine KP.out.mono ?_); rintro e w5 ⟨x, hx, rfl, h5, hk5⟩; have hb5 := h5.base; have hg5 : GAt w5 G sa sb := hk5.2 _ _ _ _ hgd (by decide) (by decide) (by decide); go_wp2_with fail
                    refine hK.out _ _ (KS.out _ hb5 hg5) (fun hHeld => ?_)
                    clear hK K
                    try simp only [Act.put, List.setIfInBounds_toArray, List.set_cons_zero, List.set_cons_succ]
                    refine wpAnyH_take (i := 15) (v := ?_) (by simp only [List.getElem?_toArray, List.getElem?_cons_succ, List.getElem?_cons_zero]; exact rfl) (by kernel_rfl) (by kernel_rfl) (by kernel_rfl) (by intro _ _ _ h; exact h) (Or.inl ⟨by rfl, fun W hSw => ?_⟩) hHeld ?_
                    rotate_left
                    focus ((try dsimp only at hSw); first | (go_simp; done) | (go_simp; with_reducible rfl))
                    try simp only [Act.put, List.setIfInBounds_toArray, List.set_cons_zero, List.set_cons_succ]
                    refine wpAnyH_done (by kernel_rfl) ?_ _
                    clear hHeld
                    have HNX := Lib.hid (HN.out _ _ _ (Or.inl ⟨hrr, rfl, x, hx, rfl⟩) h5 hg5)
                    clear h5 hk5 hb5 hg5 hx KP
                    go_wp2
                    go_roundw
                    case rel => exact ⟨1, by omega, by first | rfl | go_num, HNX⟩
                    case measure => first | (simp [intOf]; done) | (simp [intOf]; omega)
                  have t0 : (r == 0) = false := by simpa using r0
                  by_cases r2 : r = 2
                  · subst r2
                    have kp := two_remove H3.out HA.out hao HT.out
                    unfold entV at kp
                    have KP := Lib.hid kp; clear kp
                    go_upto_region 20 with (fail)
                    refine wp_region_held_drew (S := (fun w' => w'.cell? ⟨G, 0, none⟩ = some (.pointer (some ⟨sa, 0, none⟩)) ∧ w'.cell? ⟨b, o + k * 12 + 2, none⟩ = some (.string ⟨a.key.toArray⟩) ∧ w'.cell? ⟨b, o + k * 12 + 3, none⟩ = some (.int .i64 a.st) ∧ w'.cell? ⟨b, o + k * 12 + 4, none⟩ = some (.string a.re) ∧ w'.cell? ⟨b, o + k * 12 + 5, none⟩ = some (.int .i64 a.mi) ∧ w'.cell? ⟨b, o + k * 12 + 6, none⟩ = some (.slice a.fA a.fn a.fc) ∧ w'.cell? ⟨b, o + k * 12 + 7, none⟩ = some (.string a.bo) ∧ w'.cell? ⟨b, o + k * 12 + 8, none⟩ = some (.int .i64 a.asked) ∧ w'.cell? ⟨b, o + k * 12 + 9, none⟩ = some (.int .i64 a.got) ∧ w'.cell? ⟨b, o + k * 12 + 10, none⟩ = some (.slice a.vA a.vn a.vc))) (by kernel_rfl) (KS.out _ hbd hgd) (fun hHeld => ?_)
                    refine wpAnyH_take (i := 0) (v := ?_) (by simp only [List.getElem?_toArray, List.getElem?_cons_zero]; exact rfl) (by kernel_rfl) (by kernel_rfl) (by kernel_rfl) (by intro _ _ _ h; exact h) (Or.inl ⟨by rfl, fun W hSw => ?_⟩) hHeld ?_
                    rotate_left
                    focus ((try dsimp only at hSw); first | (go_simp; done) | (go_simp; with_reducible rfl))
                    try simp only [Act.put, List.setIfInBounds_toArray, List.set_cons_zero, List.set_cons_succ]
                    refine wpAnyH_take (i := 1) (v := ?_) (by simp only [List.getElem?_toArray, List.getElem?_cons_succ, List.getElem?_cons_zero]; exact rfl) (by kernel_rfl) (by kernel_rfl) (by kernel_rfl) (by intro _ _ _ h; exact h) (Or.inl ⟨by rfl, fun W hSw => ?_⟩) hHeld ?_
                    rotate_left
                    focus ((try dsimp only at hSw); first | (go_simp; done) | (go_simp; with_reducible rfl))
                    try simp only [Act.put, List.setIfInBounds_toArray, List.set_cons_zero, List.set_cons_succ]
                    refine wpAnyH_take (i := 2) (v := ?_) (by simp only [List.getElem?_toArray, List.getElem?_cons_succ, List.getElem?_cons_zero]; exact rfl) (by kernel_rfl) (by kernel_rfl) (by kernel_rfl) (by intro _ _ _ h; exact h) (Or.inl ⟨by rfl, fun W hSw => ?_⟩) hHeld ?_
                    rotate_left
                    focus ((try dsimp only at hSw); first | (go_simp; done) | (go_simp; with_reducible rfl))
                    try simp only [Act.put, List.setIfInBounds_toArray, List.set_cons_zero, List.set_cons_succ]
                    refine wpAnyH_take (i := 3) (v := ?_) (by simp only [List.getElem?_toArray, List.getElem?_cons_succ, List.getElem?_cons_zero]; exact rfl) (by kernel_rfl) (by kernel_rfl) (by kernel_rfl) (by intro _ _ _ h; exact h) (Or.inl ⟨by rfl, fun W hSw => ?_⟩) hHeld ?_
                    rotate_left
                    focus ((try dsimp only at hSw); first | (go_simp; done) | (go_simp; with_reducible rfl))
                    try simp only [Act.put, List.setIfInBounds_toArray, List.set_cons_zero, List.set_cons_succ]
                    refine wpAnyH_take (i := 4) (v := ?_) (by simp only [List.getElem?_toArray, List.getElem?_cons_succ, List.getElem?_cons_zero]; exact rfl) (by kernel_rfl) (by kernel_rfl) (by kernel_rfl) (by intro _ _ _ h; exact h) (Or.inl ⟨by rfl, fun W hSw => ?_⟩) hHeld ?_
                    rotate_left
                    focus ((try dsimp only at hSw); first | (go_simp; done) | (go_simp; with_reducible rfl))
                    try simp only [Act.put, List.setIfInBounds_toArray, List.set_cons_zero, List.set_cons_succ]
                    refine wpAnyH_take (i := 5) (v := ?_) (by simp only [List.getElem?_toArray, List.getElem?_cons_succ, List.getElem?_cons_zero]; exact rfl) (by kernel_rfl) (by kernel_rfl) (by kernel_rfl) (by intro _ _ _ h; exact h) (Or.inl ⟨by rfl, fun W hSw => ?_⟩) hHeld ?_
                    rotate_left
                    focus ((try dsimp only at hSw); first | (go_simp; done) | (go_simp; with_reducible rfl))
                    try simp only [Act.put, List.setIfInBounds_toArray, List.set_cons_zero, List.set_cons_succ]
                    refine wpAnyH_take (i := 6) (v := ?_) (by simp only [List.getElem?_toArray, List.getElem?_cons_succ, List.getElem?_cons_zero]; exact rfl) (by kernel_rfl) (by kernel_rfl) (by kernel_rfl) (by intro _ _ _ h; exact h) (Or.inl ⟨by rfl, fun W hSw => ?_⟩) hHeld ?_
                    rotate_left
                    focus ((try dsimp only at hSw); first | (go_simp; done) | (go_simp; with_reducible rfl))
                    try simp only [Act.put, List.setIfInBounds_toArray, List.set_cons_zero, List.set_cons_succ]
                    refine wpAnyH_take (i := 7) (v := ?_) (by simp only [List.getElem?_toArray, List.getElem?_cons_succ, List.getElem?_cons_zero]; exact rfl) (by kernel_rfl) (by kernel_rfl) (by kernel_rfl) (by intro _ _ _ h; exact h) (Or.inl ⟨by rfl, fun W hSw => ?_⟩) hHeld ?_
                    rotate_left
                    focus ((try dsimp only at hSw); first | (go_simp; done) | (go_simp; with_reducible rfl))
                    try simp only [Act.put, List.setIfInBounds_toArray, List.set_cons_zero, List.set_cons_succ]
                    refine wpAnyH_take (i := 8) (v := ?_) (by simp only [List.getElem?_toArray, List.getElem?_cons_succ, List.getElem?_cons_zero]; exact rfl) (by kernel_rfl) (by kernel_rfl) (by kernel_rfl) (by intro _ _ _ h; exact h) (Or.inl ⟨by rfl, fun W hSw => ?_⟩) hHeld ?_
                    rotate_left
                    focus ((try dsimp only at hSw); first | (go_simp; done) | (go_simp; with_reducible rfl))
                    try simp only [Act.put, List.setIfInBounds_toArray, List.set_cons_zero, List.set_cons_succ]
                    refine wpAnyH_take (i := 9) (v := ?_) (by simp only [List.getElem?_toArray, List.getElem?_cons_succ, List.getElem?_cons_zero]; exact rfl) (by kernel_rfl) (by kernel_rfl) (by kernel_rfl) (by intro _ _ _ h; exact h) (Or.inl ⟨by rfl, fun W hSw => ?_⟩) hHeld ?_
                    rotate_left
                    focus ((try dsimp only at hSw); first | (go_simp; done) | (go_simp; with_reducible rfl))
                    try simp only [Act.put, List.setIfInBounds_toArray, List.set_cons_zero, List.set_cons_succ]
                    refine wpAnyH_take (i := 10) (v := ?_) (by simp only [List.getElem?_toArray, List.getElem?_cons_succ, List.getElem?_cons_zero]; exact rfl) (by kernel_rfl) (by kernel_rfl) (by kernel_rfl) (by intro _ _ _ h; exact h) (Or.inl ⟨by rfl, fun W hSw => ?_⟩) hHeld ?_
                    rotate_left
                    focus ((try dsimp only at hSw); first | (go_simp; done) | (go_simp; with_reducible rfl))
                    try simp only [Act.put, List.setIfInBounds_toArray, List.set_cons_zero, List.set_cons_succ]
                    refine wpAnyH_take (i := 11) (v := ?_) (by simp only [List.getElem?_toArray, List.getElem?_cons_succ, List.getElem?_cons_zero]; exact rfl) (by kernel_rfl) (by kernel_rfl) (by kernel_rfl) (by intro _ _ _ h; exact h) (Or.inl ⟨by rfl, fun W hSw => ?_⟩) hHeld ?_
                    rotate_left
                    focus ((try dsimp only at hSw); first | (go_simp; done) | (go_simp; with_reducible rfl))
                    try simp only [Act.put, List.setIfInBounds_toArray, List.set_cons_zero, List.set_cons_succ]
                    refine wpAnyH_take (i := 12) (v := ?_) (by simp only [List.getElem?_toArray, List.getElem?_cons_succ, List.getElem?_cons_zero]; exact rfl) (by kernel_rfl) (by kernel_rfl) (by kernel_rfl) (by intro _ _ _ h; exact h) (Or.inl ⟨by rfl, fun W hSw => ?_⟩) hHeld ?_
                    rotate_left
                    focus ((try dsimp only at hSw); first | (go_simp; done) | (go_simp; with_reducible rfl))
                    try simp only [Act.put, List.setIfInBounds_toArray, List.set_cons_zero, List.set_cons_succ]
                    refine wpAnyH_take (i := 13) (v := ?_) (by simp only [List.getElem?_toArray, List.getElem?_cons_succ, List.getElem?_cons_zero]; exact rfl) (by kernel_rfl) (by kernel_rfl) (by kernel_rfl) (by intro _ _ _ h; exact h) (Or.inl ⟨by rfl, fun W hSw => ?_⟩) hHeld ?_
                    rotate_left
                    focus ((try dsimp only at hSw); first | (go_simp; done) | (go_simp; with_reducible rfl))
                    try simp only [Act.put, List.setIfInBounds_toArray, List.set_cons_zero, List.set_cons_succ]
                    refine wpAnyH_ready (rs := [14]) (by kernel_rfl) (by simp) (AllReadyH.cons (by simp only [List.getElem?_toArray, List.getElem?_cons_succ, List.getElem?_cons_zero]; exact rfl) (fun K hK => ?_) AllReadyH.nil)
                    rw [if_pos (by rfl)]
                    go_simp
                    (with_reducible refine KP.out.mono ?_); rintro e w5 ⟨rfl, h5, hk5⟩; have hb5 := h5.base; have hg5 : GAt w5 G sa sb := hk5.2 _ _ _ _ hgd (by decide) (by decide) (by decide); go_wp2_with fail
                    refine hK.out _ _ (KS.out _ hb5 hg5) (fun hHeld => ?_)
                    clear hK K
                    try simp only [Act.put, List.setIfInBounds_toArray, List.set_cons_zero, List.set_cons_succ]
                    refine wpAnyH_done (by kernel_rfl) ?_ _
                    clear hHeld
                    have HNX := Lib.hid (HN.out _ _ _ (Or.inr (Or.inl ⟨hrr, rfl, rfl⟩)) h5 hg5)
                    clear h5 hk5 hb5 hg5 KP
                    go_wp2
                    go_roundw
                    case rel => exact ⟨1, by omega, by first | rfl | go_num, HNX⟩
                    case measure => first | (simp [intOf]; done) | (simp [intOf]; omega)
                  have t2 : (r == 2) = false := by simpa using r2
                  by_cases r3 : r = 3
                  · subst r3
                    have KP := Lib.hid (two_drop H3.out a.key)
                    go_upto_region 22 with (fail)
                    refine wp_region_held_drew (S := (fun w' => w'.cell? ⟨G, 0, none⟩ = some (.pointer (some ⟨sa, 0, none⟩)) ∧ w'.cell? ⟨b, o + k * 12 + 2, none⟩ = some (.string ⟨a.key.toArray⟩))) (by kernel_rfl) (KS2.out _ hbd hgd) (fun hHeld => ?_)
                    refine wpAnyH_take (i := 0) (v := ?_) (by simp only [List.getElem?_toArray, List.getElem?_cons_zero]; exact rfl) (by kernel_rfl) (by kernel_rfl) (by kernel_rfl) (by intro _ _ _ h; exact h) (Or.inl ⟨by rfl, fun W hSw => ?_⟩) hHeld ?_
                    rotate_left
                    focus ((try dsimp only at hSw); first | (go_simp; done) | (go_simp; with_reducible rfl))
                    try simp only [Act.put, List.setIfInBounds_toArray, List.set_cons_zero, List.set_cons_succ]
                    refine wpAnyH_take (i := 1) (v := ?_) (by simp only [List.getElem?_toArray, List.getElem?_cons_succ, List.getElem?_cons_zero]; exact rfl) (by kernel_rfl) (by kernel_rfl) (by kernel_rfl) (by intro _ _ _ h; exact h) (Or.inl ⟨by rfl, fun W hSw => ?_⟩) hHeld ?_
                    rotate_left
                    focus ((try dsimp only at hSw); first | (go_simp; done) | (go_simp; with_reducible rfl))
                    try simp only [Act.put, List.setIfInBounds_toArray, List.set_cons_zero, List.set_cons_succ]
                    refine wpAnyH_take (i := 2) (v := ?_) (by simp only [List.getElem?_toArray, List.getElem?_cons_succ, List.getElem?_cons_zero]; exact rfl) (by kernel_rfl) (by kernel_rfl) (by kernel_rfl) (by intro _ _ _ h; exact h) (Or.inl ⟨by rfl, fun W hSw => ?_⟩) hHeld ?_
                    rotate_left
                    focus ((try dsimp only at hSw); first | (go_simp; done) | (go_simp; with_reducible rfl))
                    try simp only [Act.put, List.setIfInBounds_toArray, List.set_cons_zero, List.set_cons_succ]
                    refine wpAnyH_take (i := 3) (v := ?_) (by simp only [List.getElem?_toArray, List.getElem?_cons_succ, List.getElem?_cons_zero]; exact rfl) (by kernel_rfl) (by kernel_rfl) (by kernel_rfl) (by intro _ _ _ h; exact h) (Or.inl ⟨by rfl, fun W hSw => ?_⟩) hHeld ?_
                    rotate_left
                    focus ((try dsimp only at hSw); first | (go_simp; done) | (go_simp; with_reducible rfl))
                    try simp only [Act.put, List.setIfInBounds_toArray, List.set_cons_zero, List.set_cons_succ]
                    refine wpAnyH_take (i := 4) (v := ?_) (by simp only [List.getElem?_toArray, List.getElem?_cons_succ, List.getElem?_cons_zero]; exact rfl) (by kernel_rfl) (by kernel_rfl) (by kernel_rfl) (by intro _ _ _ h; exact h) (Or.inl ⟨by rfl, fun W hSw => ?_⟩) hHeld ?_
                    rotate_left
                    focus ((try dsimp only at hSw); first | (go_simp; done) | (go_simp; with_reducible rfl))
                    try simp only [Act.put, List.setIfInBounds_toArray, List.set_cons_zero, List.set_cons_succ]
                    refine wpAnyH_take (i := 5) (v := ?_) (by simp only [List.getElem?_toArray, List.getElem?_cons_succ, List.getElem?_cons_zero]; exact rfl) (by kernel_rfl) (by kernel_rfl) (by kernel_rfl) (by intro _ _ _ h; exact h) (Or.inl ⟨by rfl, fun W hSw => ?_⟩) hHeld ?_
                    rotate_left
                    focus ((try dsimp only at hSw); first | (go_simp; done) | (go_simp; with_reducible rfl))
                    try simp only [Act.put, List.setIfInBounds_toArray, List.set_cons_zero, List.set_cons_succ]
                    refine wpAnyH_take (i := 6) (v := ?_) (by simp only [List.getElem?_toArray, List.getElem?_cons_succ, List.getElem?_cons_zero]; exact rfl) (by kernel_rfl) (by kernel_rfl) (by kernel_rfl) (by intro _ _ _ h; exact h) (Or.inl ⟨by rfl, fun W hSw => ?_⟩) hHeld ?_
                    rotate_left
                    focus ((try dsimp only at hSw); first | (go_simp; done) | (go_simp; with_reducible rfl))
                    try simp only [Act.put, List.setIfInBounds_toArray, List.set_cons_zero, List.set_cons_succ]
                    refine wpAnyH_take (i := 7) (v := ?_) (by simp only [List.getElem?_toArray, List.getElem?_cons_succ, List.getElem?_cons_zero]; exact rfl) (by kernel_rfl) (by kernel_rfl) (by kernel_rfl) (by intro _ _ _ h; exact h) (Or.inl ⟨by rfl, fun W hSw => ?_⟩) hHeld ?_
                    rotate_left
                    focus ((try dsimp only at hSw); first | (go_simp; done) | (go_simp; with_reducible rfl))
                    try simp only [Act.put, List.setIfInBounds_toArray, List.set_cons_zero, List.set_cons_succ]
                    refine wpAnyH_take (i := 8) (v := ?_) (by simp only [List.getElem?_toArray, List.getElem?_cons_succ, List.getElem?_cons_zero]; exact rfl) (by kernel_rfl) (by kernel_rfl) (by kernel_rfl) (by intro _ _ _ h; exact h) (Or.inl ⟨by rfl, fun W hSw => ?_⟩) hHeld ?_
                    rotate_left
                    focus ((try dsimp only at hSw); first | (go_simp; done) | (go_simp; with_reducible rfl))
                    try simp only [Act.put, List.setIfInBounds_toArray, List.set_cons_zero, List.set_cons_succ]
                    refine wpAnyH_ready (rs := [9]) (by kernel_rfl) (by simp) (AllReadyH.cons (by simp only [List.getElem?_toArray, List.getElem?_cons_succ, List.getElem?_cons_zero]; exact rfl) (fun K hK => ?_) AllReadyH.nil)
                    rw [if_pos (by rfl)]
                    go_simp
                    (with_reducible refine KP.out.mono ?_); rintro e w5 ⟨rfl, h5, hk5⟩; have hb5 := h5.base; have hg5 : GAt w5 G sa sb := hk5.2 _ _ _ _ hgd (by decide) (by decide) (by decide); go_wp2_with fail
                    refine hK.out _ _ (KS2.out _ hb5 hg5) (fun hHeld => ?_)
                    clear hK K
                    try simp only [Act.put, List.setIfInBounds_toArray, List.set_cons_zero, List.set_cons_succ]
                    refine wpAnyH_done (by kernel_rfl) ?_ _
                    clear hHeld
                    have HNX := Lib.hid (HN.out _ _ _ (Or.inr (Or.inr (Or.inl ⟨hrr, rfl, rfl⟩))) h5 hg5)
                    clear h5 hk5 hb5 hg5 KP
                    go_wp2
                    go_roundw
                    case rel => exact ⟨1, by omega, by first | rfl | go_num, HNX⟩
                    case measure => first | (simp [intOf]; done) | (simp [intOf]; omega)
                  have t3 : (r == 3) = false := by simpa using r3
                  have HNX := Lib.hid (HN.out _ _ _ (Or.inr (Or.inr (Or.inr ⟨by rw [hrr]; exact r0, by rw [hrr]; exact r2, by rw [hrr]; exact r3, rfl, rfl⟩))) H2.out HG.out)
                  go_wp2
                  go_roundw
                  case rel => exact ⟨1, by omega, by first | rfl | go_num, HNX⟩
                  case measure => first | (simp [intOf]; done) | (simp [intOf]; omega)
                · have HO2 := Lib.hid (HI.out.out1 hao (by omega) (by simpa using hkey) HWA.out HWB.out hpa hpb HAP.out HKB.out)
                  clear HI
                  go_wp2
                  go_roundw
                  case rel => exact ⟨k + 1, by omega, by go_num, HO2⟩
                  case measure => first | (simp [intOf]; done) | (simp [intOf]; omega)
            · have q3 : (!(a.key == kk)) = false := by rw [hkey]; rfl
              go_wp2_with fail
              clear q3
              obtain rfl : a.key = kk := by simpa using hkey
              go_loopw [11] (fun j wi => ∃ jn : Nat, jn ≤ 2 ∧ j = .int .i64 jn ∧ Hid (InRel a 2 w sa bla sb blb G ea pa eb pb jn wi)) (fun j _ => 2 - (intOf j).toNat)
              case atStart => exact ⟨0, by omega, rfl, HI0 2⟩
              case round =>
                clear HI0 hb9
                obtain ⟨jn, hj, rfl, HI⟩ := hrel
                rcases (show jn = 0 ∨ jn = 1 ∨ jn = 2 from by omega) with rfl | rfl | rfl
                · obtain ⟨hg, h2, hnext⟩ := HI.out.first
                  have hbi := h2.base
                  obtain ⟨c0, _⟩ := KC.out _ hbi
                  have hd : Below wr.heap.size wr wr.drew := (Below.refl _ _).drew
                  have hbd := bt hbi hd
                  have h3 := h2.below hd
                  have hgd : GAt wr.drew G sa sb := hg
                  have H2 := Lib.hid h2; have H3 := Lib.hid h3; have HN := Lib.hid hnext; have HG := Lib.hid hg; clear h2 h3 hnext HI
                  have ks : ∀ W, Below w.heap.size w W → GAt W G sa sb → W.cell? ⟨G, 0, none⟩ = some (.pointer (some ⟨sa, 0, none⟩)) ∧ W.cell? ⟨b, o + k * 12 + 2, none⟩ = some (.string ⟨a.key.toArray⟩) ∧ W.cell? ⟨b, o + k * 12 + 3, none⟩ = some (.int .i64 a.st) ∧ W.cell? ⟨b, o + k * 12 + 4, none⟩ = some (.string a.re) ∧ W.cell? ⟨b, o + k * 12 + 5, none⟩ = some (.int .i64 a.mi) ∧ W.cell? ⟨b, o + k * 12 + 6, none⟩ = some (.slice a.fA a.fn a.fc) ∧ W.cell? ⟨b, o + k * 12 + 7, none⟩ = some (.string a.bo) ∧ W.cell? ⟨b, o + k * 12 + 8, none⟩ = some (.int .i64 a.asked) ∧ W.cell? ⟨b, o + k * 12 + 9, none⟩ = some (.int .i64 a.got) ∧ W.cell? ⟨b, o + k * 12 + 10, none⟩ = some (.slice a.vA a.vn a.vc) := fun W hb hg => ⟨(of_heap hg 0).1, (KC.out W hb).2⟩
                  have ks2 : ∀ W, Below w.heap.size w W → GAt W G sa sb → W.cell? ⟨G, 0, none⟩ = some (.pointer (some ⟨sa, 0, none⟩)) ∧ W.cell? ⟨b, o + k * 12 + 2, none⟩ = some (.string ⟨a.key.toArray⟩) := fun W hb hg => ⟨(ks W hb hg).1, (ks W hb hg).2.1⟩
                  have KS := Lib.hid ks; have KS2 := Lib.hid ks2; clear ks ks2
                  go_upto_region 16 with (fail)
                  generalize hrr : a.what.tmod 5 = r at *
                  clear hw5 c0
                  by_cases r0 : r = 0
                  · subst r0
                    have kp := two_put H3.out HA.out hao HWA.out (by omega) (by omega) HT.out
                    unfold entV at kp
                    have KP := Lib.hid kp; clear kp
                    go_upto_region 17 with (fail)
                    refine wp_region_held_drew (S := (fun w' => w'.cell? ⟨G, 0, none⟩ = some (.pointer (some ⟨sa, 0, none⟩)) ∧ w'.cell? ⟨b, o + k * 12 + 2, none⟩ = some (.string ⟨a.key.toArray⟩) ∧ w'.cell? ⟨b, o + k * 12 + 3, none⟩ = some (.int .i64 a.st) ∧ w'.cell? ⟨b, o + k * 12 + 4, none⟩ = some (.string a.re) ∧ w'.cell? ⟨b, o + k * 12 + 5, none⟩ = some (.int .i64 a.mi) ∧ w'.cell? ⟨b, o + k * 12 + 6, none⟩ = some (.slice a.fA a.fn a.fc) ∧ w'.cell? ⟨b, o + k * 12 + 7, none⟩ = some (.string a.bo) ∧ w'.cell? ⟨b, o + k * 12 + 8, none⟩ = some (.int .i64 a.asked) ∧ w'.cell? ⟨b, o + k * 12 + 9, none⟩ = some (.int .i64 a.got) ∧ w'.cell? ⟨b, o + k * 12 + 10, none⟩ = some (.slice a.vA a.vn a.vc))) (by kernel_rfl) (KS.out _ hbd hgd) (fun hHeld => ?_)
                    refine wpAnyH_take (i := 0) (v := ?_) (by simp only [List.getElem?_toArray, List.getElem?_cons_zero]; exact rfl) (by kernel_rfl) (by kernel_rfl) (by kernel_rfl) (by intro _ _ _ h; exact h) (Or.inl ⟨by rfl, fun W hSw => ?_⟩) hHeld ?_
                    rotate_left
                    focus ((try dsimp only at hSw); first | (go_simp; done) | (go_simp; with_reducible rfl))
                    try simp only [Act.put, List.setIfInBounds_toArray, List.set_cons_zero, List.set_cons_succ]
                    refine wpAnyH_take (i := 1) (v := ?_) (by simp only [List.getElem?_toArray, List.getElem?_cons_succ, List.getElem?_cons_zero]; exact rfl) (by kernel_rfl) (by kernel_rfl) (by kernel_rfl) (by intro _ _ _ h; exact h) (Or.inl ⟨by rfl, fun W hSw => ?_⟩) hHeld ?_
                    rotate_left
                    focus ((try dsimp only at hSw); first | (go_simp; done) | (go_simp; with_reducible rfl))
                    try simp only [Act.put, List.setIfInBounds_toArray, List.set_cons_zero, List.set_cons_succ]
                    refine wpAnyH_take (i := 2) (v := ?_) (by simp only [List.getElem?_toArray, List.getElem?_cons_succ, List.getElem?_cons_zero]; exact rfl) (by kernel_rfl) (by kernel_rfl) (by kernel_rfl) (by intro _ _ _ h; exact h) (Or.inl ⟨by rfl, fun W hSw => ?_⟩) hHeld ?_
                    rotate_left
                    focus ((try dsimp only at hSw); first | (go_simp; done) | (go_simp; with_reducible rfl))
                    try simp only [Act.put, List.setIfInBounds_toArray, List.set_cons_zero, List.set_cons_succ]
                    refine wpAnyH_take (i := 3) (v := ?_) (by simp only [List.getElem?_toArray, List.getElem?_cons_succ, List.getElem?_cons_zero]; exact rfl) (by kernel_rfl) (by kernel_rfl) (by kernel_rfl) (by intro _ _ _ h; exact h) (Or.inl ⟨by rfl, fun W hSw => ?_⟩) hHeld ?_
                    rotate_left
                    focus ((try dsimp only at hSw); first | (go_simp; done) | (go_simp; with_reducible rfl))
                    try simp only [Act.put, List.setIfInBounds_toArray, List.set_cons_zero, List.set_cons_succ]
                    refine wpAnyH_take (i := 4) (v := ?_) (by simp only [List.getElem?_toArray, List.getElem?_cons_succ, List.getElem?_cons_zero]; exact rfl) (by kernel_rfl) (by kernel_rfl) (by kernel_rfl) (by intro _ _ _ h; exact h) (Or.inl ⟨by rfl, fun W hSw => ?_⟩) hHeld ?_
                    rotate_left
                    focus ((try dsimp only at hSw); first | (go_simp; done) | (go_simp; with_reducible rfl))
                    try simp only [Act.put, List.setIfInBounds_toArray, List.set_cons_zero, List.set_cons_succ]
                    refine wpAnyH_take (i := 5) (v := ?_) (by simp only [List.getElem?_toArray, List.getElem?_cons_succ, List.getElem?_cons_zero]; exact rfl) (by kernel_rfl) (by kernel_rfl) (by kernel_rfl) (by intro _ _ _ h; exact h) (Or.inl ⟨by rfl, fun W hSw => ?_⟩) hHeld ?_
                    rotate_left
                    focus ((try dsimp only at hSw); first | (go_simp; done) | (go_simp; with_reducible rfl))
                    try simp only [Act.put, List.setIfInBounds_toArray, List.set_cons_zero, List.set_cons_succ]
                    refine wpAnyH_take (i := 6) (v := ?_) (by simp only [List.getElem?_toArray, List.getElem?_cons_succ, List.getElem?_cons_zero]; exact rfl) (by kernel_rfl) (by kernel_rfl) (by kernel_rfl) (by intro _ _ _ h; exact h) (Or.inl ⟨by rfl, fun W hSw => ?_⟩) hHeld ?_
                    rotate_left
                    focus ((try dsimp only at hSw); first | (go_simp; done) | (go_simp; with_reducible rfl))
                    try simp only [Act.put, List.setIfInBounds_toArray, List.set_cons_zero, List.set_cons_succ]
                    refine wpAnyH_take (i := 7) (v := ?_) (by simp only [List.getElem?_toArray, List.getElem?_cons_succ, List.getElem?_cons_zero]; exact rfl) (by kernel_rfl) (by kernel_rfl) (by kernel_rfl) (by intro _ _ _ h; exact h) (Or.inl ⟨by rfl, fun W hSw => ?_⟩) hHeld ?_
                    rotate_left
                    focus ((try dsimp only at hSw); first | (go_simp; done) | (go_simp; with_reducible rfl))
                    try simp only [Act.put, List.setIfInBounds_toArray, List.set_cons_zero, List.set_cons_succ]
                    refine wpAnyH_take (i := 8) (v := ?_) (by simp only [List.getElem?_toArray, List.getElem?_cons_succ, List.getElem?_cons_zero]; exact rfl) (by kernel_rfl) (by kernel_rfl) (by kernel_rfl) (by intro _ _ _ h; exact h) (Or.inl ⟨by rfl, fun W hSw => ?_⟩) hHeld ?_
                    rotate_left
                    focus ((try dsimp only at hSw); first | (go_simp; done) | (go_simp; with_reducible rfl))
                    try simp only [Act.put, List.setIfInBounds_toArray, List.set_cons_zero, List.set_cons_succ]
                    refine wpAnyH_take (i := 9) (v := ?_) (by simp only [List.getElem?_toArray, List.getElem?_cons_succ, List.getElem?_cons_zero]; exact rfl) (by kernel_rfl) (by kernel_rfl) (by kernel_rfl) (by intro _ _ _ h; exact h) (Or.inl ⟨by rfl, fun W hSw => ?_⟩) hHeld ?_
                    rotate_left
                    focus ((try dsimp only at hSw); first | (go_simp; done) | (go_simp; with_reducible rfl))
                    try simp only [Act.put, List.setIfInBounds_toArray, List.set_cons_zero, List.set_cons_succ]
                    refine wpAnyH_take (i := 10) (v := ?_) (by simp only [List.getElem?_toArray, List.getElem?_cons_succ, List.getElem?_cons_zero]; exact rfl) (by kernel_rfl) (by kernel_rfl) (by kernel_rfl) (by intro _ _ _ h; exact h) (Or.inl ⟨by rfl, fun W hSw => ?_⟩) hHeld ?_
                    rotate_left
                    focus ((try dsimp only at hSw); first | (go_simp; done) | (go_simp; with_reducible rfl))
                    try simp only [Act.put, List.setIfInBounds_toArray, List.set_cons_zero, List.set_cons_succ]
                    refine wpAnyH_take (i := 11) (v := ?_) (by simp only [List.getElem?_toArray, List.getElem?_cons_succ, List.getElem?_cons_zero]; exact rfl) (by kernel_rfl) (by kernel_rfl) (by kernel_rfl) (by intro _ _ _ h; exact h) (Or.inl ⟨by rfl, fun W hSw => ?_⟩) hHeld ?_
                    rotate_left
                    focus ((try dsimp only at hSw); first | (go_simp; done) | (go_simp; with_reducible rfl))
                    try simp only [Act.put, List.setIfInBounds_toArray, List.set_cons_zero, List.set_cons_succ]
                    refine wpAnyH_take (i := 12) (v := ?_) (by simp only [List.getElem?_toArray, List.getElem?_cons_succ, List.getElem?_cons_zero]; exact rfl) (by kernel_rfl) (by kernel_rfl) (by kernel_rfl) (by intro _ _ _ h; exact h) (Or.inl ⟨by rfl, fun W hSw => ?_⟩) hHeld ?_
                    rotate_left
                    focus ((try dsimp only at hSw); first | (go_simp; done) | (go_simp; with_reducible rfl))
                    try simp only [Act.put, List.setIfInBounds_toArray, List.set_cons_zero, List.set_cons_succ]
                    refine wpAnyH_take (i := 13) (v := ?_) (by simp only [List.getElem?_toArray, List.getElem?_cons_succ, List.getElem?_cons_zero]; exact rfl) (by kernel_rfl) (by kernel_rfl) (by kernel_rfl) (by intro _ _ _ h; exact h) (Or.inl ⟨by rfl, fun W hSw => ?_⟩) hHeld ?_
                    rotate_left
                    focus ((try dsimp only at hSw); first | (go_simp; done) | (go_simp; with_reducible rfl))
                    try simp only [Act.put, List.setIfInBounds_toArray, List.set_cons_zero, List.set_cons_succ]
                    refine wpAnyH_ready (rs := [14]) (by kernel_rfl) (by simp) (AllReadyH.cons (by simp only [List.getElem?_toArray, List.getElem?_cons_succ, List.getElem?_cons_zero]; exact rfl) (fun K hK => ?_) AllReadyH.nil)
                    rw [if_pos (by rfl)]
                    go_simp
                    (with_reducible refine KP.out.mono ?_); rintro e w5 ⟨x, hx, rfl, h5, hk5⟩; have hb5 := h5.base; have hg5 : GAt w5 G sa sb := hk5.2 _ _ _ _ hgd (by decide) (by decide) (by decide); go_wp2_with fail
                    refine hK.out _ _ (KS.out _ hb5 hg5) (fun hHeld => ?_)
                    clear hK K
                    try simp only [Act.put, List.setIfInBounds_toArray, List.set_cons_zero, List.set_cons_succ]
                    refine wpAnyH_take (i := 15) (v := ?_) (by simp only [List.getElem?_toArray, List.getElem?_cons_succ, List.getElem?_cons_zero]; exact rfl) (by kernel_rfl) (by kernel_rfl) (by kernel_rfl) (by intro _ _ _ h; exact h) (Or.inl ⟨by rfl, fun W hSw => ?_⟩) hHeld ?_
                    rotate_left
                    focus ((try dsimp only at hSw); first | (go_simp; done) | (go_simp; with_reducible rfl))
                    try simp only [Act.put, List.setIfInBounds_toArray, List.set_cons_zero, List.set_cons_succ]
                    refine wpAnyH_done (by kernel_rfl) ?_ _
                    clear hHeld
                    have HNX := Lib.hid (HN.out _ _ _ (Or.inl ⟨hrr, rfl, x, hx, rfl⟩) h5 hg5)
                    clear h5 hk5 hb5 hg5 hx KP
                    go_wp2
                    go_roundw
                    case rel => exact ⟨1, by omega, by first | rfl | go_num, HNX⟩
                    case measure => first | (simp [intOf]; done) | (simp [intOf]; omega)
                  have t0 : (r == 0) = false := by simpa using r0
                  by_cases r2 : r = 2
                  · subst r2
                    have kp := two_remove H3.out HA.out hao HT.out
                    unfold entV at kp
                    have KP := Lib.hid kp; clear kp
                    go_upto_region 20 with (fail)
                    refine wp_region_held_drew (S := (fun w' => w'.cell? ⟨G, 0, none⟩ = some (.pointer (some ⟨sa, 0, none⟩)) ∧ w'.cell? ⟨b, o + k * 12 + 2, none⟩ = some (.string ⟨a.key.toArray⟩) ∧ w'.cell? ⟨b, o + k * 12 + 3, none⟩ = some (.int .i64 a.st) ∧ w'.cell? ⟨b, o + k * 12 + 4, none⟩ = some (.string a.re) ∧ w'.cell? ⟨b, o + k * 12 + 5, none⟩ = some (.int .i64 a.mi) ∧ w'.cell? ⟨b, o + k * 12 + 6, none⟩ = some (.slice a.fA a.fn a.fc) ∧ w'.cell? ⟨b, o + k * 12 + 7, none⟩ = some (.string a.bo) ∧ w'.cell? ⟨b, o + k * 12 + 8, none⟩ = some (.int .i64 a.asked) ∧ w'.cell? ⟨b, o + k * 12 + 9, none⟩ = some (.int .i64 a.got) ∧ w'.cell? ⟨b, o + k * 12 + 10, none⟩ = some (.slice a.vA a.vn a.vc))) (by kernel_rfl) (KS.out _ hbd hgd) (fun hHeld => ?_)
                    refine wpAnyH_take (i := 0) (v := ?_) (by simp only [List.getElem?_toArray, List.getElem?_cons_zero]; exact rfl) (by kernel_rfl) (by kernel_rfl) (by kernel_rfl) (by intro _ _ _ h; exact h) (Or.inl ⟨by rfl, fun W hSw => ?_⟩) hHeld ?_
                    rotate_left
                    focus ((try dsimp only at hSw); first | (go_simp; done) | (go_simp; with_reducible rfl))
                    try simp only [Act.put, List.setIfInBounds_toArray, List.set_cons_zero, List.set_cons_succ]
                    refine wpAnyH_take (i := 1) (v := ?_) (by simp only [List.getElem?_toArray, List.getElem?_cons_succ, List.getElem?_cons_zero]; exact rfl) (by kernel_rfl) (by kernel_rfl) (by kernel_rfl) (by intro _ _ _ h; exact h) (Or.inl ⟨by rfl, fun W hSw => ?_⟩) hHeld ?_
                    rotate_left
                    focus ((try dsimp only at hSw); first | (go_simp; done) | (go_simp; with_reducible rfl))
                    try simp only [Act.put, List.setIfInBounds_toArray, List.set_cons_zero, List.set_cons_succ]
                    refine wpAnyH_take (i := 2) (v := ?_) (by simp only [List.getElem?_toArray, List.getElem?_cons_succ, List.getElem?_cons_zero]; exact rfl) (by kernel_rfl) (by kernel_rfl) (by kernel_rfl) (by intro _ _ _ h; exact h) (Or.inl ⟨by rfl, fun W hSw => ?_⟩) hHeld ?_
                    rotate_left
                    focus ((try dsimp only at hSw); first | (go_simp; done) | (go_simp; with_reducible rfl))
                    try simp only [Act.put, List.setIfInBounds_toArray, List.set_cons_zero, List.set_cons_succ]
                    refine wpAnyH_take (i := 3) (v := ?_) (by simp only [List.getElem?_toArray, List.getElem?_cons_succ, List.getElem?_cons_zero]; exact rfl) (by kernel_rfl) (by kernel_rfl) (by kernel_rfl) (by intro _ _ _ h; exact h) (Or.inl ⟨by rfl, fun W hSw => ?_⟩) hHeld ?_
                    rotate_left
                    focus ((try dsimp only at hSw); first | (go_simp; done) | (go_simp; with_reducible rfl))
                    try simp only [Act.put, List.setIfInBounds_toArray, List.set_cons_zero, List.set_cons_succ]
                    refine wpAnyH_take (i := 4) (v := ?_) (by simp only [List.getElem?_toArray, List.getElem?_cons_succ, List.getElem?_cons_zero]; exact rfl) (by kernel_rfl) (by kernel_rfl) (by kernel_rfl) (by intro _ _ _ h; exact h) (Or.inl ⟨by rfl, fun W hSw => ?_⟩) hHeld ?_
                    rotate_left
                    focus ((try dsimp only at hSw); first | (go_simp; done) | (go_simp; with_reducible rfl))
                    try simp only [Act.put, List.setIfInBounds_toArray, List.set_cons_zero, List.set_cons_succ]
                    refine wpAnyH_take (i := 5) (v := ?_) (by simp only [List.getElem?_toArray, List.getElem?_cons_succ, List.getElem?_cons_zero]; exact rfl) (by kernel_rfl) (by kernel_rfl) (by kernel_rfl) (by intro _ _ _ h; exact h) (Or.inl ⟨by rfl, fun W hSw => ?_⟩) hHeld ?_
                    rotate_left
                    focus ((try dsimp only at hSw); first | (go_simp; done) | (go_simp; with_reducible rfl))
                    try simp only [Act.put, List.setIfInBounds_toArray, List.set_cons_zero, List.set_cons_succ]
                    refine wpAnyH_take (i := 6) (v := ?_) (by simp only [List.getElem?_toArray, List.getElem?_cons_succ, List.getElem?_cons_zero]; exact rfl) (by kernel_rfl) (by kernel_rfl) (by kernel_rfl) (by intro _ _ _ h; exact h) (Or.inl ⟨by rfl, fun W hSw => ?_⟩) hHeld ?_
                    rotate_left
                    focus ((try dsimp only at hSw); first | (go_simp; done) | (go_simp; with_reducible rfl))
                    try simp only [Act.put, List.setIfInBounds_toArray, List.set_cons_zero, List.set_cons_succ]
                    refine wpAnyH_take (i := 7) (v := ?_) (by simp only [List.getElem?_toArray, List.getElem?_cons_succ, List.getElem?_cons_zero]; exact rfl) (by kernel_rfl) (by kernel_rfl) (by kernel_rfl) (by intro _ _ _ h; exact h) (Or.inl ⟨by rfl, fun W hSw => ?_⟩) hHeld ?_
                    rotate_left
                    focus ((try dsimp only at hSw); first | (go_simp; done) | (go_simp; with_reducible rfl))
                    try simp only [Act.put, List.setIfInBounds_toArray, List.set_cons_zero, List.set_cons_succ]
                    refine wpAnyH_take (i := 8) (v := ?_) (by simp only [List.getElem?_toArray, List.getElem?_cons_succ, List.getElem?_cons_zero]; exact rfl) (by kernel_rfl) (by kernel_rfl) (by kernel_rfl) (by intro _ _ _ h; exact h) (Or.inl ⟨by rfl, fun W hSw => ?_⟩) hHeld ?_
                    rotate_left
                    focus ((try dsimp only at hSw); first | (go_simp; done) | (go_simp; with_reducible rfl))
                    try simp only [Act.put, List.setIfInBounds_toArray, List.set_cons_zero, List.set_cons_succ]
                    refine wpAnyH_take (i := 9) (v := ?_) (by simp only [List.getElem?_toArray, List.getElem?_cons_succ, List.getElem?_cons_zero]; exact rfl) (by kernel_rfl) (by kernel_rfl) (by kernel_rfl) (by intro _ _ _ h; exact h) (Or.inl ⟨by rfl, fun W hSw => ?_⟩) hHeld ?_
                    rotate_left
                    focus ((try dsimp only at hSw); first | (go_simp; done) | (go_simp; with_reducible rfl))
                    try simp only [Act.put, List.setIfInBounds_toArray, List.set_cons_zero, List.set_cons_succ]
                    refine wpAnyH_take (i := 10) (v := ?_) (by simp only [List.getElem?_toArray, List.getElem?_cons_succ, List.getElem?_cons_zero]; exact rfl) (by kernel_rfl) (by kernel_rfl) (by kernel_rfl) (by intro _ _ _ h; exact h) (Or.inl ⟨by rfl, fun W hSw => ?_⟩) hHeld ?_
                    rotate_left
                    focus ((try dsimp only at hSw); first | (go_simp; done) | (go_simp; with_reducible rfl))
                    try simp only [Act.put, List.setIfInBounds_toArray, List.set_cons_zero, List.set_cons_succ]
                    refine wpAnyH_take (i := 11) (v := ?_) (by simp only [List.getElem?_toArray, List.getElem?_cons_succ, List.getElem?_cons_zero]; exact rfl) (by kernel_rfl) (by kernel_rfl) (by kernel_rfl) (by intro _ _ _ h; exact h) (Or.inl ⟨by rfl, fun W hSw => ?_⟩) hHeld ?_
                    rotate_left
                    focus ((try dsimp only at hSw); first | (go_simp; done) | (go_simp; with_reducible rfl))
                    try simp only [Act.put, List.setIfInBounds_toArray, List.set_cons_zero, List.set_cons_succ]
                    refine wpAnyH_take (i := 12) (v := ?_) (by simp only [List.getElem?_toArray, List.getElem?_cons_succ, List.getElem?_cons_zero]; exact rfl) (by kernel_rfl) (by kernel_rfl) (by kernel_rfl) (by intro _ _ _ h; exact h) (Or.inl ⟨by rfl, fun W hSw => ?_⟩) hHeld ?_
                    rotate_left
                    focus ((try dsimp only at hSw); first | (go_simp; done) | (go_simp; with_reducible rfl))
                    try simp only [Act.put, List.setIfInBounds_toArray, List.set_cons_zero, List.set_cons_succ]
                    refine wpAnyH_take (i := 13) (v := ?_) (by simp only [List.getElem?_toArray, List.getElem?_cons_succ, List.getElem?_cons_zero]; exact rfl) (by kernel_rfl) (by kernel_rfl) (by kernel_rfl) (by intro _ _ _ h; exact h) (Or.inl ⟨by rfl, fun W hSw => ?_⟩) hHeld ?_
                    rotate_left
                    focus ((try dsimp only at hSw); first | (go_simp; done) | (go_simp; with_reducible rfl))
                    try simp only [Act.put, List.setIfInBounds_toArray, List.set_cons_zero, List.set_cons_succ]
                    refine wpAnyH_ready (rs := [14]) (by kernel_rfl) (by simp) (AllReadyH.cons (by simp only [List.getElem?_toArray, List.getElem?_cons_succ, List.getElem?_cons_zero]; exact rfl) (fun K hK => ?_) AllReadyH.nil)
                    rw [if_pos (by rfl)]
                    go_simp
                    (with_reducible refine KP.out.mono ?_); rintro e w5 ⟨rfl, h5, hk5⟩; have hb5 := h5.base; have hg5 : GAt w5 G sa sb := hk5.2 _ _ _ _ hgd (by decide) (by decide) (by decide); go_wp2_with fail
                    refine hK.out _ _ (KS.out _ hb5 hg5) (fun hHeld => ?_)
                    clear hK K
                    try simp only [Act.put, List.setIfInBounds_toArray, List.set_cons_zero, List.set_cons_succ]
                    refine wpAnyH_done (by kernel_rfl) ?_ _
                    clear hHeld
                    have HNX := Lib.hid (HN.out _ _ _ (Or.inr (Or.inl ⟨hrr, rfl, rfl⟩)) h5 hg5)
                    clear h5 hk5 hb5 hg5 KP
                    go_wp2
                    go_roundw
                    case rel => exact ⟨1, by omega, by first | rfl | go_num, HNX⟩
                    case measure => first | (simp [intOf]; done) | (simp [intOf]; omega)
                  have t2 : (r == 2) = false := by simpa using r2
                  by_cases r3 : r = 3
                  · subst r3
                    have KP := Lib.hid (two_drop H3.out a.key)
                    go_upto_region 22 with (fail)
                    refine wp_region_held_drew (S := (fun w' => w'.cell? ⟨G, 0, none⟩ = some (.pointer (some ⟨sa, 0, none⟩)) ∧ w'.cell? ⟨b, o + k * 12 + 2, none⟩ = some (.string ⟨a.key.toArray⟩))) (by kernel_rfl) (KS2.out _ hbd hgd) (fun hHeld => ?_)
                    refine wpAnyH_take (i := 0) (v := ?_) (by simp only [List.getElem?_toArray, List.getElem?_cons_zero]; exact rfl) (by kernel_rfl) (by kernel_rfl) (by kernel_rfl) (by intro _ _ _ h; exact h) (Or.inl ⟨by rfl, fun W hSw => ?_⟩) hHeld ?_
                    rotate_left
                    focus ((try dsimp only at hSw); first | (go_simp; done) | (go_simp; with_reducible rfl))
                    try simp only [Act.put, List.setIfInBounds_toArray, List.set_cons_zero, List.set_cons_succ]
                    refine wpAnyH_take (i := 1) (v := ?_) (by simp only [List.getElem?_toArray, List.getElem?_cons_succ, List.getElem?_cons_zero]; exact rfl) (by kernel_rfl) (by kernel_rfl) (by kernel_rfl) (by intro _ _ _ h; exact h) (Or.inl ⟨by rfl, fun W hSw => ?_⟩) hHeld ?_
                    rotate_left
                    focus ((try dsimp only at hSw); first | (go_simp; done) | (go_simp; with_reducible rfl))
                    try simp only [Act.put, List.setIfInBounds_toArray, List.set_cons_zero, List.set_cons_succ]
                    refine wpAnyH_take (i := 2) (v := ?_) (by simp only [List.getElem?_toArray, List.getElem?_cons_succ, List.getElem?_cons_zero]; exact rfl) (by kernel_rfl) (by kernel_rfl) (by kernel_rfl) (by intro _ _ _ h; exact h) (Or.inl ⟨by rfl, fun W hSw => ?_⟩) hHeld ?_
                    rotate_left
                    focus ((try dsimp only at hSw); first | (go_simp; done) | (go_simp; with_reducible rfl))
                    try simp only [Act.put, List.setIfInBounds_toArray, List.set_cons_zero, List.set_cons_succ]
                    refine wpAnyH_take (i := 3) (v := ?_) (by simp only [List.getElem?_toArray, List.getElem?_cons_succ, List.getElem?_cons_zero]; exact rfl) (by kernel_rfl) (by kernel_rfl) (by kernel_rfl) (by intro _ _ _ h; exact h) (Or.inl ⟨by rfl, fun W hSw => ?_⟩) hHeld ?_
                    rotate_left
                    focus ((try dsimp only at hSw); first | (go_simp; done) | (go_simp; with_reducible rfl))
                    try simp only [Act.put, List.setIfInBounds_toArray, List.set_cons_zero, List.set_cons_succ]
                    refine wpAnyH_take (i := 4) (v := ?_) (by simp only [List.getElem?_toArray, List.getElem?_cons_succ, List.getElem?_cons_zero]; exact rfl) (by kernel_rfl) (by kernel_rfl) (by kernel_rfl) (by intro _ _ _ h; exact h) (Or.inl ⟨by rfl, fun W hSw => ?_⟩) hHeld ?_
                    rotate_left
                    focus ((try dsimp only at hSw); first | (go_simp; done) | (go_simp; with_reducible rfl))
                    try simp only [Act.put, List.setIfInBounds_toArray, List.set_cons_zero, List.set_cons_succ]
                    refine wpAnyH_take (i := 5) (v := ?_) (by simp only [List.getElem?_toArray, List.getElem?_cons_succ, List.getElem?_cons_zero]; exact rfl) (by kernel_rfl) (by kernel_rfl) (by kernel_rfl) (by intro _ _ _ h; exact h) (Or.inl ⟨by rfl, fun W hSw => ?_⟩) hHeld ?_
                    rotate_left
                    focus ((try dsimp only at hSw); first | (go_simp; done) | (go_simp; with_reducible rfl))
                    try simp only [Act.put, List.setIfInBounds_toArray, List.set_cons_zero, List.set_cons_succ]
                    refine wpAnyH_take (i := 6) (v := ?_) (by simp only [List.getElem?_toArray, List.getElem?_cons_succ, List.getElem?_cons_zero]; exact rfl) (by kernel_rfl) (by kernel_rfl) (by kernel_rfl) (by intro _ _ _ h; exact h) (Or.inl ⟨by rfl, fun W hSw => ?_⟩) hHeld ?_
                    rotate_left
                    focus ((try dsimp only at hSw); first | (go_simp; done) | (go_simp; with_reducible rfl))
                    try simp only [Act.put, List.setIfInBounds_toArray, List.set_cons_zero, List.set_cons_succ]
                    refine wpAnyH_take (i := 7) (v := ?_) (by simp only [List.getElem?_toArray, List.getElem?_cons_succ, List.getElem?_cons_zero]; exact rfl) (by kernel_rfl) (by kernel_rfl) (by kernel_rfl) (by intro _ _ _ h; exact h) (Or.inl ⟨by rfl, fun W hSw => ?_⟩) hHeld ?_
                    rotate_left
                    focus ((try dsimp only at hSw); first | (go_simp; done) | (go_simp; with_reducible rfl))
                    try simp only [Act.put, List.setIfInBounds_toArray, List.set_cons_zero, List.set_cons_succ]
                    refine wpAnyH_take (i := 8) (v := ?_) (by simp only [List.getElem?_toArray, List.getElem?_cons_succ, List.getElem?_cons_zero]; exact rfl) (by kernel_rfl) (by kernel_rfl) (by kernel_rfl) (by intro _ _ _ h; exact h) (Or.inl ⟨by rfl, fun W hSw => ?_⟩) hHeld ?_
                    rotate_left
                    focus ((try dsimp only at hSw); first | (go_simp; done) | (go_simp; with_reducible rfl))
                    try simp only [Act.put, List.setIfInBounds_toArray, List.set_cons_zero, List.set_cons_succ]
                    refine wpAnyH_ready (rs := [9]) (by kernel_rfl) (by simp) (AllReadyH.cons (by simp only [List.getElem?_toArray, List.getElem?_cons_succ, List.getElem?_cons_zero]; exact rfl) (fun K hK => ?_) AllReadyH.nil)
                    rw [if_pos (by rfl)]
                    go_simp
                    (with_reducible refine KP.out.mono ?_); rintro e w5 ⟨rfl, h5, hk5⟩; have hb5 := h5.base; have hg5 : GAt w5 G sa sb := hk5.2 _ _ _ _ hgd (by decide) (by decide) (by decide); go_wp2_with fail
                    refine hK.out _ _ (KS2.out _ hb5 hg5) (fun hHeld => ?_)
                    clear hK K
                    try simp only [Act.put, List.setIfInBounds_toArray, List.set_cons_zero, List.set_cons_succ]
                    refine wpAnyH_done (by kernel_rfl) ?_ _
                    clear hHeld
                    have HNX := Lib.hid (HN.out _ _ _ (Or.inr (Or.inr (Or.inl ⟨hrr, rfl, rfl⟩))) h5 hg5)
                    clear h5 hk5 hb5 hg5 KP
                    go_wp2
                    go_roundw
                    case rel => exact ⟨1, by omega, by first | rfl | go_num, HNX⟩
                    case measure => first | (simp [intOf]; done) | (simp [intOf]; omega)
                  have t3 : (r == 3) = false := by simpa using r3
                  have HNX := Lib.hid (HN.out _ _ _ (Or.inr (Or.inr (Or.inr ⟨by rw [hrr]; exact r0, by rw [hrr]; exact r2, by rw [hrr]; exact r3, rfl, rfl⟩))) H2.out HG.out)
                  go_wp2
                  go_roundw
                  case rel => exact ⟨1, by omega, by first | rfl | go_num, HNX⟩
                  case measure => first | (simp [intOf]; done) | (simp [intOf]; omega)
                · obtain ⟨hg, ea1, pa1, h2, hnext⟩ := HI.out.second
                  have hbi := h2.base
                  obtain ⟨c0, _⟩ := KC.out _ hbi
                  have hd : Below wr.heap.size wr wr.drew := (Below.refl _ _).drew
                  have hbd := bt hbi hd
                  have h3 := h2.below hd
                  have hgd : GAt wr.drew G sa sb := hg
                  have H2 := Lib.hid h2; have H3 := Lib.hid h3; have HN := Lib.hid hnext; have HG := Lib.hid hg; clear h2 h3 hnext HI
                  have ks : ∀ W, Below w.heap.size w W → GAt W G sa sb → W.cell? ⟨G, 1, none⟩ = some (.pointer (some ⟨sb, 0, none⟩)) ∧ W.cell? ⟨b, o + k * 12 + 2, none⟩ = some (.string ⟨a.key.toArray⟩) ∧ W.cell? ⟨b, o + k * 12 + 3, none⟩ = some (.int .i64 a.st) ∧ W.cell? ⟨b, o + k * 12 + 4, none⟩ = some (.string a.re) ∧ W.cell? ⟨b, o + k * 12 + 5, none⟩ = some (.int .i64 a.mi) ∧ W.cell? ⟨b, o + k * 12 + 6, none⟩ = some (.slice a.fA a.fn a.fc) ∧ W.cell? ⟨b, o + k * 12 + 7, none⟩ = some (.string a.bo) ∧ W.cell? ⟨b, o + k * 12 + 8, none⟩ = some (.int .i64 a.asked) ∧ W.cell? ⟨b, o + k * 12 + 9, none⟩ = some (.int .i64 a.got) ∧ W.cell? ⟨b, o + k * 12 + 10, none⟩ = some (.slice a.vA a.vn a.vc) := fun W hb hg => ⟨(of_heap hg 1).1, (KC.out W hb).2⟩
                  have ks2 : ∀ W, Below w.heap.size w W → GAt W G sa sb → W.cell? ⟨G, 1, none⟩ = some (.pointer (some ⟨sb, 0, none⟩)) ∧ W.cell? ⟨b, o + k * 12 + 2, none⟩ = some (.string ⟨a.key.toArray⟩) := fun W hb hg => ⟨(ks W hb hg).1, (ks W hb hg).2.1⟩
                  have KS := Lib.hid ks; have KS2 := Lib.hid ks2; clear ks ks2
                  go_upto_region 16 with (fail)
                  generalize hrr : a.what.tmod 5 = r at *
                  clear hw5 c0
                  by_cases r0 : r = 0
                  · subst r0
                    have kp := two_put H3.out HA.out hao HWB.out (by omega) (by omega) HT.out
                    unfold entV at kp
                    have KP := Lib.hid kp; clear kp
                    go_upto_region 17 with (fail)
                    refine wp_region_held_drew (S := (fun w' => w'.cell? ⟨G, 1, none⟩ = some (.pointer (some ⟨sb, 0, none⟩)) ∧ w'.cell? ⟨b, o + k * 12 + 2, none⟩ = some (.string ⟨a.key.toArray⟩) ∧ w'.cell? ⟨b, o + k * 12 + 3, none⟩ = some (.int .i64 a.st) ∧ w'.cell? ⟨b, o + k * 12 + 4, none⟩ = some (.string a.re) ∧ w'.cell? ⟨b, o + k * 12 + 5, none⟩ = some (.int .i64 a.mi) ∧ w'.cell? ⟨b, o + k * 12 + 6, none⟩ = some (.slice a.fA a.fn a.fc) ∧ w'.cell? ⟨b, o + k * 12 + 7, none⟩ = some (.string a.bo) ∧ w'.cell? ⟨b, o + k * 12 + 8, none⟩ = some (.int .i64 a.asked) ∧ w'.cell? ⟨b, o + k * 12 + 9, none⟩ = some (.int .i64 a.got) ∧ w'.cell? ⟨b, o + k * 12 + 10, none⟩ = some (.slice a.vA a.vn a.vc))) (by kernel_rfl) (KS.out _ hbd hgd) (fun hHeld => ?_)
                    refine wpAnyH_take (i := 0) (v := ?_) (by simp only [List.getElem?_toArray, List.getElem?_cons_zero]; exact rfl) (by kernel_rfl) (by kernel_rfl) (by kernel_rfl) (by intro _ _ _ h; exact h) (Or.inl ⟨by rfl, fun W hSw => ?_⟩) hHeld ?_
                    rotate_left
                    focus ((try dsimp only at hSw); first | (go_simp; done) | (go_simp; with_reducible rfl))
                    try simp only [Act.put, List.setIfInBounds_toArray, List.set_cons_zero, List.set_cons_succ]
                    refine wpAnyH_take (i := 1) (v := ?_) (by simp only [List.getElem?_toArray, List.getElem?_cons_succ, List.getElem?_cons_zero]; exact rfl) (by kernel_rfl) (by kernel_rfl) (by kernel_rfl) (by intro _ _ _ h; exact h) (Or.inl ⟨by rfl, fun W hSw => ?_⟩) hHeld ?_
                    rotate_left
                    focus ((try dsimp only at hSw); first | (go_simp; done) | (go_simp; with_reducible rfl))
                    try simp only [Act.put, List.setIfInBounds_toArray, List.set_cons_zero, List.set_cons_succ]
                    refine wpAnyH_take (i := 2) (v := ?_) (by simp only [List.getElem?_toArray, List.getElem?_cons_succ, List.getElem?_cons_zero]; exact rfl) (by kernel_rfl) (by kernel_rfl) (by kernel_rfl) (by intro _ _ _ h; exact h) (Or.inl ⟨by rfl, fun W hSw => ?_⟩) hHeld ?_
                    rotate_left
                    focus ((try dsimp only at hSw); first | (go_simp; done) | (go_simp; with_reducible rfl))
                    try simp only [Act.put, List.setIfInBounds_toArray, List.set_cons_zero, List.set_cons_succ]
                    refine wpAnyH_take (i := 3) (v := ?_) (by simp only [List.getElem?_toArray, List.getElem?_cons_succ, List.getElem?_cons_zero]; exact rfl) (by kernel_rfl) (by kernel_rfl) (by kernel_rfl) (by intro _ _ _ h; exact h) (Or.inl ⟨by rfl, fun W hSw => ?_⟩) hHeld ?_
                    rotate_left
                    focus ((try dsimp only at hSw); first | (go_simp; done) | (go_simp; with_reducible rfl))
                    try simp only [Act.put, List.setIfInBounds_toArray, List.set_cons_zero, List.set_cons_succ]
                    refine wpAnyH_take (i := 4) (v := ?_) (by simp only [List.getElem?_toArray, List.getElem?_cons_succ, List.getElem?_cons_zero]; exact rfl) (by kernel_rfl) (by kernel_rfl) (by kernel_rfl) (by intro _ _ _ h; exact h) (Or.inl ⟨by rfl, fun W hSw => ?_⟩) hHeld ?_
                    rotate_left
                    focus ((try dsimp only at hSw); first | (go_simp; done) | (go_simp; with_reducible rfl))
                    try simp only [Act.put, List.setIfInBounds_toArray, List.set_cons_zero, List.set_cons_succ]
                    refine wpAnyH_take (i := 5) (v := ?_) (by simp only [List.getElem?_toArray, List.getElem?_cons_succ, List.getElem?_cons_zero]; exact rfl) (by kernel_rfl) (by kernel_rfl) (by kernel_rfl) (by intro _ _ _ h; exact h) (Or.inl ⟨by rfl, fun W hSw => ?_⟩) hHeld ?_
                    rotate_left
                    focus ((try dsimp only at hSw); first | (go_simp; done) | (go_simp; with_reducible rfl))
                    try simp only [Act.put, List.setIfInBounds_toArray, List.set_cons_zero, List.set_cons_succ]
                    refine wpAnyH_take (i := 6) (v := ?_) (by simp only [List.getElem?_toArray, List.getElem?_cons_succ, List.getElem?_cons_zero]; exact rfl) (by kernel_rfl) (by kernel_rfl) (by kernel_rfl) (by intro _ _ _ h; exact h) (Or.inl ⟨by rfl, fun W hSw => ?_⟩) hHeld ?_
                    rotate_left
                    focus ((try dsimp only at hSw); first | (go_simp; done) | (go_simp; with_reducible rfl))
                    try simp only [Act.put, List.setIfInBounds_toArray, List.set_cons_zero, List.set_cons_succ]
                    refine wpAnyH_take (i := 7) (v := ?_) (by simp only [List.getElem?_toArray, List.getElem?_cons_succ, List.getElem?_cons_zero]; exact rfl) (by kernel_rfl) (by kernel_rfl) (by kernel_rfl) (by intro _ _ _ h; exact h) (Or.inl ⟨by rfl, fun W hSw => ?_⟩) hHeld ?_
                    rotate_left
                    focus ((try dsimp only at hSw); first | (go_simp; done) | (go_simp; with_reducible rfl))
                    try simp only [Act.put, List.setIfInBounds_toArray, List.set_cons_zero, List.set_cons_succ]
                    refine wpAnyH_take (i := 8) (v := ?_) (by simp only [List.getElem?_toArray, List.getElem?_cons_succ, List.getElem?_cons_zero]; exact rfl) (by kernel_rfl) (by kernel_rfl) (by kernel_rfl) (by intro _ _ _ h; exact h) (Or.inl ⟨by rfl, fun W hSw => ?_⟩) hHeld ?_
                    rotate_left
                    focus ((try dsimp only at hSw); first | (go_simp; done) | (go_simp; with_reducible rfl))
                    try simp only [Act.put, List.setIfInBounds_toArray, List.set_cons_zero, List.set_cons_succ]
                    refine wpAnyH_take (i := 9) (v := ?_) (by simp only [List.getElem?_toArray, List.getElem?_cons_succ, List.getElem?_cons_zero]; exact rfl) (by kernel_rfl) (by kernel_rfl) (by kernel_rfl) (by intro _ _ _ h; exact h) (Or.inl ⟨by rfl, fun W hSw => ?_⟩) hHeld ?_
                    rotate_left
                    focus ((try dsimp only at hSw); first | (go_simp; done) | (go_simp; with_reducible rfl))
                    try simp only [Act.put, List.setIfInBounds_toArray, List.set_cons_zero, List.set_cons_succ]
                    refine wpAnyH_take (i := 10) (v := ?_) (by simp only [List.getElem?_toArray, List.getElem?_cons_succ, List.getElem?_cons_zero]; exact rfl) (by kernel_rfl) (by kernel_rfl) (by kernel_rfl) (by intro _ _ _ h; exact h) (Or.inl ⟨by rfl, fun W hSw => ?_⟩) hHeld ?_
                    rotate_left
                    focus ((try dsimp only at hSw); first | (go_simp; done) | (go_simp; with_reducible rfl))
                    try simp only [Act.put, List.setIfInBounds_toArray, List.set_cons_zero, List.set_cons_succ]
                    refine wpAnyH_take (i := 11) (v := ?_) (by simp only [List.getElem?_toArray, List.getElem?_cons_succ, List.getElem?_cons_zero]; exact rfl) (by kernel_rfl) (by kernel_rfl) (by kernel_rfl) (by intro _ _ _ h; exact h) (Or.inl ⟨by rfl, fun W hSw => ?_⟩) hHeld ?_
                    rotate_left
                    focus ((try dsimp only at hSw); first | (go_simp; done) | (go_simp; with_reducible rfl))
                    try simp only [Act.put, List.setIfInBounds_toArray, List.set_cons_zero, List.set_cons_succ]
                    refine wpAnyH_take (i := 12) (v := ?_) (by simp only [List.getElem?_toArray, List.getElem?_cons_succ, List.getElem?_cons_zero]; exact rfl) (by kernel_rfl) (by kernel_rfl) (by kernel_rfl) (by intro _ _ _ h; exact h) (Or.inl ⟨by rfl, fun W hSw => ?_⟩) hHeld ?_
                    rotate_left
                    focus ((try dsimp only at hSw); first | (go_simp; done) | (go_simp; with_reducible rfl))
                    try simp only [Act.put, List.setIfInBounds_toArray, List.set_cons_zero, List.set_cons_succ]
                    refine wpAnyH_take (i := 13) (v := ?_) (by simp only [List.getElem?_toArray, List.getElem?_cons_succ, List.getElem?_cons_zero]; exact rfl) (by kernel_rfl) (by kernel_rfl) (by kernel_rfl) (by intro _ _ _ h; exact h) (Or.inl ⟨by rfl, fun W hSw => ?_⟩) hHeld ?_
                    rotate_left
                    focus ((try dsimp only at hSw); first | (go_simp; done) | (go_simp; with_reducible rfl))
                    try simp only [Act.put, List.setIfInBounds_toArray, List.set_cons_zero, List.set_cons_succ]
                    refine wpAnyH_ready (rs := [14]) (by kernel_rfl) (by simp) (AllReadyH.cons (by simp only [List.getElem?_toArray, List.getElem?_cons_succ, List.getElem?_cons_zero]; exact rfl) (fun K hK => ?_) AllReadyH.nil)
                    rw [if_pos (by rfl)]
                    go_simp
                    (with_reducible refine KP.out.mono ?_); rintro e w5 ⟨x, hx, rfl, h5, hk5⟩; have hb5 := h5.base; have hg5 : GAt w5 G sa sb := hk5.2 _ _ _ _ hgd (by decide) (by decide) (by decide); go_wp2_with fail
                    refine hK.out _ _ (KS.out _ hb5 hg5) (fun hHeld => ?_)
                    clear hK K
                    try simp only [Act.put, List.setIfInBounds_toArray, List.set_cons_zero, List.set_cons_succ]
                    refine wpAnyH_take (i := 15) (v := ?_) (by simp only [List.getElem?_toArray, List.getElem?_cons_succ, List.getElem?_cons_zero]; exact rfl) (by kernel_rfl) (by kernel_rfl) (by kernel_rfl) (by intro _ _ _ h; exact h) (Or.inl ⟨by rfl, fun W hSw => ?_⟩) hHeld ?_
                    rotate_left
                    focus ((try dsimp only at hSw); first | (go_simp; done) | (go_simp; with_reducible rfl))
                    try simp only [Act.put, List.setIfInBounds_toArray, List.set_cons_zero, List.set_cons_succ]
                    refine wpAnyH_done (by kernel_rfl) ?_ _
                    clear hHeld
                    have HNX := Lib.hid (HN.out _ _ _ (Or.inl ⟨hrr, rfl, x, hx, rfl⟩) h5 hg5)
                    clear h5 hk5 hb5 hg5 hx KP
                    go_wp2
                    go_roundw
                    case rel => exact ⟨2, by omega, by first | rfl | go_num, HNX⟩
                    case measure => first | (simp [intOf]; done) | (simp [intOf]; omega)
                  have t0 : (r == 0) = false := by simpa using r0
                  by_cases r2 : r = 2
                  · subst r2
                    have kp := two_remove H3.out HA.out hao HT.out
                    unfold entV at kp
                    have KP := Lib.hid kp; clear kp
                    go_upto_region 20 with (fail)
                    refine wp_region_held_drew (S := (fun w' => w'.cell? ⟨G, 1, none⟩ = some (.pointer (some ⟨sb, 0, none⟩)) ∧ w'.cell? ⟨b, o + k * 12 + 2, none⟩ = some (.string ⟨a.key.toArray⟩) ∧ w'.cell? ⟨b, o + k * 12 + 3, none⟩ = some (.int .i64 a.st) ∧ w'.cell? ⟨b, o + k * 12 + 4, none⟩ = some (.string a.re) ∧ w'.cell? ⟨b, o + k * 12 + 5, none⟩ = some (.int .i64 a.mi) ∧ w'.cell? ⟨b, o + k * 12 + 6, none⟩ = some (.slice a.fA a.fn a.fc) ∧ w'.cell? ⟨b, o + k * 12 + 7, none⟩ = some (.string a.bo) ∧ w'.cell? ⟨b, o + k * 12 + 8, none⟩ = some (.int .i64 a.asked) ∧ w'.cell? ⟨b, o + k * 12 + 9, none⟩ = some (.int .i64 a.got) ∧ w'.cell? ⟨b, o + k * 12 + 10, none⟩ = some (.slice a.vA a.vn a.vc))) (by kernel_rfl) (KS.out _ hbd hgd) (fun hHeld => ?_)
                    refine wpAnyH_take (i := 0) (v := ?_) (by simp only [List.getElem?_toArray, List.getElem?_cons_zero]; exact rfl) (by kernel_rfl) (by kernel_rfl) (by kernel_rfl) (by intro _ _ _ h; exact h) (Or.inl ⟨by rfl, fun W hSw => ?_⟩) hHeld ?_
                    rotate_left
                    focus ((try dsimp only at hSw); first | (go_simp; done) | (go_simp; with_reducible rfl))
                    try simp only [Act.put, List.setIfInBounds_toArray, List.set_cons_zero, List.set_cons_succ]
                    refine wpAnyH_take (i := 1) (v := ?_) (by simp only [List.getElem?_toArray, List.getElem?_cons_succ, List.getElem?_cons_zero]; exact rfl) (by kernel_rfl) (by kernel_rfl) (by kernel_rfl) (by intro _ _ _ h; exact h) (Or.inl ⟨by rfl, fun W hSw => ?_⟩) hHeld ?_
                    rotate_left
                    focus ((try dsimp only at hSw); first | (go_simp; done) | (go_simp; with_reducible rfl))
                    try simp only [Act.put, List.setIfInBounds_toArray, List.set_cons_zero, List.set_cons_succ]
                    refine wpAnyH_take (i := 2) (v := ?_) (by simp only [List.getElem?_toArray, List.getElem?_cons_succ, List.getElem?_cons_zero]; exact rfl) (by kernel_rfl) (by kernel_rfl) (by kernel_rfl) (by intro _ _ _ h; exact h) (Or.inl ⟨by rfl, fun W hSw => ?_⟩) hHeld ?_
                    rotate_left
                    focus ((try dsimp only at hSw); first | (go_simp; done) | (go_simp; with_reducible rfl))
                    try simp only [Act.put, List.setIfInBounds_toArray, List.set_cons_zero, List.set_cons_succ]
                    refine wpAnyH_take (i := 3) (v := ?_) (by simp only [List.getElem?_toArray, List.getElem?_cons_succ, List.getElem?_cons_zero]; exact rfl) (by kernel_rfl) (by kernel_rfl) (by kernel_rfl) (by intro _ _ _ h; exact h) (Or.inl ⟨by rfl, fun W hSw => ?_⟩) hHeld ?_
                    rotate_left
                    focus ((try dsimp only at hSw); first | (go_simp; done) | (go_simp; with_reducible rfl))
                    try simp only [Act.put, List.setIfInBounds_toArray, List.set_cons_zero, List.set_cons_succ]
                    refine wpAnyH_take (i := 4) (v := ?_) (by simp only [List.getElem?_toArray, List.getElem?_cons_succ, List.getElem?_cons_zero]; exact rfl) (by kernel_rfl) (by kernel_rfl) (by kernel_rfl) (by intro _ _ _ h; exact h) (Or.inl ⟨by rfl, fun W hSw => ?_⟩) hHeld ?_
                    rotate_left
                    focus ((try dsimp only at hSw); first | (go_simp; done) | (go_simp; with_reducible rfl))
                    try simp only [Act.put, List.setIfInBounds_toArray, List.set_cons_zero, List.set_cons_succ]
                    refine wpAnyH_take (i := 5) (v := ?_) (by simp only [List.getElem?_toArray, List.getElem?_cons_succ, List.getElem?_cons_zero]; exact rfl) (by kernel_rfl) (by kernel_rfl) (by kernel_rfl) (by intro _ _ _ h; exact h) (Or.inl ⟨by rfl, fun W hSw => ?_⟩) hHeld ?_
                    rotate_left
                    focus ((try dsimp only at hSw); first | (go_simp; done) | (go_simp; with_reducible rfl))
                    try simp only [Act.put, List.setIfInBounds_toArray, List.set_cons_zero, List.set_cons_succ]
                    refine wpAnyH_take (i := 6) (v := ?_) (by simp only [List.getElem?_toArray, List.getElem?_cons_succ, List.getElem?_cons_zero]; exact rfl) (by kernel_rfl) (by kernel_rfl) (by kernel_rfl) (by intro _ _ _ h; exact h) (Or.inl ⟨by rfl, fun W hSw => ?_⟩) hHeld ?_
                    rotate_left
                    focus ((try dsimp only at hSw); first | (go_simp; done) | (go_simp; with_reducible rfl))
                    try simp only [Act.put, List.setIfInBounds_toArray, List.set_cons_zero, List.set_cons_succ]
                    refine wpAnyH_take (i := 7) (v := ?_) (by simp only [List.getElem?_toArray, List.getElem?_cons_succ, List.getElem?_cons_zero]; exact rfl) (by kernel_rfl) (by kernel_rfl) (by kernel_rfl) (by intro _ _ _ h; exact h) (Or.inl ⟨by rfl, fun W hSw => ?_⟩) hHeld ?_
                    rotate_left
                    focus ((try dsimp only at hSw); first | (go_simp; done) | (go_simp; with_reducible rfl))
                    try simp only [Act.put, List.setIfInBounds_toArray, List.set_cons_zero, List.set_cons_succ]
                    refine wpAnyH_take (i := 8) (v := ?_) (by simp only [List.getElem?_toArray, List.getElem?_cons_succ, List.getElem?_cons_zero]; exact rfl) (by kernel_rfl) (by kernel_rfl) (by kernel_rfl) (by intro _ _ _ h; exact h) (Or.inl ⟨by rfl, fun W hSw => ?_⟩) hHeld ?_
                    rotate_left
                    focus ((try dsimp only at hSw); first | (go_simp; done) | (go_simp; with_reducible rfl))
                    try simp only [Act.put, List.setIfInBounds_toArray, List.set_cons_zero, List.set_cons_succ]
                    refine wpAnyH_take (i := 9) (v := ?_) (by simp only [List.getElem?_toArray, List.getElem?_cons_succ, List.getElem?_cons_zero]; exact rfl) (by kernel_rfl) (by kernel_rfl) (by kernel_rfl) (by intro _ _ _ h; exact h) (Or.inl ⟨by rfl, fun W hSw => ?_⟩) hHeld ?_
                    rotate_left
                    focus ((try dsimp only at hSw); first | (go_simp; done) | (go_simp; with_reducible rfl))
                    try simp only [Act.put, List.setIfInBounds_toArray, List.set_cons_zero, List.set_cons_succ]
                    refine wpAnyH_take (i := 10) (v := ?_) (by simp only [List.getElem?_toArray, List.getElem?_cons_succ, List.getElem?_cons_zero]; exact rfl) (by kernel_rfl) (by kernel_rfl) (by kernel_rfl) (by intro _ _ _ h; exact h) (Or.inl ⟨by rfl, fun W hSw => ?_⟩) hHeld ?_
                    rotate_left
                    focus ((try dsimp only at hSw); first | (go_simp; done) | (go_simp; with_reducible rfl))
                    try simp only [Act.put, List.setIfInBounds_toArray, List.set_cons_zero, List.set_cons_succ]
                    refine wpAnyH_take (i := 11) (v := ?_) (by simp only [List.getElem?_toArray, List.getElem?_cons_succ, List.getElem?_cons_zero]; exact rfl) (by kernel_rfl) (by kernel_rfl) (by kernel_rfl) (by intro _ _ _ h; exact h) (Or.inl ⟨by rfl, fun W hSw => ?_⟩) hHeld ?_
                    rotate_left
                    focus ((try dsimp only at hSw); first | (go_simp; done) | (go_simp; with_reducible rfl))
                    try simp only [Act.put, List.setIfInBounds_toArray, List.set_cons_zero, List.set_cons_succ]
                    refine wpAnyH_take (i := 12) (v := ?_) (by simp only [List.getElem?_toArray, List.getElem?_cons_succ, List.getElem?_cons_zero]; exact rfl) (by kernel_rfl) (by kernel_rfl) (by kernel_rfl) (by intro _ _ _ h; exact h) (Or.inl ⟨by rfl, fun W hSw => ?_⟩) hHeld ?_
                    rotate_left
                    focus ((try dsimp only at hSw); first | (go_simp; done) | (go_simp; with_reducible rfl))
                    try simp only [Act.put, List.setIfInBounds_toArray, List.set_cons_zero, List.set_cons_succ]
                    refine wpAnyH_take (i := 13) (v := ?_) (by simp only [List.getElem?_toArray, List.getElem?_cons_succ, List.getElem?_cons_zero]; exact rfl) (by kernel_rfl) (by kernel_rfl) (by kernel_rfl) (by intro _ _ _ h; exact h) (Or.inl ⟨by rfl, fun W hSw => ?_⟩) hHeld ?_
                    rotate_left
                    focus ((try dsimp only at hSw); first | (go_simp; done) | (go_simp; with_reducible rfl))
                    try simp only [Act.put, List.setIfInBounds_toArray, List.set_cons_zero, List.set_cons_succ]
                    refine wpAnyH_ready (rs := [14]) (by kernel_rfl) (by simp) (AllReadyH.cons (by simp only [List.getElem?_toArray, List.getElem?_cons_succ, List.getElem?_cons_zero]; exact rfl) (fun K hK => ?_) AllReadyH.nil)
                    rw [if_pos (by rfl)]
                    go_simp
                    (with_reducible refine KP.out.mono ?_); rintro e w5 ⟨rfl, h5, hk5⟩; have hb5 := h5.base; have hg5 : GAt w5 G sa sb := hk5.2 _ _ _ _ hgd (by decide) (by decide) (by decide); go_wp2_with fail
                    refine hK.out _ _ (KS.out _ hb5 hg5) (fun hHeld => ?_)
                    clear hK K
                    try simp only [Act.put, List.setIfInBounds_toArray, List.set_cons_zero, List.set_cons_succ]
                    refine wpAnyH_done (by kernel_rfl) ?_ _
                    clear hHeld
                    have HNX := Lib.hid (HN.out _ _ _ (Or.inr (Or.inl ⟨hrr, rfl, rfl⟩)) h5 hg5)
                    clear h5 hk5 hb5 hg5 KP
                    go_wp2
                    go_roundw
                    case rel => exact ⟨2, by omega, by first | rfl | go_num, HNX⟩
                    case measure => first | (simp [intOf]; done) | (simp [intOf]; omega)
                  have t2 : (r == 2) = false := by simpa using r2
                  by_cases r3 : r = 3
                  · subst r3
                    have KP := Lib.hid (two_drop H3.out a.key)
                    go_upto_region 22 with (fail)
                    refine wp_region_held_drew (S := (fun w' => w'.cell? ⟨G, 1, none⟩ = some (.pointer (some ⟨sb, 0, none⟩)) ∧ w'.cell? ⟨b, o + k * 12 + 2, none⟩ = some (.string ⟨a.key.toArray⟩))) (by kernel_rfl) (KS2.out _ hbd hgd) (fun hHeld => ?_)
                    refine wpAnyH_take (i := 0) (v := ?_) (by simp only [List.getElem?_toArray, List.getElem?_cons_zero]; exact rfl) (by kernel_rfl) (by kernel_rfl) (by kernel_rfl) (by intro _ _ _ h; exact h) (Or.inl ⟨by rfl, fun W hSw => ?_⟩) hHeld ?_
                    rotate_left
                    focus ((try dsimp only at hSw); first | (go_simp; done) | (go_simp; with_reducible rfl))
                    try simp only [Act.put, List.setIfInBounds_toArray, List.set_cons_zero, List.set_cons_succ]
                    refine wpAnyH_take (i := 1) (v := ?_) (by simp only [List.getElem?_toArray, List.getElem?_cons_succ, List.getElem?_cons_zero]; exact rfl) (by kernel_rfl) (by kernel_rfl) (by kernel_rfl) (by intro _ _ _ h; exact h) (Or.inl ⟨by rfl, fun W hSw => ?_⟩) hHeld ?_
                    rotate_left
                    focus ((try dsimp only at hSw); first | (go_simp; done) | (go_simp; with_reducible rfl))
                    try simp only [Act.put, List.setIfInBounds_toArray, List.set_cons_zero, List.set_cons_succ]
                    refine wpAnyH_take (i := 2) (v := ?_) (by simp only [List.getElem?_toArray, List.getElem?_cons_succ, List.getElem?_cons_zero]; exact rfl) (by kernel_rfl) (by kernel_rfl) (by kernel_rfl) (by intro _ _ _ h; exact h) (Or.inl ⟨by rfl, fun W hSw => ?_⟩) hHeld ?_
                    rotate_left
                    focus ((try dsimp only at hSw); first | (go_simp; done) | (go_simp; with_reducible rfl))
                    try simp only [Act.put, List.setIfInBounds_toArray, List.set_cons_zero, List.set_cons_succ]
                    refine wpAnyH_take (i := 3) (v := ?_) (by simp only [List.getElem?_toArray, List.getElem?_cons_succ, List.getElem?_cons_zero]; exact rfl) (by kernel_rfl) (by kernel_rfl) (by kernel_rfl) (by intro _ _ _ h; exact h) (Or.inl ⟨by rfl, fun W hSw => ?_⟩) hHeld ?_
                    rotate_left
                    focus ((try dsimp only at hSw); first | (go_simp; done) | (go_simp; with_reducible rfl))
                    try simp only [Act.put, List.setIfInBounds_toArray, List.set_cons_zero, List.set_cons_succ]
                    refine wpAnyH_take (i := 4) (v := ?_) (by simp only [List.getElem?_toArray, List.getElem?_cons_succ, List.getElem?_cons_zero]; exact rfl) (by kernel_rfl) (by kernel_rfl) (by kernel_rfl) (by intro _ _ _ h; exact h) (Or.inl ⟨by rfl, fun W hSw => ?_⟩) hHeld ?_
                    rotate_left
                    focus ((try dsimp only at hSw); first | (go_simp; done) | (go_simp; with_reducible rfl))
                    try simp only [Act.put, List.setIfInBounds_toArray, List.set_cons_zero, List.set_cons_succ]
                    refine wpAnyH_take (i := 5) (v := ?_) (by simp only [List.getElem?_toArray, List.getElem?_cons_succ, List.getElem?_cons_zero]; exact rfl) (by kernel_rfl) (by kernel_rfl) (by kernel_rfl) (by intro _ _ _ h; exact h) (Or.inl ⟨by rfl, fun W hSw => ?_⟩) hHeld ?_
                    rotate_left
                    focus ((try dsimp only at hSw); first | (go_simp; done) | (go_simp; with_reducible rfl))
                    try simp only [Act.put, List.setIfInBounds_toArray, List.set_cons_zero, List.set_cons_succ]
                    refine wpAnyH_take (i := 6) (v := ?_) (by simp only [List.getElem?_toArray, List.getElem?_cons_succ, List.getElem?_cons_zero]; exact rfl) (by kernel_rfl) (by kernel_rfl) (by kernel_rfl) (by intro _ _ _ h; exact h) (Or.inl ⟨by rfl, fun W hSw => ?_⟩) hHeld ?_
                    rotate_left
                    focus ((try dsimp only at hSw); first | (go_simp; done) | (go_simp; with_reducible rfl))
                    try simp only [Act.put, List.setIfInBounds_toArray, List.set_cons_zero, List.set_cons_succ]
                    refine wpAnyH_take (i := 7) (v := ?_) (by simp only [List.getElem?_toArray, List.getElem?_cons_succ, List.getElem?_cons_zero]; exact rfl) (by kernel_rfl) (by kernel_rfl) (by kernel_rfl) (by intro _ _ _ h; exact h) (Or.inl ⟨by rfl, fun W hSw => ?_⟩) hHeld ?_
                    rotate_left
                    focus ((try dsimp only at hSw); first | (go_simp; done) | (go_simp; with_reducible rfl))
                    try simp only [Act.put, List.setIfInBounds_toArray, List.set_cons_zero, List.set_cons_succ]
                    refine wpAnyH_take (i := 8) (v := ?_) (by simp only [List.getElem?_toArray, List.getElem?_cons_succ, List.getElem?_cons_zero]; exact rfl) (by kernel_rfl) (by kernel_rfl) (by kernel_rfl) (by intro _ _ _ h; exact h) (Or.inl ⟨by rfl, fun W hSw => ?_⟩) hHeld ?_
                    rotate_left
                    focus ((try dsimp only at hSw); first | (go_simp; done) | (go_simp; with_reducible rfl))
                    try simp only [Act.put, List.setIfInBounds_toArray, List.set_cons_zero, List.set_cons_succ]
                    refine wpAnyH_ready (rs := [9]) (by kernel_rfl) (by simp) (AllReadyH.cons (by simp only [List.getElem?_toArray, List.getElem?_cons_succ, List.getElem?_cons_zero]; exact rfl) (fun K hK => ?_) AllReadyH.nil)
                    rw [if_pos (by rfl)]
                    go_simp
                    (with_reducible refine KP.out.mono ?_); rintro e w5 ⟨rfl, h5, hk5⟩; have hb5 := h5.base; have hg5 : GAt w5 G sa sb := hk5.2 _ _ _ _ hgd (by decide) (by decide) (by decide); go_wp2_with fail
                    refine hK.out _ _ (KS2.out _ hb5 hg5) (fun hHeld => ?_)
                    clear hK K
                    try simp only [Act.put, List.setIfInBounds_toArray, List.set_cons_zero, List.set_cons_succ]
                    refine wpAnyH_done (by kernel_rfl) ?_ _
                    clear hHeld
                    have HNX := Lib.hid (HN.out _ _ _ (Or.inr (Or.inr (Or.inl ⟨hrr, rfl, rfl⟩))) h5 hg5)
                    clear h5 hk5 hb5 hg5 KP
                    go_wp2
                    go_roundw
                    case rel => exact ⟨2, by omega, by first | rfl | go_num, HNX⟩
                    case measure => first | (simp [intOf]; done) | (simp [intOf]; omega)
                  have t3 : (r == 3) = false := by simpa using r3
                  have HNX := Lib.hid (HN.out _ _ _ (Or.inr (Or.inr (Or.inr ⟨by rw [hrr]; exact r0, by rw [hrr]; exact r2, by rw [hrr]; exact r3, rfl, rfl⟩))) H2.out HG.out)
                  go_wp2
                  go_roundw
                  case rel => exact ⟨2, by omega, by first | rfl | go_num, HNX⟩
                  case measure => first | (simp [intOf]; done) | (simp [intOf]; omega)
                · have HO2 := Lib.hid (HI.out.out2 hao (by omega) HWA.out HWB.out hpa hpb HAP.out HKB.out)
                  clear HI
                  go_wp2
                  go_roundw
                  case rel => exact ⟨k + 1, by omega, by go_num, HO2⟩
                  case measure => first | (simp [intOf]; done) | (simp [intOf]; omega)
          · have hke : k = xs.length := by omega
            subst hke
            have t1 : decide ((xs.length : Int) < (xs.length : Int)) = false := by simp
            have hfd := wells_find (xs := qs) hwa hwb hap hkb
            have kf := two_finds h2 kk Q qn qc qs HQ.out (by omega) HQS.out (by omega) HT.out
            have KF := Lib.hid kf; have HFD := Lib.hid hfd
            clear kf hfd h2 hwa hwb hap hkb
            go_wp2_with fail
            (with_reducible refine KF.out.mono ?_)
            rintro e w6 ⟨rfl, h6⟩
            have KG := Lib.hid (two_finds h6.swap kk Q qn qc qs HQ.out (by omega) HQS.out (by omega) HT.out)
            clear h6 KF
            rw [HFD.out]
            go_wp2_with fail
            (with_reducible refine KG.out.mono ?_)
            rintro e w7 ⟨rfl, h7⟩
            have hb7 := h7.base
            clear h7 KG
            generalize findsB (bestL kk qs eb) = FB at *
            have K9 := Lib.hid (awake19_any w7 (HT.out.on hb7)); have HB9 := Lib.hid hb7
            go_wp2_with fail
            (with_reducible refine K9.out.mono ?_)
            rintro e w9 ⟨rfl, hb9⟩
            go_wp2
            go_ret
            exact ⟨rfl, bt HB9.out hb9⟩
end Go.Proofs.YtokhlmoanlcjmaaDoor
