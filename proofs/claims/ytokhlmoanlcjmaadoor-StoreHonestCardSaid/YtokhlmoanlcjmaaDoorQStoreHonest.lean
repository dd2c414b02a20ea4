/- Joined out of the texts SameF19, Honest, StHonest (wip/tools/merge.py). -/
import Derived.Test.YtokhlmoanlcjmaaDoorPs3
import Derived.Deep.QuietTactic
import Derived.BigQuiet
/- The walk of same (layer 19: two lists of fields). -/
namespace Go.Proofs.YtokhlmoanlcjmaaDoor
open Go.RowKit

set_option maxHeartbeats 4000000 in
theorem samef19_any (A : Option Addr) (n c : Nat) (xs : List Fld) (B : Option Addr) (m d : Nat) (ys : List Fld) (w : World) (hA : Rd A n 2 (fldsV xs) w) (hB : Rd B m 2 (fldsV ys) w) (h1 : xs.length ≤ 1000001) (h2 : ys.length ≤ 1000001) :
    Calls Tryd.prog 36 #[.slice A n c, .slice B m d] w fun e w' => e = .returned (.bool (xs == ys)) ∧ Below w.heap.size w w' := by
  obtain rfl := hA.fld
  obtain rfl := hB.fld
  have HA := Lib.hid hA; have HB := Lib.hid hB; clear hA hB
  cases hl : ((xs.length : Int) == (ys.length : Int))
  · have nl : ((xs.length : Int) != (ys.length : Int)) = true := by simp [bne, hl]
    have hr : (xs == ys) = false := by
      rw [beq_eq_false_iff_ne]; intro e; subst e; simp at hl
    have HR := Lib.hid hr; clear hr
    go_enter Tryd.func36, Tryd.ntmps36
    go_wp2
    go_ret
    rw [HR.out]
    exact ⟨rfl, Below.refl _ w⟩
  · have nl : ((xs.length : Int) != (ys.length : Int)) = false := by simp [bne, hl]
    have hle : xs.length = ys.length := by simp at hl; omega
    go_enter Tryd.func36, Tryd.ntmps36
    go_wp2
    go_loopw [5] (fun i wr => ∃ k : Nat, k ≤ xs.length ∧ i = .int .i64 k ∧ Below w.heap.size w wr ∧ Hid (xs.take k = ys.take k)) (fun i _ => xs.length - (intOf i).toNat)
    case atStart => exact ⟨0, Nat.zero_le _, rfl, Below.refl _ w, by show _ = _; rfl⟩
    case round =>
      obtain ⟨k, hk, rfl, hbw, HT⟩ := hrel
      by_cases hlt : k < xs.length
      · have hl2 : k < ys.length := by omega
        obtain ⟨b1, o1, rfl, _, c1, c2⟩ := (HA.out.below hbw).fld_at (k := k) hlt
        obtain ⟨b2, o2, rfl, _, c3, c4⟩ := (HB.out.below hbw).fld_at (k := k) hl2
        have t1 : decide ((k : Int) < (ys.length : Int)) = true := by simp; omega
        have t2 : decide ((k : Int) < (xs.length : Int)) = true := by simp; omega
        have hno : xs[k] ≠ ys[k] → Hid ((xs == ys) = false) := by
          intro h; refine Lib.hid ?_
          rw [beq_eq_false_iff_ne]; intro e; subst e; exact h rfl
        have hyes : xs[k] = ys[k] → Hid (xs.take (k + 1) = ys.take (k + 1)) := by
          intro h; refine Lib.hid ?_
          rw [List.take_succ_eq_append_getElem hlt, List.take_succ_eq_append_getElem hl2, HT.out, h]
        generalize xs[k] = f at *
        generalize ys[k] = g at *
        obtain ⟨f1, f2⟩ := f
        obtain ⟨g1, g2⟩ := g
        simp only at c1 c2 c3 c4
        have HNO := Lib.hid hno; have HYES := Lib.hid hyes; clear hno hyes HT hle
        cases e1 : (f1 == g1) <;> cases e2 : (f2 == g2)
        all_goals first
          | (have HR := HNO.out (by intro h; cases h; simp at e1 e2)
             go_wp2
             go_quiet (fail)
             go_wp2
             go_ret
             rw [HR.out]
             exact ⟨rfl, Go.below_drewN hbw _⟩)
          | (have HN := HYES.out (by rw [beq_iff_eq.1 e1, beq_iff_eq.1 e2])
             go_wp2
             go_quiet (fail)
             go_wp2
             go_roundw
             case rel => exact ⟨k + 1, by omega, by go_num, Go.below_drewN hbw _, HN⟩
             case measure => simp [intOf]; omega)
      · have hke : k = xs.length := by omega
        subst hke
        have hr : (xs == ys) = true := by
          have := HT.out; rw [List.take_length, hle, List.take_length] at this; rw [this]; simp
        have HR := Lib.hid hr; clear hr
        have t1 : decide ((xs.length : Int) < (xs.length : Int)) = false := by simp
        go_wp2
        go_ret
        rw [HR.out]
        exact ⟨rfl, hbw⟩
end Go.Proofs.YtokhlmoanlcjmaaDoor
/- StoreHonest: the plain law; the walk of honest (printed by wip/tools/sthonest.py). -/
namespace Go.Proofs.YtokhlmoanlcjmaaDoor
open Go.RowKit
set_option maxRecDepth 100000

/-- Is what was put last under that key and Vary, of these acts (the last one ahead), this, and not taken away since? -/
def honL (key : List UInt8) (vl : List Fld) (bo : ByteArray) (got : Int) (fl : List Fld) : List PAct → Bool
  | [] => false
  | b :: t => if b.key == key then
      (if b.what.tmod 5 == 0 then (if b.vl == vl then (b.bo.data.toList == bo.data.toList) && ((b.got == got) && (b.fl == fl)) else honL key vl bo got fl t)
       else if b.what.tmod 5 == 2 then (if b.vl == vl then false else honL key vl bo got fl t)
       else if b.what.tmod 5 == 3 then false else honL key vl bo got fl t)
    else honL key vl bo got fl t
def honE (acts : List PAct) (e : Ent) : Prop := honL e.x.key.data.toList e.x.vl e.x.bo e.x.got e.x.fl acts.reverse = true
theorem hon_snoc (acts : List PAct) (a : PAct) : (acts ++ [a]).reverse = a :: acts.reverse := by simp
theorem hon_other {acts : List PAct} {a : PAct} {e : Ent} (h : honE acts e) (hk : a.key = e.x.key.data.toList → (a.what.tmod 5 = 0 ∨ a.what.tmod 5 = 2) → a.vl ≠ e.x.vl) (h3 : a.key = e.x.key.data.toList → a.what.tmod 5 ≠ 3) : honE (acts ++ [a]) e := by
  unfold honE at *
  rw [hon_snoc, honL]
  by_cases hkey : a.key = e.x.key.data.toList
  · rw [if_pos (by simpa using hkey)]
    by_cases h0 : a.what.tmod 5 = 0
    · rw [if_pos (by simpa using h0), if_neg (by simpa using hk hkey (Or.inl h0))]; exact h
    · rw [if_neg (by simpa using h0)]
      by_cases h2 : a.what.tmod 5 = 2
      · rw [if_pos (by simpa using h2), if_neg (by simpa using hk hkey (Or.inr h2))]; exact h
      · rw [if_neg (by simpa using h2), if_neg (by simpa using h3 hkey)]; exact h
  · rw [if_neg (by simpa using hkey)]; exact h
/-- What is left of others when a key goes. -/
theorem hon_del {acts : List PAct} {a : PAct} {es : List Ent} (h : ∀ e ∈ es, honE acts e ∧ e.key = nameB e.x.key.data.toList e.x.vl) (h3 : a.what.tmod 5 ≠ 3) : ∀ e ∈ delE (nameB a.key a.vl) es, honE (acts ++ [a]) e := by
  intro e he
  have hm := List.mem_filter.1 he
  have hk : e.key ≠ nameB a.key a.vl := keyIs_false.1 (by simpa using hm.2)
  refine hon_other (h e hm.1).1 (fun hkey _ hvl => hk ?_) (fun _ => h3)
  rw [(h e hm.1).2, hkey, hvl]
theorem hon_put {acts : List PAct} {a : PAct} {es : List Ent} {n m put : Int} {x : Hv} {s : Int} (h : ∀ e ∈ es, honE acts e ∧ e.key = nameB e.x.key.data.toList e.x.vl) (h0 : a.what.tmod 5 = 0) (hx : NewX x a.key a.st a.mi a.asked a.got a.re a.bo a.fl a.vl put) : ∀ e ∈ (putE n m (nameB a.key a.vl) s x es).2, honE (acts ++ [a]) e := by
  have hnew : honE (acts ++ [a]) ⟨nameB a.key a.vl, max 0 s, x⟩ := by
    unfold honE
    rw [hon_snoc, honL]
    simp only [hx.key, hx.vl, hx.bo, hx.got, hx.fl]
    rw [if_pos (by simp), if_pos (by simpa using h0), if_pos (by simp)]
    simp
  intro e he
  unfold putE at he
  split at he
  · exact hon_del h (by rw [h0]; decide) e he
  · rcases List.mem_append.1 ((evE_sub _ _ _).subset he) with he | he
    · exact hon_del h (by rw [h0]; decide) e he
    · rw [List.mem_singleton.1 he]; exact hnew
theorem hon_drop {acts : List PAct} {a : PAct} {es : List Ent} (h : ∀ e ∈ es, honE acts e) : ∀ e ∈ dropL a.key es, honE (acts ++ [a]) e := by
  intro e he
  have hm := List.mem_filter.1 he
  have hk : ¬ e.x.key.data.toList = a.key := by simpa using hm.2
  exact hon_other (h e hm.1) (fun hkey _ _ => hk hkey.symm) (fun hkey _ => hk hkey.symm)
theorem hon_sub {acts : List PAct} {a : PAct} {es es' : List Ent} (h : ∀ e ∈ es, honE acts e) (hs : ∀ e ∈ es', e ∈ es) (h0 : a.what.tmod 5 ≠ 0) (h2 : a.what.tmod 5 ≠ 2) (h3 : a.what.tmod 5 ≠ 3) : ∀ e ∈ es', honE (acts ++ [a]) e :=
  fun e he => hon_other (h e (hs e he)) (fun _ h => by rcases h with h | h <;> contradiction) (fun _ => h3)
theorem forL_mem {es : List Ent} {k : Int} {e : Ent} (h : e ∈ forL es k) : e ∈ es := by
  unfold forL at h
  split at h
  · exact (List.mem_filter.1 h).1
  · exact h

set_option maxHeartbeats 32000000 in
theorem honest_any (a : PAct) (st mi asked got : Int) (re bo : ByteArray) (fA vA : Option Addr) (fn fc vn vc : Nat) (fl vl : List Fld) (A : Option Addr) (c : Nat) (xs : List PAct) (w : World) (hr : Rd A xs.length 12 (pactsV xs) w) (hx : ∀ b ∈ xs, ActR w b ∧ okA b = true) (hxl : xs.length ≤ 60) (ha : ActR w a) (hao : okA a = true) (hf : Rd fA fn 2 (fldsV fl) w) (hv : Rd vA vn 2 (fldsV vl) w) (hfl : fl.length ≤ 100) (hvl : vl.length ≤ 100) (hvs : sumF vl ≤ 10000)
    (hm : matchesL vl a.rl = true) (hh : honL a.key vl bo got fl xs.reverse = true) :
    Calls Tryd.prog 14 #[.slice A xs.length c, .agg #[.int .i64 a.what, .int .i64 a.num, .string ⟨a.key.toArray⟩, .int .i64 a.st, .string a.re, .int .i64 a.mi, .slice a.fA a.fn a.fc, .string a.bo, .int .i64 a.asked, .int .i64 a.got, .slice a.vA a.vn a.vc, .slice a.rA a.rn a.rc], entV st re mi fA fn fc bo asked got vA vn vc] w fun e w' => e = .returned (.bool true) ∧ Below w.heap.size w w' := by
  obtain ⟨W1, hW1⟩ : ∃ W1, w.alloc (.cells #[.int .i64 a.what, .int .i64 a.num, .string ⟨a.key.toArray⟩, .int .i64 a.st, .string a.re, .int .i64 a.mi, .slice a.fA a.fn a.fc, .string a.bo, .int .i64 a.asked, .int .i64 a.got, .slice a.vA a.vn a.vc, .slice a.rA a.rn a.rc] 35) = W1 := ⟨_, rfl⟩
  obtain ⟨W2, hW2⟩ : ∃ W2, W1.alloc (.cells #[.int .i64 st, .string re, .int .i64 mi, .slice fA fn fc, .string bo, .int .i64 asked, .int .i64 got, .slice vA vn vc] 33) = W2 := ⟨_, rfl⟩
  have b1 : Below w.heap.size w W1 := by rw [← hW1]; exact (Below.refl w.heap.size w).alloc (Nat.le_refl _) _
  have z1 : W1.heap.size = w.heap.size + 1 := by rw [← hW1]; simp
  have b2 : Below w.heap.size w W2 := by rw [← hW2]; exact b1.alloc b1.size _
  have z2 : W2.heap.size = w.heap.size + 2 := by rw [← hW2]; simp [z1]
  have x1 : W2.heap[w.heap.size]? = some (.cells #[.int .i64 a.what, .int .i64 a.num, .string ⟨a.key.toArray⟩, .int .i64 a.st, .string a.re, .int .i64 a.mi, .slice a.fA a.fn a.fc, .string a.bo, .int .i64 a.asked, .int .i64 a.got, .slice a.vA a.vn a.vc, .slice a.rA a.rn a.rc] 35 (0, 0)) := by
    have b12 : Below W1.heap.size W1 W2 := by rw [← hW2]; exact (Below.refl _ _).alloc (Nat.le_refl _) _
    rw [b12.block _ (by omega), ← hW1]; exact heap_new w _ _ rfl
  have x2 : W2.heap[w.heap.size + 1]? = some (.cells #[.int .i64 st, .string re, .int .i64 mi, .slice fA fn fc, .string bo, .int .i64 asked, .int .i64 got, .slice vA vn vc] 33 (0, 0)) := by
    rw [← hW2, ← z1]; exact heap_new W1 _ _ rfl
  obtain ⟨ho1, ho2, ho3, ho4, ho5, ho6, ho7⟩ := okA_yes hao
  have km := matches_any st re mi fA fn fc bo asked got vA vn vc vl a.rA a.rn a.rc a.rl W2 (hv.below b2) (by have := hv.fld; omega) (fun f hf => by have := sumF_mem hf; omega) (ha.r.below b2) (by have := ha.r.fld; omega) (fun f hf => by have := ho7 f hf; omega)
  rw [hm] at km
  unfold entV at *
  have c11 := (of_heap x1 11).1
  have d0 := (of_heap x2 0).1; have d1 := (of_heap x2 1).1; have d2 := (of_heap x2 2).1; have d3 := (of_heap x2 3).1; have d4 := (of_heap x2 4).1; have d5 := (of_heap x2 5).1; have d6 := (of_heap x2 6).1; have d7 := (of_heap x2 7).1
  simp only [List.getElem?_toArray, List.getElem?_cons_succ, List.getElem?_cons_zero] at c11 d0 d1 d2 d3 d4 d5 d6 d7
  have HR := Lib.hid hr; have HX := Lib.hid hx; have HF := Lib.hid hf; have HV := Lib.hid hv; have HM := Lib.hid km; have HW1 := Lib.hid hW1; have HW2 := Lib.hid hW2; have X1 := Lib.hid x1; have X2 := Lib.hid x2; have B2 := Lib.hid b2
  have hsn : ∀ k (h : k < xs.length), (xs.take (k + 1)).reverse = xs[k] :: (xs.take k).reverse := fun k h => by rw [List.take_succ_eq_append_getElem h]; simp
  have hh0 : honL a.key vl bo got fl (xs.take xs.length).reverse = true := by rw [List.take_length]; exact hh
  have HSN := Lib.hid hsn; have HH := Lib.hid hh0
  clear hr hx hf hv km hW1 hW2 x1 x2 b1 b2 ha hao hm hh hsn hh0 ho1 ho2 ho3 ho4 ho5 ho6 ho7
  go_enter Tryd.func14, Tryd.ntmps14
  go_upto_region 1 with (fail)
  rw [HW1.out, HW2.out]
  go_wp2_with fail
  (with_reducible refine HM.out.mono ?_)
  rintro e w3 ⟨rfl, hb3⟩
  have y1 := (hb3.block w.heap.size (by omega)).trans X1.out
  have y2 := (hb3.block (w.heap.size + 1) (by omega)).trans X2.out
  have B3 := Lib.hid (bt B2.out hb3)
  have Y1 := Lib.hid y1; have Y2 := Lib.hid y2
  have z3 : w.heap.size + 2 ≤ w3.heap.size := by have := hb3.size; omega
  clear c11 d0 d1 d2 d3 d4 d5 d6 d7 hb3 y1 y2 HM X1 X2
  have g1 : IntKind.i64.wrap ((xs.length : Int) - 1) = (xs.length : Int) - 1 := by rw [IntKind.wrap_i64]; omega
  go_wp2_with fail
  go_loopw [7] (fun i wr => ∃ k : Nat, k ≤ xs.length ∧ i = .int .i64 ((k : Int) - 1) ∧ Hid (honL a.key vl bo got fl (xs.take k).reverse = true) ∧ Below w3.heap.size w3 wr) (fun i _ => (intOf i + 1).toNat)
  case atStart => exact ⟨xs.length, Nat.le_refl _, rfl, HH, Below.refl _ _⟩
  case round =>
    obtain ⟨k, hk, rfl, HK, hbw⟩ := hrel
    rcases k with _ | k
    · exact absurd HK.out (by rw [List.take_zero, List.reverse_nil, honL]; decide)
    have e1 : (((k + 1 : Nat) : Int) - 1) = (k : Int) := by omega
    rw [e1]
    have hB := bt B3.out hbw
    obtain ⟨b, o, rfl, hlb, hcell⟩ := (HR.out.below hB).pact_at (k := k) (by omega)
    have hb2 := HX.out xs[k] (List.getElem_mem _)
    have hkk := HK.out
    rw [HSN.out k (by omega), honL] at hkk
    generalize xs[k] = b2 at *
    have c0 : wr.cell? ⟨b, o + k * 12, none⟩ = some (.int .i64 b2.what) := hcell 0 _ rfl
    have c1 := hcell 1 _ rfl; have c2 := hcell 2 _ rfl; have c3 := hcell 3 _ rfl; have c4 := hcell 4 _ rfl; have c5 := hcell 5 _ rfl; have c6 := hcell 6 _ rfl; have c7 := hcell 7 _ rfl; have c8 := hcell 8 _ rfl; have c9 := hcell 9 _ rfl; have c10 := hcell 10 _ rfl; have c11 := hcell 11 _ rfl
    obtain ⟨W, hW⟩ : ∃ W, wr.alloc (.cells #[.int .i64 b2.what, .int .i64 b2.num, .string ⟨b2.key.toArray⟩, .int .i64 b2.st, .string b2.re, .int .i64 b2.mi, .slice b2.fA b2.fn b2.fc, .string b2.bo, .int .i64 b2.asked, .int .i64 b2.got, .slice b2.vA b2.vn b2.vc, .slice b2.rA b2.rn b2.rc] 35) = W := ⟨_, rfl⟩
    have bW : Below wr.heap.size wr W := by rw [← hW]; exact (Below.refl _ _).alloc (Nat.le_refl _) _
    have xW : W.heap[wr.heap.size]? = some (.cells #[.int .i64 b2.what, .int .i64 b2.num, .string ⟨b2.key.toArray⟩, .int .i64 b2.st, .string b2.re, .int .i64 b2.mi, .slice b2.fA b2.fn b2.fc, .string b2.bo, .int .i64 b2.asked, .int .i64 b2.got, .slice b2.vA b2.vn b2.vc, .slice b2.rA b2.rn b2.rc] 35 (0, 0)) := by rw [← hW]; exact heap_new wr _ _ rfl
    have y1 := ((bt hbw bW).block w.heap.size (by omega)).trans Y1.out
    have y2 := ((bt hbw bW).block (w.heap.size + 1) (by omega)).trans Y2.out
    have hBW := bt hB bW
    have HW := Lib.hid hW; have XW := Lib.hid xW; have HY1 := Lib.hid y1; have HY2 := Lib.hid y2; have HKK := Lib.hid hkk; have HB2 := Lib.hid hb2
    have v1 : (0 : Int) ≤ (k : Int) := by omega
    have v2 : (k : Int) < (xs.length : Int) := by omega
    clear hcell hW hkk HK
    go_upto_region 7 with (fail)
    rw [HW.out]
    have d0 := (of_heap xW 0).1; have d2 := (of_heap xW 2).1; have d6 := (of_heap xW 6).1; have d7 := (of_heap xW 7).1; have d9 := (of_heap xW 9).1; have d10 := (of_heap xW 10).1
    have f2 := (of_heap y1 2).1
    have h3 := (of_heap y2 3).1; have h4 := (of_heap y2 4).1; have h6 := (of_heap y2 6).1; have h7 := (of_heap y2 7).1
    simp only [List.getElem?_toArray, List.getElem?_cons_succ, List.getElem?_cons_zero] at d0 d2 d6 d7 d9 d10 f2 h3 h4 h6 h7
    have hbW := bt hbw bW
    have hw5 := hb2.1.what
    have v3 : IntKind.i64.wrap ((k : Int) - 1) = (k : Int) - 1 := by rw [IntKind.wrap_i64]; omega
    clear c0 c1 c2 c3 c4 c5 c6 c7 c8 c9 c10 c11 xW y1 y2 hb2
    cases hkey : (b2.key == a.key)
    · have hk2 : honL a.key vl bo got fl (xs.take k).reverse = true := by have h := HKK.out; rw [hkey] at h; simpa using h
      have HK2 := Lib.hid hk2
      have q1 : (!(b2.key == a.key)) = true := by rw [hkey]; rfl
      clear hk2
      go_wp2
      go_roundw
      case rel => exact ⟨k, by omega, by go_num, HK2, hbW⟩
      case measure => first | (simp [intOf]; done) | (simp [intOf]; omega)
    have q1 : (!(b2.key == a.key)) = false := by rw [hkey]; rfl
    have kk2 : (if b2.what.tmod 5 == 0 then (if b2.vl == vl then (b2.bo.data.toList == bo.data.toList) && ((b2.got == got) && (b2.fl == fl)) else honL a.key vl bo got fl (xs.take k).reverse)
       else if b2.what.tmod 5 == 2 then (if b2.vl == vl then false else honL a.key vl bo got fl (xs.take k).reverse)
       else if b2.what.tmod 5 == 3 then false else honL a.key vl bo got fl (xs.take k).reverse) = true := by have h := HKK.out; rw [hkey] at h; simpa using h
    obtain ⟨hb2r, hb2o⟩ := HB2.out
    obtain ⟨oo1, oo2, oo3, oo4, oo5, oo6, oo7⟩ := okA_yes hb2o
    have ks := fun W' (hb : Below w.heap.size w W') => samef19_any b2.vA b2.vn b2.vc b2.vl vA vn vc vl W' (hb2r.v.below hb) (HV.out.below hb) (by omega) (by omega)
    have kg := fun W' (hb : Below w.heap.size w W') => samef19_any b2.fA b2.fn b2.fc b2.fl fA fn fc fl W' (hb2r.f.below hb) (HF.out.below hb) (by omega) (by omega)
    have KS := Lib.hid ks; have KG := Lib.hid kg
    clear ks kg HKK oo1 oo2 oo3 oo4 oo5 oo6 oo7 hb2r hb2o HB2
    go_upto_region 9 with (fail)
    generalize b2.what.tmod 5 = r at *
    clear hw5
    by_cases r0 : r = 0
    · subst r0
      cases hvq : (b2.vl == vl)
      · rw [hvq] at KS kk2
        have HK2 := Lib.hid (show honL a.key vl bo got fl (xs.take k).reverse = true by simpa using kk2)
        clear kk2
        go_wp2_with fail
        (with_reducible refine (KS.out _ hBW).mono ?_)
        rintro e w5 ⟨rfl, hb5⟩
        have hbw5 := bt hbW hb5
        go_wp2
        go_roundw
        case rel => exact ⟨k, by omega, by go_num, HK2, hbw5⟩
        case measure => first | (simp [intOf]; done) | (simp [intOf]; omega)
      · rw [hvq] at KS kk2
        have kk3 : ((b2.bo.data.toList == bo.data.toList) && ((b2.got == got) && (b2.fl == fl))) = true := by simpa using kk2
        rw [Bool.and_eq_true, Bool.and_eq_true] at kk3
        obtain ⟨m1, m2, m3⟩ := kk3
        rw [m3] at KG
        have m4 : (b2.bo.toList == bo.toList) = true := by rw [Lib.toList_data, Lib.toList_data]; exact m1
        clear kk2 m3 m1
        go_wp2_with fail
        (with_reducible refine (KS.out _ hBW).mono ?_)
        rintro e w5 ⟨rfl, hb5⟩
        have hBW5 := bt hBW hb5
        have xx := (hb5.block wr.heap.size (of_heap XW.out 0).2.2).trans XW.out
        have yy := (hb5.block (w.heap.size + 1) (of_heap HY2.out 0).2.2).trans HY2.out
        clear d0 d2 d6 d7 d9 d10 f2 h3 h4 h6 h7
        have d6 := (of_heap xx 6).1; have d7 := (of_heap xx 7).1; have d9 := (of_heap xx 9).1
        have h3 := (of_heap yy 3).1; have h4 := (of_heap yy 4).1; have h6 := (of_heap yy 6).1
        simp only [List.getElem?_toArray, List.getElem?_cons_succ, List.getElem?_cons_zero] at d6 d7 d9 h3 h4 h6
        clear xx yy KS hb5
        go_wp2_with fail
        (with_reducible refine (KG.out _ hBW5).mono ?_)
        rintro e w6 ⟨rfl, hb6⟩
        go_wp2
        go_ret
        exact ⟨rfl, bt hBW5 hb6⟩
    have t0 : (r == 0) = false := by simpa using r0
    by_cases r2 : r = 2
    · subst r2
      cases hvq : (b2.vl == vl)
      · rw [hvq] at KS kk2
        have HK2 := Lib.hid (show honL a.key vl bo got fl (xs.take k).reverse = true by simpa using kk2)
        clear kk2
        go_wp2_with fail
        (with_reducible refine (KS.out _ hBW).mono ?_)
        rintro e w5 ⟨rfl, hb5⟩
        have hbw5 := bt hbW hb5
        go_wp2
        go_roundw
        case rel => exact ⟨k, by omega, by go_num, HK2, hbw5⟩
        case measure => first | (simp [intOf]; done) | (simp [intOf]; omega)
      · rw [hvq] at kk2
        exact absurd kk2 (by simp)
    have t2 : (r == 2) = false := by simpa using r2
    by_cases r3 : r = 3
    · subst r3
      exact absurd kk2 (by simp)
    have t3 : (r == 3) = false := by simpa using r3
    have HK2 := Lib.hid (show honL a.key vl bo got fl (xs.take k).reverse = true by rw [t0, t2, t3] at kk2; simpa using kk2)
    clear kk2
    go_wp2
    go_roundw
    case rel => exact ⟨k, by omega, by go_num, HK2, hbW⟩
    case measure => first | (simp [intOf]; done) | (simp [intOf]; omega)
end Go.Proofs.YtokhlmoanlcjmaaDoor
/- StoreHonest: the walk of the law, and the law as it is handed in (printed by wip/tools/sthonl.py). -/
namespace Go.Proofs.YtokhlmoanlcjmaaDoor
open Go.RowKit Go.ChangeShapes Go.WideShapes
set_option maxRecDepth 100000

theorem bestL_hon {kk : List UInt8} {xs : List Fld} {es : List Ent} {b : Ent} {acts : List PAct} (h : bestL kk xs es = some b) (hh : ∀ e ∈ es, honE acts e) : honL kk b.x.vl b.x.bo b.x.got b.x.fl acts.reverse = true := by
  obtain ⟨h1, h2, _⟩ := bestL_mem kk xs es h
  have := hh b h1
  unfold honE at this
  rw [h2] at this
  exact this
set_option maxHeartbeats 32000000 in
theorem storeHonest_any (b0 b1 : Int) (A : Option Addr) (n c : Nat) (xs : List PAct) (w : World) (h0 : 0 ≤ b0 ∧ b0 < 65536) (h1 : 0 ≤ b1 ∧ b1 < 65536) (hr : Rd A n 12 (pactsV xs) w) (hx : ∀ a ∈ xs, ActR w a) (hn : n ≤ maxLen) (hnc : n ≤ c) (ht : TabN w) :
    Calls Tryd.prog 3 #[.agg #[.int .u16 b0, .int .u16 b1], .slice A n c] w fun e w' => e = .returned (.bool true) ∧ Below w.heap.size w w' := by
  obtain ⟨W1, hW1⟩ : ∃ W1, w.alloc (.cells #[.int .u16 b0, .int .u16 b1] 23) = W1 := ⟨_, rfl⟩
  have bw1 : Below w.heap.size w W1 := by rw [← hW1]; exact (Below.refl w.heap.size w).alloc (Nat.le_refl _) _
  have x1 : W1.heap[w.heap.size]? = some (.cells #[.int .u16 b0, .int .u16 b1] 23 (0, 0)) := by rw [← hW1]; exact heap_new w _ _ rfl
  have c0 := (of_heap x1 0).1; have c1 := (of_heap x1 1).1
  simp only [List.getElem?_toArray, List.getElem?_cons_succ, List.getElem?_cons_zero] at c0 c1
  have HW1 := Lib.hid hW1; have HR := Lib.hid hr; have HX := Lib.hid hx; have HT := Lib.hid ht
  have K1 := Lib.hid (live_new (1 + b0 % 8) (100 + b1 % 5000) w W1 bw1 (by omega) (by omega))
  clear hW1 x1 hr hx ht
  go_enter Tryd.func3, Tryd.ntmps3
  go_upto_region 1 with (fail)
  rw [HW1.out]
  go_wp2_with fail
  (with_reducible refine K1.out.mono ?_)
  rintro e w2 ⟨sb, bl, rfl, hl2⟩
  clear K1 c0 c1 bw1 h0 h1 HW1
  generalize (1 + b0 % 8) = nn at *
  generalize (100 + b1 % 5000) = mm at *
  have hb2 := hl2.base
  have k2 := few19_any A n c xs w2 (HR.out.below hb2) (fun a ha => (HX.out a ha).below hb2) hn
  have HL2 := Lib.hid hl2
  clear hl2
  cases hf : few19 xs
  · rw [hf] at k2
    have K2 := Lib.hid k2
    clear k2
    go_wp2_with fail
    (with_reducible refine K2.out.mono ?_)
    rintro e w3 ⟨rfl, hb3⟩
    have k3 := awake19_any w3 (HT.out.on (bt hb2 hb3))
    have K3 := Lib.hid k3
    have HB3 := Lib.hid (bt hb2 hb3)
    clear k3 hb2 hb3 K2
    go_wp2_with fail
    (with_reducible refine K3.out.mono ?_)
    rintro e w4 ⟨rfl, hb4⟩
    go_wp2
    go_ret
    exact ⟨rfl, bt HB3.out hb4⟩
  · rw [hf] at k2
    have K2 := Lib.hid k2
    obtain ⟨hlen, hok⟩ := few19_yes hf
    have HOK := Lib.hid hok
    clear k2 hok hf
    go_wp2_with fail
    (with_reducible refine K2.out.mono ?_)
    rintro e w3 ⟨rfl, hb3⟩
    have HL3 := Lib.hid (HL2.out.below hb3)
    clear hb2 hb3 K2 HL2
    obtain rfl := HR.out.pact
    have hsn : ∀ k (h : k < xs.length), xs.take (k + 1) = xs.take k ++ [xs[k]] := fun k h => List.take_succ_eq_append_getElem h
    have HSN := Lib.hid hsn
    clear hsn
    go_wp2_with fail
    go_loopw [6] (fun i wr => ∃ (k : Nat) (es : List Ent) (put : Int), k ≤ xs.length ∧ i = .int .i64 k ∧ 0 ≤ put ∧ put ≤ k ∧ Hid (∀ e ∈ es, honE (xs.take k) e) ∧ Hid (Live w wr sb bl nn mm es put)) (fun i _ => xs.length - (intOf i).toNat)
    case atStart => exact ⟨0, [], 0, Nat.zero_le _, rfl, by omega, by omega, Lib.hid (by simp), HL3⟩
    case round =>
      clear HL3
      obtain ⟨k, es, put, hk, rfl, hp0, hp1, HON, HL⟩ := hrel
      by_cases hlt : k < xs.length
      · have hbw := HL.out.base
        obtain ⟨b, o, rfl, hlb, hcell⟩ := (HR.out.below hbw).pact_at (k := k) hlt
        have ha := HX.out xs[k] (List.getElem_mem _)
        have hao := HOK.out xs[k] (List.getElem_mem _)
        have hoa := okA_yes hao
        have hsnk := HSN.out k hlt
        have hrp : Rd (some ⟨b, o, none⟩) k 12 (pactsV (xs.take k)) w := by
          refine ⟨by rw [pactsV_len, List.length_take]; omega, fun _ => ?_⟩
          obtain ⟨b', o', e, hl', hc'⟩ := HR.out.2 (by omega)
          refine ⟨b', o', e, hl', fun j u hu => hc' j u ?_⟩
          have e1 : pactsV xs = pactsV (xs.take k) ++ pactsV (xs.drop k) := by unfold pactsV; rw [← List.flatMap_append, List.take_append_drop]
          rw [e1, List.getElem?_append_left (List.getElem?_eq_some_iff.1 hu).1]
          exact hu
        generalize xs[k] = a at *
        have c0 : wr.cell? ⟨b, o + k * 12, none⟩ = some (.int .i64 a.what) := hcell 0 _ rfl; have c1 := hcell 1 _ rfl; have c2 := hcell 2 _ rfl; have c3 := hcell 3 _ rfl; have c4 := hcell 4 _ rfl; have c5 := hcell 5 _ rfl; have c6 := hcell 6 _ rfl; have c7 := hcell 7 _ rfl; have c8 := hcell 8 _ rfl; have c9 := hcell 9 _ rfl; have c10 := hcell 10 _ rfl; have c11 := hcell 11 _ rfl
        obtain ⟨W, hW⟩ : ∃ W, wr.alloc (.cells #[.int .i64 a.what, .int .i64 a.num, .string ⟨a.key.toArray⟩, .int .i64 a.st, .string a.re, .int .i64 a.mi, .slice a.fA a.fn a.fc, .string a.bo, .int .i64 a.asked, .int .i64 a.got, .slice a.vA a.vn a.vc, .slice a.rA a.rn a.rc] 35) = W := ⟨_, rfl⟩
        have bW : Below wr.heap.size wr W := by rw [← hW]; exact (Below.refl _ _).alloc (Nat.le_refl _) _
        have xW : W.heap[wr.heap.size]? = some (.cells #[.int .i64 a.what, .int .i64 a.num, .string ⟨a.key.toArray⟩, .int .i64 a.st, .string a.re, .int .i64 a.mi, .slice a.fA a.fn a.fc, .string a.bo, .int .i64 a.asked, .int .i64 a.got, .slice a.vA a.vn a.vc, .slice a.rA a.rn a.rc] 35 (0, 0)) := by rw [← hW]; exact heap_new wr _ _ rfl
        have hLW := HL.out.below bW
        have hgk : ∀ e ∈ es, honE (xs.take k) e ∧ e.key = nameB e.x.key.data.toList e.x.vl := fun e he => ⟨HON.out e he, (hLW.good e he).1.key⟩
        have HW := Lib.hid hW; have HLW := Lib.hid hLW; have HA := Lib.hid ha; have HGK := Lib.hid hgk; have HSNK := Lib.hid hsnk; have HRP := Lib.hid hrp
        clear hcell hW hLW HL ha hgk hsnk hrp
        have hml : maxLen = 9223372036854775807 := rfl
        go_upto_region 10 with (fail)
        rw [HW.out]
        have d0 := (of_heap xW 0).1; have d1 := (of_heap xW 1).1; have d2 := (of_heap xW 2).1; have d3 := (of_heap xW 3).1; have d4 := (of_heap xW 4).1; have d5 := (of_heap xW 5).1; have d6 := (of_heap xW 6).1; have d7 := (of_heap xW 7).1; have d8 := (of_heap xW 8).1; have d9 := (of_heap xW 9).1; have d10 := (of_heap xW 10).1; have d11 := (of_heap xW 11).1; have dz := (of_heap xW 0).2.2
        simp only [List.getElem?_toArray, List.getElem?_cons_succ, List.getElem?_cons_zero] at d0 d1 d2 d3 d4 d5 d6 d7 d8 d9 d10 d11
        clear c0 c1 c2 c3 c4 c5 c6 c7 c8 c9 c10 c11
        have hw5 := HA.out.what
        obtain ⟨ho1, ho2, ho3, ho4, ho5, ho6, ho7⟩ := hoa
        have hsf := sumF_few ho5; have hsv := sumF_few ho6
        have hpb : 0 ≤ put ∧ put ≤ 1000 := by omega
        have XW := Lib.hid xW
        clear xW
        go_upto_region 12 with (fail)
        generalize hrr : a.what.tmod 5 = r at *
        clear hw5
        by_cases r0 : r = 0
        · subst r0
          have kp := live_put HLW.out a.key a.st a.mi a.asked a.got a.re a.bo a.fA a.vA a.fn a.fc a.vn a.vc a.fl a.vl HA.out.f HA.out.v (by omega) (by omega) (by omega) (by omega) (by omega) (by omega) (by omega) hpb HT.out
          have hon := fun x (hx : NewX x a.key a.st a.mi a.asked a.got a.re a.bo a.fl a.vl (put + 1)) => hon_put (acts := xs.take k) (a := a) (n := nn) (m := mm) (s := sizeZ ⟨a.key.toArray⟩ a.re a.bo a.fl a.vl) HGK.out hrr hx
          rw [← HSNK.out] at hon
          unfold entV at kp
          have KP := Lib.hid kp; have HONN := Lib.hid hon
          clear kp hon
          go_wp2_with fail
          (with_reducible refine KP.out.mono ?_)
          rintro e w5 ⟨x, hx, rfl, hl5, -⟩
          have HON2 := Lib.hid (HONN.out x hx)
          generalize (putE nn mm (nameB a.key a.vl) (sizeZ ⟨a.key.toArray⟩ a.re a.bo a.fl a.vl) x es).2 = es5 at *
          have HL4 := Lib.hid hl5
          clear hl5 KP HONN
          go_wp2
          go_roundw
          case rel => exact ⟨k + 1, es5, put + 1, by omega, by go_num, by omega, by omega, HON2, HL4⟩
          case measure => first | (simp [intOf]; done) | (simp [intOf]; omega)
        have t0 : (r == 0) = false := by simpa using r0
        by_cases r2 : r = 2
        · subst r2
          have kr := live_remove HLW.out a.key a.st a.mi a.asked a.got a.re a.bo a.fA a.vA a.fn a.fc a.vn a.vc a.vl HA.out.v (by omega) (by omega) (by omega) HT.out
          have hon := hon_del (acts := xs.take k) (a := a) HGK.out (by rw [hrr]; decide)
          rw [← HSNK.out] at hon
          unfold entV at kr
          have KR := Lib.hid kr; have HON2 := Lib.hid hon
          clear kr hon
          go_wp2_with fail
          (with_reducible refine KR.out.mono ?_)
          rintro e w5 ⟨rfl, hl5, -⟩
          generalize delE (nameB a.key a.vl) es = es5 at *
          have HL4 := Lib.hid hl5
          clear hl5 KR
          go_wp2
          go_roundw
          case rel => exact ⟨k + 1, es5, put, by omega, by go_num, by omega, by omega, HON2, HL4⟩
          case measure => first | (simp [intOf]; done) | (simp [intOf]; omega)
        have t2 : (r == 2) = false := by simpa using r2
        by_cases r3 : r = 3
        · subst r3
          have KR := Lib.hid (live_drop HLW.out a.key)
          have hon := hon_drop (acts := xs.take k) (a := a) HON.out
          rw [← HSNK.out] at hon
          have HON2 := Lib.hid hon
          clear hon
          go_wp2_with fail
          (with_reducible refine KR.out.mono ?_)
          rintro e w5 ⟨rfl, hl5, -⟩
          generalize dropL a.key es = es5 at *
          have HL4 := Lib.hid hl5
          clear hl5 KR
          go_wp2
          go_roundw
          case rel => exact ⟨k + 1, es5, put, by omega, by go_num, by omega, by omega, HON2, HL4⟩
          case measure => first | (simp [intOf]; done) | (simp [intOf]; omega)
        have t3 : (r == 3) = false := by simpa using r3
        by_cases r1 : r = 1
        · subst r1
          have kf := live_find HLW.out a.key a.rA a.rn a.rc a.rl HA.out.r (by have := HA.out.r.fld; omega) (fun f hf => by have := ho7 f hf; omega) (by omega) HT.out
          unfold FoundL at kf
          have KF := Lib.hid kf
          clear kf
          cases hbo : bestL a.key a.rl es with
          | none =>
            rw [hbo] at KF
            have hon := hon_sub (acts := xs.take k) (a := a) (es' := es) HON.out (fun _ h => h) (by rw [hrr]; decide) (by rw [hrr]; decide) (by rw [hrr]; decide)
            rw [← HSNK.out] at hon
            have HON2 := Lib.hid hon
            clear hon
            go_wp2_with fail
            (with_reducible refine KF.out.mono ?_)
            rintro e w5 ⟨rfl, hl5, -⟩
            have hl6 := hl5.below ((Below.refl w5.heap.size w5).alloc (Nat.le_refl _) (.cells #[.int .i64 0, .string ⟨#[]⟩, .int .i64 0, .slice none 0 0, .string ⟨#[]⟩, .int .i64 0, .int .i64 0, .slice none 0 0] 33))
            have HL4 := Lib.hid (hl6.below (Below.refl _ _).drew)
            clear hl5 hl6 KF
            unfold entV
            go_upto_region 20 with (fail)
            refine wp_region_held_drew (S := (fun _ => True)) (by kernel_rfl) (trivial) (fun hHeld => ?_)
            refine wpAnyH_take (i := 0) (v := ?_) (by simp only [List.getElem?_toArray, List.getElem?_cons_zero]; exact rfl) (by kernel_rfl) (by kernel_rfl) (by kernel_rfl) (by intro _ _ _ h; exact h) (Or.inl ⟨by rfl, fun W hSw => ?_⟩) hHeld ?_
            rotate_left
            focus ((try dsimp only at hSw); first | (go_simp; done) | (go_simp; with_reducible rfl))
            try simp only [Act.put, List.setIfInBounds_toArray, List.set_cons_zero, List.set_cons_succ]
            refine wpAnyH_take (i := 1) (v := ?_) (by simp only [List.getElem?_toArray, List.getElem?_cons_succ, List.getElem?_cons_zero]; exact rfl) (by kernel_rfl) (by kernel_rfl) (by kernel_rfl) (by intro _ _ _ h; exact h) (Or.inl ⟨by rfl, fun W hSw => ?_⟩) hHeld ?_
            rotate_left
            focus ((try dsimp only at hSw); first | (go_simp; done) | (go_simp; with_reducible rfl))
            try simp only [Act.put, List.setIfInBounds_toArray, List.set_cons_zero, List.set_cons_succ]
            refine wpAnyH_take (i := 2) (v := undef) (by simp only [List.getElem?_toArray, List.getElem?_cons_succ, List.getElem?_cons_zero]; exact rfl) (by kernel_rfl) (by kernel_rfl) (by kernel_rfl) (by intro _ _ _ h; exact h) (Or.inr ⟨by rfl, rfl⟩) hHeld ?_
            try simp only [Act.put, List.setIfInBounds_toArray, List.set_cons_zero, List.set_cons_succ]
            refine wpAnyH_take (i := 3) (v := undef) (by simp only [List.getElem?_toArray, List.getElem?_cons_succ, List.getElem?_cons_zero]; exact rfl) (by kernel_rfl) (by kernel_rfl) (by kernel_rfl) (by intro _ _ _ h; exact h) (Or.inr ⟨by rfl, rfl⟩) hHeld ?_
            try simp only [Act.put, List.setIfInBounds_toArray, List.set_cons_zero, List.set_cons_succ]
            refine wpAnyH_take (i := 4) (v := undef) (by simp only [List.getElem?_toArray, List.getElem?_cons_succ, List.getElem?_cons_zero]; exact rfl) (by kernel_rfl) (by kernel_rfl) (by kernel_rfl) (by intro _ _ _ h; exact h) (Or.inr ⟨by rfl, rfl⟩) hHeld ?_
            try simp only [Act.put, List.setIfInBounds_toArray, List.set_cons_zero, List.set_cons_succ]
            refine wpAnyH_take (i := 5) (v := undef) (by simp only [List.getElem?_toArray, List.getElem?_cons_succ, List.getElem?_cons_zero]; exact rfl) (by kernel_rfl) (by kernel_rfl) (by kernel_rfl) (by intro _ _ _ h; exact h) (Or.inr ⟨by rfl, rfl⟩) hHeld ?_
            try simp only [Act.put, List.setIfInBounds_toArray, List.set_cons_zero, List.set_cons_succ]
            refine wpAnyH_take (i := 6) (v := undef) (by simp only [List.getElem?_toArray, List.getElem?_cons_succ, List.getElem?_cons_zero]; exact rfl) (by kernel_rfl) (by kernel_rfl) (by kernel_rfl) (by intro _ _ _ h; exact h) (Or.inr ⟨by rfl, rfl⟩) hHeld ?_
            try simp only [Act.put, List.setIfInBounds_toArray, List.set_cons_zero, List.set_cons_succ]
            refine wpAnyH_take (i := 7) (v := undef) (by simp only [List.getElem?_toArray, List.getElem?_cons_succ, List.getElem?_cons_zero]; exact rfl) (by kernel_rfl) (by kernel_rfl) (by kernel_rfl) (by intro _ _ _ h; exact h) (Or.inr ⟨by rfl, rfl⟩) hHeld ?_
            try simp only [Act.put, List.setIfInBounds_toArray, List.set_cons_zero, List.set_cons_succ]
            refine wpAnyH_take (i := 8) (v := undef) (by simp only [List.getElem?_toArray, List.getElem?_cons_succ, List.getElem?_cons_zero]; exact rfl) (by kernel_rfl) (by kernel_rfl) (by kernel_rfl) (by intro _ _ _ h; exact h) (Or.inr ⟨by rfl, rfl⟩) hHeld ?_
            try simp only [Act.put, List.setIfInBounds_toArray, List.set_cons_zero, List.set_cons_succ]
            refine wpAnyH_take (i := 9) (v := ?_) (by simp only [List.getElem?_toArray, List.getElem?_cons_succ, List.getElem?_cons_zero]; exact rfl) (by kernel_rfl) (by kernel_rfl) (by kernel_rfl) (by intro _ _ _ h; exact h) (Or.inl ⟨by rfl, fun W hSw => ?_⟩) hHeld ?_
            rotate_left
            focus ((try dsimp only at hSw); first | (go_simp; done) | (go_simp; with_reducible rfl))
            try simp only [Act.put, List.setIfInBounds_toArray, List.set_cons_zero, List.set_cons_succ]
            refine wpAnyH_done (by kernel_rfl) ?_ _
            clear hHeld
            go_wp2
            go_roundw
            case rel => exact ⟨k + 1, es, put, by omega, by go_num, by omega, by omega, HON2, HL4⟩
            case measure => first | (simp [intOf]; done) | (simp [intOf]; omega)
          | some bb =>
            rw [hbo] at KF
            obtain ⟨hbm, hbk, hbmt⟩ := bestL_mem _ _ _ hbo
            have hhl := bestL_hon hbo HON.out
            have hgb := (HLW.out.good bb hbm).1
            have hon := hon_sub (acts := xs.take k) (a := a) (es' := getE bb.key es) HON.out (fun e h => getE_mem h) (by rw [hrr]; decide) (by rw [hrr]; decide) (by rw [hrr]; decide)
            rw [← HSNK.out] at hon
            have HON2 := Lib.hid hon; have HHL := Lib.hid hhl; have HGB := Lib.hid hgb; have HMT := Lib.hid hbmt
            clear hon hhl hgb hbm hbk hbmt
            go_wp2_with fail
            (with_reducible refine KF.out.mono ?_)
            rintro e w5 ⟨fa, fac, fv, fvc, rfl, hof, hov, hl5, hkp⟩
            have x5 := hkp.2 _ _ _ _ XW.out (by decide) (by decide) (by decide)
            generalize getE bb.key es = es5 at *
            obtain ⟨W6, hW6⟩ : ∃ W6, w5.alloc (.cells #[.int .i64 bb.x.st, .string bb.x.re, .int .i64 bb.x.mi, .slice fa bb.x.fl.length fac, .string bb.x.bo, .int .i64 bb.x.asked, .int .i64 bb.x.got, .slice fv bb.x.vl.length fvc] 33) = W6 := ⟨_, rfl⟩
            have b6 : Below w5.heap.size w5 W6 := by rw [← hW6]; exact (Below.refl _ _).alloc (Nat.le_refl _) _
            have x6 : W6.heap[w5.heap.size]? = some (.cells #[.int .i64 bb.x.st, .string bb.x.re, .int .i64 bb.x.mi, .slice fa bb.x.fl.length fac, .string bb.x.bo, .int .i64 bb.x.asked, .int .i64 bb.x.got, .slice fv bb.x.vl.length fvc] 33 (0, 0)) := by rw [← hW6]; exact heap_new w5 _ _ rfl
            have x5 := (b6.block _ (of_heap x5 0).2.2).trans x5
            have hl6 := hl5.below b6
            have hof6 := hof.below b6; have hov6 := hov.below b6
            have hb6 := hl6.base
            have hlk : (xs.take k).length = k := by rw [List.length_take]; omega
            have kho := honest_any a bb.x.st bb.x.mi bb.x.asked bb.x.got bb.x.re bb.x.bo fa fv bb.x.fl.length fac bb.x.vl.length fvc bb.x.fl bb.x.vl (some ⟨b, o, none⟩) c (xs.take k) W6.drew (by rw [hlk]; exact HRP.out.below hb6.drew) (fun b' hb' => ⟨(HX.out b' (List.mem_of_mem_take hb')).below hb6.drew, HOK.out b' (List.mem_of_mem_take hb')⟩) (by omega) (HA.out.below hb6.drew) hao hof6.rd.2 hov6.rd.2 HGB.out.fl.1 HGB.out.vl.1 HGB.out.vl.2 HMT.out HHL.out
            rw [hlk] at kho
            unfold entV at kho ⊢
            have kc : ∀ w', Below W6.heap.size W6 w' → _ := fun w' hb => by
              have y5 := (hb.block _ (of_heap x5 0).2.2).trans x5
              have y6 := (hb.block _ (of_heap x6 0).2.2).trans x6
              exact show w'.cell? ⟨wr.heap.size, 0, none⟩ = some (.int .i64 a.what) ∧ w'.cell? ⟨wr.heap.size, 1, none⟩ = some (.int .i64 a.num) ∧ w'.cell? ⟨wr.heap.size, 2, none⟩ = some (.string ⟨a.key.toArray⟩) ∧ w'.cell? ⟨wr.heap.size, 3, none⟩ = some (.int .i64 a.st) ∧ w'.cell? ⟨wr.heap.size, 4, none⟩ = some (.string a.re) ∧ w'.cell? ⟨wr.heap.size, 5, none⟩ = some (.int .i64 a.mi) ∧ w'.cell? ⟨wr.heap.size, 6, none⟩ = some (.slice a.fA a.fn a.fc) ∧ w'.cell? ⟨wr.heap.size, 7, none⟩ = some (.string a.bo) ∧ w'.cell? ⟨wr.heap.size, 8, none⟩ = some (.int .i64 a.asked) ∧ w'.cell? ⟨wr.heap.size, 9, none⟩ = some (.int .i64 a.got) ∧ w'.cell? ⟨wr.heap.size, 10, none⟩ = some (.slice a.vA a.vn a.vc) ∧ w'.cell? ⟨wr.heap.size, 11, none⟩ = some (.slice a.rA a.rn a.rc) ∧ w'.cell? ⟨w5.heap.size, 0, none⟩ = some (.int .i64 bb.x.st) ∧ w'.cell? ⟨w5.heap.size, 1, none⟩ = some (.string bb.x.re) ∧ w'.cell? ⟨w5.heap.size, 2, none⟩ = some (.int .i64 bb.x.mi) ∧ w'.cell? ⟨w5.heap.size, 3, none⟩ = some (.slice fa bb.x.fl.length fac) ∧ w'.cell? ⟨w5.heap.size, 4, none⟩ = some (.string bb.x.bo) ∧ w'.cell? ⟨w5.heap.size, 5, none⟩ = some (.int .i64 bb.x.asked) ∧ w'.cell? ⟨w5.heap.size, 6, none⟩ = some (.int .i64 bb.x.got) ∧ w'.cell? ⟨w5.heap.size, 7, none⟩ = some (.slice fv bb.x.vl.length fvc) from ⟨(of_heap y5 0).1, (of_heap y5 1).1, (of_heap y5 2).1, (of_heap y5 3).1, (of_heap y5 4).1, (of_heap y5 5).1, (of_heap y5 6).1, (of_heap y5 7).1, (of_heap y5 8).1, (of_heap y5 9).1, (of_heap y5 10).1, (of_heap y5 11).1, (of_heap y6 0).1, (of_heap y6 1).1, (of_heap y6 2).1, (of_heap y6 3).1, (of_heap y6 4).1, (of_heap y6 5).1, (of_heap y6 6).1, (of_heap y6 7).1⟩
            have hd0 : Below W6.heap.size W6 W6.drew := (Below.refl _ _).drew
            have HL6 := Lib.hid hl6; have KC := Lib.hid kc; have KHO := Lib.hid kho; have HW6 := Lib.hid hW6
            have u1 : (0 : Int) ≤ (k : Int) := by omega
            have u2' : (k : Int) ≤ (c : Int) := by omega
            have u3' : (k : Int) ≤ (xs.length : Int) := by omega
            clear hof hov hl5 hkp x5 b6 x6 hl6 hof6 hov6 hb6 hlk kho kc hW6 KF d0 d1 d2 d3 d4 d5 d6 d7 d8 d9 d10 d11
            go_upto_region 20 with (fail)
            rw [HW6.out]
            refine wp_region_held_drew (S := (fun w' => w'.cell? ⟨wr.heap.size, 0, none⟩ = some (.int .i64 a.what) ∧ w'.cell? ⟨wr.heap.size, 1, none⟩ = some (.int .i64 a.num) ∧ w'.cell? ⟨wr.heap.size, 2, none⟩ = some (.string ⟨a.key.toArray⟩) ∧ w'.cell? ⟨wr.heap.size, 3, none⟩ = some (.int .i64 a.st) ∧ w'.cell? ⟨wr.heap.size, 4, none⟩ = some (.string a.re) ∧ w'.cell? ⟨wr.heap.size, 5, none⟩ = some (.int .i64 a.mi) ∧ w'.cell? ⟨wr.heap.size, 6, none⟩ = some (.slice a.fA a.fn a.fc) ∧ w'.cell? ⟨wr.heap.size, 7, none⟩ = some (.string a.bo) ∧ w'.cell? ⟨wr.heap.size, 8, none⟩ = some (.int .i64 a.asked) ∧ w'.cell? ⟨wr.heap.size, 9, none⟩ = some (.int .i64 a.got) ∧ w'.cell? ⟨wr.heap.size, 10, none⟩ = some (.slice a.vA a.vn a.vc) ∧ w'.cell? ⟨wr.heap.size, 11, none⟩ = some (.slice a.rA a.rn a.rc) ∧ w'.cell? ⟨w5.heap.size, 0, none⟩ = some (.int .i64 bb.x.st) ∧ w'.cell? ⟨w5.heap.size, 1, none⟩ = some (.string bb.x.re) ∧ w'.cell? ⟨w5.heap.size, 2, none⟩ = some (.int .i64 bb.x.mi) ∧ w'.cell? ⟨w5.heap.size, 3, none⟩ = some (.slice fa bb.x.fl.length fac) ∧ w'.cell? ⟨w5.heap.size, 4, none⟩ = some (.string bb.x.bo) ∧ w'.cell? ⟨w5.heap.size, 5, none⟩ = some (.int .i64 bb.x.asked) ∧ w'.cell? ⟨w5.heap.size, 6, none⟩ = some (.int .i64 bb.x.got) ∧ w'.cell? ⟨w5.heap.size, 7, none⟩ = some (.slice fv bb.x.vl.length fvc))) (by kernel_rfl) (KC.out _ hd0) (fun hHeld => ?_)
            refine wpAnyH_take (i := 0) (v := ?_) (by simp only [List.getElem?_toArray, List.getElem?_cons_zero]; exact rfl) (by kernel_rfl) (by kernel_rfl) (by kernel_rfl) (by intro _ _ _ h; exact h) (Or.inl ⟨by rfl, fun W hSw => ?_⟩) hHeld ?_
            rotate_left
            focus ((try dsimp only at hSw); first | (go_simp; done) | (go_simp; with_reducible rfl))
            try simp only [Act.put, List.setIfInBounds_toArray, List.set_cons_zero, List.set_cons_succ]
            refine wpAnyH_take (i := 1) (v := ?_) (by simp only [List.getElem?_toArray, List.getElem?_cons_succ, List.getElem?_cons_zero]; exact rfl) (by kernel_rfl) (by kernel_rfl) (by kernel_rfl) (by intro _ _ _ h; exact h) (Or.inl ⟨by rfl, fun W hSw => ?_⟩) hHeld ?_
            rotate_left
            focus ((try dsimp only at hSw); first | (go_simp; done) | (go_simp; with_reducible rfl))
            try simp only [Act.put, List.setIfInBounds_toArray, List.set_cons_zero, List.set_cons_succ]
            refine wpAnyH_take (i := 2) (v := ?_) (by simp only [List.getElem?_toArray, List.getElem?_cons_succ, List.getElem?_cons_zero]; exact rfl) (by kernel_rfl) (by kernel_rfl) (by kernel_rfl) (by intro _ _ _ h; exact h) (Or.inl ⟨by rfl, fun W hSw => ?_⟩) hHeld ?_
            rotate_left
            focus ((try dsimp only at hSw); first | (go_simp; done) | (go_simp; with_reducible rfl))
            try simp only [Act.put, List.setIfInBounds_toArray, List.set_cons_zero, List.set_cons_succ]
            refine wpAnyH_take (i := 3) (v := ?_) (by simp only [List.getElem?_toArray, List.getElem?_cons_succ, List.getElem?_cons_zero]; exact rfl) (by kernel_rfl) (by kernel_rfl) (by kernel_rfl) (by intro _ _ _ h; exact h) (Or.inl ⟨by rfl, fun W hSw => ?_⟩) hHeld ?_
            rotate_left
            focus ((try dsimp only at hSw); first | (go_simp; done) | (go_simp; with_reducible rfl))
            try simp only [Act.put, List.setIfInBounds_toArray, List.set_cons_zero, List.set_cons_succ]
            refine wpAnyH_take (i := 4) (v := ?_) (by simp only [List.getElem?_toArray, List.getElem?_cons_succ, List.getElem?_cons_zero]; exact rfl) (by kernel_rfl) (by kernel_rfl) (by kernel_rfl) (by intro _ _ _ h; exact h) (Or.inl ⟨by rfl, fun W hSw => ?_⟩) hHeld ?_
            rotate_left
            focus ((try dsimp only at hSw); first | (go_simp; done) | (go_simp; with_reducible rfl))
            try simp only [Act.put, List.setIfInBounds_toArray, List.set_cons_zero, List.set_cons_succ]
            refine wpAnyH_take (i := 5) (v := ?_) (by simp only [List.getElem?_toArray, List.getElem?_cons_succ, List.getElem?_cons_zero]; exact rfl) (by kernel_rfl) (by kernel_rfl) (by kernel_rfl) (by intro _ _ _ h; exact h) (Or.inl ⟨by rfl, fun W hSw => ?_⟩) hHeld ?_
            rotate_left
            focus ((try dsimp only at hSw); first | (go_simp; done) | (go_simp; with_reducible rfl))
            try simp only [Act.put, List.setIfInBounds_toArray, List.set_cons_zero, List.set_cons_succ]
            refine wpAnyH_take (i := 6) (v := ?_) (by simp only [List.getElem?_toArray, List.getElem?_cons_succ, List.getElem?_cons_zero]; exact rfl) (by kernel_rfl) (by kernel_rfl) (by kernel_rfl) (by intro _ _ _ h; exact h) (Or.inl ⟨by rfl, fun W hSw => ?_⟩) hHeld ?_
            rotate_left
            focus ((try dsimp only at hSw); first | (go_simp; done) | (go_simp; with_reducible rfl))
            try simp only [Act.put, List.setIfInBounds_toArray, List.set_cons_zero, List.set_cons_succ]
            refine wpAnyH_ready (rs := [7]) (by kernel_rfl) (by simp) (AllReadyH.cons (by simp only [List.getElem?_toArray, List.getElem?_cons_succ, List.getElem?_cons_zero]; exact rfl) (fun K hK => ?_) AllReadyH.nil)
            rw [if_pos (by rfl)]
            go_simp
            (with_reducible refine KHO.out.mono ?_); rintro e v1 ⟨rfl, hv1⟩; have hd8 := bt hd0 hv1; go_wp2_with fail
            refine hK.out _ _ (KC.out _ hd8) (fun hHeld => ?_)
            clear hK K
            try simp only [Act.put, List.setIfInBounds_toArray, List.set_cons_zero, List.set_cons_succ]
            refine wpAnyH_take (i := 8) (v := ?_) (by simp only [List.getElem?_toArray, List.getElem?_cons_succ, List.getElem?_cons_zero]; exact rfl) (by kernel_rfl) (by kernel_rfl) (by kernel_rfl) (by intro _ _ _ h; exact h) (Or.inl ⟨by rfl, fun W hSw => ?_⟩) hHeld ?_
            rotate_left
            focus ((try dsimp only at hSw); first | (go_simp; done) | (go_simp; with_reducible rfl))
            try simp only [Act.put, List.setIfInBounds_toArray, List.set_cons_zero, List.set_cons_succ]
            refine wpAnyH_take (i := 9) (v := ?_) (by simp only [List.getElem?_toArray, List.getElem?_cons_succ, List.getElem?_cons_zero]; exact rfl) (by kernel_rfl) (by kernel_rfl) (by kernel_rfl) (by intro _ _ _ h; exact h) (Or.inl ⟨by rfl, fun W hSw => ?_⟩) hHeld ?_
            rotate_left
            focus ((try dsimp only at hSw); first | (go_simp; done) | (go_simp; with_reducible rfl))
            try simp only [Act.put, List.setIfInBounds_toArray, List.set_cons_zero, List.set_cons_succ]
            refine wpAnyH_done (by kernel_rfl) ?_ _
            clear hHeld
            have HL4 := Lib.hid (HL6.out.below hd8)
            go_wp2
            go_roundw
            case rel => exact ⟨k + 1, es5, put, by omega, by go_num, by omega, by omega, HON2, HL4⟩
            case measure => first | (simp [intOf]; done) | (simp [intOf]; omega)
        have t1 : (r == 1) = false := by simpa using r1
        have KR := Lib.hid (live_forget HLW.out a.num)
        have hon := hon_sub (acts := xs.take k) (a := a) (es' := forL es a.num) HON.out (fun e h => forL_mem h) (by rw [hrr]; exact r0) (by rw [hrr]; exact r2) (by rw [hrr]; exact r3)
        rw [← HSNK.out] at hon
        have HON2 := Lib.hid hon
        clear hon
        go_wp2_with fail
        (with_reducible refine KR.out.mono ?_)
        rintro e w5 ⟨rfl, hl5, -⟩
        generalize forL es a.num = es5 at *
        have HL4 := Lib.hid hl5
        clear hl5 KR
        go_wp2
        go_roundw
        case rel => exact ⟨k + 1, es5, put, by omega, by go_num, by omega, by omega, HON2, HL4⟩
        case measure => first | (simp [intOf]; done) | (simp [intOf]; omega)
      · have K9 := Lib.hid (awake19_any wr (HT.out.on HL.out.base)); have HB9 := Lib.hid HL.out.base
        clear HL
        go_wp2_with fail
        (with_reducible refine K9.out.mono ?_)
        rintro e w4 ⟨rfl, hb4⟩
        go_wp2
        go_ret
        exact ⟨rfl, bt HB9.out hb4⟩
theorem storeHonest_law {H : Type} {enc : TypeId × Value → H} {W : World} {base0 base1 : Nat}
    (v0 : Value) (hv0 : Value.okWide Tryd.prog W .any base0 23 v0) {d0 : DataW H} {p0 : List MemPlace} (h0 : DataW.Trod enc Tryd.prog W 0 (fun _ => true) true 23 v0 d0 p0) (_ : Reach 23 d0)
    (v1 : Value) (hv1 : Value.okWide Tryd.prog W .any base1 24 v1) {d1 : DataW H} {p1 : List MemPlace} (h1 : DataW.Trod enc Tryd.prog W 0 (fun _ => true) true 24 v1 d1 p1) (hr1 : Reach 24 d1)
    (w : World) (hw : w = W) (hT : TabN W) :
    Calls Tryd.prog 3 #[v0, v1] w fun e w' => e = .returned (.bool true) ∧ Below w.heap.size w w' := by
  subst hw
  obtain ⟨a, b, rfl, ha, hb⟩ := open_two16 hv0 h0
  obtain ⟨A, n, c, xs, rfl, hR, hn, hx⟩ := open_pacts_v hv1 h1 hr1
  obtain ⟨fuel, hf⟩ := h1
  exact storeHonest_any a b A n c xs w ha hb hR hx hn (cap_slice Tryd.underlying24 (fuel := fuel) (x := (d1, p1)) hf) hT
end Go.Proofs.YtokhlmoanlcjmaaDoor
