/- Joined out of the texts Kit, Rd, SumF, Few14, EtagA, EtagP, EtagB, EtagTag, EtagR, Spec1, Lower, Trim, SplitSpec, StaysSpec, EtagSpec, Own, Split, RTrim, SplitR, EtagList, FieldSpec, Same, Values, Join, Get, DateSpec, MaxL, Date1, Date2, Date3, Date4, DateOk (wip/tools/merge.py). -/
import Derived.Test.YtedmiganmifepaaGreatDoorRows
import Derived.WalkKit
import Derived.WalkSpells
import Derived.WalkLawsBesides
import Derived.Deep.DeepCutAuto
import Derived.Deep.QuietTactic
import Derived.BigQuiet
import Derived.Lib.Hide
import Derived.Lib.Strings
import Derived.Deep.RegionHeld3
import Derived.IntWalk
import Derived.Test.YtedmiganmifepaaGreatDoorShelf
import Derived.Lib.SlBytesRow
import Derived.Lib.IndexLaws
import Derived.Shelf.Strings.SlTrimAscii
import Derived.Lib.Join
import Derived.Lib.IndexMore
import Derived.Maps.AppendAt
import Derived.Deep.OwnRows
import Derived.Lib.Index
import Derived.RegionTactic
import Derived.BigRegion
/- Small lemmas that all walks of this seat use. -/
namespace Go.Proofs.YtedmiganmifepaaGreatDoor
open Go.RowKit

/-- One call behind the other: nothing that was there at the first has turned. -/
theorem bt {w w1 w2 : World} (h : Below w.heap.size w w1) (k : Below w1.heap.size w1 w2) : Below w.heap.size w w2 := h.trans (k.mono h.size)
theorem ret_int {k : IntKind} {a b : Int} (h : a = b) : Ending.returned (.int k a) = .returned (.int k b) := by rw [h]

/-! Bytes of a string, from the front and to the end. -/
theorem take_snoc (s : ByteArray) (k : Nat) (h : k < s.size) : s.data.toList.take (k + 1) = s.data.toList.take k ++ [s[k]] := by
  rw [List.take_succ_eq_append_getElem (by simpa using h)]; rfl
theorem drop_cons (s : ByteArray) (k : Nat) (h : k < s.size) : s.data.toList.drop k = s[k] :: s.data.toList.drop (k + 1) := by
  rw [List.drop_eq_getElem_cons (by simpa using h)]; rfl
theorem take_all (s : ByteArray) (k : Nat) (h : s.size ≤ k) : s.data.toList.take k = s.data.toList := List.take_of_length_le (by simpa using h)
theorem drop_all (s : ByteArray) (k : Nat) (h : s.size ≤ k) : s.data.toList.drop k = [] := List.drop_eq_nil_of_le (by simpa using h)
theorem all_snoc (p : UInt8 → Bool) (s : ByteArray) (k : Nat) (h : k < s.size) :
    (s.data.toList.take (k + 1)).all p = ((s.data.toList.take k).all p && p s[k]) := by
  rw [take_snoc s k h, List.all_append]; simp
theorem all_bad (p : UInt8 → Bool) (s : ByteArray) (k : Nat) (h : k < s.size) (hb : p s[k] = false) : s.data.toList.all p = false := by
  rw [List.all_eq_false]
  exact ⟨s[k], by show s.data[k] ∈ _; simp, by simp [hb]⟩
theorem str_of (s : ByteArray) : (⟨s.data.toList.toArray⟩ : ByteArray) = s := Lib.mk_data s
theorem str_eq (s t : ByteArray) (h : s.data.toList = t.data.toList) : s = t := by rw [← str_of s, ← str_of t, h]
theorem app_list (o t : ByteArray) : (o ++ t).data.toList = o.data.toList ++ t.data.toList := by simp
theorem ext_one (s : ByteArray) (k : Nat) (h : k < s.size) : (s.extract k (k + 1)).data.toList = [s[k]] := by
  rw [Lib.extract_data, drop_cons s k h]; simp
theorem str_list {o : ByteArray} {l : List UInt8} (h : o.data.toList = l) : o = ⟨l.toArray⟩ := by rw [← h, str_of]
theorem beq_cast (a b : Nat) : (a == b) = ((a : Int) == (b : Int)) := by rw [Bool.eq_iff_iff]; simp only [beq_iff_eq]; omega
theorem mk_at (t : ByteArray) (l : List UInt8) (ht : t = ⟨l.toArray⟩) (j : Nat) (h : j < t.size) (h' : j < l.length) : t[j] = l[j] := by
  subst ht; show (l.toArray)[j] = _; simp
theorem at_list (s : ByteArray) (j : Nat) (h : j < s.size) : s[j] = s.data.toList[j]'(by simpa using h) := by show s.data[j] = _; simp
theorem ne_of_pos (s : ByteArray) (h : 0 < s.size) : s.data.toList.isEmpty = false := by
  cases hq : s.data.toList with
  | nil => rw [Lib.size_eq, hq] at h; exact absurd h (by simp)
  | cons _ _ => rfl
theorem nil_of_zero (s : ByteArray) (h : ¬ 0 < s.size) : s.data.toList = [] := by
  apply List.eq_nil_of_length_eq_zero; rw [← Lib.size_eq]; omega
theorem heap_new (w : World) (o : Obj) (n : Nat) (h : w.heap.size = n) : (w.alloc o).heap[n]? = some o := by
  subst h; show (w.heap.push o)[w.heap.size]? = _; simp
theorem empty_eq : (ByteArray.empty : ByteArray) = ⟨#[]⟩ := rfl
theorem u8_lt (c : UInt8) : (c.toNat : Int) < 256 := by have := c.toNat_lt; omega
end Go.Proofs.YtedmiganmifepaaGreatDoor
/- What a slice that is read holds, wherever it came from: plain words on memory; lists of texts and of fields. -/
namespace Go.Proofs.YtedmiganmifepaaGreatDoor
open Go.RowKit

/-- n elements, 'size' cells each, lie behind A. -/
def Rd (A : Option Addr) (n size : Nat) (xs : List Value) (w : World) : Prop :=
  xs.length = n * size ∧ (0 < n → ∃ b o, A = some ⟨b, o, none⟩ ∧ b < w.heap.size ∧ ∀ j u, xs[j]? = some u → w.cell? ⟨b, o + j, none⟩ = some u)
theorem Rd.nil {A : Option Addr} {size : Nat} {w : World} : Rd A 0 size [] w := ⟨by simp, fun h => absurd h (by omega)⟩
theorem Rd.below {A : Option Addr} {n size : Nat} {xs : List Value} {w w' : World} (h : Rd A n size xs w) (hb : Below w.heap.size w w') : Rd A n size xs w' := by
  refine ⟨h.1, fun hn => ?_⟩
  obtain ⟨b, o, e, hl, hc⟩ := h.2 hn
  exact ⟨b, o, e, by have := hb.size; omega, fun j u hu => (hb.cell (p := ⟨b, o + j, none⟩) hl).trans (hc j u hu)⟩
theorem Rd.of_own {B : Nat} {e : TypeId} {size : Nat} {a : Option Addr} {m n cap : Nat} {xs : List Value} {w : World} (h : w.ownsRow B e size (.slice a m cap) n xs) : m = n ∧ Rd a n size xs w := by
  obtain ⟨h1, h2⟩ := h
  rcases h2 with ⟨hv, h0⟩ | ⟨g, cp, cur, hv, hg, hh, hn, hm, hs, hx⟩
  · cases hv; exact ⟨h0.symm, h1, fun hn => by omega⟩
  · cases hv
    refine ⟨rfl, h1, fun _ => ⟨g, 0, rfl, ?_, fun j u hu => ?_⟩⟩
    · rcases Nat.lt_or_ge g w.heap.size with h' | h'
      · exact h'
      · simp [Array.getElem?_eq_none h'] at hh
    · have hj : j < m * size := by
        have := (List.getElem?_eq_some_iff.1 hu).1; omega
      have h3 : cur[j]? = some u := by
        rw [← hu, ← hx, List.getElem?_take_of_lt hj, Array.getElem?_toList]
      rw [Nat.zero_add]
      simp only [World.cell?, hh]
      exact h3

/-- Texts as values. -/
def strsV (ls : List (List UInt8)) : List Value := ls.map fun l => Value.string ⟨l.toArray⟩
theorem Rd.str {A : Option Addr} {n : Nat} {ls : List (List UInt8)} {w : World} (h : Rd A n 1 (strsV ls) w) : n = ls.length := by
  have := h.1; unfold strsV at this; simpa using this.symm
theorem Rd.str_at {A : Option Addr} {n k : Nat} {ls : List (List UInt8)} {w : World} (h : Rd A n 1 (strsV ls) w) (hk : k < ls.length) :
    ∃ b o, A = some ⟨b, o, none⟩ ∧ b < w.heap.size ∧ w.cell? ⟨b, o + k, none⟩ = some (.string ⟨(ls[k]).toArray⟩) := by
  obtain ⟨b, o, e, hl, hc⟩ := h.2 (by rw [h.str]; omega)
  exact ⟨b, o, e, hl, hc k _ (by simp [strsV, hk])⟩

/-- A header field. -/
abbrev Fld := List UInt8 × List UInt8
def fldV (f : Fld) : List Value := [.string ⟨f.1.toArray⟩, .string ⟨f.2.toArray⟩]
def fldsV (xs : List Fld) : List Value := xs.flatMap fldV
theorem fldsV_len (xs : List Fld) : (fldsV xs).length = xs.length * 2 := by
  unfold fldsV
  induction xs with
  | nil => rfl
  | cons x r ih => rw [List.flatMap_cons, List.length_append, ih, List.length_cons]; show 2 + _ = _; omega
theorem fldsV_at : ∀ (xs : List Fld) (k : Nat) (hk : k < xs.length), (fldsV xs)[k * 2]? = some (.string ⟨(xs[k]).1.toArray⟩) ∧ (fldsV xs)[k * 2 + 1]? = some (.string ⟨(xs[k]).2.toArray⟩)
  | [], k, hk => by simp at hk
  | x :: r, 0, _ => by unfold fldsV; simp [fldV]
  | x :: r, k + 1, hk => by
    have ih := fldsV_at r k (by simpa using hk)
    unfold fldsV at ih ⊢
    rw [List.flatMap_cons, show (k + 1) * 2 = k * 2 + 2 from by omega]
    have e : ∀ j, (fldV x ++ r.flatMap fldV)[j + 2]? = (r.flatMap fldV)[j]? := fun j => by rw [List.getElem?_append_right (by show 2 ≤ _; omega)]; rfl
    rw [show k * 2 + 2 + 1 = (k * 2 + 1) + 2 from by omega, e, e]
    simpa using ih
theorem Rd.fld {A : Option Addr} {n : Nat} {xs : List Fld} {w : World} (h : Rd A n 2 (fldsV xs) w) : n = xs.length := by
  have := h.1; rw [fldsV_len] at this; omega
theorem Rd.fld_at {A : Option Addr} {n k : Nat} {xs : List Fld} {w : World} (h : Rd A n 2 (fldsV xs) w) (hk : k < xs.length) :
    ∃ b o, A = some ⟨b, o, none⟩ ∧ b < w.heap.size ∧ w.cell? ⟨b, o + k * 2, none⟩ = some (.string ⟨(xs[k]).1.toArray⟩) ∧ w.cell? ⟨b, o + k * 2 + 1, none⟩ = some (.string ⟨(xs[k]).2.toArray⟩) := by
  obtain ⟨b, o, e, hl, hc⟩ := h.2 (by rw [h.fld]; omega)
  have := fldsV_at xs k hk
  exact ⟨b, o, e, hl, hc _ _ this.1, hc _ _ this.2⟩
end Go.Proofs.YtedmiganmifepaaGreatDoor
/- All that fields hold: plain. -/
namespace Go.Proofs.YtedmiganmifepaaGreatDoor
open Go.RowKit

/-- All that the fields hold. -/
def sumF (xs : List Fld) : Nat := (xs.map fun f => f.1.length + f.2.length).sum
theorem sumF_mem {xs : List Fld} {f : Fld} (h : f ∈ xs) : f.1.length + f.2.length ≤ sumF xs := by
  unfold sumF
  induction xs with
  | nil => cases h
  | cons x r ih =>
    rw [List.map_cons, List.sum_cons]
    rcases List.mem_cons.1 h with rfl | h
    · omega
    · have := ih h; omega
theorem sumF_take (xs : List Fld) (k : Nat) : sumF (xs.take k) ≤ sumF xs := by
  unfold sumF
  conv => rhs; rw [← List.take_append_drop k xs, List.map_append, List.sum_append]
  omega
theorem sumF_snoc (xs : List Fld) (k : Nat) (h : k < xs.length) : sumF (xs.take (k + 1)) = sumF (xs.take k) + (xs[k].1.length + xs[k].2.length) := by
  unfold sumF; rw [List.take_succ_eq_append_getElem h, List.map_append, List.sum_append]; rfl
end Go.Proofs.YtedmiganmifepaaGreatDoor
/- The walk of the law's few (layer 14). -/
namespace Go.Proofs.YtedmiganmifepaaGreatDoor
open Go.RowKit
set_option maxRecDepth 100000

def few14 (xs : List Fld) : Bool := decide (xs.length ≤ 40) && decide (sumF xs ≤ 6000)
theorem few14_yes {xs : List Fld} (h : few14 xs = true) : xs.length ≤ 40 ∧ sumF xs ≤ 6000 := by
  unfold few14 at h; simpa using h

set_option maxHeartbeats 4000000 in
theorem few14_any (A : Option Addr) (n c : Nat) (xs : List Fld) (w : World) (hr : Rd A n 2 (fldsV xs) w) (hn : n ≤ 140737488355328) (hs : ∀ f ∈ xs, f.1.length ≤ 140737488355328 ∧ f.2.length ≤ 140737488355328) :
    Calls Tryz.prog 4 #[.slice A n c] w fun e w' => e = .returned (.bool (few14 xs)) ∧ Below w.heap.size w w' := by
  obtain rfl := hr.fld
  have hB := Below.refl w.heap.size w
  by_cases h80 : xs.length ≤ 40
  · have hbad : ∀ k (h : k < xs.length), 6000 < sumF (xs.take k) + (xs[k].1.length + xs[k].2.length) → few14 xs = false := by
      intro k h h1
      have h2 := sumF_take xs (k + 1)
      rw [sumF_snoc xs k h] at h2
      unfold few14
      rw [show decide (sumF xs ≤ 6000) = false from by simp; omega, Bool.and_false]
    have hgood : sumF (xs.take xs.length) ≤ 6000 → few14 xs = true := by
      intro h; rw [List.take_length] at h; unfold few14; simp; exact ⟨h80, h⟩
    have hsn := sumF_snoc xs
    have h00 : sumF (xs.take 0) = 0 := rfl
    have HR := Lib.hid hr; have HS := Lib.hid hs; have HBAD := Lib.hid hbad; have HG := Lib.hid hgood; have HSN := Lib.hid hsn; have H00 := Lib.hid h00; clear hr hs hbad hgood hsn h00
    generalize few14 xs = out at *
    go_enter Tryz.func4, Tryz.ntmps4
    go_wp2
    go_loopw [4, 3] (fun i x wr => ∃ (k : Nat) (r : Int), k ≤ xs.length ∧ i = .int .i64 k ∧ x = .int .i64 r ∧ Hid (r = 6000 - (sumF (xs.take k) : Int)) ∧ 0 ≤ r ∧ r ≤ 6000 ∧ Below w.heap.size w wr) (fun i _ _ => xs.length - (intOf i).toNat)
    case atStart => exact ⟨0, 6000, Nat.zero_le _, rfl, rfl, Lib.hid (by rw [H00.out]; rfl), by omega, by omega, hB⟩
    case round =>
      clear hB H00
      obtain ⟨k, r, hk, rfl, rfl, HE, hr0, hr1, hbw⟩ := hrel
      by_cases hlt : k < xs.length
      · obtain ⟨b, o, rfl, hl, c1, c2⟩ := HR.out.fld_at (k := k) hlt
        have hf := HS.out xs[k] (List.getElem_mem _)
        have hbd := HBAD.out k hlt
        have hsn := HSN.out k hlt
        have he := HE.out
        generalize xs[k] = f at *
        obtain ⟨f1, f2⟩ := f
        simp only at c1 c2 hf hbd hsn
        have hn2 : sumF (xs.take (k + 1)) = sumF (xs.take k) + (f1.length + f2.length) := hsn
        clear hsn
        obtain ⟨s1, hs1⟩ : ∃ s1, sumF (xs.take (k + 1)) = s1 := ⟨_, rfl⟩
        rw [hs1] at hn2
        have HS1 := Lib.hid hs1; clear hs1
        generalize sumF (xs.take k) = s0 at *
        have d1 := (hbw.cell (p := ⟨b, o + k * 2, none⟩) hl).trans c1
        have d2 := (hbw.cell (p := ⟨b, o + k * 2 + 1, none⟩) hl).trans c2
        clear c1 c2 HBAD HSN HG HE
        have z1 : (⟨f1.toArray⟩ : ByteArray).size = f1.length := by rw [Lib.size_eq]
        have z2 : (⟨f2.toArray⟩ : ByteArray).size = f2.length := by rw [Lib.size_eq]
        obtain ⟨hf1, hf2⟩ := hf
        generalize f1.length = n1 at *
        generalize f2.length = n2 at *
        have hwid : (0 : Int) ≤ n1 ∧ (0 : Int) ≤ n2 := by omega
        cases t1 : decide ((n1 : Int) > r)
        · have q1 : IntKind.i64.wrap (r - (n1 : Int)) = r - (n1 : Int) := IntWalk.i64_in _ (by simp at t1; omega)
          cases t2 : decide ((n2 : Int) > r - (n1 : Int))
          · have q2 : IntKind.i64.wrap (r - (n1 : Int) - (n2 : Int)) = r - (n1 : Int) - (n2 : Int) := IntWalk.i64_in _ (by simp at t1 t2; omega)
            have hnx : r - (n1 : Int) - (n2 : Int) = 6000 - (s1 : Int) := by omega
            have hg0 : 0 ≤ r - (n1 : Int) - (n2 : Int) := by simp at t1 t2; omega
            have HNX := Lib.hid hnx; have HG0 := Lib.hid hg0
            clear hbd he hnx hn2 hg0
            go_wp2
            go_quiet (fail)
            go_wp2
            go_quiet (fail)
            go_wp2
            go_roundw
            case rel => exact ⟨k + 1, _, by omega, by go_num, rfl, by rw [HS1.out]; exact HNX, HG0.out, by omega, Go.below_drewN hbw _⟩
            case measure => simp [intOf]; omega
          · have hx := hbd (by simp at t1 t2; omega)
            have Hx := Lib.hid hx
            clear hx hbd he hn2
            go_wp2
            go_quiet (fail)
            go_wp2
            go_ret
            rw [Hx.out]
            exact ⟨rfl, Go.below_drewN hbw _⟩
        · have hx := hbd (by simp at t1; omega)
          have Hx := Lib.hid hx
          clear hx hbd he hn2
          go_wp2
          go_quiet (fail)
          go_wp2
          go_ret
          rw [Hx.out]
          exact ⟨rfl, Go.below_drewN hbw _⟩
      · have hke : k = xs.length := by omega
        subst hke
        have hx := HG.out (by have := HE.out; omega)
        have Hx := Lib.hid hx; clear hx HE
        go_wp2
        go_ret
        rw [Hx.out]
        exact ⟨rfl, hbw⟩
  · have hx : few14 xs = false := by unfold few14; rw [show decide (xs.length ≤ 40) = false from by simpa using h80, Bool.false_and]
    rw [hx]
    clear hx hs hr
    go_enter Tryz.func4, Tryz.ntmps4
    go_wp2
    go_ret
    exact ⟨rfl, hB⟩
end Go.Proofs.YtedmiganmifepaaGreatDoor
/- The walks of strings.CutPrefix and etag.read. -/
namespace Go.Proofs.YtedmiganmifepaaGreatDoor
open Go.RowKit

set_option maxHeartbeats 400000 in
theorem hp (s p : ByteArray) (w : World) :
    Calls Tryz.prog 88 #[.string s, .string p] w fun e w' => e = .returned (.bool (Lib.hasPrefix s.data.toList p.data.toList)) ∧ w = w' := by
  have H := Lib.hasPrefix_raw s p
  by_cases h1 : p.size ≤ s.size
  · have H2 := Lib.hid H; clear H
    go_enter Tryz.func88, Tryz.ntmps88
    go_wp2
    go_ret
    exact ⟨by rw [← H2.out]; simp [h1], rfl⟩
  · have H2 := Lib.hid H; clear H
    go_enter Tryz.func88, Tryz.ntmps88
    go_wp2
    go_ret
    exact ⟨by rw [← H2.out]; simp [h1], rfl⟩

/-- strings.CutPrefix. -/
def cutP (s p : ByteArray) : ByteArray := if Lib.hasPrefix s.data.toList p.data.toList then s.extract p.size s.size else s
theorem cutP_le (s p : ByteArray) : (cutP s p).size ≤ s.size := by
  unfold cutP; split <;> simp [ByteArray.size_extract]

set_option maxHeartbeats 400000 in
theorem cp (s p : ByteArray) (w : World) :
    Calls Tryz.prog 50 #[.string s, .string p] w fun e w' => e = .returned (.tuple #[.string (cutP s p), .bool (Lib.hasPrefix s.data.toList p.data.toList)]) ∧ w = w' := by
  by_cases h : Lib.hasPrefix s.data.toList p.data.toList = true
  · have hle : p.size ≤ s.size := by
      have := Lib.hasPrefix_raw s p; rw [h] at this; simp at this; exact this.1
    have hc : cutP s p = s.extract p.size s.size := by unfold cutP; rw [if_pos h]
    have Hc := Lib.hid hc; clear hc
    have H := Lib.hid h; clear h

    go_enter Tryz.func50, Tryz.ntmps50
    go_wp2_with (first | (go_at_call 88; refine (hp s p _).mono ?_; rintro e w' ⟨rfl, rfl⟩; rw [H.out]) | go_in)
    go_ret2
    exact ⟨by rw [Hc.out, H.out]; rfl, rfl⟩
  · have h' : Lib.hasPrefix s.data.toList p.data.toList = false := by simpa using h
    have hc : cutP s p = s := by unfold cutP; rw [if_neg h]
    have Hc := Lib.hid hc; clear hc h
    have H := Lib.hid h'; clear h'
    go_enter Tryz.func50, Tryz.ntmps50
    go_wp2_with (first | (go_at_call 88; refine (hp s p _).mono ?_; rintro e w' ⟨rfl, rfl⟩; rw [H.out]) | go_in)
    go_ret2
    exact ⟨by rw [Hc.out, H.out]; rfl, rfl⟩

/-! plain -/
def okb (c : UInt8) : Bool := !(decide (c.toNat ≤ 32) || c.toNat == 34 || c.toNat == 127)
/-- the tag between the quotes -/
def inner (t : ByteArray) : ByteArray := t.extract 1 (t.size - 1)
def tagged (t : ByteArray) : Bool :=
  if h : 2 ≤ t.size then t[0].toNat == 34 && t[t.size - 1].toNat == 34 && (inner t).data.toList.all okb else false
def empt : ByteArray := ⟨#[]⟩
structure Ent where
  weak : Bool
  right : Bool
  tag : ByteArray
def ent (s : ByteArray) : Ent :=
  if tagged (cutP s ⟨#[87, 47]⟩) then ⟨Lib.hasPrefix s.data.toList [87, 47], true, inner (cutP s ⟨#[87, 47]⟩)⟩ else ⟨false, false, empt⟩
def Ent.val (x : Ent) : Value := .agg #[.bool x.weak, .bool x.right, .string x.tag]

set_option linter.unusedVariables false in
set_option maxHeartbeats 1000000 in
theorem rd (s : ByteArray) (w : World) (hs : s.size ≤ 8000) :
    Calls Tryz.prog 29 #[.string s] w fun e w' => e = .returned (ent s).val ∧ Below w.heap.size w w' := by
  have hle := cutP_le s ⟨#[87, 47]⟩
  obtain ⟨E, hE⟩ : ∃ E, E = ent s := ⟨_, rfl⟩
  have HE := Lib.hid hE
  rw [← hE]; clear hE
  unfold ent at HE
  rw [show Lib.hasPrefix s.data.toList [87, 47] = Lib.hasPrefix s.data.toList (⟨#[87, 47]⟩ : ByteArray).data.toList from rfl] at HE
  go_enter Tryz.func29, Tryz.ntmps29
  go_upto_region 2 with (first | (go_at_call 50; refine (cp s _ _).mono ?_; rintro e w' ⟨rfl, rfl⟩) )
  generalize cutP s ⟨#[87, 47]⟩ = t at *
  generalize Lib.hasPrefix _ _ = b at *
  have ht : t.size ≤ 8000 := by omega
  clear hle
  by_cases h2 : 2 ≤ t.size
  · by_cases h0 : t[0].toNat = 34
    · by_cases h1 : t[t.size - 1].toNat = 34
      · have hx : (inner t).size = t.size - 2 := by unfold inner; simp [ByteArray.size_extract]; omega
        have Hx := Lib.hid hx
        have e1 : t.size - 1 - 1 = t.size - 2 := by omega
        have d0 : ((t[0].toNat : Int) != 34) = false := by simp; omega
        have d1 : ((t[t.size - 1].toNat : Int) != 34) = false := by simp; omega
        have d2 : decide ((t.size : Int) < 2) = false := by simp; omega
        go_wp2
        clear d0 d1 d2
        have ei : t.extract 1 (t.size - 1) = inner t := rfl
        simp only [ei, ← Hx.out]
        have ht2 : t.size = (inner t).size + 2 := by omega
        have hI : ∀ k, k ≤ (inner t).size → ((inner t).data.toList.take k).all okb = true → k = (inner t).size → tagged t = true := by
          intro k _ hk e
          unfold tagged
          rw [dif_pos h2, h0, h1, ← take_all (inner t) k (by omega), hk]; rfl
        have hB : ∀ k (h : k < (inner t).size), okb (inner t)[k] = false → tagged t = false := by
          intro k h hk
          unfold tagged
          rw [dif_pos h2, all_bad okb (inner t) k h hk]; simp
        have HI := Lib.hid hI; have HB := Lib.hid hB
        clear hI hB hx e1 ht2 Hx ei h0 h1
        have hn : (inner t).size ≤ 8000 := by unfold inner; simp [ByteArray.size_extract]; omega
        clear ht h2 hs
        generalize inner t = g at *
        go_loop [37] (fun i => ∃ k : Nat, k ≤ g.size ∧ i = .int .i64 k ∧ (g.data.toList.take k).all okb = true) (fun i => g.size - (intOf i).toNat)
        case atStart => exact ⟨0, Nat.zero_le _, rfl, by simp⟩
        case round =>
          obtain ⟨k, hk, rfl, hall⟩ := hrel
          have Hall := Lib.hid hall; clear hall
          by_cases hlt : k < g.size
          · by_cases hb : okb g[k] = true
            · have c1 : decide ((g[k].toNat : Int) ≤ 32) = false := by simp [okb] at hb; simp; omega
              have c2 : ((g[k].toNat : Int) == 34) = false := by simp [okb] at hb; simp; omega
              have c3 : ((g[k].toNat : Int) == 127) = false := by simp [okb] at hb; simp; omega
              have Hb := Lib.hid hb; clear hb
              go_wp2
              go_round
              case rel => exact ⟨k + 1, by omega, by go_num, by rw [all_snoc okb g k hlt, Hall.out, Hb.out]; rfl⟩
              case measure => simp [intOf]; omega
            · have hf := HB.out k hlt (by simpa using hb)
              have Hf := Lib.hid hf; clear hf
              have hb' : decide ((g[k].toNat : Int) ≤ 32) = true ∨ (decide ((g[k].toNat : Int) ≤ 32) = false ∧ ((g[k].toNat : Int) == 34) = true) ∨ (decide ((g[k].toNat : Int) ≤ 32) = false ∧ ((g[k].toNat : Int) == 34) = false ∧ ((g[k].toNat : Int) == 127) = true) := by simp [okb] at hb; simp; omega
              clear hb
              rcases hb' with c1 | ⟨c1, c2⟩ | ⟨c1, c2, c3⟩
              all_goals
                go_wp2
                refine bodyPost_ret (v := (⟨false, false, empt⟩ : Ent).val) (by simp [results, Tryz.results29, go_sem]; rfl) rfl ⟨?_, (Below.refl _ _).alloc (Nat.le_refl _) _⟩
                rw [HE.out, Hf.out]; rfl
          · have hf := HI.out k hk Hall.out (by omega)
            have Hf := Lib.hid hf; clear hf
            go_wp2
            refine bodyPost_ret (v := (⟨b, true, g⟩ : Ent).val) (by simp [results, Tryz.results29, go_sem]; rfl) rfl ⟨?_, (Below.refl _ _).alloc (Nat.le_refl _) _⟩
            rw [HE.out, Hf.out]; rfl
      · have hf : tagged t = false := by unfold tagged; rw [dif_pos h2]; simp [h1]
        have d0 : ((t[0].toNat : Int) != 34) = false := by simp; omega
        have d1 : ((t[t.size - 1].toNat : Int) != 34) = true := by simp; omega
        have d2 : decide ((t.size : Int) < 2) = false := by simp; omega
        clear h0 h1
        have Hf := Lib.hid hf; clear hf
        go_wp2
        refine bodyPost_ret (v := (⟨false, false, empt⟩ : Ent).val) (by simp [results, Tryz.results29, go_sem]; rfl) rfl ⟨?_, (Below.refl _ _).alloc (Nat.le_refl _) _⟩
        rw [HE.out, Hf.out]; rfl
    · have hf : tagged t = false := by unfold tagged; rw [dif_pos h2]; simp [h0]
      have d0 : ((t[0].toNat : Int) != 34) = true := by simp; omega
      have d2 : decide ((t.size : Int) < 2) = false := by simp; omega
      clear h0
      have Hf := Lib.hid hf; clear hf
      go_wp2
      refine bodyPost_ret (v := (⟨false, false, empt⟩ : Ent).val) (by simp [results, Tryz.results29, go_sem]; rfl) rfl ⟨?_, (Below.refl _ _).alloc (Nat.le_refl _) _⟩
      rw [HE.out, Hf.out]; rfl
  · have hf : tagged t = false := by unfold tagged; rw [dif_neg h2]
    have Hf := Lib.hid hf; clear hf
    go_wp2
    refine bodyPost_ret (v := (⟨false, false, empt⟩ : Ent).val) (by simp [results, Tryz.results29, go_sem]; rfl) rfl ⟨?_, (Below.refl _ _).alloc (Nat.le_refl _) _⟩
    rw [HE.out, Hf.out]; rfl

end Go.Proofs.YtedmiganmifepaaGreatDoor
/- The walk of etag.Parse. -/
namespace Go.Proofs.YtedmiganmifepaaGreatDoor
open Go.RowKit
set_option maxHeartbeats 1000000 in
theorem parse_yes (a : ByteArray) (w : World) (ha : a.size ≤ 8000) (h : (ent a).right = true) :
    Calls Tryz.prog 21 #[.string a] w fun e w' => e = .returned (.tuple #[.bool (ent a).weak, .string (ent a).tag, .int .i64 0]) ∧ Below w.heap.size w w' := by
  have hr := rd a
  unfold Ent.val at hr
  rw [h] at hr
  have H := Lib.hid hr
  clear h hr
  generalize (ent a).weak = wk at *
  generalize (ent a).tag = tg at *
  go_enter Tryz.func21, Tryz.ntmps21
  go_wp2_with (go_at_call 29; refine (H.out _ ha).mono ?_; rintro e w' ⟨rfl, hb⟩)
  go_quiet (fail)
  go_wp2
  go_ret3
  exact ⟨rfl, Go.below_drewN (hb.alloc hb.size _) _⟩
set_option maxHeartbeats 1000000 in
theorem parse_no (a : ByteArray) (w : World) (ha : a.size ≤ 8000) (h : (ent a).right = false) :
    Calls Tryz.prog 21 #[.string a] w fun e w' => e = .returned (.tuple #[.bool false, .string empt, .int .i64 4]) ∧ Below w.heap.size w w' := by
  have hr := rd a
  unfold Ent.val at hr
  rw [h] at hr
  have H := Lib.hid hr
  clear h hr
  generalize (ent a).weak = wk at *
  generalize (ent a).tag = tg at *
  go_enter Tryz.func21, Tryz.ntmps21
  go_wp2_with (go_at_call 29; refine (H.out _ ha).mono ?_; rintro e w' ⟨rfl, hb⟩)
  go_ret3
  exact ⟨rfl, hb.alloc hb.size _⟩

def Ent.parse (x : Ent) : Value := bif x.right then .tuple #[.bool x.weak, .string x.tag, .int .i64 0] else .tuple #[.bool false, .string empt, .int .i64 4]
theorem parse_any (a : ByteArray) (w : World) (ha : a.size ≤ 8000) :
    Calls Tryz.prog 21 #[.string a] w fun e w' => e = .returned (ent a).parse ∧ Below w.heap.size w w' := by
  unfold Ent.parse
  cases h : (ent a).right
  · exact parse_no a w ha h
  · exact parse_yes a w ha h
end Go.Proofs.YtedmiganmifepaaGreatDoor
/- The walks of etag.Parse, Strong, Weak and of the law's works. -/
namespace Go.Proofs.YtedmiganmifepaaGreatDoor
open Go.RowKit
def Ent.same (x y : Ent) : Bool := x.right && y.right && (x.tag.data.toList == y.tag.data.toList)
def Ent.sure (x y : Ent) : Bool := x.same y && !x.weak && !y.weak
set_option maxHeartbeats 1000000 in
theorem same_any (x y : Ent) (w : World) :
    Calls Tryz.prog 23 #[x.val, y.val] w fun e w' => e = .returned (.bool (x.same y)) ∧ Below w.heap.size w w' := by
  obtain ⟨xw, xr, xt⟩ := x
  obtain ⟨yw, yr, yt⟩ := y
  unfold Ent.same Ent.val
  cases xr <;> cases yr
  all_goals
    go_enter Tryz.func23, Tryz.ntmps23
    go_wp2
    go_ret
    exact ⟨by simp [Lib.toList_data], ((Below.refl _ _).alloc (Nat.le_refl _) _).alloc (by simp) _⟩
set_option maxHeartbeats 1000000 in
theorem sure_any (x y : Ent) (w : World) :
    Calls Tryz.prog 24 #[x.val, y.val] w fun e w' => e = .returned (.bool (x.sure y)) ∧ Below w.heap.size w w' := by
  unfold Ent.sure
  have hsame := fun w => same_any x y w
  cases hh : x.same y
  · rw [hh] at hsame
    have H := Lib.hid hsame
    clear hsame hh
    obtain ⟨xw, xr, xt⟩ := x
    obtain ⟨yw, yr, yt⟩ := y
    unfold Ent.val at *
    go_enter Tryz.func24, Tryz.ntmps24
    go_wp2_with (go_at_call 23; refine (H.out _).mono ?_; rintro e w' ⟨rfl, hb⟩)
    go_ret
    exact ⟨by simp, (((Below.refl _ _).alloc (Nat.le_refl _) _).alloc (by simp) _).trans (hb.mono (by simp; omega))⟩
  · rw [hh] at hsame
    have H := Lib.hid hsame
    clear hsame hh
    obtain ⟨xw, xr, xt⟩ := x
    obtain ⟨yw, yr, yt⟩ := y
    unfold Ent.val at *
    cases xw
    all_goals
      go_enter Tryz.func24, Tryz.ntmps24
      go_wp2_with (go_at_call 23; refine (H.out _).mono ?_; rintro e w' ⟨rfl, hb⟩; have h1 := hb.cell (p := ⟨w.heap.size, 0, none⟩) (by simp; omega); have h2 := hb.cell (p := ⟨w.heap.size + 1, 0, none⟩) (by simp); simp [go_sem] at h1 h2)
      go_ret
      exact ⟨by simp, (((Below.refl _ _).alloc (Nat.le_refl _) _).alloc (by simp) _).trans (hb.mono (by simp; omega))⟩

set_option maxHeartbeats 1000000 in
theorem strong_any (a b : ByteArray) (w : World) (ha : a.size ≤ 8000) (hb : b.size ≤ 8000) :
    Calls Tryz.prog 11 #[.string a, .string b] w fun e w' => e = .returned (.bool ((ent a).sure (ent b))) ∧ Below w.heap.size w w' := by
  have hB := Below.refl w.heap.size w
  go_enter Tryz.func11, Tryz.ntmps11
  go_wp2_with (first | (go_at_call 29; refine (rd _ _ (by assumption)).mono ?_; rintro e w' ⟨rfl, hb⟩; replace hB := bt hB hb; clear hb) | (go_at_call 24; refine (sure_any _ _ _).mono ?_; rintro e w' ⟨rfl, hb⟩; replace hB := bt hB hb; clear hb) | (go_at_call 22; go_in))
  go_ret
  exact ⟨rfl, hB⟩
set_option maxHeartbeats 1000000 in
theorem weak_any (a b : ByteArray) (w : World) (ha : a.size ≤ 8000) (hb : b.size ≤ 8000) :
    Calls Tryz.prog 10 #[.string a, .string b] w fun e w' => e = .returned (.bool ((ent a).same (ent b))) ∧ Below w.heap.size w w' := by
  have hB := Below.refl w.heap.size w
  go_enter Tryz.func10, Tryz.ntmps10
  go_wp2_with (first | (go_at_call 29; refine (rd _ _ (by assumption)).mono ?_; rintro e w' ⟨rfl, hb⟩; replace hB := bt hB hb; clear hb) | (go_at_call 23; refine (same_any _ _ _).mono ?_; rintro e w' ⟨rfl, hb⟩; replace hB := bt hB hb; clear hb) | (go_at_call 22; go_in))
  go_ret
  exact ⟨rfl, hB⟩
/-! closed answers -/
set_option maxHeartbeats 1000000 in
theorem works_any (w : World) :
    Calls Tryz.prog 5 #[] w fun e w' => e = .returned (.bool true) ∧ Below w.heap.size w w' := by
  have h1 : (ent ⟨#[87, 47, 34, 97, 34]⟩).parse = .tuple #[.bool true, .string ⟨#[97]⟩, .int .i64 0] := by rfl
  have h2 : (ent ⟨#[97]⟩).parse = .tuple #[.bool false, .string ⟨#[]⟩, .int .i64 4] := by rfl
  have h3 : (ent ⟨#[87, 47, 34, 97, 34]⟩).same (ent ⟨#[34, 97, 34]⟩) = true := by rfl
  have h4 : (ent ⟨#[87, 47, 34, 97, 34]⟩).sure (ent ⟨#[34, 97, 34]⟩) = false := by rfl
  have h5 : (ent ⟨#[34, 97, 34]⟩).sure (ent ⟨#[34, 97, 34]⟩) = true := by rfl
  have H1 := Lib.hid h1; have H2 := Lib.hid h2; have H3 := Lib.hid h3; have H4 := Lib.hid h4; have H5 := Lib.hid h5
  clear h1 h2 h3 h4 h5
  have hB := Below.refl w.heap.size w
  go_enter Tryz.func5, Tryz.ntmps5
  go_wp2_with (first | (go_at_call 21; refine (parse_any _ _ (by decide)).mono ?_; rintro e w' ⟨rfl, hb⟩; replace hB := bt hB hb; clear hb; first | rw [H1.out] | rw [H2.out]) | (go_at_call 10; refine (weak_any _ _ _ (by decide) (by decide)).mono ?_; rintro e w' ⟨rfl, hb⟩; replace hB := bt hB hb; clear hb; rw [H3.out]) | (go_at_call 11; refine (strong_any _ _ _ (by decide) (by decide)).mono ?_; rintro e w' ⟨rfl, hb⟩; replace hB := bt hB hb; clear hb; first | rw [H4.out] | rw [H5.out]) | (go_at_call 8; go_in) | (go_at_call 9; go_in))
  go_ret
  exact ⟨rfl, hB⟩
end Go.Proofs.YtedmiganmifepaaGreatDoor
/- Which texts are tags, place by place: plain. -/
namespace Go.Proofs.YtedmiganmifepaaGreatDoor

/-- A byte of a tag at a place, as the document asks it. -/
def okAt (t : ByteArray) (j : Nat) (h : j < t.size) : Bool := if j = 0 ∨ j = t.size - 1 then t[j].toNat == 34 else okb t[j]
theorem tagged_iff (t : ByteArray) (h2 : 2 ≤ t.size) : tagged t = true ↔ ∀ j (h : j < t.size), okAt t j h = true := by
  have hx : (inner t).size = t.size - 2 := by unfold inner; simp [ByteArray.size_extract]; omega
  have hi : ∀ j (h : j < (inner t).size), (inner t)[j] = t[j + 1]'(by omega) := by
    intro j h
    have hg : (t.extract 1 (t.size - 1))[j]'h = t[1 + j]'(by omega) := ByteArray.getElem_extract h
    show (t.extract 1 (t.size - 1))[j]'h = _
    rw [hg]
    congr 1
    omega
  unfold tagged
  rw [dif_pos h2]
  constructor
  · intro h j hj
    rw [Bool.and_eq_true, Bool.and_eq_true] at h
    unfold okAt
    by_cases h0 : j = 0
    · subst h0; rw [if_pos (Or.inl rfl)]; exact h.1.1
    · by_cases h1 : j = t.size - 1
      · subst h1; rw [if_pos (Or.inr rfl)]; exact h.1.2
      · rw [if_neg (by omega)]
        have h3 := List.all_eq_true.1 h.2 ((inner t)[j - 1]'(by omega)) (by rw [at_list (inner t) (j - 1) (by omega)]; exact List.getElem_mem _)
        rw [hi (j - 1) (by omega)] at h3
        simpa [show j - 1 + 1 = j from by omega] using h3
  · intro h
    rw [Bool.and_eq_true, Bool.and_eq_true]
    refine ⟨⟨?_, ?_⟩, ?_⟩
    · have := h 0 (by omega); unfold okAt at this; rwa [if_pos (Or.inl rfl)] at this
    · have := h (t.size - 1) (by omega); unfold okAt at this; rwa [if_pos (Or.inr rfl)] at this
    · rw [List.all_eq_true]
      intro c hc
      obtain ⟨j, hj, e⟩ := List.mem_iff_getElem.1 hc
      have hj' : j < (inner t).size := by simpa using hj
      have h3 : (inner t)[j] = c := by rw [← e]; show (inner t).data[j] = _; simp
      rw [← h3, hi j hj']
      have := h (j + 1) (by omega)
      unfold okAt at this
      rwa [if_neg (by omega)] at this
end Go.Proofs.YtedmiganmifepaaGreatDoor
/- The walks of the document's Parse, Weak, Strong (layer 14). -/
namespace Go.Proofs.YtedmiganmifepaaGreatDoor
open Go.RowKit

theorem cut_yes (s : ByteArray) (h : Lib.hasPrefix s.data.toList [87, 47] = true) : cutP s ⟨#[87, 47]⟩ = s.extract 2 s.size := by
  unfold cutP
  rw [if_pos (show Lib.hasPrefix s.data.toList (⟨#[87, 47]⟩ : ByteArray).data.toList = true from h)]
  rfl
theorem cut_no (s : ByteArray) (h : Lib.hasPrefix s.data.toList [87, 47] = false) : cutP s ⟨#[87, 47]⟩ = s := by
  unfold cutP
  rw [if_neg (show ¬ Lib.hasPrefix s.data.toList (⟨#[87, 47]⟩ : ByteArray).data.toList = true from by rw [show (⟨#[87, 47]⟩ : ByteArray).data.toList = [87, 47] from rfl, h]; decide)]
theorem pre_list : ∀ (l : List UInt8), Lib.hasPrefix l [87, 47] = if h : 2 ≤ l.length then (l[0].toNat == 87 && l[1].toNat == 47) else false
  | [] => rfl
  | [a] => by simp [Lib.hasPrefix, List.isPrefixOf]
  | a :: b :: r => by
    have e : ∀ (x y : UInt8), (x == y) = (y.toNat == x.toNat) := fun x y => by rw [Bool.eq_iff_iff, beq_iff_eq, beq_iff_eq, UInt8.toNat_inj]; exact eq_comm
    rw [dif_pos (by simp)]
    show (87 == a && (47 == b && true)) = _
    rw [e, e]
    simp
theorem pre_eq (s : ByteArray) (h : 2 ≤ s.size) : Lib.hasPrefix s.data.toList [87, 47] = (s[0].toNat == 87 && s[1].toNat == 47) := by
  rw [pre_list, dif_pos (by simpa using h), at_list s 0 (by omega), at_list s 1 (by omega)]
theorem pre_short (s : ByteArray) (h : ¬ 2 ≤ s.size) : Lib.hasPrefix s.data.toList [87, 47] = false := by
  rw [pre_list, dif_neg (by simpa using h)]

set_option maxRecDepth 100000 in
set_option maxHeartbeats 2000000 in
theorem rparse14_any (s : ByteArray) (w : World) (hs : s.size ≤ 8000) :
    Calls Tryz.prog 34 #[.string s] w fun e w' => e = .returned (ent s).parse ∧ Below w.heap.size w w' := by
  have hcl := cutP_le s ⟨#[87, 47]⟩
  have hent : ent s = if tagged (cutP s ⟨#[87, 47]⟩) then ⟨Lib.hasPrefix s.data.toList [87, 47], true, inner (cutP s ⟨#[87, 47]⟩)⟩ else ⟨false, false, empt⟩ := rfl
  have Hent := Lib.hid hent; clear hent
  obtain ⟨P, hP⟩ : ∃ p, (ent s).parse = p := ⟨_, rfl⟩
  rw [hP]
  have HP := Lib.hid hP; clear hP
  go_enter Tryz.func34, Tryz.ntmps34
  go_upto_region 1 with (fail)
  go_cut [5] (fun s5 wx => s5 = .bool (Lib.hasPrefix s.data.toList [87, 47]) ∧ w = wx)
  case first =>
    clear HP Hent
    by_cases h2 : 2 ≤ s.size
    · have d2 : decide ((2 : Int) ≤ (s.size : Int)) = true := by simp; omega
      have hpe := pre_eq s h2
      cases h0 : ((s[0].toNat : Int) == 87) <;> cases h1 : ((s[1].toNat : Int) == 47)
      all_goals
        have e0 := (beq_cast s[0].toNat 87).trans h0
        have e1 := (beq_cast s[1].toNat 47).trans h1
        rw [e0, e1] at hpe
        simp only [Bool.and_true, Bool.and_false, Bool.and_self] at hpe
        have Hpe := Lib.hid hpe
        clear hpe e0 e1
        go_wp2
        go_meet
        exact ⟨by rw [Hpe.out], rfl⟩
    · have d2 : decide ((2 : Int) ≤ (s.size : Int)) = false := by simp; omega
      have hpe := pre_short s h2
      have Hpe := Lib.hid hpe
      clear hpe h2
      go_wp2
      go_meet
      exact ⟨by rw [Hpe.out], rfl⟩
  case rest =>
    obtain ⟨rfl, rfl⟩ := hcut
    obtain ⟨b, hb⟩ : ∃ b, Lib.hasPrefix s.data.toList [87, 47] = b := ⟨_, rfl⟩
    rw [hb] at Hent ⊢
    obtain ⟨t, ht⟩ : ∃ t, cutP s ⟨#[87, 47]⟩ = t := ⟨_, rfl⟩
    rw [ht] at Hent hcl
    have hct : t = if b then s.extract 2 s.size else s := by
      rw [← ht, ← hb]
      split
      · next h => exact cut_yes s h
      · next h => exact cut_no s (by simpa using h)
    have hb2 : b = true → 2 ≤ s.size := by
      intro e
      by_cases h2 : 2 ≤ s.size
      · exact h2
      · rw [pre_short s h2] at hb; rw [← hb] at e; cases e
    have Hct := Lib.hid hct; have Hb2 := Lib.hid hb2
    clear hb ht hct hb2
    go_upto_if 22 with (fail)
    go_cut [0] (fun s0 wx => s0 = .string t ∧ w = wx)
    case first =>
      clear HP Hent
      cases b
      · go_wp2
        go_meet
        exact ⟨by rw [Hct.out]; rfl, rfl⟩
      · have h2 := Hb2.out rfl
        go_wp2
        go_meet
        exact ⟨by rw [Hct.out]; rfl, rfl⟩
    case rest =>
      obtain ⟨rfl, rfl⟩ := hcut
      clear Hct Hb2
      have ht4 : t.size ≤ 8000 := by omega
      clear hcl
      by_cases h2 : 2 ≤ t.size
      · have d2 : decide ((t.size : Int) < 2) = false := by simp; omega
        have hY : (∀ j (h : j < t.size), okAt t j h = true) → P = .tuple #[.bool b, .string (inner t), .int .i64 0] := by
          intro h
          have := (tagged_iff t h2).2 h
          rw [← HP.out, Hent.out, this]; rfl
        have hN : ∀ k (h : k < t.size), okAt t k h = false → P = .tuple #[.bool false, .string empt, .int .i64 4] := by
          intro k h hk
          have : tagged t = false := by
            cases ht : tagged t
            · rfl
            · rw [(tagged_iff t h2).1 ht k h] at hk; cases hk
          rw [← HP.out, Hent.out, this]; rfl
        have HY := Lib.hid hY; have HN := Lib.hid hN
        clear HP Hent hY hN
        go_wp2
        go_loop [6] (fun i => ∃ k : Nat, k ≤ t.size ∧ i = .int .i64 k ∧ Hid (∀ j (h : j < t.size), j < k → okAt t j h = true)) (fun i => t.size - (intOf i).toNat)
        case atStart => exact ⟨0, Nat.zero_le _, rfl, Lib.hid (fun j h hj => absurd hj (by omega))⟩
        case round =>
          obtain ⟨k, hk, rfl, Hall⟩ := hrel
          by_cases hlt : k < t.size
          · have hu := u8_lt t[k]
            have hnext : okAt t k hlt = true → Hid (∀ j (h : j < t.size), j < k + 1 → okAt t j h = true) := by
              intro e
              refine Lib.hid fun j h hj => ?_
              by_cases hjk : j = k
              · subst hjk; exact e
              · exact Hall.out j h (by omega)
            have hbad := HN.out k hlt
            unfold okAt at hnext hbad
            have Hnext := Lib.hid hnext; have Hbad := Lib.hid hbad
            clear hnext hbad Hall
            have tri : (((k : Int) == 0) = true ∧ (k = 0 ∨ k = t.size - 1)) ∨ (((k : Int) == 0) = false ∧ ((k : Int) == (t.size : Int) - 1) = true ∧ (k = 0 ∨ k = t.size - 1)) ∨ (((k : Int) == 0) = false ∧ ((k : Int) == (t.size : Int) - 1) = false ∧ ¬ (k = 0 ∨ k = t.size - 1)) := by
              simp only [beq_iff_eq, beq_eq_false_iff_ne]; omega
            rcases tri with ⟨e1, he⟩ | ⟨e1, e2, he⟩ | ⟨e1, e2, he⟩
            · cases h34 : ((t[k].toNat : Int) == 34)
              · have n34 : ((t[k].toNat : Int) != 34) = true := by simp [bne, h34]
                have hf := Hbad.out (by rw [if_pos he]; exact (beq_cast t[k].toNat 34).trans h34)
                have Hf := Lib.hid hf
                clear hf he
                go_wp2
                go_ret3
                exact ⟨by rw [Hf.out]; rfl, Below.refl _ _⟩
              · have n34 : ((t[k].toNat : Int) != 34) = false := by simp [bne, h34]
                have hn := Hnext.out (by rw [if_pos he]; exact (beq_cast t[k].toNat 34).trans h34)
                clear he
                go_wp2
                go_round
                case rel => exact ⟨k + 1, by omega, by go_num, hn⟩
                case measure => simp [intOf]; omega
            · cases h34 : ((t[k].toNat : Int) == 34)
              · have n34 : ((t[k].toNat : Int) != 34) = true := by simp [bne, h34]
                have hf := Hbad.out (by rw [if_pos he]; exact (beq_cast t[k].toNat 34).trans h34)
                have Hf := Lib.hid hf
                clear hf he
                go_wp2
                go_ret3
                exact ⟨by rw [Hf.out]; rfl, Below.refl _ _⟩
              · have n34 : ((t[k].toNat : Int) != 34) = false := by simp [bne, h34]
                have hn := Hnext.out (by rw [if_pos he]; exact (beq_cast t[k].toNat 34).trans h34)
                clear he
                go_wp2
                go_round
                case rel => exact ⟨k + 1, by omega, by go_num, hn⟩
                case measure => simp [intOf]; omega
            · cases hok : okb t[k]
              · have hf := Hbad.out (by rw [if_neg he]; exact hok)
                have Hf := Lib.hid hf
                have hb' : decide ((t[k].toNat : Int) < 33) = true ∨ (decide ((t[k].toNat : Int) < 33) = false ∧ ((t[k].toNat : Int) == 34) = true) ∨ (decide ((t[k].toNat : Int) < 33) = false ∧ ((t[k].toNat : Int) == 34) = false ∧ ((t[k].toNat : Int) == 127) = true) := by simp [okb] at hok; simp; omega
                clear hf he hok
                rcases hb' with c1 | ⟨c1, c2⟩ | ⟨c1, c2, c3⟩
                all_goals
                  go_wp2
                  go_ret3
                  exact ⟨by rw [Hf.out]; rfl, Below.refl _ _⟩
              · have hn := Hnext.out (by rw [if_neg he]; exact hok)
                have c1 : decide ((t[k].toNat : Int) < 33) = false := by simp [okb] at hok; simp; omega
                have c2 : ((t[k].toNat : Int) == 34) = false := by simp [okb] at hok; simp; omega
                have c3 : ((t[k].toNat : Int) == 127) = false := by simp [okb] at hok; simp; omega
                clear he hok
                go_wp2
                go_round
                case rel => exact ⟨k + 1, by omega, by go_num, hn⟩
                case measure => simp [intOf]; omega
          · have hf := HY.out (fun j h => Hall.out j h (by omega))
            have Hf := Lib.hid hf
            clear hf
            go_wp2
            go_quiet (fail)
            go_wp2
            go_ret3
            exact ⟨by rw [Hf.out]; rfl, Go.below_drewN (Below.refl _ _) _⟩
      · have d2 : decide ((t.size : Int) < 2) = true := by simp; omega
        have hf : P = .tuple #[.bool false, .string empt, .int .i64 4] := by
          have : tagged t = false := by unfold tagged; rw [dif_neg h2]
          rw [← HP.out, Hent.out, this]; rfl
        have Hf := Lib.hid hf
        clear hf
        go_wp2
        go_ret3
        exact ⟨by rw [Hf.out]; rfl, Below.refl _ _⟩
end Go.Proofs.YtedmiganmifepaaGreatDoor
/- What the functions of layer 1 compute, as plain functions on lists of bytes; no program in sight. -/
namespace Go.Proofs.YtedmiganmifepaaGreatDoor

/-- may a byte be in a quoted text? -/
def plainb (c : UInt8) : Bool := c.toNat == 9 || (decide (32 ≤ c.toNat) && c.toNat != 127)
def esc (c : UInt8) : List UInt8 := bif c.toNat == 34 || c.toNat == 92 then [92, c] else [c]
theorem esc_le (c : UInt8) : (esc c).length ≤ 2 := by unfold esc; cases (c.toNat == 34 || c.toNat == 92) <;> simp
theorem flat_le (l : List UInt8) : (l.flatMap esc).length ≤ 2 * l.length := by
  induction l with
  | nil => simp
  | cons x r ih => have := esc_le x; rw [List.flatMap_cons, List.length_append, List.length_cons]; omega
def quoted (s : ByteArray) : List UInt8 := 34 :: (s.data.toList.flatMap esc ++ [34])
def two (l : Option (List UInt8)) : Value := match l with
  | some l => .tuple #[.string ⟨l.toArray⟩, .int .i64 0]
  | none => .tuple #[.string ⟨#[]⟩, .int .i64 4]
/-- Quote. -/
def quoteO (s : ByteArray) : Option (List UInt8) := bif s.data.toList.all plainb then some (quoted s) else none

/-- What the pieces say, byte by byte: the flag tells whether a byte 92 stands ahead. -/
def unq : Bool → List UInt8 → Option (List UInt8)
  | b, [] => bif b then none else some []
  | b, c :: r =>
    bif !plainb c || (c.toNat == 34 && !b) then none
    else bif c.toNat == 92 && !b then unq true r
    else (unq false r).map (c :: ·)
/-- Unquote: the program's way: both ends first, then what is between them. -/
def unqP (l : List UInt8) : Option (List UInt8) :=
  bif decide (2 ≤ l.length) && (l.head?.getD 0).toNat == 34 && (l.getLast?.getD 0).toNat == 34 then unq false (l.drop 1).dropLast else none
/-- Unquote: the document's way: piece by piece up to the closing mark. -/
def unqD : List UInt8 → Option (List UInt8)
  | [] => none
  | [c] => bif c.toNat == 34 then some [] else none
  | c :: d :: r =>
    bif c.toNat == 34 then none
    else bif c.toNat == 92 then (bif plainb d then (unqD r).map (d :: ·) else none)
    else (bif plainb c then (unqD (d :: r)).map (c :: ·) else none)
def unqR (l : List UInt8) : Option (List UInt8) := match l with
  | [] => none
  | c :: r => bif c.toNat == 34 then unqD r else none

/-- Both ways agree. -/
theorem unqD_eq : ∀ (n : Nat) (l : List UInt8), l.length ≤ n → unqD l = bif decide (1 ≤ l.length) && (l.getLast?.getD 0).toNat == 34 then unq false l.dropLast else none
  | _, [], _ => rfl
  | _, [c], _ => by by_cases h : c.toNat = 34 <;> simp [unqD, h, unq]
  | 0, c :: d :: r, h => by simp at h
  | n + 1, c :: d :: r, h => by
    have ih1 := unqD_eq n (d :: r) (by simp at *; omega)
    have ih2 := unqD_eq n r (by simp at *; omega)
    have hl : (c :: d :: r).getLast? = (d :: r).getLast? := by simp [List.getLast?_cons_cons]
    have hd : (c :: d :: r).dropLast = c :: (d :: r).dropLast := by simp
    rw [hl, hd, unqD]
    cases h34 : (c.toNat == 34)
    · cases h92 : (c.toNat == 92)
      · rw [ih1]
        cases hp : plainb c <;> cases hq : (((d :: r).getLast?.getD 0).toNat == 34)
        all_goals simp [unq, h34, h92, hp]
      · have hc : plainb c = true := by simp at h92; simp [plainb, h92]
        cases r with
        | nil =>
          cases hp : plainb d <;> cases hq : (d.toNat == 34)
          all_goals simp [h92, h34, unq, unqD, hc, hq]
        | cons e r =>
          have hl2 : (d :: e :: r).getLast? = (e :: r).getLast? := by simp [List.getLast?_cons_cons]
          have hd2 : (d :: e :: r).dropLast = d :: (e :: r).dropLast := by simp
          rw [hl2, hd2, ih2]
          cases hp : plainb d <;> cases hq : (((e :: r).getLast?.getD 0).toNat == 34)
          all_goals simp [h92, h34, unq, hc, hp]
    · have h92 : (c.toNat == 92) = false := by simp at h34; simp [h34]
      have hc : plainb c = true := by simp at h34; simp [plainb, h34]
      simp [unq, h34, h92, hc]
theorem unqP_eq (l : List UInt8) : unqP l = unqR l := by
  cases l with
  | nil => rfl
  | cons c r =>
    unfold unqR unqP
    simp only [List.drop_one, List.tail_cons]
    rw [unqD_eq r.length r (Nat.le_refl _)]
    cases r with
    | nil => simp
    | cons d r =>
      have hl : (c :: d :: r).getLast? = (d :: r).getLast? := by simp [List.getLast?_cons_cons]
      rw [hl]
      cases h : (c.toNat == 34) <;> cases hq : (((d :: r).getLast?.getD 0).toNat == 34)
      all_goals simp [h]

/-- Lower. -/
def lowb (c : UInt8) : UInt8 := bif decide (65 ≤ c.toNat) && decide (c.toNat ≤ 90) then c + 32 else c
def lowerL (l : List UInt8) : List UInt8 := l.map lowb
/-- a token's byte -/
def markL : List UInt8 := [33, 35, 36, 37, 38, 39, 42, 43, 45, 46, 94, 95, 96, 124, 126]
def letterb (c : UInt8) : Bool := (decide (97 ≤ c.toNat) && decide (c.toNat ≤ 122)) || (decide (65 ≤ c.toNat) && decide (c.toNat ≤ 90)) || (decide (48 ≤ c.toNat) && decide (c.toNat ≤ 57))
def wordb (c : UInt8) : Bool := letterb c || markL.contains c
def tokenL (l : List UInt8) : Bool := l.all wordb && !l.isEmpty
end Go.Proofs.YtedmiganmifepaaGreatDoor
/- The walk of text.Lower. -/
namespace Go.Proofs.YtedmiganmifepaaGreatDoor
open Go.RowKit

/-- The bytes with the first k made small. -/
def lowTo (s : ByteArray) (k : Nat) : ByteArray := ⟨((s.data.toList.take k).map lowb ++ s.data.toList.drop k).toArray⟩
theorem lowTo_size (s : ByteArray) (k : Nat) : (lowTo s k).size = s.size := by
  unfold lowTo; rw [Lib.size_eq, Lib.size_eq]; simp only [List.length_append, List.length_map, List.length_take, List.length_drop]; omega
theorem lowTo_zero (s : ByteArray) : lowTo s 0 = s := by unfold lowTo; simp
theorem lowTo_end (s : ByteArray) : lowTo s s.size = ⟨(lowerL s.data.toList).toArray⟩ := by
  unfold lowTo lowerL; rw [take_all s _ (Nat.le_refl _), drop_all s _ (Nat.le_refl _), List.append_nil]
theorem lowTo_at (s : ByteArray) (k j : Nat) (h : j < s.size) (h' : j < (lowTo s k).size) : (lowTo s k)[j] = if j < k then lowb s[j] else s[j] := by
  have hl : j < ((s.data.toList.take k).map lowb ++ s.data.toList.drop k).length := by
    rw [List.length_append, List.length_map, List.length_take, List.length_drop, ← Lib.size_eq]; omega
  rw [mk_at (lowTo s k) _ rfl j h' hl, at_list s j h]
  by_cases hk : j < k
  · rw [if_pos hk, List.getElem_append_left (by rw [List.length_map, List.length_take, ← Lib.size_eq]; omega)]
    simp only [List.getElem_map, List.getElem_take]
  · rw [if_neg hk, List.getElem_append_right (by rw [List.length_map, List.length_take, ← Lib.size_eq]; omega)]
    simp only [List.getElem_drop]; congr 1
    rw [List.length_map, List.length_take, ← Lib.size_eq]; omega

/-- A row of bytes in block b that may be written. -/
structure RowAt (b : Nat) (s : ByteArray) (w : World) : Prop where
  cells : Lib.Bytes w b 0 s
  free : ∀ i, i < s.size → w.frozen? ⟨b, i, none⟩ = false

theorem RowAt.fresh (s : ByteArray) (cap : Nat) (w : World) :
    RowAt w.heap.size s (w.alloc (.cells (bytesRow s cap) 5 ((bytesRow s cap).size, (bytesRow s cap).size + 1))) := by
  refine ⟨fun i h => ?_, fun i h => ?_⟩
  · rw [Nat.zero_add, World.cell?_alloc_mark, bytesRow_at s cap i h]; rfl
  · rw [World.frozen?_alloc_mark]
    have : s.size ≤ (bytesRow s cap).size := by unfold bytesRow; simp
    simp; omega
theorem RowAt.drew {b : Nat} {s : ByteArray} {w : World} (h : RowAt b s w) : RowAt b s w.drew := ⟨fun i hi => h.cells i hi, fun i hi => h.free i hi⟩
theorem RowAt.same {b k : Nat} {s : ByteArray} {w : World} (h : RowAt b (lowTo s k) w) (hk : k < s.size) (e : lowb s[k] = s[k]) : RowAt b (lowTo s (k + 1)) w := by
  refine ⟨fun i hi => ?_, fun i hi => h.free i (by rw [lowTo_size] at *; exact hi)⟩
  have hi2 : i < s.size := by rw [lowTo_size] at hi; exact hi
  rw [h.cells i (by rw [lowTo_size]; exact hi2), lowTo_at s k i hi2, lowTo_at s (k + 1) i hi2]
  by_cases h1 : i < k
  · rw [if_pos h1, if_pos (by omega)]
  · rw [if_neg h1]
    by_cases h2 : i = k
    · subst h2; rw [if_pos (by omega), e]
    · rw [if_neg (by omega)]
theorem RowAt.put {b k : Nat} {s : ByteArray} {w : World} (h : RowAt b (lowTo s k) w) (hk : k < s.size) {n : Int} (e : ((lowb s[k]).toNat : Int) = n) : RowAt b (lowTo s (k + 1)) (w.setCell ⟨b, k, none⟩ (.int .u8 n)) := by
  refine ⟨fun i hi => ?_, fun i hi => ?_⟩
  · have hi2 : i < s.size := by rw [lowTo_size] at hi; exact hi
    have hc := h.cells i (by rw [lowTo_size]; exact hi2)
    rw [Nat.zero_add] at hc ⊢
    rw [lowTo_at s (k + 1) i hi2]
    by_cases h2 : i = k
    · subst h2
      rw [World.cell?_setCell_same _ _ _ hc, if_pos (by omega), e]
    · rw [World.cell?_setCell_other _ _ _ _ (by intro e; cases e; exact h2 rfl), hc, lowTo_at s k i hi2]
      by_cases h1 : i < k
      · rw [if_pos h1, if_pos (by omega)]
      · rw [if_neg h1, if_neg (by omega)]
  · rw [World.frozen?_setCell]; exact h.free i (by rw [lowTo_size] at *; exact hi)
theorem RowAt.at {b k : Nat} {s : ByteArray} {w : World} (h : RowAt b (lowTo s k) w) (hk : k < s.size) : w.cell? ⟨b, k, none⟩ = some (.int .u8 s[k].toNat) := by
  have hc := h.cells k (by rw [lowTo_size]; exact hk)
  rw [Nat.zero_add] at hc
  rw [hc, lowTo_at s k k hk, if_neg (by omega)]

theorem lowb_no (c : UInt8) (h : (decide (65 ≤ (c.toNat : Int)) && decide ((c.toNat : Int) ≤ 90)) = false) : lowb c = c := by
  have : (decide (65 ≤ c.toNat) && decide (c.toNat ≤ 90)) = false := by rw [← h, Bool.eq_iff_iff]; simp; omega
  unfold lowb; rw [this]; rfl
theorem lowb_yes (c : UInt8) (h1 : decide (65 ≤ (c.toNat : Int)) = true) (h2 : decide ((c.toNat : Int) ≤ 90) = true) : ((lowb c).toNat : Int) = (c.toNat : Int) + 32 := by
  have : (decide (65 ≤ c.toNat) && decide (c.toNat ≤ 90)) = true := by simp at *; omega
  unfold lowb; rw [this, cond_true]
  have : c.toNat ≤ 90 := by simp at h2; omega
  rw [UInt8.toNat_add]; simp; omega

set_option maxRecDepth 100000 in
set_option maxHeartbeats 2000000 in
theorem lower_wide (s : ByteArray) (w : World) (hs : s.size ≤ 140737488351232) :
    Calls Tryz.prog 66 #[.string s] w fun e w' => e = .returned (.string ⟨(lowerL s.data.toList).toArray⟩) ∧ Below w.heap.size w w' := by
  have hcv := run_bytes_of_string (P := Tryz.prog) w 9 74 5 s Tryz.underlying9 Tryz.underlying74 Tryz.underlying5
  have hfr := RowAt.fresh s (grownCap w s.size 0 5) w
  have hbl : Below w.heap.size w (w.alloc (.cells (bytesRow s (grownCap w s.size 0 5)) 5 ((bytesRow s (grownCap w s.size 0 5)).size, (bytesRow s (grownCap w s.size 0 5)).size + 1))) := (Below.refl _ w).alloc (Nat.le_refl _) _
  generalize grownCap w s.size 0 5 = cap at *
  generalize Obj.cells (bytesRow s cap) 5 ((bytesRow s cap).size, (bytesRow s cap).size + 1) = row at *
  have HF := Lib.hid hfr; have HL := Lib.hid hbl; clear hfr hbl
  go_enter Tryz.func66, Tryz.ntmps66
  go_wp2
  clear hcv
  go_loopw [9] (fun i wr => ∃ k : Nat, k ≤ s.size ∧ i = .int .i64 k ∧ RowAt w.heap.size (lowTo s k) wr ∧ Below w.heap.size w wr) (fun i _ => s.size - (intOf i).toNat)
  case atStart => exact ⟨0, Nat.zero_le _, rfl, by rw [lowTo_zero]; exact HF.out.drew, HL.out.drew⟩
  case round =>
    obtain ⟨k, hk, rfl, hR, hbw⟩ := hrel
    have HR := Lib.hid hR; clear hR
    by_cases hlt : k < s.size
    · have hc := HR.out.at hlt
      have hz := HR.out.free k (by rw [lowTo_size]; exact hlt)
      have hu := u8_lt s[k]
      cases c1 : decide (65 ≤ (s[k].toNat : Int)) <;> cases c2 : decide ((s[k].toNat : Int) ≤ 90)
      · exfalso; simp at c1 c2; omega
      · have hl := lowb_no s[k] (by rw [c1, c2]; rfl)
        have Hl := Lib.hid hl; clear hl
        go_wp2
        go_roundw
        case rel => exact ⟨k + 1, by omega, by go_num, HR.out.same hlt Hl.out, hbw⟩
        case measure => simp [intOf]; omega
      · have hl := lowb_no s[k] (by rw [c1, c2]; rfl)
        have Hl := Lib.hid hl; clear hl
        go_wp2
        go_roundw
        case rel => exact ⟨k + 1, by omega, by go_num, HR.out.same hlt Hl.out, hbw⟩
        case measure => simp [intOf]; omega
      · have hl := lowb_yes s[k] c1 c2
        have Hl := Lib.hid hl; clear hl
        have hu2 : (s[k].toNat : Int) ≤ 90 := by simp at c2; omega
        go_wp2
        go_roundw
        case rel => exact ⟨k + 1, by omega, by go_num, HR.out.put hlt Hl.out, hbw.setCell (Nat.le_refl _) _⟩
        case measure => simp [intOf]; omega
    · have hke : k = s.size := by omega
      have hb := Lib.run_convert_whole (P := Tryz.prog) wr 74 5 9 Tryz.underlying74 Tryz.underlying5 Tryz.underlying9 w.heap.size 0 (lowTo s k) HR.out.cells cap
      rw [lowTo_size] at hb
      have hfin : lowTo s k = ⟨(lowerL s.data.toList).toArray⟩ := by rw [hke, lowTo_end]
      have Hf := Lib.hid hfin; clear hfin
      generalize lowTo s k = t at *
      have Hke := Lib.hid hke; clear hke
      go_wp2
      go_ret
      exact ⟨by rw [← Hf.out]; rfl, hbw⟩
theorem lower_any (s : ByteArray) (w : World) (hs : s.size ≤ 1000000) :
    Calls Tryz.prog 66 #[.string s] w fun e w' => e = .returned (.string ⟨(lowerL s.data.toList).toArray⟩) ∧ Below w.heap.size w w' := lower_wide s w (by omega)
end Go.Proofs.YtedmiganmifepaaGreatDoor
/- The walk of text.Trim. -/
namespace Go.Proofs.YtedmiganmifepaaGreatDoor
open Go.RowKit

def blanks : List UInt8 := [32, 9]
def trimL (l : List UInt8) : List UInt8 := Lib.trimS l blanks
theorem trimL_le (l : List UInt8) : (trimL l).length ≤ l.length := by
  have h1 : ∀ m : List UInt8, (Lib.trimLeftS m blanks).length ≤ m.length := fun m => (List.dropWhile_sublist _).length_le
  have h2 : ∀ m : List UInt8, (Lib.trimRightS m blanks).length ≤ m.length := fun m => by
    unfold Lib.trimRightS; rw [List.length_reverse]
    exact Nat.le_trans (List.dropWhile_sublist _).length_le (by rw [List.length_reverse]; exact Nat.le_refl _)
  exact Nat.le_trans (h1 _) (h2 _)

set_option maxHeartbeats 1000000 in
theorem trim_any (s : ByteArray) (w : World) (hs : s.size ≤ 1000000) :
    Calls Tryz.prog 49 #[.string s] w fun e w' => e = .returned (.string ⟨(trimL s.data.toList).toArray⟩) ∧ Below w.heap.size w w' := by
  have hcon := Any.strings_Trim_laid Tryz.lays160 (by kernel_rfl) s ⟨#[32, 9]⟩ w (by omega) (by decide) (ascii_of_all (by decide))
  have HC := Lib.hid hcon; clear hcon
  go_enter Tryz.func49, Tryz.ntmps49
  go_wp2_with (go_at_call 69; refine HC.out.mono ?_; rintro e w' ⟨rfl, hb⟩)
  go_ret
  exact ⟨rfl, hb⟩
end Go.Proofs.YtedmiganmifepaaGreatDoor
/- What text.Split computes, and the document's way: plain functions on lists of bytes. -/
namespace Go.Proofs.YtedmiganmifepaaGreatDoor

def addP (ls : List (List UInt8)) (p : List UInt8) : List (List UInt8) := bif p.isEmpty then ls else ls ++ [p]
theorem addP_le (ls : List (List UInt8)) (p : List UInt8) : (addP ls p).length ≤ ls.length + 1 := by
  unfold addP; cases p.isEmpty <;> simp
def splP (sep : UInt8) : Bool → Bool → List UInt8 → List (List UInt8) → List UInt8 → Option (List (List UInt8))
  | o, _, cur, ls, [] => bif o then none else some (addP ls (trimL cur))
  | o, b, cur, ls, c :: r =>
    bif b then splP sep o false (cur ++ [c]) ls r
    else bif o && c.toNat == 92 then splP sep o true (cur ++ [c]) ls r
    else bif c.toNat == 34 then splP sep (!o) false (cur ++ [c]) ls r
    else bif c.toNat == sep.toNat && !o then splP sep o false [] (addP ls (trimL cur)) r
    else splP sep o false (cur ++ [c]) ls r
/-- The pieces and the error's number. -/
def splitE (t : Option (List (List UInt8))) : List (List UInt8) × Int := match t with
  | none => ([], 4)
  | some ls => bif decide (64 < ls.length) then ([], 3) else (ls, 0)
def splitL (sep : UInt8) (l : List UInt8) : List (List UInt8) × Int :=
  bif sep.toNat == 34 || sep.toNat == 92 then ([], 2) else splitE (splP sep false false [] [] l)

/-- The document's way: which bytes stand in quotes; is one open at the end? -/
def fl : Bool → Bool → List UInt8 → List Bool
  | _, _, [] => []
  | o, b, c :: r => (o || c.toNat == 34) :: (bif b then fl o false r else bif o && c.toNat == 92 then fl o true r else bif c.toNat == 34 then fl (!o) false r else fl o false r)
def en : Bool → Bool → List UInt8 → Bool
  | o, _, [] => o
  | o, b, c :: r => bif b then en o false r else bif o && c.toNat == 92 then en o true r else bif c.toNat == 34 then en (!o) false r else en o false r
def spR (sep : UInt8) : List UInt8 → List (List UInt8) → List UInt8 → List Bool → List (List UInt8)
  | cur, ls, c :: r, f :: fs => bif (c.toNat != sep.toNat) || f then spR sep (cur ++ [c]) ls r fs else spR sep [] (addP ls (trimL cur)) r fs
  | cur, ls, _, _ => addP ls (trimL cur)
theorem fl_length : ∀ (l : List UInt8) (o b : Bool), (fl o b l).length = l.length
  | [], _, _ => rfl
  | c :: r, o, b => by
    simp only [fl, List.length_cons]
    congr 1
    cases b <;> cases (o && c.toNat == 92) <;> cases (c.toNat == 34) <;> simp [fl_length r]
theorem spl_eq (sep : UInt8) (hs : (sep.toNat == 34) = false) : ∀ (l : List UInt8) (o b : Bool) (cur : List UInt8) (ls : List (List UInt8)), (b = true → o = true) →
    splP sep o b cur ls l = bif en o b l then none else some (spR sep cur ls l (fl o b l))
  | [], o, b, cur, ls, _ => by simp [splP, en, spR]
  | c :: r, o, b, cur, ls, h => by
    have hne : (c.toNat == 34) = true → (c.toNat != sep.toNat) = true := by
      intro e; simp at e hs ⊢; omega
    have i1 := spl_eq sep hs r
    cases b
    · cases o
      · cases h34 : (c.toNat == 34)
        · cases hc : (c.toNat == sep.toNat)
          · have : (c.toNat != sep.toNat) = true := by simp [bne, hc]
            simp [splP, en, spR, fl, h34, hc, this, i1]
          · have : (c.toNat != sep.toNat) = false := by simp [bne, hc]
            simp [splP, en, spR, fl, h34, hc, this, i1]
        · simp [splP, en, spR, fl, h34, i1]
      · cases h92 : (c.toNat == 92)
        · cases h34 : (c.toNat == 34)
          · simp [splP, en, spR, fl, h34, h92, i1]
          · simp [splP, en, spR, fl, h34, h92, i1]
        · simp [splP, en, spR, fl, h92, i1]
    · have ho := h rfl
      subst ho
      simp [splP, en, spR, fl, i1]
theorem spl_count (sep : UInt8) : ∀ (l : List UInt8) (o b : Bool) (cur : List UInt8) (ls ps : List (List UInt8)), splP sep o b cur ls l = some ps → ps.length ≤ ls.length + l.length + 1
  | [], o, b, cur, ls, ps, h => by
    cases o
    · simp [splP] at h; subst h; have := addP_le ls (trimL cur); simp; omega
    · simp [splP] at h
  | c :: r, o, b, cur, ls, ps, h => by
    have ih := spl_count sep r
    have ha := addP_le ls (trimL cur)
    rw [splP] at h
    rw [List.length_cons]
    cases b
    · simp only [cond_false] at h
      cases hx : (o && c.toNat == 92) <;> rw [hx] at h <;> simp only [cond_true, cond_false] at h
      · cases h34 : (c.toNat == 34) <;> rw [h34] at h <;> simp only [cond_true, cond_false] at h
        · cases hy : (c.toNat == sep.toNat && !o) <;> rw [hy] at h <;> simp only [cond_true, cond_false] at h
          · have := ih _ _ _ _ _ h; omega
          · have := ih _ _ _ _ _ h; omega
        · have := ih _ _ _ _ _ h; omega
      · have := ih _ _ _ _ _ h; omega
    · simp only [cond_true] at h
      have := ih _ _ _ _ _ h; omega
end Go.Proofs.YtedmiganmifepaaGreatDoor
/- What TextStays and TextKnown want of the plain functions. -/
namespace Go.Proofs.YtedmiganmifepaaGreatDoor

theorem lowb_twice (c : UInt8) : lowb (lowb c) = lowb c := by
  by_cases h : (decide (65 ≤ c.toNat) && decide (c.toNat ≤ 90)) = true
  · have h1 : lowb c = c + 32 := by unfold lowb; rw [h]; rfl
    have h2 : (c + 32).toNat = c.toNat + 32 := by
      simp at h; rw [UInt8.toNat_add]; simp; omega
    have h3 : (decide (65 ≤ (c + 32).toNat) && decide ((c + 32).toNat ≤ 90)) = false := by simp at h ⊢; omega
    rw [h1]; unfold lowb; rw [h3]; rfl
  · have h' : (decide (65 ≤ c.toNat) && decide (c.toNat ≤ 90)) = false := by simpa using h
    have h1 : lowb c = c := by unfold lowb; rw [h']; rfl
    rw [h1, h1]
theorem lower_twice (l : List UInt8) : lowerL (lowerL l) = lowerL l := by
  unfold lowerL; rw [List.map_map]; apply List.map_congr_left; intro c _; exact lowb_twice c
theorem lower_length (l : List UInt8) : (lowerL l).length = l.length := by unfold lowerL; simp

theorem dw_idem (p : UInt8 → Bool) : ∀ l : List UInt8, (l.dropWhile p).dropWhile p = l.dropWhile p
  | [] => rfl
  | c :: r => by
    cases h : p c
    · rw [List.dropWhile_cons_of_neg (by simp [h]), List.dropWhile_cons_of_neg (by simp [h])]
    · rw [List.dropWhile_cons_of_pos h]; exact dw_idem p r
theorem dw_suffix (p : UInt8 → Bool) (l : List UInt8) : ∃ a, l = a ++ l.dropWhile p := ⟨l.takeWhile p, (List.takeWhile_append_dropWhile).symm⟩
theorem dw_none (p : UInt8 → Bool) (l : List UInt8) (h : ∀ c ∈ l, p c = false) : l.dropWhile p = l := by
  cases l with
  | nil => rfl
  | cons c r => rw [List.dropWhile_cons_of_neg (by simp [h c (by simp)])]
theorem trim_twice (l : List UInt8) : trimL (trimL l) = trimL l := by
  unfold trimL Lib.trimS Lib.trimLeftS Lib.trimRightS
  generalize (fun x => blanks.contains x) = p
  obtain ⟨a, ha⟩ := dw_suffix p (l.reverse.dropWhile p).reverse
  have hr : (l.reverse.dropWhile p).dropWhile p = l.reverse.dropWhile p := dw_idem _ _
  generalize l.reverse.dropWhile p = r at *
  have ht := dw_idem p r.reverse
  generalize r.reverse.dropWhile p = t at *
  have h1 : t.reverse.dropWhile p = t.reverse := by
    have h2 : r = t.reverse ++ a.reverse := by rw [← List.reverse_reverse r, ha]; simp
    cases h3 : t.reverse with
    | nil => rfl
    | cons x y =>
      rw [h3] at h2
      rw [h2] at hr
      cases hx : p x
      · rw [List.dropWhile_cons_of_neg (by simp [hx])]
      · exfalso
        rw [List.cons_append, List.dropWhile_cons_of_pos hx] at hr
        have := congrArg List.length hr
        have h4 : ((y ++ a.reverse).dropWhile p).length ≤ (y ++ a.reverse).length := (List.dropWhile_sublist p).length_le
        rw [List.length_cons] at this
        omega
  rw [h1, List.reverse_reverse, ht]
theorem trim_infix (l : List UInt8) : ∃ a b, l = a ++ (trimL l ++ b) := by
  unfold trimL Lib.trimS Lib.trimLeftS Lib.trimRightS
  generalize (fun x => blanks.contains x) = p
  obtain ⟨b, hb⟩ := dw_suffix p l.reverse
  obtain ⟨a, ha⟩ := dw_suffix p (l.reverse.dropWhile p).reverse
  refine ⟨a, b.reverse, ?_⟩
  rw [← List.append_assoc, ← ha, ← List.reverse_append, ← hb, List.reverse_reverse]
theorem contains_of (l t a b : List UInt8) (h : l = a ++ (t ++ b)) : Lib.contains l t = true := by
  unfold Lib.contains
  rcases Lib.index_spec l t with ⟨_, h2⟩ | ⟨i, h1, _⟩
  · exfalso
    have := h2 a.length (by rw [h]; simp)
    unfold Lib.occAt at this
    rw [h, List.drop_left] at this
    have h3 : t.isPrefixOf (t ++ b) = true := by rw [List.isPrefixOf_iff_prefix]; exact List.prefix_append _ _
    rw [h3] at this; cases this
  · rw [h1]; simp
theorem contains_trim (l : List UInt8) : Lib.contains l (trimL l) = true := by
  obtain ⟨a, b, h⟩ := trim_infix l
  exact contains_of _ _ _ _ h

theorem word_not {c : UInt8} (h : wordb c = true) : blanks.contains c = false ∧ (c.toNat == 34) = false ∧ (c.toNat == 92) = false := by
  have h0 : ∀ d : UInt8, wordb d = true → (blanks.contains d = false ∧ (d.toNat == 34) = false ∧ (d.toNat == 92) = false) := by
    intro d hd
    refine ⟨?_, ?_, ?_⟩
    · cases hb : blanks.contains d
      · rfl
      · have : d = 32 ∨ d = 9 := by simpa [blanks] using hb
        rcases this with e | e <;> subst e <;> exact absurd hd (by decide)
    · cases hb : (d.toNat == 34)
      · rfl
      · have : d = 34 := by rw [← UInt8.toNat_inj]; simpa using hb
        subst this; exact absurd hd (by decide)
    · cases hb : (d.toNat == 92)
      · rfl
      · have : d = 92 := by rw [← UInt8.toNat_inj]; simpa using hb
        subst this; exact absurd hd (by decide)
  exact h0 c h
theorem token_all {l : List UInt8} (h : tokenL l = true) : (∀ c ∈ l, wordb c = true) ∧ l.isEmpty = false := by
  unfold tokenL at h
  rw [Bool.and_eq_true] at h
  refine ⟨fun c hc => List.all_eq_true.1 h.1 c hc, ?_⟩
  cases hl : l.isEmpty
  · rfl
  · rw [hl] at h; exact absurd h.2 (by decide)
theorem trim_word (l : List UInt8) (h : ∀ c ∈ l, wordb c = true) : trimL l = l := by
  unfold trimL Lib.trimS Lib.trimLeftS Lib.trimRightS
  have h1 : l.reverse.dropWhile (fun x => blanks.contains x) = l.reverse := dw_none _ _ (fun c hc => (word_not (h c (by simpa using hc))).1)
  rw [h1, List.reverse_reverse]
  exact dw_none _ _ (fun c hc => (word_not (h c hc)).1)
theorem trim_token {l : List UInt8} (h : tokenL l = true) : trimL l = l := trim_word l (token_all h).1
theorem unqP_token {l : List UInt8} (h : tokenL l = true) : unqP l = none := by
  cases l with
  | nil => rfl
  | cons c r =>
    have hc := word_not ((token_all h).1 c (by simp))
    have : ((c :: r).head?.getD 0).toNat = c.toNat := rfl
    unfold unqP
    rw [this, hc.2.1]; simp
theorem spl_word (sep : UInt8) : ∀ (l cur : List UInt8), (∀ c ∈ l, wordb c = true) → (∀ c ∈ l, (c.toNat == sep.toNat) = false) → splP sep false false cur [] l = some (addP [] (trimL (cur ++ l)))
  | [], cur, _, _ => by simp [splP]
  | c :: r, cur, h1, h2 => by
    have hc := word_not (h1 c (by simp))
    have hs := h2 c (by simp)
    rw [splP, hc.2.1, hs]
    simp only [cond_false, Bool.false_and]
    rw [spl_word sep r (cur ++ [c]) (fun x hx => h1 x (by simp [hx])) (fun x hx => h2 x (by simp [hx]))]
    simp
theorem split_token {l : List UInt8} {sep : UInt8} (h : tokenL l = true) (hs : ∀ c ∈ l, (c.toNat == sep.toNat) = false) (h1 : (sep.toNat == 34) = false) (h2 : (sep.toNat == 92) = false) : splitL sep l = ([l], 0) := by
  have ht := token_all h
  unfold splitL
  rw [h1, h2, spl_word sep l [] ht.1 hs, List.nil_append, trim_token h]
  unfold addP; rw [ht.2]; rfl

/-- What 'pieces' hands back. -/
def piecesL (sep : UInt8) (l : List UInt8) : List UInt8 :=
  bif (splitL sep l).2 == 0 then Lib.join (splitL sep l).1 [124] else [101, 114, 114, 111, 114, 32, 48 + UInt8.ofNat (splitL sep l).2.toNat]
theorem pieces_token {l : List UInt8} {sep : UInt8} (h : tokenL l = true) (hs : ∀ c ∈ l, (c.toNat == sep.toNat) = false) (h1 : (sep.toNat == 34) = false) (h2 : (sep.toNat == 92) = false) : piecesL sep l = l := by
  unfold piecesL; rw [split_token h hs h1 h2]; exact Lib.join_one _ _
theorem split_err (sep : UInt8) (l : List UInt8) : 0 ≤ (splitL sep l).2 ∧ (splitL sep l).2 ≤ 4 := by
  unfold splitL
  cases (sep.toNat == 34 || sep.toNat == 92)
  · cases splP sep false false [] [] l with
    | none => simp [splitE]
    | some ls =>
      simp only [splitE, cond_false]
      cases h : decide (64 < ls.length) <;> simp
  · simp
/-- The pieces together are no longer than the text. -/
def total (ls : List (List UInt8)) : Nat := (ls.map List.length).sum
theorem total_addP (ls : List (List UInt8)) (p : List UInt8) : total (addP ls p) = total ls + p.length := by
  unfold addP total
  cases h : p.isEmpty
  · simp
  · simp at h; simp [h]
theorem spl_total (sep : UInt8) : ∀ (l : List UInt8) (o b : Bool) (cur : List UInt8) (ls ps : List (List UInt8)), splP sep o b cur ls l = some ps → total ps ≤ total ls + cur.length + l.length
  | [], o, b, cur, ls, ps, h => by
    cases o
    · simp [splP] at h; subst h; have := trimL_le cur; rw [total_addP]; simp; omega
    · simp [splP] at h
  | c :: r, o, b, cur, ls, ps, h => by
    have ih := spl_total sep r
    have ha := total_addP ls (trimL cur)
    have hb := trimL_le cur
    rw [splP] at h
    rw [List.length_cons]
    cases b
    · simp only [cond_false] at h
      cases hx : (o && c.toNat == 92) <;> rw [hx] at h <;> simp only [cond_true, cond_false] at h
      · cases h34 : (c.toNat == 34) <;> rw [h34] at h <;> simp only [cond_true, cond_false] at h
        · cases hy : (c.toNat == sep.toNat && !o) <;> rw [hy] at h <;> simp only [cond_true, cond_false] at h
          · have := ih _ _ _ _ _ h; simp at this; omega
          · have := ih _ _ _ _ _ h; simp at this; omega
        · have := ih _ _ _ _ _ h; simp at this; omega
      · have := ih _ _ _ _ _ h; simp at this; omega
    · simp only [cond_true] at h
      have := ih _ _ _ _ _ h; simp at this; omega
theorem split_total (sep : UInt8) (l : List UInt8) : total (splitL sep l).1 ≤ l.length := by
  unfold splitL
  cases (sep.toNat == 34 || sep.toNat == 92)
  · cases h : splP sep false false [] [] l with
    | none => simp [splitE, total]
    | some ls =>
      have h1 := spl_total sep l _ _ _ _ _ h
      simp only [splitE, cond_false]
      cases h : decide (64 < ls.length)
      · simpa [total] using h1
      · simp [total]
  · simp [total]
theorem join_le (sep : List UInt8) : ∀ ls : List (List UInt8), (Lib.join ls sep).length ≤ total ls + ls.length * sep.length
  | [] => by simp [Lib.join_nil]
  | [x] => by rw [Lib.join_one]; simp [total]
  | x :: y :: r => by
    have ih := join_le sep (y :: r)
    rw [Lib.join_cons] at ih ⊢
    unfold total at *
    simp [Lib.joinTail, Nat.add_mul] at ih ⊢
    omega
theorem total_mem {ls : List (List UInt8)} {x : List UInt8} (h : x ∈ ls) : x.length ≤ total ls := by
  unfold total
  induction ls with
  | nil => cases h
  | cons y r ih =>
    rw [List.map_cons, List.sum_cons]
    rcases List.mem_cons.1 h with rfl | h
    · omega
    · have := ih h; omega
end Go.Proofs.YtedmiganmifepaaGreatDoor
/- What etag.List computes: plain. -/
namespace Go.Proofs.YtedmiganmifepaaGreatDoor

def entOk (l : List UInt8) : Bool := (ent ⟨l.toArray⟩).right
/-- etag.List. -/
def etagL (l : List UInt8) : List (List UInt8) × Int := bif (splitL 44 l).2 == 0 && (!(splitL 44 l).1.isEmpty && (splitL 44 l).1.all entOk) then ((splitL 44 l).1, 0) else ([], 4)
theorem split_len (l : List UInt8) : (splitL 44 l).1.length ≤ 64 := by
  unfold splitL
  cases ((44 : UInt8).toNat == 34 || (44 : UInt8).toNat == 92)
  · cases splP 44 false false [] [] l with
    | none => simp [splitE]
    | some ls =>
      simp only [splitE, cond_false]
      cases h : decide (64 < ls.length)
      · simp at h ⊢; exact h
      · simp
  · simp
end Go.Proofs.YtedmiganmifepaaGreatDoor
/- Texts in a slice that the call made; blocks of one cell. -/
namespace Go.Proofs.YtedmiganmifepaaGreatDoor
open Go.RowKit

theorem uStr : (Tryz.prog.info? 9).map (fun i => (i.zero, i.size, i.bytes)) = some (some (.string ByteArray.empty), 1, 16) := by kernel_rfl
/-- A slice of texts that the call made. -/
def OwnS (B : Nat) (v : Value) (ls : List (List UInt8)) (w : World) : Prop := w.ownsRow B 9 1 v ls.length (ls.map fun l => Value.string ⟨l.toArray⟩)
theorem OwnS.shape {B : Nat} {v : Value} {ls : List (List UInt8)} {w : World} (h : OwnS B v ls w) : ∃ a cap, v = .slice a ls.length cap := by
  rcases h.2 with ⟨rfl, h0⟩ | ⟨g, cap, cur, rfl, _⟩
  · exact ⟨none, 0, by rw [h0]⟩
  · exact ⟨_, _, rfl⟩

theorem own_below {B : Nat} {e : TypeId} {size : Nat} {v : Value} {n : Nat} {xs : List Value} {w w1 : World} (h : w.ownsRow B e size v n xs) (hb : Below w.heap.size w w1) : w1.ownsRow B e size v n xs := by
  obtain ⟨h1, h2⟩ := h
  refine ⟨h1, ?_⟩
  rcases h2 with h2 | ⟨g, cap, cur, hv, hg, hh, r⟩
  · exact Or.inl h2
  · refine Or.inr ⟨g, cap, cur, hv, hg, ?_, r⟩
    have hlt : g < w.heap.size := by
      rcases Nat.lt_or_ge g w.heap.size with h' | h'
      · exact h'
      · simp [Array.getElem?_eq_none h'] at hh
    rw [hb.block g hlt]; exact hh
theorem OwnS.below {B : Nat} {v : Value} {ls : List (List UInt8)} {w w1 : World} (h : OwnS B v ls w) (hb : Below w.heap.size w w1) : OwnS B v ls w1 := own_below h hb
theorem of_heap {w : World} {b : Nat} {cs : Array Value} {T : TypeId} (h : w.heap[b]? = some (.cells cs T (0, 0))) (j : Nat) : w.cell? ⟨b, j, none⟩ = cs[j]? ∧ w.frozen? ⟨b, j, none⟩ = false ∧ b < w.heap.size := by
  refine ⟨by simp [World.cell?, h], by simp [World.frozen?, h], ?_⟩
  rcases Nat.lt_or_ge b w.heap.size with h' | h'
  · exact h'
  · simp [Array.getElem?_eq_none h'] at h
theorem heap_set {w : World} {b : Nat} {v u : Value} {T : TypeId} (h : w.heap[b]? = some (.cells #[u] T (0, 0))) : (w.setCell ⟨b, 0, none⟩ v).heap[b]? = some (.cells #[v] T (0, 0)) := by
  simp [World.setCell, Array.getElem?_modify, h]

theorem heap_set2 {w : World} {b c : Nat} {v u x : Value} {T : TypeId} (hne : c ≠ b) (h : w.heap[b]? = some (.cells #[u] T (0, 0))) : ((w.setCell ⟨b, 0, none⟩ v).setCell ⟨c, 0, none⟩ x).heap[b]? = some (.cells #[v] T (0, 0)) := by
  rw [Below.heap_setCell _ _ _ _ (by show b ≠ c; omega)]; exact heap_set h
theorem OwnS.cell {B n cap : Nat} {a : Option Addr} {ls : List (List UInt8)} {w : World} (h : OwnS B (.slice a n cap) ls w) (j : Nat) (hj : j < ls.length) :
    ∃ g, a = some ⟨g, 0, none⟩ ∧ w.cell? ⟨g, j, none⟩ = some (.string ⟨ls[j].toArray⟩) ∧ w.frozen? ⟨g, j, none⟩ = false := by
  rcases h.2 with ⟨_, h0⟩ | ⟨g, cp, cur, hv, hg, hh, hn, hc, hs, hx⟩
  · omega
  · cases hv
    refine ⟨g, rfl, ?_, by simp [World.frozen?, hh]⟩
    have h1 : cur[j]? = (cur.toList.take (ls.length * 1))[j]? := by
      rw [List.getElem?_take_of_lt (by omega), Array.getElem?_toList]
    have h2 : cur[j]? = some (.string ⟨ls[j].toArray⟩) := by
      rw [h1, hx, List.getElem?_map, List.getElem?_eq_getElem hj]; rfl
    simp only [World.cell?, hh]
    exact h2
theorem OwnS.base {B B' : Nat} {v : Value} {ls : List (List UInt8)} {w : World} (h : OwnS B v ls w) (hB : B' ≤ B) : OwnS B' v ls w := by
  refine ⟨h.1, ?_⟩
  rcases h.2 with h | ⟨g, cp, cur, hv, hg, r⟩
  · exact Or.inl h
  · exact Or.inr ⟨g, cp, cur, hv, by omega, r⟩
theorem OwnS.room {B n cap : Nat} {a : Option Addr} {ls : List (List UInt8)} {w : World} (h : OwnS B (.slice a n cap) ls w) : n = ls.length ∧ n ≤ cap ∧ (0 < n → ∃ g, a = some ⟨g, 0, none⟩ ∧ g < w.heap.size) := by
  rcases h.2 with ⟨hv, h0⟩ | ⟨g, cp, cur, hv, hg, hh, hn, hc, hs, hx⟩
  · cases hv; exact ⟨by omega, by omega, fun h => by omega⟩
  · cases hv
    refine ⟨rfl, hn, fun _ => ⟨g, rfl, ?_⟩⟩
    rcases Nat.lt_or_ge g w.heap.size with h' | h'
    · exact h'
    · simp [Array.getElem?_eq_none h'] at hh

/-! One element more at the end of a row that the call made. -/
/-- What an append leaves alone, and where the new row lies. -/
def Far (w w1 : World) (v v' : Value) : Prop := w.grownBy w1 v.ownBlock ∧ (v'.ownBlock = v.ownBlock ∨ ∀ g, v'.ownBlock = some g → w.heap.size ≤ g)
theorem wp_app_one {P : Program} {o : Oper} {a : Act} {K : Act → World → Prop} {Q : Exit → Act → World → Prop} (s x : Operand) (T E : TypeId)
    (ho : o.op = .call { callee := .builtin .append, args := #[s, x], argTypes := #[T, T] }) {z : Value} {size bytes : Nat} (ht : P.underlying T = some (.slice E)) (hinf : (P.info? E).map (fun i => (i.zero, i.size, i.bytes)) = some (some z, size, bytes))
    (hzs : z.cells.size = size) (hsz : 0 < size) (hbs : bytes ≤ 1000) {w wx : World} (B g : Nat) {v : Value} {n : Nat} {xs : List Value} (news : List Value) (hl : news.length = size) (h1 : ∀ u ∈ news, u.oneCell' = true)
    (hs : a.eval s = v) (hx : a.eval x = .slice (some ⟨g, 0, none⟩) 1 1) (hown : wx.ownsRow B E size v n xs) (hB : B ≤ w.heap.size) (hn : n ≤ 1000000000)
    (hc : ∀ j : Nat, wx.cell? ⟨g, j, none⟩ = news[j]?) (hwx : Below w.heap.size w wx)
    (hK : ∀ v' w1, w1.ownsRow B E size v' (n + 1) (xs ++ news) → Below B w w1 → Far wx w1 v v' → K (a.put o.dst v') w1) :
    o.wp P a wx K Q := by
  obtain ⟨i0, hi, hz0, hz1, hz2⟩ := info_parts hinf
  have hby : (n + 1) * bytes ≤ 1000000001 * 1000 := Nat.mul_le_mul (by omega) hbs
  have hsz2 := hwx.size
  obtain ⟨v', w', hr, h2, h3, _, h5⟩ := run_append_own_at (P := P) wx B T o.type E i0 z size bytes ht hi hz0 hz1 hz2 hzs hsz v n xs hown ⟨g, 0, none⟩ 1 1 news (by omega) (by
    intro j u hj
    have e : (⟨g, 0, none⟩ : Addr).add j = ⟨g, j, none⟩ := by
      unfold Addr.add; split <;> simp_all
    rw [e, hc, hj]) h1 (by unfold maxLen; omega) (by omega) (by omega)
  unfold Oper.wp execOp
  simp only [ho, resolve, invoke, builtin, Sem.run_bind, Sem.run_pure, Result.andThen_ok, List.map_toArray, List.map_cons, List.map_nil, hs, hx, hr]
  refine hK _ _ h2 ?_ ⟨h3, ?_⟩
  · exact (hwx.mono hB).grown h3 (by omega) (fun k hk => (hown.lt k hk).1)
  · rcases h5 with h | h
    · exact Or.inl h
    · refine Or.inr fun g hg => ?_
      rw [h] at hg
      have := Option.some.inj hg
      omega
theorem far_alloc {w w1 : World} {o : Obj} {v v' : Value} (h : Far (w.alloc o) w1 v v') : Far w w1 v v' := by
  obtain ⟨hgrow, hwhere⟩ := h
  have h0 := World.grownBy_alloc w o v.ownBlock
  refine ⟨⟨hgrow.os.trans h0.os, hgrow.tape.trans h0.tape, hgrow.output.trans h0.output, Nat.le_trans h0.size hgrow.size, fun k hk hne => (hgrow.block k (Nat.lt_of_lt_of_le hk h0.size) hne).trans (h0.block k hk hne)⟩, ?_⟩
  rcases hwhere with h | h
  · exact Or.inl h
  · exact Or.inr fun g hg => Nat.le_trans h0.size (h g hg)
theorem app_one {P : Program} {ops : Array Oper} {rest : List Oper} {o : Oper} {a : Act} {Q : Exit → Act → World → Prop} (hgd : o.guard = none) (s x : Operand) (T E : TypeId)
    (ho : o.op = .call { callee := .builtin .append, args := #[s, x], argTypes := #[T, T] }) {z : Value} {size bytes : Nat} (ht : P.underlying T = some (.slice E)) (hinf : (P.info? E).map (fun i => (i.zero, i.size, i.bytes)) = some (some z, size, bytes))
    (hzs : z.cells.size = size) (hsz : 0 < size) (hbs : bytes ≤ 1000) {w : World} (B : Nat) {v : Value} {n : Nat} {xs : List Value} (news : List Value) (hl : news.length = size) (h1 : ∀ u ∈ news, u.oneCell' = true)
    (hs : a.eval s = v) (hx : a.eval x = .slice (some ⟨w.heap.size, 0, none⟩) 1 1) (hown : w.ownsRow B E size v n xs) (hB : B ≤ w.heap.size) (hn : n ≤ 1000000000)
    (hK : ∀ v' w1, w1.ownsRow B E size v' (n + 1) (xs ++ news) → Below B w w1 → Far w w1 v v' → wpList P ops Q rest (a.put o.dst v') w1) :
    wpList P ops Q (o :: rest) a (w.alloc (.cells news.toArray E)) :=
  wpList_plain hgd fun _ hK' => wp_app_one s x T E ho ht hinf hzs hsz hbs B w.heap.size news hl h1 hs hx (hown.alloc _) hB hn (fun j => by rw [World.cell?_alloc_mark]; simp) ((Below.refl _ w).alloc (Nat.le_refl _) _)
    fun v' w1 h2 h3 h4 => hK' _ _ (hK v' w1 h2 h3 (far_alloc h4))
/-- The same in a region that draws its order: the block lies behind a draw. -/
theorem step_app_one {P : Program} {ops : Array Oper} {o : Oper} {a : Act} {K : Act → World → Prop} {Q : Exit → Act → World → Prop} {G : Prop} (hgd : o.guard = none) (s x : Operand) (T E : TypeId)
    (ho : o.op = .call { callee := .builtin .append, args := #[s, x], argTypes := #[T, T] }) {z : Value} {size bytes : Nat} (ht : P.underlying T = some (.slice E)) (hinf : (P.info? E).map (fun i => (i.zero, i.size, i.bytes)) = some (some z, size, bytes))
    (hzs : z.cells.size = size) (hsz : 0 < size) (hbs : bytes ≤ 1000) {w : World} (B : Nat) {v : Value} {n : Nat} {xs : List Value} (news : List Value) (hl : news.length = size) (h1 : ∀ u ∈ news, u.oneCell' = true)
    (hs : a.eval s = v) (hx : a.eval x = .slice (some ⟨w.heap.size, 0, none⟩) 1 1) (hown : w.ownsRow B E size v n xs) (hB : B ≤ w.heap.size) (hn : n ≤ 1000000000)
    (hK : ∀ v' w1, w1.ownsRow B E size v' (n + 1) (xs ++ news) → Below B w w1 → Far w w1 v v' → K (a.put o.dst v') w1) :
    if Region.wanted o (yielded ops a.tmps) = true then Oper.wp P o a (w.alloc (.cells news.toArray E)) K Q else G := by
  have hw : Region.wanted o (yielded ops a.tmps) = true := by simp [Region.wanted, hgd]
  rw [if_pos hw]
  exact wp_app_one s x T E ho ht hinf hzs hsz hbs B w.heap.size news hl h1 hs hx (hown.alloc _) hB hn (fun j => by rw [World.cell?_alloc_mark]; simp) ((Below.refl _ w).alloc (Nat.le_refl _) _)
    fun v' w1 h2 h3 h4 => hK v' w1 h2 h3 (far_alloc h4)
theorem app_str {ops : Array Oper} {rest : List Oper} {o : Oper} {a : Act} {Q : Exit → Act → World → Prop} (B : Nat) (y : List UInt8) {w : World} {v : Value} {ls : List (List UInt8)} (hown : OwnS B v ls w) (hB : B ≤ w.heap.size) (hn : ls.length ≤ 1000000000)
    (hgd : o.guard = none) (s x : Operand) (ho : o.op = .call { callee := .builtin .append, args := #[s, x], argTypes := #[36, 36] })
    (hs : a.eval s = v) (hx : a.eval x = .slice (some ⟨w.heap.size, 0, none⟩) 1 1)
    (hK : ∀ v' w1, OwnS B v' (ls ++ [y]) w1 → Below B w w1 → Far w w1 v v' → wpList Tryz.prog ops Q rest (a.put o.dst v') w1) :
    wpList Tryz.prog ops Q (o :: rest) a (w.alloc (.cells #[.string ⟨y.toArray⟩] 9)) := by
  refine app_one (z := .string ByteArray.empty) (bytes := 16) (n := ls.length) hgd s x 36 9 ho Tryz.underlying36 uStr rfl (by decide) (by decide) B [.string ⟨y.toArray⟩] rfl (by intro u hu; simp at hu; subst hu; rfl) hs hx hown hB hn ?_
  intro v' w1 h1 h2 h3
  refine hK v' w1 ?_ h2 h3
  show World.ownsRow _ _ _ _ _ _ _
  rw [List.length_append, List.length_singleton, List.map_append]
  exact h1
theorem OwnS.drew {B : Nat} {v : Value} {ls : List (List UInt8)} {w : World} (h : OwnS B v ls w) : OwnS B v ls w.drew := h
theorem OwnS.nil (B : Nat) (w : World) : OwnS B (.slice none 0 0) [] w := World.ownsRow_nil _ _ _ _
/-- Texts that are handed back in a slice of the call's own. -/
def TextsPost (w : World) (ls : List (List UInt8)) (e : Ending) (w' : World) : Prop :=
  ∃ a cap, e = .returned (.slice a ls.length cap) ∧ OwnS w.heap.size (.slice a ls.length cap) ls w' ∧ Below w.heap.size w w'
theorem OwnS.rd {B m cap : Nat} {a : Option Addr} {ls : List (List UInt8)} {w : World} (h : OwnS B (.slice a m cap) ls w) : m = ls.length ∧ Rd a ls.length 1 (strsV ls) w := Rd.of_own h
/-- v's row is none of those that lie behind A. -/
def Sep (v : Value) (A : Option Addr) (n : Nat) : Prop := 0 < n → ∀ g o, A = some ⟨g, o, none⟩ → v.ownBlock ≠ some g
theorem Rd.far {A : Option Addr} {n size : Nat} {xs : List Value} {w w1 : World} {v v' : Value} (h : Rd A n size xs w) (hf : Far w w1 v v') (hs : Sep v A n) : Rd A n size xs w1 ∧ Sep v' A n := by
  refine ⟨⟨h.1, fun hn => ?_⟩, fun hn g o e => ?_⟩
  · obtain ⟨b, o, e, hl, hc⟩ := h.2 hn
    have hb := hf.1.block b hl (fun x => hs hn b o e x.symm)
    exact ⟨b, o, e, Nat.lt_of_lt_of_le hl hf.1.size, fun j u hu => (World.cell?_of_block (a := ⟨b, o + j, none⟩) hb).trans (hc j u hu)⟩
  · obtain ⟨b, o', e', hl, _⟩ := h.2 hn
    rw [e'] at e
    cases e
    rcases hf.2 with h2 | h2
    · rw [h2]; exact hs hn _ _ e'
    · intro x; have := h2 _ x; omega
/-- What lies in new blocks is none of an elder row. -/
theorem Sep.new {v : Value} {B n : Nat} {e : TypeId} {m size : Nat} {xs : List Value} {w : World} {A : Option Addr} (h : w.ownsRow B e size v m xs) (ha : ∀ g o, A = some ⟨g, o, none⟩ → w.heap.size ≤ g) : Sep v A n := by
  intro _ g o e x
  have := (h.lt g x).2
  have := ha g o e
  omega
theorem own_new {B : Nat} {e : TypeId} {size : Nat} {a : Option Addr} {m n cap : Nat} {xs : List Value} {w : World} (h : w.ownsRow B e size (.slice a m cap) n xs) : ∀ g o, a = some ⟨g, o, none⟩ → B ≤ g := by
  intro g o e
  exact (h.lt g (by rw [e]; rfl)).1
end Go.Proofs.YtedmiganmifepaaGreatDoor
/- The walk of text.Split: its closure first. -/
namespace Go.Proofs.YtedmiganmifepaaGreatDoor
open Go.RowKit

/-- What the closure stands on: the text, where the piece began, and the pieces so far. -/
structure TakeSt (B : Nat) (s : ByteArray) (f : Nat) (ls : List (List UInt8)) (w : World) : Prop where
  text : w.heap[B]? = some (.cells #[.string s] 9 (0, 0))
  list : ∃ v, w.heap[B + 1]? = some (.cells #[v] 36 (0, 0)) ∧ OwnS (B + 3) v ls w
  start : w.heap[B + 2]? = some (.cells #[.int .i64 f] 3 (0, 0))

def pieceOf (s : ByteArray) (f t : Nat) : List UInt8 := trimL ((s.data.toList.drop f).take (t - f))

set_option maxRecDepth 100000 in
set_option maxHeartbeats 2000000 in
theorem take_any (B : Nat) (s : ByteArray) (f t : Nat) (ls : List (List UInt8)) (w : World) (h : TakeSt B s f ls w) (hft : f ≤ t) (ht : t ≤ s.size) (hs : s.size ≤ 1000000) (hn : ls.length ≤ 1000001) :
    Calls Tryz.prog 48 #[.int .i64 t, .pointer (some ⟨B, 0, none⟩), .pointer (some ⟨B + 2, 0, none⟩), .pointer (some ⟨B + 1, 0, none⟩)] w
      fun e w' => e = .returned (.tuple #[]) ∧ TakeSt B s (t + 1) (addP ls (pieceOf s f t)) w' ∧ Below B w w' := by
  obtain ⟨h1, ⟨v, h2, hown⟩, h3⟩ := h
  obtain ⟨c1, z1, l1⟩ := of_heap h1 0
  obtain ⟨c2, z2, l2⟩ := of_heap h2 0
  obtain ⟨c3, z3, l3⟩ := of_heap h3 0
  simp at c1 c2 c3
  have hex : (s.extract f t).data.toList = (s.data.toList.drop f).take (t - f) := Lib.extract_data s f t
  have hexs : (s.extract f t).size ≤ 1000000 := by rw [ByteArray.size_extract]; omega
  have k1 := fun w => trim_any (s.extract f t) w hexs
  rw [hex] at k1
  have hp : trimL ((s.data.toList.drop f).take (t - f)) = pieceOf s f t := rfl
  rw [hp] at k1
  have hpl : (pieceOf s f t).length ≤ 1000000 := by
    have h1 := trimL_le ((s.data.toList.drop f).take (t - f))
    rw [hp] at h1
    have h2 : ((s.data.toList.drop f).take (t - f)).length ≤ s.data.toList.length := by rw [List.length_take, List.length_drop]; omega
    rw [← Lib.size_eq] at h2; omega
  generalize pieceOf s f t = p at *
  have K1 := Lib.hid k1; have HO := Lib.hid hown; have H1 := Lib.hid h1; have H2 := Lib.hid h2; have H3 := Lib.hid h3
  clear k1 hown h1 h2 h3 hex hp
  obtain ⟨i0, hi, hz0, hz1, hz2⟩ := info_parts uStr
  cases he : p.isEmpty
  · have hadd : addP ls p = ls ++ [p] := by unfold addP; rw [he]; rfl
    have HA := Lib.hid hadd; clear hadd
    go_enter Tryz.func48, Tryz.ntmps48
    go_wp2_with (first | (go_at_call 49; refine (K1.out _).mono ?_; rintro e w1 ⟨rfl, hb1⟩; have d2 := (hb1.cell (p := ⟨B + 1, 0, none⟩) l2).trans c2; have d3 := (hb1.cell (p := ⟨B + 2, 0, none⟩) l3).trans c3; have y2 := (hb1.frozen (p := ⟨B + 1, 0, none⟩) l2).trans z2; have y3 := (hb1.frozen (p := ⟨B + 2, 0, none⟩) l3).trans z3; have HO1 := Lib.hid (own_below HO.out hb1)) | (at_builtin; refine wpList_append_own _ rfl _ _ 36 rfl (B + 3) 9 i0 (.string ByteArray.empty) 1 16 Tryz.underlying36 hi hz0 hz1 hz2 rfl (by decide) _ _ _ rfl (HO1.out.alloc _) ⟨w1.heap.size, 0, none⟩ 1 1 [.string ⟨p.toArray⟩] rfl rfl ?c1 ?c2 ?c3 ?c4 ?c5 ?_))
    case c1 =>
      intro j u hj
      match j, hj with
      | 0, hj => simp at hj; subst hj; simp [Addr.add]
    case c2 => intro u hu; simp at hu; subst hu; rfl
    case c3 => unfold maxLen; omega
    case c4 => omega
    case c5 => have := hb1.size; simp; omega
    intro v' w2 hown' hgrow _
    have hkeep : ∀ b, b < B + 3 → b < w.heap.size → w2.heap[b]? = w.heap[b]? := by
      intro b hb3 hbw
      have h1 := hb1.size
      rw [hgrow.block b (by simp; omega) (fun e => by have := (HO1.out.lt b e.symm).1; omega), Below.heap_alloc _ _ _ (by omega), hb1.block b hbw]
    have q1 := (hkeep B (by omega) l1).trans H1.out
    have q2 := (hkeep (B + 1) (by omega) l2).trans H2.out
    have q3 := (hkeep (B + 2) (by omega) l3).trans H3.out
    obtain ⟨e2, f2, _⟩ := of_heap q2 0
    obtain ⟨e3, f3, _⟩ := of_heap q3 0
    simp at e2 e3
    obtain ⟨g, cap, rfl⟩ : ∃ g cap, v' = .slice (some ⟨g, 0, none⟩) (ls.length + 1) cap := by
      rcases hown'.2 with ⟨_, h0⟩ | ⟨g, cap, cur, hv, _⟩
      · omega
      · exact ⟨g, cap, hv⟩
    have hbelow : Below B w w2 := ((hb1.mono (by omega)).alloc (by have := hb1.size; omega) _).grown hgrow (by have := hb1.size; simp; omega) (fun k hk => by have := (HO1.out.lt k hk).1; omega)
    have HQ1 := Lib.hid q1; have HQ2 := Lib.hid q2; have HQ3 := Lib.hid q3; have HN := Lib.hid hown'; have HB := Lib.hid hbelow
    clear q1 q2 q3 hown' hkeep hgrow hbelow hb1 d2 d3 y2 y3 c1 c2 c3
    go_wp2
    go_end0
    refine ⟨rfl, ⟨?_, ⟨_, heap_set2 (by omega) HQ2.out, ?_⟩, ?_⟩, (HB.out.setCell (p := ⟨B + 1, 0, none⟩) (by show B ≤ B + 1; omega) _).setCell (p := ⟨B + 2, 0, none⟩) (by show B ≤ B + 2; omega) _⟩
    · rw [Below.heap_setCell _ _ _ _ (by show B ≠ B + 2; omega), Below.heap_setCell _ _ _ _ (by show B ≠ B + 1; omega)]; exact HQ1.out
    · rw [HA.out]
      refine ownsRow_setCell_below (ownsRow_setCell_below ?_ (by show B + 1 < B + 3; omega) _) (by show B + 2 < B + 3; omega) _
      rw [List.length_append, List.length_singleton, List.map_append]; exact HN.out
    · exact heap_set (by rw [Below.heap_setCell _ _ _ _ (by show B + 2 ≠ B + 1; omega)]; exact HQ3.out)
  · have hadd : addP ls p = ls := by unfold addP; rw [he]; rfl
    have HA := Lib.hid hadd; clear hadd
    go_enter Tryz.func48, Tryz.ntmps48
    go_wp2_with (go_at_call 49; refine (K1.out _).mono ?_; rintro e w1 ⟨rfl, hb1⟩; have d3 := (hb1.cell (p := ⟨B + 2, 0, none⟩) l3).trans c3; have y3 := (hb1.frozen (p := ⟨B + 2, 0, none⟩) l3).trans z3)
    go_end0
    refine ⟨rfl, ⟨?_, ⟨v, ?_, ?_⟩, ?_⟩, (hb1.mono (by omega)).setCell (p := ⟨B + 2, 0, none⟩) (by show B ≤ B + 2; omega) _⟩
    · rw [Below.heap_setCell _ _ _ _ (by show B ≠ B + 2; omega), hb1.block B l1]; exact H1.out
    · rw [Below.heap_setCell _ _ _ _ (by show B + 1 ≠ B + 2; omega), hb1.block (B + 1) l2]; exact H2.out
    · rw [HA.out]; exact ownsRow_setCell_below (own_below HO.out hb1) (by show B + 2 < B + 3; omega) _
    · exact heap_set (by rw [hb1.block (B + 2) l3]; exact H3.out)

def seg (s : ByteArray) (f k : Nat) : List UInt8 := (s.data.toList.drop f).take (k - f)
theorem seg_snoc (s : ByteArray) (f k : Nat) (hf : f ≤ k) (h : k < s.size) : seg s f (k + 1) = seg s f k ++ [s[k]] := by
  unfold seg
  rw [show k + 1 - f = (k - f) + 1 from by omega, List.take_succ_eq_append_getElem (by rw [List.length_drop, ← Lib.size_eq]; omega)]
  congr 2
  rw [List.getElem_drop, at_list s k h]; congr 1; omega
theorem seg_self (s : ByteArray) (k : Nat) : seg s k k = [] := by unfold seg; rw [Nat.sub_self]; rfl
/-- One step of the scan, by what the byte is. -/
theorem spl_step (sep : UInt8) (o b : Bool) (cur : List UInt8) (ls : List (List UInt8)) (c : UInt8) (r : List UInt8) (x92 x34 xs : Bool) (h1 : ((c.toNat : Int) == 92) = x92) (h2 : ((c.toNat : Int) == 34) = x34) (h3 : ((c.toNat : Int) == (sep.toNat : Int)) = xs) :
    splP sep o b cur ls (c :: r) = bif b then splP sep o false (cur ++ [c]) ls r
    else bif o && x92 then splP sep o true (cur ++ [c]) ls r
    else bif x34 then splP sep (!o) false (cur ++ [c]) ls r
    else bif xs && !o then splP sep o false [] (addP ls (trimL cur)) r
    else splP sep o false (cur ++ [c]) ls r := by
  have e1 := (beq_cast c.toNat 92).trans h1
  have e2 := (beq_cast c.toNat 34).trans h2
  have e3 := (beq_cast c.toNat sep.toNat).trans h3
  rw [splP, e1, e2, e3]

/-- What Split hands back. -/
def SplitPost (w : World) (r : List (List UInt8) × Int) (e : Ending) (w' : World) : Prop :=
  ∃ a cap, e = .returned (.tuple #[.slice a r.1.length cap, .int .i64 r.2]) ∧ OwnS w.heap.size (.slice a r.1.length cap) r.1 w' ∧ Below w.heap.size w w'
theorem SplitPost.none {w w' : World} {n : Int} (h : Below w.heap.size w w') : SplitPost w ([], n) (.returned (.tuple #[.slice none 0 0, .int .i64 n])) w' :=
  ⟨Option.none, 0, rfl, World.ownsRow_nil _ _ _ _, h⟩

set_option maxRecDepth 100000 in
set_option maxHeartbeats 4000000 in
theorem split_any (s : ByteArray) (sep : UInt8) (w : World) (hs : s.size ≤ 1000000) :
    Calls Tryz.prog 27 #[.string s, .int .u8 sep.toNat] w (SplitPost w (splitL sep s.data.toList)) := by
  cases q1 : ((sep.toNat : Int) == 34)
  · cases q2 : ((sep.toNat : Int) == 92)
    · have hsp : splitL sep s.data.toList = splitE (splP sep false false [] [] s.data.toList) := by
        unfold splitL; rw [(beq_cast sep.toNat 34).trans q1, (beq_cast sep.toNat 92).trans q2]; rfl
      rw [hsp]; clear hsp
      obtain ⟨tot, htot⟩ : ∃ t, splP sep false false [] [] s.data.toList = t := ⟨_, rfl⟩
      rw [htot]
      have hcnt : ∀ ps, tot = some ps → ps.length ≤ 1000001 := by
        intro ps e
        have := spl_count sep s.data.toList false false [] [] ps (htot.trans e)
        rw [← Lib.size_eq] at this; simp at this; omega
      have HT := Lib.hid htot; have HC := Lib.hid hcnt; clear htot hcnt
      have hB3 : Below w.heap.size w (((w.alloc (.cells #[.string s] 9)).alloc (.cells #[.slice none 0 0] 36)).alloc (.cells #[.int .i64 0] 3)) := (((Below.refl _ w).alloc (Nat.le_refl _) _).alloc (by simp) _).alloc (by simp; omega) _
      have hst : TakeSt w.heap.size s 0 [] (((w.alloc (.cells #[.string s] 9)).alloc (.cells #[.slice none 0 0] 36)).alloc (.cells #[.int .i64 0] 3)) := by
        refine ⟨?_, ⟨.slice none 0 0, ?_, World.ownsRow_nil _ _ _ _⟩, ?_⟩
        · rw [Below.heap_alloc _ _ _ (by simp; omega), Below.heap_alloc _ _ _ (by simp)]; exact heap_new _ _ _ rfl
        · rw [Below.heap_alloc _ _ _ (by simp)]; exact heap_new _ _ _ (by simp)
        · exact heap_new _ _ _ (by simp)
      have HB3 := Lib.hid hB3; have HST := Lib.hid hst; clear hB3 hst
      go_enter Tryz.func27, Tryz.ntmps27
      go_wp2
      go_loopw [22, 8, 9] (fun i o b wr => ∃ (k : Nat) (oo bb : Bool) (f : Nat) (ls : List (List UInt8)), k ≤ s.size ∧ i = .int .i64 k ∧ o = .bool oo ∧ b = .bool bb ∧ f ≤ k ∧ (bb = true → oo = true) ∧ ls.length ≤ k ∧ TakeSt w.heap.size s f ls wr ∧ Below w.heap.size w wr ∧ Hid (splP sep oo bb (seg s f k) ls (s.data.toList.drop k) = tot)) (fun i _ _ _ => s.size - (intOf i).toNat)
      case atStart => exact ⟨0, false, false, 0, [], Nat.zero_le _, rfl, rfl, rfl, Nat.le_refl _, (fun h => absurd h (by decide)), by simp, HST.out, HB3.out, by show _ = _; rw [seg_self]; exact HT.out⟩
      case round =>
        clear HB3 HST
        obtain ⟨k, oo, bb, f, ls, hk, rfl, rfl, rfl, hfk, hbo, hls, hst, hbw, Htot⟩ := hrel
        obtain ⟨ct, _, lt⟩ := of_heap hst.text 0
        simp at ct
        have HST := Lib.hid hst; clear hst
        have Hbo := Lib.hid hbo; clear hbo
        by_cases hlt : k < s.size
        · have hd := drop_cons s k hlt
          have hsg := seg_snoc s f k hfk hlt
          cases x92 : ((s[k].toNat : Int) == 92) <;> cases x34 : ((s[k].toNat : Int) == 34) <;> cases xs : ((s[k].toNat : Int) == (sep.toNat : Int))
          all_goals
            have hstep := Htot.out
            rw [hd, spl_step sep oo bb _ ls s[k] _ _ _ _ x92 x34 xs, ← hsg] at hstep
          all_goals clear hd hsg
          all_goals try (exfalso; simp at x92 x34 xs q1 q2; omega; done)
          all_goals cases bb <;> cases oo
          all_goals try (exact absurd (Hbo.out rfl) (by decide))
          all_goals simp only [cond_true, cond_false, Bool.and_true, Bool.and_false, Bool.not_true, Bool.not_false] at hstep
          all_goals first
            | (with_reducible (have HN0 : splP sep _ _ (seg s f (k + 1)) ls (List.drop (k + 1) s.data.toList) = tot := hstep)
               have HN := Lib.hid HN0
               clear HN0 hstep
               go_wp2
               go_roundw
               case rel => exact ⟨k + 1, _, _, f, ls, by omega, by go_num, rfl, rfl, by omega, (fun h => by first | rfl | exact absurd h (by decide)), by omega, HST.out, hbw, HN⟩
               case measure => simp [intOf]; omega)
            | (have hp : trimL (seg s f k) = pieceOf s f k := rfl
               rw [hp, ← seg_self s (k + 1)] at hstep
               have HN := Lib.hid hstep
               clear hstep hp
               have hal := addP_le ls (pieceOf s f k)
               go_wp2_with (go_at_call 48; refine (take_any w.heap.size s f k ls _ HST.out hfk (by omega) hs (by omega)).mono ?_; rintro e w2 ⟨rfl, hst2, hb2⟩)
               have HST2 := Lib.hid hst2; clear hst2
               go_wp2
               go_roundw
               case rel => exact ⟨k + 1, _, _, k + 1, addP ls (pieceOf s f k), by omega, by go_num, rfl, rfl, by omega, (fun h => by first | rfl | exact absurd h (by decide)), by omega, HST2.out, hbw.trans hb2, HN⟩
               case measure => simp [intOf]; omega)
        · have hke : k = s.size := by omega
          subst hke
          have hend := Htot.out
          rw [drop_all s s.size (Nat.le_refl _)] at hend
          cases oo
          · have hp : trimL (seg s f s.size) = pieceOf s f s.size := rfl
            simp only [splP, cond_false, hp] at hend
            subst hend
            have hcn := HC.out _ rfl
            have Hcn := Lib.hid hcn; clear hcn
            clear HT Htot
            have hal := addP_le ls (pieceOf s f s.size)
            go_wp2_with fail
            refine (take_any w.heap.size s f s.size ls _ HST.out hfk (Nat.le_refl _) hs (by omega)).mono ?_
            rintro e w2 ⟨rfl, hst2, hb2⟩
            generalize addP ls (pieceOf s f s.size) = ps at *
            obtain ⟨h1, ⟨v, h2, hown⟩, h3⟩ := hst2
            obtain ⟨a, cap, rfl⟩ := hown.shape
            obtain ⟨c2, _, l2⟩ := of_heap h2 0
            simp at c2
            have hB := hbw.trans hb2
            have HO := Lib.hid hown
            clear hown h1 h2 h3 hb2
            cases hlen : decide (64 < ps.length)
            · have hse : splitE (some ps) = (ps, 0) := by unfold splitE; simp only [hlen, cond_false]
              have HSE := Lib.hid hse
              have t1 : decide ((64 : Int) < (ps.length : Int)) = false := by simp at hlen ⊢; omega
              clear hlen hse
              go_wp2
              go_ret2
              rw [HSE.out]
              exact ⟨a, cap, rfl, ⟨HO.out.1, by
                rcases HO.out.2 with h | ⟨g, cp, cur, hv, hg, r⟩
                · exact Or.inl h
                · exact Or.inr ⟨g, cp, cur, hv, by omega, r⟩⟩, hB⟩
            · have hse : splitE (some ps) = ([], 3) := by unfold splitE; simp only [hlen, cond_true]
              have HSE := Lib.hid hse
              have t1 : decide ((64 : Int) < (ps.length : Int)) = true := by simp at hlen ⊢; omega
              clear hlen hse
              go_wp2
              go_ret2
              rw [HSE.out]
              exact SplitPost.none hB
          · simp only [splP, cond_true] at hend
            subst hend
            clear HT Htot HC
            go_wp2
            go_ret2
            exact SplitPost.none hbw
    · have hsp : splitL sep s.data.toList = ([], 2) := by unfold splitL; rw [(beq_cast sep.toNat 34).trans q1, (beq_cast sep.toNat 92).trans q2]; rfl
      rw [hsp]; clear hsp
      go_enter Tryz.func27, Tryz.ntmps27
      go_wp2
      go_ret2
      exact SplitPost.none ((Below.refl _ w).alloc (Nat.le_refl _) _)
  · have hsp : splitL sep s.data.toList = ([], 2) := by unfold splitL; rw [(beq_cast sep.toNat 34).trans q1]; rfl
    rw [hsp]; clear hsp
    go_enter Tryz.func27, Tryz.ntmps27
    go_wp2
    go_ret2
    exact SplitPost.none ((Below.refl _ w).alloc (Nat.le_refl _) _)
end Go.Proofs.YtedmiganmifepaaGreatDoor
/- The walk of the document's Trim. -/
namespace Go.Proofs.YtedmiganmifepaaGreatDoor
open Go.RowKit

/-- blank? as the document asks it. -/
def blankI (n : Int) : Bool := (n == 32) || (n == 9)
theorem blank_eq (c : UInt8) : blankI c.toNat = blanks.contains c := by
  have h : ∀ x : UInt8, ((c.toNat : Int) == (x.toNat : Int)) = (c == x) := by
    intro x; rw [Bool.eq_iff_iff, beq_iff_eq, beq_iff_eq, ← UInt8.toNat_inj]; omega
  have h1 := h 32; have h2 := h 9
  unfold blankI blanks
  rw [show ((c.toNat : Int) == 32) = (c == 32) from h1, show ((c.toNat : Int) == 9) = (c == 9) from h2]
  rw [Bool.eq_iff_iff]; simp
theorem trim_cut (s : ByteArray) (f t : Nat) (hft : f ≤ t) (ht : t ≤ s.size) (h1 : ∀ j (h : j < s.size), j < f → blanks.contains s[j] = true) (h2 : ∀ h : f < s.size, f < t → blanks.contains s[f] = false)
    (h3 : ∀ j (h : j < s.size), t ≤ j → blanks.contains s[j] = true) (h4 : f < t → ∀ h : t - 1 < s.size, blanks.contains s[t - 1] = false) :
    s.extract f t = ⟨(trimL s.data.toList).toArray⟩ := by
  have at' : ∀ j b, s.data.toList[j]? = some b → ∃ h : j < s.size, s[j] = b := by
    intro j b hb
    obtain ⟨h, e⟩ := List.getElem?_eq_some_iff.1 hb
    exact ⟨by rw [Lib.size_eq]; exact h, by rw [at_list]; exact e⟩
  apply str_eq
  rw [Lib.extract_data]
  show _ = trimL s.data.toList
  unfold trimL Lib.trimS
  by_cases hlt : f < t
  · have e1 : Lib.trimRightS s.data.toList blanks = s.data.toList.take t := by
      refine Lib.trimRightS_take _ _ t (by rw [← Lib.size_eq]; exact ht) (fun j b hj hb => ?_) (fun b _ hb => ?_)
      · obtain ⟨h, rfl⟩ := at' j b hb; exact h3 j h hj
      · obtain ⟨h, rfl⟩ := at' _ b hb; exact h4 hlt h
    rw [e1, Lib.trimLeftS_drop _ _ f (by rw [List.length_take, ← Lib.size_eq]; omega) (fun j b hj hb => ?_) (fun b hb => ?_), List.drop_take]
    · rw [List.getElem?_take_of_lt (by omega)] at hb
      obtain ⟨h, rfl⟩ := at' j b hb; exact h1 j h hj
    · rw [List.getElem?_take_of_lt (by omega)] at hb
      obtain ⟨h, rfl⟩ := at' f b hb; exact h2 h hlt
  · have e1 : Lib.trimRightS s.data.toList blanks = s.data.toList.take 0 := by
      refine Lib.trimRightS_take _ _ 0 (Nat.zero_le _) (fun j b _ hb => ?_) (fun b h0 _ => absurd h0 (by omega))
      obtain ⟨h, rfl⟩ := at' j b hb
      by_cases hj : j < f
      · exact h1 j h hj
      · exact h3 j h (by omega)
    rw [e1, show t - f = 0 from by omega]; simp [Lib.trimLeftS]

set_option maxHeartbeats 4000000 in
theorem rtrim_any (s : ByteArray) (w : World) (hs : s.size ≤ 1000000) :
    Calls Tryz.prog 56 #[.string s] w fun e w' => e = .returned (.string ⟨(trimL s.data.toList).toArray⟩) ∧ w = w' := by
  have hcut := trim_cut s
  generalize (⟨(trimL s.data.toList).toArray⟩ : ByteArray) = out at *
  have HC := Lib.hid hcut; clear hcut
  go_enter Tryz.func56, Tryz.ntmps56
  go_wp2
  go_loop [3] (fun a => ∃ f : Nat, f ≤ s.size ∧ a = .int .i64 f ∧ Hid (∀ j (h : j < s.size), j < f → blanks.contains s[j] = true)) (fun a => s.size - (intOf a).toNat)
  case atStart => exact ⟨0, Nat.zero_le _, rfl, fun j h h0 => absurd h0 (by omega)⟩
  case round =>
    obtain ⟨f, hf, rfl, H1⟩ := hrel
    by_cases hlt : f < s.size
    · have hbe := blank_eq s[f]
      cases hb : blankI s[f].toNat
      · -- the first that is no blank
        have h2 : ∀ t, ∀ h : f < s.size, f < t → blanks.contains s[f] = false := fun t h _ => by rw [← hbe, hb]
        have H2 := Lib.hid h2; clear h2 hbe
        have c1 : ((s[f].toNat : Int) == 32) = false := by unfold blankI at hb; simp at hb ⊢; exact hb.1
        have c2 : ((s[f].toNat : Int) == 9) = false := by unfold blankI at hb; simp at hb ⊢; exact hb.2
        clear hb
        go_wp2
        clear c1 c2
        go_loop [4] (fun a => ∃ t : Nat, f ≤ t ∧ t ≤ s.size ∧ a = .int .i64 t ∧ Hid (∀ j (h : j < s.size), t ≤ j → blanks.contains s[j] = true)) (fun a => (intOf a).toNat)
        case atStart => exact ⟨s.size, hf, Nat.le_refl _, rfl, fun j h h0 => absurd h0 (by omega)⟩
        case round =>
          obtain ⟨t, hft, hts, rfl, H3⟩ := hrel
          by_cases hlt2 : f < t
          · have htl : t - 1 < s.size := by omega
            have hbe := blank_eq s[t - 1]
            have d1 : (1 : Int) ≤ t := by omega
            cases hb : blankI s[t - 1].toNat
            · have hfin := HC.out f t hft hts H1.out (fun h h' => H2.out t h h') H3.out (fun _ _ => by rw [← hbe, hb])
              have HF := Lib.hid hfin; clear hfin hbe
              have c1 : ((s[t - 1].toNat : Int) == 32) = false := by unfold blankI at hb; simp at hb ⊢; exact hb.1
              have c2 : ((s[t - 1].toNat : Int) == 9) = false := by unfold blankI at hb; simp at hb ⊢; exact hb.2
              clear hb
              go_wp2
              go_ret
              exact ⟨by rw [← HF.out]; rfl, rfl⟩
            · have hn : ∀ j (h : j < s.size), t - 1 ≤ j → blanks.contains s[j] = true := by
                intro j h hj
                by_cases e : j = t - 1
                · subst e; rw [← hbe, hb]
                · exact H3.out j h (by omega)
              have HN := Lib.hid hn; clear hn hbe
              cases c1 : ((s[t - 1].toNat : Int) == 32) <;> cases c2 : ((s[t - 1].toNat : Int) == 9)
              · exfalso; unfold blankI at hb; rw [c1, c2] at hb; simp at hb
              all_goals
                clear hb
                go_wp2
                go_round
                case rel => exact ⟨t - 1, by omega, by omega, by go_num, HN⟩
                case measure => simp [intOf]; omega
          · have hfin := HC.out f t hft hts H1.out (fun h h' => H2.out t h h') H3.out (fun h => absurd h hlt2)
            have HF := Lib.hid hfin; clear hfin
            go_wp2
            go_ret
            exact ⟨by rw [← HF.out]; rfl, rfl⟩
      · have hn : ∀ j (h : j < s.size), j < f + 1 → blanks.contains s[j] = true := by
          intro j h hj
          by_cases e : j = f
          · subst e; rw [← hbe, hb]
          · exact H1.out j h (by omega)
        have HN := Lib.hid hn; clear hn hbe
        cases c1 : ((s[f].toNat : Int) == 32) <;> cases c2 : ((s[f].toNat : Int) == 9)
        · exfalso; unfold blankI at hb; rw [c1, c2] at hb; simp at hb
        all_goals
          clear hb
          go_wp2
          go_round
          case rel => exact ⟨f + 1, by omega, by go_num, HN⟩
          case measure => simp [intOf]; omega
    · have h2 : ∀ t, ∀ h : f < s.size, f < t → blanks.contains s[f] = false := fun t h _ => absurd h hlt
      have H2 := Lib.hid h2; clear h2
      · go_wp2
        go_loop [4] (fun a => ∃ t : Nat, f ≤ t ∧ t ≤ s.size ∧ a = .int .i64 t ∧ Hid (∀ j (h : j < s.size), t ≤ j → blanks.contains s[j] = true)) (fun a => (intOf a).toNat)
        case atStart => exact ⟨s.size, hf, Nat.le_refl _, rfl, fun j h h0 => absurd h0 (by omega)⟩
        case round =>
          obtain ⟨t, hft, hts, rfl, H3⟩ := hrel
          by_cases hlt2 : f < t
          · exact absurd hlt2 (by omega)
          · have hfin := HC.out f t hft hts H1.out (fun h h' => H2.out t h h') H3.out (fun h => absurd h hlt2)
            have HF := Lib.hid hfin; clear hfin
            go_wp2
            go_ret
            exact ⟨by rw [← HF.out]; rfl, rfl⟩
end Go.Proofs.YtedmiganmifepaaGreatDoor
/- The walks of the document's Quoted, Split and Texts. -/
namespace Go.Proofs.YtedmiganmifepaaGreatDoor
open Go.RowKit

theorem uBool : (Tryz.prog.info? 4).map (fun i => (i.zero, i.size, i.bytes)) = some (some (.bool false), 1, 1) := by kernel_rfl
def mask (F : List Bool) (i j : Nat) : Bool := decide (j < i) && F.getD j false
structure MaskAt (b : Nat) (F : List Bool) (i n : Nat) (w : World) : Prop where
  cells : ∀ j, j < n → w.cell? ⟨b, j, none⟩ = some (.bool (mask F i j))
  free : ∀ j, j < n → w.frozen? ⟨b, j, none⟩ = false
  lt : b < w.heap.size
theorem MaskAt.fresh (F : List Bool) (n : Nat) (w : World) : MaskAt w.heap.size F 0 n (w.alloc (.cells (madeCells #[.bool false] n) 4)) := by
  refine ⟨fun j hj => ?_, fun j hj => ?_, by simp⟩
  · rw [World.cell?_alloc_mark]
    have : mask F 0 j = false := by unfold mask; simp
    rw [this]; unfold madeCells; simp [hj, Nat.mod_one]
  · rw [World.frozen?_alloc_mark]; simp
theorem MaskAt.skip {b k n : Nat} {F : List Bool} {w : World} (h : MaskAt b F k n w) (e : F.getD k false = false) : MaskAt b F (k + 1) n w := by
  refine ⟨fun j hj => ?_, h.free, h.lt⟩
  rw [h.cells j hj]; congr 2
  unfold mask
  by_cases h2 : j = k
  · subst h2; rw [e]; simp
  · have : decide (j < k + 1) = decide (j < k) := by rw [decide_eq_decide]; omega
    rw [this]
theorem MaskAt.put {b k n : Nat} {F : List Bool} {w : World} (h : MaskAt b F k n w) (hk : k < n) (e : F.getD k false = true) : MaskAt b F (k + 1) n (w.setCell ⟨b, k, none⟩ (.bool true)) := by
  refine ⟨fun j hj => ?_, fun j hj => by rw [World.frozen?_setCell]; exact h.free j hj, by have := h.lt; simpa using this⟩
  have hc := h.cells j hj
  by_cases h2 : j = k
  · subst h2
    rw [World.cell?_setCell_same _ _ _ hc]
    unfold mask; rw [e]; simp
  · rw [World.cell?_setCell_other _ _ _ _ (by intro e; cases e; exact h2 rfl), hc]
    congr 2
    unfold mask
    have : decide (j < k + 1) = decide (j < k) := by rw [decide_eq_decide]; omega
    rw [this]
theorem MaskAt.any {b k n : Nat} {F : List Bool} {w : World} (h : MaskAt b F k n w) (hk : k < n) : ∃ v, w.cell? ⟨b, k, none⟩ = some v := ⟨_, h.cells k hk⟩
theorem getD_of_drop {F G : List Bool} {k : Nat} {x : Bool} (h : F.drop k = x :: G) : F.getD k false = x ∧ F.drop (k + 1) = G := by
  have h1 : F[k]? = some x := by
    have := List.getElem?_drop (xs := F) (i := k) (j := 0)
    rw [h] at this; simpa using this.symm
  refine ⟨by rw [List.getD_eq_getElem?_getD, h1]; rfl, ?_⟩
  have : F.drop (k + 1) = (F.drop k).drop 1 := by rw [List.drop_drop]
  rw [this, h]; rfl

theorem fl_out (c : UInt8) (r : List UInt8) (h : ((c.toNat : Int) == 34) = false) : fl false false (c :: r) = false :: fl false false r ∧ en false false (c :: r) = en false false r := by
  have := (beq_cast c.toNat 34).trans h; simp [fl, en, this]
theorem fl_open (c : UInt8) (r : List UInt8) (h : ((c.toNat : Int) == 34) = true) : fl false false (c :: r) = true :: fl true false r ∧ en false false (c :: r) = en true false r := by
  have := (beq_cast c.toNat 34).trans h; simp [fl, en, this]
theorem fl_close (c : UInt8) (r : List UInt8) (h : ((c.toNat : Int) == 34) = true) : fl true false (c :: r) = true :: fl false false r ∧ en true false (c :: r) = en false false r := by
  have h1 := (beq_cast c.toNat 34).trans h
  have h2 : (c.toNat == 92) = false := by simp at h1; simp [h1]
  simp [fl, en, h1, h2]
theorem fl_in (c : UInt8) (r : List UInt8) (h : ((c.toNat : Int) == 34) = false) (h9 : ((c.toNat : Int) == 92) = false) : fl true false (c :: r) = true :: fl true false r ∧ en true false (c :: r) = en true false r := by
  have h1 := (beq_cast c.toNat 34).trans h
  have h2 := (beq_cast c.toNat 92).trans h9
  simp [fl, en, h1, h2]
theorem fl_esc (c d : UInt8) (r : List UInt8) (h9 : ((c.toNat : Int) == 92) = true) : fl true false (c :: d :: r) = true :: true :: fl true false r ∧ en true false (c :: d :: r) = en true false r := by
  have h2 := (beq_cast c.toNat 92).trans h9
  simp [fl, en, h2]
theorem fl_last (c : UInt8) (h9 : ((c.toNat : Int) == 92) = true) : fl true false [c] = true :: fl true false [] ∧ en true false [c] = en true false [] := by
  have h2 := (beq_cast c.toNat 92).trans h9
  simp [fl, en, h2]

def QuotedPost (w : World) (s : ByteArray) (e : Ending) (w' : World) : Prop :=
  e = .returned (.tuple #[.slice (some ⟨w.heap.size, 0, none⟩) s.size s.size, .bool (!en false false s.data.toList)]) ∧ MaskAt w.heap.size (fl false false s.data.toList) s.size s.size w' ∧ Below w.heap.size w w'

set_option maxRecDepth 100000 in
set_option maxHeartbeats 4000000 in
theorem quoted_any (s : ByteArray) (w : World) (hs : s.size ≤ 1000000) :
    Calls Tryz.prog 55 #[.string s] w (QuotedPost w s) := by
  have hmk := run_make_row' (P := Tryz.prog) 90 4 (.bool false) 1 Tryz.underlying90 uBool rfl .i64 .i64 s.size (by omega) (by omega) w
  obtain ⟨F, hF⟩ : ∃ F, fl false false s.data.toList = F := ⟨_, rfl⟩
  obtain ⟨E, hE⟩ : ∃ E, en false false s.data.toList = E := ⟨_, rfl⟩
  have hm := MaskAt.fresh F s.size w
  have hb : Below w.heap.size w (w.alloc (.cells (madeCells #[.bool false] s.size) 4)) := (Below.refl _ w).alloc (Nat.le_refl _) _
  have HF := Lib.hid hF; have HE := Lib.hid hE
  clear hF hE
  generalize Obj.cells (madeCells #[Value.bool false] s.size) 4 = row at *
  have HM := Lib.hid hm; have HBL := Lib.hid hb; clear hm hb
  go_enter Tryz.func55, Tryz.ntmps55
  go_wp2
  clear hmk
  go_loopw [5] (fun i wr => ∃ k : Nat, k ≤ s.size ∧ i = .int .i64 k ∧ MaskAt w.heap.size F k s.size wr ∧ Below w.heap.size w wr ∧ Hid (F.drop k = fl false false (s.data.toList.drop k) ∧ E = en false false (s.data.toList.drop k))) (fun i _ => s.size - (intOf i).toNat)
  case atStart => exact ⟨0, Nat.zero_le _, rfl, HM.out, HBL.out, by show _ ∧ _; rw [List.drop_zero, List.drop_zero]; exact ⟨HF.out.symm, HE.out.symm⟩⟩
  case round =>
    clear HM HBL
    obtain ⟨k, hk, rfl, hM, hbw, HS⟩ := hrel
    have HM := Lib.hid hM; clear hM
    by_cases hlt : k < s.size
    · have hd := drop_cons s k hlt
      cases c34 : ((s[k].toNat : Int) == 34)
      · have h1 := HS.out
        rw [hd, (fl_out s[k] _ c34).1, (fl_out s[k] _ c34).2] at h1
        obtain ⟨g1, g2⟩ := getD_of_drop h1.1
        have HS2 := Lib.hid (And.intro g2 h1.2)
        have HM2 := Lib.hid (HM.out.skip g1)
        have n34 : ((s[k].toNat : Int) != 34) = true := by simp [bne, c34]
        clear hd h1 g1 g2
        go_wp2
        go_roundw
        case rel => exact ⟨k + 1, by omega, by go_num, HM2.out, hbw, HS2⟩
        case measure => simp [intOf]; omega
      · have h1 := HS.out
        rw [hd, (fl_open s[k] _ c34).1, (fl_open s[k] _ c34).2] at h1
        obtain ⟨g1, g2⟩ := getD_of_drop h1.1
        have HS2 := Lib.hid (And.intro g2 h1.2)
        have HM2 := Lib.hid (HM.out.put hlt g1)
        have n34 : ((s[k].toNat : Int) != 34) = false := by simp [bne, c34]
        have hc := HM.out.cells k hlt
        have hz := HM.out.free k hlt
        clear hd h1 g1 g2
        go_wp2
        obtain ⟨wo, hwo⟩ : ∃ wo : World, wo = wr.setCell ⟨w.heap.size, k, none⟩ (.bool true) := ⟨_, rfl⟩
        rw [← hwo] at HM2 ⊢
        have hbo : Below w.heap.size w wo := by rw [hwo]; exact hbw.setCell (Nat.le_refl _) _
        clear hwo hc hz HM HS hbw n34
        go_loopw [5] (fun i wr => ∃ k2 : Nat, k + 1 ≤ k2 ∧ k2 ≤ s.size ∧ i = .int .i64 k2 ∧ MaskAt w.heap.size F k2 s.size wr ∧ Below w.heap.size w wr ∧ Hid (F.drop k2 = fl true false (s.data.toList.drop k2) ∧ E = en true false (s.data.toList.drop k2))) (fun i _ => s.size - (intOf i).toNat)
        case atStart => exact ⟨k + 1, by omega, by omega, by go_num, HM2.out, hbo, HS2⟩
        case round =>
          clear HM2 HS2 hbo
          obtain ⟨m, hkm, hm, rfl, hM, hbw, HS⟩ := hrel
          have HM := Lib.hid hM; clear hM
          by_cases hlm : m < s.size
          · have hd := drop_cons s m hlm
            have hc := HM.out.cells m hlm
            have hz := HM.out.free m hlm
            cases d34 : ((s[m].toNat : Int) == 34)
            · have n34 : ((s[m].toNat : Int) != 34) = true := by simp [bne, d34]
              cases d92 : ((s[m].toNat : Int) == 92)
              · have h1 := HS.out
                rw [hd, (fl_in s[m] _ d34 d92).1, (fl_in s[m] _ d34 d92).2] at h1
                obtain ⟨g1, g2⟩ := getD_of_drop h1.1
                have HS2 := Lib.hid (And.intro g2 h1.2)
                have HM2 := Lib.hid (HM.out.put hlm g1)
                clear hd h1 g1 g2
                go_wp2
                go_roundw
                case rel => exact ⟨m + 1, by omega, by omega, by go_num, HM2.out, hbw.setCell (Nat.le_refl _) _, HS2⟩
                case measure => simp [intOf]; omega
              · by_cases hl2 : m + 1 < s.size
                · have hd2 := drop_cons s (m + 1) hl2
                  have h1 := HS.out
                  rw [hd, hd2, (fl_esc s[m] s[m + 1] _ d92).1, (fl_esc s[m] s[m + 1] _ d92).2] at h1
                  obtain ⟨g1, g2⟩ := getD_of_drop h1.1
                  obtain ⟨g3, g4⟩ := getD_of_drop g2
                  have HS2 := Lib.hid (And.intro g4 h1.2)
                  have hM2 := HM.out.put hlm g1
                  have hc2 := hM2.cells (m + 1) hl2
                  have hz2 := hM2.free (m + 1) hl2
                  have HM3 := Lib.hid (hM2.put hl2 g3)
                  have t1 : decide ((m : Int) + 1 < (s.size : Int)) = true := by simp; omega
                  clear hd hd2 h1 g1 g2 g3 g4 hM2
                  go_wp2
                  go_roundw
                  case rel => exact ⟨m + 1 + 1, by omega, by omega, by go_num, HM3.out, (hbw.setCell (Nat.le_refl _) _).setCell (Nat.le_refl _) _, HS2⟩
                  case measure => simp [intOf]; omega
                · have h1 := HS.out
                  rw [hd, drop_all s (m + 1) (by omega), (fl_last s[m] d92).1, (fl_last s[m] d92).2] at h1
                  obtain ⟨g1, g2⟩ := getD_of_drop h1.1
                  have h2 := And.intro g2 h1.2
                  rw [← drop_all s (m + 1) (by omega)] at h2
                  have HS2 := Lib.hid h2
                  have HM2 := Lib.hid (HM.out.put hlm g1)
                  have t1 : decide ((m : Int) + 1 < (s.size : Int)) = false := by simp; omega
                  clear hd h1 g1 g2 h2
                  go_wp2
                  go_roundw
                  case rel => exact ⟨m + 1, by omega, by omega, by go_num, HM2.out, hbw.setCell (Nat.le_refl _) _, HS2⟩
                  case measure => simp [intOf]; omega
            · have n34 : ((s[m].toNat : Int) != 34) = false := by simp [bne, d34]
              have h1 := HS.out
              rw [hd, (fl_close s[m] _ d34).1, (fl_close s[m] _ d34).2] at h1
              obtain ⟨g1, g2⟩ := getD_of_drop h1.1
              have HS2 := Lib.hid (And.intro g2 h1.2)
              have HM2 := Lib.hid (HM.out.put hlm g1)
              have t1 : ((m : Int) == (s.size : Int)) = false := by rw [beq_eq_false_iff_ne]; omega
              clear hd h1 g1 g2
              go_wp2
              go_roundw
              case rel => exact ⟨m + 1, by omega, by go_num, HM2.out, hbw.setCell (Nat.le_refl _) _, HS2⟩
              case measure => simp [intOf]; omega
          · have hme : m = s.size := by omega
            subst hme
            have h1 := HS.out
            rw [drop_all s s.size (Nat.le_refl _)] at h1
            have hE : E = true := h1.2
            have HE2 := Lib.hid hE; clear hE h1
            have t1 : ((s.size : Int) == (s.size : Int)) = true := by simp
            go_wp2
            go_ret2
            unfold QuotedPost
            rw [HF.out, HE.out, HE2.out]
            exact ⟨rfl, HM.out, hbw⟩
    · have hme : k = s.size := by omega
      subst hme
      have h1 := HS.out
      rw [drop_all s s.size (Nat.le_refl _)] at h1
      have hE : E = false := h1.2
      have HE2 := Lib.hid hE; clear hE h1
      go_wp2
      go_ret2
      unfold QuotedPost
      rw [HF.out, HE.out, HE2.out]
      exact ⟨rfl, HM.out, hbw⟩

theorem MaskAt.keep {b i n : Nat} {F : List Bool} {w w' : World} (h : MaskAt b F i n w) (hk : w'.heap[b]? = w.heap[b]?) : MaskAt b F i n w' := by
  have hb : ∀ j, j < n → w'.heap[b]? = w.heap[b]? := fun _ _ => hk
  refine ⟨fun j hj => ?_, fun j hj => ?_, ?_⟩
  · rw [← h.cells j hj]; exact World.cell?_of_block (w := w) (a := ⟨b, j, none⟩) (hb j hj)
  · rw [← h.free j hj]; exact World.frozen?_of_block (w := w) (a := ⟨b, j, none⟩) (hb j hj)
  · rcases Nat.lt_or_ge b w'.heap.size with h' | h'
    · exact h'
    · rw [Array.getElem?_eq_none h', Array.getElem?_eq_getElem h.lt] at hk; cases hk
theorem spR_count (sep : UInt8) : ∀ (l : List UInt8) (F : List Bool) (cur : List UInt8) (ls : List (List UInt8)), (spR sep cur ls l F).length ≤ ls.length + l.length + 1
  | [], F, cur, ls => by have := addP_le ls (trimL cur); simp [spR]; omega
  | c :: r, [], cur, ls => by have := addP_le ls (trimL cur); simp [spR]; omega
  | c :: r, f :: fs, cur, ls => by
    have ih := spR_count sep r fs
    have ha := addP_le ls (trimL cur)
    have h1 := ih (cur ++ [c]) ls
    have h2 := ih [] (addP ls (trimL cur))
    rw [spR, List.length_cons]
    cases (c.toNat != sep.toNat) || f
    · simp only [cond_false]; omega
    · simp only [cond_true]; omega

/-- Where the document's cut stands. -/
def SpSt (s : ByteArray) (F : List Bool) (sep : UInt8) (tot : List (List UInt8)) (k f : Nat) (ls : List (List UInt8)) : Prop :=
  (k ≤ s.size → spR sep (seg s f k) ls (s.data.toList.drop k) (F.drop k) = tot) ∧ (s.size < k → ls = tot)
theorem SpSt.skip {s : ByteArray} {F : List Bool} {sep : UInt8} {tot : List (List UInt8)} {k f : Nat} {ls : List (List UInt8)} (h : SpSt s F sep tot k f ls) (hk : k < s.size) (hf : f ≤ k) (hF : F.length = s.size)
    (e : ((s[k].toNat : Int) == (sep.toNat : Int)) = false ∨ F.getD k false = true) : SpSt s F sep tot (k + 1) f ls := by
  refine ⟨fun _ => ?_, fun h => by omega⟩
  have h1 := h.1 (by omega)
  have hkF : k < F.length := by omega
  rw [drop_cons s k hk, List.drop_eq_getElem_cons hkF, spR, ← seg_snoc s f k hf hk] at h1
  have hc : ((s[k].toNat != sep.toNat) || F[k]) = true := by
    rcases e with e | e
    · have := (beq_cast s[k].toNat sep.toNat).trans e; simp [bne, this]
    · rw [List.getD_eq_getElem?_getD, List.getElem?_eq_getElem hkF] at e; simp at e; simp [e]
  rw [hc] at h1
  exact h1
theorem SpSt.cut {s : ByteArray} {F : List Bool} {sep : UInt8} {tot : List (List UInt8)} {k f : Nat} {ls : List (List UInt8)} (h : SpSt s F sep tot k f ls) (hk : k < s.size) (hF : F.length = s.size)
    (e : ((s[k].toNat : Int) == (sep.toNat : Int)) = true) (e2 : F.getD k false = false) : SpSt s F sep tot (k + 1) (k + 1) (addP ls (pieceOf s f k)) := by
  refine ⟨fun _ => ?_, fun h => by omega⟩
  have h1 := h.1 (by omega)
  have hkF : k < F.length := by omega
  rw [drop_cons s k hk, List.drop_eq_getElem_cons hkF, spR] at h1
  have hc : ((s[k].toNat != sep.toNat) || F[k]) = false := by
    have := (beq_cast s[k].toNat sep.toNat).trans e
    rw [List.getD_eq_getElem?_getD, List.getElem?_eq_getElem hkF] at e2; simp at e2; simp [e2, bne, this]
  rw [hc] at h1
  rw [seg_self]; exact h1
theorem SpSt.last {s : ByteArray} {F : List Bool} {sep : UInt8} {tot : List (List UInt8)} {f : Nat} {ls : List (List UInt8)} (h : SpSt s F sep tot s.size f ls) : SpSt s F sep tot (s.size + 1) (s.size + 1) (addP ls (pieceOf s f s.size)) := by
  refine ⟨fun h => by omega, fun _ => ?_⟩
  have h1 := h.1 (Nat.le_refl _)
  rw [drop_all s s.size (Nat.le_refl _)] at h1
  rw [← h1, spR]
  · rfl
  · intro _ _ _ _ e _; cases e

set_option maxRecDepth 100000 in
set_option maxHeartbeats 8000000 in
theorem rsplit_any (s : ByteArray) (sep : UInt8) (w : World) (hs : s.size ≤ 1000000) :
    Calls Tryz.prog 33 #[.string s, .int .u8 sep.toNat] w (SplitPost w (splitL sep s.data.toList)) := by
  cases q1 : ((sep.toNat : Int) == 34)
  · cases q2 : ((sep.toNat : Int) == 92)
    · have hsp : splitL sep s.data.toList = splitE (bif en false false s.data.toList then none else some (spR sep [] [] s.data.toList (fl false false s.data.toList))) := by
        unfold splitL; rw [(beq_cast sep.toNat 34).trans q1, (beq_cast sep.toNat 92).trans q2, spl_eq sep ((beq_cast sep.toNat 34).trans q1) _ _ _ _ _ (fun h => by cases h)]; rfl
      rw [hsp]; clear hsp
      have hq := quoted_any s w hs
      have HQ := Lib.hid hq; clear hq
      have hfl := fl_length s.data.toList false false
      rw [← Lib.size_eq] at hfl
      have hcn := spR_count sep s.data.toList (fl false false s.data.toList) [] []
      rw [← Lib.size_eq] at hcn
      cases hE : en false false s.data.toList
      · rw [cond_false]
        generalize hFF : fl false false s.data.toList = F at *
        obtain ⟨tot, htot⟩ : ∃ t, spR sep [] [] s.data.toList F = t := ⟨_, rfl⟩
        rw [htot] at hcn ⊢
        have HT := Lib.hid htot; have HFF := Lib.hid hFF; have HE := Lib.hid hE; have HL := Lib.hid hfl
        clear htot hFF hE hfl
        have hcn2 : tot.length ≤ 1000001 := by simp at hcn; omega
        clear hcn
        obtain ⟨i0, hi, hz0, hz1, hz2⟩ := info_parts uStr
        go_enter Tryz.func33, Tryz.ntmps33
        go_wp2_with fail
        refine HQ.out.mono ?_
        clear HQ
        rintro e w1 ⟨he, hM, hb1⟩
        rw [HE.out] at he
        rw [HFF.out] at hM
        subst he
        have HM := Lib.hid hM; clear hM
        go_wp2
        have HB1 := Lib.hid hb1; clear hb1
        go_loopw [10, 9, 8] (fun i from_ out wr => ∃ (k f : Nat) (ls : List (List UInt8)), k ≤ s.size + 1 ∧ i = .int .i64 k ∧ from_ = .int .i64 f ∧ f ≤ k ∧ ls.length ≤ k ∧ Hid (OwnS (w.heap.size + 1) out ls wr) ∧ MaskAt w.heap.size F s.size s.size wr ∧ Below w.heap.size w wr ∧ Hid (SpSt s F sep tot k f ls)) (fun i _ _ _ => s.size + 1 - (intOf i).toNat)
        case atStart =>
          refine ⟨0, 0, [], Nat.zero_le _, rfl, rfl, Nat.le_refl _, by simp, World.ownsRow_nil _ _ _ _, HM.out, HB1.out, ?_⟩
          · refine ⟨fun _ => ?_, fun h => by omega⟩
            rw [seg_self, List.drop_zero, List.drop_zero]; exact HT.out
        case round =>
          clear HM HB1
          obtain ⟨k, f, ls, hk, rfl, rfl, hfk, hls, HO, hM, hbw, HS⟩ := hrel
          have HM := Lib.hid hM; clear hM
          by_cases hk1 : k < s.size + 1
          · by_cases hlt : k < s.size
            · have hc := HM.out.cells k hlt
              have hz := HM.out.free k hlt
              have hmk : mask F s.size k = F.getD k false := by unfold mask; rw [decide_eq_true hlt]; rfl
              rw [hmk] at hc; clear hmk
              cases xs : ((s[k].toNat : Int) == (sep.toNat : Int))
              · have HN := Lib.hid (HS.out.skip hlt hfk HL.out (Or.inl xs))
                have ns : ((s[k].toNat : Int) != (sep.toNat : Int)) = true := by simp [bne, xs]
                clear HS
                go_wp2
                go_roundw
                case rel => exact ⟨k + 1, f, ls, by omega, by go_num, rfl, by omega, by omega, HO, HM.out, hbw, HN⟩
                case measure => simp [intOf]; omega
              · have ns : ((s[k].toNat : Int) != (sep.toNat : Int)) = false := by simp [bne, xs]
                cases hF : F.getD k false
                · have HN := Lib.hid (HS.out.cut hlt HL.out xs hF)
                  rw [hF] at hc
                  clear HS hF
                  have hexl : (s.extract f k).data.toList = (s.data.toList.drop f).take (k - f) := Lib.extract_data s f k
                  have hexs : (s.extract f k).size ≤ 1000000 := by rw [ByteArray.size_extract]; omega
                  have k1 := fun w => rtrim_any (s.extract f k) w hexs
                  rw [hexl] at k1
                  have hp : trimL ((s.data.toList.drop f).take (k - f)) = pieceOf s f k := rfl
                  rw [hp] at k1
                  have hpl : (pieceOf s f k).length ≤ 1000000 := by
                    have h1 := trimL_le ((s.data.toList.drop f).take (k - f))
                    rw [hp] at h1
                    have h2 : ((s.data.toList.drop f).take (k - f)).length ≤ s.data.toList.length := by rw [List.length_take, List.length_drop]; omega
                    rw [← Lib.size_eq] at h2; omega
                  generalize pieceOf s f k = p at *
                  have hal := addP_le ls p
                  have K1 := Lib.hid k1; clear k1 hexl hp
                  cases he : p.isEmpty
                  · have hadd : addP ls p = ls ++ [p] := by unfold addP; rw [he]; rfl
                    rw [hadd] at HN hal
                    clear hadd
                    go_wp2_with (first | (go_at_call 56; refine (K1.out _).mono ?_; rintro e w2 ⟨rfl, hb2⟩; subst hb2) | (at_builtin; refine wpList_append_own _ rfl _ _ 36 rfl (w.heap.size + 1) 9 i0 (.string ByteArray.empty) 1 16 Tryz.underlying36 hi hz0 hz1 hz2 rfl (by decide) _ _ _ rfl (HO.out.alloc _) ⟨wr.heap.size, 0, none⟩ 1 1 [.string ⟨p.toArray⟩] rfl rfl ?c1 ?c2 ?c3 ?c4 ?c5 ?_))
                    case c1 =>
                      intro j u hj
                      match j, hj with
                      | 0, hj => simp at hj; subst hj; simp [Addr.add]
                    case c2 => intro u hu; simp at hu; subst hu; rfl
                    case c3 => unfold maxLen; omega
                    case c4 => omega
                    case c5 => have := HM.out.lt; simp; omega
                    intro v' w2 hown' hgrow _
                    have hlt := HM.out.lt
                    have HM2 := Lib.hid (HM.out.keep (w' := w2) (by rw [hgrow.block _ (by simp; omega) (fun e => by have := (HO.out.lt _ e.symm).1; omega), Below.heap_alloc _ _ _ (by omega)]))
                    have hb2 : Below w.heap.size w w2 := (hbw.alloc (by omega) _).grown hgrow (by simp; omega) (fun k hk => by have := (HO.out.lt k hk).1; omega)
                    have HO2 : Hid (OwnS (w.heap.size + 1) v' (ls ++ [p]) w2) := by
                      refine Lib.hid ?_
                      show World.ownsRow _ _ _ _ _ _ _
                      rw [List.length_append, List.length_singleton, List.map_append]; exact hown'
                    clear hown' hgrow HO HM hbw
                    go_wp2
                    go_roundw
                    case rel => exact ⟨k + 1, k + 1, ls ++ [p], by omega, by go_num, by go_num, by omega, by omega, HO2, HM2.out, hb2, HN⟩
                    case measure => simp [intOf]; omega
                  · have hadd : addP ls p = ls := by unfold addP; rw [he]; rfl
                    rw [hadd] at HN hal
                    clear hadd
                    go_wp2_with (go_at_call 56; refine (K1.out _).mono ?_; rintro e w2 ⟨rfl, hb2⟩; subst hb2)
                    go_roundw
                    case rel => exact ⟨k + 1, k + 1, ls, by omega, by go_num, by go_num, by omega, by omega, HO, HM.out, hbw, HN⟩
                    case measure => simp [intOf]; omega
                · have HN := Lib.hid (HS.out.skip hlt hfk HL.out (Or.inr hF))
                  rw [hF] at hc
                  clear HS hF
                  go_wp2
                  go_roundw
                  case rel => exact ⟨k + 1, f, ls, by omega, by go_num, rfl, by omega, by omega, HO, HM.out, hbw, HN⟩
                  case measure => simp [intOf]; omega
            · have hke : k = s.size := by omega
              subst hke
              have HN := Lib.hid HS.out.last
              clear HS
              have hexl : (s.extract f s.size).data.toList = (s.data.toList.drop f).take (s.size - f) := Lib.extract_data s f s.size
              have hexs : (s.extract f s.size).size ≤ 1000000 := by rw [ByteArray.size_extract]; omega
              have k1 := fun w => rtrim_any (s.extract f s.size) w hexs
              rw [hexl] at k1
              have hp : trimL ((s.data.toList.drop f).take (s.size - f)) = pieceOf s f s.size := rfl
              rw [hp] at k1
              have hpl : (pieceOf s f s.size).length ≤ 1000000 := by
                have h1 := trimL_le ((s.data.toList.drop f).take (s.size - f))
                rw [hp] at h1
                have h2 : ((s.data.toList.drop f).take (s.size - f)).length ≤ s.data.toList.length := by rw [List.length_take, List.length_drop]; omega
                rw [← Lib.size_eq] at h2; omega
              generalize pieceOf s f s.size = p at *
              have hal := addP_le ls p
              have K1 := Lib.hid k1; clear k1 hexl hp
              cases he : p.isEmpty
              · have hadd : addP ls p = ls ++ [p] := by unfold addP; rw [he]; rfl
                rw [hadd] at HN hal
                clear hadd
                go_wp2_with (first | (go_at_call 56; refine (K1.out _).mono ?_; rintro e w2 ⟨rfl, hb2⟩; subst hb2) | (at_builtin; refine wpList_append_own _ rfl _ _ 36 rfl (w.heap.size + 1) 9 i0 (.string ByteArray.empty) 1 16 Tryz.underlying36 hi hz0 hz1 hz2 rfl (by decide) _ _ _ rfl (HO.out.alloc _) ⟨wr.heap.size, 0, none⟩ 1 1 [.string ⟨p.toArray⟩] rfl rfl ?c1 ?c2 ?c3 ?c4 ?c5 ?_))
                case c1 =>
                  intro j u hj
                  match j, hj with
                  | 0, hj => simp at hj; subst hj; simp [Addr.add]
                case c2 => intro u hu; simp at hu; subst hu; rfl
                case c3 => unfold maxLen; omega
                case c4 => omega
                case c5 => have := HM.out.lt; simp; omega
                intro v' w2 hown' hgrow _
                have hlt := HM.out.lt
                have HM2 := Lib.hid (HM.out.keep (w' := w2) (by rw [hgrow.block _ (by simp; omega) (fun e => by have := (HO.out.lt _ e.symm).1; omega), Below.heap_alloc _ _ _ (by omega)]))
                have hb2 : Below w.heap.size w w2 := (hbw.alloc (by omega) _).grown hgrow (by simp; omega) (fun k hk => by have := (HO.out.lt k hk).1; omega)
                have HO2 : Hid (OwnS (w.heap.size + 1) v' (ls ++ [p]) w2) := by
                  refine Lib.hid ?_
                  show World.ownsRow _ _ _ _ _ _ _
                  rw [List.length_append, List.length_singleton, List.map_append]; exact hown'
                clear hown' hgrow HO HM hbw
                go_wp2
                go_roundw
                case rel => exact ⟨s.size + 1, s.size + 1, ls ++ [p], by omega, (by first | go_num | rfl), (by first | go_num | rfl), by omega, by omega, HO2, HM2.out, hb2, HN⟩
                case measure => simp [intOf] <;> omega
              · have hadd : addP ls p = ls := by unfold addP; rw [he]; rfl
                rw [hadd] at HN hal
                clear hadd
                go_wp2_with (go_at_call 56; refine (K1.out _).mono ?_; rintro e w2 ⟨rfl, hb2⟩; subst hb2)
                go_roundw
                case rel => exact ⟨s.size + 1, s.size + 1, ls, by omega, (by first | go_num | rfl), (by first | go_num | rfl), by omega, by omega, HO, HM.out, hbw, HN⟩
                case measure => simp [intOf] <;> omega
          · have hke : k = s.size + 1 := by omega
            subst hke
            have hte := HS.out.2 (by omega)
            have HTE := Lib.hid hte; clear hte
            obtain ⟨a, cap, rfl⟩ := HO.out.shape
            cases hlen : decide (64 < ls.length)
            · have hse : splitE (some tot) = (ls, 0) := by rw [← HTE.out]; unfold splitE; simp only [hlen, cond_false]
              have HSE := Lib.hid hse
              have t1 : decide ((64 : Int) < (ls.length : Int)) = false := by simp at hlen ⊢; omega
              clear hlen hse
              go_wp2
              go_ret2
              rw [HSE.out]
              exact ⟨a, cap, rfl, OwnS.base HO.out (by omega), hbw⟩
            · have hse : splitE (some tot) = ([], 3) := by rw [← HTE.out]; unfold splitE; simp only [hlen, cond_true]
              have HSE := Lib.hid hse
              have t1 : decide ((64 : Int) < (ls.length : Int)) = true := by simp at hlen ⊢; omega
              clear hlen hse
              go_wp2
              go_ret2
              rw [HSE.out]
              exact SplitPost.none hbw
      · rw [cond_true]
        have HE := Lib.hid hE; clear hE hcn hfl
        go_enter Tryz.func33, Tryz.ntmps33
        go_wp2_with fail
        refine HQ.out.mono ?_
        rintro e w1 ⟨he, hM, hb1⟩
        rw [HE.out] at he
        subst he
        clear hM
        go_wp2
        go_ret2
        exact SplitPost.none hb1
    · have hsp : splitL sep s.data.toList = ([], 2) := by unfold splitL; rw [(beq_cast sep.toNat 34).trans q1, (beq_cast sep.toNat 92).trans q2]; rfl
      rw [hsp]; clear hsp
      go_enter Tryz.func33, Tryz.ntmps33
      go_wp2
      go_ret2
      exact SplitPost.none (Below.refl _ w)
  · have hsp : splitL sep s.data.toList = ([], 2) := by unfold splitL; rw [(beq_cast sep.toNat 34).trans q1]; rfl
    rw [hsp]; clear hsp
    go_enter Tryz.func33, Tryz.ntmps33
    go_wp2
    go_ret2
    exact SplitPost.none (Below.refl _ w)
end Go.Proofs.YtedmiganmifepaaGreatDoor
/- The walks of etag.List and of the document's List, Weak, Strong (layer 14). -/
namespace Go.Proofs.YtedmiganmifepaaGreatDoor
open Go.RowKit
set_option maxRecDepth 100000

set_option maxHeartbeats 1000000 in
theorem listf_any (p : List UInt8) (w : World) (hp : p.length ≤ 8000) :
    Calls Tryz.prog 28 #[.string ⟨p.toArray⟩] w fun e w' => e = .returned (.bool (!entOk p)) ∧ Below w.heap.size w w' := by
  have k1 := rd ⟨p.toArray⟩ w (by rw [Lib.size_eq]; exact hp)
  unfold Ent.val at k1
  have hk : entOk p = (ent ⟨p.toArray⟩).right := rfl
  rw [← hk] at k1
  clear hk
  generalize entOk p = r at *
  generalize (ent ⟨p.toArray⟩).weak = wk at *
  generalize (ent ⟨p.toArray⟩).tag = tg at *
  have K1 := Lib.hid k1; clear k1
  have hfd : ∀ w : World, (Instr.field 53 (.agg #[.bool wk, .bool r, .string tg]) 1).run Tryz.prog w = .ok (.bool r) w := fun _ => by kernel_rfl
  go_enter Tryz.func28, Tryz.ntmps28
  go_wp2_with fail
  refine K1.out.mono ?_
  rintro e w1 ⟨rfl, hb1⟩
  go_wp2
  go_ret
  exact ⟨rfl, hb1⟩

/-- Where the first bad one stands; below nought: there is none. -/
def IxPost (ls : List (List UInt8)) (w : World) (e : Ending) (w' : World) : Prop := ∃ i : Int, e = .returned (.int .i64 i) ∧ decide (0 ≤ i) = !ls.all entOk ∧ Below w.heap.size w w'
set_option maxRecDepth 100000 in
set_option maxHeartbeats 2000000 in
theorem index14_any (A : Option Addr) (n c : Nat) (ls : List (List UInt8)) (w : World) (hr : Rd A n 1 (strsV ls) w) (hn : n ≤ 1000000) (hl : ∀ x ∈ ls, x.length ≤ 8000) :
    Calls Tryz.prog 30 #[.slice A n c, .func (.func 28) #[] #[]] w (IxPost ls w) := by
  obtain rfl := hr.str
  have hB := Below.refl w.heap.size w
  have HR := Lib.hid hr; have HL := Lib.hid hl; clear hr hl
  go_enter Tryz.func30, Tryz.ntmps30
  go_wp2
  go_loopw [8] (fun i wr => ∃ k : Nat, k ≤ ls.length ∧ i = .int .i64 k ∧ Hid ((ls.take k).all entOk = true) ∧ Below w.heap.size w wr) (fun i _ => ls.length - (intOf i).toNat)
  case atStart => exact ⟨0, Nat.zero_le _, rfl, Lib.hid rfl, hB⟩
  case round =>
    clear hB
    obtain ⟨k, hk, rfl, HA, hbw⟩ := hrel
    by_cases hlt : k < ls.length
    · obtain ⟨b, o, rfl, hl, c1⟩ := (HR.out.below hbw).str_at (k := k) hlt
      have hv := HL.out ls[k] (List.getElem_mem _)
      have hbad : entOk ls[k] = false → Hid (decide ((0 : Int) ≤ (k : Int)) = !ls.all entOk) := by
        intro h
        refine Lib.hid ?_
        have : ls.all entOk = false := by rw [List.all_eq_false]; exact ⟨ls[k], List.getElem_mem _, by simp [h]⟩
        rw [this]; simp
      have hgood : entOk ls[k] = true → Hid ((ls.take (k + 1)).all entOk = true) := by
        intro h
        refine Lib.hid ?_
        rw [List.take_succ_eq_append_getElem hlt, List.all_append, HA.out]
        simp [h]
      generalize ls[k] = p at *
      have k1 := fun w => listf_any p w hv
      have HBAD := Lib.hid hbad; have HGOOD := Lib.hid hgood; clear hbad hgood HA
      cases hq : entOk p
      · rw [hq] at k1
        have hf := HBAD.out hq
        have K1 := Lib.hid k1; clear k1 hq
        go_wp2_with fail
        refine (K1.out _).mono ?_
        rintro e w1 ⟨rfl, hb1⟩
        go_wp2
        go_ret
        exact ⟨k, rfl, hf.out, bt hbw hb1⟩
      · rw [hq] at k1
        have hf := HGOOD.out hq
        have K1 := Lib.hid k1; clear k1 hq
        go_wp2_with fail
        refine (K1.out _).mono ?_
        rintro e w1 ⟨rfl, hb1⟩
        go_wp2
        go_roundw
        case rel => exact ⟨k + 1, by omega, by go_num, hf, bt hbw hb1⟩
        case measure => simp [intOf]; omega
    · have hke : k = ls.length := by omega
      subst hke
      have ha := HA.out
      rw [List.take_length] at ha
      have HA2 := Lib.hid ha; clear ha HA
      go_wp2
      go_ret
      exact ⟨-1, rfl, by rw [HA2.out]; rfl, hbw⟩
set_option maxHeartbeats 1000000 in
theorem contains14_any (A : Option Addr) (n c : Nat) (ls : List (List UInt8)) (w : World) (hr : Rd A n 1 (strsV ls) w) (hn : n ≤ 1000000) (hl : ∀ x ∈ ls, x.length ≤ 8000) :
    Calls Tryz.prog 14 #[.slice A n c, .func (.func 28) #[] #[]] w fun e w' => e = .returned (.bool (!ls.all entOk)) ∧ Below w.heap.size w w' := by
  have k1 := index14_any A n c ls w hr hn hl
  have K1 := Lib.hid k1; clear k1
  go_enter Tryz.func14, Tryz.ntmps14
  go_wp2_with fail
  refine K1.out.mono ?_
  rintro e w1 ⟨i, rfl, hi, hb1⟩
  have HI := Lib.hid hi; clear hi
  go_wp2
  go_ret
  exact ⟨by rw [← HI.out]; rfl, hb1⟩

set_option maxHeartbeats 2000000 in
theorem elist_any (s : ByteArray) (w : World) (hs : s.size ≤ 8000) :
    Calls Tryz.prog 13 #[.string s] w (SplitPost w (etagL s.data.toList)) := by
  have k1 := split_any s 44 w (by omega)
  have htot := split_total 44 s.data.toList
  have hcn : (splitL 44 s.data.toList).1.length ≤ 64 := by
    have := split_len s.data.toList; exact this
  rw [← Lib.size_eq] at htot
  have he : etagL s.data.toList = bif (splitL 44 s.data.toList).2 == 0 && (!(splitL 44 s.data.toList).1.isEmpty && (splitL 44 s.data.toList).1.all entOk) then ((splitL 44 s.data.toList).1, 0) else ([], 4) := rfl
  generalize etagL s.data.toList = out at *
  generalize splitL 44 s.data.toList = r at *
  obtain ⟨ls, er⟩ := r
  simp only at htot hcn he
  have K1 := Lib.hid k1; have HE := Lib.hid he; clear k1 he
  have hl : ∀ x ∈ ls, x.length ≤ 8000 := fun x hx => by have := total_mem hx; omega
  go_enter Tryz.func13, Tryz.ntmps13
  go_wp2_with fail
  refine K1.out.mono ?_
  rintro e w1 ⟨a1, c1, rfl, ho1, hb1⟩
  simp only at ho1
  cases hz : (er == 0)
  · have n1 : (er != 0) = true := by simp [bne, hz]
    have ho := HE.out
    rw [hz, Bool.false_and, cond_false] at ho
    subst ho
    go_wp2
    go_ret2
    exact SplitPost.none hb1
  · have n1 : (er != 0) = false := by simp [bne, hz]
    cases hls : ls with
    | nil =>
      have ho := HE.out
      rw [hls, List.isEmpty_nil, Bool.not_true, Bool.false_and, Bool.and_false, cond_false] at ho
      subst ho; subst hls
      go_wp2
      go_ret2
      exact SplitPost.none hb1
    | cons x r =>
      rw [← hls]
      have hpos : 0 < ls.length := by rw [hls]; simp
      have hemp : ls.isEmpty = false := by rw [hls]; rfl
      have ho := HE.out
      rw [hz, hemp, Bool.not_false, Bool.true_and, Bool.true_and] at ho
      clear hls hemp
      have k2 := contains14_any a1 ls.length c1 ls w1 ho1.rd.2 (by omega) hl
      have HO := Lib.hid ho1; clear ho1
      have t0 : ((ls.length : Int) == 0) = false := by rw [beq_eq_false_iff_ne]; omega
      cases ha : ls.all entOk
      · rw [ha] at k2
        rw [ha, cond_false] at ho
        subst ho
        have K2 := Lib.hid k2; clear k2 ha
        go_wp2_with fail
        refine K2.out.mono ?_
        rintro e w2 ⟨rfl, hb2⟩
        go_wp2
        go_ret2
        exact SplitPost.none (bt hb1 hb2)
      · rw [ha] at k2
        rw [ha, cond_true] at ho
        subst ho
        have K2 := Lib.hid k2; clear k2 ha
        go_wp2_with fail
        refine K2.out.mono ?_
        rintro e w2 ⟨rfl, hb2⟩
        go_wp2
        go_ret2
        exact ⟨a1, c1, rfl, HO.out.below hb2, bt hb1 hb2⟩

set_option maxRecDepth 100000 in
set_option maxHeartbeats 4000000 in
theorem relist_any (s : ByteArray) (w : World) (hs : s.size ≤ 8000) :
    Calls Tryz.prog 18 #[.string s] w (SplitPost w (etagL s.data.toList)) := by
  have k1 := rsplit_any s 44 w (by omega)
  have htot := split_total 44 s.data.toList
  have hcn : (splitL 44 s.data.toList).1.length ≤ 64 := split_len s.data.toList
  rw [← Lib.size_eq] at htot
  have he : etagL s.data.toList = bif (splitL 44 s.data.toList).2 == 0 && (!(splitL 44 s.data.toList).1.isEmpty && (splitL 44 s.data.toList).1.all entOk) then ((splitL 44 s.data.toList).1, 0) else ([], 4) := rfl
  generalize etagL s.data.toList = out at *
  generalize splitL 44 s.data.toList = r at *
  obtain ⟨ls, er⟩ := r
  simp only at htot hcn he
  have K1 := Lib.hid k1; have HE := Lib.hid he; clear k1 he
  have hl : ∀ x ∈ ls, x.length ≤ 8000 := fun x hx => by have := total_mem hx; omega
  have HL := Lib.hid hl; clear hl
  go_enter Tryz.func18, Tryz.ntmps18
  go_wp2_with fail
  refine K1.out.mono ?_
  rintro e w1 ⟨a1, c1, rfl, ho1, hb1⟩
  simp only at ho1
  cases hz : (er == 0)
  · have n1 : (er != 0) = true := by simp [bne, hz]
    have ho := HE.out
    rw [hz, Bool.false_and, cond_false] at ho
    subst ho
    go_wp2
    go_ret2
    exact SplitPost.none hb1
  · have n1 : (er != 0) = false := by simp [bne, hz]
    cases hls : ls with
    | nil =>
      have ho := HE.out
      rw [hls, List.isEmpty_nil, Bool.not_true, Bool.false_and, Bool.and_false, cond_false] at ho
      subst ho; subst hls
      go_wp2
      go_ret2
      exact SplitPost.none hb1
    | cons x r =>
      rw [← hls]
      have hpos : 0 < ls.length := by rw [hls]; simp
      have hemp : ls.isEmpty = false := by rw [hls]; rfl
      have ho := HE.out
      rw [hz, hemp, Bool.not_false, Bool.true_and, Bool.true_and] at ho
      clear hls hemp HE
      have HO := Lib.hid ho1; have HOUT := Lib.hid ho; clear ho1 ho
      have t0 : ((ls.length : Int) == 0) = false := by rw [beq_eq_false_iff_ne]; omega
      have hb11 := Below.refl w1.heap.size w1
      go_wp2_with fail
      go_loopw [6] (fun i wr => ∃ k : Nat, k ≤ ls.length ∧ i = .int .i64 k ∧ Hid ((ls.take k).all entOk = true) ∧ Below w1.heap.size w1 wr) (fun i _ => ls.length - (intOf i).toNat)
      case atStart => exact ⟨0, Nat.zero_le _, rfl, Lib.hid rfl, hb11⟩
      case round =>
        clear hb11
        obtain ⟨k, hk, rfl, HA, hbw⟩ := hrel
        by_cases hlt : k < ls.length
        · obtain ⟨b, o, rfl, hl, c2⟩ := (HO.out.rd.2.below hbw).str_at (k := k) hlt
          have hv := HL.out ls[k] (List.getElem_mem _)
          have hbad : entOk ls[k] = false → Hid (out = ([], 4)) := by
            intro h
            refine Lib.hid ?_
            have : ls.all entOk = false := by rw [List.all_eq_false]; exact ⟨ls[k], List.getElem_mem _, by simp [h]⟩
            rw [HOUT.out, this]; rfl
          have hgood : entOk ls[k] = true → Hid ((ls.take (k + 1)).all entOk = true) := by
            intro h
            refine Lib.hid ?_
            rw [List.take_succ_eq_append_getElem hlt, List.all_append, HA.out]
            simp [h]
          generalize ls[k] = p at *
          have k1 := fun w => rparse14_any ⟨p.toArray⟩ w (by rw [Lib.size_eq]; exact hv)
          have HBAD := Lib.hid hbad; have HGOOD := Lib.hid hgood; clear hbad hgood HA
          have hdef : entOk p = (ent ⟨p.toArray⟩).right := rfl
          cases hq : entOk p
          · have hx : (ent ⟨p.toArray⟩).parse = .tuple #[.bool false, .string empt, .int .i64 4] := by unfold Ent.parse; rw [← hdef, hq]; rfl
            rw [hx] at k1
            have hf := HBAD.out hq
            have K1 := Lib.hid k1; clear k1 hq hx hdef
            go_wp2_with fail
            refine (K1.out _).mono ?_
            rintro e w2 ⟨rfl, hb2⟩
            go_wp2
            go_ret2
            rw [hf.out]
            exact SplitPost.none (bt (hb1.trans (hbw.mono hb1.size)) hb2)
          · have hx : (ent ⟨p.toArray⟩).parse = .tuple #[.bool (ent ⟨p.toArray⟩).weak, .string (ent ⟨p.toArray⟩).tag, .int .i64 0] := by unfold Ent.parse; rw [← hdef, hq]; rfl
            rw [hx] at k1
            have hf := HGOOD.out hq
            clear hx hdef
            generalize (ent ⟨p.toArray⟩).weak = wk at *
            generalize (ent ⟨p.toArray⟩).tag = tg at *
            have K1 := Lib.hid k1; clear k1 hq
            go_wp2_with fail
            refine (K1.out _).mono ?_
            rintro e w2 ⟨rfl, hb2⟩
            go_wp2
            go_roundw
            case rel => exact ⟨k + 1, by omega, by go_num, hf, bt hbw hb2⟩
            case measure => simp [intOf]; omega
        · have hke : k = ls.length := by omega
          subst hke
          have ha := HA.out
          rw [List.take_length] at ha
          have ho : out = (ls, 0) := by rw [HOUT.out, ha]; rfl
          subst ho
          clear ha
          go_wp2
          go_ret2
          exact ⟨a1, c1, rfl, (HO.out.below hbw), hb1.trans (hbw.mono hb1.size)⟩

theorem parse_form (x : Ent) : ∃ wk tg er, x.parse = .tuple #[.bool wk, .string tg, .int .i64 er] := by
  unfold Ent.parse
  cases x.right
  · exact ⟨_, _, _, rfl⟩
  · exact ⟨_, _, _, rfl⟩
theorem ent_no (a : ByteArray) (h : (ent a).right = false) : (ent a).weak = false := by
  unfold ent at *; split <;> simp_all

set_option maxHeartbeats 2000000 in
theorem rweak_any (a b : ByteArray) (w : World) (ha : a.size ≤ 8000) (hb : b.size ≤ 8000) :
    Calls Tryz.prog 19 #[.string a, .string b] w fun e w' => e = .returned (.bool ((ent a).same (ent b))) ∧ Below w.heap.size w w' := by
  have k1 := fun w => rparse14_any a w ha
  have k2 := fun w => rparse14_any b w hb
  generalize ent a = x at *
  generalize ent b = y at *
  obtain ⟨xw, xr, xt⟩ := x
  obtain ⟨yw, yr, yt⟩ := y
  unfold Ent.parse at k1 k2
  unfold Ent.same
  cases xr <;> cases yr <;> simp only [cond_true, cond_false] at k1 k2
  all_goals
    have K1 := Lib.hid k1; have K2 := Lib.hid k2; clear k1 k2
    go_enter Tryz.func19, Tryz.ntmps19
    go_wp2_with fail
    refine (K1.out _).mono ?_
    rintro e w1 ⟨rfl, hb1⟩
    go_wp2_with fail
    refine (K2.out _).mono ?_
    rintro e w2 ⟨rfl, hb2⟩
    go_wp2
    go_ret
    exact ⟨by simp [Lib.toList_data], bt hb1 hb2⟩
end Go.Proofs.YtedmiganmifepaaGreatDoor
/- Fields of a name: plain. -/
namespace Go.Proofs.YtedmiganmifepaaGreatDoor

def valuesL (xs : List Fld) (name : List UInt8) : List (List UInt8) := (xs.filter fun f => lowerL f.1 == lowerL name).map (·.2)
theorem valuesL_le (xs : List Fld) (name : List UInt8) : (valuesL xs name).length ≤ xs.length := by
  unfold valuesL; rw [List.length_map]; exact List.length_filter_le _ _
theorem valuesL_snoc (xs : List Fld) (f : Fld) (name : List UInt8) : valuesL (xs ++ [f]) name = if lowerL f.1 == lowerL name then valuesL xs name ++ [f.2] else valuesL xs name := by
  unfold valuesL
  rw [List.filter_append]
  cases h : (lowerL f.1 == lowerL name) <;> simp [h]
theorem take_snocL {α : Type} (xs : List α) (k : Nat) (h : k < xs.length) : xs.take (k + 1) = xs.take k ++ [xs[k]] := List.take_succ_eq_append_getElem h
end Go.Proofs.YtedmiganmifepaaGreatDoor
/- The walk of text.Same. -/
namespace Go.Proofs.YtedmiganmifepaaGreatDoor
open Go.RowKit

set_option maxHeartbeats 1000000 in
theorem tsame_wide (a b : ByteArray) (w : World) (ha : a.size ≤ 140737488351232) (hb : b.size ≤ 140737488351232) :
    Calls Tryz.prog 44 #[.string a, .string b] w fun e w' => e = .returned (.bool (lowerL a.data.toList == lowerL b.data.toList)) ∧ Below w.heap.size w w' := by
  have hB := Below.refl w.heap.size w
  have k1 := fun w => lower_wide a w ha
  have k2 := fun w => lower_wide b w hb
  have t1 : ((⟨(lowerL a.data.toList).toArray⟩ : ByteArray).toList == (⟨(lowerL b.data.toList).toArray⟩ : ByteArray).toList) = (lowerL a.data.toList == lowerL b.data.toList) := by rw [Lib.toList_data, Lib.toList_data]
  generalize lowerL a.data.toList = x at *
  generalize lowerL b.data.toList = y at *
  have K1 := Lib.hid k1; have K2 := Lib.hid k2; have T1 := Lib.hid t1; clear k1 k2 t1
  go_enter Tryz.func44, Tryz.ntmps44
  go_wp2_with fail
  refine (K1.out _).mono ?_
  rintro e w1 ⟨rfl, hb1⟩
  go_wp2_with fail
  refine (K2.out _).mono ?_
  rintro e w2 ⟨rfl, hb2⟩
  go_wp2
  go_ret
  exact ⟨by rw [← T1.out]; rfl, bt hb1 hb2⟩
theorem tsame_any (a b : ByteArray) (w : World) (ha : a.size ≤ 1000000) (hb : b.size ≤ 1000000) :
    Calls Tryz.prog 44 #[.string a, .string b] w fun e w' => e = .returned (.bool (lowerL a.data.toList == lowerL b.data.toList)) ∧ Below w.heap.size w w' := tsame_wide a b w (by omega) (by omega)
end Go.Proofs.YtedmiganmifepaaGreatDoor
/- The walk of fields.Values. -/
namespace Go.Proofs.YtedmiganmifepaaGreatDoor
open Go.RowKit

set_option maxRecDepth 100000 in
set_option maxHeartbeats 2000000 in
theorem values_any (A : Option Addr) (n c : Nat) (xs : List Fld) (name : ByteArray) (w : World) (hr : Rd A n 2 (fldsV xs) w) (hn : n ≤ 1000000) (hs : ∀ f ∈ xs, f.1.length ≤ 1000000) (hname : name.size ≤ 1000000) :
    Calls Tryz.prog 25 #[.slice A n c, .string name] w (TextsPost w (valuesL xs name.data.toList)) := by
  have hB := Below.refl w.heap.size w
  obtain rfl := hr.fld
  have HR := Lib.hid hr; have HS := Lib.hid hs; clear hr hs
  go_enter Tryz.func25, Tryz.ntmps25
  go_wp2
  go_loopw [9, 4] (fun i out wr => ∃ k : Nat, k ≤ xs.length ∧ i = .int .i64 k ∧ Hid (OwnS w.heap.size out (valuesL (xs.take k) name.data.toList) wr) ∧ Below w.heap.size w wr) (fun i _ _ => xs.length - (intOf i).toNat)
  case atStart => exact ⟨0, Nat.zero_le _, rfl, Lib.hid (OwnS.nil _ _), hB⟩
  case round =>
    clear hB
    obtain ⟨k, hk, rfl, HO, hbw⟩ := hrel
    by_cases hlt : k < xs.length
    · obtain ⟨b, o, rfl, hl, c1, c2⟩ := (HR.out.below hbw).fld_at (k := k) (by omega)
      have hf1 := HS.out xs[k] (List.getElem_mem _)
      have hsn := valuesL_snoc (xs.take k) xs[k] name.data.toList
      rw [← take_snocL xs k (by omega)] at hsn
      have k1 := fun w => tsame_any ⟨(xs[k]).1.toArray⟩ name w (by rw [Lib.size_eq]; exact hf1) hname
      have hvl := valuesL_le (xs.take k) name.data.toList
      rw [List.length_take] at hvl
      generalize xs[k] = f at *
      obtain ⟨f1, f2⟩ := f
      simp only at c1 c2 k1 hsn
      have Hsn := Lib.hid hsn; have K1 := Lib.hid k1; clear hsn k1 hf1
      cases hq : (lowerL f1 == lowerL name.data.toList)
      · have hnx := Hsn.out
        rw [hq, if_neg (by decide)] at hnx
        have HN : Hid (OwnS w.heap.size u4 (valuesL (xs.take (k + 1)) name.data.toList) wr) := by rw [hnx]; exact HO
        have Hq := Lib.hid hq; clear hnx hq Hsn
        go_wp2_with (go_at_call 44; refine (K1.out _).mono ?_; rintro e w1 ⟨rfl, hb1⟩; rw [Hq.out])
        have hb2 : Below w.heap.size w w1 := (hbw.alloc hbw.size _).trans (hb1.mono (by have := hbw.size; simp; omega))
        go_roundw
        case rel => exact ⟨k + 1, by omega, by go_num, Lib.hid ((HN.out.below ((Below.refl _ wr).alloc (Nat.le_refl _) _)).below hb1), hb2⟩
        case measure => simp [intOf]; omega
      · have hnx := Hsn.out
        rw [hq, if_pos rfl] at hnx
        have Hnx := Lib.hid hnx
        have Hq := Lib.hid hq; clear hnx hq Hsn
        go_wp2_with fail
        refine (K1.out _).mono ?_
        rintro e w1 ⟨rfl, hb1⟩
        rw [Hq.out]
        have d2 := hb1.cell (p := ⟨wr.heap.size, 1, none⟩) (by simp)
        simp [go_sem] at d2
        have hb2 : Below w.heap.size w w1 := (hbw.alloc hbw.size _).trans (hb1.mono (by have := hbw.size; simp; omega))
        have hO1 := (HO.out.below ((Below.refl _ wr).alloc (Nat.le_refl _) _)).below hb1
        have HO1 := Lib.hid hO1; clear hO1 HO
        go_wp2_with (at_builtin; refine app_str w.heap.size f2 HO1.out hb2.size (by omega) rfl _ _ rfl rfl rfl ?_)
        intro v' w2 hO2 hb3 _
        have hb4 := hb2.trans hb3
        have HO2 : Hid (OwnS w.heap.size v' (valuesL (xs.take (k + 1)) name.data.toList) w2) := by rw [Hnx.out]; exact Lib.hid hO2
        clear hO2 hb3 hb2 hb1 d2
        go_wp2
        go_roundw
        case rel => exact ⟨k + 1, by omega, by go_num, HO2, hb4⟩
        case measure => simp [intOf]; omega
    · have hke : k = xs.length := by omega
      subst hke
      have ho := HO.out
      rw [List.take_length] at ho
      obtain ⟨a, cap, rfl⟩ := ho.shape
      have HO1 := Lib.hid ho; clear ho HO
      go_wp2
      go_ret
      exact ⟨a, cap, rfl, HO1.out, hbw⟩
end Go.Proofs.YtedmiganmifepaaGreatDoor
/- strings.Join over a slice that the call made. -/
namespace Go.Proofs.YtedmiganmifepaaGreatDoor
open Go.RowKit

theorem join_any (B cap : Nat) (a : Option Addr) (ls : List (List UInt8)) (sep : ByteArray) (w : World) (h : OwnS B (.slice a ls.length cap) ls w) (h1 : ls.length ≤ 1000000) (h2 : total ls + ls.length * sep.size ≤ 100000000000) :
    Calls Tryz.prog 26 #[.slice a ls.length cap, .string sep] w fun e w' => e = .returned (.string ⟨(Lib.join ls sep.data.toList).toArray⟩) ∧ Below w.heap.size w w' := by
  obtain ⟨_, hcap, hg⟩ := h.room
  cases ls with
  | nil =>
    refine (Tryz.strings_Join_none a cap sep w).mono ?_
    rintro e w' ⟨rfl, rfl⟩
    exact ⟨rfl, Below.refl _ _⟩
  | cons x r =>
    obtain ⟨g, rfl, hgl⟩ := hg (by simp)
    have hmap : ((x :: r).map fun l => (⟨l.toArray⟩ : ByteArray)).map (·.data.toList) = x :: r := by
      rw [List.map_map]; have : ((fun b : ByteArray => b.data.toList) ∘ fun l : List UInt8 => (⟨l.toArray⟩ : ByteArray)) = id := by funext l; simp
      rw [this, List.map_id]
    have hj := join_le sep.data.toList (x :: r)
    rw [← Lib.size_eq] at hj
    have k := Tryz.strings_Join g 0 cap ((x :: r).map fun l => (⟨l.toArray⟩ : ByteArray)) sep w (by
      intro j y hy
      obtain ⟨hj1, hj2⟩ := List.getElem?_eq_some_iff.1 hy
      have hj3 : j < (x :: r).length := by simpa using hj1
      obtain ⟨g', e, hc, _⟩ := h.cell j hj3
      cases e
      rw [Nat.zero_add, hc, ← hj2, List.getElem_map]) hgl (by rw [List.length_map]; omega) (by rw [List.length_map]; omega) (by rw [hmap]; omega)
    rw [hmap, List.length_map] at k
    exact k
end Go.Proofs.YtedmiganmifepaaGreatDoor
/- The walk of fields.Get. -/
namespace Go.Proofs.YtedmiganmifepaaGreatDoor
open Go.RowKit
set_option maxRecDepth 100000

theorem total_values (xs : List Fld) (name : List UInt8) : total (valuesL xs name) ≤ sumF xs := by
  unfold valuesL total sumF
  induction xs with
  | nil => simp
  | cons x r ih =>
    rw [List.filter_cons, List.map_cons, List.sum_cons]
    by_cases h : (lowerL x.1 == lowerL name) = true
    · rw [if_pos h, List.map_cons, List.map_cons, List.sum_cons]; omega
    · rw [if_neg h]; omega
/-- What a name has. -/
def getL (xs : List Fld) (name : List UInt8) : List UInt8 × Bool := (Lib.join (valuesL xs name) [44, 32], decide (0 < (valuesL xs name).length))
def getV (r : List UInt8 × Bool) : Value := .tuple #[.string ⟨r.1.toArray⟩, .bool r.2]
theorem getL_le (xs : List Fld) (name : List UInt8) : (getL xs name).1.length ≤ sumF xs + 2 * xs.length := by
  have h1 := join_le [44, 32] (valuesL xs name)
  have h2 := total_values xs name
  have h3 := valuesL_le xs name
  have h4 : ([44, 32] : List UInt8).length = 2 := rfl
  unfold getL
  rw [h4] at h1
  simp only; omega

set_option maxHeartbeats 2000000 in
theorem get_any (A : Option Addr) (n c : Nat) (xs : List Fld) (name : ByteArray) (w : World) (hr : Rd A n 2 (fldsV xs) w) (hn : n ≤ 1000000) (hs : sumF xs ≤ 1000000) (hname : name.size ≤ 1000000) :
    Calls Tryz.prog 12 #[.slice A n c, .string name] w fun e w' => e = .returned (getV (getL xs name.data.toList)) ∧ Below w.heap.size w w' := by
  have hxn := hr.fld
  have k1 := values_any A n c xs name w hr hn (fun f hf => by have := sumF_mem hf; omega) hname
  have hv := total_values xs name.data.toList
  have hvl := valuesL_le xs name.data.toList
  unfold getL getV
  simp only
  generalize valuesL xs name.data.toList = ls at *
  obtain ⟨J, hJ⟩ : ∃ J, (⟨(Lib.join ls [44, 32]).toArray⟩ : ByteArray) = J := ⟨_, rfl⟩
  rw [hJ]
  have hdec : decide (0 < ls.length) = decide ((ls.length : Int) > 0) := by rw [decide_eq_decide]; omega
  have k2 := fun (a : Option Addr) (c : Nat) (w1 : World) (h : OwnS w.heap.size (.slice a ls.length c) ls w1) => join_any w.heap.size c a ls ⟨#[44, 32]⟩ w1 h (by omega) (by rw [show (⟨#[44, 32]⟩ : ByteArray).size = 2 from rfl]; omega)
  rw [show (⟨#[44, 32]⟩ : ByteArray).data.toList = [44, 32] from rfl, hJ] at k2
  rw [hdec]
  clear hdec hJ
  have K1 := Lib.hid k1; have K2 := Lib.hid k2; clear k1 k2 hv hs hn hname hr hxn hvl
  go_enter Tryz.func12, Tryz.ntmps12
  go_wp2_with fail
  refine K1.out.mono ?_
  rintro e w1 ⟨a1, c1, rfl, ho1, hb1⟩
  have K3 := Lib.hid (K2.out a1 c1 w1 ho1)
  clear K1 K2 ho1
  go_wp2_with fail
  refine K3.out.mono ?_
  rintro e w2 ⟨rfl, hb2⟩
  go_wp2
  go_ret2
  refine ⟨?_, bt hb1 hb2⟩
  simp
end Go.Proofs.YtedmiganmifepaaGreatDoor
/- Dates: what date.Parse and date.Put compute, in plain words; no program in sight. -/
namespace Go.Proofs.YtedmiganmifepaaGreatDoor

def dg (c : UInt8) : Bool := decide (48 ≤ c.toNat) && decide (c.toNat ≤ 57)
def dnum : List UInt8 → Int → Int
  | [], a => a
  | c :: r, a => dnum r (10 * a + ((c.toNat : Int) - 48))
/-- So many digits off a text. -/
def dnumL (s : List UInt8) (n : Nat) : Int × List UInt8 × Bool :=
  bif decide (s.length < n) then (0, [], false) else bif (s.take n).all dg then (dnum (s.take n) 0, s.drop n, true) else (0, [], false)
/-- One of some names off a text. -/
def dname (s : List UInt8) (n : Nat) : List (List UInt8) → Nat → Int × List UInt8 × Bool
  | [], _ => (0, [], false)
  | x :: r, i =>
    bif Lib.hasPrefix s (bif decide (0 < n) then x.take n else x) then ((i : Int), s.drop (bif decide (0 < n) then x.take n else x).length, true) else dname s n r (i + 1)
def ddays : List (List UInt8) := [[84, 104, 117, 114, 115, 100, 97, 121], [70, 114, 105, 100, 97, 121], [83, 97, 116, 117, 114, 100, 97, 121], [83, 117, 110, 100, 97, 121], [77, 111, 110, 100, 97, 121], [84, 117, 101, 115, 100, 97, 121], [87, 101, 100, 110, 101, 115, 100, 97, 121]]
def dmonths : List UInt8 := [74, 97, 110, 70, 101, 98, 77, 97, 114, 65, 112, 114, 77, 97, 121, 74, 117, 110, 74, 117, 108, 65, 117, 103, 83, 101, 112, 79, 99, 116, 78, 111, 118, 68, 101, 99]
def dleap (y : Int) : Bool := y % 4 == 0 && y % 100 != 0 || y % 400 == 0
def dlong (y m : Int) : Int := if m = 2 then (if dleap y = true then 29 else 28) else if m = 4 ∨ m = 6 ∨ m = 9 ∨ m = 11 then 30 else 31
def dahead (y : Int) : Int := 365 * (y - 1970) + (y - 1) / 4 - (y - 1) / 100 + (y - 1) / 400 - 492 + 19 - 4
theorem dahead_up (y : Int) : dahead y + 365 ≤ dahead (y + 1) ∧ dahead (y + 1) ≤ dahead y + 366 := by
  unfold dahead; omega
theorem dahead_ge (y : Int) (h : 1970 ≤ y) : 365 * (y - 1970) ≤ dahead y ∧ dahead y ≤ 366 * (y - 1970) := by
  unfold dahead; omega
/-- The year of a day. -/
def dyear : Nat → Int → Int → Int
  | 0, _, y => y
  | f + 1, d, y => if dahead (y + 1) ≤ d then dyear f d (y + 1) else y
theorem dyear_go (d : Int) : ∀ (f : Nat) (y : Int), 1970 ≤ y → d < 365 * (y - 1970) + 365 * f → ∀ g, f ≤ g → dyear g d y = dyear f d y
  | 0, y, hy, h, g, _ => by
    have := dahead_ge (y + 1) (by omega)
    cases g with
    | zero => rfl
    | succ g =>
      show dyear (g + 1) d y = y
      have hn : ¬ dahead (y + 1) ≤ d := by omega
      unfold dyear
      rw [if_neg hn]
  | f + 1, y, hy, h, g, hg => by
    cases g with
    | zero => omega
    | succ g =>
      rw [dyear, dyear]
      split
      · exact dyear_go d f (y + 1) (by omega) (by omega) g (by omega)
      · rfl
/-- Its year, and how many days of it are ahead. -/
def dyearO (d : Int) : Int × Int := (dyear 9000 d (1970 + d / 366), d - dahead (dyear 9000 d (1970 + d / 366)))
/-- A date's numbers. -/
structure Mom where
  wd : Int
  day : Int
  month : Int
  year : Int
  hour : Int
  minute : Int
  second : Int
  two : Bool
def mom0 : Mom := ⟨0, 0, 0, 0, 0, 0, 0, false⟩
def Mom.cs (m : Mom) : List Value := [.int .i64 m.wd, .int .i64 m.day, .int .i64 m.month, .int .i64 m.year, .int .i64 m.hour, .int .i64 m.minute, .int .i64 m.second, .bool m.two]
/-- A piece of a form off a text. -/
def dtake (m : Mom) (c : Nat) (s : List UInt8) : Mom × List UInt8 × Bool :=
  if c = 119 then ({ m with wd := (dname s 3 ddays 0).1 }, (dname s 3 ddays 0).2)
  else if c = 87 then ({ m with wd := (dname s 0 ddays 0).1 }, (dname s 0 ddays 0).2)
  else if c = 68 then ({ m with day := (dnumL s 2).1 }, (dnumL s 2).2)
  else if c = 69 then (if Lib.hasPrefix s [32] = true then ({ m with day := (dnumL (s.drop 1) 1).1 }, (dnumL (s.drop 1) 1).2) else ({ m with day := (dnumL s 2).1 }, (dnumL s 2).2))
  else if c = 109 then
    (if s.length < 3 ∨ Lib.index dmonths (s.take 3) < 0 ∨ Lib.index dmonths (s.take 3) % 3 ≠ 0 then (m, [], false) else ({ m with month := Lib.index dmonths (s.take 3) / 3 + 1 }, s.drop 3, true))
  else if c = 89 then ({ m with year := (dnumL s 4).1 }, (dnumL s 4).2)
  else if c = 121 then ({ m with year := (dnumL s 2).1, two := true }, (dnumL s 2).2)
  else if c = 72 then ({ m with hour := (dnumL s 2).1 }, (dnumL s 2).2)
  else if c = 73 then ({ m with minute := (dnumL s 2).1 }, (dnumL s 2).2)
  else if c = 83 then ({ m with second := (dnumL s 2).1 }, (dnumL s 2).2)
  else if Lib.hasPrefix s [UInt8.ofNat c] = true then (m, s.drop 1, true) else (m, s, false)
/-- The forms. -/
def dform0 : List UInt8 := [119, 44, 32, 68, 32, 109, 32, 89, 32, 72, 58, 73, 58, 83, 32, 71, 77, 84]
def dform1 : List UInt8 := [87, 44, 32, 68, 45, 109, 45, 121, 32, 72, 58, 73, 58, 83, 32, 71, 77, 84]
def dform2 : List UInt8 := [119, 32, 109, 32, 69, 32, 72, 58, 73, 58, 83, 32, 89]
/-- All pieces of a form off a text. -/
def dpieces : List UInt8 → Mom → List UInt8 → Option (Mom × List UInt8)
  | [], m, s => some (m, s)
  | c :: r, m, s => bif (dtake m c.toNat s).2.2 then dpieces r (dtake m c.toNat s).1 (dtake m c.toNat s).2.1 else none
def dnow (now : Int) : Int := (max 0 (min now 253402300799)) / 86400
def dyr (m : Mom) (now : Int) : Int := if m.two = true then ((dyearO (dnow now)).1 + 50) - ((dyearO (dnow now)).1 + 50 - m.year) % 100 else m.year
/-- Days of the months ahead. -/
def dmons (y : Int) : Nat → Int
  | 0 => 0
  | k + 1 => dmons y k + dlong y (k + 1)
/-- The tick of a date. -/
def dtick (m : Mom) (now : Int) : Int × Bool :=
  if dyr m now < 1970 ∨ dyr m now > 9999 ∨ m.day < 1 ∨ m.day > dlong (dyr m now) m.month ∨ m.hour > 23 ∨ m.minute > 59 ∨ m.second > 59 then (0, false)
  else if (dahead (dyr m now) + m.day - 1 + dmons (dyr m now) (m.month.toNat - 1)) % 7 ≠ m.wd then (0, false)
  else ((dahead (dyr m now) + m.day - 1 + dmons (dyr m now) (m.month.toNat - 1)) * 86400 + m.hour * 3600 + m.minute * 60 + m.second, true)
def dparse (s : List UInt8) (now : Int) : List (List UInt8) → Int × Int
  | [] => (0, 4)
  | f :: r => match dpieces f mom0 s with
    | some (m, []) => if (dtick m now).2 = true then ((dtick m now).1, 0) else dparse s now r
    | _ => dparse s now r
/-- A date's tick. -/
def dateP (s : List UInt8) (now : Int) : Int × Int := dparse s now [dform0, dform1, dform2]
theorem t1 : dateP [84, 104, 117, 44, 32, 48, 49, 32, 74, 97, 110, 32, 49, 57, 55, 48, 32, 48, 48, 58, 48, 50, 58, 48, 48, 32, 71, 77, 84] 110 = (120, 0) := by decide +kernel
end Go.Proofs.YtedmiganmifepaaGreatDoor
/- The library's own mark. -/
namespace Go.Proofs.YtedmiganmifepaaGreatDoor
open Go.RowKit
set_option maxRecDepth 100000

/-- The library's own mark holds a number. -/
def MaxL (w : World) : Prop := 1 < w.heap.size ∧ ∃ m, w.cell? ⟨1, 0, none⟩ = some (.int .i64 m)
theorem MaxL.of {w : World} (h : ∃ m, w.cell? ⟨1, 0, none⟩ = some (.int .i64 m)) : MaxL w := by
  obtain ⟨m, h⟩ := h
  exact ⟨World.block_lt_of_cell? w _ h, m, h⟩
theorem MaxL.below {w w' : World} (h : MaxL w) (hb : Below w.heap.size w w') : MaxL w' := by
  obtain ⟨h0, m, h⟩ := h
  exact ⟨Nat.lt_of_lt_of_le h0 hb.size, m, (hb.cell (p := ⟨_, 0, none⟩) h0).trans h⟩
end Go.Proofs.YtedmiganmifepaaGreatDoor
/- Dates: the walks of number, name, leap, long, ahead, year, two. -/
namespace Go.Proofs.YtedmiganmifepaaGreatDoor
open Go.RowKit
set_option maxRecDepth 100000

def intD : Value → Int
  | .int _ n => n
  | _ => 0
theorem dgI (c : UInt8) : dg c = (decide (48 ≤ (c.toNat : Int)) && decide ((c.toNat : Int) ≤ 57)) := by
  unfold dg; rw [Bool.eq_iff_iff]; simp; omega
theorem dnum_snoc : ∀ (l : List UInt8) (c : UInt8) (a : Int), dnum (l ++ [c]) a = 10 * dnum l a + ((c.toNat : Int) - 48)
  | [], c, a => rfl
  | x :: r, c, a => by rw [List.cons_append, dnum, dnum, dnum_snoc r c]
theorem dnum_le : ∀ (l : List UInt8), l.all dg = true → ∀ a : Int, 0 ≤ a → 0 ≤ dnum l a ∧ dnum l a < (a + 1) * 10 ^ l.length
  | [], _, a, ha => by simp [dnum]; omega
  | x :: r, h, a, ha => by
    rw [List.all_cons, Bool.and_eq_true] at h
    have hx := h.1
    unfold dg at hx
    simp at hx
    have ih := dnum_le r h.2 (10 * a + ((x.toNat : Int) - 48)) (by omega)
    rw [dnum, List.length_cons, Int.pow_succ]
    refine ⟨ih.1, Int.lt_of_lt_of_le ih.2 ?_⟩
    have h1 : (10 * a + ((x.toNat : Int) - 48) + 1) ≤ (a + 1) * 10 := by omega
    have h2 := Int.mul_le_mul_of_nonneg_right h1 (show (0 : Int) ≤ 10 ^ r.length from Int.le_of_lt (Int.pow_pos (by decide)))
    rw [Int.mul_comm (10 ^ r.length) 10, ← Int.mul_assoc]
    exact h2
set_option maxHeartbeats 4000000 in
theorem dnumber_any (s : ByteArray) (n : Nat) (hn : n ≤ 4) (w : World) :
    Calls Tryz.prog 73 #[.string s, .int .i64 n] w fun e w' => e = .returned (.tuple #[.int .i64 (dnumL s.data.toList n).1, .string ⟨(dnumL s.data.toList n).2.1.toArray⟩, .bool (dnumL s.data.toList n).2.2]) ∧ ∃ q, w' = w.drewN q := by
  obtain ⟨R, hR⟩ : ∃ R, dnumL s.data.toList n = R := ⟨_, rfl⟩
  rw [hR]
  unfold dnumL at hR
  rw [← Lib.size_eq] at hR
  by_cases hlt : s.size < n
  · have hR2 : R = (0, [], false) := by rw [← hR]; simp [hlt]
    subst hR2
    clear hR
    go_enter Tryz.func73, Tryz.ntmps73
    go_wp2
    go_ret3
    exact ⟨rfl, 0, rfl⟩
  · have hd : decide (s.size < n) = false := by simpa using hlt
    rw [hd] at hR
    simp only [cond_false] at hR
    have HR := Lib.hid hR
    clear hR hd
    go_enter Tryz.func73, Tryz.ntmps73
    go_wp2_with fail
    go_loopw [7, 14] (fun k i wr => ∃ j : Nat, j ≤ n ∧ i = .int .i64 j ∧ (∃ v, k = .int .i64 v ∧ Hid (v = dnum (s.data.toList.take j) 0)) ∧ Hid ((s.data.toList.take j).all dg = true) ∧ wr = w) (fun _ i _ => n - (intD i).toNat)
    case atStart => exact ⟨0, Nat.zero_le _, rfl, ⟨0, rfl, Lib.hid (by simp [dnum])⟩, Lib.hid (by simp), rfl⟩
    case round =>
      obtain ⟨j, hj, rfl, ⟨v, rfl, HV⟩, HALL, rfl⟩ := hrel
      by_cases hjn : j < n
      · have hjs : j < s.size := by omega
        have hu := u8_lt s[j]
        have hts := take_snoc s j hjs
        cases hdg : dg s[j]
        · have hbad : ∃ (b : Bool), (s.data.toList.take n).all dg = false := by
            refine ⟨true, ?_⟩
            rw [List.all_eq_false]
            exact ⟨s[j], by rw [List.mem_take_iff_getElem]; exact ⟨j, by rw [← Lib.size_eq]; omega, rfl⟩, by simp [hdg]⟩
          obtain ⟨_, hbad⟩ := hbad
          have hR2 : R = (0, [], false) := by rw [← HR.out, hbad]; rfl
          have hI := dgI s[j]
          rw [hdg] at hI
          subst hR2
          have hcase : (s[j].toNat : Int) < 48 ∨ (¬ (s[j].toNat : Int) < 48 ∧ 57 < (s[j].toNat : Int)) := by
            have := hI
            simp at this
            omega
          clear hI hdg hbad hts HR
          rcases hcase with hc | ⟨hc1, hc2⟩
          · have t1 : decide ((s[j].toNat : Int) < 48) = true := by simpa using hc
            go_wp2
            go_ret3
            exact ⟨rfl, 0, rfl⟩
          · have t1 : decide ((s[j].toNat : Int) < 48) = false := by simpa using hc1
            have t2 : decide ((s[j].toNat : Int) > 57) = true := by simpa using hc2
            go_wp2
            go_ret3
            exact ⟨rfl, 0, rfl⟩
        · have hI := dgI s[j]
          rw [hdg] at hI
          have hc : 48 ≤ (s[j].toNat : Int) ∧ (s[j].toNat : Int) ≤ 57 := by
            have := hI.symm
            simp at this
            omega
          have t1 : decide ((s[j].toNat : Int) < 48) = false := by simp; omega
          have t2 : decide ((s[j].toNat : Int) > 57) = false := by simp; omega
          have hb := dnum_le (s.data.toList.take j) HALL.out 0 (by omega)
          rw [← HV.out] at hb
          have hl4 : (s.data.toList.take j).length ≤ 3 := by rw [List.length_take]; omega
          have hp : ((10 : Int)) ^ (s.data.toList.take j).length ≤ 1000 := by
            generalize (s.data.toList.take j).length = L at hl4
            have h4 : L = 0 ∨ L = 1 ∨ L = 2 ∨ L = 3 := by omega
            rcases h4 with rfl | rfl | rfl | rfl <;> decide
          have hv : 0 ≤ v ∧ v ≤ 1000 := by omega
          have hw1 : IntKind.i64.wrap (10 * v) = 10 * v := by rw [IntKind.wrap_i64]; omega
          have hw2 : IntKind.u8.wrap ((s[j].toNat : Int) - 48) = (s[j].toNat : Int) - 48 := by rw [IntKind.wrap_u8]; omega
          have hw3 : IntKind.i64.wrap ((s[j].toNat : Int) - 48) = (s[j].toNat : Int) - 48 := by rw [IntKind.wrap_i64]; omega
          have hw4 : IntKind.i64.wrap (10 * v + ((s[j].toNat : Int) - 48)) = 10 * v + ((s[j].toNat : Int) - 48) := by rw [IntKind.wrap_i64]; omega
          have hw5 : IntKind.i64.wrap ((j : Int) + 1) = ((j + 1 : Nat) : Int) := by rw [IntKind.wrap_i64]; omega
          have hnext : 10 * v + ((s[j].toNat : Int) - 48) = dnum (s.data.toList.take (j + 1)) 0 := by rw [hts, dnum_snoc, ← HV.out]
          have hall : (s.data.toList.take (j + 1)).all dg = true := by rw [hts, List.all_append, HALL.out]; simp [hdg]
          have HN := Lib.hid hnext; have HA2 := Lib.hid hall
          clear hI hdg hb hp hl4 hnext hall hts HV HALL
          go_wp2
          go_roundw
          case rel => exact ⟨j + 1, hjn, rfl, ⟨_, rfl, HN⟩, HA2, trivial⟩
          case measure => simp [intD]; omega
      · have hjn2 : j = n := by omega
        subst hjn2
        have hR2 : R = (v, s.data.toList.drop j, true) := by rw [← HR.out, HALL.out, ← HV.out]; rfl
        have hns : j ≤ s.size := by omega
        subst hR2
        have hex : s.extract j s.size = ⟨(s.data.toList.drop j).toArray⟩ := by
          apply str_eq
          rw [Lib.extract_data]
          have : (s.data.toList.drop j).length ≤ s.size - j := by rw [List.length_drop, ← Lib.size_eq]; omega
          rw [List.take_of_length_le this]
        have HEX := Lib.hid hex
        clear HR HV HALL hex
        go_wp2
        go_region
        go_wp2
        go_ret3
        exact ⟨by rw [← HEX.out]; rfl, 1, rfl⟩
end Go.Proofs.YtedmiganmifepaaGreatDoor
/- Dates: the walks of leap, long, ahead, year, two. -/
namespace Go.Proofs.YtedmiganmifepaaGreatDoor
open Go.RowKit
set_option maxRecDepth 100000

set_option maxHeartbeats 2000000 in
theorem dleap_any (y : Int) (hy : 0 ≤ y ∧ y ≤ 100000) (w : World) :
    Calls Tryz.prog 92 #[.int .i64 y] w fun e w' => e = .returned (.bool (dleap y)) ∧ w' = w := by
  have e4 : y.tmod 4 = y % 4 := Int.tmod_eq_emod_of_nonneg hy.1
  have e100 : y.tmod 100 = y % 100 := Int.tmod_eq_emod_of_nonneg hy.1
  have e400 : y.tmod 400 = y % 400 := Int.tmod_eq_emod_of_nonneg hy.1
  obtain ⟨R, hR⟩ : ∃ R, dleap y = R := ⟨_, rfl⟩
  rw [hR]
  unfold dleap at hR
  have HR := Lib.hid hR
  clear hR
  by_cases h4 : y % 4 = 0
  · by_cases h100 : y % 100 = 0
    · by_cases h400 : y % 400 = 0
      · have hx : R = true := by rw [← HR.out]; simp [h4, h100, h400]
        subst hx
        clear HR
        go_enter Tryz.func92, Tryz.ntmps92
        go_wp2
        go_ret
        exact ⟨rfl, rfl⟩
      · have hx : R = false := by rw [← HR.out]; simp [h4, h100, h400]
        subst hx
        clear HR
        go_enter Tryz.func92, Tryz.ntmps92
        go_wp2
        go_ret
        exact ⟨by first | rfl | simp [h400], rfl⟩
    · have hx : R = true := by rw [← HR.out]; simp [h4, h100]
      subst hx
      clear HR
      go_enter Tryz.func92, Tryz.ntmps92
      go_wp2
      go_ret
      exact ⟨by first | rfl | simp [h100], rfl⟩
  · have h400 : ¬ y % 400 = 0 := by omega
    have hx : R = false := by rw [← HR.out]; simp [h4, h400]
    subst hx
    clear HR
    go_enter Tryz.func92, Tryz.ntmps92
    go_wp2
    go_ret
    exact ⟨by first | rfl | simp [h400], rfl⟩
set_option maxHeartbeats 2000000 in
theorem dlong_any (y m : Int) (hy : 0 ≤ y ∧ y ≤ 100000) (w : World) :
    Calls Tryz.prog 76 #[.int .i64 y, .int .i64 m] w fun e w' => e = .returned (.int .i64 (dlong y m)) ∧ w' = w := by
  by_cases h2 : m = 2
  · subst h2
    have hx : dlong y 2 = if dleap y = true then 29 else 28 := by unfold dlong; rw [if_pos rfl]
    have k := dleap_any y hy w
    rw [hx]
    generalize dleap y = b at *
    have K := Lib.hid k
    clear k hx
    cases b
    · go_enter Tryz.func76, Tryz.ntmps76
      go_wp2_with fail
      (with_reducible refine K.out.mono ?_)
      rintro e w1 ⟨rfl, rfl⟩
      go_wp2
      go_ret
      exact ⟨rfl, rfl⟩
    · go_enter Tryz.func76, Tryz.ntmps76
      go_wp2_with fail
      (with_reducible refine K.out.mono ?_)
      rintro e w1 ⟨rfl, rfl⟩
      go_wp2
      go_ret
      exact ⟨rfl, rfl⟩
  · by_cases h4 : m = 4 ∨ m = 6 ∨ m = 9 ∨ m = 11
    · have hx : dlong y m = 30 := by unfold dlong; rw [if_neg h2, if_pos h4]
      rw [hx]
      clear hx h2
      rcases h4 with rfl | rfl | rfl | rfl
      all_goals
        go_enter Tryz.func76, Tryz.ntmps76
        go_wp2
        go_ret
        exact ⟨rfl, rfl⟩
    · have hx : dlong y m = 31 := by unfold dlong; rw [if_neg h2, if_neg h4]
      rw [hx]
      have n4 : ¬ m = 4 := fun h => h4 (by simp [h])
      have n6 : ¬ m = 6 := fun h => h4 (by simp [h])
      have n9 : ¬ m = 9 := fun h => h4 (by simp [h])
      have n11 : ¬ m = 11 := fun h => h4 (by simp [h])
      clear hx h4
      go_enter Tryz.func76, Tryz.ntmps76
      go_wp2
      go_ret
      exact ⟨rfl, rfl⟩
set_option maxHeartbeats 2000000 in
theorem dahead_any (y : Int) (hy : 1970 ≤ y ∧ y ≤ 100000) (w : World) :
    Calls Tryz.prog 77 #[.int .i64 y] w fun e w' => e = .returned (.int .i64 (dahead y)) ∧ w' = w := by
  obtain ⟨R, hR⟩ : ∃ R, dahead y = R := ⟨_, rfl⟩
  rw [hR]
  unfold dahead at hR
  have e1 : (y - 1).tdiv 4 = (y - 1) / 4 := Int.tdiv_eq_ediv_of_nonneg (by omega)
  have e2 : (y - 1).tdiv 100 = (y - 1) / 100 := Int.tdiv_eq_ediv_of_nonneg (by omega)
  have e3 : (y - 1).tdiv 400 = (y - 1) / 400 := Int.tdiv_eq_ediv_of_nonneg (by omega)
  have w0 : IntKind.i64.wrap (y - 1) = y - 1 := by rw [IntKind.wrap_i64]; omega
  have w1 : IntKind.i64.wrap (y - 1970) = y - 1970 := by rw [IntKind.wrap_i64]; omega
  have w2 : IntKind.i64.wrap (365 * (y - 1970)) = 365 * (y - 1970) := by rw [IntKind.wrap_i64]; omega
  obtain ⟨a, ha⟩ : ∃ a, (y - 1) / 4 = a := ⟨_, rfl⟩
  obtain ⟨b, hb⟩ : ∃ b, (y - 1) / 100 = b := ⟨_, rfl⟩
  obtain ⟨c, hc⟩ : ∃ c, (y - 1) / 400 = c := ⟨_, rfl⟩
  rw [ha] at e1 hR; rw [hb] at e2 hR; rw [hc] at e3 hR
  have u1 : IntKind.i64.wrap a = a := by rw [IntKind.wrap_i64]; omega
  have u2 : IntKind.i64.wrap b = b := by rw [IntKind.wrap_i64]; omega
  have u3 : IntKind.i64.wrap c = c := by rw [IntKind.wrap_i64]; omega
  have v1 : IntKind.i64.wrap (365 * (y - 1970) + a) = 365 * (y - 1970) + a := by rw [IntKind.wrap_i64]; omega
  have v2 : IntKind.i64.wrap (365 * (y - 1970) + a - b) = 365 * (y - 1970) + a - b := by rw [IntKind.wrap_i64]; omega
  have v3 : IntKind.i64.wrap (365 * (y - 1970) + a - b + c) = 365 * (y - 1970) + a - b + c := by rw [IntKind.wrap_i64]; omega
  have v4 : IntKind.i64.wrap (365 * (y - 1970) + a - b + c - 492) = 365 * (y - 1970) + a - b + c - 492 := by rw [IntKind.wrap_i64]; omega
  have v5 : IntKind.i64.wrap (365 * (y - 1970) + a - b + c - 492 + 19) = 365 * (y - 1970) + a - b + c - 492 + 19 := by rw [IntKind.wrap_i64]; omega
  have v6 : IntKind.i64.wrap (365 * (y - 1970) + a - b + c - 492 + 19 - 4) = 365 * (y - 1970) + a - b + c - 492 + 19 - 4 := by rw [IntKind.wrap_i64]; omega
  have HR := Lib.hid hR
  clear ha hb hc hR
  rw [← HR.out]
  go_enter Tryz.func77, Tryz.ntmps77
  go_wp2
  go_ret
  exact ⟨rfl, rfl⟩
set_option maxHeartbeats 4000000 in
theorem dyear_any (d : Int) (hd : 0 ≤ d ∧ d ≤ 3000000) (w : World) :
    Calls Tryz.prog 75 #[.int .i64 d] w fun e w' => e = .returned (.tuple #[.int .i64 (dyearO d).1, .int .i64 (dyearO d).2]) ∧ w' = w := by
  obtain ⟨R, hR⟩ : ∃ R, dyear 9000 d (1970 + d / 366) = R := ⟨_, rfl⟩
  have hO : dyearO d = (R, d - dahead R) := by unfold dyearO; rw [hR]
  rw [hO]
  have e1 : d.tdiv 366 = d / 366 := Int.tdiv_eq_ediv_of_nonneg hd.1
  obtain ⟨a, ha⟩ : ∃ a, d / 366 = a := ⟨_, rfl⟩
  rw [ha] at e1 hR
  have hab : 0 ≤ a ∧ a ≤ 9000 := by omega
  have w0 : IntKind.i64.wrap a = a := by rw [IntKind.wrap_i64]; omega
  have w1 : IntKind.i64.wrap (1970 + a) = 1970 + a := by rw [IntKind.wrap_i64]; omega
  have hinv0 : dahead (1970 + a) ≤ d := by have := (dahead_ge (1970 + a) (by omega)).2; omega
  have HR := Lib.hid hR
  have HI := Lib.hid hinv0
  clear hR ha hO hinv0
  go_enter Tryz.func75, Tryz.ntmps75
  go_wp2_with fail
  go_loopw [2] (fun v wr => ∃ (y : Int) (f : Nat), v = .int .i64 y ∧ 1970 ≤ y ∧ y ≤ 90000 ∧ Hid (dahead y ≤ d) ∧ Hid (dyear f d y = R) ∧ Hid (d < 365 * (y - 1970) + 365 * f) ∧ wr = w) (fun v _ => 100000 - (intD v).toNat)
  case atStart => exact ⟨1970 + a, 9000, rfl, by omega, by omega, HI, HR, Lib.hid (by omega), rfl⟩
  case round =>
    obtain ⟨y, f, rfl, hy1, hy2, HA, HY, HF, rfl⟩ := hrel
    have hy3 : y ≤ 12000 := by have := (dahead_ge y hy1).1; have := HA.out; omega
    have k1 := dahead_any (y + 1) (by omega) wr
    have k2 := dahead_any y (by omega) wr
    have w2 : IntKind.i64.wrap (y + 1) = y + 1 := by rw [IntKind.wrap_i64]; omega
    have hge := dahead_ge y hy1
    have hge1 := dahead_ge (y + 1) (by omega)
    by_cases hle : dahead (y + 1) ≤ d
    · have hnext : ∃ f', dyear f' d (y + 1) = R ∧ d < 365 * (y + 1 - 1970) + 365 * f' := by
        cases f with
        | zero => have := HF.out; omega
        | succ f =>
          refine ⟨f, ?_, by have := HF.out; omega⟩
          have := HY.out
          rw [dyear, if_pos hle] at this
          exact this
      obtain ⟨f', hn1, hn2⟩ := hnext
      have HN := Lib.hid (And.intro hn1 (And.intro hn2 hle))
      have t1 : decide (dahead (y + 1) ≤ d) = true := by simpa using hle
      have K1 := Lib.hid k1
      clear k1 k2 hge hge1 hn1 hn2 hle HY HF
      go_wp2_with fail
      (with_reducible refine K1.out.mono ?_)
      rintro e w1 ⟨rfl, rfl⟩
      go_wp2
      go_roundw
      case rel => exact ⟨y + 1, f', rfl, by omega, by omega, Lib.hid HN.out.2.2, Lib.hid HN.out.1, Lib.hid HN.out.2.1, trivial⟩
      case measure => simp [intD]; omega
    · have hyR : y = R := by
        have := HY.out
        cases f with
        | zero => exact this
        | succ f => rw [dyear, if_neg hle] at this; exact this
      subst hyR
      have t1 : decide (dahead (y + 1) ≤ d) = false := by simpa using hle
      have w3 : IntKind.i64.wrap (d - dahead y) = d - dahead y := by rw [IntKind.wrap_i64]; omega
      have K1 := Lib.hid k1
      have K2 := Lib.hid k2
      clear k1 k2 hge hge1 hle HY HF
      go_wp2_with fail
      (with_reducible refine K1.out.mono ?_)
      rintro e w1 ⟨rfl, rfl⟩
      go_wp2_with fail
      (with_reducible refine K2.out.mono ?_)
      rintro e w1 ⟨rfl, rfl⟩
      go_wp2
      go_ret2
      exact ⟨rfl, rfl⟩
end Go.Proofs.YtedmiganmifepaaGreatDoor
/- Dates: the walks of name and of the names of the days. -/
namespace Go.Proofs.YtedmiganmifepaaGreatDoor
open Go.RowKit
set_option maxRecDepth 100000

/-- What the library's own texts read. -/
def DEnv (w : World) : Prop := MaxL w ∧ 0 < w.heap.size ∧ Lib.TabIs Tryz.prog w "strings.asciiSpace" .u8 Lib.asciiSpaceTab
theorem var_heap {P : Program} {w w' : World} {name : String} {k : IntKind} {zs : List Int} {g : Nat} (hg : P.globalNamed name = some g) (h : Lib.TabIs P w name k zs) (hb : w'.heap[g]? = w.heap[g]?) : Lib.TabIs P w' name k zs := by
  unfold Lib.TabIs World.var? at *
  rw [hg] at h ⊢
  simp only [Option.bind_some] at h ⊢
  rw [hb]
  exact h
theorem DEnv.below {w w' : World} (h : DEnv w) (hb : Below w.heap.size w w') : DEnv w' :=
  ⟨h.1.below hb, Nat.lt_of_lt_of_le h.2.1 hb.size, var_heap (g := 0) (by kernel_rfl) h.2.2 (hb.block _ h.2.1)⟩
def dayS : ByteArray := ⟨#[84, 104, 117, 114, 115, 100, 97, 121, 32, 70, 114, 105, 100, 97, 121, 32, 83, 97, 116, 117, 114, 100, 97, 121, 32, 83, 117, 110, 100, 97, 121, 32, 77, 111, 110, 100, 97, 121, 32, 84, 117, 101, 115, 100, 97, 121, 32, 87, 101, 100, 110, 101, 115, 100, 97, 121]⟩
theorem fields_days : Lib.fields dayS.data.toList = ddays := by decide +kernel
theorem ddays_any (w : World) (h : DEnv w) :
    Calls Tryz.prog 72 #[.string ⟨#[84, 104, 117, 114, 115, 100, 97, 121, 32, 70, 114, 105, 100, 97, 121, 32, 83, 97, 116, 117, 114, 100, 97, 121, 32, 83, 117, 110, 100, 97, 121, 32, 77, 111, 110, 100, 97, 121, 32, 84, 117, 101, 115, 100, 97, 121, 32, 87, 101, 100, 110, 101, 115, 100, 97, 121]⟩] w fun e w' => e = .returned (.slice (some ⟨w.heap.size, 0, none⟩) 7 7) ∧ Rd (some ⟨w.heap.size, 0, none⟩) 7 1 (strsV ddays) w' ∧ Below w.heap.size w w' := by
  have k := Tryz.strings_Fields dayS w (by decide) (by
    intro j b hb
    have := List.mem_of_getElem? hb
    have hall : (dayS.data.toList.all fun b => decide (b.toNat < 128)) = true := by decide +kernel
    simpa using List.all_eq_true.1 hall b this) h.2.2
  rw [fields_days] at k
  refine k.mono ?_
  rintro e w' ⟨rfl, rfl⟩
  refine ⟨rfl, ⟨rfl, fun _ => ⟨_, 0, rfl, by simp, fun j u hu => ?_⟩⟩, (Below.refl _ w).alloc (Nat.le_refl _) _⟩
  rw [Nat.zero_add, World.cell?_alloc_mark]
  simpa [strsV] using hu
set_option maxHeartbeats 4000000 in
theorem dname0_any (s : ByteArray) (b c : Nat) (w : World) (hr : Rd (some ⟨b, 0, none⟩) 7 1 (strsV ddays) w) :
    Calls Tryz.prog 71 #[.string s, .slice (some ⟨b, 0, none⟩) 7 c, .int .i64 0] w fun e w' => e = .returned (.tuple #[.int .i64 (dname s.data.toList 0 ddays 0).1, .string ⟨(dname s.data.toList 0 ddays 0).2.1.toArray⟩, .bool (dname s.data.toList 0 ddays 0).2.2]) ∧ w' = w := by
  obtain ⟨R, hR⟩ : ∃ R, dname s.data.toList 0 ddays 0 = R := ⟨_, rfl⟩
  rw [hR]
  have hlen : ∀ x ∈ ddays, 3 ≤ x.length := by decide
  have hl7 : ddays.length = 7 := rfl
  have HR := Lib.hid hR; have HRD := Lib.hid hr; have HLEN := Lib.hid hlen; have HL7 := Lib.hid hl7
  clear hR hr hlen hl7
  generalize ddays = ls at *
  go_enter Tryz.func71, Tryz.ntmps71
  go_wp2_with fail
  go_loopw [15] (fun i wr => ∃ j : Nat, j ≤ 7 ∧ i = .int .i64 j ∧ Hid (dname s.data.toList 0 (ls.drop j) j = R) ∧ wr = w) (fun i _ => 7 - (intD i).toNat)
  case atStart => exact ⟨0, Nat.zero_le _, rfl, HR, rfl⟩
  case round =>
    obtain ⟨j, hj, rfl, HD, rfl⟩ := hrel
    by_cases hj7 : j < 7
    · have hjl : j < ls.length := by rw [HL7.out]; exact hj7
      obtain ⟨b', o', e, _, d0⟩ := HRD.out.str_at hjl
      cases e
      have h3 := HLEN.out ls[j] (List.getElem_mem hjl)
      have hdr : ls.drop j = ls[j] :: ls.drop (j + 1) := List.drop_eq_getElem_cons hjl
      have hD := HD.out
      rw [hdr, dname] at hD
      generalize ls[j] = x at *
      obtain ⟨o, rfl⟩ : ∃ o : ByteArray, x = o.data.toList := ⟨⟨x.toArray⟩, by simp⟩
      rw [str_of, Nat.zero_add] at d0
      have i2 : IntKind.i64.wrap ((j : Int) + 1) = ((j + 1 : Nat) : Int) := by rw [IntKind.wrap_i64]; omega
      have j1 : IntKind.i64.wrap (j : Int) = j := by rw [IntKind.wrap_i64]; omega
      simp only [Nat.lt_irrefl, decide_false, cond_false] at hD
      have k1 := Tryz.strings_CutPrefix s o wr
      cases hp : Lib.hasPrefix s.data.toList o.data.toList
      · rw [hp] at hD k1
        simp only [cond_false] at hD
        have HD2 := Lib.hid hD
        have K1 := Lib.hid k1
        clear hD k1 hdr h3 hjl hp HD
        go_wp2_with fail
        (with_reducible refine K1.out.mono ?_)
        rintro e w1 ⟨rfl, rfl⟩
        go_wp2
        go_roundw
        case rel => exact ⟨j + 1, hj7, rfl, HD2, trivial⟩
        case measure => simp [intD]; omega
      · rw [hp] at hD k1
        simp only [cond_true] at hD
        have htp : Lib.trimPrefix s.data.toList o.data.toList = s.data.toList.drop o.data.toList.length := by unfold Lib.trimPrefix; rw [hp]; rfl
        rw [htp] at k1
        have HD2 := Lib.hid hD
        have K1 := Lib.hid k1
        clear hD k1 hdr h3 hjl hp HD htp
        go_wp2_with fail
        (with_reducible refine K1.out.mono ?_)
        rintro e w1 ⟨rfl, rfl⟩
        go_wp2
        go_ret3
        exact ⟨by rw [← HD2.out]; rfl, rfl⟩
    · have hj2 : j = 7 := by omega
      subst hj2
      have hD := HD.out
      rw [List.drop_eq_nil_of_le (by rw [HL7.out]; exact Nat.le_refl _), dname] at hD
      have HD2 := Lib.hid hD
      clear hD
      go_wp2
      go_ret3
      exact ⟨by rw [← HD2.out]; rfl, rfl⟩
set_option maxHeartbeats 4000000 in
theorem dname3_any (s : ByteArray) (b c : Nat) (w : World) (hr : Rd (some ⟨b, 0, none⟩) 7 1 (strsV ddays) w) :
    Calls Tryz.prog 71 #[.string s, .slice (some ⟨b, 0, none⟩) 7 c, .int .i64 3] w fun e w' => e = .returned (.tuple #[.int .i64 (dname s.data.toList 3 ddays 0).1, .string ⟨(dname s.data.toList 3 ddays 0).2.1.toArray⟩, .bool (dname s.data.toList 3 ddays 0).2.2]) ∧ w' = w := by
  obtain ⟨R, hR⟩ : ∃ R, dname s.data.toList 3 ddays 0 = R := ⟨_, rfl⟩
  rw [hR]
  have hlen : ∀ x ∈ ddays, 3 ≤ x.length := by decide
  have hl7 : ddays.length = 7 := rfl
  have HR := Lib.hid hR; have HRD := Lib.hid hr; have HLEN := Lib.hid hlen; have HL7 := Lib.hid hl7
  clear hR hr hlen hl7
  generalize ddays = ls at *
  go_enter Tryz.func71, Tryz.ntmps71
  go_wp2_with fail
  go_loopw [15] (fun i wr => ∃ j : Nat, j ≤ 7 ∧ i = .int .i64 j ∧ Hid (dname s.data.toList 3 (ls.drop j) j = R) ∧ wr = w) (fun i _ => 7 - (intD i).toNat)
  case atStart => exact ⟨0, Nat.zero_le _, rfl, HR, rfl⟩
  case round =>
    obtain ⟨j, hj, rfl, HD, rfl⟩ := hrel
    by_cases hj7 : j < 7
    · have hjl : j < ls.length := by rw [HL7.out]; exact hj7
      obtain ⟨b', o', e, _, d0⟩ := HRD.out.str_at hjl
      cases e
      have h3 := HLEN.out ls[j] (List.getElem_mem hjl)
      have hdr : ls.drop j = ls[j] :: ls.drop (j + 1) := List.drop_eq_getElem_cons hjl
      have hD := HD.out
      rw [hdr, dname] at hD
      generalize ls[j] = x at *
      obtain ⟨o, rfl⟩ : ∃ o : ByteArray, x = o.data.toList := ⟨⟨x.toArray⟩, by simp⟩
      rw [str_of, Nat.zero_add] at d0
      have i2 : IntKind.i64.wrap ((j : Int) + 1) = ((j + 1 : Nat) : Int) := by rw [IntKind.wrap_i64]; omega
      have j1 : IntKind.i64.wrap (j : Int) = j := by rw [IntKind.wrap_i64]; omega
      have hdec : decide (0 < 3) = true := rfl
      simp only [hdec, cond_true] at hD
      have hex : (o.extract 0 3).data.toList = o.data.toList.take 3 := by rw [Lib.extract_data]; simp
      have k1 := Tryz.strings_CutPrefix s (o.extract 0 3) wr
      rw [hex] at k1
      have hl3 : (o.data.toList.take 3).length = 3 := by rw [List.length_take]; omega
      rw [hl3] at hD
      have h3s : 3 ≤ o.size := by rw [Lib.size_eq]; exact h3
      cases hp : Lib.hasPrefix s.data.toList (o.data.toList.take 3)
      · rw [hp] at hD k1
        simp only [cond_false] at hD
        have HD2 := Lib.hid hD
        have K1 := Lib.hid k1
        clear hD k1 hdr h3 hjl hp HD hex hl3
        go_wp2_with fail
        (with_reducible refine K1.out.mono ?_)
        rintro e w1 ⟨rfl, rfl⟩
        go_wp2
        go_roundw
        case rel => exact ⟨j + 1, hj7, rfl, HD2, trivial⟩
        case measure => simp [intD]; omega
      · rw [hp] at hD k1
        simp only [cond_true] at hD
        have htp : Lib.trimPrefix s.data.toList (o.data.toList.take 3) = s.data.toList.drop (o.data.toList.take 3).length := by unfold Lib.trimPrefix; rw [hp]; rfl
        rw [htp, hl3] at k1
        have HD2 := Lib.hid hD
        have K1 := Lib.hid k1
        clear hD k1 hdr h3 hjl hp HD htp hex hl3
        go_wp2_with fail
        (with_reducible refine K1.out.mono ?_)
        rintro e w1 ⟨rfl, rfl⟩
        go_wp2
        go_ret3
        exact ⟨by rw [← HD2.out]; rfl, rfl⟩
    · have hj2 : j = 7 := by omega
      subst hj2
      have hD := HD.out
      rw [List.drop_eq_nil_of_le (by rw [HL7.out]; exact Nat.le_refl _), dname] at hD
      have HD2 := Lib.hid hD
      clear hD
      go_wp2
      go_ret3
      exact ⟨by rw [← HD2.out]; rfl, rfl⟩
end Go.Proofs.YtedmiganmifepaaGreatDoor
/- Dates: the walk of take, piece by piece (printed by wip/tools/date4.py). -/
namespace Go.Proofs.YtedmiganmifepaaGreatDoor
open Go.RowKit
set_option maxRecDepth 100000

/-- Nothing that was there turned, but for this block. -/
def ButB (mb : Nat) (w w' : World) : Prop := w'.os = w.os ∧ w'.tape = w.tape ∧ w'.output = w.output ∧ w.heap.size ≤ w'.heap.size ∧ ∀ b, b < w.heap.size → b ≠ mb → w'.heap[b]? = w.heap[b]?
theorem ButB.refl (mb : Nat) (w : World) : ButB mb w w := ⟨rfl, rfl, rfl, Nat.le_refl _, fun _ _ _ => rfl⟩
theorem ButB.ofBelow {mb : Nat} {w w' : World} (h : Below w.heap.size w w') : ButB mb w w' := ⟨h.os, h.tape, h.output, h.size, fun b hb _ => h.block b hb⟩
theorem ButB.trans {mb : Nat} {w w1 w' : World} (h : ButB mb w w1) (h2 : ButB mb w1 w') : ButB mb w w' :=
  ⟨h2.1.trans h.1, h2.2.1.trans h.2.1, h2.2.2.1.trans h.2.2.1, Nat.le_trans h.2.2.2.1 h2.2.2.2.1, fun b hb hn => (h2.2.2.2.2 b (Nat.lt_of_lt_of_le hb h.2.2.2.1) hn).trans (h.2.2.2.2 b hb hn)⟩
theorem ButB.set (mb j q : Nat) (w : World) (v : Value) : ButB mb w ((w.drewN q).setCell ⟨mb, j, none⟩ v) :=
  ⟨rfl, rfl, rfl, by simp, fun b _ hn => by simp [World.setCell, Array.getElem?_modify]; intro h; exact absurd h.symm hn⟩
theorem ButB.below {mb B : Nat} {w w' : World} (h : ButB mb w w') (hB : B ≤ mb) (hw : B ≤ w.heap.size) : Below B w w' := ⟨h.1, h.2.1, h.2.2.1, h.2.2.2.1, fun b hb => h.2.2.2.2 b (by omega) (by omega)⟩
def MomAt (mb : Nat) (m : Mom) (w : World) : Prop := w.heap[mb]? = some (.cells #[.int .i64 m.wd, .int .i64 m.day, .int .i64 m.month, .int .i64 m.year, .int .i64 m.hour, .int .i64 m.minute, .int .i64 m.second, .bool m.two] 87 (0, 0))
theorem MomAt.lt {mb : Nat} {m : Mom} {w : World} (h : MomAt mb m w) : mb < w.heap.size := by
  unfold MomAt at h
  rcases Nat.lt_or_ge mb w.heap.size with h' | h'
  · exact h'
  · simp [Array.getElem?_eq_none h'] at h
theorem MomAt.cells {mb : Nat} {m : Mom} {w : World} (h : MomAt mb m w) : w.cell? ⟨mb, 0, none⟩ = some (.int .i64 m.wd) ∧ w.cell? ⟨mb, 1, none⟩ = some (.int .i64 m.day) ∧ w.cell? ⟨mb, 2, none⟩ = some (.int .i64 m.month) ∧ w.cell? ⟨mb, 3, none⟩ = some (.int .i64 m.year) ∧ w.cell? ⟨mb, 4, none⟩ = some (.int .i64 m.hour) ∧ w.cell? ⟨mb, 5, none⟩ = some (.int .i64 m.minute) ∧ w.cell? ⟨mb, 6, none⟩ = some (.int .i64 m.second) ∧ w.cell? ⟨mb, 7, none⟩ = some (.bool m.two) ∧ ∀ j, w.frozen? ⟨mb, j, none⟩ = false := by
  unfold MomAt at h
  refine ⟨?_, ?_, ?_, ?_, ?_, ?_, ?_, ?_, fun j => ?_⟩ <;> first | simp [World.cell?, h] | simp [World.frozen?, h]
theorem MomAt.below {mb : Nat} {m : Mom} {w w' : World} (h : MomAt mb m w) (hb : Below w.heap.size w w') : MomAt mb m w' := (hb.block mb h.lt).trans h
theorem MomAt.set0 {mb q : Nat} {m : Mom} {w : World} (h : MomAt mb m w) (v : Int) : MomAt mb { m with wd := v } ((w.drewN q).setCell ⟨mb, 0, none⟩ (.int .i64 v)) := by
  unfold MomAt at *
  simp [World.setCell, Array.getElem?_modify, h]
theorem MomAt.set1 {mb q : Nat} {m : Mom} {w : World} (h : MomAt mb m w) (v : Int) : MomAt mb { m with day := v } ((w.drewN q).setCell ⟨mb, 1, none⟩ (.int .i64 v)) := by
  unfold MomAt at *
  simp [World.setCell, Array.getElem?_modify, h]
theorem MomAt.set2 {mb q : Nat} {m : Mom} {w : World} (h : MomAt mb m w) (v : Int) : MomAt mb { m with month := v } ((w.drewN q).setCell ⟨mb, 2, none⟩ (.int .i64 v)) := by
  unfold MomAt at *
  simp [World.setCell, Array.getElem?_modify, h]
theorem MomAt.set3 {mb q : Nat} {m : Mom} {w : World} (h : MomAt mb m w) (v : Int) : MomAt mb { m with year := v } ((w.drewN q).setCell ⟨mb, 3, none⟩ (.int .i64 v)) := by
  unfold MomAt at *
  simp [World.setCell, Array.getElem?_modify, h]
theorem MomAt.set4 {mb q : Nat} {m : Mom} {w : World} (h : MomAt mb m w) (v : Int) : MomAt mb { m with hour := v } ((w.drewN q).setCell ⟨mb, 4, none⟩ (.int .i64 v)) := by
  unfold MomAt at *
  simp [World.setCell, Array.getElem?_modify, h]
theorem MomAt.set5 {mb q : Nat} {m : Mom} {w : World} (h : MomAt mb m w) (v : Int) : MomAt mb { m with minute := v } ((w.drewN q).setCell ⟨mb, 5, none⟩ (.int .i64 v)) := by
  unfold MomAt at *
  simp [World.setCell, Array.getElem?_modify, h]
theorem MomAt.set6 {mb q : Nat} {m : Mom} {w : World} (h : MomAt mb m w) (v : Int) : MomAt mb { m with second := v } ((w.drewN q).setCell ⟨mb, 6, none⟩ (.int .i64 v)) := by
  unfold MomAt at *
  simp [World.setCell, Array.getElem?_modify, h]
theorem MomAt.set7 {mb q : Nat} {m : Mom} {w : World} (h : MomAt mb m w) (v : Bool) : MomAt mb { m with two := v } ((w.drewN q).setCell ⟨mb, 7, none⟩ (.bool v)) := by
  unfold MomAt at *
  simp [World.setCell, Array.getElem?_modify, h]
set_option maxHeartbeats 4000000 in
theorem dtake68_any (mb : Nat) (m : Mom) (s : ByteArray) (w : World) (_hE : DEnv w) (hm : MomAt mb m w) :
    Calls Tryz.prog 52 #[.pointer (some ⟨mb, 0, none⟩), .int .i32 68, .string s] w fun e w' => e = .returned (.tuple #[.string ⟨(dtake m 68 s.data.toList).2.1.toArray⟩, .bool (dtake m 68 s.data.toList).2.2]) ∧ ButB mb w w' ∧ MomAt mb (dtake m 68 s.data.toList).1 w' := by
  have hd : dtake m 68 s.data.toList = ({ m with day := (dnumL s.data.toList 2).1 }, (dnumL s.data.toList 2).2) := by unfold dtake; simp
  rw [hd]
  have k := dnumber_any s 2 (by decide) w
  rw [show ((2 : Nat) : Int) = 2 from rfl] at k
  generalize dnumL s.data.toList 2 = r at *
  obtain ⟨v, rest, is⟩ := r
  simp only at k ⊢
  obtain ⟨c0, c1, c2, c3, c4, c5, c6, c7, hf⟩ := hm.cells
  have f1 := hf 1
  have K := Lib.hid k; have HM := Lib.hid hm
  clear k hm hd hf
  go_enter Tryz.func52, Tryz.ntmps52
  go_wp2_with fail
  (with_reducible refine K.out.mono ?_)
  rintro e w1 ⟨rfl, q, rfl⟩
  go_wp2
  go_ret2
  exact ⟨rfl, ButB.set mb 1 q w _, HM.out.set1 (q := q) v⟩
set_option maxHeartbeats 4000000 in
theorem dtake89_any (mb : Nat) (m : Mom) (s : ByteArray) (w : World) (_hE : DEnv w) (hm : MomAt mb m w) :
    Calls Tryz.prog 52 #[.pointer (some ⟨mb, 0, none⟩), .int .i32 89, .string s] w fun e w' => e = .returned (.tuple #[.string ⟨(dtake m 89 s.data.toList).2.1.toArray⟩, .bool (dtake m 89 s.data.toList).2.2]) ∧ ButB mb w w' ∧ MomAt mb (dtake m 89 s.data.toList).1 w' := by
  have hd : dtake m 89 s.data.toList = ({ m with year := (dnumL s.data.toList 4).1 }, (dnumL s.data.toList 4).2) := by unfold dtake; simp
  rw [hd]
  have k := dnumber_any s 4 (by decide) w
  rw [show ((4 : Nat) : Int) = 4 from rfl] at k
  generalize dnumL s.data.toList 4 = r at *
  obtain ⟨v, rest, is⟩ := r
  simp only at k ⊢
  obtain ⟨c0, c1, c2, c3, c4, c5, c6, c7, hf⟩ := hm.cells
  have f3 := hf 3
  have K := Lib.hid k; have HM := Lib.hid hm
  clear k hm hd hf
  go_enter Tryz.func52, Tryz.ntmps52
  go_wp2_with fail
  (with_reducible refine K.out.mono ?_)
  rintro e w1 ⟨rfl, q, rfl⟩
  go_wp2
  go_ret2
  exact ⟨rfl, ButB.set mb 3 q w _, HM.out.set3 (q := q) v⟩
set_option maxHeartbeats 4000000 in
theorem dtake121_any (mb : Nat) (m : Mom) (s : ByteArray) (w : World) (_hE : DEnv w) (hm : MomAt mb m w) :
    Calls Tryz.prog 52 #[.pointer (some ⟨mb, 0, none⟩), .int .i32 121, .string s] w fun e w' => e = .returned (.tuple #[.string ⟨(dtake m 121 s.data.toList).2.1.toArray⟩, .bool (dtake m 121 s.data.toList).2.2]) ∧ ButB mb w w' ∧ MomAt mb (dtake m 121 s.data.toList).1 w' := by
  have hd : dtake m 121 s.data.toList = ({ m with year := (dnumL s.data.toList 2).1, two := true }, (dnumL s.data.toList 2).2) := by unfold dtake; simp
  rw [hd]
  have k := dnumber_any s 2 (by decide) w
  rw [show ((2 : Nat) : Int) = 2 from rfl] at k
  generalize dnumL s.data.toList 2 = r at *
  obtain ⟨v, rest, is⟩ := r
  simp only at k ⊢
  obtain ⟨c0, c1, c2, c3, c4, c5, c6, c7, hf⟩ := hm.cells
  have f3 := hf 3
  have f7 := hf 7
  have K := Lib.hid k; have HM := Lib.hid hm
  clear k hm hd hf
  go_enter Tryz.func52, Tryz.ntmps52
  go_wp2_with fail
  (with_reducible refine K.out.mono ?_)
  rintro e w1 ⟨rfl, q, rfl⟩
  have c7' : ((w.drewN q).setCell ⟨mb, 3, none⟩ (.int .i64 v)).cell? ⟨mb, 7, none⟩ = some (.bool m.two) := by
    rw [World.cell?_setCell_other _ _ _ _ (by intro e; cases e)]; exact c7
  have f7' : ((w.drewN q).setCell ⟨mb, 3, none⟩ (.int .i64 v)).frozen? ⟨mb, 7, none⟩ = false := by rw [World.frozen?_setCell]; exact f7
  go_wp2
  go_ret2
  exact ⟨rfl, (ButB.set mb 3 q w _).trans (ButB.set mb 7 0 _ _), MomAt.set7 (q := 0) (HM.out.set3 (q := q) v) true⟩
set_option maxHeartbeats 4000000 in
theorem dtake72_any (mb : Nat) (m : Mom) (s : ByteArray) (w : World) (_hE : DEnv w) (hm : MomAt mb m w) :
    Calls Tryz.prog 52 #[.pointer (some ⟨mb, 0, none⟩), .int .i32 72, .string s] w fun e w' => e = .returned (.tuple #[.string ⟨(dtake m 72 s.data.toList).2.1.toArray⟩, .bool (dtake m 72 s.data.toList).2.2]) ∧ ButB mb w w' ∧ MomAt mb (dtake m 72 s.data.toList).1 w' := by
  have hd : dtake m 72 s.data.toList = ({ m with hour := (dnumL s.data.toList 2).1 }, (dnumL s.data.toList 2).2) := by unfold dtake; simp
  rw [hd]
  have k := dnumber_any s 2 (by decide) w
  rw [show ((2 : Nat) : Int) = 2 from rfl] at k
  generalize dnumL s.data.toList 2 = r at *
  obtain ⟨v, rest, is⟩ := r
  simp only at k ⊢
  obtain ⟨c0, c1, c2, c3, c4, c5, c6, c7, hf⟩ := hm.cells
  have f4 := hf 4
  have K := Lib.hid k; have HM := Lib.hid hm
  clear k hm hd hf
  go_enter Tryz.func52, Tryz.ntmps52
  go_wp2_with fail
  (with_reducible refine K.out.mono ?_)
  rintro e w1 ⟨rfl, q, rfl⟩
  go_wp2
  go_ret2
  exact ⟨rfl, ButB.set mb 4 q w _, HM.out.set4 (q := q) v⟩
set_option maxHeartbeats 4000000 in
theorem dtake73_any (mb : Nat) (m : Mom) (s : ByteArray) (w : World) (_hE : DEnv w) (hm : MomAt mb m w) :
    Calls Tryz.prog 52 #[.pointer (some ⟨mb, 0, none⟩), .int .i32 73, .string s] w fun e w' => e = .returned (.tuple #[.string ⟨(dtake m 73 s.data.toList).2.1.toArray⟩, .bool (dtake m 73 s.data.toList).2.2]) ∧ ButB mb w w' ∧ MomAt mb (dtake m 73 s.data.toList).1 w' := by
  have hd : dtake m 73 s.data.toList = ({ m with minute := (dnumL s.data.toList 2).1 }, (dnumL s.data.toList 2).2) := by unfold dtake; simp
  rw [hd]
  have k := dnumber_any s 2 (by decide) w
  rw [show ((2 : Nat) : Int) = 2 from rfl] at k
  generalize dnumL s.data.toList 2 = r at *
  obtain ⟨v, rest, is⟩ := r
  simp only at k ⊢
  obtain ⟨c0, c1, c2, c3, c4, c5, c6, c7, hf⟩ := hm.cells
  have f5 := hf 5
  have K := Lib.hid k; have HM := Lib.hid hm
  clear k hm hd hf
  go_enter Tryz.func52, Tryz.ntmps52
  go_wp2_with fail
  (with_reducible refine K.out.mono ?_)
  rintro e w1 ⟨rfl, q, rfl⟩
  go_wp2
  go_ret2
  exact ⟨rfl, ButB.set mb 5 q w _, HM.out.set5 (q := q) v⟩
set_option maxHeartbeats 4000000 in
theorem dtake83_any (mb : Nat) (m : Mom) (s : ByteArray) (w : World) (_hE : DEnv w) (hm : MomAt mb m w) :
    Calls Tryz.prog 52 #[.pointer (some ⟨mb, 0, none⟩), .int .i32 83, .string s] w fun e w' => e = .returned (.tuple #[.string ⟨(dtake m 83 s.data.toList).2.1.toArray⟩, .bool (dtake m 83 s.data.toList).2.2]) ∧ ButB mb w w' ∧ MomAt mb (dtake m 83 s.data.toList).1 w' := by
  have hd : dtake m 83 s.data.toList = ({ m with second := (dnumL s.data.toList 2).1 }, (dnumL s.data.toList 2).2) := by unfold dtake; simp
  rw [hd]
  have k := dnumber_any s 2 (by decide) w
  rw [show ((2 : Nat) : Int) = 2 from rfl] at k
  generalize dnumL s.data.toList 2 = r at *
  obtain ⟨v, rest, is⟩ := r
  simp only at k ⊢
  obtain ⟨c0, c1, c2, c3, c4, c5, c6, c7, hf⟩ := hm.cells
  have f6 := hf 6
  have K := Lib.hid k; have HM := Lib.hid hm
  clear k hm hd hf
  go_enter Tryz.func52, Tryz.ntmps52
  go_wp2_with fail
  (with_reducible refine K.out.mono ?_)
  rintro e w1 ⟨rfl, q, rfl⟩
  go_wp2
  go_ret2
  exact ⟨rfl, ButB.set mb 6 q w _, HM.out.set6 (q := q) v⟩
set_option maxHeartbeats 4000000 in
theorem dtake119_any (mb : Nat) (m : Mom) (s : ByteArray) (w : World) (hE : DEnv w) (hm : MomAt mb m w) :
    Calls Tryz.prog 52 #[.pointer (some ⟨mb, 0, none⟩), .int .i32 119, .string s] w fun e w' => e = .returned (.tuple #[.string ⟨(dtake m 119 s.data.toList).2.1.toArray⟩, .bool (dtake m 119 s.data.toList).2.2]) ∧ ButB mb w w' ∧ MomAt mb (dtake m 119 s.data.toList).1 w' := by
  have hd : dtake m 119 s.data.toList = ({ m with wd := (dname s.data.toList 3 ddays 0).1 }, (dname s.data.toList 3 ddays 0).2) := by unfold dtake; simp
  rw [hd]
  have k0 := ddays_any w hE
  have k := fun w' hr => dname3_any s w.heap.size 7 w' hr
  generalize dname s.data.toList 3 ddays 0 = r at *
  obtain ⟨v, rest, is⟩ := r
  simp only at k ⊢
  have K0 := Lib.hid k0; have K := Lib.hid k; have HM := Lib.hid hm
  clear k0 k hm hd hE
  go_enter Tryz.func52, Tryz.ntmps52
  go_wp2_with fail
  (with_reducible refine K0.out.mono ?_)
  rintro e w1 ⟨rfl, hr, hb⟩
  have k1 := K.out w1 hr
  have hm1 := HM.out.below hb
  obtain ⟨c0, _, _, _, _, _, _, _, hf⟩ := hm1.cells
  have f0 := hf 0
  have K1 := Lib.hid k1; have HM1 := Lib.hid hm1; have HB := Lib.hid hb
  clear k1 hm1 hr hb hf
  go_wp2_with fail
  (with_reducible refine K1.out.mono ?_)
  rintro e w2 ⟨rfl, rfl⟩
  go_wp2
  go_ret2
  exact ⟨rfl, (ButB.ofBelow HB.out).trans (ButB.set mb 0 0 _ _), HM1.out.set0 (q := 0) v⟩
set_option maxHeartbeats 4000000 in
theorem dtake87_any (mb : Nat) (m : Mom) (s : ByteArray) (w : World) (hE : DEnv w) (hm : MomAt mb m w) :
    Calls Tryz.prog 52 #[.pointer (some ⟨mb, 0, none⟩), .int .i32 87, .string s] w fun e w' => e = .returned (.tuple #[.string ⟨(dtake m 87 s.data.toList).2.1.toArray⟩, .bool (dtake m 87 s.data.toList).2.2]) ∧ ButB mb w w' ∧ MomAt mb (dtake m 87 s.data.toList).1 w' := by
  have hd : dtake m 87 s.data.toList = ({ m with wd := (dname s.data.toList 0 ddays 0).1 }, (dname s.data.toList 0 ddays 0).2) := by unfold dtake; simp
  rw [hd]
  have k0 := ddays_any w hE
  have k := fun w' hr => dname0_any s w.heap.size 7 w' hr
  generalize dname s.data.toList 0 ddays 0 = r at *
  obtain ⟨v, rest, is⟩ := r
  simp only at k ⊢
  have K0 := Lib.hid k0; have K := Lib.hid k; have HM := Lib.hid hm
  clear k0 k hm hd hE
  go_enter Tryz.func52, Tryz.ntmps52
  go_wp2_with fail
  (with_reducible refine K0.out.mono ?_)
  rintro e w1 ⟨rfl, hr, hb⟩
  have k1 := K.out w1 hr
  have hm1 := HM.out.below hb
  obtain ⟨c0, _, _, _, _, _, _, _, hf⟩ := hm1.cells
  have f0 := hf 0
  have K1 := Lib.hid k1; have HM1 := Lib.hid hm1; have HB := Lib.hid hb
  clear k1 hm1 hr hb hf
  go_wp2_with fail
  (with_reducible refine K1.out.mono ?_)
  rintro e w2 ⟨rfl, rfl⟩
  go_wp2
  go_ret2
  exact ⟨rfl, (ButB.ofBelow HB.out).trans (ButB.set mb 0 0 _ _), HM1.out.set0 (q := 0) v⟩
set_option maxHeartbeats 4000000 in
theorem dtake44_any (mb : Nat) (m : Mom) (s : ByteArray) (w : World) (_hE : DEnv w) (hm : MomAt mb m w) :
    Calls Tryz.prog 52 #[.pointer (some ⟨mb, 0, none⟩), .int .i32 44, .string s] w fun e w' => e = .returned (.tuple #[.string ⟨(dtake m 44 s.data.toList).2.1.toArray⟩, .bool (dtake m 44 s.data.toList).2.2]) ∧ ButB mb w w' ∧ MomAt mb (dtake m 44 s.data.toList).1 w' := by
  have hd : dtake m 44 s.data.toList = (if Lib.hasPrefix s.data.toList [44] = true then (m, s.data.toList.drop 1, true) else (m, s.data.toList, false)) := by unfold dtake; simp
  rw [hd]
  have k := Tryz.strings_CutPrefix s ⟨#[44]⟩ w
  have e1 : (⟨#[44]⟩ : ByteArray).data.toList = [44] := rfl
  rw [e1] at k
  unfold Lib.trimPrefix at k
  rw [show ([44] : List UInt8).length = 1 from rfl] at k
  generalize s.data.toList.drop 1 = dr at *
  cases hp : Lib.hasPrefix s.data.toList [44]
  all_goals
    rw [hp] at k
    simp only [Bool.false_eq_true, if_false, if_true] at k ⊢
    have K := Lib.hid k; have HM := Lib.hid hm
    clear k hm hd hp e1
    go_enter Tryz.func52, Tryz.ntmps52
    go_wp2_with fail
    rw [show Utf8.encode 44 = ⟨#[44]⟩ from by decide +kernel]
    (with_reducible refine K.out.mono ?_)
    rintro e w1 ⟨rfl, rfl⟩
    go_wp2
    go_ret2
    exact ⟨rfl, ButB.refl _ _, HM.out⟩
set_option maxHeartbeats 4000000 in
theorem dtake32_any (mb : Nat) (m : Mom) (s : ByteArray) (w : World) (_hE : DEnv w) (hm : MomAt mb m w) :
    Calls Tryz.prog 52 #[.pointer (some ⟨mb, 0, none⟩), .int .i32 32, .string s] w fun e w' => e = .returned (.tuple #[.string ⟨(dtake m 32 s.data.toList).2.1.toArray⟩, .bool (dtake m 32 s.data.toList).2.2]) ∧ ButB mb w w' ∧ MomAt mb (dtake m 32 s.data.toList).1 w' := by
  have hd : dtake m 32 s.data.toList = (if Lib.hasPrefix s.data.toList [32] = true then (m, s.data.toList.drop 1, true) else (m, s.data.toList, false)) := by unfold dtake; simp
  rw [hd]
  have k := Tryz.strings_CutPrefix s ⟨#[32]⟩ w
  have e1 : (⟨#[32]⟩ : ByteArray).data.toList = [32] := rfl
  rw [e1] at k
  unfold Lib.trimPrefix at k
  rw [show ([32] : List UInt8).length = 1 from rfl] at k
  generalize s.data.toList.drop 1 = dr at *
  cases hp : Lib.hasPrefix s.data.toList [32]
  all_goals
    rw [hp] at k
    simp only [Bool.false_eq_true, if_false, if_true] at k ⊢
    have K := Lib.hid k; have HM := Lib.hid hm
    clear k hm hd hp e1
    go_enter Tryz.func52, Tryz.ntmps52
    go_wp2_with fail
    rw [show Utf8.encode 32 = ⟨#[32]⟩ from by decide +kernel]
    (with_reducible refine K.out.mono ?_)
    rintro e w1 ⟨rfl, rfl⟩
    go_wp2
    go_ret2
    exact ⟨rfl, ButB.refl _ _, HM.out⟩
set_option maxHeartbeats 4000000 in
theorem dtake58_any (mb : Nat) (m : Mom) (s : ByteArray) (w : World) (_hE : DEnv w) (hm : MomAt mb m w) :
    Calls Tryz.prog 52 #[.pointer (some ⟨mb, 0, none⟩), .int .i32 58, .string s] w fun e w' => e = .returned (.tuple #[.string ⟨(dtake m 58 s.data.toList).2.1.toArray⟩, .bool (dtake m 58 s.data.toList).2.2]) ∧ ButB mb w w' ∧ MomAt mb (dtake m 58 s.data.toList).1 w' := by
  have hd : dtake m 58 s.data.toList = (if Lib.hasPrefix s.data.toList [58] = true then (m, s.data.toList.drop 1, true) else (m, s.data.toList, false)) := by unfold dtake; simp
  rw [hd]
  have k := Tryz.strings_CutPrefix s ⟨#[58]⟩ w
  have e1 : (⟨#[58]⟩ : ByteArray).data.toList = [58] := rfl
  rw [e1] at k
  unfold Lib.trimPrefix at k
  rw [show ([58] : List UInt8).length = 1 from rfl] at k
  generalize s.data.toList.drop 1 = dr at *
  cases hp : Lib.hasPrefix s.data.toList [58]
  all_goals
    rw [hp] at k
    simp only [Bool.false_eq_true, if_false, if_true] at k ⊢
    have K := Lib.hid k; have HM := Lib.hid hm
    clear k hm hd hp e1
    go_enter Tryz.func52, Tryz.ntmps52
    go_wp2_with fail
    rw [show Utf8.encode 58 = ⟨#[58]⟩ from by decide +kernel]
    (with_reducible refine K.out.mono ?_)
    rintro e w1 ⟨rfl, rfl⟩
    go_wp2
    go_ret2
    exact ⟨rfl, ButB.refl _ _, HM.out⟩
set_option maxHeartbeats 4000000 in
theorem dtake71_any (mb : Nat) (m : Mom) (s : ByteArray) (w : World) (_hE : DEnv w) (hm : MomAt mb m w) :
    Calls Tryz.prog 52 #[.pointer (some ⟨mb, 0, none⟩), .int .i32 71, .string s] w fun e w' => e = .returned (.tuple #[.string ⟨(dtake m 71 s.data.toList).2.1.toArray⟩, .bool (dtake m 71 s.data.toList).2.2]) ∧ ButB mb w w' ∧ MomAt mb (dtake m 71 s.data.toList).1 w' := by
  have hd : dtake m 71 s.data.toList = (if Lib.hasPrefix s.data.toList [71] = true then (m, s.data.toList.drop 1, true) else (m, s.data.toList, false)) := by unfold dtake; simp
  rw [hd]
  have k := Tryz.strings_CutPrefix s ⟨#[71]⟩ w
  have e1 : (⟨#[71]⟩ : ByteArray).data.toList = [71] := rfl
  rw [e1] at k
  unfold Lib.trimPrefix at k
  rw [show ([71] : List UInt8).length = 1 from rfl] at k
  generalize s.data.toList.drop 1 = dr at *
  cases hp : Lib.hasPrefix s.data.toList [71]
  all_goals
    rw [hp] at k
    simp only [Bool.false_eq_true, if_false, if_true] at k ⊢
    have K := Lib.hid k; have HM := Lib.hid hm
    clear k hm hd hp e1
    go_enter Tryz.func52, Tryz.ntmps52
    go_wp2_with fail
    rw [show Utf8.encode 71 = ⟨#[71]⟩ from by decide +kernel]
    (with_reducible refine K.out.mono ?_)
    rintro e w1 ⟨rfl, rfl⟩
    go_wp2
    go_ret2
    exact ⟨rfl, ButB.refl _ _, HM.out⟩
set_option maxHeartbeats 4000000 in
theorem dtake77_any (mb : Nat) (m : Mom) (s : ByteArray) (w : World) (_hE : DEnv w) (hm : MomAt mb m w) :
    Calls Tryz.prog 52 #[.pointer (some ⟨mb, 0, none⟩), .int .i32 77, .string s] w fun e w' => e = .returned (.tuple #[.string ⟨(dtake m 77 s.data.toList).2.1.toArray⟩, .bool (dtake m 77 s.data.toList).2.2]) ∧ ButB mb w w' ∧ MomAt mb (dtake m 77 s.data.toList).1 w' := by
  have hd : dtake m 77 s.data.toList = (if Lib.hasPrefix s.data.toList [77] = true then (m, s.data.toList.drop 1, true) else (m, s.data.toList, false)) := by unfold dtake; simp
  rw [hd]
  have k := Tryz.strings_CutPrefix s ⟨#[77]⟩ w
  have e1 : (⟨#[77]⟩ : ByteArray).data.toList = [77] := rfl
  rw [e1] at k
  unfold Lib.trimPrefix at k
  rw [show ([77] : List UInt8).length = 1 from rfl] at k
  generalize s.data.toList.drop 1 = dr at *
  cases hp : Lib.hasPrefix s.data.toList [77]
  all_goals
    rw [hp] at k
    simp only [Bool.false_eq_true, if_false, if_true] at k ⊢
    have K := Lib.hid k; have HM := Lib.hid hm
    clear k hm hd hp e1
    go_enter Tryz.func52, Tryz.ntmps52
    go_wp2_with fail
    rw [show Utf8.encode 77 = ⟨#[77]⟩ from by decide +kernel]
    (with_reducible refine K.out.mono ?_)
    rintro e w1 ⟨rfl, rfl⟩
    go_wp2
    go_ret2
    exact ⟨rfl, ButB.refl _ _, HM.out⟩
set_option maxHeartbeats 4000000 in
theorem dtake84_any (mb : Nat) (m : Mom) (s : ByteArray) (w : World) (_hE : DEnv w) (hm : MomAt mb m w) :
    Calls Tryz.prog 52 #[.pointer (some ⟨mb, 0, none⟩), .int .i32 84, .string s] w fun e w' => e = .returned (.tuple #[.string ⟨(dtake m 84 s.data.toList).2.1.toArray⟩, .bool (dtake m 84 s.data.toList).2.2]) ∧ ButB mb w w' ∧ MomAt mb (dtake m 84 s.data.toList).1 w' := by
  have hd : dtake m 84 s.data.toList = (if Lib.hasPrefix s.data.toList [84] = true then (m, s.data.toList.drop 1, true) else (m, s.data.toList, false)) := by unfold dtake; simp
  rw [hd]
  have k := Tryz.strings_CutPrefix s ⟨#[84]⟩ w
  have e1 : (⟨#[84]⟩ : ByteArray).data.toList = [84] := rfl
  rw [e1] at k
  unfold Lib.trimPrefix at k
  rw [show ([84] : List UInt8).length = 1 from rfl] at k
  generalize s.data.toList.drop 1 = dr at *
  cases hp : Lib.hasPrefix s.data.toList [84]
  all_goals
    rw [hp] at k
    simp only [Bool.false_eq_true, if_false, if_true] at k ⊢
    have K := Lib.hid k; have HM := Lib.hid hm
    clear k hm hd hp e1
    go_enter Tryz.func52, Tryz.ntmps52
    go_wp2_with fail
    rw [show Utf8.encode 84 = ⟨#[84]⟩ from by decide +kernel]
    (with_reducible refine K.out.mono ?_)
    rintro e w1 ⟨rfl, rfl⟩
    go_wp2
    go_ret2
    exact ⟨rfl, ButB.refl _ _, HM.out⟩
set_option maxHeartbeats 4000000 in
theorem dtake45_any (mb : Nat) (m : Mom) (s : ByteArray) (w : World) (_hE : DEnv w) (hm : MomAt mb m w) :
    Calls Tryz.prog 52 #[.pointer (some ⟨mb, 0, none⟩), .int .i32 45, .string s] w fun e w' => e = .returned (.tuple #[.string ⟨(dtake m 45 s.data.toList).2.1.toArray⟩, .bool (dtake m 45 s.data.toList).2.2]) ∧ ButB mb w w' ∧ MomAt mb (dtake m 45 s.data.toList).1 w' := by
  have hd : dtake m 45 s.data.toList = (if Lib.hasPrefix s.data.toList [45] = true then (m, s.data.toList.drop 1, true) else (m, s.data.toList, false)) := by unfold dtake; simp
  rw [hd]
  have k := Tryz.strings_CutPrefix s ⟨#[45]⟩ w
  have e1 : (⟨#[45]⟩ : ByteArray).data.toList = [45] := rfl
  rw [e1] at k
  unfold Lib.trimPrefix at k
  rw [show ([45] : List UInt8).length = 1 from rfl] at k
  generalize s.data.toList.drop 1 = dr at *
  cases hp : Lib.hasPrefix s.data.toList [45]
  all_goals
    rw [hp] at k
    simp only [Bool.false_eq_true, if_false, if_true] at k ⊢
    have K := Lib.hid k; have HM := Lib.hid hm
    clear k hm hd hp e1
    go_enter Tryz.func52, Tryz.ntmps52
    go_wp2_with fail
    rw [show Utf8.encode 45 = ⟨#[45]⟩ from by decide +kernel]
    (with_reducible refine K.out.mono ?_)
    rintro e w1 ⟨rfl, rfl⟩
    go_wp2
    go_ret2
    exact ⟨rfl, ButB.refl _ _, HM.out⟩
set_option maxHeartbeats 4000000 in
theorem dtake69_any (mb : Nat) (m : Mom) (s : ByteArray) (w : World) (_hE : DEnv w) (hm : MomAt mb m w) :
    Calls Tryz.prog 52 #[.pointer (some ⟨mb, 0, none⟩), .int .i32 69, .string s] w fun e w' => e = .returned (.tuple #[.string ⟨(dtake m 69 s.data.toList).2.1.toArray⟩, .bool (dtake m 69 s.data.toList).2.2]) ∧ ButB mb w w' ∧ MomAt mb (dtake m 69 s.data.toList).1 w' := by
  have hd : dtake m 69 s.data.toList = (if Lib.hasPrefix s.data.toList [32] = true then ({ m with day := (dnumL (s.data.toList.drop 1) 1).1 }, (dnumL (s.data.toList.drop 1) 1).2) else ({ m with day := (dnumL s.data.toList 2).1 }, (dnumL s.data.toList 2).2)) := by unfold dtake; simp
  rw [hd]
  have k := Tryz.strings_CutPrefix s ⟨#[32]⟩ w
  have e1 : (⟨#[32]⟩ : ByteArray).data.toList = [32] := rfl
  rw [e1] at k
  unfold Lib.trimPrefix at k
  rw [show ([32] : List UInt8).length = 1 from rfl] at k
  have n1 := dnumber_any ⟨(s.data.toList.drop 1).toArray⟩ 1 (by decide) w
  rw [show ((1 : Nat) : Int) = 1 from rfl] at n1
  have n2 := dnumber_any s 2 (by decide) w
  rw [show ((2 : Nat) : Int) = 2 from rfl] at n2
  have e2 : (⟨(s.data.toList.drop 1).toArray⟩ : ByteArray).data.toList = s.data.toList.drop 1 := by simp
  rw [e2] at n1
  generalize s.data.toList.drop 1 = dr at *
  generalize dnumL dr 1 = r1 at *
  generalize dnumL s.data.toList 2 = r2 at *
  obtain ⟨v1, rest1, is1⟩ := r1
  obtain ⟨v2, rest2, is2⟩ := r2
  simp only at n1 n2 ⊢
  obtain ⟨c0, c1, c2, c3, c4, c5, c6, c7, hf⟩ := hm.cells
  have f1 := hf 1
  have N1 := Lib.hid n1; have N2 := Lib.hid n2; have HM := Lib.hid hm
  clear n1 n2 hm hd hf e1 e2
  cases hp : Lib.hasPrefix s.data.toList [32]
  · rw [hp] at k
    simp only [Bool.false_eq_true, if_false] at k ⊢
    have K := Lib.hid k
    clear k hp
    go_enter Tryz.func52, Tryz.ntmps52
    go_wp2_with fail
    (with_reducible refine K.out.mono ?_)
    rintro e w1 ⟨rfl, rfl⟩
    go_wp2_with fail
    (with_reducible refine N2.out.mono ?_)
    rintro e w2 ⟨rfl, q, rfl⟩
    go_wp2
    go_ret2
    exact ⟨rfl, ButB.set mb 1 q _ _, HM.out.set1 (q := q) v2⟩
  · rw [hp] at k
    simp only [if_true] at k ⊢
    have K := Lib.hid k
    clear k hp
    go_enter Tryz.func52, Tryz.ntmps52
    go_wp2_with fail
    (with_reducible refine K.out.mono ?_)
    rintro e w1 ⟨rfl, rfl⟩
    go_wp2_with fail
    (with_reducible refine N1.out.mono ?_)
    rintro e w2 ⟨rfl, q, rfl⟩
    go_wp2
    go_ret2
    exact ⟨rfl, ButB.set mb 1 q _ _, HM.out.set1 (q := q) v1⟩
theorem dindex_range : ∀ (l sub : List UInt8), -1 ≤ Lib.index l sub ∧ Lib.index l sub ≤ l.length
  | [], sub => by unfold Lib.index; split <;> simp
  | b :: l, sub => by
    have ih := dindex_range l sub
    rw [Lib.index, List.length_cons]
    split
    · omega
    · split <;> omega
set_option maxHeartbeats 4000000 in
theorem dtake109_any (mb : Nat) (m : Mom) (s : ByteArray) (w : World) (hE : DEnv w) (hm : MomAt mb m w) :
    Calls Tryz.prog 52 #[.pointer (some ⟨mb, 0, none⟩), .int .i32 109, .string s] w fun e w' => e = .returned (.tuple #[.string ⟨(dtake m 109 s.data.toList).2.1.toArray⟩, .bool (dtake m 109 s.data.toList).2.2]) ∧ ButB mb w w' ∧ MomAt mb (dtake m 109 s.data.toList).1 w' := by
  have hxr := dindex_range dmonths (s.data.toList.take 3)
  have hml : dmonths.length = 36 := rfl
  rw [hml] at hxr
  have hd : dtake m 109 s.data.toList = (if s.data.toList.length < 3 ∨ Lib.index dmonths (s.data.toList.take 3) < 0 ∨ Lib.index dmonths (s.data.toList.take 3) % 3 ≠ 0 then (m, [], false) else ({ m with month := Lib.index dmonths (s.data.toList.take 3) / 3 + 1 }, s.data.toList.drop 3, true)) := by unfold dtake; simp
  rw [hd]
  obtain ⟨c0, c1, c2, c3, c4, c5, c6, c7, hf⟩ := hm.cells
  have f2 := hf 2
  obtain ⟨_, mx, hmx⟩ := hE.1
  have hex : (s.extract 0 3).data.toList = s.data.toList.take 3 := by rw [Lib.extract_data]; simp
  have k := Tryz.strings_Index ⟨#[74, 97, 110, 70, 101, 98, 77, 97, 114, 65, 112, 114, 77, 97, 121, 74, 117, 110, 74, 117, 108, 65, 117, 103, 83, 101, 112, 79, 99, 116, 78, 111, 118, 68, 101, 99]⟩ (s.extract 0 3) mx w (by decide) hmx
  rw [hex, show (⟨#[74, 97, 110, 70, 101, 98, 77, 97, 114, 65, 112, 114, 77, 97, 121, 74, 117, 110, 74, 117, 108, 65, 117, 103, 83, 101, 112, 79, 99, 116, 78, 111, 118, 68, 101, 99]⟩ : ByteArray).data.toList = dmonths from rfl] at k
  rw [← Lib.size_eq]
  have hdr : s.extract 3 s.size = ⟨(s.data.toList.drop 3).toArray⟩ := by
    apply str_eq
    rw [Lib.extract_data]
    have : (s.data.toList.drop 3).length ≤ s.size - 3 := by rw [List.length_drop, ← Lib.size_eq]; omega
    rw [List.take_of_length_le this]
  have HDR := Lib.hid hdr; have HM := Lib.hid hm
  clear hd hex hmx hf hm hE hdr hml
  generalize Lib.index dmonths (s.data.toList.take 3) = at_ at *
  have K := Lib.hid k
  clear k
  by_cases h3 : s.size < 3
  · have t1 : decide ((s.size : Int) ≥ 3) = false := by simp; omega
    rw [if_pos (Or.inl h3)]
    go_enter Tryz.func52, Tryz.ntmps52
    go_wp2
    go_ret2
    exact ⟨rfl, ButB.refl _ _, HM.out⟩
  · have t1 : decide ((s.size : Int) ≥ 3) = true := by simp; omega
    have h3' : 3 ≤ s.size := by omega
    by_cases hneg : at_ < 0
    · rw [if_pos (Or.inr (Or.inl hneg))]
      have t2 : decide (at_ < 0) = true := by simpa using hneg
      go_enter Tryz.func52, Tryz.ntmps52
      go_wp2_with fail
      (with_reducible refine K.out.mono ?_)
      rintro e w1 ⟨rfl, rfl⟩
      go_wp2
      go_ret2
      exact ⟨rfl, ButB.refl _ _, HM.out⟩
    · have t2 : decide (at_ < 0) = false := by simpa using hneg
      have em : at_.tmod 3 = at_ % 3 := Int.tmod_eq_emod_of_nonneg (by omega)
      have ed : at_.tdiv 3 = at_ / 3 := Int.tdiv_eq_ediv_of_nonneg (by omega)
      by_cases hm3 : at_ % 3 = 0
      · rw [if_neg (by omega)]
        obtain ⟨q3, hq3⟩ : ∃ q3, at_ / 3 = q3 := ⟨_, rfl⟩
        have hq4 : 0 ≤ q3 ∧ q3 ≤ 12 := by omega
        rw [hq3] at ed ⊢
        have w1' : IntKind.i64.wrap q3 = q3 := by rw [IntKind.wrap_i64]; omega
        have w2' : IntKind.i64.wrap (q3 + 1) = q3 + 1 := by rw [IntKind.wrap_i64]; omega
        clear hq3
        go_enter Tryz.func52, Tryz.ntmps52
        go_wp2_with fail
        (with_reducible refine K.out.mono ?_)
        rintro e w1 ⟨rfl, rfl⟩
        go_wp2
        go_region
        go_wp2
        go_ret2
        exact ⟨by rw [← HDR.out]; rfl, ButB.set mb 2 1 _ _, HM.out.set2 (q := 1) _⟩
      · rw [if_pos (Or.inr (Or.inr hm3))]
        go_enter Tryz.func52, Tryz.ntmps52
        go_wp2_with fail
        (with_reducible refine K.out.mono ?_)
        rintro e w1 ⟨rfl, rfl⟩
        go_wp2
        go_ret2
        exact ⟨rfl, ButB.refl _ _, HM.out⟩
end Go.Proofs.YtedmiganmifepaaGreatDoor
/- Dates: the walk of tick (printed by wip/tools/date5.py). -/
namespace Go.Proofs.YtedmiganmifepaaGreatDoor
open Go.RowKit
set_option maxRecDepth 100000

/-- What a date's pieces can be. -/
structure MomOk (m : Mom) : Prop where
  wd : 0 ≤ m.wd ∧ m.wd ≤ 6
  day : 0 ≤ m.day ∧ m.day ≤ 9999
  month : 0 ≤ m.month ∧ m.month ≤ 13
  year : 0 ≤ m.year ∧ m.year ≤ 9999
  hour : 0 ≤ m.hour ∧ m.hour ≤ 9999
  minute : 0 ≤ m.minute ∧ m.minute ≤ 9999
  second : 0 ≤ m.second ∧ m.second ≤ 9999
  two : m.two = true → m.year ≤ 99
theorem dlong_le (y m : Int) : 28 ≤ dlong y m ∧ dlong y m ≤ 31 := by
  unfold dlong
  split
  · split <;> omega
  · split <;> omega
theorem dmons_le (y : Int) : ∀ k, 0 ≤ dmons y k ∧ dmons y k ≤ 31 * k
  | 0 => by simp [dmons]
  | k + 1 => by
    have ih := dmons_le y k
    have := dlong_le y (k + 1)
    rw [dmons]; omega
theorem dyear_ge : ∀ (f : Nat) (d y : Int), y ≤ dyear f d y ∧ dyear f d y ≤ y + f
  | 0, d, y => by rw [dyear]; omega
  | f + 1, d, y => by
    rw [dyear]
    split
    · have := dyear_ge f d (y + 1); omega
    · omega
theorem MomAt.drewN {mb : Nat} {m : Mom} {w : World} (h : MomAt mb m w) (q : Nat) : MomAt mb m (w.drewN q) := h
theorem ButB.drewN {mb : Nat} {w w' : World} (h : ButB mb w w') (q : Nat) : ButB mb w (w'.drewN q) := h
def TickPost (mb : Nat) (w : World) (r : Int × Bool) (e : Ending) (w' : World) : Prop := e = .returned (.tuple #[.int .i64 r.1, .bool r.2]) ∧ ButB mb w w'
end Go.Proofs.YtedmiganmifepaaGreatDoor
