/- The document's Get, Texts; a copy of a list (layer 4). -/
import Derived.Test.YthppcaoldobocaaDoorGet
import Derived.Test.YthppcaoldobocaaDoorRValues
namespace Go.Proofs.YthppcaoldobocaaDoor
open Go.RowKit
set_option maxRecDepth 100000

/-- Join from the left. -/
theorem join_snoc (sep x : List UInt8) : ∀ ls : List (List UInt8), Lib.join (ls ++ [x]) sep = bif ls.isEmpty then x else Lib.join ls sep ++ sep ++ x
  | [] => by simp [Lib.join]
  | [a] => by simp [Lib.join]
  | a :: b :: r => by
    have ih := join_snoc sep x (b :: r)
    have e : ∀ (a b : List UInt8) (l : List (List UInt8)), Lib.join (a :: b :: l) sep = a ++ (sep ++ Lib.join (b :: l) sep) := fun _ _ _ => rfl
    simp only [List.cons_append] at ih ⊢
    rw [e, ih, e]
    simp
theorem join_take (sep : List UInt8) (ls : List (List UInt8)) (k : Nat) (h : k < ls.length) : Lib.join (ls.take (k + 1)) sep = bif decide (k = 0) then ls[k] else Lib.join (ls.take k) sep ++ sep ++ ls[k] := by
  rw [List.take_succ_eq_append_getElem h, join_snoc]
  by_cases h0 : k = 0
  · subst h0; simp
  · have : (ls.take k).isEmpty = false := by
      rw [List.isEmpty_eq_false_iff]; intro e
      have h1 := congrArg List.length e
      rw [List.length_take, List.length_nil] at h1; omega
    rw [this, decide_eq_false h0]

set_option maxHeartbeats 4000000 in
theorem rget_any (A : Option Addr) (n c : Nat) (xs : List Fld) (name : ByteArray) (w : World) (hr : Rd A n 2 (fldsV xs) w) (hn : n ≤ 1000000) (hs : sumF xs ≤ 1000000) (hname : name.size ≤ 1000000) :
    Calls Tryd.prog 22 #[.slice A n c, .string name] w fun e w' => e = .returned (getV (getL xs name.data.toList)) ∧ Below w.heap.size w w' := by
  have k1 := rvalues_any A n c xs name w hr hn (fun f hf => by have := sumF_mem hf; omega) hname
  have hv := total_values xs name.data.toList
  have hvl := valuesL_le xs name.data.toList
  have hxn := hr.fld
  unfold getL getV
  simp only
  generalize valuesL xs name.data.toList = ls at *
  have hjt := join_take [44, 32] ls
  have hjl : ∀ k, k ≤ ls.length → (Lib.join (ls.take k) [44, 32]).length ≤ 4000000 := by
    intro k hk
    have h1 := join_le [44, 32] (ls.take k)
    have h2 : total (ls.take k) ≤ total ls := by
      unfold total
      conv => rhs; rw [← List.take_append_drop k ls, List.map_append, List.sum_append]
      omega
    have h3 : (ls.take k).length ≤ ls.length := by rw [List.length_take]; omega
    rw [show ([44, 32] : List UInt8).length = 2 from rfl] at h1
    omega
  have hml : ∀ l ∈ ls, l.length ≤ 1000000 := fun l hl => by have := total_mem hl; omega
  have hfin : Lib.join (ls.take ls.length) [44, 32] = Lib.join ls [44, 32] := by rw [List.take_length]
  have hln : ls.length ≤ 1000000 := by omega
  have K1 := Lib.hid k1; have HJT := Lib.hid hjt; have HJL := Lib.hid hjl; have HML := Lib.hid hml; have HF := Lib.hid hfin
  clear k1 hv hvl hxn hr hs hn hname hjt hjl hml hfin
  generalize Lib.join ls [44, 32] = tot at *
  go_enter Tryd.func22, Tryd.ntmps22
  go_wp2_with fail
  refine K1.out.mono ?_
  rintro e w1 ⟨a1, c1, rfl, ho1, hb1⟩
  have HO := Lib.hid ho1; clear ho1 K1
  go_wp2_with fail
  go_loopw [8, 7] (fun i s wr => ∃ (k : Nat) (l : List UInt8), k ≤ ls.length ∧ i = .int .i64 k ∧ s = .string ⟨l.toArray⟩ ∧ Hid (l = Lib.join (ls.take k) [44, 32]) ∧ Below w1.heap.size w1 wr) (fun i _ _ => ls.length - (intOf i).toNat)
  case atStart => exact ⟨0, [], Nat.zero_le _, rfl, rfl, Lib.hid rfl, Below.refl _ _⟩
  case round =>
    obtain ⟨k, l, hk, rfl, rfl, HE, hbw⟩ := hrel
    by_cases hlt : k < ls.length
    · obtain ⟨b, o, rfl, hl, e1⟩ := ((HO.out.below hbw).rd.2).str_at (k := k) hlt
      have hjt := HJT.out k hlt
      have hx := HML.out ls[k] (List.getElem_mem _)
      have hl4 := HJL.out k hk
      rw [← HE.out] at hl4 hjt
      generalize ls[k] = x at *
      have zl : (⟨l.toArray⟩ : ByteArray).size = l.length := by rw [Lib.size_eq]
      have zx : (⟨x.toArray⟩ : ByteArray).size = x.length := by rw [Lib.size_eq]
      by_cases h0 : k = 0
      · subst h0
        rw [decide_eq_true rfl, cond_true] at hjt
        have hl0 : l = [] := HE.out
        subst hl0
        have hem : (⟨#[]⟩ : ByteArray) ++ ⟨x.toArray⟩ = ⟨x.toArray⟩ := by apply str_eq; simp [ByteArray.data_append]
        have HJ := Lib.hid hjt; have HEM := Lib.hid hem
        rw [Nat.add_zero] at e1
        clear hjt hem HE HJT HJL
        go_wp2
        go_roundw
        case rel => exact ⟨1, x, by omega, by go_num, congrArg Value.string HEM.out, Lib.hid HJ.out.symm, hbw⟩
        case measure => simp [intOf]; omega
      · rw [decide_eq_false h0, cond_false] at hjt
        have hem : ((⟨l.toArray⟩ : ByteArray) ++ ⟨#[44, 32]⟩) ++ ⟨x.toArray⟩ = ⟨(l ++ [44, 32] ++ x).toArray⟩ := by apply str_eq; simp [ByteArray.data_append]
        have HJ := Lib.hid hjt; have HEM := Lib.hid hem
        clear hjt hem HE HJT HJL
        go_wp2
        go_roundw
        case rel => exact ⟨k + 1, l ++ [44, 32] ++ x, by omega, by go_num, by rw [HEM.out], Lib.hid HJ.out.symm, hbw⟩
        case measure => simp [intOf]; omega
    · have hke : k = ls.length := by omega
      subst hke
      have he := HE.out
      rw [HF.out] at he
      subst he
      clear HE HJT HJL HML HF
      go_wp2
      go_ret2
      refine ⟨?_, bt hb1 hbw⟩
      simp
end Go.Proofs.YthppcaoldobocaaDoor
