/- The walks of text.Lower, text.word, text.Token. -/
import Derived.Test.YtclcigbcianimaaDoorSpec1
import Derived.Test.YtclcigbcianimaaDoorShelf
import Derived.Lib.SlBytesRow
import Derived.Lib.IndexLaws
namespace Go.Proofs.YtclcigbcianimaaDoor
open Go.RowKit

/-- The bytes with the first k made small. -/
def lowTo (s : ByteArray) (k : Nat) : ByteArray := ⟨((s.data.toList.take k).map lowb ++ s.data.toList.drop k).toArray⟩
theorem lowTo_size (s : ByteArray) (k : Nat) : (lowTo s k).size = s.size := by
  unfold lowTo; rw [Lib.size_eq, Lib.size_eq]; simp only [List.length_append, List.length_map, List.length_take, List.length_drop]; omega
theorem lowTo_zero (s : ByteArray) : lowTo s 0 = s := by unfold lowTo; simp
theorem lowTo_end (s : ByteArray) : lowTo s s.size = ⟨(lowerL s.data.toList).toArray⟩ := by
  unfold lowTo lowerL; rw [take_all s _ (Nat.le_refl _), drop_all s _ (Nat.le_refl _), List.append_nil]
theorem lowTo_at (s : ByteArray) (k j : Nat) (h : j < s.size) (h' : j < (lowTo s k).size) : (lowTo s k)[j] = if j < k then lowb s[j] else s[j] := by
  have hl : j < ((s.data.toList.take k).map lowb ++ s.data.toList.drop k).length := by
    rw [List.length_append, List.length_map, List.length_take, List.length_drop, ← Lib.size_eq]; omega
  rw [mk_at (lowTo s k) _ rfl j h' hl, at_list s j h]
  by_cases hk : j < k
  · rw [if_pos hk, List.getElem_append_left (by rw [List.length_map, List.length_take, ← Lib.size_eq]; omega)]
    simp only [List.getElem_map, List.getElem_take]
  · rw [if_neg hk, List.getElem_append_right (by rw [List.length_map, List.length_take, ← Lib.size_eq]; omega)]
    simp only [List.getElem_drop]; congr 1
    rw [List.length_map, List.length_take, ← Lib.size_eq]; omega

/-- A row of bytes in block b that may be written. -/
structure RowAt (b : Nat) (s : ByteArray) (w : World) : Prop where
  cells : Lib.Bytes w b 0 s
  free : ∀ i, i < s.size → w.frozen? ⟨b, i, none⟩ = false

theorem RowAt.fresh (s : ByteArray) (cap : Nat) (w : World) :
    RowAt w.heap.size s (w.alloc (.cells (bytesRow s cap) 5 ((bytesRow s cap).size, (bytesRow s cap).size + 1))) := by
  refine ⟨fun i h => ?_, fun i h => ?_⟩
  · rw [Nat.zero_add, World.cell?_alloc_mark, bytesRow_at s cap i h]; rfl
  · rw [World.frozen?_alloc_mark]
    have : s.size ≤ (bytesRow s cap).size := by unfold bytesRow; simp
    simp; omega
theorem RowAt.drew {b : Nat} {s : ByteArray} {w : World} (h : RowAt b s w) : RowAt b s w.drew := ⟨fun i hi => h.cells i hi, fun i hi => h.free i hi⟩
theorem RowAt.same {b k : Nat} {s : ByteArray} {w : World} (h : RowAt b (lowTo s k) w) (hk : k < s.size) (e : lowb s[k] = s[k]) : RowAt b (lowTo s (k + 1)) w := by
  refine ⟨fun i hi => ?_, fun i hi => h.free i (by rw [lowTo_size] at *; exact hi)⟩
  have hi2 : i < s.size := by rw [lowTo_size] at hi; exact hi
  rw [h.cells i (by rw [lowTo_size]; exact hi2), lowTo_at s k i hi2, lowTo_at s (k + 1) i hi2]
  by_cases h1 : i < k
  · rw [if_pos h1, if_pos (by omega)]
  · rw [if_neg h1]
    by_cases h2 : i = k
    · subst h2; rw [if_pos (by omega), e]
    · rw [if_neg (by omega)]
theorem RowAt.put {b k : Nat} {s : ByteArray} {w : World} (h : RowAt b (lowTo s k) w) (hk : k < s.size) {n : Int} (e : ((lowb s[k]).toNat : Int) = n) : RowAt b (lowTo s (k + 1)) (w.setCell ⟨b, k, none⟩ (.int .u8 n)) := by
  refine ⟨fun i hi => ?_, fun i hi => ?_⟩
  · have hi2 : i < s.size := by rw [lowTo_size] at hi; exact hi
    have hc := h.cells i (by rw [lowTo_size]; exact hi2)
    rw [Nat.zero_add] at hc ⊢
    rw [lowTo_at s (k + 1) i hi2]
    by_cases h2 : i = k
    · subst h2
      rw [World.cell?_setCell_same _ _ _ hc, if_pos (by omega), e]
    · rw [World.cell?_setCell_other _ _ _ _ (by intro e; cases e; exact h2 rfl), hc, lowTo_at s k i hi2]
      by_cases h1 : i < k
      · rw [if_pos h1, if_pos (by omega)]
      · rw [if_neg h1, if_neg (by omega)]
  · rw [World.frozen?_setCell]; exact h.free i (by rw [lowTo_size] at *; exact hi)
theorem RowAt.at {b k : Nat} {s : ByteArray} {w : World} (h : RowAt b (lowTo s k) w) (hk : k < s.size) : w.cell? ⟨b, k, none⟩ = some (.int .u8 s[k].toNat) := by
  have hc := h.cells k (by rw [lowTo_size]; exact hk)
  rw [Nat.zero_add] at hc
  rw [hc, lowTo_at s k k hk, if_neg (by omega)]

theorem lowb_no (c : UInt8) (h : (decide (65 ≤ (c.toNat : Int)) && decide ((c.toNat : Int) ≤ 90)) = false) : lowb c = c := by
  have : (decide (65 ≤ c.toNat) && decide (c.toNat ≤ 90)) = false := by rw [← h, Bool.eq_iff_iff]; simp; omega
  unfold lowb; rw [this]; rfl
theorem lowb_yes (c : UInt8) (h1 : decide (65 ≤ (c.toNat : Int)) = true) (h2 : decide ((c.toNat : Int) ≤ 90) = true) : ((lowb c).toNat : Int) = (c.toNat : Int) + 32 := by
  have : (decide (65 ≤ c.toNat) && decide (c.toNat ≤ 90)) = true := by simp at *; omega
  unfold lowb; rw [this, cond_true]
  have : c.toNat ≤ 90 := by simp at h2; omega
  rw [UInt8.toNat_add]; simp; omega

set_option maxRecDepth 100000 in
set_option maxHeartbeats 2000000 in
theorem lower_any (s : ByteArray) (w : World) (hs : s.size ≤ 1000000) :
    Calls Tryd.prog 12 #[.string s] w fun e w' => e = .returned (.string ⟨(lowerL s.data.toList).toArray⟩) ∧ Below w.heap.size w w' := by
  have hcv := run_bytes_of_string (P := Tryd.prog) w 9 43 5 s Tryd.underlying9 Tryd.underlying43 Tryd.underlying5
  have hfr := RowAt.fresh s (grownCap w s.size 0 5) w
  have hbl : Below w.heap.size w (w.alloc (.cells (bytesRow s (grownCap w s.size 0 5)) 5 ((bytesRow s (grownCap w s.size 0 5)).size, (bytesRow s (grownCap w s.size 0 5)).size + 1))) := (Below.refl _ w).alloc (Nat.le_refl _) _
  generalize grownCap w s.size 0 5 = cap at *
  generalize Obj.cells (bytesRow s cap) 5 ((bytesRow s cap).size, (bytesRow s cap).size + 1) = row at *
  have HF := Lib.hid hfr; have HL := Lib.hid hbl; clear hfr hbl
  go_enter Tryd.func12, Tryd.ntmps12
  go_wp2
  clear hcv
  go_loopw [9] (fun i wr => ∃ k : Nat, k ≤ s.size ∧ i = .int .i64 k ∧ RowAt w.heap.size (lowTo s k) wr ∧ Below w.heap.size w wr) (fun i _ => s.size - (intOf i).toNat)
  case atStart => exact ⟨0, Nat.zero_le _, rfl, by rw [lowTo_zero]; exact HF.out.drew, HL.out.drew⟩
  case round =>
    obtain ⟨k, hk, rfl, hR, hbw⟩ := hrel
    have HR := Lib.hid hR; clear hR
    by_cases hlt : k < s.size
    · have hc := HR.out.at hlt
      have hz := HR.out.free k (by rw [lowTo_size]; exact hlt)
      have hu := u8_lt s[k]
      cases c1 : decide (65 ≤ (s[k].toNat : Int)) <;> cases c2 : decide ((s[k].toNat : Int) ≤ 90)
      · exfalso; simp at c1 c2; omega
      · have hl := lowb_no s[k] (by rw [c1, c2]; rfl)
        have Hl := Lib.hid hl; clear hl
        go_wp2
        go_roundw
        case rel => exact ⟨k + 1, by omega, by go_num, HR.out.same hlt Hl.out, hbw⟩
        case measure => simp [intOf]; omega
      · have hl := lowb_no s[k] (by rw [c1, c2]; rfl)
        have Hl := Lib.hid hl; clear hl
        go_wp2
        go_roundw
        case rel => exact ⟨k + 1, by omega, by go_num, HR.out.same hlt Hl.out, hbw⟩
        case measure => simp [intOf]; omega
      · have hl := lowb_yes s[k] c1 c2
        have Hl := Lib.hid hl; clear hl
        have hu2 : (s[k].toNat : Int) ≤ 90 := by simp at c2; omega
        go_wp2
        go_roundw
        case rel => exact ⟨k + 1, by omega, by go_num, HR.out.put hlt Hl.out, hbw.setCell (Nat.le_refl _) _⟩
        case measure => simp [intOf]; omega
    · have hke : k = s.size := by omega
      have hb := Lib.run_convert_whole (P := Tryd.prog) wr 43 5 9 Tryd.underlying43 Tryd.underlying5 Tryd.underlying9 w.heap.size 0 (lowTo s k) HR.out.cells cap
      rw [lowTo_size] at hb
      have hfin : lowTo s k = ⟨(lowerL s.data.toList).toArray⟩ := by rw [hke, lowTo_end]
      have Hf := Lib.hid hfin; clear hfin
      generalize lowTo s k = t at *
      have Hke := Lib.hid hke; clear hke
      go_wp2
      go_ret
      exact ⟨by rw [← Hf.out]; rfl, hbw⟩

theorem mark_ix (c : UInt8) : decide (0 ≤ Lib.indexByte markL c) = markL.contains c := by
  have key : ∀ (l : List UInt8), decide (0 ≤ Lib.indexByte l c) = l.contains c := by
    intro l
    rw [Bool.eq_iff_iff]
    simp only [decide_eq_true_eq, List.contains_iff_mem]
    constructor
    · intro h
      obtain ⟨o, ho⟩ := Int.eq_ofNat_of_zero_le h
      exact List.mem_of_getElem? (Lib.indexByte_some ho).1
    · intro h
      obtain ⟨k, hk⟩ := List.mem_iff_getElem?.1 h
      have h1 := Lib.indexByte_ge l c
      have h2 : Lib.indexByte l c ≠ -1 := fun e => Lib.indexByte_none e k hk
      omega
  exact key markL
def letterI (n : Int) : Bool := (decide (97 ≤ n) && decide (n ≤ 122)) || (decide (65 ≤ n) && decide (n ≤ 90)) || (decide (48 ≤ n) && decide (n ≤ 57))
theorem letter_eq (c : UInt8) : letterb c = letterI c.toNat := by
  unfold letterb letterI; rw [Bool.eq_iff_iff]; simp; omega

set_option maxHeartbeats 2000000 in
theorem word_any (c : UInt8) (w : World) :
    Calls Tryd.prog 29 #[.int .u8 c.toNat] w fun e w' => e = .returned (.bool (wordb c)) ∧ w = w' := by
  have hi := Tryd.strings_IndexByte ⟨markL.toArray⟩ (c.toNat : Int)
  rw [show (c.toNat : Int).toNat.toUInt8 = c from by simp] at hi
  rw [show (⟨markL.toArray⟩ : ByteArray).data.toList = markL from rfl] at hi
  have hm := mark_ix c
  have hw : wordb c = (letterI c.toNat || markL.contains c) := by unfold wordb; rw [letter_eq]
  have hu := c.toNat_lt
  generalize Lib.indexByte markL c = ix at *
  generalize c.toNat = n at *
  generalize markL.contains c = mm at *
  rw [hw]
  have HI := Lib.hid hi
  clear hi hw
  unfold letterI
  cases h1 : decide (97 ≤ (n : Int)) <;> cases h2 : decide ((n : Int) ≤ 122)
  · exfalso; simp at h1 h2; omega
  · cases h3 : decide (65 ≤ (n : Int)) <;> cases h4 : decide ((n : Int) ≤ 90)
    · exfalso; simp at h3 h4; omega
    · cases h5 : decide (48 ≤ (n : Int)) <;> cases h6 : decide ((n : Int) ≤ 57)
      · exfalso; simp at h5 h6; omega
      all_goals
        go_enter Tryd.func29, Tryd.ntmps29
        go_wp2_with (go_at_call 23; refine (HI.out _).mono ?_; rintro e w' ⟨rfl, rfl⟩)
        go_ret
        first | exact ⟨by rw [← hm]; rfl, rfl⟩ | exact ⟨rfl, rfl⟩
    · have h5 : decide (48 ≤ (n : Int)) = true := by simp at h3 ⊢; omega
      have h6 : decide ((n : Int) ≤ 57) = false := by simp at h3 ⊢; omega
      rw [h5, h6]
      go_enter Tryd.func29, Tryd.ntmps29
      go_wp2_with (go_at_call 23; refine (HI.out _).mono ?_; rintro e w' ⟨rfl, rfl⟩)
      go_ret
      first | exact ⟨by rw [← hm]; rfl, rfl⟩ | exact ⟨rfl, rfl⟩
    · go_enter Tryd.func29, Tryd.ntmps29
      go_wp2_with (go_at_call 23; refine (HI.out _).mono ?_; rintro e w' ⟨rfl, rfl⟩)
      go_ret
      first | exact ⟨by rw [← hm]; rfl, rfl⟩ | exact ⟨rfl, rfl⟩
  · have h3 : decide (65 ≤ (n : Int)) = true := by simp at h1 ⊢; omega
    have h4 : decide ((n : Int) ≤ 90) = false := by simp at h1 ⊢; omega
    have h5 : decide (48 ≤ (n : Int)) = true := by simp at h1 ⊢; omega
    have h6 : decide ((n : Int) ≤ 57) = false := by simp at h1 ⊢; omega
    rw [h3, h4, h5, h6]
    go_enter Tryd.func29, Tryd.ntmps29
    go_wp2_with (go_at_call 23; refine (HI.out _).mono ?_; rintro e w' ⟨rfl, rfl⟩)
    go_ret
    first | exact ⟨by rw [← hm]; rfl, rfl⟩ | exact ⟨rfl, rfl⟩
  · go_enter Tryd.func29, Tryd.ntmps29
    go_wp2_with (go_at_call 23; refine (HI.out _).mono ?_; rintro e w' ⟨rfl, rfl⟩)
    go_ret
    first | exact ⟨by rw [← hm]; rfl, rfl⟩ | exact ⟨rfl, rfl⟩

set_option maxHeartbeats 2000000 in
theorem token_any (s : ByteArray) (w : World) (hs : s.size ≤ 1000000) :
    Calls Tryd.prog 10 #[.string s] w fun e w' => e = .returned (.bool (tokenL s.data.toList)) ∧ w = w' := by
  have hB : ∀ k (h : k < s.size), wordb s[k] = false → tokenL s.data.toList = false := by
    intro k h hk; unfold tokenL; rw [all_bad wordb s k h hk]; rfl
  have hQ : ∀ k, (s.data.toList.take k).all wordb = true → s.size ≤ k → tokenL s.data.toList = !s.data.toList.isEmpty := by
    intro k h hk; rw [take_all s k hk] at h; unfold tokenL; rw [h]; rfl
  have HB := Lib.hid hB; have HQ := Lib.hid hQ
  clear hB hQ
  generalize tokenL s.data.toList = out at *
  go_enter Tryd.func10, Tryd.ntmps10
  go_wp2
  go_loop [6] (fun i => ∃ k : Nat, k ≤ s.size ∧ i = .int .i64 k ∧ Hid ((s.data.toList.take k).all wordb = true)) (fun i => s.size - (intOf i).toNat)
  case atStart => exact ⟨0, Nat.zero_le _, rfl, by show _ = _; simp⟩
  case round =>
    obtain ⟨k, hk, rfl, Hall⟩ := hrel
    by_cases hlt : k < s.size
    · cases hp : wordb s[k]
      · have hf := HB.out k hlt hp
        have Hf := Lib.hid hf; have Hp := Lib.hid hp; clear hf hp
        go_wp2_with (go_at_call 29; refine (word_any _ _).mono ?_; rintro e w2 ⟨rfl, rfl⟩; rw [Hp.out])
        go_ret
        exact ⟨by rw [Hf.out]; rfl, rfl⟩
      · have hn : (s.data.toList.take (k + 1)).all wordb = true := by rw [all_snoc wordb s k hlt, Hall.out, hp]; rfl
        have Hn := Lib.hid hn; have Hp := Lib.hid hp; clear hn hp
        go_wp2_with (go_at_call 29; refine (word_any _ _).mono ?_; rintro e w2 ⟨rfl, rfl⟩; rw [Hp.out])
        go_round
        case rel => exact ⟨k + 1, by omega, by go_num, Hn⟩
        case measure => simp [intOf]; omega
    · have hf := HQ.out k Hall.out (by omega)
      have Hf := Lib.hid hf; clear hf
      go_wp2
      go_ret
      exact ⟨by rw [Hf.out]; simp [Lib.toList_data], rfl⟩
end Go.Proofs.YtclcigbcianimaaDoor
