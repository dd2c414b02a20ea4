/- The walks of text.Quote and text.Unquote, and of the document's. -/
import Derived.Test.YtfoabdpfadgafaaDoorSpec1
import Derived.Test.YtfoabdpfadgafaaDoorBuild
import Derived.Test.YtfoabdpfadgafaaDoorShelf
namespace Go.Proofs.YtfoabdpfadgafaaDoor
open Go.RowKit

theorem plain_any (c : UInt8) (w : World) :
    Calls Tryd.prog 52 #[.int .u8 c.toNat] w fun e w' => e = .returned (.bool (plainb c)) ∧ w = w' := by
  have hlt := c.toNat_lt
  have hp : plainb c = (((c.toNat : Int) == 9) || (decide (32 ≤ (c.toNat : Int)) && ((c.toNat : Int) != 127))) := by
    unfold plainb; rw [Bool.eq_iff_iff]; simp; omega
  rw [hp]
  clear hp
  generalize c.toNat = n at *
  cases h1 : ((n : Int) == 9) <;> cases h2 : decide (32 ≤ (n : Int)) <;> cases h3 : ((n : Int) != 127)
  all_goals
    go_enter Tryd.func52, Tryd.ntmps52
    go_wp2
    go_ret
    exact ⟨rfl, rfl⟩

theorem esc_eq (c : UInt8) : esc c = bif ((c.toNat : Int) == 34) || ((c.toNat : Int) == 92) then [92, c] else [c] := by
  unfold esc
  have h1 : (c.toNat == 34) = ((c.toNat : Int) == 34) := by rw [Bool.eq_iff_iff]; simp; omega
  have h2 : (c.toNat == 92) = ((c.toNat : Int) == 92) := by rw [Bool.eq_iff_iff]; simp; omega
  rw [h1, h2]
theorem flat_snoc (s : ByteArray) (k : Nat) (h : k < s.size) : (s.data.toList.take (k + 1)).flatMap esc = (s.data.toList.take k).flatMap esc ++ esc s[k] := by
  rw [take_snoc s k h]; simp
theorem fresh_B (w : World) : IsB w.heap.size w.heap.size [] (w.alloc (.cells #[.pointer none, .slice none 0 0] 68)) :=
  Lib.IsBuilderF.of (Lib.fresh_isBuilder 68 5 w)

set_option maxRecDepth 100000 in
set_option maxHeartbeats 2000000 in
theorem quote_wide (s : ByteArray) (w : World) (hs : s.size ≤ 2000000) :
    Calls Tryd.prog 23 #[.string s] w fun e w' => e = .returned (two (quoteO s)) ∧ Below w.heap.size w w' := by
  have hq : ∀ k, k ≤ s.size → (s.data.toList.take k).all plainb = true → k = s.size → two (quoteO s) = .tuple #[.string ⟨(34 :: ((s.data.toList.take k).flatMap esc ++ [34])).toArray⟩, .int .i64 0] := by
    intro k _ hk e
    rw [take_all s k (by omega)] at hk ⊢
    unfold quoteO quoted two; rw [hk]; rfl
  have hb : ∀ k (h : k < s.size), plainb s[k] = false → two (quoteO s) = .tuple #[.string ⟨#[]⟩, .int .i64 4] := by
    intro k h hk
    unfold quoteO two; rw [all_bad plainb s k h hk]; rfl
  have HQ := Lib.hid hq; have HB := Lib.hid hb
  clear hq hb
  generalize two (quoteO s) = out at *
  go_enter Tryd.func23, Tryd.ntmps23
  go_wp2_with (go_at_call 51; refine (writeByte_any w.heap.size w.heap.size [] 34 _ (fresh_B w) (by simp) (by simp)).mono ?_; rintro e w1 ⟨rfl, h1, b1, -⟩)
  have hb0 : Below w.heap.size w w1 := ((Below.refl _ w).alloc (Nat.le_refl _) _).trans b1
  clear b1
  go_loopw [9] (fun i wr => ∃ k : Nat, k ≤ s.size ∧ i = .int .i64 k ∧ (s.data.toList.take k).all plainb = true ∧ IsB w.heap.size w.heap.size (34 :: (s.data.toList.take k).flatMap esc) wr ∧ Below w.heap.size w wr) (fun i _ => s.size - (intOf i).toNat)
  case atStart => exact ⟨0, Nat.zero_le _, rfl, by simp, by simpa using h1, hb0⟩
  case round =>
    obtain ⟨k, hk, rfl, hall, hI, hbw⟩ := hrel
    have hfl := flat_le (s.data.toList.take k)
    have htl : (s.data.toList.take k).length ≤ k := List.length_take_le _ _
    have Hall := Lib.hid hall; clear hall
    by_cases hlt : k < s.size
    · cases hp : plainb s[k]
      · have hf := HB.out k hlt hp
        have Hf := Lib.hid hf; clear hf
        have Hp := Lib.hid hp; clear hp
        go_wp2_with (go_at_call 52; refine (plain_any _ _).mono ?_; rintro e w2 ⟨rfl, rfl⟩; rw [Hp.out])
        go_ret2
        exact ⟨by rw [Hf.out]; rfl, hbw⟩
      · have he := esc_eq s[k]
        have hsn := flat_snoc s k hlt
        have has := all_snoc plainb s k hlt
        rw [hp] at has
        have Hp := Lib.hid hp; clear hp
        have Hs := Lib.hid hsn; clear hsn
        have Ha := Lib.hid has; clear has
        cases c1 : ((s[k].toNat : Int) == 34) <;> cases c2 : ((s[k].toNat : Int) == 92)
        · rw [c1, c2] at he
          have He := Lib.hid he; clear he
          go_wp2_with (go_at_call 52; refine (plain_any _ _).mono ?_; rintro e w2 ⟨rfl, rfl⟩; rw [Hp.out])
          refine (writeByte_any w.heap.size w.heap.size _ s[k] _ hI (by rw [List.length_cons]; omega) hbw.size).mono ?_
          rintro e w3 ⟨rfl, hI3, b3, -⟩
          go_wp2
          go_roundw
          case rel => exact ⟨k + 1, by omega, by go_num, by rw [Ha.out, Hall.out]; rfl, by rw [Hs.out, He.out]; simpa using hI3, hbw.trans b3⟩
          case measure => simp [intOf]; omega
        · rw [c1, c2] at he
          have He := Lib.hid he; clear he
          go_wp2_with (go_at_call 52; refine (plain_any _ _).mono ?_; rintro e w2 ⟨rfl, rfl⟩; rw [Hp.out])
          refine (writeByte_any w.heap.size w.heap.size _ 92 _ hI (by rw [List.length_cons]; omega) hbw.size).mono ?_
          rintro e w2 ⟨rfl, hI2, b2, -⟩
          have hbw2 := hbw.trans b2
          go_wp2_with (fail)
          refine (writeByte_any w.heap.size w.heap.size _ s[k] _ hI2 (by rw [List.length_append, List.length_cons, List.length_singleton]; omega) hbw2.size).mono ?_
          rintro e w3 ⟨rfl, hI3, b3, -⟩
          go_wp2
          go_roundw
          case rel => exact ⟨k + 1, by omega, by go_num, by rw [Ha.out, Hall.out]; rfl, by rw [Hs.out, He.out]; simpa using hI3, hbw2.trans b3⟩
          case measure => simp [intOf]; omega
        · rw [c1, c2] at he
          have He := Lib.hid he; clear he
          go_wp2_with (go_at_call 52; refine (plain_any _ _).mono ?_; rintro e w2 ⟨rfl, rfl⟩; rw [Hp.out])
          refine (writeByte_any w.heap.size w.heap.size _ 92 _ hI (by rw [List.length_cons]; omega) hbw.size).mono ?_
          rintro e w2 ⟨rfl, hI2, b2, -⟩
          have hbw2 := hbw.trans b2
          go_wp2_with (fail)
          refine (writeByte_any w.heap.size w.heap.size _ s[k] _ hI2 (by rw [List.length_append, List.length_cons, List.length_singleton]; omega) hbw2.size).mono ?_
          rintro e w3 ⟨rfl, hI3, b3, -⟩
          go_wp2
          go_roundw
          case rel => exact ⟨k + 1, by omega, by go_num, by rw [Ha.out, Hall.out]; rfl, by rw [Hs.out, He.out]; simpa using hI3, hbw2.trans b3⟩
          case measure => simp [intOf]; omega
        · exfalso; simp at c1 c2; omega
    · have hf := HQ.out k hk Hall.out (by omega)
      have Hf := Lib.hid hf; clear hf
      go_wp2_with (first | (go_at_call 51; refine (writeByte_any w.heap.size w.heap.size _ 34 _ hI (by rw [List.length_cons]; omega) hbw.size).mono ?_; rintro e w2 ⟨rfl, hI2, b2, -⟩) | (go_at_call 50; refine (Tryd.Builder_String_any_k w.heap.size w.heap.size _ _ hI2 (hbw.trans b2).size).mono ?_; rintro e w3 ⟨rfl, _, b3, _⟩))
      go_ret2
      exact ⟨by rw [Hf.out]; simp, (hbw.trans b2).trans b3⟩


/-- What stands between the ends. -/
theorem quote_any (s : ByteArray) (w : World) (hs : s.size ≤ 1000000) :
    Calls Tryd.prog 23 #[.string s] w fun e w' => e = .returned (two (quoteO s)) ∧ Below w.heap.size w w' := quote_wide s w (by omega)

def mid (s : ByteArray) : ByteArray := s.extract 1 (s.size - 1)
theorem mid_list (s : ByteArray) : (mid s).data.toList = (s.data.toList.drop 1).dropLast := by
  unfold mid; rw [Lib.extract_data, List.dropLast_eq_take, List.length_drop, ← Lib.size_eq]
theorem mid_size (s : ByteArray) : (mid s).size = s.size - 2 := by unfold mid; simp [ByteArray.size_extract]; omega
theorem mid_at (s : ByteArray) (k : Nat) (h : k < (mid s).size) (h' : k + 1 < s.size) : (mid s)[k] = s[k + 1] := by
  have key : ∀ (t : ByteArray) (_ : t = s.extract 1 (s.size - 1)) (hk : k < t.size), t[k] = s[k + 1] := by
    intro t ht hk; subst ht; simp [ByteArray.getElem_extract, Nat.add_comm]
  exact key _ rfl h
theorem ends_ok (s : ByteArray) (h : 2 ≤ s.size) (h0 : s[0].toNat = 34) (h1 : s[s.size - 1].toNat = 34) : unqP s.data.toList = unq false (mid s).data.toList := by
  have e1 : s.data.toList.head? = some s[0] := by rw [List.head?_eq_getElem?, List.getElem?_eq_getElem (by simpa using (by omega : 0 < s.size))]; rfl
  have e2 : s.data.toList.getLast? = some s[s.size - 1] := by
    rw [List.getLast?_eq_getElem?, ← Lib.size_eq, List.getElem?_eq_getElem (by simpa using (by omega : s.size - 1 < s.size))]; rfl
  unfold unqP; rw [e1, e2, mid_list, ← Lib.size_eq]; simp [h, h0, h1]
theorem ends_short (s : ByteArray) (h : s.size < 2) : unqP s.data.toList = none := by
  unfold unqP; rw [← Lib.size_eq]; have : decide (2 ≤ s.size) = false := by simp; omega
  rw [this]; rfl
theorem ends_first (s : ByteArray) (h : 2 ≤ s.size) (h0 : ¬ s[0].toNat = 34) : unqP s.data.toList = none := by
  have e1 : s.data.toList.head? = some s[0] := by rw [List.head?_eq_getElem?, List.getElem?_eq_getElem (by simpa using (by omega : 0 < s.size))]; rfl
  have e2 : (s[0].toNat == 34) = false := by simpa using h0
  unfold unqP; rw [e1]; simp only [Option.getD_some, e2, Bool.and_false, Bool.false_and, cond_false]
theorem ends_last (s : ByteArray) (h : 2 ≤ s.size) (h1 : ¬ s[s.size - 1].toNat = 34) : unqP s.data.toList = none := by
  have e2 : s.data.toList.getLast? = some s[s.size - 1] := by
    rw [List.getLast?_eq_getElem?, ← Lib.size_eq, List.getElem?_eq_getElem (by simpa using (by omega : s.size - 1 < s.size))]; rfl
  have e3 : (s[s.size - 1].toNat == 34) = false := by simpa using h1
  unfold unqP; rw [e2]; simp only [Option.getD_some, e3, Bool.and_false, cond_false]

set_option maxRecDepth 100000 in
set_option maxHeartbeats 2000000 in
theorem unquote_any (s : ByteArray) (w : World) (hs : s.size ≤ 1000000) :
    Calls Tryd.prog 92 #[.string s] w fun e w' => e = .returned (two (unqP s.data.toList)) ∧ Below w.heap.size w w' := by
  by_cases h2 : 2 ≤ s.size
  · by_cases h0 : s[0].toNat = 34
    · by_cases h1 : s[s.size - 1].toNat = 34
      · rw [ends_ok s h2 h0 h1]
        have hms := mid_size s
        have d0 : ((s[0].toNat : Int) != 34) = false := by simp; omega
        have d1 : ((s[s.size - 1].toNat : Int) != 34) = false := by simp; omega
        have d2 : decide ((s.size : Int) < 2) = false := by simp; omega
        clear h0 h1
        obtain ⟨m, hm⟩ : ∃ m, mid s = m := ⟨_, rfl⟩
        have hat : ∀ k (h : k < m.size) (h' : k + 1 < s.size), m[k] = s[k + 1] := by intro k h h'; subst hm; exact mid_at s k h h'
        rw [hm] at hms ⊢
        obtain ⟨out, ho⟩ : ∃ o, unq false m.data.toList = o := ⟨_, rfl⟩
        rw [ho]
        have HO := Lib.hid ho; have HA := Lib.hid hat; have HM := Lib.hid hms
        clear ho hat hm hms
        go_enter Tryd.func92, Tryd.ntmps92
        go_wp2
        clear d0 d1 d2
        go_loopw [27, 5] (fun i b wr => ∃ (k : Nat) (bh : Bool) (acc : List UInt8), k ≤ s.size - 2 ∧ i = .int .i64 k ∧ b = .bool bh ∧ Hid (out = (unq bh (m.data.toList.drop k)).map (acc ++ ·)) ∧ acc.length ≤ k ∧ IsB w.heap.size w.heap.size acc wr ∧ Below w.heap.size w wr) (fun i _ _ => s.size - 2 - (intOf i).toNat)
        case atStart => exact ⟨0, false, [], Nat.zero_le _, rfl, rfl, by have := HO.out; show _ = _; rw [List.drop_zero, this]; simp, by simp, fresh_B w, (Below.refl _ w).alloc (Nat.le_refl _) _⟩
        case round =>
          obtain ⟨k, bh, acc, hk, rfl, rfl, Hout, hacc, hI, hbw⟩ := hrel
          by_cases hlt : k < s.size - 2
          · have hkm : k < m.size := by have := HM.out; omega
            have hc := HA.out k hkm (by omega)
            have hd := drop_cons m k hkm
            rw [hc] at hd
            have Hd := Lib.hid hd; clear hd hc hkm
            have hk1 : k + 1 < s.size := by omega
            cases hp : plainb s[k + 1]
            · have hf : out = none := by rw [Hout.out, Hd.out, unq, hp]; rfl
              have Hf := Lib.hid hf; have Hp := Lib.hid hp; clear hf hp
              go_wp2_with (go_at_call 52; refine (plain_any _ _).mono ?_; rintro e w2 ⟨rfl, rfl⟩; rw [Hp.out])
              go_ret2
              exact ⟨by rw [Hf.out]; rfl, hbw⟩
            · cases c1 : ((s[k + 1].toNat : Int) == 34) <;> cases c2 : ((s[k + 1].toNat : Int) == 92)
              all_goals have d1 : (s[k + 1].toNat == 34) = _ := (beq_cast _ 34).trans c1
              all_goals have d2 : (s[k + 1].toNat == 92) = _ := (beq_cast _ 92).trans c2
              all_goals have D1 := Lib.hid d1
              all_goals have D2 := Lib.hid d2
              all_goals clear d1 d2
              · cases bh
                · have hf : out = (unq false (m.data.toList.drop (k + 1))).map ((acc ++ [s[k + 1]]) ++ ·) := by rw [Hout.out, Hd.out, unq, hp, D1.out, D2.out]; simp [Function.comp_def]
                  have Hf := Lib.hid hf; have Hp := Lib.hid hp; clear hf hp
                  go_wp2_with (go_at_call 52; refine (plain_any _ _).mono ?_; rintro e w2 ⟨rfl, rfl⟩; rw [Hp.out])
                  refine (writeByte_any w.heap.size w.heap.size _ s[k + 1] _ hI (by omega) hbw.size).mono ?_
                  rintro e w3 ⟨rfl, hI3, b3, -⟩
                  go_wp2
                  go_roundw
                  case rel => exact ⟨k + 1, false, _, by omega, by go_num, rfl, Hf, by rw [List.length_append, List.length_singleton]; omega, hI3, hbw.trans b3⟩
                  case measure => simp [intOf]; omega
                · have hf : out = (unq false (m.data.toList.drop (k + 1))).map ((acc ++ [s[k + 1]]) ++ ·) := by rw [Hout.out, Hd.out, unq, hp, D1.out, D2.out]; simp [Function.comp_def]
                  have Hf := Lib.hid hf; have Hp := Lib.hid hp; clear hf hp
                  go_wp2_with (go_at_call 52; refine (plain_any _ _).mono ?_; rintro e w2 ⟨rfl, rfl⟩; rw [Hp.out])
                  refine (writeByte_any w.heap.size w.heap.size _ s[k + 1] _ hI (by omega) hbw.size).mono ?_
                  rintro e w3 ⟨rfl, hI3, b3, -⟩
                  go_wp2
                  go_roundw
                  case rel => exact ⟨k + 1, false, _, by omega, by go_num, rfl, Hf, by rw [List.length_append, List.length_singleton]; omega, hI3, hbw.trans b3⟩
                  case measure => simp [intOf]; omega
              · cases bh
                · have hf : out = (unq true (m.data.toList.drop (k + 1))).map (acc ++ ·) := by rw [Hout.out, Hd.out, unq, hp, D1.out, D2.out]; rfl
                  have Hf := Lib.hid hf; have Hp := Lib.hid hp; clear hf hp
                  go_wp2_with (go_at_call 52; refine (plain_any _ _).mono ?_; rintro e w2 ⟨rfl, rfl⟩; rw [Hp.out])
                  go_roundw
                  case rel => exact ⟨k + 1, true, acc, by omega, by go_num, rfl, Hf, by omega, hI, hbw⟩
                  case measure => simp [intOf]; omega
                · have hf : out = (unq false (m.data.toList.drop (k + 1))).map ((acc ++ [s[k + 1]]) ++ ·) := by rw [Hout.out, Hd.out, unq, hp, D1.out, D2.out]; simp [Function.comp_def]
                  have Hf := Lib.hid hf; have Hp := Lib.hid hp; clear hf hp
                  go_wp2_with (go_at_call 52; refine (plain_any _ _).mono ?_; rintro e w2 ⟨rfl, rfl⟩; rw [Hp.out])
                  refine (writeByte_any w.heap.size w.heap.size _ s[k + 1] _ hI (by omega) hbw.size).mono ?_
                  rintro e w3 ⟨rfl, hI3, b3, -⟩
                  go_wp2
                  go_roundw
                  case rel => exact ⟨k + 1, false, _, by omega, by go_num, rfl, Hf, by rw [List.length_append, List.length_singleton]; omega, hI3, hbw.trans b3⟩
                  case measure => simp [intOf]; omega
              · cases bh
                · have hf : out = none := by rw [Hout.out, Hd.out, unq, hp, D1.out]; rfl
                  have Hf := Lib.hid hf; have Hp := Lib.hid hp; clear hf hp
                  go_wp2_with (go_at_call 52; refine (plain_any _ _).mono ?_; rintro e w2 ⟨rfl, rfl⟩; rw [Hp.out])
                  go_ret2
                  exact ⟨by rw [Hf.out]; rfl, hbw⟩
                · have hf : out = (unq false (m.data.toList.drop (k + 1))).map ((acc ++ [s[k + 1]]) ++ ·) := by rw [Hout.out, Hd.out, unq, hp, D1.out, D2.out]; simp [Function.comp_def]
                  have Hf := Lib.hid hf; have Hp := Lib.hid hp; clear hf hp
                  go_wp2_with (go_at_call 52; refine (plain_any _ _).mono ?_; rintro e w2 ⟨rfl, rfl⟩; rw [Hp.out])
                  refine (writeByte_any w.heap.size w.heap.size _ s[k + 1] _ hI (by omega) hbw.size).mono ?_
                  rintro e w3 ⟨rfl, hI3, b3, -⟩
                  go_wp2
                  go_roundw
                  case rel => exact ⟨k + 1, false, _, by omega, by go_num, rfl, Hf, by rw [List.length_append, List.length_singleton]; omega, hI3, hbw.trans b3⟩
                  case measure => simp [intOf]; omega
              · exfalso; simp at c1 c2; omega
          · have hf : out = bif bh then none else some acc := by
              rw [Hout.out, drop_all m k (by have := HM.out; omega), unq]; cases bh <;> simp
            have Hf := Lib.hid hf; clear hf
            cases bh
            · go_wp2_with (go_at_call 50; refine (Tryd.Builder_String_any_k w.heap.size w.heap.size _ _ hI hbw.size).mono ?_; rintro e w3 ⟨rfl, _, b3, _⟩)
              go_ret2
              exact ⟨by rw [Hf.out]; rfl, hbw.trans b3⟩
            · go_wp2
              go_ret2
              exact ⟨by rw [Hf.out]; rfl, hbw⟩
      · rw [ends_last s h2 h1]
        have d1 : ((s[s.size - 1].toNat : Int) != 34) = true := by simp; omega
        have d0 : ((s[0].toNat : Int) != 34) = false := by simp; omega
        have d2 : decide ((s.size : Int) < 2) = false := by simp; omega
        clear h0 h1
        go_enter Tryd.func92, Tryd.ntmps92
        go_wp2
        go_ret2
        exact ⟨rfl, Below.refl _ _⟩
    · rw [ends_first s h2 h0]
      have d0 : ((s[0].toNat : Int) != 34) = true := by simp; omega
      have d2 : decide ((s.size : Int) < 2) = false := by simp; omega
      clear h0
      go_enter Tryd.func92, Tryd.ntmps92
      go_wp2
      go_ret2
      exact ⟨rfl, Below.refl _ _⟩
  · rw [ends_short s (by omega)]
    have d2 : decide ((s.size : Int) < 2) = true := by simp; omega
    clear h2
    go_enter Tryd.func92, Tryd.ntmps92
    go_wp2
    go_ret2
    exact ⟨rfl, Below.refl _ _⟩
end Go.Proofs.YtfoabdpfadgafaaDoor
