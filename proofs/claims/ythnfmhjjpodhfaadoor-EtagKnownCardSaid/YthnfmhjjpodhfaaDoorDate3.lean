/- Dates: the walks of name and of the names of the days. -/
import Derived.Test.YthnfmhjjpodhfaaDoorDate2
import Derived.Test.YthnfmhjjpodhfaaDoorShelf
namespace Go.Proofs.YthnfmhjjpodhfaaDoor
open Go.RowKit
set_option maxRecDepth 100000

/-- What the library's own texts read. -/
def DEnv (w : World) : Prop := MaxL w ∧ 0 < w.heap.size ∧ Lib.TabIs Tryd.prog w "strings.asciiSpace" .u8 Lib.asciiSpaceTab
theorem var_heap {P : Program} {w w' : World} {name : String} {k : IntKind} {zs : List Int} {g : Nat} (hg : P.globalNamed name = some g) (h : Lib.TabIs P w name k zs) (hb : w'.heap[g]? = w.heap[g]?) : Lib.TabIs P w' name k zs := by
  unfold Lib.TabIs World.var? at *
  rw [hg] at h ⊢
  simp only [Option.bind_some] at h ⊢
  rw [hb]
  exact h
theorem DEnv.below {w w' : World} (h : DEnv w) (hb : Below w.heap.size w w') : DEnv w' :=
  ⟨h.1.below hb, Nat.lt_of_lt_of_le h.2.1 hb.size, var_heap (g := 0) (by kernel_rfl) h.2.2 (hb.block _ h.2.1)⟩
def dayS : ByteArray := ⟨#[84, 104, 117, 114, 115, 100, 97, 121, 32, 70, 114, 105, 100, 97, 121, 32, 83, 97, 116, 117, 114, 100, 97, 121, 32, 83, 117, 110, 100, 97, 121, 32, 77, 111, 110, 100, 97, 121, 32, 84, 117, 101, 115, 100, 97, 121, 32, 87, 101, 100, 110, 101, 115, 100, 97, 121]⟩
theorem fields_days : Lib.fields dayS.data.toList = ddays := by decide +kernel
theorem ddays_any (w : World) (h : DEnv w) :
    Calls Tryd.prog 30 #[.string ⟨#[84, 104, 117, 114, 115, 100, 97, 121, 32, 70, 114, 105, 100, 97, 121, 32, 83, 97, 116, 117, 114, 100, 97, 121, 32, 83, 117, 110, 100, 97, 121, 32, 77, 111, 110, 100, 97, 121, 32, 84, 117, 101, 115, 100, 97, 121, 32, 87, 101, 100, 110, 101, 115, 100, 97, 121]⟩] w fun e w' => e = .returned (.slice (some ⟨w.heap.size, 0, none⟩) 7 7) ∧ Rd (some ⟨w.heap.size, 0, none⟩) 7 1 (strsV ddays) w' ∧ Below w.heap.size w w' := by
  have k := Tryd.strings_Fields dayS w (by decide) (by
    intro j b hb
    have := List.mem_of_getElem? hb
    have hall : (dayS.data.toList.all fun b => decide (b.toNat < 128)) = true := by decide +kernel
    simpa using List.all_eq_true.1 hall b this) h.2.2
  rw [fields_days] at k
  refine k.mono ?_
  rintro e w' ⟨rfl, rfl⟩
  refine ⟨rfl, ⟨rfl, fun _ => ⟨_, 0, rfl, by simp, fun j u hu => ?_⟩⟩, (Below.refl _ w).alloc (Nat.le_refl _) _⟩
  rw [Nat.zero_add, World.cell?_alloc_mark]
  simpa [strsV] using hu
set_option maxHeartbeats 4000000 in
theorem dname0_any (s : ByteArray) (b c : Nat) (w : World) (hr : Rd (some ⟨b, 0, none⟩) 7 1 (strsV ddays) w) :
    Calls Tryd.prog 71 #[.string s, .slice (some ⟨b, 0, none⟩) 7 c, .int .i64 0] w fun e w' => e = .returned (.tuple #[.int .i64 (dname s.data.toList 0 ddays 0).1, .string ⟨(dname s.data.toList 0 ddays 0).2.1.toArray⟩, .bool (dname s.data.toList 0 ddays 0).2.2]) ∧ w' = w := by
  obtain ⟨R, hR⟩ : ∃ R, dname s.data.toList 0 ddays 0 = R := ⟨_, rfl⟩
  rw [hR]
  have hlen : ∀ x ∈ ddays, 3 ≤ x.length := by decide
  have hl7 : ddays.length = 7 := rfl
  have HR := Lib.hid hR; have HRD := Lib.hid hr; have HLEN := Lib.hid hlen; have HL7 := Lib.hid hl7
  clear hR hr hlen hl7
  generalize ddays = ls at *
  go_enter Tryd.func71, Tryd.ntmps71
  go_wp2_with fail
  go_loopw [15] (fun i wr => ∃ j : Nat, j ≤ 7 ∧ i = .int .i64 j ∧ Hid (dname s.data.toList 0 (ls.drop j) j = R) ∧ wr = w) (fun i _ => 7 - (intD i).toNat)
  case atStart => exact ⟨0, Nat.zero_le _, rfl, HR, rfl⟩
  case round =>
    obtain ⟨j, hj, rfl, HD, rfl⟩ := hrel
    by_cases hj7 : j < 7
    · have hjl : j < ls.length := by rw [HL7.out]; exact hj7
      obtain ⟨b', o', e, _, d0⟩ := HRD.out.str_at hjl
      cases e
      have h3 := HLEN.out ls[j] (List.getElem_mem hjl)
      have hdr : ls.drop j = ls[j] :: ls.drop (j + 1) := List.drop_eq_getElem_cons hjl
      have hD := HD.out
      rw [hdr, dname] at hD
      generalize ls[j] = x at *
      obtain ⟨o, rfl⟩ : ∃ o : ByteArray, x = o.data.toList := ⟨⟨x.toArray⟩, by simp⟩
      rw [str_of, Nat.zero_add] at d0
      have i2 : IntKind.i64.wrap ((j : Int) + 1) = ((j + 1 : Nat) : Int) := by rw [IntKind.wrap_i64]; omega
      have j1 : IntKind.i64.wrap (j : Int) = j := by rw [IntKind.wrap_i64]; omega
      simp only [Nat.lt_irrefl, decide_false, cond_false] at hD
      have k1 := Tryd.strings_CutPrefix s o wr
      cases hp : Lib.hasPrefix s.data.toList o.data.toList
      · rw [hp] at hD k1
        simp only [cond_false] at hD
        have HD2 := Lib.hid hD
        have K1 := Lib.hid k1
        clear hD k1 hdr h3 hjl hp HD
        go_wp2_with fail
        (with_reducible refine K1.out.mono ?_)
        rintro e w1 ⟨rfl, rfl⟩
        go_wp2
        go_roundw
        case rel => exact ⟨j + 1, hj7, rfl, HD2, trivial⟩
        case measure => simp [intD]; omega
      · rw [hp] at hD k1
        simp only [cond_true] at hD
        have htp : Lib.trimPrefix s.data.toList o.data.toList = s.data.toList.drop o.data.toList.length := by unfold Lib.trimPrefix; rw [hp]; rfl
        rw [htp] at k1
        have HD2 := Lib.hid hD
        have K1 := Lib.hid k1
        clear hD k1 hdr h3 hjl hp HD htp
        go_wp2_with fail
        (with_reducible refine K1.out.mono ?_)
        rintro e w1 ⟨rfl, rfl⟩
        go_wp2
        go_ret3
        exact ⟨by rw [← HD2.out]; rfl, rfl⟩
    · have hj2 : j = 7 := by omega
      subst hj2
      have hD := HD.out
      rw [List.drop_eq_nil_of_le (by rw [HL7.out]; exact Nat.le_refl _), dname] at hD
      have HD2 := Lib.hid hD
      clear hD
      go_wp2
      go_ret3
      exact ⟨by rw [← HD2.out]; rfl, rfl⟩
set_option maxHeartbeats 4000000 in
theorem dname3_any (s : ByteArray) (b c : Nat) (w : World) (hr : Rd (some ⟨b, 0, none⟩) 7 1 (strsV ddays) w) :
    Calls Tryd.prog 71 #[.string s, .slice (some ⟨b, 0, none⟩) 7 c, .int .i64 3] w fun e w' => e = .returned (.tuple #[.int .i64 (dname s.data.toList 3 ddays 0).1, .string ⟨(dname s.data.toList 3 ddays 0).2.1.toArray⟩, .bool (dname s.data.toList 3 ddays 0).2.2]) ∧ w' = w := by
  obtain ⟨R, hR⟩ : ∃ R, dname s.data.toList 3 ddays 0 = R := ⟨_, rfl⟩
  rw [hR]
  have hlen : ∀ x ∈ ddays, 3 ≤ x.length := by decide
  have hl7 : ddays.length = 7 := rfl
  have HR := Lib.hid hR; have HRD := Lib.hid hr; have HLEN := Lib.hid hlen; have HL7 := Lib.hid hl7
  clear hR hr hlen hl7
  generalize ddays = ls at *
  go_enter Tryd.func71, Tryd.ntmps71
  go_wp2_with fail
  go_loopw [15] (fun i wr => ∃ j : Nat, j ≤ 7 ∧ i = .int .i64 j ∧ Hid (dname s.data.toList 3 (ls.drop j) j = R) ∧ wr = w) (fun i _ => 7 - (intD i).toNat)
  case atStart => exact ⟨0, Nat.zero_le _, rfl, HR, rfl⟩
  case round =>
    obtain ⟨j, hj, rfl, HD, rfl⟩ := hrel
    by_cases hj7 : j < 7
    · have hjl : j < ls.length := by rw [HL7.out]; exact hj7
      obtain ⟨b', o', e, _, d0⟩ := HRD.out.str_at hjl
      cases e
      have h3 := HLEN.out ls[j] (List.getElem_mem hjl)
      have hdr : ls.drop j = ls[j] :: ls.drop (j + 1) := List.drop_eq_getElem_cons hjl
      have hD := HD.out
      rw [hdr, dname] at hD
      generalize ls[j] = x at *
      obtain ⟨o, rfl⟩ : ∃ o : ByteArray, x = o.data.toList := ⟨⟨x.toArray⟩, by simp⟩
      rw [str_of, Nat.zero_add] at d0
      have i2 : IntKind.i64.wrap ((j : Int) + 1) = ((j + 1 : Nat) : Int) := by rw [IntKind.wrap_i64]; omega
      have j1 : IntKind.i64.wrap (j : Int) = j := by rw [IntKind.wrap_i64]; omega
      have hdec : decide (0 < 3) = true := rfl
      simp only [hdec, cond_true] at hD
      have hex : (o.extract 0 3).data.toList = o.data.toList.take 3 := by rw [Lib.extract_data]; simp
      have k1 := Tryd.strings_CutPrefix s (o.extract 0 3) wr
      rw [hex] at k1
      have hl3 : (o.data.toList.take 3).length = 3 := by rw [List.length_take]; omega
      rw [hl3] at hD
      have h3s : 3 ≤ o.size := by rw [Lib.size_eq]; exact h3
      cases hp : Lib.hasPrefix s.data.toList (o.data.toList.take 3)
      · rw [hp] at hD k1
        simp only [cond_false] at hD
        have HD2 := Lib.hid hD
        have K1 := Lib.hid k1
        clear hD k1 hdr h3 hjl hp HD hex hl3
        go_wp2_with fail
        (with_reducible refine K1.out.mono ?_)
        rintro e w1 ⟨rfl, rfl⟩
        go_wp2
        go_roundw
        case rel => exact ⟨j + 1, hj7, rfl, HD2, trivial⟩
        case measure => simp [intD]; omega
      · rw [hp] at hD k1
        simp only [cond_true] at hD
        have htp : Lib.trimPrefix s.data.toList (o.data.toList.take 3) = s.data.toList.drop (o.data.toList.take 3).length := by unfold Lib.trimPrefix; rw [hp]; rfl
        rw [htp, hl3] at k1
        have HD2 := Lib.hid hD
        have K1 := Lib.hid k1
        clear hD k1 hdr h3 hjl hp HD htp hex hl3
        go_wp2_with fail
        (with_reducible refine K1.out.mono ?_)
        rintro e w1 ⟨rfl, rfl⟩
        go_wp2
        go_ret3
        exact ⟨by rw [← HD2.out]; rfl, rfl⟩
    · have hj2 : j = 7 := by omega
      subst hj2
      have hD := HD.out
      rw [List.drop_eq_nil_of_le (by rw [HL7.out]; exact Nat.le_refl _), dname] at hD
      have HD2 := Lib.hid hD
      clear hD
      go_wp2
      go_ret3
      exact ⟨by rw [← HD2.out]; rfl, rfl⟩
end Go.Proofs.YthnfmhjjpodhfaaDoor
