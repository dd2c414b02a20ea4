/- The walk of fields.Parse. -/
import Derived.Test.YthppcaoldobocaaDoorParseSpec
import Derived.Test.YthppcaoldobocaaDoorOwnF
import Derived.Test.YthppcaoldobocaaDoorShelf
namespace Go.Proofs.YthppcaoldobocaaDoor
open Go.RowKit
set_option maxRecDepth 100000

def szOf : Value → Nat
  | .string b => b.size
  | _ => 0
/-- The library's own mark holds a number. -/
def MaxL (w : World) : Prop := 0 < w.heap.size ∧ ∃ m, w.cell? ⟨0, 0, none⟩ = some (.int .i64 m)
theorem MaxL.of {w : World} (h : ∃ m, w.cell? ⟨0, 0, none⟩ = some (.int .i64 m)) : MaxL w := by
  obtain ⟨m, h⟩ := h
  exact ⟨World.block_lt_of_cell? w _ h, m, h⟩
theorem MaxL.below {w w' : World} (h : MaxL w) (hb : Below w.heap.size w w') : MaxL w' := by
  obtain ⟨h0, m, h⟩ := h
  exact ⟨Nat.lt_of_lt_of_le h0 hb.size, m, (hb.cell (p := ⟨_, 0, none⟩) h0).trans h⟩
theorem cut_any (s sep : ByteArray) (w : World) (h : MaxL w) (hs : s.size ≤ 1000000) :
    Calls Tryd.prog 38 #[.string s, .string sep] w fun e w' => e = .returned (.tuple #[.string ⟨(Lib.cut s.data.toList sep.data.toList).1.toArray⟩, .string ⟨(Lib.cut s.data.toList sep.data.toList).2.1.toArray⟩, .bool (Lib.cut s.data.toList sep.data.toList).2.2]) ∧ Below w.heap.size w w' := by
  obtain ⟨_, m, hm⟩ := h
  refine (Tryd.strings_Cut s sep m w (by omega) hm).mono ?_
  rintro e w' ⟨rfl, n, rfl⟩
  exact ⟨rfl, below_drewN (Below.refl _ _) _⟩

/-- Fields and a reason, handed back. -/
def FErrPost (w : World) (r : List Fld × Int) (e : Ending) (w' : World) : Prop :=
  ∃ a cap, e = .returned (.tuple #[.slice a r.1.length cap, .int .i64 r.2]) ∧ OwnF w.heap.size (.slice a r.1.length cap) r.1 w' ∧ Below w.heap.size w w'
theorem FErrPost.none {w w' : World} {n : Int} (h : Below w.heap.size w w') : FErrPost w ([], n) (.returned (.tuple #[.slice none 0 0, .int .i64 n])) w' :=
  ⟨Option.none, 0, rfl, OwnF.nil _ _, h⟩

set_option maxHeartbeats 2000000 in
theorem line_any (n v : ByteArray) (w : World) (hn : n.size ≤ 1000000) (hv : v.size ≤ 1000000) :
    Calls Tryd.prog 41 #[.agg #[.string n, .string v]] w fun e w' => e = .returned (.string ⟨(n.data.toList ++ ([58, 32] ++ v.data.toList)).toArray⟩) ∧ Below w.heap.size w w' := by
  have hB : Below w.heap.size w (w.alloc (.cells #[.string n, .string v] 37)) := (Below.refl w.heap.size w).alloc (Nat.le_refl _) _
  have he : (n ++ ⟨#[58, 32]⟩ : ByteArray) ++ v = ⟨(n.data.toList ++ ([58, 32] ++ v.data.toList)).toArray⟩ := by
    apply str_eq; simp [ByteArray.data_append]
  rw [← he]; clear he
  go_enter Tryd.func41, Tryd.ntmps41
  go_wp2
  go_ret
  exact ⟨rfl, hB⟩

theorem one_len (l : List UInt8) : (oneF l).1.length ≤ l.length ∧ (oneF l).2.length ≤ l.length := by
  have h := cut_le l [58]
  have h2 := trimL_le (Lib.cut l [58]).2.1
  unfold oneF
  exact ⟨h.1, by simp only; omega⟩

set_option maxHeartbeats 8000000 in
theorem parse4_any (s : ByteArray) (w : World) (hM : MaxL w) (hs : s.size ≤ 1000000) :
    Calls Tryd.prog 12 #[.string s] w (FErrPost w (parseL s.data.toList)) := by
  have hP : parseL s.data.toList = parR s.data.toList [] := rfl
  generalize parseL s.data.toList = tot at *
  have HP := Lib.hid hP; clear hP
  have hB0 := Below.refl w.heap.size w
  go_enter Tryd.func12, Tryd.ntmps12
  go_wp2_with fail
  go_loopw [0, 2] (fun x out wr => ∃ (b : ByteArray) (acc : List Fld), x = .string b ∧ b.size ≤ s.size ∧ acc.length ≤ 64 ∧ Hid (OwnF w.heap.size out acc wr) ∧ Below w.heap.size w wr ∧ Hid (parR b.data.toList acc = tot)) (fun x _ _ => szOf x)
  case atStart => exact ⟨s, [], rfl, Nat.le_refl _, Nat.zero_le _, Lib.hid (OwnF.nil _ _), hB0, Lib.hid HP.out.symm⟩
  case round =>
    clear hB0 HP
    obtain ⟨b, acc, rfl, hbs, hacc, HO, hbw, HT⟩ := hrel
    obtain ⟨A, C, rfl⟩ := HO.out.shape
    by_cases h0 : 0 < b.size
    · have hstep := parR_step b.data.toList acc (ne_of_pos b h0)
      rw [HT.out] at hstep
      have k1 := cut_any b ⟨#[13, 10]⟩ wr (hM.below hbw) (by omega)
      rw [show (⟨#[13, 10]⟩ : ByteArray).data.toList = crlf from rfl] at k1
      have hcl := cut_le b.data.toList crlf
      have hcy := @cut_yes b.data.toList crlf
      rw [← Lib.size_eq] at hcl hcy
      have hc2 : crlf.length = 2 := rfl
      rw [hc2] at hcy
      clear HT
      generalize Lib.cut b.data.toList crlf = c at *
      obtain ⟨one, rest, is⟩ := c
      obtain ⟨one, rfl⟩ : ∃ o : ByteArray, one = o.data.toList := ⟨⟨one.toArray⟩, rfl⟩
      obtain ⟨rest, rfl⟩ : ∃ o : ByteArray, rest = o.data.toList := ⟨⟨rest.toArray⟩, rfl⟩
      simp only [str_of, ← Lib.size_eq] at hstep hcl hcy k1
      obtain ⟨ho1, ho2⟩ := hcl
      have hne : (!b.toList.isEmpty) = true := by rw [Lib.toList_data, ne_of_pos b h0]; rfl
      have H1 := Lib.hid k1; clear k1
      cases is
      · simp only [Bool.not_false, cond_true] at hstep
        subst hstep
        clear hcy
        go_wp2_with fail
        refine H1.out.mono ?_
        rintro e w1 ⟨rfl, hb1⟩
        go_wp2
        go_ret2
        exact FErrPost.none (bt hbw hb1)
      · simp only [Bool.not_true, cond_false] at hstep
        have hlen := (hcy rfl).1
        clear hcy
        by_cases hfull : acc.length = 64
        · rw [show (acc.length == 64) = true from by simp [hfull], cond_true] at hstep
          subst hstep
          have t1 : ((acc.length : Int) == 64) = true := by simp; omega
          go_wp2_with fail
          refine H1.out.mono ?_
          rintro e w1 ⟨rfl, hb1⟩
          go_wp2
          go_ret2
          exact FErrPost.none (bt hbw hb1)
        · rw [show (acc.length == 64) = false from by simp [hfull], cond_false] at hstep
          have t1 : ((acc.length : Int) == 64) = false := by simp; omega
          have hoe : oneE one.data.toList = bif decide (2048 < one.size) then 3 else bif (!(Lib.cut one.data.toList [58]).2.2) || !mayL (oneF one.data.toList) then 4 else bif longL (oneF one.data.toList) then 3 else 0 := by rw [Lib.size_eq]; rfl
          by_cases hlong : one.size ≤ 2048
          · rw [show decide (2048 < one.size) = false from by simp; omega, cond_false] at hoe
            have k2 := fun w h => cut_any one ⟨#[58]⟩ w h (by omega)
            rw [show (⟨#[58]⟩ : ByteArray).data.toList = [58] from rfl] at k2
            have hcl := cut_le one.data.toList [58]
            have htl := trimL_le (Lib.cut one.data.toList [58]).2.1
            unfold oneF at hoe hstep
            rw [← Lib.size_eq] at hcl
            generalize Lib.cut one.data.toList [58] = c at *
            obtain ⟨nm, v, is⟩ := c
            simp only at hoe hstep hcl htl k2
            have k3 := fun w => trim_any ⟨v.toArray⟩ w (by rw [Lib.size_eq]; show v.length ≤ _; omega)
            rw [show (⟨v.toArray⟩ : ByteArray).data.toList = v from by simp] at k3
            have k4 := fun w => fmay_any ⟨nm.toArray⟩ ⟨(trimL v).toArray⟩ w (by rw [Lib.size_eq]; show nm.length ≤ _; omega) (by rw [Lib.size_eq]; show (trimL v).length ≤ _; omega)
            have k5 := fun w => line_any ⟨nm.toArray⟩ ⟨(trimL v).toArray⟩ w (by rw [Lib.size_eq]; show nm.length ≤ _; omega) (by rw [Lib.size_eq]; show (trimL v).length ≤ _; omega)
            rw [show (⟨nm.toArray⟩ : ByteArray).data.toList = nm from by simp, show (⟨(trimL v).toArray⟩ : ByteArray).data.toList = trimL v from by simp] at k4 k5
            generalize trimL v = tv at *
            have hln : (⟨(nm ++ ([58, 32] ++ tv)).toArray⟩ : ByteArray).size = nm.length + 2 + tv.length := by
              rw [Lib.size_eq]; simp; omega
            generalize (⟨(nm ++ ([58, 32] ++ tv)).toArray⟩ : ByteArray) = ln at *
            have hlg : longL (nm, tv) = decide (2048 < nm.length + 2 + tv.length) := rfl
            generalize mayL (nm, tv) = my at *
            have K2 := Lib.hid k2; have K3 := Lib.hid k3; have K4 := Lib.hid k4; have K5 := Lib.hid k5
            have HS := Lib.hid hstep; have HE := Lib.hid hoe; have HL := Lib.hid hlg
            clear k2 k3 k4 k5 hstep hoe hlg
            go_wp2_with fail
            refine H1.out.mono ?_
            rintro e w1 ⟨rfl, hb1⟩
            have hB1 := bt hbw hb1
            go_wp2_with fail
            refine (K2.out _ (hM.below hB1)).mono ?_
            rintro e w2 ⟨rfl, hb2⟩
            have hB2 := bt hB1 hb2
            go_wp2_with fail
            refine (K3.out _).mono ?_
            rintro e w3 ⟨rfl, hb3⟩
            have hB3 := bt hB2 hb3
            have hAl := hB3.alloc hB3.size (.cells #[.string ⟨nm.toArray⟩, .string ⟨tv.toArray⟩] 37)
            cases is
            · have he : oneE one.data.toList = 4 := HE.out
              have ht := HS.out
              rw [he] at ht
              have ht2 : tot = ([], 4) := ht
              subst ht2
              clear he ht HE HS
              go_wp2_with fail
              go_ret2
              exact FErrPost.none hAl
            · go_wp2_with fail
              refine (K4.out _).mono ?_
              rintro e w4 ⟨rfl, hb4⟩
              have hB4 := hAl.trans (hb4.mono hAl.size)
              have hR3 := bt (bt hb1 hb2) hb3
              have hR4a := hR3.alloc hR3.size (.cells #[.string ⟨nm.toArray⟩, .string ⟨tv.toArray⟩] 37)
              have hR4 := hR4a.trans (hb4.mono hR4a.size)
              have c0 : w4.cell? ⟨w3.heap.size, 0, none⟩ = some (.string ⟨nm.toArray⟩) := (hb4.cell (p := ⟨w3.heap.size, 0, none⟩) (by simp)).trans (World.cell?_alloc_mark w3 _ _ _ 0)
              have c1 : w4.cell? ⟨w3.heap.size, 1, none⟩ = some (.string ⟨tv.toArray⟩) := (hb4.cell (p := ⟨w3.heap.size, 1, none⟩) (by simp)).trans (World.cell?_alloc_mark w3 _ _ _ 1)
              have hl4 : w3.heap.size < w4.heap.size := by have := hb4.size; simp at this; omega
              clear hAl hb4
              cases my
              · have he : oneE one.data.toList = 4 := HE.out
                have ht := HS.out
                rw [he] at ht
                have ht2 : tot = ([], 4) := ht
                subst ht2
                clear he ht HE HS
                go_wp2_with fail
                go_ret2
                exact FErrPost.none hB4
              · go_wp2_with fail
                refine (K5.out _).mono ?_
                rintro e w5 ⟨rfl, hb5⟩
                have hB5 := bt hB4 hb5
                have d0 := (hb5.cell (p := ⟨w3.heap.size, 0, none⟩) hl4).trans c0
                have d1 := (hb5.cell (p := ⟨w3.heap.size, 1, none⟩) hl4).trans c1
                have hR5 := bt hR4 hb5
                clear c0 c1 hb5 hl4
                by_cases hll : ln.size ≤ 2048
                · have hz : longL (nm, tv) = false := by rw [HL.out]; simp; omega
                  have he := HE.out
                  rw [hz] at he
                  have he2 : oneE one.data.toList = 0 := he
                  have ht := HS.out
                  rw [he2] at ht
                  have ht2 : parR rest.data.toList (acc ++ [(nm, tv)]) = tot := ht.symm
                  have HT := Lib.hid ht2
                  clear hz he he2 ht ht2 HS HE HL
                  have HO5 := Lib.hid (HO.out.below hR5)
                  have hacc2 : acc.length ≤ 1000000000 := by omega
                  go_wp2_with (at_builtin; refine app_fld w.heap.size (nm, tv) HO5.out hB5.size hacc2 rfl _ _ rfl rfl rfl ?_)
                  intro v' w6 hO6 hb6 _
                  have HO6 := Lib.hid hO6; clear hO6
                  go_wp2
                  go_roundw
                  case rel => exact ⟨rest, acc ++ [(nm, tv)], rfl, by omega, by simp; omega, HO6, hB5.trans hb6, HT⟩
                  case measure => simp [szOf]; omega
                · have hz : longL (nm, tv) = true := by rw [HL.out]; simp; omega
                  have he := HE.out
                  rw [hz] at he
                  have he2 : oneE one.data.toList = 3 := he
                  have ht := HS.out
                  rw [he2] at ht
                  have ht2 : tot = ([], 3) := ht
                  subst ht2
                  clear hz he he2 ht HS HE HL
                  go_wp2_with fail
                  go_ret2
                  exact FErrPost.none hB5
          · rw [show decide (2048 < one.size) = true from by simp; omega, cond_true] at hoe
            rw [hoe] at hstep
            have ht : tot = ([], 3) := hstep
            subst ht
            clear hstep hoe
            go_wp2_with fail
            refine H1.out.mono ?_
            rintro e w1 ⟨rfl, hb1⟩
            go_wp2
            go_ret2
            exact FErrPost.none (bt hbw hb1)
    · have hb0 : b = ⟨#[]⟩ := by
        apply str_eq
        have : b.data.toList = [] := List.length_eq_zero_iff.1 (by rw [← Lib.size_eq]; omega)
        rw [this]
      subst hb0
      have ht := HT.out
      rw [show (⟨#[]⟩ : ByteArray).data.toList = [] from rfl, parR_nil] at ht
      subst ht
      clear HT
      go_wp2
      go_ret2
      exact ⟨A, C, rfl, HO.out, hbw⟩
end Go.Proofs.YthppcaoldobocaaDoor
