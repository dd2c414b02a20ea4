/- The walks of the document's Quoted, Split and Texts. -/
import Derived.Test.YthnfmhjjpodhfaaDoorSplit
import Derived.Test.YthnfmhjjpodhfaaDoorRTrim
import Derived.Deep.OwnRows
namespace Go.Proofs.YthnfmhjjpodhfaaDoor
open Go.RowKit

theorem uBool : (Tryd.prog.info? 4).map (fun i => (i.zero, i.size, i.bytes)) = some (some (.bool false), 1, 1) := by kernel_rfl
def mask (F : List Bool) (i j : Nat) : Bool := decide (j < i) && F.getD j false
structure MaskAt (b : Nat) (F : List Bool) (i n : Nat) (w : World) : Prop where
  cells : ∀ j, j < n → w.cell? ⟨b, j, none⟩ = some (.bool (mask F i j))
  free : ∀ j, j < n → w.frozen? ⟨b, j, none⟩ = false
  lt : b < w.heap.size
theorem MaskAt.fresh (F : List Bool) (n : Nat) (w : World) : MaskAt w.heap.size F 0 n (w.alloc (.cells (madeCells #[.bool false] n) 4)) := by
  refine ⟨fun j hj => ?_, fun j hj => ?_, by simp⟩
  · rw [World.cell?_alloc_mark]
    have : mask F 0 j = false := by unfold mask; simp
    rw [this]; unfold madeCells; simp [hj, Nat.mod_one]
  · rw [World.frozen?_alloc_mark]; simp
theorem MaskAt.skip {b k n : Nat} {F : List Bool} {w : World} (h : MaskAt b F k n w) (e : F.getD k false = false) : MaskAt b F (k + 1) n w := by
  refine ⟨fun j hj => ?_, h.free, h.lt⟩
  rw [h.cells j hj]; congr 2
  unfold mask
  by_cases h2 : j = k
  · subst h2; rw [e]; simp
  · have : decide (j < k + 1) = decide (j < k) := by rw [decide_eq_decide]; omega
    rw [this]
theorem MaskAt.put {b k n : Nat} {F : List Bool} {w : World} (h : MaskAt b F k n w) (hk : k < n) (e : F.getD k false = true) : MaskAt b F (k + 1) n (w.setCell ⟨b, k, none⟩ (.bool true)) := by
  refine ⟨fun j hj => ?_, fun j hj => by rw [World.frozen?_setCell]; exact h.free j hj, by have := h.lt; simpa using this⟩
  have hc := h.cells j hj
  by_cases h2 : j = k
  · subst h2
    rw [World.cell?_setCell_same _ _ _ hc]
    unfold mask; rw [e]; simp
  · rw [World.cell?_setCell_other _ _ _ _ (by intro e; cases e; exact h2 rfl), hc]
    congr 2
    unfold mask
    have : decide (j < k + 1) = decide (j < k) := by rw [decide_eq_decide]; omega
    rw [this]
theorem MaskAt.any {b k n : Nat} {F : List Bool} {w : World} (h : MaskAt b F k n w) (hk : k < n) : ∃ v, w.cell? ⟨b, k, none⟩ = some v := ⟨_, h.cells k hk⟩
theorem getD_of_drop {F G : List Bool} {k : Nat} {x : Bool} (h : F.drop k = x :: G) : F.getD k false = x ∧ F.drop (k + 1) = G := by
  have h1 : F[k]? = some x := by
    have := List.getElem?_drop (xs := F) (i := k) (j := 0)
    rw [h] at this; simpa using this.symm
  refine ⟨by rw [List.getD_eq_getElem?_getD, h1]; rfl, ?_⟩
  have : F.drop (k + 1) = (F.drop k).drop 1 := by rw [List.drop_drop]
  rw [this, h]; rfl

theorem fl_out (c : UInt8) (r : List UInt8) (h : ((c.toNat : Int) == 34) = false) : fl false false (c :: r) = false :: fl false false r ∧ en false false (c :: r) = en false false r := by
  have := (beq_cast c.toNat 34).trans h; simp [fl, en, this]
theorem fl_open (c : UInt8) (r : List UInt8) (h : ((c.toNat : Int) == 34) = true) : fl false false (c :: r) = true :: fl true false r ∧ en false false (c :: r) = en true false r := by
  have := (beq_cast c.toNat 34).trans h; simp [fl, en, this]
theorem fl_close (c : UInt8) (r : List UInt8) (h : ((c.toNat : Int) == 34) = true) : fl true false (c :: r) = true :: fl false false r ∧ en true false (c :: r) = en false false r := by
  have h1 := (beq_cast c.toNat 34).trans h
  have h2 : (c.toNat == 92) = false := by simp at h1; simp [h1]
  simp [fl, en, h1, h2]
theorem fl_in (c : UInt8) (r : List UInt8) (h : ((c.toNat : Int) == 34) = false) (h9 : ((c.toNat : Int) == 92) = false) : fl true false (c :: r) = true :: fl true false r ∧ en true false (c :: r) = en true false r := by
  have h1 := (beq_cast c.toNat 34).trans h
  have h2 := (beq_cast c.toNat 92).trans h9
  simp [fl, en, h1, h2]
theorem fl_esc (c d : UInt8) (r : List UInt8) (h9 : ((c.toNat : Int) == 92) = true) : fl true false (c :: d :: r) = true :: true :: fl true false r ∧ en true false (c :: d :: r) = en true false r := by
  have h2 := (beq_cast c.toNat 92).trans h9
  simp [fl, en, h2]
theorem fl_last (c : UInt8) (h9 : ((c.toNat : Int) == 92) = true) : fl true false [c] = true :: fl true false [] ∧ en true false [c] = en true false [] := by
  have h2 := (beq_cast c.toNat 92).trans h9
  simp [fl, en, h2]

def QuotedPost (w : World) (s : ByteArray) (e : Ending) (w' : World) : Prop :=
  e = .returned (.tuple #[.slice (some ⟨w.heap.size, 0, none⟩) s.size s.size, .bool (!en false false s.data.toList)]) ∧ MaskAt w.heap.size (fl false false s.data.toList) s.size s.size w' ∧ Below w.heap.size w w'

set_option maxRecDepth 100000 in
set_option maxHeartbeats 4000000 in
theorem quoted_any (s : ByteArray) (w : World) (hs : s.size ≤ 1000000) :
    Calls Tryd.prog 39 #[.string s] w (QuotedPost w s) := by
  have hmk := run_make_row' (P := Tryd.prog) 66 4 (.bool false) 1 Tryd.underlying66 uBool rfl .i64 .i64 s.size (by omega) (by omega) w
  obtain ⟨F, hF⟩ : ∃ F, fl false false s.data.toList = F := ⟨_, rfl⟩
  obtain ⟨E, hE⟩ : ∃ E, en false false s.data.toList = E := ⟨_, rfl⟩
  have hm := MaskAt.fresh F s.size w
  have hb : Below w.heap.size w (w.alloc (.cells (madeCells #[.bool false] s.size) 4)) := (Below.refl _ w).alloc (Nat.le_refl _) _
  have HF := Lib.hid hF; have HE := Lib.hid hE
  clear hF hE
  generalize Obj.cells (madeCells #[Value.bool false] s.size) 4 = row at *
  have HM := Lib.hid hm; have HBL := Lib.hid hb; clear hm hb
  go_enter Tryd.func39, Tryd.ntmps39
  go_wp2
  clear hmk
  go_loopw [5] (fun i wr => ∃ k : Nat, k ≤ s.size ∧ i = .int .i64 k ∧ MaskAt w.heap.size F k s.size wr ∧ Below w.heap.size w wr ∧ Hid (F.drop k = fl false false (s.data.toList.drop k) ∧ E = en false false (s.data.toList.drop k))) (fun i _ => s.size - (intOf i).toNat)
  case atStart => exact ⟨0, Nat.zero_le _, rfl, HM.out, HBL.out, by show _ ∧ _; rw [List.drop_zero, List.drop_zero]; exact ⟨HF.out.symm, HE.out.symm⟩⟩
  case round =>
    clear HM HBL
    obtain ⟨k, hk, rfl, hM, hbw, HS⟩ := hrel
    have HM := Lib.hid hM; clear hM
    by_cases hlt : k < s.size
    · have hd := drop_cons s k hlt
      cases c34 : ((s[k].toNat : Int) == 34)
      · have h1 := HS.out
        rw [hd, (fl_out s[k] _ c34).1, (fl_out s[k] _ c34).2] at h1
        obtain ⟨g1, g2⟩ := getD_of_drop h1.1
        have HS2 := Lib.hid (And.intro g2 h1.2)
        have HM2 := Lib.hid (HM.out.skip g1)
        have n34 : ((s[k].toNat : Int) != 34) = true := by simp [bne, c34]
        clear hd h1 g1 g2
        go_wp2
        go_roundw
        case rel => exact ⟨k + 1, by omega, by go_num, HM2.out, hbw, HS2⟩
        case measure => simp [intOf]; omega
      · have h1 := HS.out
        rw [hd, (fl_open s[k] _ c34).1, (fl_open s[k] _ c34).2] at h1
        obtain ⟨g1, g2⟩ := getD_of_drop h1.1
        have HS2 := Lib.hid (And.intro g2 h1.2)
        have HM2 := Lib.hid (HM.out.put hlt g1)
        have n34 : ((s[k].toNat : Int) != 34) = false := by simp [bne, c34]
        have hc := HM.out.cells k hlt
        have hz := HM.out.free k hlt
        clear hd h1 g1 g2
        go_wp2
        obtain ⟨wo, hwo⟩ : ∃ wo : World, wo = wr.setCell ⟨w.heap.size, k, none⟩ (.bool true) := ⟨_, rfl⟩
        rw [← hwo] at HM2 ⊢
        have hbo : Below w.heap.size w wo := by rw [hwo]; exact hbw.setCell (Nat.le_refl _) _
        clear hwo hc hz HM HS hbw n34
        go_loopw [5] (fun i wr => ∃ k2 : Nat, k + 1 ≤ k2 ∧ k2 ≤ s.size ∧ i = .int .i64 k2 ∧ MaskAt w.heap.size F k2 s.size wr ∧ Below w.heap.size w wr ∧ Hid (F.drop k2 = fl true false (s.data.toList.drop k2) ∧ E = en true false (s.data.toList.drop k2))) (fun i _ => s.size - (intOf i).toNat)
        case atStart => exact ⟨k + 1, by omega, by omega, by go_num, HM2.out, hbo, HS2⟩
        case round =>
          clear HM2 HS2 hbo
          obtain ⟨m, hkm, hm, rfl, hM, hbw, HS⟩ := hrel
          have HM := Lib.hid hM; clear hM
          by_cases hlm : m < s.size
          · have hd := drop_cons s m hlm
            have hc := HM.out.cells m hlm
            have hz := HM.out.free m hlm
            cases d34 : ((s[m].toNat : Int) == 34)
            · have n34 : ((s[m].toNat : Int) != 34) = true := by simp [bne, d34]
              cases d92 : ((s[m].toNat : Int) == 92)
              · have h1 := HS.out
                rw [hd, (fl_in s[m] _ d34 d92).1, (fl_in s[m] _ d34 d92).2] at h1
                obtain ⟨g1, g2⟩ := getD_of_drop h1.1
                have HS2 := Lib.hid (And.intro g2 h1.2)
                have HM2 := Lib.hid (HM.out.put hlm g1)
                clear hd h1 g1 g2
                go_wp2
                go_roundw
                case rel => exact ⟨m + 1, by omega, by omega, by go_num, HM2.out, hbw.setCell (Nat.le_refl _) _, HS2⟩
                case measure => simp [intOf]; omega
              · by_cases hl2 : m + 1 < s.size
                · have hd2 := drop_cons s (m + 1) hl2
                  have h1 := HS.out
                  rw [hd, hd2, (fl_esc s[m] s[m + 1] _ d92).1, (fl_esc s[m] s[m + 1] _ d92).2] at h1
                  obtain ⟨g1, g2⟩ := getD_of_drop h1.1
                  obtain ⟨g3, g4⟩ := getD_of_drop g2
                  have HS2 := Lib.hid (And.intro g4 h1.2)
                  have hM2 := HM.out.put hlm g1
                  have hc2 := hM2.cells (m + 1) hl2
                  have hz2 := hM2.free (m + 1) hl2
                  have HM3 := Lib.hid (hM2.put hl2 g3)
                  have t1 : decide ((m : Int) + 1 < (s.size : Int)) = true := by simp; omega
                  clear hd hd2 h1 g1 g2 g3 g4 hM2
                  go_wp2
                  go_roundw
                  case rel => exact ⟨m + 1 + 1, by omega, by omega, by go_num, HM3.out, (hbw.setCell (Nat.le_refl _) _).setCell (Nat.le_refl _) _, HS2⟩
                  case measure => simp [intOf]; omega
                · have h1 := HS.out
                  rw [hd, drop_all s (m + 1) (by omega), (fl_last s[m] d92).1, (fl_last s[m] d92).2] at h1
                  obtain ⟨g1, g2⟩ := getD_of_drop h1.1
                  have h2 := And.intro g2 h1.2
                  rw [← drop_all s (m + 1) (by omega)] at h2
                  have HS2 := Lib.hid h2
                  have HM2 := Lib.hid (HM.out.put hlm g1)
                  have t1 : decide ((m : Int) + 1 < (s.size : Int)) = false := by simp; omega
                  clear hd h1 g1 g2 h2
                  go_wp2
                  go_roundw
                  case rel => exact ⟨m + 1, by omega, by omega, by go_num, HM2.out, hbw.setCell (Nat.le_refl _) _, HS2⟩
                  case measure => simp [intOf]; omega
            · have n34 : ((s[m].toNat : Int) != 34) = false := by simp [bne, d34]
              have h1 := HS.out
              rw [hd, (fl_close s[m] _ d34).1, (fl_close s[m] _ d34).2] at h1
              obtain ⟨g1, g2⟩ := getD_of_drop h1.1
              have HS2 := Lib.hid (And.intro g2 h1.2)
              have HM2 := Lib.hid (HM.out.put hlm g1)
              have t1 : ((m : Int) == (s.size : Int)) = false := by rw [beq_eq_false_iff_ne]; omega
              clear hd h1 g1 g2
              go_wp2
              go_roundw
              case rel => exact ⟨m + 1, by omega, by go_num, HM2.out, hbw.setCell (Nat.le_refl _) _, HS2⟩
              case measure => simp [intOf]; omega
          · have hme : m = s.size := by omega
            subst hme
            have h1 := HS.out
            rw [drop_all s s.size (Nat.le_refl _)] at h1
            have hE : E = true := h1.2
            have HE2 := Lib.hid hE; clear hE h1
            have t1 : ((s.size : Int) == (s.size : Int)) = true := by simp
            go_wp2
            go_ret2
            unfold QuotedPost
            rw [HF.out, HE.out, HE2.out]
            exact ⟨rfl, HM.out, hbw⟩
    · have hme : k = s.size := by omega
      subst hme
      have h1 := HS.out
      rw [drop_all s s.size (Nat.le_refl _)] at h1
      have hE : E = false := h1.2
      have HE2 := Lib.hid hE; clear hE h1
      go_wp2
      go_ret2
      unfold QuotedPost
      rw [HF.out, HE.out, HE2.out]
      exact ⟨rfl, HM.out, hbw⟩

theorem MaskAt.keep {b i n : Nat} {F : List Bool} {w w' : World} (h : MaskAt b F i n w) (hk : w'.heap[b]? = w.heap[b]?) : MaskAt b F i n w' := by
  have hb : ∀ j, j < n → w'.heap[b]? = w.heap[b]? := fun _ _ => hk
  refine ⟨fun j hj => ?_, fun j hj => ?_, ?_⟩
  · rw [← h.cells j hj]; exact World.cell?_of_block (w := w) (a := ⟨b, j, none⟩) (hb j hj)
  · rw [← h.free j hj]; exact World.frozen?_of_block (w := w) (a := ⟨b, j, none⟩) (hb j hj)
  · rcases Nat.lt_or_ge b w'.heap.size with h' | h'
    · exact h'
    · rw [Array.getElem?_eq_none h', Array.getElem?_eq_getElem h.lt] at hk; cases hk
theorem spR_count (sep : UInt8) : ∀ (l : List UInt8) (F : List Bool) (cur : List UInt8) (ls : List (List UInt8)), (spR sep cur ls l F).length ≤ ls.length + l.length + 1
  | [], F, cur, ls => by have := addP_le ls (trimL cur); simp [spR]; omega
  | c :: r, [], cur, ls => by have := addP_le ls (trimL cur); simp [spR]; omega
  | c :: r, f :: fs, cur, ls => by
    have ih := spR_count sep r fs
    have ha := addP_le ls (trimL cur)
    have h1 := ih (cur ++ [c]) ls
    have h2 := ih [] (addP ls (trimL cur))
    rw [spR, List.length_cons]
    cases (c.toNat != sep.toNat) || f
    · simp only [cond_false]; omega
    · simp only [cond_true]; omega

/-- Where the document's cut stands. -/
def SpSt (s : ByteArray) (F : List Bool) (sep : UInt8) (tot : List (List UInt8)) (k f : Nat) (ls : List (List UInt8)) : Prop :=
  (k ≤ s.size → spR sep (seg s f k) ls (s.data.toList.drop k) (F.drop k) = tot) ∧ (s.size < k → ls = tot)
theorem SpSt.skip {s : ByteArray} {F : List Bool} {sep : UInt8} {tot : List (List UInt8)} {k f : Nat} {ls : List (List UInt8)} (h : SpSt s F sep tot k f ls) (hk : k < s.size) (hf : f ≤ k) (hF : F.length = s.size)
    (e : ((s[k].toNat : Int) == (sep.toNat : Int)) = false ∨ F.getD k false = true) : SpSt s F sep tot (k + 1) f ls := by
  refine ⟨fun _ => ?_, fun h => by omega⟩
  have h1 := h.1 (by omega)
  have hkF : k < F.length := by omega
  rw [drop_cons s k hk, List.drop_eq_getElem_cons hkF, spR, ← seg_snoc s f k hf hk] at h1
  have hc : ((s[k].toNat != sep.toNat) || F[k]) = true := by
    rcases e with e | e
    · have := (beq_cast s[k].toNat sep.toNat).trans e; simp [bne, this]
    · rw [List.getD_eq_getElem?_getD, List.getElem?_eq_getElem hkF] at e; simp at e; simp [e]
  rw [hc] at h1
  exact h1
theorem SpSt.cut {s : ByteArray} {F : List Bool} {sep : UInt8} {tot : List (List UInt8)} {k f : Nat} {ls : List (List UInt8)} (h : SpSt s F sep tot k f ls) (hk : k < s.size) (hF : F.length = s.size)
    (e : ((s[k].toNat : Int) == (sep.toNat : Int)) = true) (e2 : F.getD k false = false) : SpSt s F sep tot (k + 1) (k + 1) (addP ls (pieceOf s f k)) := by
  refine ⟨fun _ => ?_, fun h => by omega⟩
  have h1 := h.1 (by omega)
  have hkF : k < F.length := by omega
  rw [drop_cons s k hk, List.drop_eq_getElem_cons hkF, spR] at h1
  have hc : ((s[k].toNat != sep.toNat) || F[k]) = false := by
    have := (beq_cast s[k].toNat sep.toNat).trans e
    rw [List.getD_eq_getElem?_getD, List.getElem?_eq_getElem hkF] at e2; simp at e2; simp [e2, bne, this]
  rw [hc] at h1
  rw [seg_self]; exact h1
theorem SpSt.last {s : ByteArray} {F : List Bool} {sep : UInt8} {tot : List (List UInt8)} {f : Nat} {ls : List (List UInt8)} (h : SpSt s F sep tot s.size f ls) : SpSt s F sep tot (s.size + 1) (s.size + 1) (addP ls (pieceOf s f s.size)) := by
  refine ⟨fun h => by omega, fun _ => ?_⟩
  have h1 := h.1 (Nat.le_refl _)
  rw [drop_all s s.size (Nat.le_refl _)] at h1
  rw [← h1, spR]
  · rfl
  · intro _ _ _ _ e _; cases e

set_option maxRecDepth 100000 in
set_option maxHeartbeats 8000000 in
theorem rsplit_any (s : ByteArray) (sep : UInt8) (w : World) (hs : s.size ≤ 1000000) :
    Calls Tryd.prog 24 #[.string s, .int .u8 sep.toNat] w (SplitPost w (splitL sep s.data.toList)) := by
  cases q1 : ((sep.toNat : Int) == 34)
  · cases q2 : ((sep.toNat : Int) == 92)
    · have hsp : splitL sep s.data.toList = splitE (bif en false false s.data.toList then none else some (spR sep [] [] s.data.toList (fl false false s.data.toList))) := by
        unfold splitL; rw [(beq_cast sep.toNat 34).trans q1, (beq_cast sep.toNat 92).trans q2, spl_eq sep ((beq_cast sep.toNat 34).trans q1) _ _ _ _ _ (fun h => by cases h)]; rfl
      rw [hsp]; clear hsp
      have hq := quoted_any s w hs
      have HQ := Lib.hid hq; clear hq
      have hfl := fl_length s.data.toList false false
      rw [← Lib.size_eq] at hfl
      have hcn := spR_count sep s.data.toList (fl false false s.data.toList) [] []
      rw [← Lib.size_eq] at hcn
      cases hE : en false false s.data.toList
      · rw [cond_false]
        generalize hFF : fl false false s.data.toList = F at *
        obtain ⟨tot, htot⟩ : ∃ t, spR sep [] [] s.data.toList F = t := ⟨_, rfl⟩
        rw [htot] at hcn ⊢
        have HT := Lib.hid htot; have HFF := Lib.hid hFF; have HE := Lib.hid hE; have HL := Lib.hid hfl
        clear htot hFF hE hfl
        have hcn2 : tot.length ≤ 1000001 := by simp at hcn; omega
        clear hcn
        obtain ⟨i0, hi, hz0, hz1, hz2⟩ := info_parts uStr
        go_enter Tryd.func24, Tryd.ntmps24
        go_wp2_with fail
        refine HQ.out.mono ?_
        clear HQ
        rintro e w1 ⟨he, hM, hb1⟩
        rw [HE.out] at he
        rw [HFF.out] at hM
        subst he
        have HM := Lib.hid hM; clear hM
        go_wp2
        have HB1 := Lib.hid hb1; clear hb1
        go_loopw [10, 9, 8] (fun i from_ out wr => ∃ (k f : Nat) (ls : List (List UInt8)), k ≤ s.size + 1 ∧ i = .int .i64 k ∧ from_ = .int .i64 f ∧ f ≤ k ∧ ls.length ≤ k ∧ Hid (OwnS (w.heap.size + 1) out ls wr) ∧ MaskAt w.heap.size F s.size s.size wr ∧ Below w.heap.size w wr ∧ Hid (SpSt s F sep tot k f ls)) (fun i _ _ _ => s.size + 1 - (intOf i).toNat)
        case atStart =>
          refine ⟨0, 0, [], Nat.zero_le _, rfl, rfl, Nat.le_refl _, by simp, World.ownsRow_nil _ _ _ _, HM.out, HB1.out, ?_⟩
          · refine ⟨fun _ => ?_, fun h => by omega⟩
            rw [seg_self, List.drop_zero, List.drop_zero]; exact HT.out
        case round =>
          clear HM HB1
          obtain ⟨k, f, ls, hk, rfl, rfl, hfk, hls, HO, hM, hbw, HS⟩ := hrel
          have HM := Lib.hid hM; clear hM
          by_cases hk1 : k < s.size + 1
          · by_cases hlt : k < s.size
            · have hc := HM.out.cells k hlt
              have hz := HM.out.free k hlt
              have hmk : mask F s.size k = F.getD k false := by unfold mask; rw [decide_eq_true hlt]; rfl
              rw [hmk] at hc; clear hmk
              cases xs : ((s[k].toNat : Int) == (sep.toNat : Int))
              · have HN := Lib.hid (HS.out.skip hlt hfk HL.out (Or.inl xs))
                have ns : ((s[k].toNat : Int) != (sep.toNat : Int)) = true := by simp [bne, xs]
                clear HS
                go_wp2
                go_roundw
                case rel => exact ⟨k + 1, f, ls, by omega, by go_num, rfl, by omega, by omega, HO, HM.out, hbw, HN⟩
                case measure => simp [intOf]; omega
              · have ns : ((s[k].toNat : Int) != (sep.toNat : Int)) = false := by simp [bne, xs]
                cases hF : F.getD k false
                · have HN := Lib.hid (HS.out.cut hlt HL.out xs hF)
                  rw [hF] at hc
                  clear HS hF
                  have hexl : (s.extract f k).data.toList = (s.data.toList.drop f).take (k - f) := Lib.extract_data s f k
                  have hexs : (s.extract f k).size ≤ 1000000 := by rw [ByteArray.size_extract]; omega
                  have k1 := fun w => rtrim_any (s.extract f k) w hexs
                  rw [hexl] at k1
                  have hp : trimL ((s.data.toList.drop f).take (k - f)) = pieceOf s f k := rfl
                  rw [hp] at k1
                  have hpl : (pieceOf s f k).length ≤ 1000000 := by
                    have h1 := trimL_le ((s.data.toList.drop f).take (k - f))
                    rw [hp] at h1
                    have h2 : ((s.data.toList.drop f).take (k - f)).length ≤ s.data.toList.length := by rw [List.length_take, List.length_drop]; omega
                    rw [← Lib.size_eq] at h2; omega
                  generalize pieceOf s f k = p at *
                  have hal := addP_le ls p
                  have K1 := Lib.hid k1; clear k1 hexl hp
                  cases he : p.isEmpty
                  · have hadd : addP ls p = ls ++ [p] := by unfold addP; rw [he]; rfl
                    rw [hadd] at HN hal
                    clear hadd
                    go_wp2_with (first | (go_at_call 40; refine (K1.out _).mono ?_; rintro e w2 ⟨rfl, hb2⟩; subst hb2) | (at_builtin; refine wpList_append_own _ rfl _ _ 28 rfl (w.heap.size + 1) 9 i0 (.string ByteArray.empty) 1 16 Tryd.underlying28 hi hz0 hz1 hz2 rfl (by decide) _ _ _ rfl (HO.out.alloc _) ⟨wr.heap.size, 0, none⟩ 1 1 [.string ⟨p.toArray⟩] rfl rfl ?c1 ?c2 ?c3 ?c4 ?c5 ?_))
                    case c1 =>
                      intro j u hj
                      match j, hj with
                      | 0, hj => simp at hj; subst hj; simp [Addr.add]
                    case c2 => intro u hu; simp at hu; subst hu; rfl
                    case c3 => unfold maxLen; omega
                    case c4 => omega
                    case c5 => have := HM.out.lt; simp; omega
                    intro v' w2 hown' hgrow _
                    have hlt := HM.out.lt
                    have HM2 := Lib.hid (HM.out.keep (w' := w2) (by rw [hgrow.block _ (by simp; omega) (fun e => by have := (HO.out.lt _ e.symm).1; omega), Below.heap_alloc _ _ _ (by omega)]))
                    have hb2 : Below w.heap.size w w2 := (hbw.alloc (by omega) _).grown hgrow (by simp; omega) (fun k hk => by have := (HO.out.lt k hk).1; omega)
                    have HO2 : Hid (OwnS (w.heap.size + 1) v' (ls ++ [p]) w2) := by
                      refine Lib.hid ?_
                      show World.ownsRow _ _ _ _ _ _ _
                      rw [List.length_append, List.length_singleton, List.map_append]; exact hown'
                    clear hown' hgrow HO HM hbw
                    go_wp2
                    go_roundw
                    case rel => exact ⟨k + 1, k + 1, ls ++ [p], by omega, by go_num, by go_num, by omega, by omega, HO2, HM2.out, hb2, HN⟩
                    case measure => simp [intOf]; omega
                  · have hadd : addP ls p = ls := by unfold addP; rw [he]; rfl
                    rw [hadd] at HN hal
                    clear hadd
                    go_wp2_with (go_at_call 40; refine (K1.out _).mono ?_; rintro e w2 ⟨rfl, hb2⟩; subst hb2)
                    go_roundw
                    case rel => exact ⟨k + 1, k + 1, ls, by omega, by go_num, by go_num, by omega, by omega, HO, HM.out, hbw, HN⟩
                    case measure => simp [intOf]; omega
                · have HN := Lib.hid (HS.out.skip hlt hfk HL.out (Or.inr hF))
                  rw [hF] at hc
                  clear HS hF
                  go_wp2
                  go_roundw
                  case rel => exact ⟨k + 1, f, ls, by omega, by go_num, rfl, by omega, by omega, HO, HM.out, hbw, HN⟩
                  case measure => simp [intOf]; omega
            · have hke : k = s.size := by omega
              subst hke
              have HN := Lib.hid HS.out.last
              clear HS
              have hexl : (s.extract f s.size).data.toList = (s.data.toList.drop f).take (s.size - f) := Lib.extract_data s f s.size
              have hexs : (s.extract f s.size).size ≤ 1000000 := by rw [ByteArray.size_extract]; omega
              have k1 := fun w => rtrim_any (s.extract f s.size) w hexs
              rw [hexl] at k1
              have hp : trimL ((s.data.toList.drop f).take (s.size - f)) = pieceOf s f s.size := rfl
              rw [hp] at k1
              have hpl : (pieceOf s f s.size).length ≤ 1000000 := by
                have h1 := trimL_le ((s.data.toList.drop f).take (s.size - f))
                rw [hp] at h1
                have h2 : ((s.data.toList.drop f).take (s.size - f)).length ≤ s.data.toList.length := by rw [List.length_take, List.length_drop]; omega
                rw [← Lib.size_eq] at h2; omega
              generalize pieceOf s f s.size = p at *
              have hal := addP_le ls p
              have K1 := Lib.hid k1; clear k1 hexl hp
              cases he : p.isEmpty
              · have hadd : addP ls p = ls ++ [p] := by unfold addP; rw [he]; rfl
                rw [hadd] at HN hal
                clear hadd
                go_wp2_with (first | (go_at_call 40; refine (K1.out _).mono ?_; rintro e w2 ⟨rfl, hb2⟩; subst hb2) | (at_builtin; refine wpList_append_own _ rfl _ _ 28 rfl (w.heap.size + 1) 9 i0 (.string ByteArray.empty) 1 16 Tryd.underlying28 hi hz0 hz1 hz2 rfl (by decide) _ _ _ rfl (HO.out.alloc _) ⟨wr.heap.size, 0, none⟩ 1 1 [.string ⟨p.toArray⟩] rfl rfl ?c1 ?c2 ?c3 ?c4 ?c5 ?_))
                case c1 =>
                  intro j u hj
                  match j, hj with
                  | 0, hj => simp at hj; subst hj; simp [Addr.add]
                case c2 => intro u hu; simp at hu; subst hu; rfl
                case c3 => unfold maxLen; omega
                case c4 => omega
                case c5 => have := HM.out.lt; simp; omega
                intro v' w2 hown' hgrow _
                have hlt := HM.out.lt
                have HM2 := Lib.hid (HM.out.keep (w' := w2) (by rw [hgrow.block _ (by simp; omega) (fun e => by have := (HO.out.lt _ e.symm).1; omega), Below.heap_alloc _ _ _ (by omega)]))
                have hb2 : Below w.heap.size w w2 := (hbw.alloc (by omega) _).grown hgrow (by simp; omega) (fun k hk => by have := (HO.out.lt k hk).1; omega)
                have HO2 : Hid (OwnS (w.heap.size + 1) v' (ls ++ [p]) w2) := by
                  refine Lib.hid ?_
                  show World.ownsRow _ _ _ _ _ _ _
                  rw [List.length_append, List.length_singleton, List.map_append]; exact hown'
                clear hown' hgrow HO HM hbw
                go_wp2
                go_roundw
                case rel => exact ⟨s.size + 1, s.size + 1, ls ++ [p], by omega, (by first | go_num | rfl), (by first | go_num | rfl), by omega, by omega, HO2, HM2.out, hb2, HN⟩
                case measure => simp [intOf] <;> omega
              · have hadd : addP ls p = ls := by unfold addP; rw [he]; rfl
                rw [hadd] at HN hal
                clear hadd
                go_wp2_with (go_at_call 40; refine (K1.out _).mono ?_; rintro e w2 ⟨rfl, hb2⟩; subst hb2)
                go_roundw
                case rel => exact ⟨s.size + 1, s.size + 1, ls, by omega, (by first | go_num | rfl), (by first | go_num | rfl), by omega, by omega, HO, HM.out, hbw, HN⟩
                case measure => simp [intOf] <;> omega
          · have hke : k = s.size + 1 := by omega
            subst hke
            have hte := HS.out.2 (by omega)
            have HTE := Lib.hid hte; clear hte
            obtain ⟨a, cap, rfl⟩ := HO.out.shape
            cases hlen : decide (64 < ls.length)
            · have hse : splitE (some tot) = (ls, 0) := by rw [← HTE.out]; unfold splitE; simp only [hlen, cond_false]
              have HSE := Lib.hid hse
              have t1 : decide ((64 : Int) < (ls.length : Int)) = false := by simp at hlen ⊢; omega
              clear hlen hse
              go_wp2
              go_ret2
              rw [HSE.out]
              exact ⟨a, cap, rfl, OwnS.base HO.out (by omega), hbw⟩
            · have hse : splitE (some tot) = ([], 3) := by rw [← HTE.out]; unfold splitE; simp only [hlen, cond_true]
              have HSE := Lib.hid hse
              have t1 : decide ((64 : Int) < (ls.length : Int)) = true := by simp at hlen ⊢; omega
              clear hlen hse
              go_wp2
              go_ret2
              rw [HSE.out]
              exact SplitPost.none hbw
      · rw [cond_true]
        have HE := Lib.hid hE; clear hE hcn hfl
        go_enter Tryd.func24, Tryd.ntmps24
        go_wp2_with fail
        refine HQ.out.mono ?_
        rintro e w1 ⟨he, hM, hb1⟩
        rw [HE.out] at he
        subst he
        clear hM
        go_wp2
        go_ret2
        exact SplitPost.none hb1
    · have hsp : splitL sep s.data.toList = ([], 2) := by unfold splitL; rw [(beq_cast sep.toNat 34).trans q1, (beq_cast sep.toNat 92).trans q2]; rfl
      rw [hsp]; clear hsp
      go_enter Tryd.func24, Tryd.ntmps24
      go_wp2
      go_ret2
      exact SplitPost.none (Below.refl _ w)
  · have hsp : splitL sep s.data.toList = ([], 2) := by unfold splitL; rw [(beq_cast sep.toNat 34).trans q1]; rfl
    rw [hsp]; clear hsp
    go_enter Tryd.func24, Tryd.ntmps24
    go_wp2
    go_ret2
    exact SplitPost.none (Below.refl _ w)
end Go.Proofs.YthnfmhjjpodhfaaDoor
