/- Joined out of the texts FormsSpec, OpenB, OwnFar, Forms (wip/tools/merge.py). -/
import Derived.Test.YtlhfbikhlfgjbaaDoorPv1
import Derived.ChangeSlices
import Derived.Deep.RegionHeld3
/- VaryForms: the plain law: a list that is cut into several fields, with blanks around its pieces. -/
namespace Go.Proofs.YtlhfbikhlfgjbaaDoor

/-- A text under way: the words that are ended in it. -/
def Under (s : List UInt8) (ws : List (List UInt8)) : Prop := ∀ ls rest, splP 44 false false [] ls (s ++ rest) = splP 44 false false [] (ls ++ ws) rest
theorem Under.nil : Under [] [] := fun ls rest => by simp
theorem Under.word {s q g g2 : List UInt8} {ws : List (List UInt8)} (h : Under s ws) (hq : goodQ q) (hg : ∀ c ∈ g, blanks.contains c = true) (hg2 : ∀ c ∈ g2, blanks.contains c = true) : Under (s ++ (g ++ (q ++ (g2 ++ [44])))) (ws ++ [q]) := by
  intro ls rest
  have e : (s ++ (g ++ (q ++ (g2 ++ [44])))) ++ rest = s ++ (g ++ (q ++ (g2 ++ 44 :: rest))) := by simp
  rw [e, h, spl_run g _ _ _ (fun c hc => blank_not (hg c hc)), spl_item hq, spl_run g2 _ _ _ (fun c hc => blank_not (hg2 c hc)), spl_comma, List.nil_append, trim_good hq hg hg2, addP_good hq, List.append_assoc]
theorem Under.split {s : List UInt8} {ws : List (List UInt8)} (h : Under s ws) (hn : ws.length ≤ 64) : splitL 44 s = (ws, 0) := by
  have := h [] []
  rw [List.append_nil, List.nil_append, splP, cond_false, show addP ws (trimL []) = ws from rfl] at this
  unfold splitL
  rw [this, show ((44 : UInt8).toNat == 34 || (44 : UInt8).toNat == 92) = false from rfl]
  have : decide (64 < ws.length) = false := by simp; omega
  simp only [splitE, cond_false, this]
theorem Under.keep {s : List UInt8} {ws : List (List UInt8)} (h : Under s ws) (hn : ws.length ≤ 64) (hw : ∀ q ∈ ws, goodQ q) : keepP (piecesOf s) = ws := by
  unfold piecesOf
  rw [h.split hn]
  show keepP ws = ws
  unfold keepP
  rw [List.filter_eq_self]
  intro q hq
  obtain ⟨⟨x, y, rfl, _⟩, _⟩ := good_ends (hw q hq)
  rfl
def bigW : List UInt8 := [65, 67, 67, 69, 80, 84]
def capW : List UInt8 := [65, 99, 99, 101, 112, 116]
/-- What the loop has laid: fields, a line under way, all words. -/
def FormsAt (n : Nat) (fs : List Fld) (line : List UInt8) (want : List (List UInt8)) : Prop :=
  ∃ ws, Under line ws ∧ ws.length ≤ n ∧ (∀ q ∈ ws, goodQ q) ∧ want = allP (valuesL fs accW) ++ ws
theorem FormsAt.start : FormsAt 0 [] [] [] := ⟨[], Under.nil, by simp, by simp, rfl⟩
theorem FormsAt.grow {n m : Nat} {fs line want} (h : FormsAt n fs line want) (hm : n ≤ m) : FormsAt m fs line want := by
  obtain ⟨ws, h1, h2, h3⟩ := h
  exact ⟨ws, h1, by omega, h3⟩
theorem FormsAt.word {n : Nat} {fs : List Fld} {line : List UInt8} {want : List (List UInt8)} (h : FormsAt n fs line want) {q g g2 : List UInt8} (hq : goodQ q) (hg : ∀ c ∈ g, blanks.contains c = true) (hg2 : ∀ c ∈ g2, blanks.contains c = true) : FormsAt (n + 1) fs (line ++ (g ++ (q ++ (g2 ++ [44])))) (want ++ [q]) := by
  obtain ⟨ws, h1, h2, h3, rfl⟩ := h
  refine ⟨ws ++ [q], h1.word hq hg hg2, by simp; omega, ?_, by simp⟩
  intro x hx
  rcases List.mem_append.1 hx with hx | hx
  · exact h3 x hx
  · rw [List.mem_singleton.1 hx]; exact hq
theorem valuesF_app (xs ys : List Fld) (nm : List UInt8) : valuesL (xs ++ ys) nm = valuesL xs nm ++ valuesL ys nm := by unfold valuesL; rw [List.filter_append, List.map_append]
theorem allP_app (a b : List (List UInt8)) : allP (a ++ b) = allP a ++ allP b := by unfold allP; simp
theorem FormsAt.cut {n : Nat} {fs : List Fld} {line : List UInt8} {want : List (List UInt8)} (h : FormsAt n fs line want) (hn : n ≤ 64) (t : List UInt8) : FormsAt n (fs ++ [(bigW, line), ([120], t)]) [] want := by
  obtain ⟨ws, h1, h2, h3, rfl⟩ := h
  refine ⟨[], Under.nil, by simp, by simp, ?_⟩
  rw [List.append_nil, valuesF_app]
  have e : valuesL [(bigW, line), ([120], t)] accW = [line] := by
    unfold valuesL
    have e1 : (lowerL bigW == lowerL accW) = true := by decide
    have e2 : (lowerL ([120] : List UInt8) == lowerL accW) = false := by decide
    simp only [List.filter_cons, List.filter_nil, e1, e2, List.map_cons, if_true]
    rfl
  rw [e, allP_app]
  show _ = _ ++ ([line].flatMap fun v => keepP (piecesOf v))
  rw [List.flatMap_cons, List.flatMap_nil, List.append_nil, h1.keep (by omega) h3]
theorem FormsAt.all {n : Nat} {fs : List Fld} {line : List UInt8} {want : List (List UInt8)} (h : FormsAt n fs line want) (hn : n ≤ 64) : valueL (fs ++ [(capW, line)]) accW = Lib.join want cs := by
  obtain ⟨ws, h1, h2, h3, rfl⟩ := h
  unfold valueL
  rw [valuesF_app]
  have e : valuesL [(capW, line)] accW = [line] := by
    unfold valuesL
    have e1 : (lowerL capW == lowerL accW) = true := by decide
    simp only [List.filter_cons, List.filter_nil, e1, List.map_cons, List.map_nil, if_true]
  rw [e, allP_app]
  have e2 : allP [line] = ws := by
    unfold allP
    rw [List.flatMap_cons, List.flatMap_nil, List.append_nil, h1.keep (by omega) h3]
  rw [e2]
end Go.Proofs.YtlhfbikhlfgjbaaDoor
/- Slices of bytes that came in, opened. -/
namespace Go.Proofs.YtlhfbikhlfgjbaaDoor
open Go.ChangeShapes Go.WideShapes Go.RowKit
set_option maxRecDepth 100000

theorem byteOfB {x : Int} (h : (Lit.int .u8 x).wf = true) : ∃ b : UInt8, x = (b.toNat : Int) := by
  have h2 : 0 ≤ x ∧ x ≤ 255 := by
    simp [Lit.wf, IntKind.min, IntKind.max, IntKind.signed, IntKind.bits] at h
    omega
  refine ⟨UInt8.ofNat x.toNat, ?_⟩
  have : (UInt8.ofNat x.toNat).toNat = x.toNat := by simp; omega
  omega
theorem addB_at (b o j : Nat) : (⟨b, o, none⟩ : Addr).add j = ⟨b, o + j, none⟩ := by unfold Addr.add; split <;> simp_all
/-- Bytes in a slice. -/
def BIn (A : Option Addr) (bs : List UInt8) (w : World) : Prop := 0 < bs.length → ∃ b o, A = some ⟨b, o, none⟩ ∧ b < w.heap.size ∧ ∀ j x, bs[j]? = some x → w.cell? ⟨b, o + j, none⟩ = some (.int .u8 x.toNat)
theorem BIn.below {A : Option Addr} {bs : List UInt8} {w w' : World} (h : BIn A bs w) (hb : Below w.heap.size w w') : BIn A bs w' := by
  intro h0
  obtain ⟨b, o, e, hl, hc⟩ := h h0
  exact ⟨b, o, e, Nat.lt_of_lt_of_le hl hb.size, fun j x hx => (hb.cell (p := ⟨b, o + j, none⟩) hl).trans (hc j x hx)⟩
theorem open_bytes_v {H : Type} {enc : TypeId × Value → H} {W : World} {base : Nat} {v : Value} {d : DataW H} {p : List MemPlace} (hv : Value.okWide Tryd.prog W .any base 23 v) (h : DataW.Trod enc Tryd.prog W 0 (fun _ => true) true 23 v d p) :
    ∃ A n c bs, v = .slice A n c ∧ n = bs.length ∧ BIn A bs W ∧ n ≤ maxLen := by
  obtain ⟨a0, len, cap, rfl⟩ := okWide_slice Tryd.underlying23 hv
  obtain ⟨fuel, hf⟩ := h
  have hf' : DataW.trod enc Tryd.prog W 0 (fun _ => true) true fuel 23 [.slice a0 len cap] = some (d, p) := hf
  have hc1 : Tryd.prog.cellsOf 5 = 1 := by kernel_rfl
  rcases open_ints Tryd.underlying23 Tryd.underlying5 hc1 hf' with ⟨hcs, _⟩ | ⟨a, len', cap', zs, hcs, _, hl, hm, hz, _, hcell, hwf⟩
  · simp at hcs
    obtain ⟨rfl, rfl, rfl⟩ := hcs
    exact ⟨none, 0, 0, [], rfl, rfl, fun h => absurd h (by simp), Nat.zero_le _⟩
  · simp at hcs
    obtain ⟨rfl, rfl, rfl⟩ := hcs
    simp only [if_true] at hz
    have hby : ∀ z ∈ zs, z = ((UInt8.ofNat z.toNat).toNat : Int) := by
      intro z hz'
      obtain ⟨bl, rfl⟩ := byteOfB (hwf z hz')
      simp
    refine ⟨some a, len, cap, (zs.take len).map (fun z => UInt8.ofNat z.toNat), rfl, by simp; omega, fun h0 => ?_, by omega⟩
    have hl0 : 0 < zs.length := by simp at h0; omega
    have hspot : a.spot = none := by
      have := World.cell?_spot (hcell 0 hl0)
      simpa [Addr.add] using this
    obtain ⟨b, o, spot⟩ := a
    simp only at hspot
    subst hspot
    refine ⟨b, o, rfl, ?_, fun j x hx => ?_⟩
    · rcases Nat.lt_or_ge b W.heap.size with h' | h'
      · exact h'
      · have := hcell 0 hl0
        simp [World.cell?, Addr.add, Array.getElem?_eq_none h'] at this
    · have hj : j < zs.length ∧ j < len := by
        have := (List.getElem?_eq_some_iff.1 hx).1
        simp at this; omega
      have h1 := hcell j hj.1
      rw [addB_at] at h1
      rw [h1]
      have h2 := hby _ (List.getElem_mem hj.1)
      simp [hj.1, hj.2] at hx
      subst hx
      have h3 : zs.getD j 0 = zs[j] := by simp [List.getD, hj.1]
      rw [h3, ← h2]
end Go.Proofs.YtlhfbikhlfgjbaaDoor
/- Rows of the call's own beside each other: what an append to the one leaves of the other. -/
namespace Go.Proofs.YtlhfbikhlfgjbaaDoor
open Go.RowKit
theorem own_grown2 {B : Nat} {e : TypeId} {size : Nat} {v : Value} {n : Nat} {xs : List Value} {w w1 : World} {o : Option Nat} (h : w.ownsRow B e size v n xs) (hg : w.grownBy w1 o) (hne : ∀ g, v.ownBlock = some g → o ≠ some g) : w1.ownsRow B e size v n xs := by
  obtain ⟨h1, h2⟩ := h
  refine ⟨h1, ?_⟩
  rcases h2 with h2 | ⟨g, cap, cur, hv, hgB, hh, r⟩
  · exact Or.inl h2
  · refine Or.inr ⟨g, cap, cur, hv, hgB, ?_, r⟩
    have hgl : g < w.heap.size := by
      rcases Nat.lt_or_ge g w.heap.size with h' | h'
      · exact h'
      · simp [Array.getElem?_eq_none h'] at hh
    rw [hg.block g hgl (fun x => hne g (by rw [hv]; rfl) x.symm)]
    exact hh
theorem own_far2 {B : Nat} {e : TypeId} {size : Nat} {v : Value} {n : Nat} {xs : List Value} {w w1 : World} {u u' : Value} (h : w.ownsRow B e size v n xs) (hf : Far w w1 u u') (hne : ∀ g, v.ownBlock = some g → u.ownBlock ≠ some g) : w1.ownsRow B e size v n xs ∧ ∀ g, v.ownBlock = some g → u'.ownBlock ≠ some g := by
  have hlt := h.lt
  refine ⟨own_grown2 h hf.1 hne, fun g hg => ?_⟩
  rcases hf.2 with h2 | h2
  · rw [h2]; exact hne g hg
  · intro x
    have h3 := h2 _ x
    have h4 := (hlt g hg).2
    omega
end Go.Proofs.YtlhfbikhlfgjbaaDoor
/- VaryForms: the walk of the law, and the law as it is handed in (printed by wip/tools/forms.py). -/
namespace Go.Proofs.YtlhfbikhlfgjbaaDoor
open Go.RowKit Go.ChangeShapes Go.WideShapes
set_option maxRecDepth 100000

theorem repF_any (s : ByteArray) (ch : UInt8) (hs : s.data.toList = [ch]) (hc : blanks.contains ch = true) (x : Int) (h0 : 0 ≤ x) (h1 : x ≤ 3) (w : World) :
    Calls Tryd.prog 7 #[.string s, .int .i64 x] w fun e w' => ∃ g : ByteArray, e = .returned (.string g) ∧ g.size ≤ 3 ∧ (∀ c ∈ g.data.toList, blanks.contains c = true) ∧ Below w.heap.size w w' := by
  obtain ⟨n, rfl⟩ := Int.eq_ofNat_of_zero_le h0
  have hz : s.size = 1 := by rw [Lib.size_eq, hs]; rfl
  refine (Tryd.strings_Repeat s n w (by omega) (by rw [hz]; omega)).mono ?_
  rintro e w' ⟨rfl, hb⟩
  refine ⟨_, rfl, ?_, ?_, hb⟩
  · rw [Lib.size_eq]; simp [Lib.repeatL_length, hs]; omega
  · intro c hc'
    rw [hs] at hc'
    exact repeat_blank ch hc n c (by simpa using hc')

set_option maxHeartbeats 32000000 in
theorem varyForms_any (A : Option Addr) (n c : Nat) (vs : List (List UInt8)) (B : Option Addr) (m d : Nat) (bs : List UInt8) (w : World) (hr : Rd A n 1 (strsV vs) w) (hs : ∀ v ∈ vs, v.length ≤ 140737488351232) (hB : BIn B bs w) (hm : m = bs.length) (hml : m ≤ maxLen) :
    Calls Tryd.prog 5 #[.slice A n c, .slice B m d] w fun e w' => e = .returned (.bool true) ∧ Below w.heap.size w w' := by
  obtain rfl := hr.str
  subst hm
  by_cases h20 : 20 < vs.length
  · clear hr hs hB
    go_enter Tryd.func5, Tryd.ntmps5
    go_wp2_with fail
    refine (awake15_any _).mono ?_
    rintro e w1 ⟨rfl, hb1⟩
    go_wp2
    go_ret
    exact ⟨rfl, hb1⟩
  have HR := Lib.hid hr; have HS := Lib.hid hs; have HB := Lib.hid hB
  have hml2 : bs.length ≤ 9223372036854775807 := by unfold maxLen at hml; omega
  clear hr hs hB hml
  go_enter Tryd.func5, Tryd.ntmps5
  go_wp2_with fail
  go_loopw [8, 5, 6, 7] (fun i s5 s6 s7 wr => ∃ (k : Nat) (u5 u6 : Value) (fs : List Fld) (line : List UInt8) (want : List (List UInt8)), k ≤ vs.length ∧ i = .int .i64 k ∧ u5 = s5 ∧ u6 = s6 ∧ s7 = .string ⟨line.toArray⟩ ∧ Hid (OwnS w.heap.size u5 want wr ∧ OwnF w.heap.size u6 fs wr ∧ ∀ g, u6.ownBlock = some g → u5.ownBlock ≠ some g) ∧ Hid (FormsAt k fs line want) ∧ line.length ≤ 60 * k ∧ want.length ≤ k ∧ fs.length ≤ 2 * k ∧ Hid (∀ x ∈ want, x.length ≤ 50) ∧ Hid (∀ f ∈ fs, f.1.length ≤ 2000 ∧ f.2.length ≤ 2000) ∧ Below w.heap.size w wr) (fun i _ _ _ _ => vs.length - (intOf i).toNat)
  case atStart => exact ⟨0, _, _, [], [], [], Nat.zero_le _, rfl, rfl, rfl, rfl, Lib.hid ⟨OwnS.nil _ _, OwnF.nil _ _, fun g h => by cases h⟩, Lib.hid FormsAt.start, by simp, by simp, by simp, Lib.hid (by simp), Lib.hid (by simp), Below.refl _ _⟩
  case round =>
    obtain ⟨k, u5, u6, fs, line, want, hk, rfl, rfl, rfl, rfl, HO, HF, hll, hwl, hfl, HWL, HFL, hbw⟩ := hrel
    by_cases hlt : k < vs.length
    · obtain ⟨b, o, rfl, hl, c00⟩ := HR.out.str_at (k := k) hlt
      have c0 := (hbw.cell (p := ⟨b, o + k, none⟩) hl).trans c00
      have hpl := HS.out vs[k] (List.getElem_mem _)
      generalize vs[k] = p at *
      obtain ⟨W0, rfl⟩ : ∃ W0 : World, W0 = wr := ⟨_, rfl⟩
      go_upto_if 23 with (fail)
      go_cut [9] (fun s9 wx => ∃ x : UInt8, s9 = .int .u8 x.toNat ∧ wx = W0)
      case first =>
        by_cases hb0 : 0 < bs.length
        · obtain ⟨bb, bo, rfl, hbl, hbc⟩ := HB.out.below hbw hb0
          have hj : k % bs.length < bs.length := Nat.mod_lt _ hb0
          have hcell := hbc (k % bs.length) bs[k % bs.length] (List.getElem?_eq_getElem hj)
          have e1 : (k : Int).tmod (bs.length : Int) = ((k % bs.length : Nat) : Int) := by rw [Int.tmod_eq_emod_of_nonneg (by omega)]; exact (Int.natCast_emod _ _).symm
          have e2 : (k : Int) % (bs.length : Int) = ((k % bs.length : Nat) : Int) := (Int.natCast_emod _ _).symm
          generalize bs[k % bs.length] = x at *
          generalize k % bs.length = j at *
          generalize bs.length = bl at *
          go_wp2
          go_meet
          exact ⟨x, rfl, rfl⟩
        · have t0 : decide ((0 : Int) < (bs.length : Int)) = false := by rw [decide_eq_false_iff_not]; omega
          go_wp2
          go_meet
          exact ⟨0, rfl, rfl⟩
      case rest =>
        obtain ⟨x, rfl, rfl⟩ := hcut
        have hx := x.toNat_lt
        generalize x.toNat = y at *
        have k1 := fun W => token_wide ⟨p.toArray⟩ W (by rw [Lib.size_eq]; exact hpl)
        rw [show (⟨p.toArray⟩ : ByteArray).data.toList = p from rfl] at k1
        have zp : (⟨p.toArray⟩ : ByteArray).size = p.length := by rw [Lib.size_eq]
        have skip : Hid (FormsAt (k + 1) fs line want) := Lib.hid (HF.out.grow (by omega))
        cases htk : tokenL p
        · rw [htk] at k1
          have K1 := Lib.hid k1; clear k1 htk
          go_wp2_with fail
          refine (K1.out _).mono ?_
          rintro e w2 ⟨rfl, rfl⟩
          go_wp2
          go_roundw
          case rel => exact ⟨k + 1, _, _, fs, line, want, by omega, by go_num, rfl, rfl, rfl, HO, skip, by omega, by omega, by omega, HWL, HFL, hbw⟩
          case measure => simp [intOf]; omega
        · rw [htk] at k1
          have K1 := Lib.hid k1; clear k1
          by_cases h50 : 50 < p.length
          · clear htk
            have t50 : decide ((50 : Int) < (p.length : Int)) = true := by simp; omega
            go_wp2_with fail
            refine (K1.out _).mono ?_
            rintro e w2 ⟨rfl, rfl⟩
            go_wp2
            go_roundw
            case rel => exact ⟨k + 1, _, _, fs, line, want, by omega, by go_num, rfl, rfl, rfl, HO, skip, by omega, by omega, by omega, HWL, HFL, hbw⟩
            case measure => simp [intOf]; omega
          · have t50 : decide ((50 : Int) < (p.length : Int)) = false := by simp; omega
            have hgq : Hid (goodQ p) := Lib.hid (Or.inl htk)
            obtain ⟨hOS, hOF, hne⟩ := HO.out
            have HOS := Lib.hid hOS; have HOF := Lib.hid hOF; have HNE := Lib.hid hne
            have hn1 : want.length ≤ 1000000000 := by omega
            have hwl2 : (want ++ [p]).length ≤ k + 1 := by simp; omega
            have HWL2 : Hid (∀ x ∈ want ++ [p], x.length ≤ 50) := Lib.hid (fun y hy => by
              rcases List.mem_append.1 hy with hy | hy
              · exact HWL.out y hy
              · rw [List.mem_singleton.1 hy]; omega)
            clear skip htk hOS hOF hne HO HWL
            go_wp2_with fail
            refine (K1.out _).mono ?_
            rintro e w1 ⟨rfl, rfl⟩
            go_wp2_with (at_builtin; refine app_str w.heap.size p HOS.out hbw.size hn1 rfl _ _ rfl rfl rfl ?_)
            intro v5 w2 hO2 hb2 hf2
            obtain ⟨hOF2, hne2⟩ := own_far2 HOF.out hf2 HNE.out
            have HOS2 := Lib.hid hO2; have HOF2 : Hid (OwnF w.heap.size u6 fs w2) := Lib.hid hOF2; have HNE2 := Lib.hid hne2
            have hbw2 := hbw.trans hb2
            have hgl := hb2.size
            have c2 := (hb2.cell (p := ⟨b, o + k, none⟩) hl).trans c0
            have kc : ∀ w', Below w2.heap.size w2 w' → w'.cell? ⟨b, o + k, none⟩ = some (.string ⟨p.toArray⟩) ∧ Below w2.heap.size w2 w' := fun w' h => ⟨(h.cell (p := ⟨b, o + k, none⟩) (by have := hbw2.size; show b < _; omega)).trans c2, h⟩
            have hb0 := Below.refl w2.heap.size w2
            have KC := Lib.hid kc
            have zl : (⟨line.toArray⟩ : ByteArray).size ≤ 2000 := by rw [Lib.size_eq]; show line.length ≤ _; omega
            have zp2 : (⟨p.toArray⟩ : ByteArray).size ≤ 50 := by omega
            have hgn : ∀ g1 g2 : ByteArray, (((⟨line.toArray⟩ : ByteArray) ++ g1 ++ ⟨p.toArray⟩ ++ g2 ++ ⟨#[44]⟩) : ByteArray).data.toList = line ++ (g1.data.toList ++ (p ++ (g2.data.toList ++ [44]))) := by
              intro g1 g2
              simp only [app_list]
              simp
            have HGN := Lib.hid hgn
            have e3 : IntKind.i64.wrap ((y : Int).tmod 3) = ((y % 3 : Nat) : Int) := by rw [Int.tmod_eq_emod_of_nonneg (by omega), IntKind.wrap_i64]; omega
            have e4 : IntKind.i64.wrap ((IntKind.u8.wrap ((y : Int) / 3)).tmod 3) = ((y / 3 % 3 : Nat) : Int) := by rw [IntKind.wrap_u8, Int.tmod_eq_emod_of_nonneg (by omega), IntKind.wrap_i64]; omega
            clear kc hO2 hf2 hOF2 hne2 HOS HOF HNE c0 c2 K1 hgn zp
            go_wp2_with fail
            refine wp_region_held_drew (S := (fun w' => w'.cell? ⟨b, o + k, none⟩ = some (.string ⟨p.toArray⟩) ∧ Below w2.heap.size w2 w')) (by kernel_rfl) (KC.out _ hb0.drew) (fun hHeld => ?_)
            refine wpAnyH_take (i := 0) (v := ?_) (by simp only [List.getElem?_toArray, List.getElem?_cons_zero]; exact rfl) (by kernel_rfl) (by kernel_rfl) (by kernel_rfl) (by intro _ _ _ h; exact h) (Or.inl ⟨by rfl, fun W hSw => ?_⟩) hHeld ?_
            rotate_left
            focus ((try dsimp only at hSw); first | (go_simp; done) | (go_simp; with_reducible rfl))
            try simp only [Act.put, List.setIfInBounds_toArray, List.set_cons_zero, List.set_cons_succ]
            refine wpAnyH_take (i := 1) (v := ?_) (by simp only [List.getElem?_toArray, List.getElem?_cons_succ, List.getElem?_cons_zero]; exact rfl) (by kernel_rfl) (by kernel_rfl) (by kernel_rfl) (by intro _ _ _ h; exact h) (Or.inl ⟨by rfl, fun W hSw => ?_⟩) hHeld ?_
            rotate_left
            focus ((try dsimp only at hSw); first | (go_simp; done) | (go_simp; with_reducible rfl))
            try simp only [Act.put, List.setIfInBounds_toArray, List.set_cons_zero, List.set_cons_succ]
            refine wpAnyH_take (i := 2) (v := ?_) (by simp only [List.getElem?_toArray, List.getElem?_cons_succ, List.getElem?_cons_zero]; exact rfl) (by kernel_rfl) (by kernel_rfl) (by kernel_rfl) (by intro _ _ _ h; exact h) (Or.inl ⟨by rfl, fun W hSw => ?_⟩) hHeld ?_
            rotate_left
            focus ((try dsimp only at hSw); first | (go_simp; done) | (go_simp; with_reducible rfl))
            try simp only [Act.put, List.setIfInBounds_toArray, List.set_cons_zero, List.set_cons_succ]
            refine wpAnyH_take (i := 3) (v := ?_) (by simp only [List.getElem?_toArray, List.getElem?_cons_succ, List.getElem?_cons_zero]; exact rfl) (by kernel_rfl) (by kernel_rfl) (by kernel_rfl) (by intro _ _ _ h; exact h) (Or.inl ⟨by rfl, fun W hSw => ?_⟩) hHeld ?_
            rotate_left
            focus ((try dsimp only at hSw); first | (go_simp; done) | (go_simp; with_reducible rfl))
            try simp only [Act.put, List.setIfInBounds_toArray, List.set_cons_zero, List.set_cons_succ]
            refine wpAnyH_take (i := 6) (v := ?_) (by simp only [List.getElem?_toArray, List.getElem?_cons_succ, List.getElem?_cons_zero]; exact rfl) (by kernel_rfl) (by kernel_rfl) (by kernel_rfl) (by intro _ _ _ h; exact h) (Or.inl ⟨by rfl, fun W hSw => ?_⟩) hHeld ?_
            rotate_left
            focus ((try dsimp only at hSw); first | (go_simp; done) | (go_simp; with_reducible rfl))
            try simp only [Act.put, List.setIfInBounds_toArray, List.set_cons_zero, List.set_cons_succ]
            refine wpAnyH_take (i := 7) (v := ?_) (by simp only [List.getElem?_toArray, List.getElem?_cons_succ, List.getElem?_cons_zero]; exact rfl) (by kernel_rfl) (by kernel_rfl) (by kernel_rfl) (by intro _ _ _ h; exact h) (Or.inl ⟨by rfl, fun W hSw => ?_⟩) hHeld ?_
            rotate_left
            focus ((try dsimp only at hSw); first | (go_simp; done) | (go_simp; with_reducible rfl))
            try simp only [Act.put, List.setIfInBounds_toArray, List.set_cons_zero, List.set_cons_succ]
            refine wpAnyH_take (i := 8) (v := ?_) (by simp only [List.getElem?_toArray, List.getElem?_cons_succ, List.getElem?_cons_zero]; exact rfl) (by kernel_rfl) (by kernel_rfl) (by kernel_rfl) (by intro _ _ _ h; exact h) (Or.inl ⟨by rfl, fun W hSw => ?_⟩) hHeld ?_
            rotate_left
            focus ((try dsimp only at hSw); first | (go_simp; done) | (go_simp; with_reducible rfl))
            try simp only [Act.put, List.setIfInBounds_toArray, List.set_cons_zero, List.set_cons_succ]
            refine wpAnyH_take (i := 9) (v := ?_) (by simp only [List.getElem?_toArray, List.getElem?_cons_succ, List.getElem?_cons_zero]; exact rfl) (by kernel_rfl) (by kernel_rfl) (by kernel_rfl) (by intro _ _ _ h; exact h) (Or.inl ⟨by rfl, fun W hSw => ?_⟩) hHeld ?_
            rotate_left
            focus ((try dsimp only at hSw); first | (go_simp; done) | (go_simp; with_reducible rfl))
            try simp only [Act.put, List.setIfInBounds_toArray, List.set_cons_zero, List.set_cons_succ]
            refine wpAnyH_take (i := 11) (v := ?_) (by simp only [List.getElem?_toArray, List.getElem?_cons_succ, List.getElem?_cons_zero]; exact rfl) (by kernel_rfl) (by kernel_rfl) (by kernel_rfl) (by intro _ _ _ h; exact h) (Or.inl ⟨by rfl, fun W hSw => ?_⟩) hHeld ?_
            rotate_left
            focus ((try dsimp only at hSw); first | (go_simp; done) | (go_simp; with_reducible rfl))
            try simp only [Act.put, List.setIfInBounds_toArray, List.set_cons_zero, List.set_cons_succ]
            refine wpAnyH_take (i := 12) (v := ?_) (by simp only [List.getElem?_toArray, List.getElem?_cons_succ, List.getElem?_cons_zero]; exact rfl) (by kernel_rfl) (by kernel_rfl) (by kernel_rfl) (by intro _ _ _ h; exact h) (Or.inl ⟨by rfl, fun W hSw => ?_⟩) hHeld ?_
            rotate_left
            focus ((try dsimp only at hSw); first | (go_simp; done) | (go_simp; with_reducible rfl))
            try simp only [Act.put, List.setIfInBounds_toArray, List.set_cons_zero, List.set_cons_succ]
            refine wpAnyH_take (i := 13) (v := ?_) (by simp only [List.getElem?_toArray, List.getElem?_cons_succ, List.getElem?_cons_zero]; exact rfl) (by kernel_rfl) (by kernel_rfl) (by kernel_rfl) (by intro _ _ _ h; exact h) (Or.inl ⟨by rfl, fun W hSw => ?_⟩) hHeld ?_
            rotate_left
            focus ((try dsimp only at hSw); first | (go_simp; done) | (go_simp; with_reducible rfl))
            try simp only [Act.put, List.setIfInBounds_toArray, List.set_cons_zero, List.set_cons_succ]
            refine wpAnyH_take (i := 14) (v := ?_) (by simp only [List.getElem?_toArray, List.getElem?_cons_succ, List.getElem?_cons_zero]; exact rfl) (by kernel_rfl) (by kernel_rfl) (by kernel_rfl) (by intro _ _ _ h; exact h) (Or.inl ⟨by rfl, fun W hSw => ?_⟩) hHeld ?_
            rotate_left
            focus ((try dsimp only at hSw); first | (go_simp; done) | (go_simp; with_reducible rfl))
            try simp only [Act.put, List.setIfInBounds_toArray, List.set_cons_zero, List.set_cons_succ]
            refine wpAnyH_ready (rs := [4]) (by kernel_rfl) (by simp) (AllReadyH.cons (by simp only [List.getElem?_toArray, List.getElem?_cons_succ, List.getElem?_cons_zero]; exact rfl) (fun K hK => ?_) AllReadyH.nil)
            rw [if_pos (by rfl)]
            go_simp
            (with_reducible refine (repF_any _ 32 rfl (by decide) _ (by omega) (by omega) _).mono ?_); rintro e w3 ⟨g1, rfl, hs1, hg1, hb3⟩; have hB3 := bt hb0.drew hb3; have f1 : ¬ (9223372036854775807 < line.length + g1.size) := (by omega); have f2 : ¬ (9223372036854775807 < line.length + g1.size + p.length) := (by omega); go_wp2_with fail
            refine hK.out _ _ (KC.out _ hB3) (fun hHeld => ?_)
            clear hK K
            try simp only [Act.put, List.setIfInBounds_toArray, List.set_cons_zero, List.set_cons_succ]
            refine wpAnyH_take (i := 5) (v := ?_) (by simp only [List.getElem?_toArray, List.getElem?_cons_succ, List.getElem?_cons_zero]; exact rfl) (by kernel_rfl) (by kernel_rfl) (by kernel_rfl) (by intro _ _ _ h; exact h) (Or.inl ⟨by rfl, fun W hSw => ?_⟩) hHeld ?_
            rotate_left
            focus ((try dsimp only at hSw); first | (go_simp; done) | (go_simp; with_reducible rfl))
            try simp only [Act.put, List.setIfInBounds_toArray, List.set_cons_zero, List.set_cons_succ]
            refine wpAnyH_take (i := 10) (v := ?_) (by simp only [List.getElem?_toArray, List.getElem?_cons_succ, List.getElem?_cons_zero]; exact rfl) (by kernel_rfl) (by kernel_rfl) (by kernel_rfl) (by intro _ _ _ h; exact h) (Or.inl ⟨by rfl, fun W hSw => ?_⟩) hHeld ?_
            rotate_left
            focus ((try dsimp only at hSw); first | (go_simp; done) | (go_simp; with_reducible rfl))
            try simp only [Act.put, List.setIfInBounds_toArray, List.set_cons_zero, List.set_cons_succ]
            refine wpAnyH_ready (rs := [15]) (by kernel_rfl) (by simp) (AllReadyH.cons (by simp only [List.getElem?_toArray, List.getElem?_cons_succ, List.getElem?_cons_zero]; exact rfl) (fun K hK => ?_) AllReadyH.nil)
            rw [if_pos (by rfl)]
            go_simp
            (with_reducible refine (repF_any _ 9 rfl (by decide) _ (by omega) (by omega) _).mono ?_); rintro e w4 ⟨g2, rfl, hs2, hg2, hb4⟩; have hB4 := bt hB3 hb4; have f3 : ¬ (9223372036854775807 < line.length + g1.size + p.length + g2.size) := (by omega); have f4 : ¬ (9223372036854775807 < line.length + g1.size + p.length + g2.size + 1) := (by omega); go_wp2_with fail
            refine hK.out _ _ (KC.out _ hB4) (fun hHeld => ?_)
            clear hK K
            try simp only [Act.put, List.setIfInBounds_toArray, List.set_cons_zero, List.set_cons_succ]
            refine wpAnyH_take (i := 16) (v := ?_) (by simp only [List.getElem?_toArray, List.getElem?_cons_succ, List.getElem?_cons_zero]; exact rfl) (by kernel_rfl) (by kernel_rfl) (by kernel_rfl) (by intro _ _ _ h; exact h) (Or.inl ⟨by rfl, fun W hSw => ?_⟩) hHeld ?_
            rotate_left
            focus ((try dsimp only at hSw); first | (go_simp; done) | (go_simp; with_reducible rfl))
            try simp only [Act.put, List.setIfInBounds_toArray, List.set_cons_zero, List.set_cons_succ]
            refine wpAnyH_take (i := 17) (v := ?_) (by simp only [List.getElem?_toArray, List.getElem?_cons_succ, List.getElem?_cons_zero]; exact rfl) (by kernel_rfl) (by kernel_rfl) (by kernel_rfl) (by intro _ _ _ h; exact h) (Or.inl ⟨by rfl, fun W hSw => ?_⟩) hHeld ?_
            rotate_left
            focus ((try dsimp only at hSw); first | (go_simp; done) | (go_simp; with_reducible rfl))
            try simp only [Act.put, List.setIfInBounds_toArray, List.set_cons_zero, List.set_cons_succ]
            refine wpAnyH_take (i := 18) (v := ?_) (by simp only [List.getElem?_toArray, List.getElem?_cons_succ, List.getElem?_cons_zero]; exact rfl) (by kernel_rfl) (by kernel_rfl) (by kernel_rfl) (by intro _ _ _ h; exact h) (Or.inl ⟨by rfl, fun W hSw => ?_⟩) hHeld ?_
            rotate_left
            focus ((try dsimp only at hSw); first | (go_simp; done) | (go_simp; with_reducible rfl))
            try simp only [Act.put, List.setIfInBounds_toArray, List.set_cons_zero, List.set_cons_succ]
            refine wpAnyH_done (by kernel_rfl) ?_ _
            clear hHeld
            have hlist := HGN.out g1 g2
            have hsz : (((⟨line.toArray⟩ : ByteArray) ++ g1 ++ ⟨p.toArray⟩ ++ g2 ++ ⟨#[44]⟩) : ByteArray).size ≤ 60 * (k + 1) := by
              have e1 : (⟨line.toArray⟩ : ByteArray).size = line.length := by rw [Lib.size_eq]
              have e2 : (⟨p.toArray⟩ : ByteArray).size = p.length := by rw [Lib.size_eq]
              rw [ByteArray.size_append, ByteArray.size_append, ByteArray.size_append, ByteArray.size_append, show (⟨#[44]⟩ : ByteArray).size = 1 from rfl]; omega
            generalize hL : (((⟨line.toArray⟩ : ByteArray) ++ g1 ++ ⟨p.toArray⟩ ++ g2 ++ ⟨#[44]⟩) : ByteArray) = L2 at *
            obtain ⟨l2, rfl⟩ : ∃ l2 : List UInt8, L2 = ⟨l2.toArray⟩ := ⟨L2.data.toList, (str_of L2).symm⟩
            have hl2 : l2 = line ++ (g1.data.toList ++ (p ++ (g2.data.toList ++ [44]))) := hlist
            have HF2 : Hid (FormsAt (k + 1) fs l2 (want ++ [p])) := by rw [hl2]; exact Lib.hid (HF.out.word hgq.out hg1 hg2)
            have hl2n : l2.length ≤ 60 * (k + 1) := by rw [Lib.size_eq] at hsz; exact hsz
            have hB4' := hbw2.trans (hB4.mono hbw2.size)
            have HOS4 := Lib.hid (HOS2.out.below hB4); have HOF4 := Lib.hid (HOF2.out.below hB4)
            clear hL hlist hsz hl2 HF HOS2 HOF2 HGN KC zl zp2 hs1 hs2 hg1 hg2 hb3 hb4 hB3
            rcases Nat.mod_two_eq_zero_or_one y with hpar | hpar
            · have m1 : ((y : Int) % 2 == 1) = false := by rw [beq_eq_false_iff_ne]; omega
              have m2 : (Int.tmod (y : Int) 2 == 1) = false := by rw [beq_eq_false_iff_ne, Int.tmod_eq_emod_of_nonneg (by omega)]; omega
              go_wp2
              go_roundw
              case rel => exact ⟨k + 1, _, _, fs, l2, want ++ [p], by omega, by go_num, rfl, rfl, rfl, Lib.hid ⟨HOS4.out, HOF4.out, HNE2.out⟩, HF2, by omega, by omega, by omega, HWL2, HFL, hB4'⟩
              case measure => simp [intOf]; omega
            · have m1 : ((y : Int) % 2 == 1) = true := by rw [beq_iff_eq]; omega
              have m2 : (Int.tmod (y : Int) 2 == 1) = true := by rw [beq_iff_eq, Int.tmod_eq_emod_of_nonneg (by omega)]; omega
              have c4 := (hB4'.cell (p := ⟨b, o + k, none⟩) hl).trans c00
              obtain ⟨W5, hW5⟩ : ∃ W5, w4.alloc (.cells #[.string ⟨#[65, 67, 67, 69, 80, 84]⟩, .string ⟨l2.toArray⟩, .string ⟨#[120]⟩, .string ⟨p.toArray⟩] 45) = W5 := ⟨_, rfl⟩
              have hal : Below w4.heap.size w4 W5 := by rw [← hW5]; exact (Below.refl _ w4).alloc (Nat.le_refl _) _
              have hrd : Rd (some ⟨w4.heap.size, 0, none⟩) 2 2 (fldsV [(bigW, l2), ([120], p)]) W5 := by rw [← hW5]; exact Rd.newFs w4 [(bigW, l2), ([120], p)] 45
              have HRD := Lib.hid hrd; have HW5 := Lib.hid hW5
              have HOS5 := Lib.hid (HOS4.out.below hal); have HOF5 := Lib.hid (HOF4.out.below hal)
              have hB5 := hB4'.trans (hal.mono hB4'.size)
              have hs5 := hB5.size
              have hn2 : fs.length + 2 ≤ 1000000000 := by omega
              have hll2 : l2.length ≤ 2000 := by omega
              have HFL2 : Hid (∀ f ∈ fs ++ [(bigW, l2), ([120], p)], f.1.length ≤ 2000 ∧ f.2.length ≤ 2000) := Lib.hid (fun f hf => by
                rcases List.mem_append.1 hf with hf | hf
                · exact HFL.out f hf
                · simp only [List.mem_cons, List.not_mem_nil, or_false] at hf
                  rcases hf with rfl | rfl
                  · exact ⟨(by decide : bigW.length ≤ 2000), hll2⟩
                  · refine ⟨(by decide : [(120 : UInt8)].length ≤ 2000), ?_⟩
                    show p.length ≤ 2000
                    omega)
              have HF3 := Lib.hid (HF2.out.cut (by omega) p)
              have hfl2 : (fs ++ [(bigW, l2), ([120], p)]).length ≤ 2 * (k + 1) := by simp; omega
              clear hW5 hal hrd HOS4 HOF4 HF2 hB4'
              go_wp2_with (at_builtin; rw [HW5.out]; refine app_flds w.heap.size HOF5.out hs5 HRD.out hn2 rfl _ _ rfl rfl rfl ?_)
              intro v6 w6 hO6 hb6 hf6
              obtain ⟨hOS6, hne6⟩ := own_far2 HOS5.out hf6 (fun g hg h => HNE2.out g h hg)
              have HO6 : Hid (OwnS w.heap.size v5 (want ++ [p]) w6 ∧ OwnF w.heap.size v6 (fs ++ [(bigW, l2), ([120], p)]) w6 ∧ ∀ g, v6.ownBlock = some g → v5.ownBlock ≠ some g) := Lib.hid ⟨hOS6, hO6, fun g hg h => hne6 g h hg⟩
              have hB6 := hB5.trans hb6
              clear hO6 hf6 hOS6 hne6 HOS5 HOF5 HRD HW5
              go_wp2
              go_roundw
              case rel => exact ⟨k + 1, _, _, fs ++ [(bigW, l2), ([120], p)], [], want ++ [p], by omega, by go_num, rfl, rfl, rfl, HO6, HF3, by simp, hwl2, hfl2, HWL2, HFL2, hB6⟩
              case measure => simp [intOf]; omega
    · have hke : k = vs.length := by omega
      subst hke
      obtain ⟨hOS, hOF, hne⟩ := HO.out
      obtain ⟨wa, wc, rfl⟩ := OwnS.shape hOS
      have hval := HF.out.all (by omega)
      have htot := total_bound 50 want HWL.out
      have hmul : want.length * 50 ≤ 20 * 50 := Nat.mul_le_mul_right _ (by omega)
      have HOS := Lib.hid hOS; have HOF := Lib.hid hOF; have HNE := Lib.hid hne
      have hnf : fs.length ≤ 1000000000 := by omega
      have hnf2 : (fs ++ [(capW, line)]).length ≤ 1000 := by simp; omega
      have HFL2 : Hid (∀ f ∈ fs ++ [(capW, line)], f.1.length ≤ 1000000 ∧ f.2.length ≤ 1000000) := Lib.hid (fun f hf => by
        rcases List.mem_append.1 hf with hf | hf
        · have := HFL.out f hf; omega
        · rw [List.mem_singleton.1 hf]
          refine ⟨(by decide : capW.length ≤ 1000000), ?_⟩
          show line.length ≤ 1000000
          omega)
      have hbd : total want + want.length * (⟨#[44, 32]⟩ : ByteArray).size ≤ 100000000000 := by
        have e : (⟨#[44, 32]⟩ : ByteArray).size = 2 := rfl
        rw [e]; omega
      have hwn : want.length ≤ 1000000 := by omega
      clear hOS hOF hne HO htot hmul
      go_wp2_with (at_builtin; refine app_fld w.heap.size (capW, line) HOF.out hbw.size hnf rfl _ _ rfl rfl rfl ?_)
      intro v6 w6 hO6 hb6 hf6
      obtain ⟨hOS6, _⟩ := own_far2 HOS.out hf6 (fun g hg h => HNE.out g h hg)
      obtain ⟨fa, fc, rfl⟩ := OwnF.shape hO6
      have hbw6 := hbw.trans hb6
      obtain ⟨W7, hW7⟩ : ∃ W7, w6.alloc (.cells #[.string ⟨#[97, 99, 99, 101, 112, 116]⟩] 9) = W7 := ⟨_, rfl⟩
      have hal : Below w6.heap.size w6 W7 := by rw [← hW7]; exact (Below.refl _ w6).alloc (Nat.le_refl _) _
      have hnm : Rd (some ⟨w6.heap.size, 0, none⟩) 1 1 (strsV [accW]) W7 := by rw [← hW7]; exact rd_new w6 [accW] 9
      have ks := select_any (some ⟨w6.heap.size, 0, none⟩) 1 1 [accW] fa (fs ++ [(capW, line)]).length fc (fs ++ [(capW, line)]) W7 hnm (by omega) (by intro x hx; rw [List.mem_singleton.1 hx]; decide) ((OwnF.rd hO6).2.below hal) hnf2 HFL2.out
      rw [show selectL [accW] (fs ++ [(capW, line)]) = [(accW, valueL (fs ++ [(capW, line)]) accW)] from rfl, hval, show (fs ++ [(capW, line)]).length = fs.length + 1 from by simp] at ks
      have HOS7 := Lib.hid (OwnS.below hOS6 hal)
      have hB7 := hbw6.trans (hal.mono hbw6.size)
      have kj0 := fun W (hb : Below W7.heap.size W7 W) => join_any w.heap.size wc wa want ⟨#[44, 32]⟩ W (HOS7.out.below hb) hwn hbd
      rw [show (⟨#[44, 32]⟩ : ByteArray).data.toList = cs from rfl] at kj0
      generalize Lib.join want cs = jn at *
      have KS := Lib.hid ks; have KJ0 := Lib.hid kj0; have HW7 := Lib.hid hW7
      clear ks kj0 hW7 hal hnm hO6 hOS6 hf6 hb6 hbw6 HOS HOF HNE HOS7 HFL2 HWL HFL HF hval hbd
      go_wp2_with fail
      rw [HW7.out]
      (with_reducible refine KS.out.mono ?_)
      rintro e w8 ⟨ga, gc, rfl, hO8, hb8⟩
      obtain ⟨gb, go, rfl, hgl, g1, g2⟩ := (OwnF.rd hO8).2.fld_at (k := 0) (by simp)
      simp only [Nat.zero_mul, Nat.add_zero, List.getElem_cons_zero] at g1 g2
      have hB8 := hB7.trans (hb8.mono hB7.size)
      have kc : ∀ w', Below w8.heap.size w8 w' → w'.cell? ⟨gb, go, none⟩ = some (.string ⟨#[97, 99, 99, 101, 112, 116]⟩) ∧ w'.cell? ⟨gb, go + 1, none⟩ = some (.string ⟨jn.toArray⟩) ∧ Below w8.heap.size w8 w' := fun w' h => ⟨(h.cell (p := ⟨gb, go, none⟩) hgl).trans g1, (h.cell (p := ⟨gb, go + 1, none⟩) hgl).trans g2, h⟩
      have kj := fun W (hb : Below w8.heap.size w8 W) => KJ0.out W (hb8.trans (hb.mono hb8.size))
      have hb0 := Below.refl w8.heap.size w8
      have KC := Lib.hid kc; have KJ := Lib.hid kj
      clear kc kj hO8 g1 g2 KS KJ0 hb8
      go_wp2_with fail
      refine wp_region_held_drew (S := (fun w' => w'.cell? ⟨gb, go, none⟩ = some (.string ⟨#[97, 99, 99, 101, 112, 116]⟩) ∧ w'.cell? ⟨gb, go + 1, none⟩ = some (.string ⟨jn.toArray⟩) ∧ Below w8.heap.size w8 w')) (by kernel_rfl) (KC.out _ hb0.drew) (fun hHeld => ?_)
      refine wpAnyH_take (i := 0) (v := ?_) (by simp only [List.getElem?_toArray, List.getElem?_cons_zero]; exact rfl) (by kernel_rfl) (by kernel_rfl) (by kernel_rfl) (by intro _ _ _ h; exact h) (Or.inl ⟨by rfl, fun W hSw => ?_⟩) hHeld ?_
      rotate_left
      focus ((try dsimp only at hSw); first | (go_simp; done) | (go_simp; with_reducible rfl))
      try simp only [Act.put, List.setIfInBounds_toArray, List.set_cons_zero, List.set_cons_succ]
      refine wpAnyH_take (i := 1) (v := ?_) (by simp only [List.getElem?_toArray, List.getElem?_cons_succ, List.getElem?_cons_zero]; exact rfl) (by kernel_rfl) (by kernel_rfl) (by kernel_rfl) (by intro _ _ _ h; exact h) (Or.inl ⟨by rfl, fun W hSw => ?_⟩) hHeld ?_
      rotate_left
      focus ((try dsimp only at hSw); first | (go_simp; done) | (go_simp; with_reducible rfl))
      try simp only [Act.put, List.setIfInBounds_toArray, List.set_cons_zero, List.set_cons_succ]
      refine wpAnyH_take (i := 2) (v := ?_) (by simp only [List.getElem?_toArray, List.getElem?_cons_succ, List.getElem?_cons_zero]; exact rfl) (by kernel_rfl) (by kernel_rfl) (by kernel_rfl) (by intro _ _ _ h; exact h) (Or.inl ⟨by rfl, fun W hSw => ?_⟩) hHeld ?_
      rotate_left
      focus ((try dsimp only at hSw); first | (go_simp; done) | (go_simp; with_reducible rfl))
      try simp only [Act.put, List.setIfInBounds_toArray, List.set_cons_zero, List.set_cons_succ]
      refine wpAnyH_take (i := 3) (v := ?_) (by simp only [List.getElem?_toArray, List.getElem?_cons_succ, List.getElem?_cons_zero]; exact rfl) (by kernel_rfl) (by kernel_rfl) (by kernel_rfl) (by intro _ _ _ h; exact h) (Or.inl ⟨by rfl, fun W hSw => ?_⟩) hHeld ?_
      rotate_left
      focus ((try dsimp only at hSw); first | (go_simp; done) | (go_simp; with_reducible rfl))
      try simp only [Act.put, List.setIfInBounds_toArray, List.set_cons_zero, List.set_cons_succ]
      refine wpAnyH_take (i := 4) (v := ?_) (by simp only [List.getElem?_toArray, List.getElem?_cons_succ, List.getElem?_cons_zero]; exact rfl) (by kernel_rfl) (by kernel_rfl) (by kernel_rfl) (by intro _ _ _ h; exact h) (Or.inl ⟨by rfl, fun W hSw => ?_⟩) hHeld ?_
      rotate_left
      focus ((try dsimp only at hSw); first | (go_simp; done) | (go_simp; with_reducible rfl))
      try simp only [Act.put, List.setIfInBounds_toArray, List.set_cons_zero, List.set_cons_succ]
      refine wpAnyH_take (i := 5) (v := ?_) (by simp only [List.getElem?_toArray, List.getElem?_cons_succ, List.getElem?_cons_zero]; exact rfl) (by kernel_rfl) (by kernel_rfl) (by kernel_rfl) (by intro _ _ _ h; exact h) (Or.inl ⟨by rfl, fun W hSw => ?_⟩) hHeld ?_
      rotate_left
      focus ((try dsimp only at hSw); first | (go_simp; done) | (go_simp; with_reducible rfl))
      try simp only [Act.put, List.setIfInBounds_toArray, List.set_cons_zero, List.set_cons_succ]
      refine wpAnyH_take (i := 6) (v := ?_) (by simp only [List.getElem?_toArray, List.getElem?_cons_succ, List.getElem?_cons_zero]; exact rfl) (by kernel_rfl) (by kernel_rfl) (by kernel_rfl) (by intro _ _ _ h; exact h) (Or.inl ⟨by rfl, fun W hSw => ?_⟩) hHeld ?_
      rotate_left
      focus ((try dsimp only at hSw); first | (go_simp; done) | (go_simp; with_reducible rfl))
      try simp only [Act.put, List.setIfInBounds_toArray, List.set_cons_zero, List.set_cons_succ]
      refine wpAnyH_take (i := 7) (v := ?_) (by simp only [List.getElem?_toArray, List.getElem?_cons_succ, List.getElem?_cons_zero]; exact rfl) (by kernel_rfl) (by kernel_rfl) (by kernel_rfl) (by intro _ _ _ h; exact h) (Or.inl ⟨by rfl, fun W hSw => ?_⟩) hHeld ?_
      rotate_left
      focus ((try dsimp only at hSw); first | (go_simp; done) | (go_simp; with_reducible rfl))
      try simp only [Act.put, List.setIfInBounds_toArray, List.set_cons_zero, List.set_cons_succ]
      refine wpAnyH_ready (rs := [8]) (by kernel_rfl) (by simp) (AllReadyH.cons (by simp only [List.getElem?_toArray, List.getElem?_cons_succ, List.getElem?_cons_zero]; exact rfl) (fun K hK => ?_) AllReadyH.nil)
      rw [if_pos (by rfl)]
      go_simp
      (with_reducible refine (KJ.out _ hb0.drew).mono ?_); rintro e w9 ⟨rfl, hb9⟩; have hBA := bt hb0.drew hb9; go_wp2_with fail
      refine hK.out _ _ (KC.out _ hBA) (fun hHeld => ?_)
      clear hK K
      try simp only [Act.put, List.setIfInBounds_toArray, List.set_cons_zero, List.set_cons_succ]
      refine wpAnyH_take (i := 9) (v := ?_) (by simp only [List.getElem?_toArray, List.getElem?_cons_succ, List.getElem?_cons_zero]; exact rfl) (by kernel_rfl) (by kernel_rfl) (by kernel_rfl) (by intro _ _ _ h; exact h) (Or.inl ⟨by rfl, fun W hSw => ?_⟩) hHeld ?_
      rotate_left
      focus ((try dsimp only at hSw); first | (go_simp; done) | (go_simp; with_reducible rfl))
      try simp only [Act.put, List.setIfInBounds_toArray, List.set_cons_zero, List.set_cons_succ]
      refine wpAnyH_take (i := 10) (v := ?_) (by simp only [List.getElem?_toArray, List.getElem?_cons_succ, List.getElem?_cons_zero]; exact rfl) (by kernel_rfl) (by kernel_rfl) (by kernel_rfl) (by intro _ _ _ h; exact h) (Or.inl ⟨by rfl, fun W hSw => ?_⟩) hHeld ?_
      rotate_left
      focus ((try dsimp only at hSw); first | (go_simp; done) | (go_simp; with_reducible rfl))
      try simp only [Act.put, List.setIfInBounds_toArray, List.set_cons_zero, List.set_cons_succ]
      refine wpAnyH_take (i := 11) (v := ?_) (by simp only [List.getElem?_toArray, List.getElem?_cons_succ, List.getElem?_cons_zero]; exact rfl) (by kernel_rfl) (by kernel_rfl) (by kernel_rfl) (by intro _ _ _ h; exact h) (Or.inl ⟨by rfl, fun W hSw => ?_⟩) hHeld ?_
      rotate_left
      focus ((try dsimp only at hSw); first | (go_simp; done) | (go_simp; with_reducible rfl))
      try simp only [Act.put, List.setIfInBounds_toArray, List.set_cons_zero, List.set_cons_succ]
      refine wpAnyH_take (i := 12) (v := ?_) (by simp only [List.getElem?_toArray, List.getElem?_cons_succ, List.getElem?_cons_zero]; exact rfl) (by kernel_rfl) (by kernel_rfl) (by kernel_rfl) (by intro _ _ _ h; exact h) (Or.inl ⟨by rfl, fun W hSw => ?_⟩) hHeld ?_
      rotate_left
      focus ((try dsimp only at hSw); first | (go_simp; done) | (go_simp; with_reducible rfl))
      try simp only [Act.put, List.setIfInBounds_toArray, List.set_cons_zero, List.set_cons_succ]
      refine wpAnyH_ready (rs := [13]) (by kernel_rfl) (by simp) (AllReadyH.cons (by simp only [List.getElem?_toArray, List.getElem?_cons_succ, List.getElem?_cons_zero]; exact rfl) (fun K hK => ?_) AllReadyH.nil)
      rw [if_pos (by rfl)]
      go_simp
      refine (awake15_any _).mono ?_; rintro e w10 ⟨rfl, hb10⟩; have hBB := bt hBA hb10; go_wp2_with fail
      refine hK.out _ _ (KC.out _ hBB) (fun hHeld => ?_)
      clear hK K
      try simp only [Act.put, List.setIfInBounds_toArray, List.set_cons_zero, List.set_cons_succ]
      refine wpAnyH_take (i := 14) (v := ?_) (by simp only [List.getElem?_toArray, List.getElem?_cons_succ, List.getElem?_cons_zero]; exact rfl) (by kernel_rfl) (by kernel_rfl) (by kernel_rfl) (by intro _ _ _ h; exact h) (Or.inl ⟨by rfl, fun W hSw => ?_⟩) hHeld ?_
      rotate_left
      focus ((try dsimp only at hSw); first | (go_simp; done) | (go_simp; with_reducible rfl))
      try simp only [Act.put, List.setIfInBounds_toArray, List.set_cons_zero, List.set_cons_succ]
      refine wpAnyH_take (i := 15) (v := ?_) (by simp only [List.getElem?_toArray, List.getElem?_cons_succ, List.getElem?_cons_zero]; exact rfl) (by kernel_rfl) (by kernel_rfl) (by kernel_rfl) (by intro _ _ _ h; exact h) (Or.inl ⟨by rfl, fun W hSw => ?_⟩) hHeld ?_
      rotate_left
      focus ((try dsimp only at hSw); first | (go_simp; done) | (go_simp; with_reducible rfl))
      try simp only [Act.put, List.setIfInBounds_toArray, List.set_cons_zero, List.set_cons_succ]
      refine wpAnyH_done (by kernel_rfl) ?_ _
      clear hHeld
      go_wp2
      go_ret
      exact ⟨rfl, hB8.trans (hBB.mono hB8.size)⟩
theorem varyForms_law {H : Type} {enc : TypeId × Value → H} {W : World} {base : Nat}
    (v0 : Value) (hv0 : Value.okWide Tryd.prog W .any base 34 v0) {d0 : DataW H} {p0 : List MemPlace} (h0 : DataW.Trod enc Tryd.prog W 0 (fun _ => true) true 34 v0 d0 p0) (hr0 : Reach 34 d0)
    (v1 : Value) (hv1 : Value.okWide Tryd.prog W .any base 23 v1) {d1 : DataW H} {p1 : List MemPlace} (h1 : DataW.Trod enc Tryd.prog W 0 (fun _ => true) true 23 v1 d1 p1) (_hr1 : Reach 23 d1)
    (w : World) (hw : w = W) (_ : True) :
    Calls Tryd.prog 5 #[v0, v1] w fun e w' => e = .returned (.bool true) ∧ Below w.heap.size w w' := by
  subst hw
  obtain ⟨A, n, c, ls, rfl, hR, _, hl⟩ := open_texts_v hv0 h0 hr0
  obtain ⟨B, m, d, bs, rfl, hm, hB, hml⟩ := open_bytes_v hv1 h1
  exact varyForms_any A n c ls B m d bs w hR (fun v hv => by have := hl v hv; unfold reachBytes at this; omega) hB hm hml
end Go.Proofs.YtlhfbikhlfgjbaaDoor
