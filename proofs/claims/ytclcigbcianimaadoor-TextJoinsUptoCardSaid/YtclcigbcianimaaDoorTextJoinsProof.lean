/- Tokens and quoted texts that are joined are parted into the same pieces: of arguments of bulk at most 1048576. -/
import Derived.Test.YtclcigbcianimaaDoorUptoHand
import Derived.Test.YtclcigbcianimaaDoorTextJoins
import Derived.Test.YtclcigbcianimaaDoorCards
import Derived.Test.YtclcigbcianimaaDoorTie
namespace Go.Proofs.YtclcigbcianimaaDoor.textJoins
open Go.ChangeShapes Go.WideShapes Go.ChangeAt Go.RowKit Go.WideMaps Go.WideElems
open Go.ChangeMaps (open_string shut_string)
set_option linter.unusedVariables false

theorem own : ownKnob Tryd.prog.godebug = none := by kernel_rfl
theorem laidOut : laidOutB Tryd.prog = true := by kernel_rfl
theorem cells : Tryd.prog.cellsOf 9 = 1 := by kernel_rfl
noncomputable abbrev w0 (os : Os) : World := (World.laidAll Tryd.prog os Rows.textJoinsUptoRow.laid).forCall (fun _ _ => 0) ⟨#[], #[.slice none 0 0, .int .u8 0], []⟩
theorem row_wit (os : Os) {H : Type} (enc : TypeId × Value → H) :
    (Rows.OpenSpec.upto Rows.textJoinsSpec).preRow enc Tryd.prog Tryd.f6 Rows.textJoinsUptoRow.domain false Rows.textJoinsUptoRow.laid (w0 os).memory #[.slice none 0 0, .int .u8 0] := by
  have hw : (DataW.whole enc Tryd.prog (w0 os).memory Tryd.f6.params.toList (Rows.OpenSpec.upto Rows.textJoinsSpec).vars false #[Value.slice none 0 0, .int .u8 0].toList 8).map (fun x => (x.1, x.2.1)) =
      some ([.nil, .lit (.int .u8 0)], []) := by kernel_rfl
  obtain ⟨⟨x1, x2, x3⟩, hx, hx1⟩ := Option.map_eq_some_iff.1 hw
  simp only [Prod.mk.injEq] at hx1
  obtain ⟨rfl, rfl⟩ := hx1
  exact OpenSpec.preRow_of_cond 8 hx (by kernel_rfl) (fun k hk => by cases hk; rfl) (by kernel_rfl) (by rw [MakeChecks.laidMetH_plain _ _ _ (by kernel_rfl)]; exact laidMet_laidAll _ (by kernel_rfl) (by kernel_rfl))

theorem open_list {H : Type} {enc : TypeId × Value → H} {W : World} {a0 : Option Addr} {len cap fuel : Nat} {x : DataW H × List MemPlace}
    (hf : DataW.trod enc Tryd.prog W 0 (fun _ => true) true fuel 26 [.slice a0 len cap] = some x) :
    ∃ (b o : Nat) (Xs : List ByteArray), Xs.length = len ∧ (0 < len → a0 = some ⟨b, o, none⟩ ∧ b < W.heap.size) ∧ ListIn b o Xs W ∧ (len = 0 ∨ ∃ spare, x.1 = .slice (strs Xs) spare) := by
  rcases open_strings Tryd.underlying26 Tryd.underlying9 cells hf with ⟨hcs, hx⟩ | ⟨a, len', cap', ss, hcs, _, hl, hm, hz, hx, hcell, _⟩
  · simp at hcs
    obtain ⟨rfl, rfl, rfl⟩ := hcs
    exact ⟨0, 0, [], rfl, fun h => absurd h (by omega), fun j X h => by simp at h, Or.inl rfl⟩
  · simp at hcs
    obtain ⟨rfl, rfl, rfl⟩ := hcs
    subst hx
    simp only [if_true] at hz
    obtain ⟨b, off, spot⟩ := a
    have hsp : 0 < len → spot = none := fun h => by simpa [Addr.add] using World.cell?_spot (hcell 0 (by omega))
    refine ⟨b, off, ss.take len, by simp; omega, fun h => ?_, fun j X hX => ?_, Or.inr ⟨_, rfl⟩⟩
    · have := hsp h
      subst this
      refine ⟨rfl, ?_⟩
      have hc := hcell 0 (by omega)
      rcases Nat.lt_or_ge b W.heap.size with h' | h'
      · exact h'
      · simp [World.cell?, Addr.add, Array.getElem?_eq_none h'] at hc
    · have hj : j < len := by
        have := (List.getElem?_eq_some_iff.1 hX).1
        simp at this
        omega
      have := hsp (by omega)
      subst this
      have hX' : ss.getD j ByteArray.empty = X := by
        rw [List.getElem?_take_of_lt hj] at hX
        simp [List.getD, hX]
      have := hcell j (by omega)
      rw [hX'] at this
      rcases Nat.eq_zero_or_pos j with rfl | hj0
      · simpa [Addr.add] using this
      · simpa [Addr.add, Nat.pos_iff_ne_zero.1 hj0] using this
theorem bulk_strs {H : Type} : ∀ (Xs : List ByteArray), Xs.length ≤ Rows.uptoBulkAll (strs (H := H) Xs) ∧ ∀ X ∈ Xs, X.size ≤ Rows.uptoBulkAll (strs (H := H) Xs)
  | [] => ⟨by simp, by simp⟩
  | Y :: r => by
    have ih := bulk_strs (H := H) r
    have e : Rows.uptoBulkAll (strs (H := H) (Y :: r)) = (Y.data.toList.length + 1) + Rows.uptoBulkAll (strs (H := H) r) := rfl
    rw [e]
    refine ⟨by rw [List.length_cons]; omega, fun X hX => ?_⟩
    rcases List.mem_cons.1 hX with rfl | hX
    · rw [Lib.size_eq]; omega
    · have := ih.2 X hX; omega

set_option maxRecDepth 100000 in
theorem lifted (os : Os) (started : os.Started) (H : Type) (enc : TypeId × Value → H) (F : Stop.Interp) :
    ReturnsInHanded {} Tryd.checked os 6 .any ((Rows.OpenSpec.upto Rows.textJoinsSpec).preRow enc Tryd.prog Tryd.f6 Rows.textJoinsUptoRow.domain false Rows.textJoinsUptoRow.laid)
      (((Rows.OpenSpec.upto Rows.textJoinsSpec).at F).post enc Tryd.prog Tryd.f6 false true false false) := by
  refine returnsInHanded_of_row (C := Tryd.checked) (s := Rows.OpenSpec.upto Rows.textJoinsSpec) own started (by kernel_rfl) Tryd.func6
    (uptoWitness (enc := enc) (C := Tryd.checked) (World.laidAll Tryd.prog os Rows.textJoinsUptoRow.laid) #[.slice none 0 0, .int .u8 0] (World.laidAll_os _ _ _) (World.shaped_of_ZipB (by kernel_rfl) (by kernel_rfl)) (by kernel_rfl) (row_wit os enc)) ?_
  intro W base args ds gs before hval0 hW _ hcond0 _ hL hsh _
  have hcond : Rows.uptoSmall H (ds ++ gs) = true := hcond0 _ rfl
  have hval : ∀ (j : Nat) t v, Tryd.f6.params[j]? = some t → args[j]? = some v → Value.okWide Tryd.prog W .any base t v := hval0
  have hW' := hW
  obtain ⟨p, q, hA0, hV, rfl, hfz, hnd⟩ := hW
  have hA : DataW.TrodAll enc Tryd.prog W 0 (fun _ => true) true Tryd.f6.params.toList args.toList ds p := hA0
  rw [Tryd.params6] at hA hval
  obtain ⟨v0, vs0, d0, ds0, p0, q0, hargs, rfl, rfl, h0, r0⟩ := trodAll_cons hA
  obtain ⟨v1, vs1, d1, ds1, p1, q1, rfl, rfl, rfl, h1, r1⟩ := trodAll_cons r0
  obtain ⟨rfl, rfl, rfl⟩ := trodAll_nil r1
  obtain rfl : args = #[v0, v1] := by cases args; simp_all
  obtain ⟨rfl, rfl⟩ := trodVars_none hV
  have k0 := h0
  have lt0 : ∀ x ∈ p0, x.block < W.heap.size := by obtain ⟨m, hm⟩ := k0; exact DataW.trod_lt m _ _ _ hm
  obtain ⟨a1, rfl, rfl, rfl, w1⟩ := open_int Tryd.underlying5 (hval 1 5 v1 rfl rfl) h1
  obtain ⟨a0, len, cap, rfl⟩ := okWide_slice Tryd.underlying26 (hval 0 26 v0 rfl rfl)
  obtain ⟨fuel, hf⟩ := h0
  obtain ⟨b, o, Xs, hlen, ha, hX, hd⟩ := open_list hf
  have hb : Xs.length ≤ 1000000000 ∧ ∀ X ∈ Xs, X.size ≤ 2000000 := by
    have hc2 : Rows.uptoBulkAll ([d0, .lit (.int .u8 a1)] ++ []) ≤ 1048576 := of_decide_eq_true hcond
    rcases hd with h | ⟨spare, h⟩
    · rw [← hlen] at h
      have := List.length_eq_zero_iff.1 h
      subst this; simp
    · simp only at h
      subst h
      have h2 : Rows.uptoBulkAll (strs (H := H) Xs) ≤ 1048576 := by
        have e : Rows.uptoBulkAll (([DataW.slice (strs Xs) spare, .lit (.int .u8 a1)] : List (DataW H)) ++ []) = (Rows.uptoBulkAll (strs (H := H) Xs) + Rows.uptoBulkAll spare + 1) + (1 + 0) := rfl
        omega
      have h3 := bulk_strs (H := H) Xs
      exact ⟨by omega, fun X hX => by have := h3.2 X hX; omega⟩
  obtain ⟨bl, rfl⟩ := byteOf w1
  refine (textJoins_any a0 b o len cap Xs bl.toNat bl.toNat_lt W hlen ha hX hb.2 (by omega)).mono fun e W' ⟨he, hg⟩ => ?_
  subst he
  exact ⟨_, rfl, _, _, _, [], _, [], hW', trodAll_mk1 (shut_bool Tryd.underlying4 _), (trodAll_cons_mk (Below.trod laidOut (by kernel_rfl) (of_decide_eq_true (by kernel_rfl)) k0 hg lt0) (trodAll_cons_mk (shut_int Tryd.underlying5 w1) trodAll_mk0)), rfl, hg.frame _, fun h => by cases h⟩

theorem over : Rows.TextJoinsUptoSaid :=
  OpenClaim.holds_of_cond 6 Tryd.f6 rfl rfl rfl rfl rfl rfl rfl ⟨rfl, rfl, rfl, rfl, rfl⟩ rfl rfl rfl rfl rfl (by kernel_rfl) Tryd.func6 (by kernel_rfl)
    (of_decide_eq_true (by kernel_rfl)) (by unfold Func.isWrapper; first | (rw [if_pos (by decide +kernel)]; kernel_rfl) | (rw [if_neg (by decide +kernel)]; exact ⟨rfl, rfl⟩))
    (fun os started H enc _ F0 => by rw [OpenClaim.pre_eq_preRow]; exact lifted os started H enc F0)

theorem proved : Rows.TextJoinsUptoCardSaid :=
  Claim7.holds_tied_plain_at .later [] [.data, .pinned] true (true, "db6b942f53c73d2d08dd801ccd8700e66132824f2925ec5062e0998b882c4a44") false
    over (fun _ h => by cases h) (by kernel_rfl) (fun _ h => by cases h) textJoinsUpto_row_tie rfl ⟨rfl, rfl⟩ (by kernel_rfl) rfl
    (fun f fn hf hfn => by
      obtain rfl : f = 6 := Option.some.inj ((show Tryd.prog.funcNamed "inlay/inlaylaw01.TextJoins" = some 6 by kernel_rfl).symm.trans hf) |>.symm
      obtain rfl : fn = Tryd.f6 := (Option.some.inj (Tryd.func6.symm.trans hfn)).symm
      exact ⟨by kernel_rfl, fun j t ht => by
        rw [Tryd.params6] at ht
        have hm : t ∈ [26, 5] := by simpa using Array.mem_of_getElem? ht
        have hall : ([26, 5].all fun u => !Tryd.prog.wantsStandIn u) = true := by kernel_rfl
        exact (show Tryd.prog.wantsStandIn t = false by simpa using List.all_eq_true.1 hall t hm)⟩)
    (by kernel_rfl)
end Go.Proofs.YtclcigbcianimaaDoor.textJoins
