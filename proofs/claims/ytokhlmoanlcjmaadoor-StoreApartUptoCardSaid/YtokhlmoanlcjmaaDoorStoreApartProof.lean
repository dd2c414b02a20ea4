/- Keys do not touch each other, as long as there is room: of arguments of bulk at most 1048576. -/
import Derived.Test.YtokhlmoanlcjmaaDoorUptoHand
import Derived.Test.YtokhlmoanlcjmaaDoorQStApart
import Derived.Test.YtokhlmoanlcjmaaDoorQOpenFW
import Derived.Test.YtokhlmoanlcjmaaDoorCards
import Derived.Test.YtokhlmoanlcjmaaDoorTie
namespace Go.Proofs.YtokhlmoanlcjmaaDoor.storeApart
open Go.ChangeShapes Go.WideShapes Go.ChangeAt Go.RowKit Go.WideMaps Go.WideElems
open Go.ChangeMaps (open_string shut_string)
set_option linter.unusedVariables false

theorem own : ownKnob Tryd.prog.godebug = none := by kernel_rfl
theorem laidOut : laidOutB Tryd.prog = true := by kernel_rfl
noncomputable abbrev w0 (os : Os) : World := (World.laidAll Tryd.prog os Rows.storeApartUptoRow.laid).forCall (fun _ _ => 0) ⟨#[], #[.slice none 0 0, .string ⟨#[]⟩, .slice none 0 0], []⟩
theorem row_wit (os : Os) {H : Type} (enc : TypeId × Value → H) :
    (Rows.OpenSpec.upto Rows.storeApartSpec).preRow enc Tryd.prog Tryd.f4 Rows.storeApartUptoRow.domain false Rows.storeApartUptoRow.laid (w0 os).memory #[.slice none 0 0, .string ⟨#[]⟩, .slice none 0 0] := by
  have hw : (DataW.whole enc Tryd.prog (w0 os).memory Tryd.f4.params.toList (Rows.OpenSpec.upto Rows.storeApartSpec).vars false #[Value.slice none 0 0, .string ⟨#[]⟩, .slice none 0 0].toList 8).map (fun x => (x.1, x.2.1)) =
      some ([.nil, .lit (.string []), .nil], []) := by kernel_rfl
  obtain ⟨⟨x1, x2, x3⟩, hx, hx1⟩ := Option.map_eq_some_iff.1 hw
  simp only [Prod.mk.injEq] at hx1
  obtain ⟨rfl, rfl⟩ := hx1
  exact OpenSpec.preRow_of_cond 8 hx (by kernel_rfl) (fun k hk => by cases hk; rfl) (by kernel_rfl) (by rw [MakeChecks.laidMetH_plain _ _ _ (by kernel_rfl)]; exact laidMet_laidAll _ (by kernel_rfl) (by kernel_rfl))

theorem mem_bulk {H : Type} : ∀ (l : List (DataW H)) y, y ∈ l → Rows.uptoBulk y ≤ Rows.uptoBulkAll l
  | [], y, h => by cases h
  | d :: r, y, h => by
    have e : Rows.uptoBulkAll (d :: r) = Rows.uptoBulk d + Rows.uptoBulkAll r := rfl
    rw [e]
    rcases List.mem_cons.1 h with rfl | h
    · omega
    · have := mem_bulk r y h; omega
theorem fld_bulk {H : Type} (f : Fld) : f.1.length + f.2.length ≤ Rows.uptoBulk (fldD (H := H) f) := by
  have e : Rows.uptoBulk (fldD (H := H) f) = ((f.1.length + 1) + ((f.2.length + 1) + 0)) + 1 := rfl
  omega

set_option maxRecDepth 100000 in
theorem lifted (os : Os) (started : os.Started) (H : Type) (enc : TypeId × Value → H) (F : Stop.Interp) :
    ReturnsInHanded {} Tryd.checked os 4 .any ((Rows.OpenSpec.upto Rows.storeApartSpec).preRow enc Tryd.prog Tryd.f4 Rows.storeApartUptoRow.domain false Rows.storeApartUptoRow.laid)
      (((Rows.OpenSpec.upto Rows.storeApartSpec).at F).post enc Tryd.prog Tryd.f4 false true false false) := by
  refine returnsInHanded_of_row (C := Tryd.checked) (s := Rows.OpenSpec.upto Rows.storeApartSpec) own started (by kernel_rfl) Tryd.func4
    (uptoWitness (enc := enc) (C := Tryd.checked) (World.laidAll Tryd.prog os Rows.storeApartUptoRow.laid) #[.slice none 0 0, .string ⟨#[]⟩, .slice none 0 0] (World.laidAll_os _ _ _) (World.shaped_of_ZipB (by kernel_rfl) (by kernel_rfl)) (by kernel_rfl) (row_wit os enc)) ?_
  intro W base args ds gs before hval0 hW _ hcond0 hsz0 hL hsh _
  have hcond : Rows.uptoSmall H (ds ++ gs) = true := hcond0 _ rfl
  have hval : ∀ (j : Nat) t v, Tryd.f4.params[j]? = some t → args[j]? = some v → Value.okWide Tryd.prog W .any base t v := hval0
  have hW' := hW
  obtain ⟨p, q, hA0, hV, rfl, hfz, hnd⟩ := hW
  have hA : DataW.TrodAll enc Tryd.prog W 0 (fun _ => true) true Tryd.f4.params.toList args.toList ds p := hA0
  have hsz : (DataW.weightsEach Tryd.prog (Tryd.f4.params.toList ++ (Rows.OpenSpec.upto Rows.storeApartSpec).bare.plain.varTypes Tryd.prog) (ds ++ gs)).all (· ≤ reachBytes) = true := hsz0
  rw [Tryd.params4] at hA hval hsz
  obtain ⟨v0, vs0, d0, ds0, p0, q0, hargs, rfl, rfl, h0, r0⟩ := trodAll_cons hA
  obtain ⟨v1, vs1, d1, ds1, p1, q1, rfl, rfl, rfl, h1, r1⟩ := trodAll_cons r0
  obtain ⟨v2, vs2, d2, ds2, p2, q2, rfl, rfl, rfl, h2, r2⟩ := trodAll_cons r1
  obtain ⟨rfl, rfl, rfl⟩ := trodAll_nil r2
  obtain rfl : args = #[v0, v1, v2] := by cases args; simp_all
  obtain ⟨rfl, rfl⟩ := trodVars_none hV
  have k0 := h0
  have lt0 : ∀ x ∈ p0, x.block < W.heap.size := by obtain ⟨m, hm⟩ := k0; exact DataW.trod_lt m _ _ _ hm
  have k2 := h2
  have lt2 : ∀ x ∈ p2, x.block < W.heap.size := by obtain ⟨m, hm⟩ := k2; exact DataW.trod_lt m _ _ _ hm
  obtain ⟨A, n, c, xs, rfl, hRd, hn, hx⟩ := open_pacts_v (hval 0 24 v0 rfl rfl) h0 (reach_each hsz (j := 0) rfl rfl)
  obtain ⟨kb, rfl, rfl, rfl, hkz⟩ := open_string Tryd.underlying9 (hval 1 9 v1 rfl rfl) h1
  obtain ⟨Q, qn, qc, qs, rfl, hQ, hd⟩ := open_flds_wv (hval 2 29 v2 rfl rfl) h2
  have hqs : ∀ f ∈ qs, f.1.length ≤ 2000000 ∧ f.2.length ≤ 2000000 := by
    have hc2 : Rows.uptoBulkAll ([d0, .lit (.string kb.data.toList), d2] ++ []) ≤ 1048576 := of_decide_eq_true hcond
    have e : Rows.uptoBulkAll (([d0, .lit (.string kb.data.toList), d2] : List (DataW H)) ++ []) = Rows.uptoBulk d0 + ((kb.data.toList.length + 1) + (Rows.uptoBulk d2 + 0)) := rfl
    rcases hd with rfl | ⟨elems, spare, rfl, he⟩
    · intro x hx; cases hx
    · intro x hx
      have h3 := mem_bulk elems _ (he x hx)
      have h4 := fld_bulk (H := H) x
      have e2 : Rows.uptoBulk (DataW.slice elems spare : DataW H) = Rows.uptoBulkAll elems + Rows.uptoBulkAll spare + 1 := rfl
      omega
  have hqm : qn ≤ maxLen := by
    have hok := hval 2 29 (.slice Q qn qc) rfl rfl
    obtain ⟨fuel, hf⟩ := h2
    exact len_slice Tryd.underlying29 (fuel := fuel) (x := (d2, p2)) hf
  have hml : maxLen = 9223372036854775807 := rfl
  have hkl : kb.data.toList.length ≤ maxLen := by rw [← Lib.size_eq]; exact hkz
  have kw := storeApart_any A n c xs kb.data.toList Q qn qc qs W hRd hx hn hQ hqm hqs hkl (tabN_of (by kernel_rfl) (List.mem_of_getElem? (i := 2) (by kernel_rfl)) hL)
  rw [str_of] at kw
  refine kw.mono fun e W' ⟨he, hg⟩ => ?_
  subst he
  exact ⟨_, rfl, _, _, _, [], _, [], hW', trodAll_mk1 (shut_bool Tryd.underlying4 _), (trodAll_cons_mk (Below.trod laidOut (by kernel_rfl) (of_decide_eq_true (by kernel_rfl)) k0 hg lt0) (trodAll_cons_mk (shut_string Tryd.underlying9 hkz) (trodAll_cons_mk (Below.trod laidOut (by kernel_rfl) (of_decide_eq_true (by kernel_rfl)) k2 hg lt2) trodAll_mk0))), rfl, hg.frame _, fun h => by cases h⟩

theorem over : Rows.StoreApartUptoSaid :=
  OpenClaim.holds_of_cond 4 Tryd.f4 rfl rfl rfl rfl rfl rfl rfl ⟨rfl, rfl, rfl, rfl, rfl⟩ rfl rfl rfl rfl rfl (by kernel_rfl) Tryd.func4 (by kernel_rfl)
    (of_decide_eq_true (by kernel_rfl)) (by unfold Func.isWrapper; first | (rw [if_pos (by decide +kernel)]; kernel_rfl) | (rw [if_neg (by decide +kernel)]; exact ⟨rfl, rfl⟩))
    (fun os started H enc _ F0 => by rw [OpenClaim.pre_eq_preRow]; exact lifted os started H enc F0)

theorem proved : Rows.StoreApartUptoCardSaid :=
  Claim7.holds_tied_plain_at .later [] [.data, .data, .data, .data, .pinned] true (true, "4d8b085cdf7cc1cba4fca32c960e305a004c32687144ba8a451bbe655603c120") false
    over (fun _ h => by cases h) (by kernel_rfl) (fun _ h => by cases h) storeApartUpto_row_tie rfl ⟨rfl, rfl⟩ (by kernel_rfl) rfl
    (fun f fn hf hfn => by
      obtain rfl : f = 4 := Option.some.inj ((show Tryd.prog.funcNamed "inlay/inlaylaw19.StoreApart" = some 4 by kernel_rfl).symm.trans hf) |>.symm
      obtain rfl : fn = Tryd.f4 := (Option.some.inj (Tryd.func4.symm.trans hfn)).symm
      exact ⟨by kernel_rfl, fun j t ht => by
        rw [Tryd.params4] at ht
        have hm : t ∈ [24, 9, 29] := by simpa using Array.mem_of_getElem? ht
        have hall : ([24, 9, 29].all fun u => !Tryd.prog.wantsStandIn u) = true := by kernel_rfl
        exact (show Tryd.prog.wantsStandIn t = false by simpa using List.all_eq_true.1 hall t hm)⟩)
    (by kernel_rfl)
end Go.Proofs.YtokhlmoanlcjmaaDoor.storeApart
