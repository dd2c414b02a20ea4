/- Directives that are put together are read as themselves: of arguments of bulk at most 1048576. -/
import Derived.Test.YtfjgacankfidmaaDoorUptoHand
import Derived.Test.YtfjgacankfidmaaDoorQDirBack
import Derived.Test.YtfjgacankfidmaaDoorQOpenDW
import Derived.Test.YtfjgacankfidmaaDoorCards
import Derived.Test.YtfjgacankfidmaaDoorTie
namespace Go.Proofs.YtfjgacankfidmaaDoor.directiveBack
open Go.ChangeShapes Go.WideShapes Go.ChangeAt Go.RowKit Go.WideMaps Go.WideElems
open Go.ChangeMaps (open_string shut_string)
set_option linter.unusedVariables false

theorem own : ownKnob Tryd.prog.godebug = none := by kernel_rfl
theorem laidOut : laidOutB Tryd.prog = true := by kernel_rfl
noncomputable abbrev w0 (os : Os) : World := (World.laidAll Tryd.prog os Rows.directiveBackUptoRow.laid).forCall (fun _ _ => 0) ⟨#[], #[.slice none 0 0, .int .u8 0, .slice none 0 0], []⟩
theorem row_wit (os : Os) {H : Type} (enc : TypeId × Value → H) :
    (Rows.OpenSpec.upto Rows.directiveBackSpec).preRow enc Tryd.prog Tryd.f3 Rows.directiveBackUptoRow.domain false Rows.directiveBackUptoRow.laid (w0 os).memory #[.slice none 0 0, .int .u8 0, .slice none 0 0] := by
  have hw : (DataW.whole enc Tryd.prog (w0 os).memory Tryd.f3.params.toList (Rows.OpenSpec.upto Rows.directiveBackSpec).vars false #[Value.slice none 0 0, .int .u8 0, .slice none 0 0].toList 8).map (fun x => (x.1, x.2.1)) =
      some ([.nil, .lit (.int .u8 0), .nil], []) := by kernel_rfl
  obtain ⟨⟨x1, x2, x3⟩, hx, hx1⟩ := Option.map_eq_some_iff.1 hw
  simp only [Prod.mk.injEq] at hx1
  obtain ⟨rfl, rfl⟩ := hx1
  exact OpenSpec.preRow_of_cond 8 hx (by kernel_rfl) (fun k hk => by cases hk; rfl) (by kernel_rfl) (by rw [MakeChecks.laidMetH_plain _ _ _ (by kernel_rfl)]; exact laidMet_laidAll _ (by kernel_rfl) (by kernel_rfl))

theorem mem_bulk {H : Type} : ∀ (l : List (DataW H)) y, y ∈ l → Rows.uptoBulk y ≤ Rows.uptoBulkAll l
  | [], y, h => by cases h
  | d :: r, y, h => by
    have e : Rows.uptoBulkAll (d :: r) = Rows.uptoBulk d + Rows.uptoBulkAll r := rfl
    rw [e]
    rcases List.mem_cons.1 h with rfl | h
    · omega
    · have := mem_bulk r y h; omega
theorem dir_bulk {H : Type} (d : Dir) : d.name.length + d.value.length ≤ Rows.uptoBulk (dirD (H := H) d) := by
  have e : Rows.uptoBulk (dirD (H := H) d) = ((d.name.length + 1) + ((d.value.length + 1) + (1 + ((d.for_.length + 1) + 0)))) + 1 := rfl
  omega

set_option maxRecDepth 100000 in
theorem lifted (os : Os) (started : os.Started) (H : Type) (enc : TypeId × Value → H) (F : Stop.Interp) :
    ReturnsInHanded {} Tryd.checked os 3 .any ((Rows.OpenSpec.upto Rows.directiveBackSpec).preRow enc Tryd.prog Tryd.f3 Rows.directiveBackUptoRow.domain false Rows.directiveBackUptoRow.laid)
      (((Rows.OpenSpec.upto Rows.directiveBackSpec).at F).post enc Tryd.prog Tryd.f3 false true false false) := by
  refine returnsInHanded_of_row (C := Tryd.checked) (s := Rows.OpenSpec.upto Rows.directiveBackSpec) own started (by kernel_rfl) Tryd.func3
    (uptoWitness (enc := enc) (C := Tryd.checked) (World.laidAll Tryd.prog os Rows.directiveBackUptoRow.laid) #[.slice none 0 0, .int .u8 0, .slice none 0 0] (World.laidAll_os _ _ _) (World.shaped_of_ZipB (by kernel_rfl) (by kernel_rfl)) (by kernel_rfl) (row_wit os enc)) ?_
  intro W base args ds gs before hval0 hW _ hcond0 _ hL hsh _
  have hcond : Rows.uptoSmall H (ds ++ gs) = true := hcond0 _ rfl
  have hval : ∀ (j : Nat) t v, Tryd.f3.params[j]? = some t → args[j]? = some v → Value.okWide Tryd.prog W .any base t v := hval0
  have hW' := hW
  obtain ⟨p, q, hA0, hV, rfl, hfz, hnd⟩ := hW
  have hA : DataW.TrodAll enc Tryd.prog W 0 (fun _ => true) true Tryd.f3.params.toList args.toList ds p := hA0
  rw [Tryd.params3] at hA hval
  obtain ⟨v0, vs0, d0, ds0, p0, q0, hargs, rfl, rfl, h0, r0⟩ := trodAll_cons hA
  obtain ⟨v1, vs1, d1, ds1, p1, q1, rfl, rfl, rfl, h1, r1⟩ := trodAll_cons r0
  obtain ⟨v2, vs2, d2, ds2, p2, q2, rfl, rfl, rfl, h2, r2⟩ := trodAll_cons r1
  obtain ⟨rfl, rfl, rfl⟩ := trodAll_nil r2
  obtain rfl : args = #[v0, v1, v2] := by cases args; simp_all
  obtain ⟨rfl, rfl⟩ := trodVars_none hV
  have k0 := h0
  have lt0 : ∀ x ∈ p0, x.block < W.heap.size := by obtain ⟨m, hm⟩ := k0; exact DataW.trod_lt m _ _ _ hm
  have k2 := h2
  have lt2 : ∀ x ∈ p2, x.block < W.heap.size := by obtain ⟨m, hm⟩ := k2; exact DataW.trod_lt m _ _ _ hm
  obtain ⟨a1, rfl, rfl, rfl, w1⟩ := open_int Tryd.underlying5 (hval 1 5 v1 rfl rfl) h1
  obtain ⟨A, n, c, xs, rfl, hRd, hd⟩ := open_dirs_wv (hval 0 22 v0 rfl rfl) h0
  obtain ⟨B, m, c2, bs, rfl, hm, hB, hml⟩ := open_bytes_v (hval 2 23 v2 rfl rfl) h2
  have hx : ∀ x ∈ xs, x.name.length ≤ 2000000 ∧ x.value.length ≤ 2000000 := by
    have hc2 : Rows.uptoBulkAll ([d0, .lit (.int .u8 a1), d2] ++ []) ≤ 1048576 := of_decide_eq_true hcond
    have e : Rows.uptoBulkAll (([d0, .lit (.int .u8 a1), d2] : List (DataW H)) ++ []) = Rows.uptoBulk d0 + (1 + (Rows.uptoBulk d2 + 0)) := rfl
    rcases hd with rfl | ⟨elems, spare, rfl, he⟩
    · intro x hx; cases hx
    · intro x hx
      have h3 := mem_bulk elems _ (he x hx)
      have h4 := dir_bulk (H := H) x
      have e2 : Rows.uptoBulk (DataW.slice elems spare : DataW H) = Rows.uptoBulkAll elems + Rows.uptoBulkAll spare + 1 := rfl
      omega
  obtain ⟨bl, rfl⟩ := byteOfB w1
  refine (dirBack_any A n c xs bl.toNat bl.toNat_lt B m c2 bs W (MaxL.of (Tryd.laysM145.s1_3 W hsh)) hRd hm hml hB (fun _ => hx)).mono fun e W' ⟨he, hg⟩ => ?_
  subst he
  exact ⟨_, rfl, _, _, _, [], _, [], hW', trodAll_mk1 (shut_bool Tryd.underlying4 _), (trodAll_cons_mk (Below.trod laidOut (by kernel_rfl) (of_decide_eq_true (by kernel_rfl)) k0 hg lt0) (trodAll_cons_mk (shut_int Tryd.underlying5 w1) (trodAll_cons_mk (Below.trod laidOut (by kernel_rfl) (of_decide_eq_true (by kernel_rfl)) k2 hg lt2) trodAll_mk0))), rfl, hg.frame _, fun h => by cases h⟩

theorem over : Rows.DirectiveBackUptoSaid :=
  OpenClaim.holds_of_cond 3 Tryd.f3 rfl rfl rfl rfl rfl rfl rfl ⟨rfl, rfl, rfl, rfl, rfl⟩ rfl rfl rfl rfl rfl (by kernel_rfl) Tryd.func3 (by kernel_rfl)
    (of_decide_eq_true (by kernel_rfl)) (by unfold Func.isWrapper; first | (rw [if_pos (by decide +kernel)]; kernel_rfl) | (rw [if_neg (by decide +kernel)]; exact ⟨rfl, rfl⟩))
    (fun os started H enc _ F0 => by rw [OpenClaim.pre_eq_preRow]; exact lifted os started H enc F0)

theorem proved : Rows.DirectiveBackUptoCardSaid :=
  Claim7.holds_tied_plain_at .later [] [.data, .pinned] true (true, "2c37d10f7d6b7e6d6dc462072ffb6f8396909430bc87ee74326f87e1a542e88f") false
    over (fun _ h => by cases h) (by kernel_rfl) (fun _ h => by cases h) directiveBackUpto_row_tie rfl ⟨rfl, rfl⟩ (by kernel_rfl) rfl
    (fun f fn hf hfn => by
      obtain rfl : f = 3 := Option.some.inj ((show Tryd.prog.funcNamed "inlay/inlaylaw11.DirectiveBack" = some 3 by kernel_rfl).symm.trans hf) |>.symm
      obtain rfl : fn = Tryd.f3 := (Option.some.inj (Tryd.func3.symm.trans hfn)).symm
      exact ⟨by kernel_rfl, fun j t ht => by
        rw [Tryd.params3] at ht
        have hm : t ∈ [22, 5, 23] := by simpa using Array.mem_of_getElem? ht
        have hall : ([22, 5, 23].all fun u => !Tryd.prog.wantsStandIn u) = true := by kernel_rfl
        exact (show Tryd.prog.wantsStandIn t = false by simpa using List.all_eq_true.1 hall t hm)⟩)
    (by kernel_rfl)
end Go.Proofs.YtfjgacankfidmaaDoor.directiveBack
