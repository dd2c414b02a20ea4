/- A reply that does not say that it is ESI is passed on, byte for byte: of arguments of bulk at most 1048576. -/
import Derived.Test.YtdbjnlkbhhebbaaGreatDoorUptoHand
import Derived.Test.YtdbjnlkbhhebbaaGreatDoorK15
import Derived.Test.YtdbjnlkbhhebbaaGreatDoorCards
import Derived.Test.YtdbjnlkbhhebbaaGreatDoorOwnTie
import Derived.Test.YtdbjnlkbhhebbaaGreatDoorTieF
import Derived.Test.YtdbjnlkbhhebbaaGreatDoorTieG
import Derived.Test.YtdbjnlkbhhebbaaGreatDoorTieH
set_option linter.all false
namespace Go.Proofs.YtdbjnlkbhhebbaaGreatDoor.topPlain
open Go.ChangeShapes Go.WideShapes Go.ChangeAt Go.RowKit Go.WideMaps Go.WideElems
open Go.ChangeMaps (open_string shut_string)
set_option linter.unusedVariables false

theorem own : ownKnob Tryz.prog.godebug = none := by kernel_rfl
theorem Js : laidOutB Tryz.prog = true := by kernel_rfl
noncomputable abbrev w0 (os : Os) : World := (World.laidAll Tryz.prog os Rows.topPlainUptoRow.laid).forCall (fun _ _ => 0) ⟨#[], #[.agg #[.string ⟨#[]⟩, .slice none 0 0, .int .u32 0, .string ⟨#[]⟩, .bool false], .int .u64 0], []⟩
theorem Ku (os : Os) {H : Type} (enc : TypeId × Value → H) :
    (Rows.OpenSpec.upto Rows.topPlainSpec).preRow enc Tryz.prog Tryz.f4 Rows.topPlainUptoRow.domain false Rows.topPlainUptoRow.laid (w0 os).memory #[.agg #[.string ⟨#[]⟩, .slice none 0 0, .int .u32 0, .string ⟨#[]⟩, .bool false], .int .u64 0] := by
  have hw : (DataW.whole enc Tryz.prog (w0 os).memory Tryz.f4.params.toList (Rows.OpenSpec.upto Rows.topPlainSpec).vars false #[Value.agg #[.string ⟨#[]⟩, .slice none 0 0, .int .u32 0, .string ⟨#[]⟩, .bool false], .int .u64 0].toList 8).map (fun x => (x.1, x.2.1)) =
      some ([.agg [.lit (.string []), .nil, .lit (.int .u32 0), .lit (.string []), .lit (.bool false)], .lit (.int .u64 0)], []) := by kernel_rfl
  obtain ⟨⟨x1, x2, x3⟩, hx, PQ⟩ := Option.map_eq_some_iff.1 hw
  simp only [Prod.mk.injEq] at PQ
  obtain ⟨rfl, rfl⟩ := PQ
  exact OpenSpec.preRow_of_cond 8 hx (by kernel_rfl) (fun k hk => by cases hk; rfl) (by kernel_rfl) (by rw [MakeChecks.laidMetH_plain _ _ _ (by kernel_rfl)]; exact laidMet_laidAll _ (by kernel_rfl) (by kernel_rfl))

theorem I5 {H : Type} : ∀ (l : List (DataW H)) y, y ∈ l → Rows.uptoBulk y ≤ Rows.uptoBulkAll l
  | [], y, h => by cases h
  | d :: r, y, h => by
    have e : Rows.uptoBulkAll (d :: r) = Rows.uptoBulk d + Rows.uptoBulkAll r := rfl
    rw [e]
    rcases List.mem_cons.1 h with rfl | h
    · omega
    · have := I5 r y h; omega
theorem uP {H : Type} : ∀ xs : List aU, aE xs + 3 * xs.length ≤ Rows.uptoBulkAll (xs.map (A7 (H := H)))
  | [] => Nat.zero_le _
  | f :: r => by
    have ih := uP (H := H) r
    have e : Rows.uptoBulkAll ((f :: r).map (A7 (H := H))) = (((f.1.length + 1) + ((f.2.length + 1) + 0)) + 1) + Rows.uptoBulkAll (r.map (A7 (H := H))) := rfl
    have e2 : aE (f :: r) = f.1.length + f.2.length + aE r := by unfold aE; simp
    rw [e, e2, List.length_cons]
    omega

set_option maxRecDepth 100000 in
theorem Lo (os : Os) (started : os.Started) (H : Type) (enc : TypeId × Value → H) (F : Stop.Interp) :
    ReturnsInHanded {} Tryz.checked os 4 .any ((Rows.OpenSpec.upto Rows.topPlainSpec).preRow enc Tryz.prog Tryz.f4 Rows.topPlainUptoRow.domain false Rows.topPlainUptoRow.laid)
      (((Rows.OpenSpec.upto Rows.topPlainSpec).at F).post enc Tryz.prog Tryz.f4 false true false false) := by
  refine returnsInHanded_of_row (C := Tryz.checked) (s := Rows.OpenSpec.upto Rows.topPlainSpec) own started (by kernel_rfl) Tryz.func4
    (uptoWitness (enc := enc) (C := Tryz.checked) (World.laidAll Tryz.prog os Rows.topPlainUptoRow.laid) #[.agg #[.string ⟨#[]⟩, .slice none 0 0, .int .u32 0, .string ⟨#[]⟩, .bool false], .int .u64 0] (World.laidAll_os _ _ _) (World.shaped_of_ZipB (by kernel_rfl) (by kernel_rfl)) (by kernel_rfl) (Ku os enc)) ?_
  intro W base args ds gs before hval0 hW _ hcond0 hsz0 hL XQ _
  have hcond : Rows.uptoSmall H (ds ++ gs) = true := hcond0 _ rfl
  have TB : ∀ (j : Nat) t v, Tryz.f4.params[j]? = some t → args[j]? = some v → Value.okWide Tryz.prog W .any base t v := hval0
  have hW' := hW
  obtain ⟨p, q, hA0, hV, rfl, hfz, Oi⟩ := hW
  have hA : DataW.TrodAll enc Tryz.prog W 0 (fun _ => true) true Tryz.f4.params.toList args.toList ds p := hA0
  have ND : (DataW.weightsEach Tryz.prog (Tryz.f4.params.toList ++ (Rows.OpenSpec.upto Rows.topPlainSpec).bare.plain.varTypes Tryz.prog) (ds ++ gs)).all (· ≤ reachBytes) = true := hsz0
  rw [Tryz.params4] at hA TB ND
  obtain ⟨v0, vs0, d0, ds0, p0, q0, hargs, rfl, rfl, h0, r0⟩ := trodAll_cons hA
  obtain ⟨v1, vs1, d1, ds1, p1, q1, rfl, rfl, rfl, h1, r1⟩ := trodAll_cons r0
  obtain ⟨rfl, rfl, rfl⟩ := trodAll_nil r1
  obtain rfl : args = #[v0, v1] := by cases args; simp_all
  obtain ⟨rfl, rfl⟩ := trodVars_none hV
  have k0 := h0
  have lt0 : ∀ x ∈ p0, x.block < W.heap.size := by obtain ⟨m, hm⟩ := k0; exact DataW.trod_lt m _ _ _ hm
  obtain ⟨tg, b, A, n, c, xs, wt, f, sl, y2, y4, rfl, Ua, rfl, hd⟩ := En (TB 0 38 v0 rfl rfl) h0
  obtain ⟨now, rfl, rfl, rfl, w1⟩ := open_int Tryz.underlying23 (TB 1 23 v1 rfl rfl) h1
  have PF : Rows.uptoBulkAll ([.agg [.lit (.string tg.data.toList), sl, y2, .lit (.string b.data.toList), y4], .lit (.int .u64 now)] ++ []) ≤ 1048576 := of_decide_eq_true hcond
  have e : Rows.uptoBulkAll (([.agg [.lit (.string tg.data.toList), sl, y2, .lit (.string b.data.toList), y4], .lit (.int .u64 now)] : List (DataW H)) ++ []) = ((tg.data.toList.length + 1) + (Rows.uptoBulk sl + (Rows.uptoBulk y2 + ((b.data.toList.length + 1) + (Rows.uptoBulk y4 + 0)))) + 1) + (1 + 0) := rfl
  have Vx : tg.size ≤ 2000000 := by rw [Lib.size_eq]; omega
  have hb : b.size ≤ 2000000 := by rw [Lib.size_eq]; omega
  have hxs : aE xs + 3 * xs.length ≤ 1048576 := by
    rcases hd with rfl | ⟨spare, rfl⟩
    · exact Nat.zero_le _
    · have h3 := uP (H := H) xs
      have e2 : Rows.uptoBulk (DataW.slice (xs.map A7) spare : DataW H) = Rows.uptoBulkAll (xs.map A7) + Rows.uptoBulkAll spare + 1 := rfl
      omega
  have hn : n = xs.length := Ua.fld
  have h0n : 0 ≤ now := by
    have h := w1
    have m0 : IntKind.u64.min = 0 := by decide
    simp [Lit.wf] at h
    omega
  have NY : (Rows.topPlainUptoRow.laid.all fun x => x.2.handleName?.isNone) = true := by kernel_rfl
  have kw := wF tg b A n c xs wt f now W (J5 NY (List.mem_of_getElem? (i := 8) (by kernel_rfl)) hL XQ) (Kq NY (List.mem_of_getElem? (i := 0) (by kernel_rfl)) hL) (Kt NY (List.mem_of_getElem? (i := 5) (by kernel_rfl)) (List.mem_of_getElem? (i := 6) (by kernel_rfl)) hL) (C1 XQ) Ua (by omega) (by omega) Vx hb h0n
  refine kw.mono fun e W' ⟨he, hg⟩ => ?_
  subst he
  exact ⟨_, rfl, _, _, _, [], _, [], hW', trodAll_mk1 (shut_bool Tryz.underlying4 _), (trodAll_cons_mk (Below.trod Js (by kernel_rfl) (of_decide_eq_true (by kernel_rfl)) k0 hg lt0) (trodAll_cons_mk (shut_int Tryz.underlying23 w1) trodAll_mk0)), rfl, hg.frame _, fun h => by cases h⟩

theorem MH : Rows.TopPlainUptoSaid :=
  OpenClaim.holds_of_cond 4 Tryz.f4 rfl rfl rfl rfl rfl rfl rfl ⟨rfl, rfl, rfl, rfl, rfl⟩ rfl rfl rfl rfl rfl tq2 Tryz.func4 tj_all tq6 tq7
    (fun os started H enc _ F0 => by rw [OpenClaim.pre_eq_preRow]; exact Lo os started H enc F0)

theorem proved : Rows.TopPlainUptoCardSaid :=
  Claim7.holds_tied_plain_at .later [] [.data, .data, .data, .pinned, .data, .sentinel, .sentinel, .pinned, .data, .listed] true (true, "d9f5e4f7ebb9fa4055eb71a50092acffd26afc64aa9051f406cbe716bc35c000") true
    MH (fun _ h => by cases h) tq0 (fun _ h => by cases h) topPlainUpto_row_tie rfl ⟨rfl, rfl⟩ tq1 rfl
    (fun f fn hf Ub => by
      obtain rfl : f = 4 := Option.some.inj (tq2.symm.trans hf) |>.symm
      obtain rfl : fn = Tryz.f4 := (Option.some.inj (Tryz.func4.symm.trans Ub)).symm
      exact ⟨tq3, fun j t ht => by
        rw [Tryz.params4] at ht
        have hm : t ∈ [38, 23] := by simpa using Array.mem_of_getElem? ht
        exact (show Tryz.prog.wantsStandIn t = false by simpa using List.all_eq_true.1 tq4 t hm)⟩)
    tq5
end Go.Proofs.YtdbjnlkbhhebbaaGreatDoor.topPlain
