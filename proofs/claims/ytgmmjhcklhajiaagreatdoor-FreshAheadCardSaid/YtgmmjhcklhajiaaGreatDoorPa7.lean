/- Joined out of the texts OpenV, OpenRep (wip/tools/merge.py). -/
import Derived.Test.YtgmmjhcklhajiaaGreatDoorPa6
/- Slices of fields and of texts that came in, opened. -/
namespace Go.Proofs.YtgmmjhcklhajiaaGreatDoor
open Go.ChangeShapes Go.WideShapes Go.RowKit
set_option maxRecDepth 100000

section
variable {H : Type} {enc : TypeId × Value → H} {W : World}
theorem open_flds_v {base : Nat} {v : Value} {d : DataW H} {p : List MemPlace} (hv : Value.okWide Tryz.prog W .any base 22 v) (h : DataW.Trod enc Tryz.prog W 0 (fun _ => true) true 22 v d p) (hr : Reach 22 d) :
    ∃ A n c xs, v = .slice A n c ∧ Rd A n 2 (fldsV xs) W ∧ n * 32 ≤ reachBytes ∧ ∀ f ∈ xs, f.1.length ≤ reachBytes ∧ f.2.length ≤ reachBytes := by
  obtain ⟨a0, len, cap, rfl⟩ := okWide_slice Tryz.underlying22 hv
  obtain ⟨fuel, hf⟩ := h
  have hf' : DataW.trod enc Tryz.prog W 0 (fun _ => true) true fuel 22 [.slice a0 len cap] = some (d, p) := hf
  obtain ⟨A, n, c, xs, e, r⟩ := open_flds hf' hr
  exact ⟨A, n, c, xs, (List.cons.inj e).1, r⟩
/-- A field that came in by value. -/
theorem open_fld_v {base : Nat} {v : Value} {d : DataW H} {p : List MemPlace} (hv : Value.okWide Tryz.prog W .any base 55 v) (h : DataW.Trod enc Tryz.prog W 0 (fun _ => true) true 55 v d p) (hr : Reach 55 d) :
    ∃ f : Fld, v = .agg #[.string ⟨f.1.toArray⟩, .string ⟨f.2.toArray⟩] ∧ f.1.length ≤ reachBytes ∧ f.2.length ≤ reachBytes := by
  obtain ⟨cs, rfl, hsz⟩ := okWide_struct Tryz.underlying55 hv
  obtain ⟨fuel, hf⟩ := h
  obtain ⟨l⟩ := cs
  have hf' : DataW.trod enc Tryz.prog W 0 (fun _ => true) true fuel 55 l = some (d, p) := hf
  have hc2 : Tryz.prog.cellsOf 55 = 2 := by kernel_rfl
  have hc1 : Tryz.prog.cellsOf 9 = 1 := by kernel_rfl
  obtain ⟨ys, n', _, hx, hcl, hyl, hg⟩ := DataW.trod_struct Tryz.underlying55 hf'
  obtain ⟨u, v, rfl⟩ := two_of l (hcl.trans hc2)
  obtain ⟨y0, y1, rfl⟩ := two_of ys hyl
  have g0 : DataW.trod enc Tryz.prog W 0 (fun _ => true) true n' 9 (([u, v].drop 0).take (Tryz.prog.cellsOf 9)) = some y0 := hg 0 _ rfl
  have g1 : DataW.trod enc Tryz.prog W 0 (fun _ => true) true n' 9 (([u, v].drop 1).take (Tryz.prog.cellsOf 9)) = some y1 := hg 1 _ rfl
  rw [hc1] at g0 g1
  obtain ⟨s0, e0, z0, _⟩ := DataW.trod_string Tryz.underlying9 (cs := [u]) (x := y0) (by simpa using g0)
  obtain ⟨s1, e1, z1, _⟩ := DataW.trod_string Tryz.underlying9 (cs := [v]) (x := y1) (by simpa using g1)
  have e0' : u = .string s0 := (List.cons.inj e0).1
  have e1' : v = .string s1 := (List.cons.inj e1).1
  subst e0'; subst e1'; subst z0; subst z1
  have hd : d = .agg [.lit (.string s0.data.toList), .lit (.string s1.data.toList)] := (Prod.mk.inj hx).1
  rw [hd] at hr
  refine ⟨(s0.data.toList, s1.data.toList), ?_, reach_str (reach_part Tryz.underlying55 hr (j := 0) rfl rfl), reach_str (reach_part Tryz.underlying55 hr (j := 1) rfl rfl)⟩
  simp only [str_of]
end
end Go.Proofs.YtgmmjhcklhajiaaGreatDoor
/- Replies and entries that came in by value, opened. -/
namespace Go.Proofs.YtgmmjhcklhajiaaGreatDoor
open Go.ChangeShapes Go.WideShapes Go.RowKit
set_option maxRecDepth 100000

theorem five_of {α : Type} : ∀ (l : List α), l.length = 5 → ∃ a b c d e, l = [a, b, c, d, e]
  | [a, b, c, d, e], _ => ⟨a, b, c, d, e, rfl⟩
theorem eight_of {α : Type} : ∀ (l : List α), l.length = 8 → ∃ a b c d e f g h, l = [a, b, c, d, e, f, g, h]
  | [a, b, c, d, e, f, g, h], _ => ⟨a, b, c, d, e, f, g, h, rfl⟩
theorem four_of {α : Type} : ∀ (l : List α), l.length = 4 → ∃ a b c d, l = [a, b, c, d]
  | [a, b, c, d], _ => ⟨a, b, c, d, rfl⟩

section
variable {H : Type} {enc : TypeId × Value → H} {W : World}
theorem open_reply_cs {fuel : Nat} {cs : List Value} {x : DataW H × List MemPlace} (h : DataW.trod enc Tryz.prog W 0 (fun _ => true) true fuel 24 cs = some x) (hr : Reach 24 x.1) :
    ∃ (st : Int) (re : ByteArray) (mi : Int) (A : Option Addr) (n c : Nat) (bo : ByteArray) (xs : List Fld), cs = [.int .i64 st, .string re, .int .i64 mi, .slice A n c, .string bo] ∧ Rd A n 2 (fldsV xs) W ∧ n * 32 ≤ reachBytes ∧ (∀ f ∈ xs, f.1.length ≤ reachBytes ∧ f.2.length ≤ reachBytes) ∧ re.size ≤ reachBytes ∧ bo.size ≤ reachBytes := by
  obtain ⟨ys, n', _, hx, hcl, hyl, hg⟩ := DataW.trod_struct Tryz.underlying24 h
  have hc5 : Tryz.prog.cellsOf 24 = 5 := by kernel_rfl
  have hcs : Tryz.prog.cellsOf 9 = 1 := by kernel_rfl
  have hci : Tryz.prog.cellsOf 3 = 1 := by kernel_rfl
  have hcf : Tryz.prog.cellsOf 22 = 1 := by kernel_rfl
  obtain ⟨c0, c1, c2, c3, c4, rfl⟩ := five_of cs (hcl.trans hc5)
  obtain ⟨y0, y1, y2, y3, y4, rfl⟩ := five_of ys hyl
  have g0 : DataW.trod enc Tryz.prog W 0 (fun _ => true) true n' 3 (([c0, c1, c2, c3, c4].drop 0).take (Tryz.prog.cellsOf 3)) = some y0 := hg 0 _ rfl
  have g1 : DataW.trod enc Tryz.prog W 0 (fun _ => true) true n' 9 (([c0, c1, c2, c3, c4].drop 1).take (Tryz.prog.cellsOf 9)) = some y1 := hg 1 _ rfl
  have g2 : DataW.trod enc Tryz.prog W 0 (fun _ => true) true n' 3 (([c0, c1, c2, c3, c4].drop 2).take (Tryz.prog.cellsOf 3)) = some y2 := hg 2 _ rfl
  have g3 : DataW.trod enc Tryz.prog W 0 (fun _ => true) true n' 22 (([c0, c1, c2, c3, c4].drop 3).take (Tryz.prog.cellsOf 22)) = some y3 := hg 3 _ rfl
  have g4 : DataW.trod enc Tryz.prog W 0 (fun _ => true) true n' 9 (([c0, c1, c2, c3, c4].drop 4).take (Tryz.prog.cellsOf 9)) = some y4 := hg 4 _ rfl
  rw [hci] at g0 g2
  rw [hcs] at g1 g4
  rw [hcf] at g3
  rw [hx] at hr
  have r1 : Reach 9 y1.1 := reach_part Tryz.underlying24 hr (j := 1) rfl rfl
  have r3 : Reach 22 y3.1 := reach_part Tryz.underlying24 hr (j := 3) rfl rfl
  have r4 : Reach 9 y4.1 := reach_part Tryz.underlying24 hr (j := 4) rfl rfl
  obtain ⟨a0, e0, _⟩ := DataW.trod_int Tryz.underlying3 (cs := [c0]) g0
  obtain ⟨s1, e1, z1, _⟩ := DataW.trod_string Tryz.underlying9 (cs := [c1]) g1
  obtain ⟨a2, e2, _⟩ := DataW.trod_int Tryz.underlying3 (cs := [c2]) g2
  obtain ⟨A, n, c, xs, e3, hR, hn, hl⟩ := open_flds (cs := [c3]) g3 r3
  obtain ⟨s4, e4, z4, _⟩ := DataW.trod_string Tryz.underlying9 (cs := [c4]) g4
  have e0' := (List.cons.inj e0).1
  have e1' := (List.cons.inj e1).1
  have e2' := (List.cons.inj e2).1
  have e3' := (List.cons.inj e3).1
  have e4' := (List.cons.inj e4).1
  subst e0'; subst e1'; subst e2'; subst e3'; subst e4'
  rw [z1] at r1
  rw [z4] at r4
  have q1 := reach_str r1
  have q4 := reach_str r4
  rw [← Lib.size_eq] at q1 q4
  exact ⟨a0, s1, a2, A, n, c, s4, xs, rfl, hR, hn, hl, q1, q4⟩
set_option maxRecDepth 100000 in
theorem open_reply {base : Nat} {v : Value} {d : DataW H} {p : List MemPlace} (hv : Value.okWide Tryz.prog W .any base 24 v) (h : DataW.Trod enc Tryz.prog W 0 (fun _ => true) true 24 v d p) (hr : Reach 24 d) :
    ∃ (st : Int) (re : ByteArray) (mi : Int) (A : Option Addr) (n c : Nat) (bo : ByteArray) (xs : List Fld), v = .agg #[.int .i64 st, .string re, .int .i64 mi, .slice A n c, .string bo] ∧ Rd A n 2 (fldsV xs) W ∧ n * 32 ≤ reachBytes ∧ (∀ f ∈ xs, f.1.length ≤ reachBytes ∧ f.2.length ≤ reachBytes) ∧ re.size ≤ reachBytes ∧ bo.size ≤ reachBytes := by
  obtain ⟨cs, rfl, hsz⟩ := okWide_struct Tryz.underlying24 hv
  obtain ⟨fuel, hf⟩ := h
  obtain ⟨l⟩ := cs
  have hf' : DataW.trod enc Tryz.prog W 0 (fun _ => true) true fuel 24 l = some (d, p) := hf
  have hr' : Reach 24 (d, p).1 := hr
  obtain ⟨st, re, mi, A, n, c, bo, xs, e, r⟩ := open_reply_cs hf' hr'
  have e' : l = _ := e
  subst e'
  exact ⟨st, re, mi, A, n, c, bo, xs, rfl, r⟩
theorem open_entry {base : Nat} {v : Value} {d : DataW H} {p : List MemPlace} (hv : Value.okWide Tryz.prog W .any base 26 v) (h : DataW.Trod enc Tryz.prog W 0 (fun _ => true) true 26 v d p) (hr : Reach 26 d) :
    ∃ (st : Int) (re : ByteArray) (mi : Int) (A : Option Addr) (n c : Nat) (bo : ByteArray) (xs : List Fld) (asd gt : Int) (va : Option Addr) (vn vc : Nat) (es : List Fld),
      v = .agg #[.int .i64 st, .string re, .int .i64 mi, .slice A n c, .string bo, .int .i64 asd, .int .i64 gt, .slice va vn vc] ∧
      (Rd A n 2 (fldsV xs) W ∧ n * 32 ≤ reachBytes ∧ (∀ f ∈ xs, f.1.length ≤ reachBytes ∧ f.2.length ≤ reachBytes) ∧ re.size ≤ reachBytes ∧ bo.size ≤ reachBytes) ∧
      (Lit.int .i64 asd).wf = true ∧ (Lit.int .i64 gt).wf = true ∧
      Rd va vn 2 (fldsV es) W ∧ vn * 32 ≤ reachBytes ∧ (∀ f ∈ es, f.1.length ≤ reachBytes ∧ f.2.length ≤ reachBytes) := by
  obtain ⟨cs, rfl, hsz⟩ := okWide_struct Tryz.underlying26 hv
  obtain ⟨fuel, hf⟩ := h
  obtain ⟨l⟩ := cs
  have hf' : DataW.trod enc Tryz.prog W 0 (fun _ => true) true fuel 26 l = some (d, p) := hf
  have hc8 : Tryz.prog.cellsOf 26 = 8 := by kernel_rfl
  have hc5 : Tryz.prog.cellsOf 24 = 5 := by kernel_rfl
  have hci : Tryz.prog.cellsOf 2 = 1 := by kernel_rfl
  have hcf : Tryz.prog.cellsOf 22 = 1 := by kernel_rfl
  obtain ⟨ys, n', _, hx, hcl, hyl, hg⟩ := DataW.trod_struct Tryz.underlying26 hf'
  obtain ⟨c0, c1, c2, c3, c4, c5, c6, c7, rfl⟩ := eight_of l (hcl.trans hc8)
  obtain ⟨y0, y1, y2, y3, rfl⟩ := four_of ys hyl
  have g0 : DataW.trod enc Tryz.prog W 0 (fun _ => true) true n' 24 (([c0, c1, c2, c3, c4, c5, c6, c7].drop 0).take (Tryz.prog.cellsOf 24)) = some y0 := hg 0 _ rfl
  have g1 : DataW.trod enc Tryz.prog W 0 (fun _ => true) true n' 2 (([c0, c1, c2, c3, c4, c5, c6, c7].drop 5).take (Tryz.prog.cellsOf 2)) = some y1 := hg 1 _ rfl
  have g2 : DataW.trod enc Tryz.prog W 0 (fun _ => true) true n' 2 (([c0, c1, c2, c3, c4, c5, c6, c7].drop 6).take (Tryz.prog.cellsOf 2)) = some y2 := hg 2 _ rfl
  have g3 : DataW.trod enc Tryz.prog W 0 (fun _ => true) true n' 22 (([c0, c1, c2, c3, c4, c5, c6, c7].drop 7).take (Tryz.prog.cellsOf 22)) = some y3 := hg 3 _ rfl
  rw [hc5] at g0
  rw [hci] at g1 g2
  rw [hcf] at g3
  have hd : d = .agg [y0.1, y1.1, y2.1, y3.1] := (Prod.mk.inj hx).1
  rw [hd] at hr
  have r0 : Reach 24 y0.1 := reach_part Tryz.underlying26 hr (j := 0) rfl rfl
  have r3 : Reach 22 y3.1 := reach_part Tryz.underlying26 hr (j := 3) rfl rfl
  obtain ⟨st, re, mi, A, n, c, bo, xs, e0, r⟩ := open_reply_cs (cs := [c0, c1, c2, c3, c4]) g0 r0
  obtain ⟨a1, e1, _, w1⟩ := DataW.trod_int Tryz.underlying2 (cs := [c5]) g1
  obtain ⟨a2, e2, _, w2⟩ := DataW.trod_int Tryz.underlying2 (cs := [c6]) g2
  obtain ⟨va, vn, vc, es, e3, hR, hn, hl⟩ := open_flds (cs := [c7]) g3 r3
  simp only [List.cons.injEq, and_true] at e0 e1 e2 e3
  obtain ⟨rfl, rfl, rfl, rfl, rfl⟩ := e0
  subst e1; subst e2; subst e3
  exact ⟨st, re, mi, A, n, c, bo, xs, a1, a2, va, vn, vc, es, rfl, r, w1, w2, hR, hn, hl⟩
end
end Go.Proofs.YtgmmjhcklhajiaaGreatDoor
