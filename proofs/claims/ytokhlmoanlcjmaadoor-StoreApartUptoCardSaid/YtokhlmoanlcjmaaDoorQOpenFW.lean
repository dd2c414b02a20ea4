/- Joined out of the texts OpenFW, TabOf, OpenTwo (wip/tools/merge.py). -/
import Derived.Test.YtokhlmoanlcjmaaDoorPt3
import Derived.Lib.LaidU8
import Derived.MakeChecks
import Derived.OpenShut
/- A slice of fields that came in, opened: what it reads as beside it. -/
namespace Go.Proofs.YtokhlmoanlcjmaaDoor
open Go.ChangeShapes Go.WideShapes Go.RowKit
set_option maxRecDepth 100000
section
variable {H : Type} {enc : TypeId × Value → H} {W : World}
def fldD (f : Fld) : DataW H := .agg [.lit (.string f.1), .lit (.string f.2)]
theorem open_flds_w {fuel : Nat} {cs : List Value} {x : DataW H × List MemPlace} (h : DataW.trod enc Tryd.prog W 0 (fun _ => true) true fuel 29 cs = some x) :
    ∃ A n c xs, cs = [.slice A n c] ∧ Rd A n 2 (fldsV xs) W ∧ (xs = [] ∨ ∃ elems spare, x.1 = .slice elems spare ∧ ∀ f ∈ xs, fldD f ∈ elems) := by
  rcases Go.Deep.open_slice Tryd.underlying29 h with ⟨rfl, rfl⟩ | ⟨a, len, cap, m, n, D, Pl, rfl, hb, hl, hm, hmm, rfl, hi⟩
  · exact ⟨none, 0, 0, [], rfl, Rd.nil, Or.inl rfl⟩
  · simp only [if_true] at hmm
    subst hmm
    have hc2 : Tryd.prog.cellsOf 62 = 2 := by kernel_rfl
    have hc1 : Tryd.prog.cellsOf 9 = 1 := by kernel_rfl
    have key : ∀ i, i < len → ∃ f : Fld, W.cell? (a.add (i * 2)) = some (.string ⟨f.1.toArray⟩) ∧ W.cell? (a.add (i * 2 + 1)) = some (.string ⟨f.2.toArray⟩) ∧ D i = .agg [.lit (.string f.1), .lit (.string f.2)] := by
      intro i hi'
      obtain ⟨cs', hcs, ht⟩ := hi i (by omega)
      rw [hc2] at hcs
      obtain ⟨_, hlen, hat⟩ := World.cells?_some hcs
      obtain ⟨ys, n', _, hx, _, hyl, hg⟩ := DataW.trod_struct Tryd.underlying62 ht
      obtain ⟨u, v, rfl⟩ := two_of cs' hlen
      obtain ⟨y0, y1, rfl⟩ := two_of ys hyl
      have g0 : DataW.trod enc Tryd.prog W 0 (fun _ => true) true n' 9 (([u, v].drop 0).take (Tryd.prog.cellsOf 9)) = some y0 := hg 0 _ rfl
      have g1 : DataW.trod enc Tryd.prog W 0 (fun _ => true) true n' 9 (([u, v].drop 1).take (Tryd.prog.cellsOf 9)) = some y1 := hg 1 _ rfl
      rw [hc1] at g0 g1
      obtain ⟨s0, e0, z0, _⟩ := DataW.trod_string Tryd.underlying9 (cs := [u]) (x := y0) (by simpa using g0)
      obtain ⟨s1, e1, z1, _⟩ := DataW.trod_string Tryd.underlying9 (cs := [v]) (x := y1) (by simpa using g1)
      have e0' : u = .string s0 := (List.cons.inj e0).1
      have e1' : v = .string s1 := (List.cons.inj e1).1
      subst e0'; subst e1'; subst z0; subst z1
      have a0 : W.cell? ((a.add (i * 2)).add 0) = some (.string s0) := hat 0 (by omega)
      have a1 : W.cell? ((a.add (i * 2)).add 1) = some (.string s1) := hat 1 (by omega)
      have hD : D i = .agg [.lit (.string s0.data.toList), .lit (.string s1.data.toList)] := (Prod.mk.inj hx).1
      clear hx g0 g1 e0 e1 hat hcs ht hg
      refine ⟨(s0.data.toList, s1.data.toList), ?_, ?_, hD⟩
      · rw [Go.Deep.add_add] at a0
        show _ = some (Value.string ⟨s0.data.toList.toArray⟩)
        rw [str_of]; exact a0
      · rw [Go.Deep.add_add] at a1
        show _ = some (Value.string ⟨s1.data.toList.toArray⟩)
        rw [str_of]; exact a1
    obtain ⟨xs, hll, hls⟩ := exists_listL len _ key
    refine ⟨some a, len, _, xs, rfl, ⟨by rw [fldsV_len, hll], fun hn => ?_⟩, Or.inr ⟨_, _, rfl, ?_⟩⟩
    · have hspot : a.spot = none := by
        have := World.cell?_spot (hls 0 (by omega)).1
        simpa [Addr.add] using this
      obtain ⟨b, o, spot⟩ := a
      simp only at hspot
      subst hspot
      have e : ∀ j, (⟨b, o, none⟩ : Addr).add j = ⟨b, o + j, none⟩ := fun j => by unfold Addr.add; split <;> simp_all
      refine ⟨b, o, rfl, ?_, fun j u hu => ?_⟩
      · rcases Nat.lt_or_ge b W.heap.size with h' | h'
        · exact h'
        · have := (hls 0 (by omega)).1
          simp [World.cell?, Addr.add, Array.getElem?_eq_none h'] at this
      · have hj : j < xs.length * 2 := by have := (List.getElem?_eq_some_iff.1 hu).1; rwa [fldsV_len] at this
        have hk : j / 2 < xs.length := by omega
        have h1 := hls (j / 2) hk
        have h2 := fldsV_at xs (j / 2) hk
        rw [e, e] at h1
        rcases Nat.mod_two_eq_zero_or_one j with h0 | h0
        · have ej : j / 2 * 2 = j := by omega
          rw [ej] at h1 h2
          rw [h2.1] at hu
          cases hu
          exact h1.1
        · have ej : j / 2 * 2 + 1 = j := by omega
          rw [ej] at h1 h2
          rw [h2.2] at hu
          cases hu
          exact h1.2.1
    · intro d hd'
      obtain ⟨i, hi', e⟩ := List.mem_iff_getElem.1 hd'
      have h2 := (hls i hi').2.2
      rw [e] at h2
      exact List.mem_map.2 ⟨i, List.mem_range.2 (by omega), h2⟩
theorem open_flds_wv {base : Nat} {v : Value} {d : DataW H} {p : List MemPlace} (hv : Value.okWide Tryd.prog W .any base 29 v) (h : DataW.Trod enc Tryd.prog W 0 (fun _ => true) true 29 v d p) :
    ∃ A n c xs, v = .slice A n c ∧ Rd A n 2 (fldsV xs) W ∧ (xs = [] ∨ ∃ elems spare, d = .slice elems spare ∧ ∀ f ∈ xs, fldD f ∈ elems) := by
  obtain ⟨a0, len, cap, rfl⟩ := okWide_slice Tryd.underlying29 hv
  obtain ⟨fuel, hf⟩ := h
  have hf' : DataW.trod enc Tryd.prog W 0 (fun _ => true) true fuel 29 [.slice a0 len cap] = some (d, p) := hf
  obtain ⟨A, n, c, xs, e, r⟩ := open_flds_w hf'
  exact ⟨A, n, c, xs, (List.cons.inj e).1, r⟩
theorem len_slice {t e : TypeId} (hu : Tryd.prog.underlying t = some (.slice e)) {fuel : Nat} {A : Option Addr} {n c : Nat} {x : DataW H × List MemPlace} (h : DataW.trod enc Tryd.prog W 0 (fun _ => true) true fuel t [.slice A n c] = some x) : n ≤ maxLen := by
  rcases Go.Deep.open_slice hu h with ⟨he, _⟩ | ⟨a, len, cap, m, nn, D, Pl, he, hb, hl, hm, _⟩
  · injection he with he
    injection he with _ h1 h2
    omega
  · injection he with he
    injection he with _ h1 h2
    omega
end
end Go.Proofs.YtokhlmoanlcjmaaDoor
/- What a listed table gives: what a variable reads as, in cells. -/
namespace Go.Proofs.YtokhlmoanlcjmaaDoor
open Go.RowKit

theorem tab_of_reads {P : Program} {W : World} {name : String} {k : IntKind} {zs : List Int} {g : Nat} {t e : TypeId} {n : Nat}
    (hg : P.globalNamed name = some g) (hty : (P.globals[g]?).map (·.type) = some t) (ht : P.underlying t = some (.array n e)) (he : P.underlying e = some (.int k)) (hce : P.cellsOf e = 1) (hct : P.cellsOf t = n)
    (h : Lib.VarReads P W name (Lib.tabData k zs)) : Lib.TabIs P W name k zs := by
  obtain ⟨g', t', cs, fuel, p, hg', ht', hvar, hd⟩ := h
  obtain rfl := Option.some.inj (hg.symm.trans hg')
  obtain rfl := Option.some.inj (hty.symm.trans ht')
  unfold Lib.TabIs
  rw [hvar, ← Lib.cells_of_tab ht he hce hct hd]
end Go.Proofs.YtokhlmoanlcjmaaDoor
/- Two numbers of sixteen bits that came in by value; the table of powers. -/
namespace Go.Proofs.YtokhlmoanlcjmaaDoor
open Go.ChangeShapes Go.WideShapes Go.RowKit
set_option maxRecDepth 100000

section
variable {H : Type} {enc : TypeId × Value → H} {W : World}
theorem open_two16 {base : Nat} {v : Value} {d : DataW H} {p : List MemPlace} (hv : Value.okWide Tryd.prog W .any base 23 v) (h : DataW.Trod enc Tryd.prog W 0 (fun _ => true) true 23 v d p) :
    ∃ a b : Int, v = .agg #[.int .u16 a, .int .u16 b] ∧ (0 ≤ a ∧ a < 65536) ∧ (0 ≤ b ∧ b < 65536) := by
  have hv' : ∃ cs, v = .agg cs ∧ cs.size = Tryd.prog.cellsOf 23 := by
    simp only [Value.okWide, Tryd.underlying23] at hv
    obtain ⟨cs, h1, h2, _⟩ := hv
    exact ⟨cs, h1, h2⟩
  obtain ⟨cs, rfl, hsz⟩ := hv'
  obtain ⟨fuel, hf⟩ := h
  obtain ⟨l⟩ := cs
  have hf' : DataW.trod enc Tryd.prog W 0 (fun _ => true) true fuel 23 l = some (d, p) := hf
  have hc2 : Tryd.prog.cellsOf 23 = 2 := by kernel_rfl
  have hc1 : Tryd.prog.cellsOf 22 = 1 := by kernel_rfl
  obtain ⟨ys, n', _, hx, hcl, hyl, hg⟩ := DataW.trod_array Tryd.underlying23 hf'
  obtain ⟨u, v, rfl⟩ := two_of l (hcl.trans hc2)
  obtain ⟨y0, y1, rfl⟩ := two_of ys hyl
  have g0 := hg 0 (by omega)
  have g1 := hg 1 (by omega)
  rw [hc1] at g0 g1
  obtain ⟨s0, e0, _, w0⟩ := DataW.trod_int Tryd.underlying22 (cs := [u]) (x := y0) (by simpa using g0)
  obtain ⟨s1, e1, _, w1⟩ := DataW.trod_int Tryd.underlying22 (cs := [v]) (x := y1) (by simpa using g1)
  have e0' : u = .int .u16 s0 := (List.cons.inj e0).1
  have e1' : v = .int .u16 s1 := (List.cons.inj e1).1
  subst e0'; subst e1'
  have m1 : IntKind.u16.min = 0 := by decide
  have m2 : IntKind.u16.max = 65535 := by decide
  simp [Lit.wf] at w0 w1
  exact ⟨s0, s1, rfl, by omega, by omega⟩
end
theorem tabN_of {W : World} {l : List (String × DataW Unit)} (hp : (l.all fun x => x.2.handleName?.isNone) = true) (hm : ("internal/strconv.uint64pow10", Lib.tabData .u64 Lib.pow10Tab) ∈ l) (h : laidMetH Tryd.prog l W) : TabN W := by
  rw [MakeChecks.laidMetH_plain _ _ _ hp] at h
  exact tab_of_reads (g := 1) (by kernel_rfl) (by kernel_rfl) Tryd.underlying131 Tryd.underlying105 (by kernel_rfl) (by kernel_rfl) (Lib.laidMet.reads h hm)
end Go.Proofs.YtokhlmoanlcjmaaDoor
