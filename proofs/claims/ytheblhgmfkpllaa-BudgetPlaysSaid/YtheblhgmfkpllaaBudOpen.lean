/- Slices of acts that came in, opened. -/
import Derived.Test.YtheblhgmfkpllaaOpenT
import Derived.Test.YtheblhgmfkpllaaBudE
namespace Go.Proofs.Ytheblhgmfkpllaa
open Go.ChangeShapes Go.WideShapes Go.RowKit
set_option maxRecDepth 100000

structure ActL where
  q : Nat
  key : ByteArray
  s : Int
  x : Int
def actV (a : ActL) : List Value := [.int .u8 a.q, .string a.key, .int .i64 a.s, .int .i64 a.x]
def actsV (xs : List ActL) : List Value := xs.flatMap actV
theorem actsV_len (xs : List ActL) : (actsV xs).length = xs.length * 4 := by
  unfold actsV
  induction xs with
  | nil => rfl
  | cons x r ih => rw [List.flatMap_cons, List.length_append, ih, List.length_cons]; show 4 + _ = _; omega
theorem actsV_at : ∀ (xs : List ActL) (k : Nat) (hk : k < xs.length), (actsV xs)[k * 4]? = some (.int .u8 (xs[k]).q) ∧ (actsV xs)[k * 4 + 1]? = some (.string (xs[k]).key) ∧ (actsV xs)[k * 4 + 2]? = some (.int .i64 (xs[k]).s) ∧ (actsV xs)[k * 4 + 3]? = some (.int .i64 (xs[k]).x)
  | [], k, hk => by simp at hk
  | x :: r, 0, _ => by unfold actsV; simp [actV]
  | x :: r, k + 1, hk => by
    have ih := actsV_at r k (by simpa using hk)
    unfold actsV at ih ⊢
    rw [List.flatMap_cons, show (k + 1) * 4 = k * 4 + 4 from by omega]
    have e : ∀ j, (actV x ++ r.flatMap actV)[j + 4]? = (r.flatMap actV)[j]? := fun j => by rw [List.getElem?_append_right (by show 4 ≤ _; omega)]; rfl
    rw [show k * 4 + 4 + 1 = (k * 4 + 1) + 4 from by omega, show k * 4 + 4 + 2 = (k * 4 + 2) + 4 from by omega, show k * 4 + 4 + 3 = (k * 4 + 3) + 4 from by omega, e, e, e, e]
    simpa using ih
theorem Rd.act {A : Option Addr} {n : Nat} {xs : List ActL} {w : World} (h : Rd A n 4 (actsV xs) w) : n = xs.length := by
  have := h.1; rw [actsV_len] at this; omega
theorem Rd.act_at {A : Option Addr} {n k : Nat} {xs : List ActL} {w : World} (h : Rd A n 4 (actsV xs) w) (hk : k < xs.length) :
    ∃ b o, A = some ⟨b, o, none⟩ ∧ b < w.heap.size ∧ w.cell? ⟨b, o + k * 4, none⟩ = some (.int .u8 (xs[k]).q) ∧ w.cell? ⟨b, o + k * 4 + 1, none⟩ = some (.string (xs[k]).key) ∧ w.cell? ⟨b, o + k * 4 + 2, none⟩ = some (.int .i64 (xs[k]).s) ∧ w.cell? ⟨b, o + k * 4 + 3, none⟩ = some (.int .i64 (xs[k]).x) := by
  obtain ⟨b, o, e, hl, hc⟩ := h.2 (by rw [h.act]; omega)
  have := actsV_at xs k hk
  exact ⟨b, o, e, hl, hc _ _ this.1, hc _ _ this.2.1, hc _ _ this.2.2.1, hc _ _ this.2.2.2⟩
theorem afour_of {α : Type} : ∀ (l : List α), l.length = 4 → ∃ a b c d, l = [a, b, c, d]
  | [a, b, c, d], _ => ⟨a, b, c, d, rfl⟩
section
variable {H : Type} {enc : TypeId × Value → H} {W : World}
theorem open_act_cs {fuel : Nat} {cs : List Value} {x : DataW H × List MemPlace} (h : DataW.trod enc Try.prog W 0 (fun _ => true) true fuel 26 cs = some x) :
    ∃ d : ActL, cs = actV d ∧ d.key.size ≤ maxLen ∧ d.q < 256 := by
  obtain ⟨ys, n', _, hx, hcl, hyl, hg⟩ := DataW.trod_struct Try.underlying26 h
  have hc4 : Try.prog.cellsOf 26 = 4 := by kernel_rfl
  have hcs : Try.prog.cellsOf 9 = 1 := by kernel_rfl
  have hcb : Try.prog.cellsOf 5 = 1 := by kernel_rfl
  have hci : Try.prog.cellsOf 3 = 1 := by kernel_rfl
  obtain ⟨c0, c1, c2, c3, rfl⟩ := afour_of cs (hcl.trans hc4)
  obtain ⟨y0, y1, y2, y3, rfl⟩ := afour_of ys hyl
  have g0 : DataW.trod enc Try.prog W 0 (fun _ => true) true n' 5 (([c0, c1, c2, c3].drop 0).take (Try.prog.cellsOf 5)) = some y0 := hg 0 _ rfl
  have g1 : DataW.trod enc Try.prog W 0 (fun _ => true) true n' 9 (([c0, c1, c2, c3].drop 1).take (Try.prog.cellsOf 9)) = some y1 := hg 1 _ rfl
  have g2 : DataW.trod enc Try.prog W 0 (fun _ => true) true n' 3 (([c0, c1, c2, c3].drop 2).take (Try.prog.cellsOf 3)) = some y2 := hg 2 _ rfl
  have g3 : DataW.trod enc Try.prog W 0 (fun _ => true) true n' 3 (([c0, c1, c2, c3].drop 3).take (Try.prog.cellsOf 3)) = some y3 := hg 3 _ rfl
  rw [hcb] at g0
  rw [hcs] at g1
  rw [hci] at g2 g3
  obtain ⟨s0, e0, z0, w0⟩ := DataW.trod_int Try.underlying5 (cs := [c0]) g0
  obtain ⟨s1, e1, z1, w1⟩ := DataW.trod_string Try.underlying9 (cs := [c1]) g1
  obtain ⟨s2, e2, z2, _⟩ := DataW.trod_int Try.underlying3 (cs := [c2]) g2
  obtain ⟨s3, e3, z3, _⟩ := DataW.trod_int Try.underlying3 (cs := [c3]) g3
  have e0' := (List.cons.inj e0).1
  have e1' := (List.cons.inj e1).1
  have e2' := (List.cons.inj e2).1
  have e3' := (List.cons.inj e3).1
  subst e0'; subst e1'; subst e2'; subst e3'
  have hb : 0 ≤ s0 ∧ s0 < 256 := by
    have m1 : IntKind.u8.min = 0 := by rfl
    have m2 : IntKind.u8.max = 255 := by rfl
    simp [Lit.wf] at w0
    omega
  refine ⟨⟨s0.toNat, s1, s2, s3⟩, ?_, w1, ?_⟩
  · unfold actV
    simp only
    rw [Int.toNat_of_nonneg hb.1]
  · show s0.toNat < 256
    omega
/-- A slice of acts that came in. -/
theorem open_acts_v {base : Nat} {v : Value} {d : DataW H} {p : List MemPlace} (hv : Value.okWide Try.prog W .any base 22 v) (h : DataW.Trod enc Try.prog W 0 (fun _ => true) true 22 v d p) :
    ∃ A n c xs, v = .slice A n c ∧ Rd A n 4 (actsV xs) W ∧ n ≤ maxLen ∧ ∀ d ∈ xs, d.key.size ≤ maxLen ∧ d.q < 256 := by
  obtain ⟨a0, len0, cap0, rfl⟩ := okWide_slice Try.underlying22 hv
  obtain ⟨fuel, hf⟩ := h
  have hf' : DataW.trod enc Try.prog W 0 (fun _ => true) true fuel 22 [.slice a0 len0 cap0] = some (d, p) := hf
  rcases Go.Deep.open_slice Try.underlying22 hf' with ⟨he, _⟩ | ⟨a, len, cap, m, n, D, Pl, he, hb, hl, hm, hmm, hx, hi⟩
  · have := (List.cons.inj he).1
    rw [this]
    exact ⟨none, 0, 0, [], rfl, Rd.nil, Nat.zero_le _, by simp⟩
  · have hes := (List.cons.inj he).1
    rw [hes]
    simp only [if_true] at hmm
    subst hmm
    have hc4 : Try.prog.cellsOf 26 = 4 := by kernel_rfl
    have key : ∀ i, i < len → ∃ d : ActL, (∀ j u, (actV d)[j]? = some u → W.cell? (a.add (i * 4 + j)) = some u) ∧ d.key.size ≤ maxLen ∧ d.q < 256 := by
      intro i hi'
      obtain ⟨cs', hcs, ht⟩ := hi i (by omega)
      rw [hc4] at hcs
      obtain ⟨_, hlen, hat⟩ := World.cells?_some hcs
      obtain ⟨d, rfl, hx⟩ := open_act_cs ht
      refine ⟨d, fun j u hu => ?_, hx⟩
      have hj : j < 4 := (List.getElem?_eq_some_iff.1 hu).1
      have := hat j hj
      rw [Go.Deep.add_add] at this
      rw [this, ← hu, List.getElem?_eq_getElem (show j < (actV d).length from hj)]
    obtain ⟨xs, hll, hls⟩ := exists_listL len _ key
    refine ⟨some a, len, _, xs, rfl, ⟨by rw [actsV_len, hll], fun hn => ?_⟩, by omega, ?_⟩
    · have hspot : a.spot = none := by
        have := World.cell?_spot ((hls 0 (by omega)).1 0 _ rfl)
        simpa [Addr.add] using this
      obtain ⟨b, o, spot⟩ := a
      simp only at hspot
      subst hspot
      have e : ∀ j, (⟨b, o, none⟩ : Addr).add j = ⟨b, o + j, none⟩ := fun j => by unfold Addr.add; split <;> simp_all
      refine ⟨b, o, rfl, ?_, fun j u hu => ?_⟩
      · rcases Nat.lt_or_ge b W.heap.size with h' | h'
        · exact h'
        · have := (hls 0 (by omega)).1 0 _ rfl
          simp [World.cell?, Addr.add, Array.getElem?_eq_none h'] at this
      · have hj : j < xs.length * 4 := by have := (List.getElem?_eq_some_iff.1 hu).1; rwa [actsV_len] at this
        have hk : j / 4 < xs.length := by omega
        have h1 := (hls (j / 4) hk).1 (j % 4)
        have h2 := actsV_at xs (j / 4) hk
        have h4 : j % 4 < 4 := Nat.mod_lt _ (by omega)
        have ej : j = j / 4 * 4 + j % 4 := by omega
        have key2 : (actV xs[j / 4])[j % 4]? = some u := by
          have hu2 : (actsV xs)[j / 4 * 4 + j % 4]? = some u := by rw [show j / 4 * 4 + j % 4 = j from by omega]; exact hu
          rw [← hu2]
          generalize j % 4 = r at *
          match r, h4 with
          | 0, _ => rw [Nat.add_zero, h2.1]; rfl
          | 1, _ => rw [h2.2.1]; rfl
          | 2, _ => rw [h2.2.2.1]; rfl
          | 3, _ => rw [h2.2.2.2]; rfl
        have h3 := h1 u key2
        rw [e] at h3
        rw [show o + j = o + (j / 4 * 4 + j % 4) from by omega]
        exact h3
    · intro d hd'
      obtain ⟨i, hi', e⟩ := List.mem_iff_getElem.1 hd'
      have h2 := (hls i hi').2
      rw [e] at h2
      exact h2
end
end Go.Proofs.Ytheblhgmfkpllaa
