/- The document's Budget: the walks of at, Bytes, Peek, Keys, Drop. -/
import Derived.Test.YtheblhgmfkpllaaBudRow
import Derived.Test.YtheblhgmfkpllaaBudBounds
namespace Go.Proofs.Ytheblhgmfkpllaa
open Go.RowKit
set_option maxRecDepth 100000

/-- The document's Budget stands here. -/
def BR (w : World) (fr : List Nat) (rb : Nat) (n m : Int) (es : List Ent) : Prop :=
  ∃ A cap, w.heap[rb]? = some (.cells #[.int .i64 n, .int .i64 m, .slice A es.length cap] 37 (0, 0)) ∧ Row1 w fr es A cap ∧ rb ∉ fr
def StR (w w' : World) (fr : List Nat) (rb : Nat) (n m : Int) (es : List Ent) : Prop := ∃ fr', BR w' fr' rb n m es ∧ Touch (rb :: fr) w w' ∧ ∀ b ∈ fr', b ∈ fr ∨ w.heap.size ≤ b
/-- What is kept is what a budget can keep. -/
structure EsOk (es : List Ent) : Prop where
  nd : (es.map (·.key)).Nodup
  sz : ∀ e ∈ es, 0 ≤ e.size ∧ e.size ≤ 1073741824
  x : ∀ e ∈ es, ∃ x : Int, e.x = .int .i64 x
  len : es.length ≤ 4097
theorem EsOk.sub {es es' : List Ent} (h : EsOk es) (hs : es'.Sublist es) : EsOk es' :=
  ⟨h.nd.sublist (hs.map _), fun e he => h.sz e (hs.subset he), fun e he => h.x e (hs.subset he), Nat.le_trans hs.length_le h.len⟩
theorem EsOk.one {es : List Ent} (h : EsOk es) : ∀ e ∈ es, e.x.oneCell' = true := fun e he => by
  obtain ⟨x, hx⟩ := h.x e he
  rw [hx]; rfl
theorem BR.cells {w : World} {fr : List Nat} {rb : Nat} {n m : Int} {es : List Ent} (h : BR w fr rb n m es) : ∃ A cap, Row1 w fr es A cap ∧ rb ∉ fr ∧ rb < w.heap.size ∧ w.cell? ⟨rb, 0, none⟩ = some (.int .i64 n) ∧ w.cell? ⟨rb, 1, none⟩ = some (.int .i64 m) ∧ w.cell? ⟨rb, 2, none⟩ = some (.slice A es.length cap) ∧ w.frozen? ⟨rb, 2, none⟩ = false := by
  obtain ⟨A, cap, hb, hr, hn⟩ := h
  refine ⟨A, cap, hr, hn, ?_, by simp [World.cell?, hb], by simp [World.cell?, hb], by simp [World.cell?, hb], by simp [World.frozen?, hb]⟩
  rcases Nat.lt_or_ge rb w.heap.size with h' | h'
  · exact h'
  · simp [Array.getElem?_eq_none h'] at hb
theorem BR.keep {w w' : World} {fr fp : List Nat} {rb : Nat} {n m : Int} {es : List Ent} (h : BR w fr rb n m es) (ht : Touch fp w w') (hs : ∀ b ∈ rb :: fr, b ∉ fp) : BR w' fr rb n m es := by
  obtain ⟨_, _, _, _, hlt, _⟩ := h.cells
  obtain ⟨A, cap, hb, hr, hn⟩ := h
  exact ⟨A, cap, (ht.2.2.2.2 rb hlt (hs rb List.mem_cons_self)).trans hb, hr.of ht.2.2.2.1 (fun b hb' => ht.2.2.2.2 b (hr.low b hb') (hs b (List.mem_cons_of_mem _ hb'))), hn⟩
theorem BR.below {w w' : World} {fr : List Nat} {rb : Nat} {n m : Int} {es : List Ent} (h : BR w fr rb n m es) (hb : Below w.heap.size w w') : BR w' fr rb n m es :=
  h.keep (Touch.kept hb []) (by simp)
theorem BR.low {w : World} {fr : List Nat} {rb : Nat} {n m : Int} {es : List Ent} (h : BR w fr rb n m es) : ∀ b ∈ rb :: fr, b < w.heap.size := by
  obtain ⟨_, _, hr, _, hlt, _⟩ := h.cells
  intro b hb
  rcases List.mem_cons.1 hb with rfl | hb
  · exact hlt
  · exact hr.low b hb
theorem find_mid {k : ByteArray} {p : List Ent} {e : Ent} {q : List Ent} (hp : ∀ x ∈ p, x.key ≠ k) (he : e.key = k) : findE k (p ++ e :: q) = some e := by
  unfold findE
  rw [List.find?_append, List.find?_eq_none.2 (fun x hx => by rw [keyIs_false.2 (hp x hx)]; simp), Option.none_or, List.find?_cons, keyIs_iff.2 he]
theorem find_nil {k : ByteArray} {p : List Ent} (hp : ∀ x ∈ p, x.key ≠ k) : findE k p = none := by
  unfold findE
  rw [List.find?_eq_none]
  intro x hx
  rw [keyIs_false.2 (hp x hx)]; simp
set_option maxHeartbeats 8000000 in
theorem atR_any {w : World} {fr : List Nat} {rb : Nat} {n m : Int} {es : List Ent} (h : BR w fr rb n m es) (hes : EsOk es) (key : ByteArray) :
    Calls Try.prog 43 #[.pointer (some ⟨rb, 0, none⟩), .string key] w fun e w' => w = w' ∧ ((findE key es = none ∧ e = .returned (.int .i64 (-1))) ∨ ∃ p x q, es = p ++ x :: q ∧ x.key = key ∧ (∀ y ∈ p, y.key ≠ key) ∧ findE key es = some x ∧ e = .returned (.int .i64 p.length)) := by
  obtain ⟨A, cap, hr, _, _, _, _, c2, _⟩ := h.cells
  obtain ⟨L, hL⟩ : ∃ L, es.length = L := ⟨_, rfl⟩
  rw [hL] at c2
  have hll := hes.len
  have HL := Lib.hid hL
  have HR := Lib.hid hr
  have hL2 : L ≤ 4097 := by rw [← hL]; exact hll
  clear hL hr h hes hll
  go_enter Try.func43, Try.ntmps43
  go_wp2_with fail
  go_loopw [5] (fun i wr => ∃ (p q : List Ent), Hid (es = p ++ q) ∧ i = .int .i64 p.length ∧ Hid (∀ x ∈ p, x.key ≠ key) ∧ wr = w) (fun i _ => L - (intV i).toNat)
  case atStart => exact ⟨[], es, Lib.hid rfl, rfl, Lib.hid (by simp), rfl⟩
  case round =>
    obtain ⟨p, q, HE, rfl, HP, rfl⟩ := hrel
    have hpq : p.length + q.length = L := by rw [← HL.out, HE.out, List.length_append]
    rcases q with _ | ⟨e, q⟩
    · obtain ⟨k, hk⟩ : ∃ k, p.length = k := ⟨_, rfl⟩
      rw [hk]
      have t1 : decide ((k : Int) < (L : Int)) = false := by simp at hpq ⊢; omega
      have hpl : ¬ k < L := by simp at hpq; omega
      clear hpq hk
      go_wp2
      go_ret
      exact ⟨rfl, Or.inl ⟨by rw [HE.out, List.append_nil]; exact find_nil HP.out, rfl⟩⟩
    · rw [List.length_cons] at hpq
      have hpl : p.length < L := by omega
      have t1 : decide ((p.length : Int) < (L : Int)) = true := by simp; omega
      obtain ⟨g, o, rfl, _, hc, _⟩ := HR.out.row (by have := HR.out.le; rw [HL.out] at this; omega)
      have d0 : wr.cell? ⟨g, o + p.length * 3, none⟩ = some (.string e.key) := hc _ _ (by rw [HE.out]; exact (onesV_at p e q).1)
      obtain ⟨k, hk⟩ : ∃ k, p.length = k := ⟨_, rfl⟩
      rw [hk] at d0 hpl t1
      have HK := Lib.hid hk
      have hpq2 := hpq
      clear hc hpq hpq2
      rw [hk]
      by_cases hkey : e.key = key
      · have b2 : (e.key.toList == key.toList) = true := by rw [hkey]; exact beq_self_eq_true _
        have HKEY := Lib.hid hkey
        clear hkey hk
        go_wp2
        go_ret
        refine ⟨rfl, Or.inr ⟨p, e, q, HE.out, HKEY.out, HP.out, by rw [HE.out]; exact find_mid HP.out HKEY.out, ?_⟩⟩
        rw [HK.out]
        rfl
      · have b2 : (e.key.toList == key.toList) = false := by
          rw [beq_eq_false_iff_ne]
          intro h
          rw [Lib.toList_data, Lib.toList_data] at h
          exact hkey (str_eq _ _ h)
        have HKEY := Lib.hid hkey
        have i2 : IntKind.i64.wrap ((k : Int) + 1) = ((k + 1 : Nat) : Int) := by rw [IntKind.wrap_i64]; omega
        clear hkey hk
        go_wp2
        go_roundw
        case rel =>
          refine ⟨p ++ [e], q, Lib.hid (by rw [HE.out]; simp), ?_, Lib.hid (fun x hx => ?_), trivial⟩
          · rw [List.length_append, List.length_singleton, HK.out]; rfl
          · rcases List.mem_append.1 hx with h' | h'
            · exact HP.out x h'
            · rw [List.mem_singleton.1 h']; exact HKEY.out
        case measure => simp [intV]; omega
theorem BR.at {w : World} {fr : List Nat} {rb : Nat} {n m : Int} {p q : List Ent} {e : Ent} (h : BR w fr rb n m (p ++ e :: q)) : ∃ g o cap, w.cell? ⟨rb, 2, none⟩ = some (.slice (some ⟨g, o, none⟩) (p ++ e :: q).length cap) ∧ p.length + q.length + 1 ≤ cap ∧ w.cell? ⟨g, o + p.length * 3, none⟩ = some (.string e.key) ∧ w.cell? ⟨g, o + p.length * 3 + 1, none⟩ = some (.int .i64 e.size) ∧ w.cell? ⟨g, o + p.length * 3 + 2, none⟩ = some e.x := by
  obtain ⟨A, cap, hr, _, _, _, _, c2, _⟩ := h.cells
  have hl := hr.le
  rw [List.length_append, List.length_cons] at hl
  obtain ⟨g, o, rfl, _, hc, _⟩ := hr.row (by omega)
  obtain ⟨x0, x1, x2⟩ := onesV_at p e q
  exact ⟨g, o, cap, c2, by omega, hc _ _ x0, hc _ _ x1, hc _ _ x2⟩
theorem sumE_nn : ∀ (es : List Ent), (∀ e ∈ es, 0 ≤ e.size ∧ e.size ≤ 1073741824) → 0 ≤ sumE es ∧ sumE es ≤ es.length * 1073741824
  | [], _ => by simp [sumE]
  | e :: t, h => by
    have ih := sumE_nn t (fun x hx => h x (List.mem_cons_of_mem _ hx))
    have h1 := h e List.mem_cons_self
    rw [sumE, List.length_cons]
    omega
set_option maxHeartbeats 8000000 in
theorem bytesR_any {w : World} {fr : List Nat} {rb : Nat} {n m : Int} {es : List Ent} (h : BR w fr rb n m es) (hes : EsOk es) :
    Calls Try.prog 15 #[.pointer (some ⟨rb, 0, none⟩)] w fun e w' => e = .returned (.int .i64 (sumE es)) ∧ w = w' := by
  obtain ⟨A, cap, hr, _, _, _, _, c2, _⟩ := h.cells
  obtain ⟨L, hL⟩ : ∃ L, es.length = L := ⟨_, rfl⟩
  rw [hL] at c2
  have hll := hes.len
  have HL := Lib.hid hL
  have HR := Lib.hid hr
  have HES := Lib.hid hes
  have hL2 : L ≤ 4097 := by rw [← hL]; exact hll
  clear hL hr h hes hll
  go_enter Try.func15, Try.ntmps15
  go_wp2_with fail
  go_loopw [3, 4] (fun s i wr => ∃ (p q : List Ent), Hid (es = p ++ q) ∧ i = .int .i64 p.length ∧ s = .int .i64 (sumE p) ∧ wr = w) (fun _ i _ => L - (intV i).toNat)
  case atStart => exact ⟨[], es, Lib.hid rfl, rfl, rfl, rfl⟩
  case round =>
    obtain ⟨p, q, HE, rfl, rfl, rfl⟩ := hrel
    have hpq : p.length + q.length = L := by rw [← HL.out, HE.out, List.length_append]
    rcases q with _ | ⟨e, q⟩
    · obtain ⟨k, hk⟩ : ∃ k, p.length = k := ⟨_, rfl⟩
      rw [hk]
      have hpl : ¬ k < L := by simp at hpq; omega
      clear hpq hk
      go_wp2
      go_ret
      exact ⟨by rw [HE.out, List.append_nil]; rfl, rfl⟩
    · rw [List.length_cons] at hpq
      have hpl : p.length < L := by omega
      obtain ⟨g, o, rfl, _, hc, _⟩ := HR.out.row (by have := HR.out.le; rw [HL.out] at this; omega)
      have d0 : wr.cell? ⟨g, o + p.length * 3 + 1, none⟩ = some (.int .i64 e.size) := hc _ _ (by rw [HE.out]; exact (onesV_at p e q).2.1)
      have hs1 := sumE_nn p (fun x hx => HES.out.sz x (by rw [HE.out]; exact List.mem_append_left _ hx))
      have hs2 := HES.out.sz e (by rw [HE.out]; simp)
      obtain ⟨k, hk⟩ : ∃ k, p.length = k := ⟨_, rfl⟩
      rw [hk] at d0 hpl hs1
      have hw : IntKind.i64.wrap (sumE p + e.size) = sumE p + e.size := by rw [IntKind.wrap_i64]; omega
      have HK := Lib.hid hk
      clear hc hpq hs1 hs2
      rw [hk]
      clear hk
      have i2 : IntKind.i64.wrap ((k : Int) + 1) = ((k + 1 : Nat) : Int) := by rw [IntKind.wrap_i64]; omega
      go_wp2
      go_roundw
      case rel =>
        refine ⟨p ++ [e], q, Lib.hid (by rw [HE.out]; simp), ?_, ?_, trivial⟩
        · rw [List.length_append, List.length_singleton, HK.out]; rfl
        · rw [sumE_app]
          show _ = Value.int .i64 (sumE p + (e.size + 0))
          rw [Int.add_zero]
      case measure => simp [intV]; omega
set_option maxHeartbeats 8000000 in
theorem peekR_any {w : World} {fr : List Nat} {rb : Nat} {n m : Int} {es : List Ent} (h : BR w fr rb n m es) (hes : EsOk es) (key : ByteArray) :
    Calls Try.prog 33 #[.pointer (some ⟨rb, 0, none⟩), .string key] w fun e w' => e = .returned (.tuple #[valE (.int .i64 0) key es, .bool (hasE key es)]) ∧ w = w' := by
  have k1 := atR_any h hes key
  have K1 := Lib.hid k1
  have HB := Lib.hid h
  have HES := Lib.hid hes
  clear k1 h hes
  go_enter Try.func33, Try.ntmps33
  go_wp2_with fail
  (with_reducible refine K1.out.mono ?_)
  rintro y w1 ⟨rfl, ⟨hf, rfl⟩ | ⟨p, e, q, rfl, hk, hp, hf, rfl⟩⟩
  · go_wp2
    go_ret2
    exact ⟨by unfold valE hasE; rw [hf]; rfl, rfl⟩
  · obtain ⟨g, o, cap, c2, hcap, d0, d1, d2⟩ := HB.out.at
    have hll := HES.out.len
    rw [List.length_append, List.length_cons] at hll
    have hN : (p ++ e :: q).length = p.length + q.length + 1 := by rw [List.length_append, List.length_cons]; omega
    rw [hN] at c2
    obtain ⟨k, hk2⟩ : ∃ k, p.length = k := ⟨_, rfl⟩
    rw [hk2] at c2 d0 d1 d2
    obtain ⟨N, hN2⟩ : ∃ N, k + q.length + 1 = N := ⟨_, rfl⟩
    rw [hN2] at c2
    have hkl : k < N := by omega
    have HFF := Lib.hid hf
    rw [hk2]
    clear hN hk hk2 hf hp hcap hll hN2
    go_wp2
    go_ret2
    exact ⟨by unfold valE hasE; rw [HFF.out]; rfl, rfl⟩
set_option maxHeartbeats 8000000 in
theorem keysR_any {w : World} {fr : List Nat} {rb : Nat} {n m : Int} {es : List Ent} (h : BR w fr rb n m es) (hes : EsOk es) :
    Calls Try.prog 17 #[.pointer (some ⟨rb, 0, none⟩)] w (TextsPost w (strs (es.map (·.key)))) := by
  obtain ⟨A, cap, hr, _, hlt, _, _, c2, _⟩ := h.cells
  obtain ⟨L, hL⟩ : ∃ L, es.length = L := ⟨_, rfl⟩
  rw [hL] at c2
  have hll := hes.len
  have HL := Lib.hid hL
  have HB := Lib.hid h
  have hL2 : L ≤ 4097 := by rw [← hL]; exact hll
  have hw0 : Below w.heap.size w w := Below.refl _ _
  have hle : es.length ≤ cap := hr.le
  rw [hL] at hle
  have HR := Lib.hid hr
  clear hL hr h hes hll
  go_enter Try.func17, Try.ntmps17
  go_wp2_with fail
  go_loopw [3, 4] (fun out i wr => ∃ (p q : List Ent), Hid (es = p ++ q) ∧ i = .int .i64 p.length ∧ OwnS w.heap.size out (strs (p.map (·.key))) wr ∧ Below w.heap.size w wr) (fun _ i _ => L - (intV i).toNat)
  case atStart => exact ⟨[], es, Lib.hid rfl, rfl, OwnS.nil _ _, hw0⟩
  case round =>
    obtain ⟨p, q, HE, rfl, hO, hbw⟩ := hrel
    obtain ⟨oa, oc, rfl⟩ := hO.shape
    have c2r : wr.cell? ⟨rb, 2, none⟩ = some (.slice A L cap) := (World.cell?_of_block (a := ⟨rb, 2, none⟩) (hbw.block rb hlt)).trans c2
    have hpq : p.length + q.length = L := by rw [← HL.out, HE.out, List.length_append]
    have hpn : (strs (p.map (·.key))).length = p.length := by unfold strs; rw [List.length_map, List.length_map]
    rcases q with _ | ⟨e, q⟩
    · have hxe : strs (es.map (·.key)) = strs (p.map (·.key)) := by rw [HE.out, List.append_nil]
      obtain ⟨k, hk⟩ : ∃ k, p.length = k := ⟨_, rfl⟩
      rw [hk]
      have hpl : ¬ k < L := by simp at hpq; omega
      clear hpq hk hpn
      go_wp2
      go_ret
      skip
      exact ⟨oa, oc, rfl, hO, hbw⟩
    · rw [List.length_cons] at hpq
      have hpl : p.length < L := by omega
      obtain ⟨g, o, rfl, hg, hc, _⟩ := HR.out.row (by omega)
      have hgl := HR.out.low g hg
      obtain ⟨ek, es', ex⟩ := e
      obtain ⟨y, rfl⟩ : ∃ y : List UInt8, ek = ⟨y.toArray⟩ := ⟨ek.data.toList, (str_back ek).symm⟩
      have d0 : wr.cell? ⟨g, o + p.length * 3, none⟩ = some (.string ⟨y.toArray⟩) := (World.cell?_of_block (a := ⟨g, o + p.length * 3, none⟩) (hbw.block g hgl)).trans (hc _ _ (by rw [HE.out]; exact (onesV_at p _ q).1))
      have hn9 : (strs (p.map (·.key))).length ≤ 1000000000 := by rw [hpn]; omega
      have hst : strs ((p ++ [(⟨⟨y.toArray⟩, es', ex⟩ : Ent)]).map (·.key)) = strs (p.map (·.key)) ++ [y] := by unfold strs; simp
      have hrel2 : es = (p ++ [(⟨⟨y.toArray⟩, es', ex⟩ : Ent)]) ++ q := by rw [HE.out]; simp
      have hpl1 : (p ++ [(⟨⟨y.toArray⟩, es', ex⟩ : Ent)]).length = p.length + 1 := by simp
      obtain ⟨k, hk⟩ : ∃ k, p.length = k := ⟨_, rfl⟩
      rw [hk] at d0 hpl hpl1
      have HST := Lib.hid (And.intro hst (And.intro hrel2 hpl1))
      clear hc hpq hpn hst hrel2 hpl1
      rw [hk]
      clear hk
      have i2 : IntKind.i64.wrap ((k : Int) + 1) = ((k + 1 : Nat) : Int) := by rw [IntKind.wrap_i64]; omega
      go_wp2_with (at_builtin; refine app_str w.heap.size y hO hbw.size hn9 rfl _ _ rfl rfl rfl ?_)
      intro v' w2 hO2 hb2 hfar
      obtain ⟨oa2, oc2, rfl⟩ := hO2.shape
      have hbw2 : Below w.heap.size w w2 := hbw.trans (hb2.mono (Nat.le_refl _))
      go_wp2
      go_roundw
      case rel => exact ⟨_, q, Lib.hid HST.out.2.1, by rw [HST.out.2.2]; rfl, by rw [HST.out.1]; exact hO2, hbw2⟩
      case measure => simp [intV]; omega
end Go.Proofs.Ytheblhgmfkpllaa
