/- Budgets: the walk of the laws' 'do'. -/
import Derived.Test.YtheblhgmfkpllaaBudIQ
import Derived.Test.YtheblhgmfkpllaaBudF
namespace Go.Proofs.Ytheblhgmfkpllaa
open Go.RowKit
set_option maxRecDepth 100000

def ActT : TypeId := 26
def actC (q : Nat) (key : ByteArray) (s x : Int) : Array Value := #[.int .u8 q, .string key, .int .i64 s, .int .i64 x]
theorem act_cells {w : World} {A q : Nat} {key : ByteArray} {s x : Int} (h : w.heap[A]? = some (.cells #[.int .u8 q, .string key, .int .i64 s, .int .i64 x] 26 (0, 0))) :
    w.cell? ⟨A, 0, none⟩ = some (.int .u8 q) ∧ w.cell? ⟨A, 1, none⟩ = some (.string key) ∧ w.cell? ⟨A, 2, none⟩ = some (.int .i64 s) ∧ w.cell? ⟨A, 3, none⟩ = some (.int .i64 x) := by
  refine ⟨?_, ?_, ?_, ?_⟩ <;> simp [World.cell?, h]
theorem lastKey {ls : List (List UInt8)} {B cap : Nat} {a : Option Addr} {w : World} (h : OwnS B (.slice a ls.length cap) ls w) {zs : List (List UInt8)} {y : List UInt8} (hl : ls = zs ++ [y]) :
    ∃ g, a = some ⟨g, 0, none⟩ ∧ w.cell? ⟨g, zs.length, none⟩ = some (.string ⟨y.toArray⟩) ∧ ls.length = zs.length + 1 := by
  subst hl
  have hlen : (zs ++ [y]).length = zs.length + 1 := by simp
  obtain ⟨g, h1, h2, _⟩ := h.cell zs.length (by omega)
  refine ⟨g, h1, ?_, hlen⟩
  rw [h2]
  simp
theorem StI.ofA {w w1 : World} {o : Obj} {fp : List Nat} {bl : Nat} {n m : Int} {es : List Ent} (h : StI (w.alloc o) w1 fp bl n m es) : StI w w1 fp bl n m es := by
  obtain ⟨fp', h1, h2, h3⟩ := h
  refine ⟨fp', h1, ?_, fun b hb => ?_⟩
  · have t0 := (Touch.refl fp w).alloc o
    exact t0.trans h2 (fun b hb => Or.inl hb)
  · rcases h3 b hb with h | h
    · exact Or.inl h
    · rw [alloc_sz] at h; exact Or.inr (by omega)
theorem StI.go {w w1 w2 : World} {fp : List Nat} {bl : Nat} {n m : Int} {es : List Ent} (h : StI w w1 fp bl n m es) (hb : Below w1.heap.size w1 w2) : StI w w2 fp bl n m es := by
  obtain ⟨fp', h1, h2, h3⟩ := h
  exact ⟨fp', h1.below hb, h2.belowR (hb.mono h2.2.2.2.1), h3⟩
set_option maxHeartbeats 16000000 in
theorem do0_q {w : World} {fp : List Nat} {bl : Nat} {n m : Int} {es : List Ent} (h : BQI w fp bl n m es) (q : Nat) (key : ByteArray) (hkey : key.size ≤ maxLen) (s x : Int) (hq : q % 4 = 0) :
    Calls Try.prog 8 #[.pointer (some ⟨bl, 0, none⟩), .agg #[.int .u8 q, .string key, .int .i64 s, .int .i64 x], .int .i64 m] w fun e w' => e = .returned (.bool true) ∧ StI w w' fp bl n m (putE n m key s (.int .i64 x) es).2 := by
  have hal := (Below.refl w.heap.size w).alloc (Nat.le_refl _) (.cells #[.int .u8 q, .string key, .int .i64 s, .int .i64 x] 26 (0, 0))
  have hA := heap_alloc_last w (.cells #[.int .u8 q, .string key, .int .i64 s, .int .i64 x] 26 (0, 0))
  have hq0 := h.below hal
  have k1 := putI_q hq0 key hkey s x
  have hlow := h.low
  obtain ⟨c0, c1, c2, c3⟩ := act_cells hA
  have hqq : ((q : Int) % 4) = 0 := by omega
  have hends := h.ends
  have hfin : (m < s ∧ findE key (putE n m key s (.int .i64 x) es).2 = none) ∨ (¬ m < s ∧ ∃ zs, (putE n m key s (.int .i64 x) es).2 = zs ++ [⟨key, max 0 s, .int .i64 x⟩] ∧ findE key (putE n m key s (.int .i64 x) es).2 = some ⟨key, max 0 s, .int .i64 x⟩) := by
    by_cases hs : m < s
    · exact Or.inl ⟨hs, put_away (n := n) key s (.int .i64 x) es hs⟩
    · exact Or.inr ⟨hs, put_there hends.2.2.2.2.2.1 hends.2.2.2.2.2.2 key s (.int .i64 x) es hs⟩
  generalize putE n m key s (.int .i64 x) es = R at *
  have K1 := Lib.hid k1; have HA := Lib.hid hA; have HL := Lib.hid hlow; have HF := Lib.hid hfin
  have hAl : w.heap.size < (w.alloc (.cells #[.int .u8 q, .string key, .int .i64 s, .int .i64 x] 26 (0, 0))).heap.size := by rw [alloc_sz]; omega
  have HAL := Lib.hid hAl
  clear k1 hA hlow hq0 h hal hends hfin hAl
  go_enter Try.func8, Try.ntmps8
  go_wp2_with fail
  (with_reducible refine K1.out.mono ?_)
  rintro y w1 ⟨a1, cap1, fp1, rfl, hO1, hq1, ht1, hf1, hg1⟩
  have hA1 := (ht1.2.2.2.2 w.heap.size HAL.out (fun hx => Nat.lt_irrefl _ (HL.out _ hx))).trans HA.out
  have hst : StI w w1 fp bl n m R.2 := StI.ofA ⟨fp1, hq1, ht1, hf1⟩
  have hlt1 : w.heap.size < w1.heap.size := Nat.lt_of_lt_of_le HAL.out ht1.2.2.2.1
  have k2 := keysI_q hq1
  have K2 := Lib.hid k2
  have HST := Lib.hid hst
  have HQ1 := Lib.hid hq1
  clear k2 ht1 hf1 hg1 hO1 hst c0 c1 c2 c3 hq1
  go_wp2_with fail
  (with_reducible refine K2.out.mono ?_)
  rintro y w2 ⟨a2, cap2, rfl, hO2, hb2⟩
  have hA2 := (hb2.block _ hlt1).trans hA1
  obtain ⟨c0, c1, c2, c3⟩ := act_cells hA2
  have hst2 := HST.out.go hb2
  have hen := HQ1.out.ends
  have k3 := peekI_q (HQ1.out.below hb2) key hkey
  rcases HF.out with ⟨hs, hf⟩ | ⟨hs, zs, hz, hf⟩
  · unfold hasE at k3
    rw [hf] at k3
    have t1 : decide (s > m) = true := by simpa using hs
    have K3 := Lib.hid k3
    have HS2 := Lib.hid hst2
    clear k3 hst2 hA1 hA2 hb2 hO2
    go_wp2_with fail
    (with_reducible refine K3.out.mono ?_)
    rintro y w3 ⟨rfl, rfl⟩
    go_wp2
    go_ret
    exact ⟨rfl, HS2.out⟩
  · unfold hasE valE at k3
    rw [hf] at k3
    simp only [Option.isSome_some] at k3
    have hl : strs (R.2.map (·.key)) = strs (zs.map (·.key)) ++ [key.data.toList] := by rw [hz]; unfold strs; simp
    obtain ⟨g, rfl, hgc, hlen⟩ := lastKey hO2 hl
    rw [str_back] at hgc
    have hzl : (strs (zs.map (·.key))).length ≤ 4096 := by
      have e1 : (strs (zs.map (·.key))).length = zs.length := by unfold strs; rw [List.length_map, List.length_map]
      rw [e1]
      rw [hz] at hen
      simp only [List.length_append, List.length_singleton] at hen
      omega
    rw [hlen]
    generalize (strs (zs.map (·.key))).length = N at *
    have t1 : decide (s > m) = false := by simpa using hs
    have w1' : IntKind.i64.wrap (N : Int) = N := by rw [IntKind.wrap_i64]; omega
    have K3 := Lib.hid k3
    have HS2 := Lib.hid hst2
    clear k3 hst2 hA1 hA2 hb2 hO2 hlen hl hz hf hen HF K2 K1 HST HQ1
    go_wp2_with fail
    (with_reducible refine K3.out.mono ?_)
    rintro y w3 ⟨rfl, rfl⟩
    go_wp2
    go_region
    go_wp2
    go_ret
    exact ⟨rfl, HS2.out.go (Below.refl _ _).drew⟩
set_option maxHeartbeats 16000000 in
theorem do1_q {w : World} {fp : List Nat} {bl : Nat} {n m : Int} {es : List Ent} (h : BQI w fp bl n m es) (q : Nat) (key : ByteArray) (hkey : key.size ≤ maxLen) (s x : Int) (hq : q % 4 = 1) :
    Calls Try.prog 8 #[.pointer (some ⟨bl, 0, none⟩), .agg #[.int .u8 q, .string key, .int .i64 s, .int .i64 x], .int .i64 m] w fun e w' => e = .returned (.bool true) ∧ StI w w' fp bl n m (getE key es) := by
  have hal := (Below.refl w.heap.size w).alloc (Nat.le_refl _) (.cells #[.int .u8 q, .string key, .int .i64 s, .int .i64 x] 26 (0, 0))
  have hA := heap_alloc_last w (.cells #[.int .u8 q, .string key, .int .i64 s, .int .i64 x] 26 (0, 0))
  have hq0 := h.below hal
  have hlow := h.low
  obtain ⟨c0, c1, c2, c3⟩ := act_cells hA
  have k1 := getI_q hq0 key hkey
  have hqq : ((q : Int) % 4) = 1 := by omega
  have hends := h.ends
  have hfin : hasE key es = false ∨ (hasE key es = true ∧ ∃ zs e, getE key es = zs ++ [e] ∧ e.key = key) := by
    cases hh : hasE key es
    · exact Or.inl rfl
    · exact Or.inr ⟨rfl, get_there key es hh⟩
  have hzn : ∃ v, valE zeI.x key es = v := ⟨_, rfl⟩
  generalize getE key es = R at *
  generalize hasE key es = hv at *
  generalize valE zeI.x key es = vv at *
  have K1 := Lib.hid k1; have HA := Lib.hid hA; have HL := Lib.hid hlow; have HF := Lib.hid hfin
  have hAl : w.heap.size < (w.alloc (.cells #[.int .u8 q, .string key, .int .i64 s, .int .i64 x] 26 (0, 0))).heap.size := by rw [alloc_sz]; omega
  have HAL := Lib.hid hAl
  clear k1 hA hlow hq0 h hal hends hfin hAl hzn
  go_enter Try.func8, Try.ntmps8
  go_wp2_with fail
  (with_reducible refine K1.out.mono ?_)
  rintro y w1 ⟨rfl, fp1, hq1, ht1, hf1⟩
  have hA1 := (ht1.2.2.2.2 w.heap.size HAL.out (fun hx => Nat.lt_irrefl _ (HL.out _ hx))).trans HA.out
  have hst : StI w w1 fp bl n m R := StI.ofA ⟨fp1, hq1, ht1, hf1⟩
  have hlt1 : w.heap.size < w1.heap.size := Nat.lt_of_lt_of_le HAL.out ht1.2.2.2.1
  have k2 := keysI_q hq1
  have K2 := Lib.hid k2
  have HST := Lib.hid hst
  have HQ1 := Lib.hid hq1
  clear k2 ht1 hf1 hst c0 c1 c2 c3 hq1
  go_wp2_with fail
  (with_reducible refine K2.out.mono ?_)
  rintro y w2 ⟨a2, cap2, rfl, hO2, hb2⟩
  have hA2 := (hb2.block _ hlt1).trans hA1
  obtain ⟨c0, c1, c2, c3⟩ := act_cells hA2
  have hst2 := HST.out.go hb2
  have hen := HQ1.out.ends
  rcases HF.out with rfl | ⟨rfl, zs, e, hz, hek⟩
  · have HS2 := Lib.hid hst2
    clear hst2 hA1 hA2 hb2 hO2
    go_wp2
    go_region
    go_wp2
    go_ret
    exact ⟨rfl, HS2.out.go (Below.refl _ _).drew⟩
  · have hl : strs (R.map (·.key)) = strs (zs.map (·.key)) ++ [key.data.toList] := by rw [hz]; unfold strs; simp [hek]
    obtain ⟨g, rfl, hgc, hlen⟩ := lastKey hO2 hl
    rw [str_back] at hgc
    have hzl : (strs (zs.map (·.key))).length ≤ 4096 := by
      have e1 : (strs (zs.map (·.key))).length = zs.length := by unfold strs; rw [List.length_map, List.length_map]
      rw [e1]
      rw [hz] at hen
      simp only [List.length_append, List.length_singleton] at hen
      omega
    rw [hlen]
    generalize (strs (zs.map (·.key))).length = N at *
    have w1' : IntKind.i64.wrap (N : Int) = N := by rw [IntKind.wrap_i64]; omega
    have HS2 := Lib.hid hst2
    clear hst2 hA1 hA2 hb2 hO2 hlen hl hz hek hen HF K2 K1 HST HQ1
    go_wp2
    go_region
    go_wp2
    go_ret
    exact ⟨rfl, HS2.out.go (Below.refl _ _).drew⟩
set_option maxHeartbeats 16000000 in
theorem do2_q {w : World} {fp : List Nat} {bl : Nat} {n m : Int} {es : List Ent} (h : BQI w fp bl n m es) (q : Nat) (key : ByteArray) (hkey : key.size ≤ maxLen) (s x : Int) (hq : q % 4 = 2) :
    Calls Try.prog 8 #[.pointer (some ⟨bl, 0, none⟩), .agg #[.int .u8 q, .string key, .int .i64 s, .int .i64 x], .int .i64 m] w fun e w' => e = .returned (.bool true) ∧ StI w w' fp bl n m es := by
  have hal := (Below.refl w.heap.size w).alloc (Nat.le_refl _) (.cells #[.int .u8 q, .string key, .int .i64 s, .int .i64 x] 26 (0, 0))
  have hA := heap_alloc_last w (.cells #[.int .u8 q, .string key, .int .i64 s, .int .i64 x] 26 (0, 0))
  have hq0 := h.below hal
  have hlow := h.low
  obtain ⟨c0, c1, c2, c3⟩ := act_cells hA
  have k1 := peekI_q hq0 key hkey
  have hqq : ((q : Int) % 4) = 2 := by omega
  have hst := (StI.same h).go hal
  generalize hasE key es = hv at *
  generalize valE zeI.x key es = vv at *
  have K1 := Lib.hid k1; have HST := Lib.hid hst
  clear k1 hA hlow hq0 h hal hst
  go_enter Try.func8, Try.ntmps8
  go_wp2_with fail
  (with_reducible refine K1.out.mono ?_)
  rintro y w1 ⟨rfl, rfl⟩
  go_wp2
  go_ret
  exact ⟨rfl, HST.out⟩
set_option maxHeartbeats 16000000 in
theorem do3_q {w : World} {fp : List Nat} {bl : Nat} {n m : Int} {es : List Ent} (h : BQI w fp bl n m es) (q : Nat) (key : ByteArray) (hkey : key.size ≤ maxLen) (s x : Int) (hq : q % 4 = 3) :
    Calls Try.prog 8 #[.pointer (some ⟨bl, 0, none⟩), .agg #[.int .u8 q, .string key, .int .i64 s, .int .i64 x], .int .i64 m] w fun e w' => e = .returned (.bool true) ∧ StI w w' fp bl n m (delE key es) := by
  have hal := (Below.refl w.heap.size w).alloc (Nat.le_refl _) (.cells #[.int .u8 q, .string key, .int .i64 s, .int .i64 x] 26 (0, 0))
  have hA := heap_alloc_last w (.cells #[.int .u8 q, .string key, .int .i64 s, .int .i64 x] 26 (0, 0))
  have hq0 := h.below hal
  have hlow := h.low
  obtain ⟨c0, c1, c2, c3⟩ := act_cells hA
  have k1 := dropI_q hq0 key hkey
  have hqq : ((q : Int) % 4) = 3 := by omega
  have hfd := find_del key es
  generalize hasE key es = hv at *
  generalize delE key es = R at *
  have K1 := Lib.hid k1; have HA := Lib.hid hA; have HL := Lib.hid hlow; have HF := Lib.hid hfd
  have hAl : w.heap.size < (w.alloc (.cells #[.int .u8 q, .string key, .int .i64 s, .int .i64 x] 26 (0, 0))).heap.size := by rw [alloc_sz]; omega
  have HAL := Lib.hid hAl
  clear k1 hA hlow hq0 h hal hfd hAl
  go_enter Try.func8, Try.ntmps8
  go_wp2_with fail
  (with_reducible refine K1.out.mono ?_)
  rintro y w1 ⟨rfl, fp1, hq1, ht1, hf1⟩
  have hA1 := (ht1.2.2.2.2 w.heap.size HAL.out (fun hx => Nat.lt_irrefl _ (HL.out _ hx))).trans HA.out
  have hst : StI w w1 fp bl n m R := StI.ofA ⟨fp1, hq1, ht1, hf1⟩
  have k2 := peekI_q hq1 key hkey
  unfold hasE valE at k2
  rw [HF.out] at k2
  clear c0 c1 c2 c3
  obtain ⟨c0, c1, c2, c3⟩ := act_cells hA1
  have K2 := Lib.hid k2
  have HST := Lib.hid hst
  clear k2 ht1 hf1 hst hq1
  go_wp2_with fail
  (with_reducible refine K2.out.mono ?_)
  rintro y w2 ⟨rfl, rfl⟩
  go_wp2
  go_ret
  exact ⟨rfl, HST.out⟩
theorem do_q {w : World} {fp : List Nat} {bl : Nat} {n m : Int} {es : List Ent} (h : BQI w fp bl n m es) (q : Nat) (key : ByteArray) (hkey : key.size ≤ maxLen) (s x : Int) :
    Calls Try.prog 8 #[.pointer (some ⟨bl, 0, none⟩), .agg #[.int .u8 q, .string key, .int .i64 s, .int .i64 x], .int .i64 m] w fun e w' => e = .returned (.bool true) ∧ StI w w' fp bl n m (doE n m (q % 4) key s (.int .i64 x) es) := by
  have h4 : q % 4 < 4 := Nat.mod_lt _ (by decide)
  by_cases h0 : q % 4 = 0
  · rw [h0]; exact do0_q h q key hkey s x h0
  by_cases h1 : q % 4 = 1
  · rw [h1]; exact do1_q h q key hkey s x h1
  by_cases h2 : q % 4 = 2
  · rw [h2]; exact do2_q h q key hkey s x h2
  have h3 : q % 4 = 3 := by omega
  rw [h3]; exact do3_q h q key hkey s x h3
end Go.Proofs.Ytheblhgmfkpllaa
