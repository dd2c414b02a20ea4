/- The walk of the document's Say (layer 11). -/
import Derived.Test.YtfoabdpfadgafaaDoorSaid
import Derived.Test.YtfoabdpfadgafaaDoorRTok
import Derived.Test.YtfoabdpfadgafaaDoorRLow
import Derived.Test.YtfoabdpfadgafaaDoorQuoteR
import Derived.Test.YtfoabdpfadgafaaDoorStaysSpec
import Derived.Laws.ResultCell
import Derived.Deep.RegionHeld3
namespace Go.Proofs.YtfoabdpfadgafaaDoor
open Go.RowKit
set_option maxRecDepth 100000

theorem occ1c (l : List UInt8) (c : UInt8) (i : Nat) : Lib.occAt l [c] i = (l[i]? == some c) := by
  have e0 : l[i]? = (l.drop i)[0]? := by rw [List.getElem?_drop]; rfl
  unfold Lib.occAt
  rw [e0]
  generalize l.drop i = d
  cases d with
  | nil => rfl
  | cons x r =>
    simp [List.isPrefixOf]
    rw [Bool.eq_iff_iff]; simp; exact eq_comm
theorem cutc_hit (s : ByteArray) (c : UInt8) (k : Nat) (hk : k < s.size) (h : s[k] = c) (hno : ∀ j (hj : j < s.size), j < k → s[j] ≠ c) : Lib.cut s.data.toList [c] = (s.data.toList.take k, s.data.toList.drop (k + 1), true) := by
  have at_o : ∀ j (h : j < s.size), s.data.toList[j]? = some s[j] := fun j h => by rw [at_list s j h]; simp
  have hi : Lib.index s.data.toList [c] = k := by
    refine Lib.index_first (by rw [← Lib.size_eq]; omega) (by rw [occ1c, at_o k hk, h]; simp) (fun j hj => ?_)
    rw [occ1c, at_o j (by omega), beq_eq_false_iff_ne]
    intro e; exact hno j (by omega) hj (by injection e)
  unfold Lib.cut
  rw [hi, if_pos (by omega)]
  simp
theorem cutc_miss (s : ByteArray) (c : UInt8) (hno : ∀ j (hj : j < s.size), s[j] ≠ c) : Lib.cut s.data.toList [c] = (s.data.toList, [], false) := by
  have at_o : ∀ j (h : j < s.size), s.data.toList[j]? = some s[j] := fun j h => by rw [at_list s j h]; simp
  have hi : Lib.index s.data.toList [c] = -1 := by
    refine Lib.index_none (fun j hj => ?_)
    rw [occ1c]
    by_cases hl : j < s.size
    · rw [at_o j hl, beq_eq_false_iff_ne]
      intro e; exact hno j hl (by injection e)
    · rw [List.getElem?_eq_none (by rw [← Lib.size_eq]; omega)]; rfl
  unfold Lib.cut
  rw [hi, if_neg (by omega)]
theorem word_61 {c : UInt8} (h : wordb c = true) : c ≠ 61 := by rintro rfl; exact absurd h (by decide)
/-- A token says itself. -/
theorem said_token {s : ByteArray} (h : tokenL s.data.toList = true) : saidO s.data.toList = some ⟨lowerL s.data.toList, [], false, []⟩ := by
  have hc := cutc_miss s 61 (fun j hj => word_61 ((token_all h).1 _ (by rw [at_list s j hj]; exact List.getElem_mem _)))
  unfold saidO
  rw [hc, h]; rfl
theorem said_none {s : ByteArray} (h : tokenL s.data.toList = false) (hno : ∀ j (hj : j < s.size), s[j] ≠ 61) : saidO s.data.toList = none := by
  unfold saidO
  rw [cutc_miss s 61 hno, h]; rfl
theorem said_hit (s : ByteArray) (k : Nat) (hk : k < s.size) (h : s[k] = 61) (hno : ∀ j (hj : j < s.size), j < k → s[j] ≠ 61) : saidO s.data.toList = bif !tokenL (s.data.toList.take k) then none else bif !tokenL (s.data.toList.drop (k + 1)) then (unqP (s.data.toList.drop (k + 1))).map fun x => ⟨lowerL (s.data.toList.take k), x, true, []⟩ else some ⟨lowerL (s.data.toList.take k), s.data.toList.drop (k + 1), true, []⟩ := by
  unfold saidO
  rw [cutc_hit s 61 k hk h hno]
  rfl
/-- Behind the first sign there is no token ahead of a sign. -/
theorem token_behind (s : ByteArray) (k j : Nat) (hj : j < s.size) (hjk : j < k) (h : s[j] = 61) : tokenL (s.data.toList.take k) = false := by
  cases ht : tokenL (s.data.toList.take k)
  · rfl
  · exfalso
    have hl := Lib.size_eq s
    refine word_61 ((token_all ht).1 61 ?_) rfl
    rw [List.mem_take_iff_getElem]
    exact ⟨j, by omega, by rw [← at_list s j hj]; exact h⟩

structure At4 (W : World) (a : Nat) (v0 v1 v2 v3 : Value) : Prop where
  c0 : W.cell? ⟨a, 0, none⟩ = some v0
  c1 : W.cell? ⟨a, 1, none⟩ = some v1
  c2 : W.cell? ⟨a, 2, none⟩ = some v2
  c3 : W.cell? ⟨a, 3, none⟩ = some v3
  f0 : W.frozen? ⟨a, 0, none⟩ = false
  f1 : W.frozen? ⟨a, 1, none⟩ = false
  f2 : W.frozen? ⟨a, 2, none⟩ = false
  f3 : W.frozen? ⟨a, 3, none⟩ = false
  lt : a < W.heap.size
theorem at4_alloc (w : World) (v0 v1 v2 v3 : Value) (T : TypeId) : At4 (w.alloc (.cells #[v0, v1, v2, v3] T)) w.heap.size v0 v1 v2 v3 :=
  ⟨World.cell?_alloc_mark w _ _ _ 0, World.cell?_alloc_mark w _ _ _ 1, World.cell?_alloc_mark w _ _ _ 2, World.cell?_alloc_mark w _ _ _ 3, World.frozen?_alloc_at _ _ _ _ rfl, World.frozen?_alloc_at _ _ _ _ rfl, World.frozen?_alloc_at _ _ _ _ rfl, World.frozen?_alloc_at _ _ _ _ rfl, by simp⟩
theorem at4_set {w : World} {a : Nat} {u0 u1 u2 u3 : Value} (v0 v1 v2 v3 : Value) (c0 : w.cell? ⟨a, 0, none⟩ = some u0) (c1 : w.cell? ⟨a, 1, none⟩ = some u1) (c2 : w.cell? ⟨a, 2, none⟩ = some u2) (c3 : w.cell? ⟨a, 3, none⟩ = some u3) (f0 : w.frozen? ⟨a, 0, none⟩ = false) (f1 : w.frozen? ⟨a, 1, none⟩ = false) (f2 : w.frozen? ⟨a, 2, none⟩ = false) (f3 : w.frozen? ⟨a, 3, none⟩ = false) (lt : a < w.heap.size) :
    At4 ((((w.setCell ⟨a, 0, none⟩ v0).setCell ⟨a, 1, none⟩ v1).setCell ⟨a, 2, none⟩ v2).setCell ⟨a, 3, none⟩ v3) a v0 v1 v2 v3 := by
  constructor <;> go_simp

theorem new4_kept {w w2 : World} {cs : Array Value} {T : TypeId} (h : Below (w.alloc (.cells cs T)).drew.heap.size (w.alloc (.cells cs T)).drew w2) : w2.cell? ⟨w.heap.size, 0, none⟩ = cs[0]? ∧ w2.cell? ⟨w.heap.size, 1, none⟩ = cs[1]? ∧ w2.cell? ⟨w.heap.size, 2, none⟩ = cs[2]? ∧ w2.cell? ⟨w.heap.size, 3, none⟩ = cs[3]? ∧ w2.frozen? ⟨w.heap.size, 0, none⟩ = false ∧ w2.frozen? ⟨w.heap.size, 1, none⟩ = false ∧ w2.frozen? ⟨w.heap.size, 2, none⟩ = false ∧ w2.frozen? ⟨w.heap.size, 3, none⟩ = false ∧ w.heap.size < w2.heap.size := by
  have hz : w.heap.size < (w.alloc (.cells cs T)).drew.heap.size := by simp
  have c : ∀ j, w2.cell? ⟨w.heap.size, j, none⟩ = cs[j]? := fun j => (h.cell (p := ⟨w.heap.size, j, none⟩) hz).trans ((World.cell?_drew _ _).trans (World.cell?_alloc_mark w _ _ _ j))
  have f : ∀ j, w2.frozen? ⟨w.heap.size, j, none⟩ = false := fun j => (h.frozen (p := ⟨w.heap.size, j, none⟩) hz).trans ((World.frozen?_drew _ _).trans (World.frozen?_alloc_at _ _ _ _ rfl))
  exact ⟨c 0, c 1, c 2, c 3, f 0, f 1, f 2, f 3, Nat.lt_of_lt_of_le hz h.size⟩

set_option maxHeartbeats 16000000 in
theorem rsay_any (s : ByteArray) (w : World) (hs : s.size ≤ 1000000) :
    Calls Tryd.prog 39 #[.string s] w fun e w' => e = .returned (saidV (saidO s.data.toList)) ∧ Below w.heap.size w w' := by
  obtain ⟨W0, hW0⟩ : ∃ W0, w.alloc (.cells #[.string ⟨#[]⟩, .string ⟨#[]⟩, .bool false, .string ⟨#[]⟩] 29) = W0 := ⟨_, rfl⟩
  have hB0 : Below w.heap.size w W0 := by rw [← hW0]; exact (Below.refl w.heap.size w).alloc (Nat.le_refl _) _
  have z0 : w.heap.size < W0.heap.size := by rw [← hW0]; simp
  have hc : ∀ j, W0.cell? ⟨w.heap.size, j, none⟩ = #[Value.string ⟨#[]⟩, .string ⟨#[]⟩, .bool false, .string ⟨#[]⟩][j]? := fun j => by rw [← hW0]; exact World.cell?_alloc_mark w _ _ _ j
  have hf : ∀ j, W0.frozen? ⟨w.heap.size, j, none⟩ = false := fun j => by rw [← hW0]; exact World.frozen?_alloc_at _ _ _ _ rfl
  have kc : ∀ w', Below W0.heap.size W0 w' → Below w.heap.size w w' ∧ w'.cell? ⟨w.heap.size, 0, none⟩ = some (.string ⟨#[]⟩) ∧ w'.cell? ⟨w.heap.size, 1, none⟩ = some (.string ⟨#[]⟩) ∧ w'.cell? ⟨w.heap.size, 2, none⟩ = some (.bool false) ∧ w'.cell? ⟨w.heap.size, 3, none⟩ = some (.string ⟨#[]⟩) ∧ w'.frozen? ⟨w.heap.size, 0, none⟩ = false ∧ w'.frozen? ⟨w.heap.size, 1, none⟩ = false ∧ w'.frozen? ⟨w.heap.size, 2, none⟩ = false ∧ w'.frozen? ⟨w.heap.size, 3, none⟩ = false ∧ w.heap.size < w'.heap.size :=
    fun w' h => ⟨hB0.trans (h.mono hB0.size), (h.cell (p := ⟨w.heap.size, 0, none⟩) z0).trans (hc 0), (h.cell (p := ⟨w.heap.size, 1, none⟩) z0).trans (hc 1), (h.cell (p := ⟨w.heap.size, 2, none⟩) z0).trans (hc 2), (h.cell (p := ⟨w.heap.size, 3, none⟩) z0).trans (hc 3), (h.frozen (p := ⟨w.heap.size, 0, none⟩) z0).trans (hf 0), (h.frozen (p := ⟨w.heap.size, 1, none⟩) z0).trans (hf 1), (h.frozen (p := ⟨w.heap.size, 2, none⟩) z0).trans (hf 2), (h.frozen (p := ⟨w.heap.size, 3, none⟩) z0).trans (hf 3), Nat.lt_of_lt_of_le z0 h.size⟩
  have k1 := fun w => rtoken_any s w hs
  have k2 := fun w => rlower_any s w hs
  have hST := @said_token s; have hSN := @said_none s; have hSH := said_hit s; have hTB := token_behind s
  have KC := Lib.hid kc; have HW0 := Lib.hid hW0
  clear kc hc hf hW0
  cases htk : tokenL s.data.toList
  · rw [htk] at k1
    have hN := fun h => hSN htk h
    generalize saidO s.data.toList = out at *
    have HV : Hid (∃ u, saidV out = u) := Lib.hid ⟨_, rfl⟩
    have K1 := Lib.hid k1; have HN := Lib.hid hN; have HSH := Lib.hid hSH; have HTB := Lib.hid hTB
    clear k1 k2 hN hSN hST hSH hTB htk
    have hb00 := Below.refl W0.heap.size W0
    go_enter Tryd.func39, Tryd.ntmps39
    go_wp2_with fail
    rw [HW0.out]
    refine (K1.out _).mono ?_
    rintro e w1 ⟨rfl, rfl⟩
    go_wp2_with fail
    go_loopw [4] (fun i wr => ∃ k : Nat, k ≤ s.size ∧ i = .int .i64 k ∧ Hid ((∀ j (hj : j < s.size), j < k → s[j] ≠ 61) ∨ (out = none ∧ ∃ j, ∃ hj : j < s.size, j < k ∧ s[j] = 61)) ∧ Below W0.heap.size W0 wr) (fun i _ => s.size - (intOf i).toNat)
    case atStart => exact ⟨0, Nat.zero_le _, rfl, Lib.hid (Or.inl (fun j _ h => absurd h (by omega))), hb00⟩
    case round =>
      obtain ⟨k, hk, rfl, HP, hbr⟩ := hrel
      by_cases hlt : k < s.size
      · cases hq : ((s[k].toNat : Int) != 61)
        · have h61 : s[k] = 61 := by
            simp at hq; rw [← UInt8.toNat_inj]; simp; omega
          have kt := fun w => rtoken_any (s.extract 0 k) w (by rw [ByteArray.size_extract]; omega)
          have hnx : (s.extract 0 k).data.toList = s.data.toList.take k := by rw [Lib.extract_data]; simp
          rw [hnx] at kt
          cases htk2 : tokenL (s.data.toList.take k)
          · rw [htk2] at kt
            have ho : out = none := by
              rcases HP.out with h | ⟨h, _⟩
              · rw [HSH.out k hlt h61 h, htk2]; rfl
              · exact h
            have hn : (∀ j (hj : j < s.size), j < k + 1 → s[j] ≠ 61) ∨ (out = none ∧ ∃ j, ∃ hj : j < s.size, j < k + 1 ∧ s[j] = 61) := Or.inr ⟨ho, k, hlt, by omega, h61⟩
            have HP2 := Lib.hid hn; have KT := Lib.hid kt
            clear hn kt ho htk2 hnx HP h61 HSH HTB HN K1 HW0
            go_wp2_with fail
            refine (KT.out _).mono ?_
            rintro e w3 ⟨rfl, rfl⟩
            go_wp2_with fail
            go_roundw
            case rel => exact ⟨k + 1, by omega, by go_num, HP2, hbr⟩
            case measure => simp [intOf]; omega
          · rw [htk2] at kt
            have hfirst : ∀ j (hj : j < s.size), j < k → s[j] ≠ 61 := by
              intro j hj hjk e
              have := HTB.out k j hj hjk e
              rw [htk2] at this; cases this
            have ho := HSH.out k hlt h61 hfirst
            rw [htk2] at ho
            have kt2 := fun w => rtoken_any (s.extract (k + 1) s.size) w (by rw [ByteArray.size_extract]; omega)
            have ku := fun w => runquote_any (s.extract (k + 1) s.size) w (by rw [ByteArray.size_extract]; omega)
            have kl := fun w => rlower_any (s.extract 0 k) w (by rw [ByteArray.size_extract]; omega)
            have hex : (s.extract (k + 1) s.size).data.toList = s.data.toList.drop (k + 1) := by
              rw [Lib.extract_data, List.take_of_length_le (by rw [List.length_drop, ← Lib.size_eq]; exact Nat.le_refl _)]
            rw [hnx] at kl
            rw [hex, ← unqP_eq] at ku
            rw [hex] at kt2
            have hvb : (⟨(s.data.toList.drop (k + 1)).toArray⟩ : ByteArray) = s.extract (k + 1) s.size := by apply str_eq; rw [hex]
            simp only [Bool.not_true, cond_false] at ho
            have hV : saidV out = bif !tokenL (s.data.toList.drop (k + 1)) then (match unqP (s.data.toList.drop (k + 1)) with | none => .tuple #[.agg #[.string ⟨#[]⟩, .string ⟨#[]⟩, .bool false, .string ⟨#[]⟩], .bool false] | some x => .tuple #[.agg #[.string ⟨(lowerL (s.data.toList.take k)).toArray⟩, .string ⟨x.toArray⟩, .bool true, .string ⟨#[]⟩], .bool true]) else .tuple #[.agg #[.string ⟨(lowerL (s.data.toList.take k)).toArray⟩, .string (s.extract (k + 1) s.size), .bool true, .string ⟨#[]⟩], .bool true] := by
              rw [ho, ← hvb]
              cases tokenL (s.data.toList.drop (k + 1)) <;> simp only [Bool.not_true, Bool.not_false, cond_true, cond_false, saidV]
              cases unqP (s.data.toList.drop (k + 1)) <;> rfl
            have hN0 : tokenL (s.data.toList.drop (k + 1)) = false → unqP (s.data.toList.drop (k + 1)) = none → out = none := by
              intro h1 h2; rw [ho, h1, h2]; rfl
            clear ho hvb hnx htk2 hfirst HP HSH HTB HN K1 HW0 hex
            obtain ⟨ln, hln⟩ : ∃ ln : ByteArray, ⟨(lowerL (s.data.toList.take k)).toArray⟩ = ln := ⟨_, rfl⟩
            rw [hln] at kl hV
            clear hln
            have e1 : ((k : Int) == (s.size : Int)) = false := by simp; omega
            generalize tokenL (s.data.toList.drop (k + 1)) = tv at *
            generalize unqP (s.data.toList.drop (k + 1)) = uq at *
            have KT := Lib.hid kt; have KL := Lib.hid kl; have KT2 := Lib.hid kt2; have KU := Lib.hid ku; have HV2 := Lib.hid hV; have HN0 := Lib.hid hN0
            clear kt kl kt2 ku hV hN0 HV
            go_wp2_with fail
            refine (KT.out _).mono ?_
            rintro e w3 ⟨rfl, rfl⟩
            go_wp2_with fail
            have j1 : IntKind.i64.wrap ((k : Int) + 1) = (k : Int) + 1 := IntWalk.i64_in _ (by omega)
            have j2 : (0 : Int) ≤ (k : Int) := by omega
            have j3 : (k : Int) ≤ (s.size : Int) := by omega
            have j4 : (0 : Int) ≤ (k : Int) + 1 := by omega
            have j5 : (k : Int) + 1 ≤ (s.size : Int) := by omega
            have j6 : ((k : Int) + 1).toNat = k + 1 := by omega
            have hbr0 := Below.refl wr.heap.size wr
            go_region_held3 (fun w' => Below wr.heap.size wr w') (first | exact hbr0 | exact hbr0.drew | assumption | (repeat' (first | exact hbr0 | assumption | (with_reducible refine Below.drew ?_) | (with_reducible refine Below.alloc ?_ (by first | exact Below.size ‹_› | (simp <;> omega)) _) | (with_reducible refine Below.setCell ?_ (by simp <;> omega) _)))) (first | (go_at_call 70; have gb := ‹Below wr.heap.size wr _›; refine (KL.out _).mono ?_; rintro e w2 ⟨rfl, h2⟩; have hb2 := bt gb h2; first | (have q4 := new4_kept h2; obtain ⟨c0, c1, c2, c3, f0, f1, f2, f3, cz⟩ := q4) | skip) | fail)
            all_goals
              first
              | (have hx := at4_set (.string ln) (.string (s.extract (k + 1) s.size)) (.bool true) (.string ⟨#[]⟩) c0 c1 c2 c3 f0 f1 f2 f3 cz
                 have hBx := (((hb2.setCell (p := ⟨wr.heap.size, 0, none⟩) (Nat.le_refl _) (.string ln)).setCell (p := ⟨wr.heap.size, 1, none⟩) (Nat.le_refl _) (.string (s.extract (k + 1) s.size))).setCell (p := ⟨wr.heap.size, 2, none⟩) (Nat.le_refl _) (.bool true)).setCell (p := ⟨wr.heap.size, 3, none⟩) (Nat.le_refl _) (.string ⟨#[]⟩)
                 have ha : W0.heap.size ≤ wr.heap.size := hbr.size
                 clear c0 c1 c2 c3 f0 f1 f2 f3 cz h2 hb2 gb
                 generalize ((((w2.setCell ⟨wr.heap.size, 0, none⟩ (.string ln)).setCell ⟨wr.heap.size, 1, none⟩ (.string (s.extract (k + 1) s.size))).setCell ⟨wr.heap.size, 2, none⟩ (.bool true)).setCell ⟨wr.heap.size, 3, none⟩ (.string ⟨#[]⟩)) = WX at *
                 have hBW := bt hbr hBx
                 clear hBx hbr0
                 generalize wr.heap.size = a at *)
              | (have hx := at4_alloc w2 (.string ln) (.string (s.extract (k + 1) s.size)) (.bool true) (.string ⟨#[]⟩) 29
                 have hBx := hb2.alloc hb2.size (.cells #[.string ln, .string (s.extract (k + 1) s.size), .bool true, .string ⟨#[]⟩] 29)
                 have ha : W0.heap.size ≤ w2.heap.size := Nat.le_trans hbr.size hb2.size
                 clear h2 hb2 gb
                 generalize (w2.alloc (.cells #[.string ln, .string (s.extract (k + 1) s.size), .bool true, .string ⟨#[]⟩] 29)) = WX at *
                 have hBW := bt hbr hBx
                 clear hBx hbr0
                 generalize w2.heap.size = a at *)
              | fail
              obtain ⟨x0, x1, x2, x3, y0, y1, y2, y3, xz⟩ := hx
              obtain ⟨hBw, g0, g1, g2, g3, q0, q1, q2, q3, glt⟩ := KC.out _ hBW
              have hv := HV2.out
              have hne : w.heap.size ≠ a := by omega
              cases tv
              · simp only [Bool.not_false, cond_true] at hv
                cases uq with
                | none =>
                  have HO := HN0.out rfl rfl
                  have K6 : Hid (∀ w, Calls Tryd.prog 71 #[.string (s.extract (k + 1) s.size)] w fun e w' => e = .returned (.tuple #[.string ⟨#[]⟩, .int .i64 4]) ∧ w = w') := KU
                  have hn : (∀ j (hj : j < s.size), j < k + 1 → s[j] ≠ 61) ∨ (out = none ∧ ∃ j, ∃ hj : j < s.size, j < k + 1 ∧ s[j] = 61) := Or.inr ⟨HO, k, hlt, by omega, h61⟩
                  have HP2 := Lib.hid hn
                  clear hn HO hv HV2 HN0 h61 KU KL KT g0 g1 g2 g3 q0 q1 q2 q3 glt hBw KC
                  go_wp2_with fail
                  refine (KT2.out _).mono ?_
                  rintro e w5 ⟨rfl, rfl⟩
                  go_wp2_with fail
                  refine (K6.out _).mono ?_
                  rintro e w6 ⟨rfl, rfl⟩
                  go_wp2_with fail
                  go_roundw
                  case rel => exact ⟨k + 1, by omega, by go_num, HP2, hBW⟩
                  case measure => simp [intOf]; omega
                | some x =>
                  simp only at hv
                  have K6 : Hid (∀ w, Calls Tryd.prog 71 #[.string (s.extract (k + 1) s.size)] w fun e w' => e = .returned (.tuple #[.string ⟨x.toArray⟩, .int .i64 0]) ∧ w = w') := KU
                  have HV3 := Lib.hid hv
                  clear hv HV2 HN0 h61 KU KL KT KC
                  go_wp2_with fail
                  refine (KT2.out _).mono ?_
                  rintro e w5 ⟨rfl, rfl⟩
                  go_wp2_with fail
                  refine (K6.out _).mono ?_
                  rintro e w6 ⟨rfl, rfl⟩
                  go_wp2_with fail
                  refine bodyPost_ret_by (v := .tuple #[.agg #[.string ln, .string ⟨x.toArray⟩, .bool true, .string ⟨#[]⟩], .bool true]) ?_ rfl ?_
                  · rw [results_cell_tmp rfl]
                    go_simp
                  · exact ⟨by rw [HV3.out], ((((hBw.setCell (p := ⟨a, 1, none⟩) (by show w.heap.size ≤ a; omega) _).setCell (p := ⟨w.heap.size, 0, none⟩) (Nat.le_refl _) _).setCell (p := ⟨w.heap.size, 1, none⟩) (Nat.le_refl _) _).setCell (p := ⟨w.heap.size, 2, none⟩) (Nat.le_refl _) _).setCell (p := ⟨w.heap.size, 3, none⟩) (Nat.le_refl _) _⟩
              · simp only [Bool.not_true, cond_false] at hv
                have HV3 := Lib.hid hv
                clear hv HV2 HN0 h61 KU KL KT KC
                go_wp2_with fail
                refine (KT2.out _).mono ?_
                rintro e w5 ⟨rfl, rfl⟩
                go_wp2_with fail
                refine bodyPost_ret_by (v := .tuple #[.agg #[.string ln, .string (s.extract (k + 1) s.size), .bool true, .string ⟨#[]⟩], .bool true]) ?_ rfl ?_
                · rw [results_cell_tmp rfl]
                  go_simp
                · exact ⟨by rw [HV3.out], (((hBw.setCell (p := ⟨w.heap.size, 0, none⟩) (Nat.le_refl _) _).setCell (p := ⟨w.heap.size, 1, none⟩) (Nat.le_refl _) _).setCell (p := ⟨w.heap.size, 2, none⟩) (Nat.le_refl _) _).setCell (p := ⟨w.heap.size, 3, none⟩) (Nat.le_refl _) _⟩
        · have hne : s[k] ≠ 61 := by intro e; rw [e] at hq; simp at hq
          have hn : (∀ j (hj : j < s.size), j < k + 1 → s[j] ≠ 61) ∨ (out = none ∧ ∃ j, ∃ hj : j < s.size, j < k + 1 ∧ s[j] = 61) := by
            rcases HP.out with h | ⟨h, j, hj, hjk, e⟩
            · left
              intro j hj hjk
              by_cases hjk2 : j = k
              · subst hjk2; exact hne
              · exact h j hj (by omega)
            · exact Or.inr ⟨h, j, hj, by omega, e⟩
          have HP2 := Lib.hid hn
          clear hn hne HP HSH HTB HN K1 HW0
          go_wp2_with fail
          go_roundw
          case rel => exact ⟨k + 1, by omega, by go_num, HP2, hbr⟩
          case measure => simp [intOf]; omega
      · have ho : out = none := by
          rcases HP.out with h | ⟨h, _⟩
          · exact HN.out (fun j hj => h j hj (by omega))
          · exact h
        subst ho
        clear HP HSH HTB HN K1 HW0 HV
        obtain ⟨hBw, g0, g1, g2, g3, q0, q1, q2, q3, glt⟩ := KC.out _ hbr
        clear KC
        go_wp2_with fail
        refine bodyPost_ret_by (v := .tuple #[.agg #[.string ⟨#[]⟩, .string ⟨#[]⟩, .bool false, .string ⟨#[]⟩], .bool false]) ?_ rfl ?_
        · rw [results_cell_tmp rfl]
          go_simp
        · exact ⟨rfl, (((hBw.setCell (p := ⟨w.heap.size, 0, none⟩) (Nat.le_refl _) _).setCell (p := ⟨w.heap.size, 1, none⟩) (Nat.le_refl _) _).setCell (p := ⟨w.heap.size, 2, none⟩) (Nat.le_refl _) _).setCell (p := ⟨w.heap.size, 3, none⟩) (Nat.le_refl _) _⟩
  · rw [htk] at k1
    rw [hST htk]
    unfold saidV
    simp only
    obtain ⟨ln, hln⟩ : ∃ ln : ByteArray, ⟨(lowerL s.data.toList).toArray⟩ = ln := ⟨_, rfl⟩
    rw [hln] at k2 ⊢
    have K1 := Lib.hid k1; have K2 := Lib.hid k2
    clear k1 k2 hSN hST hSH hTB htk hln
    go_enter Tryd.func39, Tryd.ntmps39
    go_wp2_with fail
    rw [HW0.out]
    refine (K1.out _).mono ?_
    rintro e w1 ⟨rfl, rfl⟩
    go_wp2_with fail
    refine (K2.out _).mono ?_
    rintro e w2 ⟨rfl, hb2⟩
    obtain ⟨hBw, g0, g1, g2, g3, q0, q1, q2, q3, glt⟩ := KC.out _ hb2
    clear KC
    go_wp2_with fail
    refine bodyPost_ret_by (v := .tuple #[.agg #[.string ln, .string ⟨#[]⟩, .bool false, .string ⟨#[]⟩], .bool true]) ?_ rfl ?_
    · rw [results_cell_tmp rfl]
      go_simp
    · exact ⟨rfl, (((hBw.setCell (p := ⟨w.heap.size, 0, none⟩) (Nat.le_refl _) _).setCell (p := ⟨w.heap.size, 1, none⟩) (Nat.le_refl _) _).setCell (p := ⟨w.heap.size, 2, none⟩) (Nat.le_refl _) _).setCell (p := ⟨w.heap.size, 3, none⟩) (Nat.le_refl _) _⟩
end Go.Proofs.YtfoabdpfadgafaaDoor
