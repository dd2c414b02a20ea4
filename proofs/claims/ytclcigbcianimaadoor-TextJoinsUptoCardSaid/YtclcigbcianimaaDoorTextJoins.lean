/- TextJoins: the walk of the law. -/
import Derived.Test.YtclcigbcianimaaDoorPieces
import Derived.Test.YtclcigbcianimaaDoorJoinsSpec
import Derived.Test.YtclcigbcianimaaDoorAwake01
namespace Go.Proofs.YtclcigbcianimaaDoor
open Go.RowKit

theorem rep_any (s : ByteArray) (ch : UInt8) (hs : s.data.toList = [ch]) (hc : blanks.contains ch = true) (x : Int) (h0 : 0 ≤ x) (h1 : x ≤ 3) (w : World) :
    Calls Tryd.prog 26 #[.string s, .int .i64 x] w fun e w' => ∃ g : ByteArray, e = .returned (.string g) ∧ g.size ≤ 3 ∧ (∀ c ∈ g.data.toList, blanks.contains c = true) ∧ Below w.heap.size w w' := by
  obtain ⟨n, rfl⟩ := Int.eq_ofNat_of_zero_le h0
  have hz : s.size = 1 := by rw [Lib.size_eq, hs]; rfl
  refine (Tryd.strings_Repeat s n w (by omega) (by rw [hz]; omega)).mono ?_
  rintro e w' ⟨rfl, hb⟩
  refine ⟨_, rfl, ?_, ?_, hb⟩
  · rw [Lib.size_eq]; simp [Lib.repeatL_length, hs]; omega
  · intro c hc'
    rw [hs] at hc'
    exact repeat_blank ch hc n c (by simpa using hc')
theorem total_le (B : Nat) : ∀ ls : List (List UInt8), (∀ x ∈ ls, x.length ≤ B) → total ls ≤ ls.length * B
  | [], _ => by simp [total]
  | x :: r, h => by
    have ih := total_le B r (fun y hy => h y (by simp [hy]))
    have hx := h x (by simp)
    unfold total at *
    simp [Nat.add_mul] at *
    omega

/-- A list of texts that came in. -/
def ListIn (b o : Nat) (Xs : List ByteArray) (w : World) : Prop := ∀ (j : Nat) X, Xs[j]? = some X → w.cell? ⟨b, o + j, none⟩ = some (.string X)

set_option maxRecDepth 100000 in
set_option maxHeartbeats 8000000 in
theorem textJoins_any (a0 : Option Addr) (b o n c : Nat) (Xs : List ByteArray) (bl : Nat) (hbl : bl < 256) (w : World) (hn : Xs.length = n) (ha : 0 < n → a0 = some ⟨b, o, none⟩ ∧ b < w.heap.size)
    (hX : ListIn b o Xs w) (hsz : ∀ X ∈ Xs, X.size ≤ 2000000) (hc : n ≤ 1000000000) :
    Calls Tryd.prog 6 #[.slice a0 n c, .int .u8 bl] w fun e w' => e = .returned (.bool true) ∧ Below w.heap.size w w' := by
  have hB := Below.refl w.heap.size w
  cases hl : decide (30 < (n : Int))
  · have hn30 : n ≤ 30 := by simp at hl; omega
    go_enter Tryd.func6, Tryd.ntmps6
    go_wp2
    obtain ⟨i0, hi, hz0, hz1, hz2⟩ := info_parts uStr
    go_loopw [6, 5] (fun i want wr => ∃ (k : Nat) (ws : List (List UInt8)), k ≤ n ∧ i = .int .i64 k ∧ ws.length ≤ k ∧ Hid (∀ x ∈ ws, goodQ x ∧ x.length ≤ 300) ∧ Hid (OwnS w.heap.size want ws wr) ∧ Below w.heap.size w wr) (fun i _ _ => n - (intOf i).toNat)
    case atStart => exact ⟨0, [], Nat.zero_le _, rfl, by simp, Lib.hid (by simp), World.ownsRow_nil _ _ _ _, hB⟩
    case round =>
      clear hB
      obtain ⟨k, ws, hk, rfl, hws, HW, HO, hbw⟩ := hrel
      by_cases hlt : k < n
      · obtain ⟨rfl, hbl2⟩ := ha (by omega)
        have hkX : k < Xs.length := by omega
        have hc0 : wr.cell? ⟨b, o + k, none⟩ = some (.string Xs[k]) := (hbw.cell (p := ⟨b, o + k, none⟩) hbl2).trans (hX k _ (List.getElem?_eq_getElem hkX))
        have hXs := hsz Xs[k] (List.getElem_mem hkX)
        generalize Xs[k] = X at *
        have k1 := fun w => quote_wide X w hXs
        cases hq : quoteO X with
        | none =>
          rw [hq, show two none = .tuple #[.string ⟨#[]⟩, .int .i64 4] from rfl] at k1
          have K1 := Lib.hid k1; clear k1 hX hsz
          go_wp2_with fail
          refine (K1.out _).mono ?_
          rintro e w1 ⟨rfl, hb1⟩
          have hc1 := (hb1.cell (p := ⟨b, o + k, none⟩) (by have := hbw.size; show b < _; omega)).trans hc0
          clear hc0
          cases h100 : decide (100 < (X.size : Int))
          · go_wp2
            go_roundw
            case rel => exact ⟨k + 1, ws, by omega, by go_num, by omega, HW, HO.out.below hb1 |> Lib.hid, hbw.trans (hb1.mono hbw.size)⟩
            case measure => simp [intOf]; omega
          · go_wp2
            go_roundw
            case rel => exact ⟨k + 1, ws, by omega, by go_num, by omega, HW, HO.out.below hb1 |> Lib.hid, hbw.trans (hb1.mono hbw.size)⟩
            case measure => simp [intOf]; omega
        | some q =>
          have hgq := good_quote hq
          have hql : q.length ≤ 2 * X.size + 2 := by
            unfold quoteO quoted at hq
            cases hp : X.data.toList.all plainb <;> rw [hp] at hq <;> simp at hq
            have := flat_le X.data.toList
            rw [← hq, Lib.size_eq]; simp at this ⊢; omega
          rw [hq, show two (some q) = .tuple #[.string ⟨q.toArray⟩, .int .i64 0] from rfl] at k1
          have K1 := Lib.hid k1; clear k1 hX hsz hq
          go_wp2_with fail
          refine (K1.out _).mono ?_
          rintro e w1 ⟨rfl, hb1⟩
          have hc1 := (hb1.cell (p := ⟨b, o + k, none⟩) (by have := hbw.size; show b < _; omega)).trans hc0
          clear hc0
          cases h100 : decide (100 < (X.size : Int))
          · have hX100 : X.size ≤ 100 := by simp at h100; omega
            have k7 := fun w => token_any X w (by omega)
            cases htk : tokenL X.data.toList
            · rw [htk] at k7
              have K7 := Lib.hid k7; clear k7
              go_wp2_with (first | (go_at_call 10; refine (K7.out _).mono ?_; rintro e w' ⟨rfl, rfl⟩) | (at_builtin; refine wpList_append_own _ rfl _ _ 26 rfl w.heap.size 9 i0 (.string ByteArray.empty) 1 16 Tryd.underlying26 hi hz0 hz1 hz2 rfl (by decide) _ _ _ rfl ((HO.out.below hb1).alloc _) ⟨w1.heap.size, 0, none⟩ 1 1 [.string ⟨q.toArray⟩] rfl rfl ?c1 ?c2 ?c3 ?c4 ?c5 ?_))
              case c1 =>
                intro j u hj
                match j, hj with
                | 0, hj => simp at hj; subst hj; simp [Addr.add]
              case c2 => intro u hu; simp at hu; subst hu; rfl
              case c3 => unfold maxLen; omega
              case c4 => omega
              case c5 => have := (hbw.trans (hb1.mono hbw.size)).size; simp; omega
              intro v' w2 hown' hgrow _
              have hb2 : Below w.heap.size w w2 := ((hbw.trans (hb1.mono hbw.size)).alloc (hbw.trans (hb1.mono hbw.size)).size _).grown hgrow (by have := (hbw.trans (hb1.mono hbw.size)).size; simp; omega) (fun k hk => by have := ((HO.out.below hb1).lt k hk).1; omega)
              have HO2 : Hid (OwnS w.heap.size v' (ws ++ [q]) w2) := by
                refine Lib.hid ?_
                show World.ownsRow _ _ _ _ _ _ _
                rw [List.length_append, List.length_singleton, List.map_append]
                exact hown'
              have HW2 : Hid (∀ x ∈ ws ++ [q], goodQ x ∧ x.length ≤ 300) := by
                refine Lib.hid fun x hx => ?_
                rcases List.mem_append.1 hx with hx | hx
                · exact HW.out x hx
                · rw [List.mem_singleton.1 hx]; exact ⟨hgq, by omega⟩
              clear hown' hgrow HO HW hbw
              go_wp2
              go_roundw
              case rel => exact ⟨k + 1, ws ++ [q], by omega, by go_num, by rw [List.length_append, List.length_singleton]; omega, HW2, HO2, hb2⟩
              case measure => simp [intOf]; omega
            · rw [htk] at k7
              have K7 := Lib.hid k7; clear k7
              rcases Nat.mod_two_eq_zero_or_one k with hk2 | hk2
              · have m1 : ((k : Int) % 2 == 0) = true := by rw [beq_iff_eq]; omega
                have m2 : (Int.tmod (k : Int) 2 == 0) = true := by rw [beq_iff_eq, Int.tmod_eq_emod_of_nonneg (by omega)]; omega
                have htk2 := Lib.hid htk; clear htk
                go_wp2_with (first | (go_at_call 10; refine (K7.out _).mono ?_; rintro e w' ⟨rfl, rfl⟩) | (at_builtin; refine wpList_append_own _ rfl _ _ 26 rfl w.heap.size 9 i0 (.string ByteArray.empty) 1 16 Tryd.underlying26 hi hz0 hz1 hz2 rfl (by decide) _ _ _ rfl ((HO.out.below hb1).alloc _) ⟨w1.heap.size, 0, none⟩ 1 1 [.string X] rfl rfl ?c1 ?c2 ?c3 ?c4 ?c5 ?_))
                case c1 =>
                  intro j u hj
                  match j, hj with
                  | 0, hj => simp at hj; subst hj; simp [Addr.add]
                case c2 => intro u hu; simp at hu; subst hu; rfl
                case c3 => unfold maxLen; omega
                case c4 => omega
                case c5 => have := (hbw.trans (hb1.mono hbw.size)).size; simp; omega
                intro v' w2 hown' hgrow _
                have hb2 : Below w.heap.size w w2 := ((hbw.trans (hb1.mono hbw.size)).alloc (hbw.trans (hb1.mono hbw.size)).size _).grown hgrow (by have := (hbw.trans (hb1.mono hbw.size)).size; simp; omega) (fun k hk => by have := ((HO.out.below hb1).lt k hk).1; omega)
                have HO2 : Hid (OwnS w.heap.size v' (ws ++ [X.data.toList]) w2) := by
                  refine Lib.hid ?_
                  show World.ownsRow _ _ _ _ _ _ _
                  rw [List.length_append, List.length_singleton, List.map_append]
                  have hone : ([X.data.toList].map fun l => Value.string ⟨l.toArray⟩) = [.string X] := by rw [List.map_singleton, str_of]
                  rw [hone]; exact hown'
                have HW2 : Hid (∀ x ∈ ws ++ [X.data.toList], goodQ x ∧ x.length ≤ 300) := by
                  refine Lib.hid fun x hx => ?_
                  rcases List.mem_append.1 hx with hx | hx
                  · exact HW.out x hx
                  · rw [List.mem_singleton.1 hx]; exact ⟨Or.inl htk2.out, by rw [← Lib.size_eq]; omega⟩
                clear hown' hgrow HO HW hbw
                go_wp2
                go_roundw
                case rel => exact ⟨k + 1, ws ++ [X.data.toList], by omega, by go_num, by rw [List.length_append, List.length_singleton]; omega, HW2, HO2, hb2⟩
                case measure => simp [intOf]; omega
              · have m1 : ((k : Int) % 2 == 0) = false := by rw [beq_eq_false_iff_ne]; omega
                have m2 : (Int.tmod (k : Int) 2 == 0) = false := by rw [beq_eq_false_iff_ne, Int.tmod_eq_emod_of_nonneg (by omega)]; omega
                have htk2 := Lib.hid htk; clear htk
                go_wp2_with (first | (go_at_call 10; refine (K7.out _).mono ?_; rintro e w' ⟨rfl, rfl⟩) | (at_builtin; refine wpList_append_own _ rfl _ _ 26 rfl w.heap.size 9 i0 (.string ByteArray.empty) 1 16 Tryd.underlying26 hi hz0 hz1 hz2 rfl (by decide) _ _ _ rfl ((HO.out.below hb1).alloc _) ⟨w1.heap.size, 0, none⟩ 1 1 [.string ⟨q.toArray⟩] rfl rfl ?c1 ?c2 ?c3 ?c4 ?c5 ?_))
                case c1 =>
                  intro j u hj
                  match j, hj with
                  | 0, hj => simp at hj; subst hj; simp [Addr.add]
                case c2 => intro u hu; simp at hu; subst hu; rfl
                case c3 => unfold maxLen; omega
                case c4 => omega
                case c5 => have := (hbw.trans (hb1.mono hbw.size)).size; simp; omega
                intro v' w2 hown' hgrow _
                have hb2 : Below w.heap.size w w2 := ((hbw.trans (hb1.mono hbw.size)).alloc (hbw.trans (hb1.mono hbw.size)).size _).grown hgrow (by have := (hbw.trans (hb1.mono hbw.size)).size; simp; omega) (fun k hk => by have := ((HO.out.below hb1).lt k hk).1; omega)
                have HO2 : Hid (OwnS w.heap.size v' (ws ++ [q]) w2) := by
                  refine Lib.hid ?_
                  show World.ownsRow _ _ _ _ _ _ _
                  rw [List.length_append, List.length_singleton, List.map_append]
                  exact hown'
                have HW2 : Hid (∀ x ∈ ws ++ [q], goodQ x ∧ x.length ≤ 300) := by
                  refine Lib.hid fun x hx => ?_
                  rcases List.mem_append.1 hx with hx | hx
                  · exact HW.out x hx
                  · rw [List.mem_singleton.1 hx]; exact ⟨hgq, by omega⟩
                clear hown' hgrow HO HW hbw
                go_wp2
                go_roundw
                case rel => exact ⟨k + 1, ws ++ [q], by omega, by go_num, by rw [List.length_append, List.length_singleton]; omega, HW2, HO2, hb2⟩
                case measure => simp [intOf]; omega
          · go_wp2
            go_roundw
            case rel => exact ⟨k + 1, ws, by omega, by go_num, by omega, HW, HO.out.below hb1 |> Lib.hid, hbw.trans (hb1.mono hbw.size)⟩
            case measure => simp [intOf]; omega
      · have hke : k = n := by omega
        subst hke
        obtain ⟨wa, wcap, rfl⟩ := HO.out.shape
        have htot := total_le 300 ws (fun x hx => (HW.out x hx).2)
        clear ha hX hsz
        go_wp2_with fail
        refine (rep_any _ 32 rfl (by decide) _ (by omega) (by omega) _).mono ?_
        rintro e w1 ⟨g1, rfl, hs1, hg1, hb1⟩
        go_wp2_with fail
        refine (rep_any _ 9 rfl (by decide) _ (by omega) (by omega) _).mono ?_
        rintro e w2 ⟨g2, rfl, hs2, hg2, hb2⟩
        have hG : ∀ c ∈ (g1 ++ g2).data.toList, blanks.contains c = true := by
          intro c hc'
          rw [app_list] at hc'
          rcases List.mem_append.1 hc' with h | h
          · exact hg1 c h
          · exact hg2 c h
        have HG := Lib.hid hG; clear hG hg1 hg2
        go_wp2_with fail
        have hGs : (g1 ++ g2).size ≤ 6 := by rw [ByteArray.size_append]; omega
        generalize g1 ++ g2 = G at *
        have hsep : (G ++ ⟨#[44]⟩ ++ G).size ≤ 13 := by
          rw [ByteArray.size_append, ByteArray.size_append, show (⟨#[44]⟩ : ByteArray).size = 1 from rfl]; omega
        have hmul : ws.length * (G ++ ⟨#[44]⟩ ++ G).size ≤ 30 * 13 := Nat.mul_le_mul (by omega) hsep
        have hmul2 : ws.length * 300 ≤ 30 * 300 := Nat.mul_le_mul (by omega) (Nat.le_refl _)
        have hsl : (G ++ ⟨#[44]⟩ ++ G).data.toList = G.data.toList ++ [44] ++ G.data.toList := by rw [app_list, app_list]
        have hjl := join_le (G ++ ⟨#[44]⟩ ++ G).data.toList ws
        rw [← Lib.size_eq] at hjl
        have hbd : total ws + ws.length * (G ++ ⟨#[44]⟩ ++ G).size ≤ 100000000000 := Nat.le_trans (Nat.add_le_add htot hmul) (by omega)
        have hown2 := (HO.out.below hb1).below hb2
        generalize hsp : (G ++ ⟨#[44]⟩ ++ G : ByteArray) = SP at *
        have kj := join_any w.heap.size wcap wa ws SP w2 hown2 (by omega) hbd
        with_reducible refine kj.mono ?_
        rintro e w3 ⟨rfl, hb3⟩
        obtain ⟨J, hJ⟩ : ∃ J : ByteArray, (⟨(Lib.join ws SP.data.toList).toArray⟩ : ByteArray) = J := ⟨_, rfl⟩
        have hJl : J.data.toList = Lib.join ws SP.data.toList := by rw [← hJ]
        have hJs : J.size ≤ 10000 := by rw [Lib.size_eq, hJl]; omega
        rw [hJ]
        rw [hsl] at hJl
        have hT : splitL 44 (G ++ J ++ G ++ ⟨#[44]⟩ : ByteArray).data.toList = (ws, 0) := by
          rw [app_list, app_list, app_list, hJl]
          exact split_joined _ HG.out ws (fun x hx => (HW.out x hx).1) (by omega)
        have HT := Lib.hid hT
        clear hT hJl hjl hsl hJ hmul hmul2 hsep htot HG
        go_wp2_with fail
        have k1 := split_any (G ++ J ++ G ++ ⟨#[44]⟩ : ByteArray) 44 w3 (by rw [ByteArray.size_append, ByteArray.size_append, ByteArray.size_append, show (⟨#[44]⟩ : ByteArray).size = 1 from rfl]; omega)
        rw [HT.out] at k1
        refine k1.mono ?_
        rintro e w4 ⟨ga, gcap, rfl, ho4, hb4⟩
        have HO4 : Hid (OwnS w.heap.size (.slice wa ws.length wcap) ws w4) := Lib.hid ((((HO.out.below hb1).below hb2).below hb3).below hb4)
        have HG4 := Lib.hid ho4
        have hbw4 := bt (bt (bt (bt hbw hb1) hb2) hb3) hb4
        clear k1 HT ho4 HO hb1 hb2 hb3 hb4 hbw
        go_wp2_with fail
        go_loopw [12] (fun i wr => ∃ m : Nat, m ≤ ws.length ∧ i = .int .i64 m ∧ Below w.heap.size w wr ∧ Hid (OwnS w.heap.size (.slice wa ws.length wcap) ws wr) ∧ Hid (OwnS w3.heap.size (.slice ga ws.length gcap) ws wr)) (fun i _ => ws.length - (intOf i).toNat)
        case atStart => exact ⟨0, Nat.zero_le _, rfl, hbw4, HO4, HG4⟩
        case round =>
          clear HO4 HG4 hbw4
          obtain ⟨m, hm, rfl, hbm, HO, HG⟩ := hrel
          by_cases hlm : m < ws.length
          · obtain ⟨x1, rfl, hc1, hz1⟩ := HG.out.cell m hlm
            obtain ⟨x2, rfl, hc2, hz2⟩ := HO.out.cell m hlm
            have t1 : decide ((m : Int) < (ws.length : Int)) = true := by simp; omega
            go_wp2_with fail
            go_quiet (fail)
            go_wp2
            go_roundw
            case rel => exact ⟨m + 1, by omega, by go_num, Go.below_drewN hbm _, HO, HG⟩
            case measure => simp [intOf]; omega
          · have hme : m = ws.length := by omega
            subst hme
            go_wp2_with (go_at_call 9; refine (awake_any _).mono ?_; rintro e w' ⟨rfl, hb⟩; replace hbm := bt hbm hb; clear hb)
            go_ret
            exact ⟨rfl, hbm⟩
  · go_enter Tryd.func6, Tryd.ntmps6
    go_wp2_with (go_at_call 9; refine (awake_any _).mono ?_; rintro e w' ⟨rfl, hb⟩; replace hB := bt hB hb; clear hb)
    go_ret
    exact ⟨rfl, hB⟩
end Go.Proofs.YtclcigbcianimaaDoor
