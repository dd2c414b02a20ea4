/- Joined out of the texts DirBack (wip/tools/merge.py). -/
import Derived.Test.YtfjgacankfidmaaDoorPb1
import Derived.Deep.RegionHeld
/- DirectiveBack: the walk of the law (printed by wip/tools/dirback.py). -/
namespace Go.Proofs.YtfjgacankfidmaaDoor
open Go.RowKit
set_option maxRecDepth 100000

theorem heap_setD {w : World} {b j : Nat} {v : Value} {cs : Array Value} {T : TypeId} {m : Nat × Nat} (h : w.heap[b]? = some (.cells cs T m)) : (w.setCell ⟨b, j, none⟩ v).heap[b]? = some (.cells (cs.setIfInBounds j v) T m) := by
  simp [World.setCell, Array.getElem?_modify, h]
theorem repD_any (s : ByteArray) (ch : UInt8) (hs : s.data.toList = [ch]) (hc : blanks.contains ch = true) (x : Int) (h0 : 0 ≤ x) (h1 : x ≤ 3) (w : World) :
    Calls Tryd.prog 5 #[.string s, .int .i64 x] w fun e w' => ∃ g : ByteArray, e = .returned (.string g) ∧ g.size ≤ 3 ∧ (∀ c ∈ g.data.toList, blanks.contains c = true) ∧ Below w.heap.size w w' := by
  obtain ⟨n, rfl⟩ := Int.eq_ofNat_of_zero_le h0
  have hz : s.size = 1 := by rw [Lib.size_eq, hs]; rfl
  refine (Tryd.strings_Repeat s n w (by omega) (by rw [hz]; omega)).mono ?_
  rintro e w' ⟨rfl, hb⟩
  refine ⟨_, rfl, ?_, ?_, hb⟩
  · rw [Lib.size_eq]; simp [Lib.repeatL_length, hs]; omega
  · intro c hc'
    rw [hs] at hc'
    exact repeat_blank ch hc n c (by simpa using hc')
/-- What a piece adds to the text. -/
def PieceAt (S S2 L v : List UInt8) (h : Bool) : Prop := ∃ p, okP p ∧ saidO p = some ⟨L, v, h, []⟩ ∧ S2 = S ++ p
theorem piece_alone {S nm L : List UInt8} (ht : tokenL L = true) (hL : L = lowerL nm) : PieceAt S (S ++ L) L [] false := by
  refine ⟨pieceD L none, okP_alone ht, ?_, rfl⟩
  rw [show pieceD L none = L from rfl, said_alone ht, hL, lower_twice]
theorem piece_bare {S nm L v : List UInt8} (ht : tokenL L = true) (hL : L = lowerL nm) (hv : tokenL v = true) : PieceAt S (S ++ L ++ [61] ++ v) L v true := by
  refine ⟨pieceD L (some v), okP_with ht (Or.inl hv), ?_, by simp [pieceD]⟩
  rw [said_bare ht hv]
  conv => lhs; rw [hL, lower_twice, ← hL]
theorem piece_quoted {S nm L q : List UInt8} {s : ByteArray} (ht : tokenL L = true) (hL : L = lowerL nm) (hq : quoteO s = some q) : PieceAt S (S ++ L ++ [61] ++ q) L s.data.toList true := by
  refine ⟨pieceD L (some q), okP_with ht (good_quote hq), ?_, by simp [pieceD]⟩
  rw [said_quoted ht hq]
  conv => lhs; rw [hL, lower_twice, ← hL]
theorem quote_len {s : ByteArray} {q : List UInt8} (hq : quoteO s = some q) : q.length ≤ 2 * s.size + 2 := by
  unfold quoteO quoted at hq
  cases hp : s.data.toList.all plainb <;> rw [hp] at hq <;> simp at hq
  subst hq
  have : ∀ l : List UInt8, (l.flatMap esc).length ≤ 2 * l.length := by
    intro l
    induction l with
    | nil => simp
    | cons c r ih =>
      rw [List.flatMap_cons, List.length_append, List.length_cons]
      have : (esc c).length ≤ 2 := by unfold esc; cases (c.toNat == 34 || c.toNat == 92) <;> simp
      omega
  have := this s.data.toList
  simp only [List.length_cons, List.length_append, List.length_nil]
  rw [Lib.size_eq]
  omega
set_option maxHeartbeats 32000000 in
theorem dirBack_any (A : Option Addr) (n c : Nat) (xs : List Dir) (bl : Nat) (hbl : bl < 256) (B : Option Addr) (m d : Nat) (bs : List UInt8) (w : World) (hM : MaxL w) (hA : Rd A n 4 (dirsV xs) w) (hm : m = bs.length) (hml : m ≤ maxLen) (hB : BIn B bs w) (hx : xs.length ≤ 40 → ∀ x ∈ xs, x.name.length ≤ 2000000 ∧ x.value.length ≤ 2000000) :
    Calls Tryd.prog 3 #[.slice A n c, .int .u8 bl, .slice B m d] w fun e w' => e = .returned (.bool true) ∧ Below w.heap.size w w' := by
  obtain rfl := hA.dir
  subst hm
  have HA := Lib.hid hA; have HBI := Lib.hid hB; have HM := Lib.hid hM
  clear hA hB hM
  have hbl64 : (bs.length : Int) ≤ 9223372036854775807 := by unfold maxLen at hml; omega
  cases hl : decide (40 < (xs.length : Int))
  · have hn : xs.length ≤ 40 := by simp at hl; omega
    have HX := Lib.hid (hx hn); clear hx
    have uD := uDir
    go_enter Tryd.func3, Tryd.ntmps3
    go_wp2_with fail
    refine (repD_any _ 32 rfl (by decide) _ (by omega) (by omega) _).mono ?_
    rintro e w1 ⟨g1, rfl, hs1, hg1, hb1⟩
    go_wp2_with fail
    refine (repD_any _ 9 rfl (by decide) _ (by omega) (by omega) _).mono ?_
    rintro e w2 ⟨g2, rfl, hs2, hg2, hb2⟩
    have hG : ∀ c ∈ (g1 ++ g2).data.toList, blanks.contains c = true := by
      intro c hc'; rw [app_list] at hc'; rcases List.mem_append.1 hc' with h | h
      · exact hg1 c h
      · exact hg2 c h
    have HG := Lib.hid hG; clear hG hg1 hg2
    have hB2 := bt hb1 hb2
    have hGs : (g1 ++ g2).size ≤ 6 := by rw [ByteArray.size_append]; omega
    clear hb1 hb2
    go_wp2_with fail
    generalize g1 ++ g2 = G at *
    clear hs1 hs2
    go_loopw [10, 8, 9] (fun i s want wr => ∃ (k : Nat) (S : ByteArray) (ds : List Dir), k ≤ xs.length ∧ i = .int .i64 k ∧ s = .string S ∧ S.size ≤ 6 + 640 * k ∧ ds.length ≤ k ∧ Hid (BackAt k G.data.toList S.data.toList ds) ∧ Hid (OwnD w.heap.size want ds wr) ∧ Below w.heap.size w wr) (fun i _ _ _ => xs.length - (intOf i).toNat)
    case atStart => exact ⟨0, G, [], Nat.zero_le _, rfl, rfl, by omega, by simp, Lib.hid (BackAt.start HG.out), Lib.hid (OwnD.nil _ _), hB2⟩
    case round =>
      clear hB2
      obtain ⟨k, S, ds, hk, rfl, rfl, hSs, hds, HBK, HO, hbw⟩ := hrel
      by_cases hlt : k < xs.length
      · obtain ⟨b, o, rfl, hbl2, c0, c1, c2, c3⟩ := (HA.out.below hbw).dir_at (k := k) hlt
        have hxk := HX.out xs[k] (List.getElem_mem _)
        generalize xs[k] = dd at *
        obtain ⟨dn, dv, dh, df⟩ := dd
        simp only at c0 c1 c2 c3 hxk
        obtain ⟨bn, rfl⟩ : ∃ bn : ByteArray, dn = bn.data.toList := ⟨⟨dn.toArray⟩, rfl⟩
        obtain ⟨bv, rfl⟩ : ∃ bv : ByteArray, dv = bv.data.toList := ⟨⟨dv.toArray⟩, rfl⟩
        rw [str_of] at c0 c1
        rw [← Lib.size_eq, ← Lib.size_eq] at hxk
        obtain ⟨hnz, hvz⟩ := hxk
        have k1 := fun W => lower_wide bn W (by omega)
        obtain ⟨L, hL⟩ : ∃ L : ByteArray, (⟨(lowerL bn.data.toList).toArray⟩ : ByteArray) = L := ⟨_, rfl⟩
        rw [hL] at k1
        have hLl : L.data.toList = lowerL bn.data.toList := by rw [← hL]
        have hLs : L.size ≤ 2000000 := by rw [Lib.size_eq, hLl]; unfold lowerL; rw [List.length_map, ← Lib.size_eq]; exact hnz
        have kc : ∀ W, Below wr.heap.size wr W → W.cell? ⟨b, o + k * 4, none⟩ = some (.string bn) ∧ W.cell? ⟨b, o + k * 4 + 1, none⟩ = some (.string bv) ∧ W.cell? ⟨b, o + k * 4 + 2, none⟩ = some (.bool dh) := fun W hb => ⟨(hb.cell (p := ⟨b, o + k * 4, none⟩) hbl2).trans c0, (hb.cell (p := ⟨b, o + k * 4 + 1, none⟩) hbl2).trans c1, (hb.cell (p := ⟨b, o + k * 4 + 2, none⟩) hbl2).trans c2⟩
        have K1 := Lib.hid k1; have KC := Lib.hid kc; have HLL := Lib.hid hLl
        clear k1 kc hL hLl c0 c1 c2 c3 hnz
        have t1 : decide ((k : Int) < (xs.length : Int)) = true := by simp; omega
        have hk0 : (0 : Int) ≤ k := by omega
        have hk1 : (k : Int) < xs.length := by omega
        go_upto_region 9 with (fail)
        clear t1
        go_cut [11] from 31 to 123 (fun s11 wx => ∃ T, s11 = .pointer (some ⟨T, 0, none⟩) ∧ wr.heap.size ≤ T ∧ Hid (wx.heap[T]? = some (.cells #[.string L, .string bv, .bool dh, .string ⟨#[]⟩] 28 (0, 0))) ∧ Below wr.heap.size wr wx)
        case first =>
          have hd0 : Below wr.heap.size wr wr.drew := (Below.refl _ _).drew
          obtain ⟨c0, c1, c2⟩ := KC.out _ (Below.refl _ _)
          refine wp_region_held_drew (S := (fun w' => w'.cell? ⟨b, o + k * 4, none⟩ = some (.string bn) ∧ w'.cell? ⟨b, o + k * 4 + 1, none⟩ = some (.string bv) ∧ w'.cell? ⟨b, o + k * 4 + 2, none⟩ = some (.bool dh))) (by kernel_rfl) (KC.out _ hd0) (fun hHeld => ?_)
          refine wpAnyH_take (i := 0) (v := ?_) (by simp only [List.getElem?_toArray, List.getElem?_cons_zero]; exact rfl) (by kernel_rfl) (by kernel_rfl) (by kernel_rfl) (by intro _ _ _ h; exact h) (Or.inl ⟨by rfl, fun W hSw => ?_⟩) hHeld ?_
          rotate_left
          focus ((try dsimp only at hSw); first | (go_simp; done) | (go_simp; with_reducible rfl))
          try simp only [Act.put, List.setIfInBounds_toArray, List.set_cons_zero, List.set_cons_succ]
          refine wpAnyH_take (i := 1) (v := ?_) (by simp only [List.getElem?_toArray, List.getElem?_cons_succ, List.getElem?_cons_zero]; exact rfl) (by kernel_rfl) (by kernel_rfl) (by kernel_rfl) (by intro _ _ _ h; exact h) (Or.inl ⟨by rfl, fun W hSw => ?_⟩) hHeld ?_
          rotate_left
          focus ((try dsimp only at hSw); first | (go_simp; done) | (go_simp; with_reducible rfl))
          try simp only [Act.put, List.setIfInBounds_toArray, List.set_cons_zero, List.set_cons_succ]
          refine wpAnyH_take (i := 2) (v := ?_) (by simp only [List.getElem?_toArray, List.getElem?_cons_succ, List.getElem?_cons_zero]; exact rfl) (by kernel_rfl) (by kernel_rfl) (by kernel_rfl) (by intro _ _ _ h; exact h) (Or.inl ⟨by rfl, fun W hSw => ?_⟩) hHeld ?_
          rotate_left
          focus ((try dsimp only at hSw); first | (go_simp; done) | (go_simp; with_reducible rfl))
          try simp only [Act.put, List.setIfInBounds_toArray, List.set_cons_zero, List.set_cons_succ]
          refine wpAnyH_take (i := 3) (v := ?_) (by simp only [List.getElem?_toArray, List.getElem?_cons_succ, List.getElem?_cons_zero]; exact rfl) (by kernel_rfl) (by kernel_rfl) (by kernel_rfl) (by intro _ _ _ h; exact h) (Or.inl ⟨by rfl, fun W hSw => ?_⟩) hHeld ?_
          rotate_left
          focus ((try dsimp only at hSw); first | (go_simp; done) | (go_simp; with_reducible rfl))
          try simp only [Act.put, List.setIfInBounds_toArray, List.set_cons_zero, List.set_cons_succ]
          refine wpAnyH_take (i := 4) (v := ?_) (by simp only [List.getElem?_toArray, List.getElem?_cons_succ, List.getElem?_cons_zero]; exact rfl) (by kernel_rfl) (by kernel_rfl) (by kernel_rfl) (by intro _ _ _ h; exact h) (Or.inl ⟨by rfl, fun W hSw => ?_⟩) hHeld ?_
          rotate_left
          focus ((try dsimp only at hSw); first | (go_simp; done) | (go_simp; with_reducible rfl))
          try simp only [Act.put, List.setIfInBounds_toArray, List.set_cons_zero, List.set_cons_succ]
          refine wpAnyH_take (i := 6) (v := ?_) (by simp only [List.getElem?_toArray, List.getElem?_cons_succ, List.getElem?_cons_zero]; exact rfl) (by kernel_rfl) (by kernel_rfl) (by kernel_rfl) (by intro _ _ _ h; exact h) (Or.inl ⟨by rfl, fun W hSw => ?_⟩) hHeld ?_
          rotate_left
          focus ((try dsimp only at hSw); first | (go_simp; done) | (go_simp; with_reducible rfl))
          try simp only [Act.put, List.setIfInBounds_toArray, List.set_cons_zero, List.set_cons_succ]
          refine wpAnyH_take (i := 7) (v := ?_) (by simp only [List.getElem?_toArray, List.getElem?_cons_succ, List.getElem?_cons_zero]; exact rfl) (by kernel_rfl) (by kernel_rfl) (by kernel_rfl) (by intro _ _ _ h; exact h) (Or.inl ⟨by rfl, fun W hSw => ?_⟩) hHeld ?_
          rotate_left
          focus ((try dsimp only at hSw); first | (go_simp; done) | (go_simp; with_reducible rfl))
          try simp only [Act.put, List.setIfInBounds_toArray, List.set_cons_zero, List.set_cons_succ]
          refine wpAnyH_take (i := 8) (v := ?_) (by simp only [List.getElem?_toArray, List.getElem?_cons_succ, List.getElem?_cons_zero]; exact rfl) (by kernel_rfl) (by kernel_rfl) (by kernel_rfl) (by intro _ _ _ h; exact h) (Or.inl ⟨by rfl, fun W hSw => ?_⟩) hHeld ?_
          rotate_left
          focus ((try dsimp only at hSw); first | (go_simp; done) | (go_simp; with_reducible rfl))
          try simp only [Act.put, List.setIfInBounds_toArray, List.set_cons_zero, List.set_cons_succ]
          refine wpAnyH_take (i := 9) (v := ?_) (by simp only [List.getElem?_toArray, List.getElem?_cons_succ, List.getElem?_cons_zero]; exact rfl) (by kernel_rfl) (by kernel_rfl) (by kernel_rfl) (by intro _ _ _ h; exact h) (Or.inl ⟨by rfl, fun W hSw => ?_⟩) hHeld ?_
          rotate_left
          focus ((try dsimp only at hSw); first | (go_simp; done) | (go_simp; with_reducible rfl))
          try simp only [Act.put, List.setIfInBounds_toArray, List.set_cons_zero, List.set_cons_succ]
          refine wpAnyH_take (i := 10) (v := ?_) (by simp only [List.getElem?_toArray, List.getElem?_cons_succ, List.getElem?_cons_zero]; exact rfl) (by kernel_rfl) (by kernel_rfl) (by kernel_rfl) (by intro _ _ _ h; exact h) (Or.inl ⟨by rfl, fun W hSw => ?_⟩) hHeld ?_
          rotate_left
          focus ((try dsimp only at hSw); first | (go_simp; done) | (go_simp; with_reducible rfl))
          try simp only [Act.put, List.setIfInBounds_toArray, List.set_cons_zero, List.set_cons_succ]
          refine wpAnyH_take (i := 11) (v := ?_) (by simp only [List.getElem?_toArray, List.getElem?_cons_succ, List.getElem?_cons_zero]; exact rfl) (by kernel_rfl) (by kernel_rfl) (by kernel_rfl) (by intro _ _ _ h; exact h) (Or.inl ⟨by rfl, fun W hSw => ?_⟩) hHeld ?_
          rotate_left
          focus ((try dsimp only at hSw); first | (go_simp; done) | (go_simp; with_reducible rfl))
          try simp only [Act.put, List.setIfInBounds_toArray, List.set_cons_zero, List.set_cons_succ]
          refine wpAnyH_take (i := 12) (v := ?_) (by simp only [List.getElem?_toArray, List.getElem?_cons_succ, List.getElem?_cons_zero]; exact rfl) (by kernel_rfl) (by kernel_rfl) (by kernel_rfl) (by intro _ _ _ h; exact h) (Or.inl ⟨by rfl, fun W hSw => ?_⟩) hHeld ?_
          rotate_left
          focus ((try dsimp only at hSw); first | (go_simp; done) | (go_simp; with_reducible rfl))
          try simp only [Act.put, List.setIfInBounds_toArray, List.set_cons_zero, List.set_cons_succ]
          refine wpAnyH_take (i := 13) (v := ?_) (by simp only [List.getElem?_toArray, List.getElem?_cons_succ, List.getElem?_cons_zero]; exact rfl) (by kernel_rfl) (by kernel_rfl) (by kernel_rfl) (by intro _ _ _ h; exact h) (Or.inl ⟨by rfl, fun W hSw => ?_⟩) hHeld ?_
          rotate_left
          focus ((try dsimp only at hSw); first | (go_simp; done) | (go_simp; with_reducible rfl))
          try simp only [Act.put, List.setIfInBounds_toArray, List.set_cons_zero, List.set_cons_succ]
          refine wpAnyH_take (i := 14) (v := ?_) (by simp only [List.getElem?_toArray, List.getElem?_cons_succ, List.getElem?_cons_zero]; exact rfl) (by kernel_rfl) (by kernel_rfl) (by kernel_rfl) (by intro _ _ _ h; exact h) (Or.inl ⟨by rfl, fun W hSw => ?_⟩) hHeld ?_
          rotate_left
          focus ((try dsimp only at hSw); first | (go_simp; done) | (go_simp; with_reducible rfl))
          try simp only [Act.put, List.setIfInBounds_toArray, List.set_cons_zero, List.set_cons_succ]
          refine wpAnyH_take (i := 15) (v := ?_) (by simp only [List.getElem?_toArray, List.getElem?_cons_succ, List.getElem?_cons_zero]; exact rfl) (by kernel_rfl) (by kernel_rfl) (by kernel_rfl) (by intro _ _ _ h; exact h) (Or.inl ⟨by rfl, fun W hSw => ?_⟩) hHeld ?_
          rotate_left
          focus ((try dsimp only at hSw); first | (go_simp; done) | (go_simp; with_reducible rfl))
          try simp only [Act.put, List.setIfInBounds_toArray, List.set_cons_zero, List.set_cons_succ]
          refine wpAnyH_ready (rs := [5, 17]) (by kernel_rfl) (by simp) (AllReadyH.cons (by simp only [List.getElem?_toArray, List.getElem?_cons_succ, List.getElem?_cons_zero]; exact rfl) (fun K hK => ?_) (AllReadyH.cons (by simp only [List.getElem?_toArray, List.getElem?_cons_succ, List.getElem?_cons_zero]; exact rfl) (fun K hK => ?_) AllReadyH.nil))
          · rw [if_pos (by rfl)]
            go_simp
            (with_reducible refine (K1.out _).mono ?_)
            rintro e v1 ⟨rfl, hb1⟩
            have hd1 := bt hd0 hb1
            go_wp2_with fail
            refine hK.out _ _ (KC.out _ hd1) (fun hHeld => ?_)
            clear hK K
            try simp only [Act.put, List.setIfInBounds_toArray, List.set_cons_zero, List.set_cons_succ]
            refine wpAnyH_take (i := 16) (v := ?_) (by simp only [List.getElem?_toArray, List.getElem?_cons_succ, List.getElem?_cons_zero]; exact rfl) (by kernel_rfl) (by kernel_rfl) (by kernel_rfl) (by intro _ _ _ h; exact h) (Or.inl ⟨by rfl, fun W hSw => ?_⟩) hHeld ?_
            rotate_left
            focus ((try dsimp only at hSw); first | (go_simp; done) | (go_simp; with_reducible rfl))
            try simp only [Act.put, List.setIfInBounds_toArray, List.set_cons_zero, List.set_cons_succ]
            refine wpAnyH_ready (rs := [17]) (by kernel_rfl) (by simp) (AllReadyH.cons (by simp only [List.getElem?_toArray, List.getElem?_cons_succ, List.getElem?_cons_zero]; exact rfl) (fun K hK => ?_) AllReadyH.nil)
            rw [if_pos (by rfl)]
            go_simp
            have hal := hd1.alloc hd1.size (.cells #[.string ⟨#[]⟩, .string ⟨#[]⟩, .bool false, .string ⟨#[]⟩] 28)
            refine hK.out _ _ (KC.out _ hal) (fun hHeld => ?_)
            clear hK K
            try simp only [Act.put, List.setIfInBounds_toArray, List.set_cons_zero, List.set_cons_succ]
            refine wpAnyH_ready (rs := [18]) (by kernel_rfl) (by simp) (AllReadyH.cons (by simp only [List.getElem?_toArray, List.getElem?_cons_succ, List.getElem?_cons_zero]; exact rfl) (fun K hK => ?_) AllReadyH.nil)
            rw [if_pos (by rfl)]
            go_simp
            have hfin := hd1.alloc hd1.size (.cells #[.string L, .string bv, .bool dh, .string ⟨#[]⟩] 28)
            refine hK.out _ _ (KC.out _ hfin) (fun hHeld => ?_)
            clear hK K
            try simp only [Act.put, List.setIfInBounds_toArray, List.set_cons_zero, List.set_cons_succ]
            have hx1 : (v1.alloc (.cells #[.string L, .string bv, .bool dh, .string ⟨#[]⟩] 28)).heap[v1.heap.size]? = some (.cells #[.string L, .string bv, .bool dh, .string ⟨#[]⟩] 28 (0, 0)) := heap_new v1 _ _ rfl
            refine wpAnyH_done (by kernel_rfl) ?_ _
            clear hHeld
            go_wp2
            go_meet
            exact ⟨_, rfl, Nat.le_trans hd0.size hb1.size, Lib.hid hx1, hfin⟩
          · rw [if_pos (by rfl)]
            go_simp
            have hdA : Below wr.heap.size wr ((wr.alloc (.cells #[.string ⟨#[]⟩, .string ⟨#[]⟩, .bool false, .string ⟨#[]⟩] 28)).drew) := hd0.alloc hd0.size _
            refine hK.out _ _ (KC.out _ hdA) (fun hHeld => ?_)
            clear hK K
            try simp only [Act.put, List.setIfInBounds_toArray, List.set_cons_zero, List.set_cons_succ]
            have hbk : ((wr.alloc (.cells #[.string ⟨#[]⟩, .string ⟨#[]⟩, .bool false, .string ⟨#[]⟩] 28)).drew).heap[wr.heap.size]? = some (.cells #[.string ⟨#[]⟩, .string ⟨#[]⟩, .bool false, .string ⟨#[]⟩] 28 (0, 0)) := heap_new (wr.drew) _ _ rfl
            have hbl : wr.heap.size < ((wr.alloc (.cells #[.string ⟨#[]⟩, .string ⟨#[]⟩, .bool false, .string ⟨#[]⟩] 28)).drew).heap.size := by simp
            obtain ⟨WA, hWA⟩ : ∃ W, ((wr.alloc (.cells #[.string ⟨#[]⟩, .string ⟨#[]⟩, .bool false, .string ⟨#[]⟩] 28)).drew) = W := ⟨_, rfl⟩
            rw [hWA] at hdA hbk hbl ⊢
            rw [hWA] at hHeld
            clear hWA
            refine wpAnyH_ready (rs := [5]) (by kernel_rfl) (by simp) (AllReadyH.cons (by simp only [List.getElem?_toArray, List.getElem?_cons_succ, List.getElem?_cons_zero]; exact rfl) (fun K hK => ?_) AllReadyH.nil)
            rw [if_pos (by rfl)]
            go_simp
            (with_reducible refine (K1.out _).mono ?_)
            rintro e v1 ⟨rfl, hb1⟩
            have hd1 := bt hdA hb1
            go_wp2_with fail
            refine hK.out _ _ (KC.out _ hd1) (fun hHeld => ?_)
            clear hK K
            try simp only [Act.put, List.setIfInBounds_toArray, List.set_cons_zero, List.set_cons_succ]
            refine wpAnyH_take (i := 16) (v := ?_) (by simp only [List.getElem?_toArray, List.getElem?_cons_succ, List.getElem?_cons_zero]; exact rfl) (by kernel_rfl) (by kernel_rfl) (by kernel_rfl) (by intro _ _ _ h; exact h) (Or.inl ⟨by rfl, fun W hSw => ?_⟩) hHeld ?_
            rotate_left
            focus ((try dsimp only at hSw); first | (go_simp; done) | (go_simp; with_reducible rfl))
            try simp only [Act.put, List.setIfInBounds_toArray, List.set_cons_zero, List.set_cons_succ]
            have hbk := (hb1.block wr.heap.size hbl).trans hbk
            have p0 := (of_heap hbk 0).2.1
            have p1 := (of_heap hbk 1).2.1
            have p2 := (of_heap hbk 2).2.1
            have p3 := (of_heap hbk 3).2.1
            have q0 := (of_heap hbk 0).1
            have q1 := (of_heap hbk 1).1
            have q2 := (of_heap hbk 2).1
            have q3 := (of_heap hbk 3).1
            simp only [List.getElem?_toArray, List.getElem?_cons_succ, List.getElem?_cons_zero] at q0 q1 q2 q3
            refine wpAnyH_ready (rs := [18]) (by kernel_rfl) (by simp) (AllReadyH.cons (by simp only [List.getElem?_toArray, List.getElem?_cons_succ, List.getElem?_cons_zero]; exact rfl) (fun K hK => ?_) AllReadyH.nil)
            rw [if_pos (by rfl)]
            go_simp
            have hfin : Below wr.heap.size wr ((((v1.setCell ⟨wr.heap.size, 0, none⟩ (.string L)).setCell ⟨wr.heap.size, 1, none⟩ (.string bv)).setCell ⟨wr.heap.size, 2, none⟩ (.bool dh)).setCell ⟨wr.heap.size, 3, none⟩ (.string ⟨#[]⟩)) := (((hd1.setCell (p := ⟨wr.heap.size, 0, none⟩) (Nat.le_refl _) _).setCell (p := ⟨wr.heap.size, 1, none⟩) (Nat.le_refl _) _).setCell (p := ⟨wr.heap.size, 2, none⟩) (Nat.le_refl _) _).setCell (p := ⟨wr.heap.size, 3, none⟩) (Nat.le_refl _) _
            refine hK.out _ _ (KC.out _ hfin) (fun hHeld => ?_)
            clear hK K
            try simp only [Act.put, List.setIfInBounds_toArray, List.set_cons_zero, List.set_cons_succ]
            have hx0 := heap_setD (j := 3) (v := .string ⟨#[]⟩) (heap_setD (j := 2) (v := .bool dh) (heap_setD (j := 1) (v := .string bv) (heap_setD (j := 0) (v := .string L) hbk)))
            simp only [List.setIfInBounds_toArray, List.set_cons_zero, List.set_cons_succ] at hx0
            refine wpAnyH_done (by kernel_rfl) ?_ _
            clear hHeld
            go_wp2
            go_meet
            exact ⟨_, rfl, Nat.le_refl _, Lib.hid hx0, hfin⟩
        case rest =>
          obtain ⟨T, rfl, hT, XT, hcb⟩ := hcut
          have hTw := Nat.le_trans hbw.size hT
          have hTl := (of_heap XT.out 0).2.2
          have HCB := Lib.hid hcb
          have HBW := Lib.hid hbw
          clear hcb K1 KC hbl2
          have k2 := fun W => quote_wide bv W (by omega)
          have k3 := fun W => token_wide L W (by omega)
          have K3 := Lib.hid k3; clear k3
          have hsum : L.size + bv.size ≤ 4000000 := by omega
          cases hq : quoteO bv with
          | none =>
            rw [hq, show two none = .tuple #[.string ⟨#[]⟩, .int .i64 4] from rfl] at k2
            have K2 := Lib.hid k2; clear k2
            have f0 := (of_heap XT.out 0).1; have f1 := (of_heap XT.out 1).1; have f2 := (of_heap XT.out 2).1; have f3 := (of_heap XT.out 3).1
            have fz := (of_heap XT.out 1).2.1
            simp only [List.getElem?_toArray, List.getElem?_cons_succ, List.getElem?_cons_zero] at f0 f1 f2 f3
            go_wp2_with fail
            (with_reducible refine (K2.out _).mono ?_)
            rintro e v2 ⟨rfl, hb2⟩
            clear f0 f1 f2 f3 fz
            have x2 := (hb2.block T hTl).trans XT.out
            have hcb2 := bt HCB.out hb2
            clear XT
            have f0 := (of_heap x2 0).1; have f1 := (of_heap x2 1).1; have f2 := (of_heap x2 2).1; have f3 := (of_heap x2 3).1
            have fz := (of_heap x2 1).2.1
            simp only [List.getElem?_toArray, List.getElem?_cons_succ, List.getElem?_cons_zero] at f0 f1 f2 f3
            cases htk : tokenL L.data.toList
            all_goals
              rw [htk] at K3
              go_wp2_with fail
              (with_reducible refine (K3.out _).mono ?_)
              rintro e w' ⟨rfl, rfl⟩
              try rw [htk]
              go_wp2
              go_roundw
              case rel => exact ⟨k + 1, S, ds, by omega, by go_num, rfl, by omega, by omega, Lib.hid (HBK.out.grow (by omega)), Lib.hid (HO.out.below hcb2), bt HBW.out hcb2⟩
              case measure => simp [intOf]; omega
          | some q =>
            rw [hq, show two (some q) = .tuple #[.string ⟨q.toArray⟩, .int .i64 0] from rfl] at k2
            have K2 := Lib.hid k2; clear k2
            have f0 := (of_heap XT.out 0).1; have f1 := (of_heap XT.out 1).1; have f2 := (of_heap XT.out 2).1; have f3 := (of_heap XT.out 3).1
            have fz := (of_heap XT.out 1).2.1
            simp only [List.getElem?_toArray, List.getElem?_cons_succ, List.getElem?_cons_zero] at f0 f1 f2 f3
            go_wp2_with fail
            (with_reducible refine (K2.out _).mono ?_)
            rintro e v2 ⟨rfl, hb2⟩
            clear f0 f1 f2 f3 fz
            have x2 := (hb2.block T hTl).trans XT.out
            have hcb2 := bt HCB.out hb2
            clear XT
            have f0 := (of_heap x2 0).1; have f1 := (of_heap x2 1).1; have f2 := (of_heap x2 2).1; have f3 := (of_heap x2 3).1
            have fz := (of_heap x2 1).2.1
            simp only [List.getElem?_toArray, List.getElem?_cons_succ, List.getElem?_cons_zero] at f0 f1 f2 f3
            cases htk : tokenL L.data.toList
            · rw [htk] at K3
              go_wp2_with fail
              (with_reducible refine (K3.out _).mono ?_)
              rintro e w' ⟨rfl, rfl⟩
              try rw [htk]
              go_wp2
              go_roundw
              case rel => exact ⟨k + 1, S, ds, by omega, by go_num, rfl, by omega, by omega, Lib.hid (HBK.out.grow (by omega)), Lib.hid (HO.out.below hcb2), bt HBW.out hcb2⟩
              case measure => simp [intOf]; omega
            · rw [htk] at K3
              cases hz : decide (200 < ((L.size : Int) + (bv.size : Int)))
              case true =>
                go_wp2_with fail
                (with_reducible refine (K3.out _).mono ?_)
                rintro e w' ⟨rfl, rfl⟩
                try rw [htk]
                go_wp2
                go_roundw
                case rel => exact ⟨k + 1, S, ds, by omega, by go_num, rfl, by omega, by omega, Lib.hid (HBK.out.grow (by omega)), Lib.hid (HO.out.below hcb2), bt HBW.out hcb2⟩
                case measure => simp [intOf]; omega
              case false =>
                have hz2 : L.size + bv.size ≤ 200 := by simp at hz; omega
                have hql := quote_len hq
                go_wp2_with fail
                (with_reducible refine (K3.out _).mono ?_)
                rintro e w' ⟨rfl, rfl⟩
                obtain ⟨Q, hQ⟩ : ∃ Q : ByteArray, (⟨q.toArray⟩ : ByteArray) = Q := ⟨_, rfl⟩
                have hQl : Q.data.toList = q := by rw [← hQ]
                have hQs : Q.size ≤ 402 := by rw [Lib.size_eq, hQl]; omega
                rw [hQ]
                have HQ := Lib.hid hq; have HTK := Lib.hid htk; have HQL := Lib.hid hQl; have HX2 := Lib.hid x2; have HCB2 := Lib.hid hcb2
                clear hq htk hQ hQl hql
                go_upto_if 84 with (fail)
                go_cut [8] from 31 to 123 (fun s8 wx => ∃ (S2 bv2 : ByteArray), s8 = .string S2 ∧ S2.size ≤ S.size + 603 ∧ Hid (PieceAt S.data.toList S2.data.toList L.data.toList bv2.data.toList dh) ∧ Hid (wx.heap[T]? = some (.cells #[.string L, .string bv2, .bool dh, .string ⟨#[]⟩] 28 (0, 0))) ∧ Below wr.heap.size wr wx)
                case first =>
                  cases dh
                  · go_wp2
                    go_meet
                    have h0 := heap_setD (j := 1) (v := .string ⟨#[]⟩) HX2.out
                    simp only [List.setIfInBounds_toArray, List.set_cons_zero, List.set_cons_succ] at h0
                    refine ⟨S ++ L, ⟨#[]⟩, rfl, by rw [ByteArray.size_append]; omega, Lib.hid ?_, Lib.hid h0, HCB2.out.setCell (p := ⟨T, 1, none⟩) hT _⟩
                    rw [app_list]; exact piece_alone HTK.out HLL.out
                  · rcases Nat.eq_zero_or_pos bs.length with h0 | h0
                    · have q1 : decide (0 < (bs.length : Int)) = false := decide_eq_false (by omega)
                      go_wp2
                      go_meet
                      have z1 : (⟨#[61]⟩ : ByteArray).size = 1 := rfl
                      refine ⟨S ++ L ++ ⟨#[61]⟩ ++ Q, bv, rfl, by simp only [ByteArray.size_append]; omega, Lib.hid ?_, HX2, HCB2.out⟩
                      rw [app_list, app_list, app_list, HQL.out]; exact piece_quoted HTK.out HLL.out HQ.out
                    · obtain ⟨b2, o2, rfl, hb2l, hbc⟩ := HBI.out h0
                      have hj := Nat.mod_lt k h0
                      have hc4 := ((bt HBW.out HCB2.out).cell (p := ⟨b2, o2 + k % bs.length, none⟩) hb2l).trans (hbc _ _ (List.getElem?_eq_getElem hj))
                      generalize bs[k % bs.length] = x at *
                      have q1 : decide (0 < (bs.length : Int)) = true := decide_eq_true (by omega)
                      have q2 : Int.tmod (k : Int) (bs.length : Int) = ((k % bs.length : Nat) : Int) := by rw [Int.tmod_eq_emod_of_nonneg (by omega)]; rfl
                      have q3 : ((k % bs.length : Nat) : Int) < (bs.length : Int) := by omega
                      have q4 : (0 : Int) ≤ ((k % bs.length : Nat) : Int) := by omega
                      have q5 : ((bs.length : Int) == 0) = false := by rw [beq_eq_false_iff_ne]; omega
                      have q6 := x.toNat_lt
                      generalize k % bs.length = kj at *
                      have q7 : ∀ b, ((x.toNat : Int) % 2 == 1) = b → (Int.tmod (x.toNat : Int) 2 == 1) = b := fun b h => by rw [Int.tmod_eq_emod_of_nonneg (by omega)]; exact h
                      cases hod : ((x.toNat : Int) % 2 == 1)
                      all_goals have q8 := q7 _ hod
                      all_goals clear q7
                      · go_wp2
                        go_meet
                        have z1 : (⟨#[61]⟩ : ByteArray).size = 1 := rfl
                        refine ⟨S ++ L ++ ⟨#[61]⟩ ++ Q, bv, rfl, by simp only [ByteArray.size_append]; omega, Lib.hid ?_, HX2, HCB2.out⟩
                        rw [app_list, app_list, app_list, HQL.out]; exact piece_quoted HTK.out HLL.out HQ.out
                      · have k4 := fun W => token_wide bv W (by omega)
                        cases htv : tokenL bv.data.toList
                        · rw [htv] at k4
                          have K4 := Lib.hid k4; have HTV := Lib.hid htv; clear k4 htv
                          go_wp2_with (go_at_call 8; (with_reducible refine (K4.out _).mono ?_); rintro e w' ⟨rfl, rfl⟩)
                          go_meet
                          have z1 : (⟨#[61]⟩ : ByteArray).size = 1 := rfl
                          refine ⟨S ++ L ++ ⟨#[61]⟩ ++ Q, bv, rfl, by simp only [ByteArray.size_append]; omega, Lib.hid ?_, HX2, HCB2.out⟩
                          rw [app_list, app_list, app_list, HQL.out]; exact piece_quoted HTK.out HLL.out HQ.out
                        · rw [htv] at k4
                          have K4 := Lib.hid k4; have HTV := Lib.hid htv; clear k4 htv
                          go_wp2_with (go_at_call 8; (with_reducible refine (K4.out _).mono ?_); rintro e w' ⟨rfl, rfl⟩)
                          go_meet
                          have z1 : (⟨#[61]⟩ : ByteArray).size = 1 := rfl
                          refine ⟨S ++ L ++ ⟨#[61]⟩ ++ bv, bv, rfl, by simp only [ByteArray.size_append]; omega, Lib.hid ?_, HX2, HCB2.out⟩
                          rw [app_list, app_list, app_list]; exact piece_bare HTK.out HLL.out HTV.out
                case rest =>
                  obtain ⟨S2, bv2, rfl, hS2, HP, X3, hcb3⟩ := hcut
                  have h0 := (of_heap X3.out 0).1; have h1 := (of_heap X3.out 1).1; have h2 := (of_heap X3.out 2).1; have h3 := (of_heap X3.out 3).1
                  have hz := (of_heap X3.out 1).2.1
                  simp only [List.getElem?_toArray, List.getElem?_cons_succ, List.getElem?_cons_zero] at h0 h1 h2 h3
                  have hHO3 := HO.out.below hcb3
                  have hB3 := HBW.out.trans (hcb3.mono HBW.out.size)
                  have hn9 : ds.length ≤ 1000000000 := by omega
                  go_wp2_with (at_builtin; refine app_dir w.heap.size ⟨L.data.toList, bv2.data.toList, dh, []⟩ hHO3 hB3.size hn9 rfl _ _ rfl rfl rfl ?_)
                  intro v5 w5 hO5 hb5 hfar5
                  go_wp2
                  go_roundw
                  have z1 : (⟨#[44]⟩ : ByteArray).size = 1 := rfl
                  case rel =>
                    refine ⟨k + 1, S2 ++ G ++ ⟨#[44]⟩ ++ G, ds ++ [⟨L.data.toList, bv2.data.toList, dh, []⟩], by omega, by go_num, rfl, by simp only [ByteArray.size_append]; omega, by rw [List.length_append, List.length_singleton]; omega, Lib.hid ?_, Lib.hid hO5, hB3.trans hb5⟩
                    obtain ⟨pc, e1, e2, e3⟩ := HP.out
                    have h := HBK.out.piece HG.out e1 e2
                    rw [app_list, app_list, app_list, e3]
                    simpa [List.append_assoc] using h
                  case measure => simp [intOf]; omega
      · have hke : k = xs.length := by omega
        subst hke
        have hdl := HBK.out.all HG.out (by omega)
        obtain ⟨wa, wcap, rfl⟩ := HO.out.shape
        have hal := hbw.alloc hbw.size (.cells #[.string S] 9)
        have kd := dlist_any (some ⟨wr.heap.size, 0, none⟩) 1 1 [S.data.toList] (wr.alloc (.cells #[.string S] 9)) (HM.out.below hal) (by have h := Rd.newS1 wr S.data.toList 9; rw [str_of] at h; exact h) (by omega) (by intro v hv; rw [List.mem_singleton.1 hv, ← Lib.size_eq]; omega)
        rw [hdl] at kd
        have KD := Lib.hid kd; clear kd hdl
        have t1 : decide ((xs.length : Int) < (xs.length : Int)) = false := by simp
        go_wp2_with fail
        (with_reducible refine KD.out.mono ?_)
        rintro e w3 ⟨ga, gcap, rfl, ho3, hb3⟩
        clear KD
        have HW4 : Hid (OwnD w.heap.size (.slice wa ds.length wcap) ds w3) := Lib.hid ((HO.out.below ((Below.refl _ wr).alloc (Nat.le_refl _) _)).below hb3)
        have HG4 := Lib.hid ho3
        have hbw4 := bt hal hb3
        clear hb3 ho3 hal HO hbw HBK
        go_wp2_with fail
        go_loopw [15] (fun i wr2 => ∃ j : Nat, j ≤ ds.length ∧ i = .int .i64 j ∧ Below w.heap.size w wr2 ∧ Hid (OwnD w.heap.size (.slice wa ds.length wcap) ds wr2) ∧ Hid (OwnD _ (.slice ga ds.length gcap) ds wr2)) (fun i _ => ds.length - (intOf i).toNat)
        case atStart => exact ⟨0, Nat.zero_le _, rfl, hbw4, HW4, HG4⟩
        case round =>
          clear HW4 HG4 hbw4
          obtain ⟨j, hj, rfl, hbm, HO, HGO⟩ := hrel
          by_cases hlj : j < ds.length
          · obtain ⟨b1, o1, rfl, _, c1, c2, c3, c4⟩ := (HO.out.rd.2).dir_at (k := j) hlj
            obtain ⟨b2, o2, rfl, _, d1, d2, d3, d4⟩ := (HGO.out.rd.2).dir_at (k := j) hlj
            generalize ds[j] = f at *
            obtain ⟨f1, f2, f3, f4⟩ := f
            simp only at c1 c2 c3 c4 d1 d2 d3 d4
            have t1 : decide ((j : Int) < (ds.length : Int)) = true := by simp; omega
            go_wp2
            go_quiet (fail)
            go_wp2
            go_roundw
            case rel => exact ⟨j + 1, by omega, by go_num, Go.below_drewN hbm _, HO, HGO⟩
            case measure => simp [intOf]; omega
          · have hje : j = ds.length := by omega
            subst hje
            have t1 : decide ((ds.length : Int) < (ds.length : Int)) = false := by simp
            have ka := awake11_any _ (HM.out.below hbm)
            go_wp2_with fail
            (with_reducible refine ka.mono ?_)
            rintro e w9 ⟨rfl, hb9⟩
            go_wp2
            go_ret
            exact ⟨rfl, bt hbm hb9⟩
  · have ka := awake11_any w HM.out
    go_enter Tryd.func3, Tryd.ntmps3
    go_wp2_with fail
    (with_reducible refine ka.mono ?_)
    rintro e w9 ⟨rfl, hb9⟩
    go_wp2
    go_ret
    exact ⟨rfl, hb9⟩
end Go.Proofs.YtfjgacankfidmaaDoor
