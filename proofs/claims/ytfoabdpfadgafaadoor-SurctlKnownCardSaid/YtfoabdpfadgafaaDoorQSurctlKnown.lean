/- Joined out of the texts RSurMine, RDelta, RSurOf, RSurO, SurTells, SurKnown (wip/tools/merge.py). -/
import Derived.Test.YtfoabdpfadgafaaDoorPa3
import Derived.Deep.RegionHeld3
import Derived.IntWalk
/- The walk of the document's Mine (layer 12). -/
namespace Go.Proofs.YtfoabdpfadgafaaDoor
open Go.RowKit
set_option maxRecDepth 100000

theorem Rd.drewN {A : Option Addr} {n size : Nat} {xs : List Value} {w : World} (h : Rd A n size xs w) (q : Nat) : Rd A n size xs (w.drewN q) := h
theorem drewN_one (w : World) (a : Nat) : ∃ q, (w.drewN a).drew = w.drewN q := ⟨a + 1, rfl⟩
theorem below_drewNK {B : Nat} {a w : World} (h : Below B a w) (n : Nat) : Below B a (w.drewN n) := h.trans ⟨rfl, rfl, rfl, Nat.le_refl _, fun _ _ => rfl⟩
set_option maxHeartbeats 16000000 in
theorem rmine_any (A : Option Addr) (n c : Nat) (xs : List Dir) (dev : ByteArray) (w : World) (hr : Rd A n 4 (dirsV xs) w) (hn : n ≤ 1000000) :
    Calls Tryd.prog 31 #[.slice A n c, .string dev] w (DirsPost w (mineL xs dev.data.toList)) := by
  obtain rfl := hr.dir
  have hS : DSt4 w.heap.size (.slice none 0 0) [] A xs w := ⟨OwnD.nil _ _, hr, fun _ g o e x => by cases x⟩
  have hB := Below.refl w.heap.size w
  have hstep := fun k (h : k < xs.length) => filter_take (mineB xs dev.data.toList) xs k h
  have hlen : ∀ k, ((xs.take k).filter (mineB xs dev.data.toList)).length ≤ xs.length := fun k => by
    have h1 := List.length_filter_le (mineB xs dev.data.toList) (xs.take k)
    have h2 : (xs.take k).length ≤ xs.length := by rw [List.length_take]; omega
    omega
  have hfin : mineL xs dev.data.toList = (xs.take xs.length).filter (mineB xs dev.data.toList) := by rw [List.take_length]; rfl
  have h00 : (xs.take 0).filter (mineB xs dev.data.toList) = [] := rfl
  have hmb : ∀ d, mineB xs dev.data.toList d = (ownB dev.data.toList d || (d.for_.isEmpty && !xs.any fun x => ownB dev.data.toList x && x.name == d.name)) := fun d => rfl
  have hown : ∀ d, ownB dev.data.toList d = (!dev.toList.isEmpty && d.for_ == dev.toList) := fun d => by rw [Lib.toList_data]; rfl
  have hany : ∀ (q : Dir → Bool) k (h : k < xs.length), (xs.take (k + 1)).any q = ((xs.take k).any q || q xs[k]) := fun q k h => by
    rw [List.take_succ_eq_append_getElem h, List.any_append]; simp
  have hall : ∀ (q : Dir → Bool), (xs.take xs.length).any q = xs.any q := fun q => by rw [List.take_length]
  generalize mineB xs dev.data.toList = mb at *
  generalize ownB dev.data.toList = ow at *
  rw [hfin]
  clear hfin
  have HS := Lib.hid hS; have HSTEP := Lib.hid hstep; have HLEN := Lib.hid hlen; have H00 := Lib.hid h00; have HMB := Lib.hid hmb; have HOW := Lib.hid hown; have HANY := Lib.hid hany; have HALL := Lib.hid hall
  clear hS hstep hlen h00 hmb hr hown hany hall
  cases hde : dev.toList.isEmpty
  · go_enter Tryd.func31, Tryd.ntmps31
    go_wp2_with fail
    go_loopw [6, 5] (fun i out wr => ∃ k : Nat, k ≤ xs.length ∧ i = .int .i64 k ∧ Hid (DSt4 w.heap.size out ((xs.take k).filter mb) A xs wr) ∧ Below w.heap.size w wr) (fun i _ _ => xs.length - (intOf i).toNat)
    case atStart => exact ⟨0, Nat.zero_le _, rfl, by rw [H00.out]; exact HS, hB⟩
    case round =>
      clear HS hB H00
      obtain ⟨k, hk, rfl, HO, hbw⟩ := hrel
      obtain ⟨oa, oc, rfl⟩ := HO.out.1.shape
      have hal := HLEN.out k
      by_cases hlt : k < xs.length
      · obtain ⟨b, o, rfl, hl, c0, c1, c2, c3⟩ := HO.out.2.1.dir_at (k := k) hlt
        have hst := HSTEP.out k hlt
        have hmb := HMB.out xs[k]
        have how := HOW.out xs[k]
        have HRD := Lib.hid HO.out.2.1
        generalize xs[k] = d at *
        generalize (xs.take k).filter mb = acc at *
        obtain ⟨dn, dv, dh, df⟩ := d
        simp only at c0 c1 c2 c3 hmb how
        have hlen2 : acc.length ≤ 1000000000 := by omega
        have t1 : decide ((k : Int) < (xs.length : Int)) = true := by simp; omega
        have HST := Lib.hid hst; have HMB2 := Lib.hid hmb; have HOW2 := Lib.hid how
        clear hst hmb how HSTEP HLEN HMB
        go_wp2_with fail
        obtain ⟨wo, rfl⟩ : ∃ wo : World, wo = wr := ⟨_, rfl⟩
        go_loopw [8, 7] (fun j ow2 wi => ∃ m : Nat, m ≤ xs.length ∧ j = .int .i64 m ∧ (∃ q : Bool, ow2 = .bool q ∧ Hid (q = (xs.take m).any fun x => ow x && x.name == dn)) ∧ (∃ qn, wi = wo.drewN qn)) (fun j _ _ => xs.length - (intOf j).toNat)
        case atStart => exact ⟨0, Nat.zero_le _, rfl, ⟨false, rfl, Lib.hid (by simp)⟩, ⟨0, rfl⟩⟩
        case round =>
          obtain ⟨m, hm, rfl, ⟨q, rfl, HQ⟩, ⟨qn, rfl⟩⟩ := hrel
          have hsz : Below w.heap.size w (wo.drewN qn) := below_drewNK hbw qn
          by_cases hlm : m < xs.length
          · obtain ⟨b2, o2, e2, hl2, x0, x1, x2, x3⟩ := (HRD.out.drewN qn).dir_at (k := m) hlm
            cases e2
            have d0 : (wo.drewN qn).cell? ⟨b, o + k * 4, none⟩ = some (.string ⟨dn.toArray⟩) := c0
            have hox := HOW.out xs[m]
            have hnx := HANY.out (fun x => ow x && x.name == dn) m hlm
            rw [← HQ.out] at hnx
            generalize xs[m] = x at *
            obtain ⟨xn, xv, xh, xf⟩ := x
            simp only at x0 x1 x2 x3 hox hnx
            rw [hox, hde] at hnx
            have t2 : decide ((m : Int) < (xs.length : Int)) = true := by simp; omega
            have HNX := Lib.hid hnx
            clear hox hnx HQ
            cases q
            · cases e1 : (xf == dev.toList)
              · rw [e1] at HNX
                have HN : Hid (false = (xs.take (m + 1)).any fun x => ow x && x.name == dn) := Lib.hid (by rw [HNX.out]; rfl)
                clear HNX
                go_wp2
                refine wp_region_held_drew (S := (fun w' => w'.cell? ⟨b, o + m * 4, none⟩ = some (.string ⟨xn.toArray⟩) ∧ w'.cell? ⟨b, o + m * 4 + 3, none⟩ = some (.string ⟨xf.toArray⟩) ∧ w'.cell? ⟨b, o + k * 4, none⟩ = some (.string ⟨dn.toArray⟩))) (by kernel_rfl) (⟨x0, x3, d0⟩) (fun hHeld => ?_)
                refine wpAnyH_take (i := 0) (v := ?_) (by simp only [List.getElem?_toArray, List.getElem?_cons_zero]; exact rfl) (by kernel_rfl) (by kernel_rfl) (by kernel_rfl) (by intro _ _ _ h; exact h) (Or.inl ⟨by rfl, fun W hSw => ?_⟩) hHeld ?_
                rotate_left
                focus ((try dsimp only at hSw); first | (go_simp; done) | (go_simp; with_reducible rfl))
                try simp only [Act.put, List.setIfInBounds_toArray, List.set_cons_zero, List.set_cons_succ]
                refine wpAnyH_take (i := 1) (v := ?_) (by simp only [List.getElem?_toArray, List.getElem?_cons_succ, List.getElem?_cons_zero]; exact rfl) (by kernel_rfl) (by kernel_rfl) (by kernel_rfl) (by intro _ _ _ h; exact h) (Or.inl ⟨by rfl, fun W hSw => ?_⟩) hHeld ?_
                rotate_left
                focus ((try dsimp only at hSw); first | (go_simp; done) | (go_simp; with_reducible rfl))
                try simp only [Act.put, List.setIfInBounds_toArray, List.set_cons_zero, List.set_cons_succ]
                refine wpAnyH_take (i := 2) (v := ?_) (by simp only [List.getElem?_toArray, List.getElem?_cons_succ, List.getElem?_cons_zero]; exact rfl) (by kernel_rfl) (by kernel_rfl) (by kernel_rfl) (by intro _ _ _ h; exact h) (Or.inl ⟨by rfl, fun W hSw => ?_⟩) hHeld ?_
                rotate_left
                focus ((try dsimp only at hSw); first | (go_simp; done) | (go_simp; with_reducible rfl))
                try simp only [Act.put, List.setIfInBounds_toArray, List.set_cons_zero, List.set_cons_succ]
                refine wpAnyH_take (i := 3) (v := ?_) (by simp only [List.getElem?_toArray, List.getElem?_cons_succ, List.getElem?_cons_zero]; exact rfl) (by kernel_rfl) (by kernel_rfl) (by kernel_rfl) (by intro _ _ _ h; exact h) (Or.inl ⟨by rfl, fun W hSw => ?_⟩) hHeld ?_
                rotate_left
                focus ((try dsimp only at hSw); first | (go_simp; done) | (go_simp; with_reducible rfl))
                try simp only [Act.put, List.setIfInBounds_toArray, List.set_cons_zero, List.set_cons_succ]
                refine wpAnyH_take (i := 4) (v := ?_) (by simp only [List.getElem?_toArray, List.getElem?_cons_succ, List.getElem?_cons_zero]; exact rfl) (by kernel_rfl) (by kernel_rfl) (by kernel_rfl) (by intro _ _ _ h; exact h) (Or.inl ⟨by rfl, fun W hSw => ?_⟩) hHeld ?_
                rotate_left
                focus ((try dsimp only at hSw); first | (go_simp; done) | (go_simp; with_reducible rfl))
                try simp only [Act.put, List.setIfInBounds_toArray, List.set_cons_zero, List.set_cons_succ]
                refine wpAnyH_take (i := 5) (v := ?_) (by simp only [List.getElem?_toArray, List.getElem?_cons_succ, List.getElem?_cons_zero]; exact rfl) (by kernel_rfl) (by kernel_rfl) (by kernel_rfl) (by intro _ _ _ h; exact h) (Or.inl ⟨by rfl, fun W hSw => ?_⟩) hHeld ?_
                rotate_left
                focus ((try dsimp only at hSw); first | (go_simp; done) | (go_simp; with_reducible rfl))
                try simp only [Act.put, List.setIfInBounds_toArray, List.set_cons_zero, List.set_cons_succ]
                refine wpAnyH_take (i := 6) (v := ?_) (by simp only [List.getElem?_toArray, List.getElem?_cons_succ, List.getElem?_cons_zero]; exact rfl) (by kernel_rfl) (by kernel_rfl) (by kernel_rfl) (by intro _ _ _ h; exact h) (Or.inl ⟨by rfl, fun W hSw => ?_⟩) hHeld ?_
                rotate_left
                focus ((try dsimp only at hSw); first | (go_simp; done) | (go_simp; with_reducible rfl))
                try simp only [Act.put, List.setIfInBounds_toArray, List.set_cons_zero, List.set_cons_succ]
                refine wpAnyH_take (i := 7) (v := ?_) (by simp only [List.getElem?_toArray, List.getElem?_cons_succ, List.getElem?_cons_zero]; exact rfl) (by kernel_rfl) (by kernel_rfl) (by kernel_rfl) (by intro _ _ _ h; exact h) (Or.inl ⟨by rfl, fun W hSw => ?_⟩) hHeld ?_
                rotate_left
                focus ((try dsimp only at hSw); first | (go_simp; done) | (go_simp; with_reducible rfl))
                try simp only [Act.put, List.setIfInBounds_toArray, List.set_cons_zero, List.set_cons_succ]
                refine wpAnyH_take (i := 8) (v := ?_) (by simp only [List.getElem?_toArray, List.getElem?_cons_succ, List.getElem?_cons_zero]; exact rfl) (by kernel_rfl) (by kernel_rfl) (by kernel_rfl) (by intro _ _ _ h; exact h) (Or.inl ⟨by rfl, fun W hSw => ?_⟩) hHeld ?_
                rotate_left
                focus ((try dsimp only at hSw); first | (go_simp; done) | (go_simp; with_reducible rfl))
                try simp only [Act.put, List.setIfInBounds_toArray, List.set_cons_zero, List.set_cons_succ]
                refine wpAnyH_take (i := 9) (v := ?_) (by simp only [List.getElem?_toArray, List.getElem?_cons_succ, List.getElem?_cons_zero]; exact rfl) (by kernel_rfl) (by kernel_rfl) (by kernel_rfl) (by intro _ _ _ h; exact h) (Or.inl ⟨by rfl, fun W hSw => ?_⟩) hHeld ?_
                rotate_left
                focus ((try dsimp only at hSw); first | (go_simp; done) | (go_simp; with_reducible rfl))
                try simp only [Act.put, List.setIfInBounds_toArray, List.set_cons_zero, List.set_cons_succ]
                refine wpAnyH_take (i := 10) (v := ?_) (by simp only [List.getElem?_toArray, List.getElem?_cons_succ, List.getElem?_cons_zero]; exact rfl) (by kernel_rfl) (by kernel_rfl) (by kernel_rfl) (by intro _ _ _ h; exact h) (Or.inl ⟨by rfl, fun W hSw => ?_⟩) hHeld ?_
                rotate_left
                focus ((try dsimp only at hSw); first | (go_simp; done) | (go_simp; with_reducible rfl))
                try simp only [Act.put, List.setIfInBounds_toArray, List.set_cons_zero, List.set_cons_succ]
                refine wpAnyH_take (i := 11) (v := ?_) (by simp only [List.getElem?_toArray, List.getElem?_cons_succ, List.getElem?_cons_zero]; exact rfl) (by kernel_rfl) (by kernel_rfl) (by kernel_rfl) (by intro _ _ _ h; exact h) (Or.inl ⟨by rfl, fun W hSw => ?_⟩) hHeld ?_
                rotate_left
                focus ((try dsimp only at hSw); first | (go_simp; done) | (go_simp; with_reducible rfl))
                try simp only [Act.put, List.setIfInBounds_toArray, List.set_cons_zero, List.set_cons_succ]
                refine wpAnyH_take (i := 12) (v := ?_) (by simp only [List.getElem?_toArray, List.getElem?_cons_succ, List.getElem?_cons_zero]; exact rfl) (by kernel_rfl) (by kernel_rfl) (by kernel_rfl) (by intro _ _ _ h; exact h) (Or.inl ⟨by rfl, fun W hSw => ?_⟩) hHeld ?_
                rotate_left
                focus ((try dsimp only at hSw); first | (go_simp; done) | (go_simp; with_reducible rfl))
                try simp only [Act.put, List.setIfInBounds_toArray, List.set_cons_zero, List.set_cons_succ]
                refine wpAnyH_take (i := 13) (v := ?_) (by simp only [List.getElem?_toArray, List.getElem?_cons_succ, List.getElem?_cons_zero]; exact rfl) (by kernel_rfl) (by kernel_rfl) (by kernel_rfl) (by intro _ _ _ h; exact h) (Or.inl ⟨by rfl, fun W hSw => ?_⟩) hHeld ?_
                rotate_left
                focus ((try dsimp only at hSw); first | (go_simp; done) | (go_simp; with_reducible rfl))
                try simp only [Act.put, List.setIfInBounds_toArray, List.set_cons_zero, List.set_cons_succ]
                refine wpAnyH_take (i := 14) (v := undef) (by simp only [List.getElem?_toArray, List.getElem?_cons_succ, List.getElem?_cons_zero]; exact rfl) (by kernel_rfl) (by kernel_rfl) (by kernel_rfl) (by intro _ _ _ h; exact h) (Or.inr ⟨by rfl, rfl⟩) hHeld ?_
                try simp only [Act.put, List.setIfInBounds_toArray, List.set_cons_zero, List.set_cons_succ]
                refine wpAnyH_take (i := 15) (v := undef) (by simp only [List.getElem?_toArray, List.getElem?_cons_succ, List.getElem?_cons_zero]; exact rfl) (by kernel_rfl) (by kernel_rfl) (by kernel_rfl) (by intro _ _ _ h; exact h) (Or.inr ⟨by rfl, rfl⟩) hHeld ?_
                try simp only [Act.put, List.setIfInBounds_toArray, List.set_cons_zero, List.set_cons_succ]
                refine wpAnyH_take (i := 16) (v := undef) (by simp only [List.getElem?_toArray, List.getElem?_cons_succ, List.getElem?_cons_zero]; exact rfl) (by kernel_rfl) (by kernel_rfl) (by kernel_rfl) (by intro _ _ _ h; exact h) (Or.inr ⟨by rfl, rfl⟩) hHeld ?_
                try simp only [Act.put, List.setIfInBounds_toArray, List.set_cons_zero, List.set_cons_succ]
                refine wpAnyH_take (i := 17) (v := undef) (by simp only [List.getElem?_toArray, List.getElem?_cons_succ, List.getElem?_cons_zero]; exact rfl) (by kernel_rfl) (by kernel_rfl) (by kernel_rfl) (by intro _ _ _ h; exact h) (Or.inr ⟨by rfl, rfl⟩) hHeld ?_
                try simp only [Act.put, List.setIfInBounds_toArray, List.set_cons_zero, List.set_cons_succ]
                refine wpAnyH_take (i := 18) (v := undef) (by simp only [List.getElem?_toArray, List.getElem?_cons_succ, List.getElem?_cons_zero]; exact rfl) (by kernel_rfl) (by kernel_rfl) (by kernel_rfl) (by intro _ _ _ h; exact h) (Or.inr ⟨by rfl, rfl⟩) hHeld ?_
                try simp only [Act.put, List.setIfInBounds_toArray, List.set_cons_zero, List.set_cons_succ]
                refine wpAnyH_take (i := 19) (v := undef) (by simp only [List.getElem?_toArray, List.getElem?_cons_succ, List.getElem?_cons_zero]; exact rfl) (by kernel_rfl) (by kernel_rfl) (by kernel_rfl) (by intro _ _ _ h; exact h) (Or.inr ⟨by rfl, rfl⟩) hHeld ?_
                try simp only [Act.put, List.setIfInBounds_toArray, List.set_cons_zero, List.set_cons_succ]
                refine wpAnyH_take (i := 20) (v := undef) (by simp only [List.getElem?_toArray, List.getElem?_cons_succ, List.getElem?_cons_zero]; exact rfl) (by kernel_rfl) (by kernel_rfl) (by kernel_rfl) (by intro _ _ _ h; exact h) (Or.inr ⟨by rfl, rfl⟩) hHeld ?_
                try simp only [Act.put, List.setIfInBounds_toArray, List.set_cons_zero, List.set_cons_succ]
                refine wpAnyH_take (i := 21) (v := undef) (by simp only [List.getElem?_toArray, List.getElem?_cons_succ, List.getElem?_cons_zero]; exact rfl) (by kernel_rfl) (by kernel_rfl) (by kernel_rfl) (by intro _ _ _ h; exact h) (Or.inr ⟨by rfl, rfl⟩) hHeld ?_
                try simp only [Act.put, List.setIfInBounds_toArray, List.set_cons_zero, List.set_cons_succ]
                refine wpAnyH_take (i := 22) (v := undef) (by simp only [List.getElem?_toArray, List.getElem?_cons_succ, List.getElem?_cons_zero]; exact rfl) (by kernel_rfl) (by kernel_rfl) (by kernel_rfl) (by intro _ _ _ h; exact h) (Or.inr ⟨by rfl, rfl⟩) hHeld ?_
                try simp only [Act.put, List.setIfInBounds_toArray, List.set_cons_zero, List.set_cons_succ]
                refine wpAnyH_take (i := 23) (v := undef) (by simp only [List.getElem?_toArray, List.getElem?_cons_succ, List.getElem?_cons_zero]; exact rfl) (by kernel_rfl) (by kernel_rfl) (by kernel_rfl) (by intro _ _ _ h; exact h) (Or.inr ⟨by rfl, rfl⟩) hHeld ?_
                try simp only [Act.put, List.setIfInBounds_toArray, List.set_cons_zero, List.set_cons_succ]
                refine wpAnyH_take (i := 24) (v := undef) (by simp only [List.getElem?_toArray, List.getElem?_cons_succ, List.getElem?_cons_zero]; exact rfl) (by kernel_rfl) (by kernel_rfl) (by kernel_rfl) (by intro _ _ _ h; exact h) (Or.inr ⟨by rfl, rfl⟩) hHeld ?_
                try simp only [Act.put, List.setIfInBounds_toArray, List.set_cons_zero, List.set_cons_succ]
                refine wpAnyH_take (i := 25) (v := ?_) (by simp only [List.getElem?_toArray, List.getElem?_cons_succ, List.getElem?_cons_zero]; exact rfl) (by kernel_rfl) (by kernel_rfl) (by kernel_rfl) (by intro _ _ _ h; exact h) (Or.inl ⟨by rfl, fun W hSw => ?_⟩) hHeld ?_
                rotate_left
                focus ((try dsimp only at hSw); first | (go_simp; done) | (go_simp; with_reducible rfl))
                try simp only [Act.put, List.setIfInBounds_toArray, List.set_cons_zero, List.set_cons_succ]
                refine wpAnyH_take (i := 26) (v := ?_) (by simp only [List.getElem?_toArray, List.getElem?_cons_succ, List.getElem?_cons_zero]; exact rfl) (by kernel_rfl) (by kernel_rfl) (by kernel_rfl) (by intro _ _ _ h; exact h) (Or.inl ⟨by rfl, fun W hSw => ?_⟩) hHeld ?_
                rotate_left
                focus ((try dsimp only at hSw); first | (go_simp; done) | (go_simp; with_reducible rfl))
                try simp only [Act.put, List.setIfInBounds_toArray, List.set_cons_zero, List.set_cons_succ]
                refine wpAnyH_take (i := 27) (v := ?_) (by simp only [List.getElem?_toArray, List.getElem?_cons_succ, List.getElem?_cons_zero]; exact rfl) (by kernel_rfl) (by kernel_rfl) (by kernel_rfl) (by intro _ _ _ h; exact h) (Or.inl ⟨by rfl, fun W hSw => ?_⟩) hHeld ?_
                rotate_left
                focus ((try dsimp only at hSw); first | (go_simp; done) | (go_simp; with_reducible rfl))
                try simp only [Act.put, List.setIfInBounds_toArray, List.set_cons_zero, List.set_cons_succ]
                refine wpAnyH_done (by kernel_rfl) ?_ _
                clear hHeld
                go_wp2
                go_roundw
                case rel => exact ⟨m + 1, by omega, by go_num, ⟨false, rfl, HN⟩, drewN_one _ _⟩
                case measure => simp [intOf]; omega
              · rw [e1] at HNX
                cases e2 : (xn == dn)
                all_goals (
                  rw [e2] at HNX
                  have HN := Lib.hid HNX.out.symm
                  clear HNX
                  go_wp2
                  refine wp_region_held_drew (S := (fun w' => w'.cell? ⟨b, o + m * 4, none⟩ = some (.string ⟨xn.toArray⟩) ∧ w'.cell? ⟨b, o + m * 4 + 3, none⟩ = some (.string ⟨xf.toArray⟩) ∧ w'.cell? ⟨b, o + k * 4, none⟩ = some (.string ⟨dn.toArray⟩))) (by kernel_rfl) (⟨x0, x3, d0⟩) (fun hHeld => ?_)
                  refine wpAnyH_take (i := 0) (v := ?_) (by simp only [List.getElem?_toArray, List.getElem?_cons_zero]; exact rfl) (by kernel_rfl) (by kernel_rfl) (by kernel_rfl) (by intro _ _ _ h; exact h) (Or.inl ⟨by rfl, fun W hSw => ?_⟩) hHeld ?_
                  rotate_left
                  focus ((try dsimp only at hSw); first | (go_simp; done) | (go_simp; with_reducible rfl))
                  try simp only [Act.put, List.setIfInBounds_toArray, List.set_cons_zero, List.set_cons_succ]
                  refine wpAnyH_take (i := 1) (v := ?_) (by simp only [List.getElem?_toArray, List.getElem?_cons_succ, List.getElem?_cons_zero]; exact rfl) (by kernel_rfl) (by kernel_rfl) (by kernel_rfl) (by intro _ _ _ h; exact h) (Or.inl ⟨by rfl, fun W hSw => ?_⟩) hHeld ?_
                  rotate_left
                  focus ((try dsimp only at hSw); first | (go_simp; done) | (go_simp; with_reducible rfl))
                  try simp only [Act.put, List.setIfInBounds_toArray, List.set_cons_zero, List.set_cons_succ]
                  refine wpAnyH_take (i := 2) (v := ?_) (by simp only [List.getElem?_toArray, List.getElem?_cons_succ, List.getElem?_cons_zero]; exact rfl) (by kernel_rfl) (by kernel_rfl) (by kernel_rfl) (by intro _ _ _ h; exact h) (Or.inl ⟨by rfl, fun W hSw => ?_⟩) hHeld ?_
                  rotate_left
                  focus ((try dsimp only at hSw); first | (go_simp; done) | (go_simp; with_reducible rfl))
                  try simp only [Act.put, List.setIfInBounds_toArray, List.set_cons_zero, List.set_cons_succ]
                  refine wpAnyH_take (i := 3) (v := ?_) (by simp only [List.getElem?_toArray, List.getElem?_cons_succ, List.getElem?_cons_zero]; exact rfl) (by kernel_rfl) (by kernel_rfl) (by kernel_rfl) (by intro _ _ _ h; exact h) (Or.inl ⟨by rfl, fun W hSw => ?_⟩) hHeld ?_
                  rotate_left
                  focus ((try dsimp only at hSw); first | (go_simp; done) | (go_simp; with_reducible rfl))
                  try simp only [Act.put, List.setIfInBounds_toArray, List.set_cons_zero, List.set_cons_succ]
                  refine wpAnyH_take (i := 4) (v := ?_) (by simp only [List.getElem?_toArray, List.getElem?_cons_succ, List.getElem?_cons_zero]; exact rfl) (by kernel_rfl) (by kernel_rfl) (by kernel_rfl) (by intro _ _ _ h; exact h) (Or.inl ⟨by rfl, fun W hSw => ?_⟩) hHeld ?_
                  rotate_left
                  focus ((try dsimp only at hSw); first | (go_simp; done) | (go_simp; with_reducible rfl))
                  try simp only [Act.put, List.setIfInBounds_toArray, List.set_cons_zero, List.set_cons_succ]
                  refine wpAnyH_take (i := 5) (v := ?_) (by simp only [List.getElem?_toArray, List.getElem?_cons_succ, List.getElem?_cons_zero]; exact rfl) (by kernel_rfl) (by kernel_rfl) (by kernel_rfl) (by intro _ _ _ h; exact h) (Or.inl ⟨by rfl, fun W hSw => ?_⟩) hHeld ?_
                  rotate_left
                  focus ((try dsimp only at hSw); first | (go_simp; done) | (go_simp; with_reducible rfl))
                  try simp only [Act.put, List.setIfInBounds_toArray, List.set_cons_zero, List.set_cons_succ]
                  refine wpAnyH_take (i := 6) (v := ?_) (by simp only [List.getElem?_toArray, List.getElem?_cons_succ, List.getElem?_cons_zero]; exact rfl) (by kernel_rfl) (by kernel_rfl) (by kernel_rfl) (by intro _ _ _ h; exact h) (Or.inl ⟨by rfl, fun W hSw => ?_⟩) hHeld ?_
                  rotate_left
                  focus ((try dsimp only at hSw); first | (go_simp; done) | (go_simp; with_reducible rfl))
                  try simp only [Act.put, List.setIfInBounds_toArray, List.set_cons_zero, List.set_cons_succ]
                  refine wpAnyH_take (i := 7) (v := ?_) (by simp only [List.getElem?_toArray, List.getElem?_cons_succ, List.getElem?_cons_zero]; exact rfl) (by kernel_rfl) (by kernel_rfl) (by kernel_rfl) (by intro _ _ _ h; exact h) (Or.inl ⟨by rfl, fun W hSw => ?_⟩) hHeld ?_
                  rotate_left
                  focus ((try dsimp only at hSw); first | (go_simp; done) | (go_simp; with_reducible rfl))
                  try simp only [Act.put, List.setIfInBounds_toArray, List.set_cons_zero, List.set_cons_succ]
                  refine wpAnyH_take (i := 8) (v := ?_) (by simp only [List.getElem?_toArray, List.getElem?_cons_succ, List.getElem?_cons_zero]; exact rfl) (by kernel_rfl) (by kernel_rfl) (by kernel_rfl) (by intro _ _ _ h; exact h) (Or.inl ⟨by rfl, fun W hSw => ?_⟩) hHeld ?_
                  rotate_left
                  focus ((try dsimp only at hSw); first | (go_simp; done) | (go_simp; with_reducible rfl))
                  try simp only [Act.put, List.setIfInBounds_toArray, List.set_cons_zero, List.set_cons_succ]
                  refine wpAnyH_take (i := 9) (v := ?_) (by simp only [List.getElem?_toArray, List.getElem?_cons_succ, List.getElem?_cons_zero]; exact rfl) (by kernel_rfl) (by kernel_rfl) (by kernel_rfl) (by intro _ _ _ h; exact h) (Or.inl ⟨by rfl, fun W hSw => ?_⟩) hHeld ?_
                  rotate_left
                  focus ((try dsimp only at hSw); first | (go_simp; done) | (go_simp; with_reducible rfl))
                  try simp only [Act.put, List.setIfInBounds_toArray, List.set_cons_zero, List.set_cons_succ]
                  refine wpAnyH_take (i := 10) (v := ?_) (by simp only [List.getElem?_toArray, List.getElem?_cons_succ, List.getElem?_cons_zero]; exact rfl) (by kernel_rfl) (by kernel_rfl) (by kernel_rfl) (by intro _ _ _ h; exact h) (Or.inl ⟨by rfl, fun W hSw => ?_⟩) hHeld ?_
                  rotate_left
                  focus ((try dsimp only at hSw); first | (go_simp; done) | (go_simp; with_reducible rfl))
                  try simp only [Act.put, List.setIfInBounds_toArray, List.set_cons_zero, List.set_cons_succ]
                  refine wpAnyH_take (i := 11) (v := ?_) (by simp only [List.getElem?_toArray, List.getElem?_cons_succ, List.getElem?_cons_zero]; exact rfl) (by kernel_rfl) (by kernel_rfl) (by kernel_rfl) (by intro _ _ _ h; exact h) (Or.inl ⟨by rfl, fun W hSw => ?_⟩) hHeld ?_
                  rotate_left
                  focus ((try dsimp only at hSw); first | (go_simp; done) | (go_simp; with_reducible rfl))
                  try simp only [Act.put, List.setIfInBounds_toArray, List.set_cons_zero, List.set_cons_succ]
                  refine wpAnyH_take (i := 12) (v := ?_) (by simp only [List.getElem?_toArray, List.getElem?_cons_succ, List.getElem?_cons_zero]; exact rfl) (by kernel_rfl) (by kernel_rfl) (by kernel_rfl) (by intro _ _ _ h; exact h) (Or.inl ⟨by rfl, fun W hSw => ?_⟩) hHeld ?_
                  rotate_left
                  focus ((try dsimp only at hSw); first | (go_simp; done) | (go_simp; with_reducible rfl))
                  try simp only [Act.put, List.setIfInBounds_toArray, List.set_cons_zero, List.set_cons_succ]
                  refine wpAnyH_take (i := 13) (v := ?_) (by simp only [List.getElem?_toArray, List.getElem?_cons_succ, List.getElem?_cons_zero]; exact rfl) (by kernel_rfl) (by kernel_rfl) (by kernel_rfl) (by intro _ _ _ h; exact h) (Or.inl ⟨by rfl, fun W hSw => ?_⟩) hHeld ?_
                  rotate_left
                  focus ((try dsimp only at hSw); first | (go_simp; done) | (go_simp; with_reducible rfl))
                  try simp only [Act.put, List.setIfInBounds_toArray, List.set_cons_zero, List.set_cons_succ]
                  refine wpAnyH_take (i := 14) (v := ?_) (by simp only [List.getElem?_toArray, List.getElem?_cons_succ, List.getElem?_cons_zero]; exact rfl) (by kernel_rfl) (by kernel_rfl) (by kernel_rfl) (by intro _ _ _ h; exact h) (Or.inl ⟨by rfl, fun W hSw => ?_⟩) hHeld ?_
                  rotate_left
                  focus ((try dsimp only at hSw); first | (go_simp; done) | (go_simp; with_reducible rfl))
                  try simp only [Act.put, List.setIfInBounds_toArray, List.set_cons_zero, List.set_cons_succ]
                  refine wpAnyH_take (i := 15) (v := ?_) (by simp only [List.getElem?_toArray, List.getElem?_cons_succ, List.getElem?_cons_zero]; exact rfl) (by kernel_rfl) (by kernel_rfl) (by kernel_rfl) (by intro _ _ _ h; exact h) (Or.inl ⟨by rfl, fun W hSw => ?_⟩) hHeld ?_
                  rotate_left
                  focus ((try dsimp only at hSw); first | (go_simp; done) | (go_simp; with_reducible rfl))
                  try simp only [Act.put, List.setIfInBounds_toArray, List.set_cons_zero, List.set_cons_succ]
                  refine wpAnyH_take (i := 16) (v := ?_) (by simp only [List.getElem?_toArray, List.getElem?_cons_succ, List.getElem?_cons_zero]; exact rfl) (by kernel_rfl) (by kernel_rfl) (by kernel_rfl) (by intro _ _ _ h; exact h) (Or.inl ⟨by rfl, fun W hSw => ?_⟩) hHeld ?_
                  rotate_left
                  focus ((try dsimp only at hSw); first | (go_simp; done) | (go_simp; with_reducible rfl))
                  try simp only [Act.put, List.setIfInBounds_toArray, List.set_cons_zero, List.set_cons_succ]
                  refine wpAnyH_take (i := 17) (v := ?_) (by simp only [List.getElem?_toArray, List.getElem?_cons_succ, List.getElem?_cons_zero]; exact rfl) (by kernel_rfl) (by kernel_rfl) (by kernel_rfl) (by intro _ _ _ h; exact h) (Or.inl ⟨by rfl, fun W hSw => ?_⟩) hHeld ?_
                  rotate_left
                  focus ((try dsimp only at hSw); first | (go_simp; done) | (go_simp; with_reducible rfl))
                  try simp only [Act.put, List.setIfInBounds_toArray, List.set_cons_zero, List.set_cons_succ]
                  refine wpAnyH_take (i := 18) (v := ?_) (by simp only [List.getElem?_toArray, List.getElem?_cons_succ, List.getElem?_cons_zero]; exact rfl) (by kernel_rfl) (by kernel_rfl) (by kernel_rfl) (by intro _ _ _ h; exact h) (Or.inl ⟨by rfl, fun W hSw => ?_⟩) hHeld ?_
                  rotate_left
                  focus ((try dsimp only at hSw); first | (go_simp; done) | (go_simp; with_reducible rfl))
                  try simp only [Act.put, List.setIfInBounds_toArray, List.set_cons_zero, List.set_cons_succ]
                  refine wpAnyH_take (i := 19) (v := ?_) (by simp only [List.getElem?_toArray, List.getElem?_cons_succ, List.getElem?_cons_zero]; exact rfl) (by kernel_rfl) (by kernel_rfl) (by kernel_rfl) (by intro _ _ _ h; exact h) (Or.inl ⟨by rfl, fun W hSw => ?_⟩) hHeld ?_
                  rotate_left
                  focus ((try dsimp only at hSw); first | (go_simp; done) | (go_simp; with_reducible rfl))
                  try simp only [Act.put, List.setIfInBounds_toArray, List.set_cons_zero, List.set_cons_succ]
                  refine wpAnyH_take (i := 20) (v := ?_) (by simp only [List.getElem?_toArray, List.getElem?_cons_succ, List.getElem?_cons_zero]; exact rfl) (by kernel_rfl) (by kernel_rfl) (by kernel_rfl) (by intro _ _ _ h; exact h) (Or.inl ⟨by rfl, fun W hSw => ?_⟩) hHeld ?_
                  rotate_left
                  focus ((try dsimp only at hSw); first | (go_simp; done) | (go_simp; with_reducible rfl))
                  try simp only [Act.put, List.setIfInBounds_toArray, List.set_cons_zero, List.set_cons_succ]
                  refine wpAnyH_take (i := 21) (v := ?_) (by simp only [List.getElem?_toArray, List.getElem?_cons_succ, List.getElem?_cons_zero]; exact rfl) (by kernel_rfl) (by kernel_rfl) (by kernel_rfl) (by intro _ _ _ h; exact h) (Or.inl ⟨by rfl, fun W hSw => ?_⟩) hHeld ?_
                  rotate_left
                  focus ((try dsimp only at hSw); first | (go_simp; done) | (go_simp; with_reducible rfl))
                  try simp only [Act.put, List.setIfInBounds_toArray, List.set_cons_zero, List.set_cons_succ]
                  refine wpAnyH_take (i := 22) (v := ?_) (by simp only [List.getElem?_toArray, List.getElem?_cons_succ, List.getElem?_cons_zero]; exact rfl) (by kernel_rfl) (by kernel_rfl) (by kernel_rfl) (by intro _ _ _ h; exact h) (Or.inl ⟨by rfl, fun W hSw => ?_⟩) hHeld ?_
                  rotate_left
                  focus ((try dsimp only at hSw); first | (go_simp; done) | (go_simp; with_reducible rfl))
                  try simp only [Act.put, List.setIfInBounds_toArray, List.set_cons_zero, List.set_cons_succ]
                  refine wpAnyH_take (i := 23) (v := ?_) (by simp only [List.getElem?_toArray, List.getElem?_cons_succ, List.getElem?_cons_zero]; exact rfl) (by kernel_rfl) (by kernel_rfl) (by kernel_rfl) (by intro _ _ _ h; exact h) (Or.inl ⟨by rfl, fun W hSw => ?_⟩) hHeld ?_
                  rotate_left
                  focus ((try dsimp only at hSw); first | (go_simp; done) | (go_simp; with_reducible rfl))
                  try simp only [Act.put, List.setIfInBounds_toArray, List.set_cons_zero, List.set_cons_succ]
                  refine wpAnyH_take (i := 24) (v := ?_) (by simp only [List.getElem?_toArray, List.getElem?_cons_succ, List.getElem?_cons_zero]; exact rfl) (by kernel_rfl) (by kernel_rfl) (by kernel_rfl) (by intro _ _ _ h; exact h) (Or.inl ⟨by rfl, fun W hSw => ?_⟩) hHeld ?_
                  rotate_left
                  focus ((try dsimp only at hSw); first | (go_simp; done) | (go_simp; with_reducible rfl))
                  try simp only [Act.put, List.setIfInBounds_toArray, List.set_cons_zero, List.set_cons_succ]
                  refine wpAnyH_take (i := 25) (v := ?_) (by simp only [List.getElem?_toArray, List.getElem?_cons_succ, List.getElem?_cons_zero]; exact rfl) (by kernel_rfl) (by kernel_rfl) (by kernel_rfl) (by intro _ _ _ h; exact h) (Or.inl ⟨by rfl, fun W hSw => ?_⟩) hHeld ?_
                  rotate_left
                  focus ((try dsimp only at hSw); first | (go_simp; done) | (go_simp; with_reducible rfl))
                  try simp only [Act.put, List.setIfInBounds_toArray, List.set_cons_zero, List.set_cons_succ]
                  refine wpAnyH_take (i := 26) (v := ?_) (by simp only [List.getElem?_toArray, List.getElem?_cons_succ, List.getElem?_cons_zero]; exact rfl) (by kernel_rfl) (by kernel_rfl) (by kernel_rfl) (by intro _ _ _ h; exact h) (Or.inl ⟨by rfl, fun W hSw => ?_⟩) hHeld ?_
                  rotate_left
                  focus ((try dsimp only at hSw); first | (go_simp; done) | (go_simp; with_reducible rfl))
                  try simp only [Act.put, List.setIfInBounds_toArray, List.set_cons_zero, List.set_cons_succ]
                  refine wpAnyH_take (i := 27) (v := ?_) (by simp only [List.getElem?_toArray, List.getElem?_cons_succ, List.getElem?_cons_zero]; exact rfl) (by kernel_rfl) (by kernel_rfl) (by kernel_rfl) (by intro _ _ _ h; exact h) (Or.inl ⟨by rfl, fun W hSw => ?_⟩) hHeld ?_
                  rotate_left
                  focus ((try dsimp only at hSw); first | (go_simp; done) | (go_simp; with_reducible rfl))
                  try simp only [Act.put, List.setIfInBounds_toArray, List.set_cons_zero, List.set_cons_succ]
                  refine wpAnyH_done (by kernel_rfl) ?_ _
                  clear hHeld
                  go_wp2
                  go_roundw
                  case rel => exact ⟨m + 1, by omega, by go_num, ⟨_, rfl, HN⟩, drewN_one _ _⟩
                  case measure => simp [intOf]; omega)
            · have HN : Hid (true = (xs.take (m + 1)).any fun x => ow x && x.name == dn) := Lib.hid (by rw [HNX.out]; rfl)
              clear HNX
              go_wp2
              refine wp_region_held_drew (S := (fun w' => w'.cell? ⟨b, o + m * 4, none⟩ = some (.string ⟨xn.toArray⟩) ∧ w'.cell? ⟨b, o + m * 4 + 3, none⟩ = some (.string ⟨xf.toArray⟩) ∧ w'.cell? ⟨b, o + k * 4, none⟩ = some (.string ⟨dn.toArray⟩))) (by kernel_rfl) (⟨x0, x3, d0⟩) (fun hHeld => ?_)
              refine wpAnyH_take (i := 0) (v := ?_) (by simp only [List.getElem?_toArray, List.getElem?_cons_zero]; exact rfl) (by kernel_rfl) (by kernel_rfl) (by kernel_rfl) (by intro _ _ _ h; exact h) (Or.inl ⟨by rfl, fun W hSw => ?_⟩) hHeld ?_
              rotate_left
              focus ((try dsimp only at hSw); first | (go_simp; done) | (go_simp; with_reducible rfl))
              try simp only [Act.put, List.setIfInBounds_toArray, List.set_cons_zero, List.set_cons_succ]
              refine wpAnyH_take (i := 1) (v := ?_) (by simp only [List.getElem?_toArray, List.getElem?_cons_succ, List.getElem?_cons_zero]; exact rfl) (by kernel_rfl) (by kernel_rfl) (by kernel_rfl) (by intro _ _ _ h; exact h) (Or.inl ⟨by rfl, fun W hSw => ?_⟩) hHeld ?_
              rotate_left
              focus ((try dsimp only at hSw); first | (go_simp; done) | (go_simp; with_reducible rfl))
              try simp only [Act.put, List.setIfInBounds_toArray, List.set_cons_zero, List.set_cons_succ]
              refine wpAnyH_take (i := 2) (v := undef) (by simp only [List.getElem?_toArray, List.getElem?_cons_succ, List.getElem?_cons_zero]; exact rfl) (by kernel_rfl) (by kernel_rfl) (by kernel_rfl) (by intro _ _ _ h; exact h) (Or.inr ⟨by rfl, rfl⟩) hHeld ?_
              try simp only [Act.put, List.setIfInBounds_toArray, List.set_cons_zero, List.set_cons_succ]
              refine wpAnyH_take (i := 3) (v := undef) (by simp only [List.getElem?_toArray, List.getElem?_cons_succ, List.getElem?_cons_zero]; exact rfl) (by kernel_rfl) (by kernel_rfl) (by kernel_rfl) (by intro _ _ _ h; exact h) (Or.inr ⟨by rfl, rfl⟩) hHeld ?_
              try simp only [Act.put, List.setIfInBounds_toArray, List.set_cons_zero, List.set_cons_succ]
              refine wpAnyH_take (i := 4) (v := undef) (by simp only [List.getElem?_toArray, List.getElem?_cons_succ, List.getElem?_cons_zero]; exact rfl) (by kernel_rfl) (by kernel_rfl) (by kernel_rfl) (by intro _ _ _ h; exact h) (Or.inr ⟨by rfl, rfl⟩) hHeld ?_
              try simp only [Act.put, List.setIfInBounds_toArray, List.set_cons_zero, List.set_cons_succ]
              refine wpAnyH_take (i := 5) (v := undef) (by simp only [List.getElem?_toArray, List.getElem?_cons_succ, List.getElem?_cons_zero]; exact rfl) (by kernel_rfl) (by kernel_rfl) (by kernel_rfl) (by intro _ _ _ h; exact h) (Or.inr ⟨by rfl, rfl⟩) hHeld ?_
              try simp only [Act.put, List.setIfInBounds_toArray, List.set_cons_zero, List.set_cons_succ]
              refine wpAnyH_take (i := 6) (v := undef) (by simp only [List.getElem?_toArray, List.getElem?_cons_succ, List.getElem?_cons_zero]; exact rfl) (by kernel_rfl) (by kernel_rfl) (by kernel_rfl) (by intro _ _ _ h; exact h) (Or.inr ⟨by rfl, rfl⟩) hHeld ?_
              try simp only [Act.put, List.setIfInBounds_toArray, List.set_cons_zero, List.set_cons_succ]
              refine wpAnyH_take (i := 7) (v := undef) (by simp only [List.getElem?_toArray, List.getElem?_cons_succ, List.getElem?_cons_zero]; exact rfl) (by kernel_rfl) (by kernel_rfl) (by kernel_rfl) (by intro _ _ _ h; exact h) (Or.inr ⟨by rfl, rfl⟩) hHeld ?_
              try simp only [Act.put, List.setIfInBounds_toArray, List.set_cons_zero, List.set_cons_succ]
              refine wpAnyH_take (i := 8) (v := undef) (by simp only [List.getElem?_toArray, List.getElem?_cons_succ, List.getElem?_cons_zero]; exact rfl) (by kernel_rfl) (by kernel_rfl) (by kernel_rfl) (by intro _ _ _ h; exact h) (Or.inr ⟨by rfl, rfl⟩) hHeld ?_
              try simp only [Act.put, List.setIfInBounds_toArray, List.set_cons_zero, List.set_cons_succ]
              refine wpAnyH_take (i := 9) (v := undef) (by simp only [List.getElem?_toArray, List.getElem?_cons_succ, List.getElem?_cons_zero]; exact rfl) (by kernel_rfl) (by kernel_rfl) (by kernel_rfl) (by intro _ _ _ h; exact h) (Or.inr ⟨by rfl, rfl⟩) hHeld ?_
              try simp only [Act.put, List.setIfInBounds_toArray, List.set_cons_zero, List.set_cons_succ]
              refine wpAnyH_take (i := 10) (v := undef) (by simp only [List.getElem?_toArray, List.getElem?_cons_succ, List.getElem?_cons_zero]; exact rfl) (by kernel_rfl) (by kernel_rfl) (by kernel_rfl) (by intro _ _ _ h; exact h) (Or.inr ⟨by rfl, rfl⟩) hHeld ?_
              try simp only [Act.put, List.setIfInBounds_toArray, List.set_cons_zero, List.set_cons_succ]
              refine wpAnyH_take (i := 11) (v := undef) (by simp only [List.getElem?_toArray, List.getElem?_cons_succ, List.getElem?_cons_zero]; exact rfl) (by kernel_rfl) (by kernel_rfl) (by kernel_rfl) (by intro _ _ _ h; exact h) (Or.inr ⟨by rfl, rfl⟩) hHeld ?_
              try simp only [Act.put, List.setIfInBounds_toArray, List.set_cons_zero, List.set_cons_succ]
              refine wpAnyH_take (i := 12) (v := undef) (by simp only [List.getElem?_toArray, List.getElem?_cons_succ, List.getElem?_cons_zero]; exact rfl) (by kernel_rfl) (by kernel_rfl) (by kernel_rfl) (by intro _ _ _ h; exact h) (Or.inr ⟨by rfl, rfl⟩) hHeld ?_
              try simp only [Act.put, List.setIfInBounds_toArray, List.set_cons_zero, List.set_cons_succ]
              refine wpAnyH_take (i := 13) (v := undef) (by simp only [List.getElem?_toArray, List.getElem?_cons_succ, List.getElem?_cons_zero]; exact rfl) (by kernel_rfl) (by kernel_rfl) (by kernel_rfl) (by intro _ _ _ h; exact h) (Or.inr ⟨by rfl, rfl⟩) hHeld ?_
              try simp only [Act.put, List.setIfInBounds_toArray, List.set_cons_zero, List.set_cons_succ]
              refine wpAnyH_take (i := 14) (v := undef) (by simp only [List.getElem?_toArray, List.getElem?_cons_succ, List.getElem?_cons_zero]; exact rfl) (by kernel_rfl) (by kernel_rfl) (by kernel_rfl) (by intro _ _ _ h; exact h) (Or.inr ⟨by rfl, rfl⟩) hHeld ?_
              try simp only [Act.put, List.setIfInBounds_toArray, List.set_cons_zero, List.set_cons_succ]
              refine wpAnyH_take (i := 15) (v := undef) (by simp only [List.getElem?_toArray, List.getElem?_cons_succ, List.getElem?_cons_zero]; exact rfl) (by kernel_rfl) (by kernel_rfl) (by kernel_rfl) (by intro _ _ _ h; exact h) (Or.inr ⟨by rfl, rfl⟩) hHeld ?_
              try simp only [Act.put, List.setIfInBounds_toArray, List.set_cons_zero, List.set_cons_succ]
              refine wpAnyH_take (i := 16) (v := undef) (by simp only [List.getElem?_toArray, List.getElem?_cons_succ, List.getElem?_cons_zero]; exact rfl) (by kernel_rfl) (by kernel_rfl) (by kernel_rfl) (by intro _ _ _ h; exact h) (Or.inr ⟨by rfl, rfl⟩) hHeld ?_
              try simp only [Act.put, List.setIfInBounds_toArray, List.set_cons_zero, List.set_cons_succ]
              refine wpAnyH_take (i := 17) (v := undef) (by simp only [List.getElem?_toArray, List.getElem?_cons_succ, List.getElem?_cons_zero]; exact rfl) (by kernel_rfl) (by kernel_rfl) (by kernel_rfl) (by intro _ _ _ h; exact h) (Or.inr ⟨by rfl, rfl⟩) hHeld ?_
              try simp only [Act.put, List.setIfInBounds_toArray, List.set_cons_zero, List.set_cons_succ]
              refine wpAnyH_take (i := 18) (v := undef) (by simp only [List.getElem?_toArray, List.getElem?_cons_succ, List.getElem?_cons_zero]; exact rfl) (by kernel_rfl) (by kernel_rfl) (by kernel_rfl) (by intro _ _ _ h; exact h) (Or.inr ⟨by rfl, rfl⟩) hHeld ?_
              try simp only [Act.put, List.setIfInBounds_toArray, List.set_cons_zero, List.set_cons_succ]
              refine wpAnyH_take (i := 19) (v := undef) (by simp only [List.getElem?_toArray, List.getElem?_cons_succ, List.getElem?_cons_zero]; exact rfl) (by kernel_rfl) (by kernel_rfl) (by kernel_rfl) (by intro _ _ _ h; exact h) (Or.inr ⟨by rfl, rfl⟩) hHeld ?_
              try simp only [Act.put, List.setIfInBounds_toArray, List.set_cons_zero, List.set_cons_succ]
              refine wpAnyH_take (i := 20) (v := undef) (by simp only [List.getElem?_toArray, List.getElem?_cons_succ, List.getElem?_cons_zero]; exact rfl) (by kernel_rfl) (by kernel_rfl) (by kernel_rfl) (by intro _ _ _ h; exact h) (Or.inr ⟨by rfl, rfl⟩) hHeld ?_
              try simp only [Act.put, List.setIfInBounds_toArray, List.set_cons_zero, List.set_cons_succ]
              refine wpAnyH_take (i := 21) (v := undef) (by simp only [List.getElem?_toArray, List.getElem?_cons_succ, List.getElem?_cons_zero]; exact rfl) (by kernel_rfl) (by kernel_rfl) (by kernel_rfl) (by intro _ _ _ h; exact h) (Or.inr ⟨by rfl, rfl⟩) hHeld ?_
              try simp only [Act.put, List.setIfInBounds_toArray, List.set_cons_zero, List.set_cons_succ]
              refine wpAnyH_take (i := 22) (v := undef) (by simp only [List.getElem?_toArray, List.getElem?_cons_succ, List.getElem?_cons_zero]; exact rfl) (by kernel_rfl) (by kernel_rfl) (by kernel_rfl) (by intro _ _ _ h; exact h) (Or.inr ⟨by rfl, rfl⟩) hHeld ?_
              try simp only [Act.put, List.setIfInBounds_toArray, List.set_cons_zero, List.set_cons_succ]
              refine wpAnyH_take (i := 23) (v := undef) (by simp only [List.getElem?_toArray, List.getElem?_cons_succ, List.getElem?_cons_zero]; exact rfl) (by kernel_rfl) (by kernel_rfl) (by kernel_rfl) (by intro _ _ _ h; exact h) (Or.inr ⟨by rfl, rfl⟩) hHeld ?_
              try simp only [Act.put, List.setIfInBounds_toArray, List.set_cons_zero, List.set_cons_succ]
              refine wpAnyH_take (i := 24) (v := undef) (by simp only [List.getElem?_toArray, List.getElem?_cons_succ, List.getElem?_cons_zero]; exact rfl) (by kernel_rfl) (by kernel_rfl) (by kernel_rfl) (by intro _ _ _ h; exact h) (Or.inr ⟨by rfl, rfl⟩) hHeld ?_
              try simp only [Act.put, List.setIfInBounds_toArray, List.set_cons_zero, List.set_cons_succ]
              refine wpAnyH_take (i := 25) (v := undef) (by simp only [List.getElem?_toArray, List.getElem?_cons_succ, List.getElem?_cons_zero]; exact rfl) (by kernel_rfl) (by kernel_rfl) (by kernel_rfl) (by intro _ _ _ h; exact h) (Or.inr ⟨by rfl, rfl⟩) hHeld ?_
              try simp only [Act.put, List.setIfInBounds_toArray, List.set_cons_zero, List.set_cons_succ]
              refine wpAnyH_take (i := 26) (v := ?_) (by simp only [List.getElem?_toArray, List.getElem?_cons_succ, List.getElem?_cons_zero]; exact rfl) (by kernel_rfl) (by kernel_rfl) (by kernel_rfl) (by intro _ _ _ h; exact h) (Or.inl ⟨by rfl, fun W hSw => ?_⟩) hHeld ?_
              rotate_left
              focus ((try dsimp only at hSw); first | (go_simp; done) | (go_simp; with_reducible rfl))
              try simp only [Act.put, List.setIfInBounds_toArray, List.set_cons_zero, List.set_cons_succ]
              refine wpAnyH_take (i := 27) (v := ?_) (by simp only [List.getElem?_toArray, List.getElem?_cons_succ, List.getElem?_cons_zero]; exact rfl) (by kernel_rfl) (by kernel_rfl) (by kernel_rfl) (by intro _ _ _ h; exact h) (Or.inl ⟨by rfl, fun W hSw => ?_⟩) hHeld ?_
              rotate_left
              focus ((try dsimp only at hSw); first | (go_simp; done) | (go_simp; with_reducible rfl))
              try simp only [Act.put, List.setIfInBounds_toArray, List.set_cons_zero, List.set_cons_succ]
              refine wpAnyH_done (by kernel_rfl) ?_ _
              clear hHeld
              go_wp2
              go_roundw
              case rel => exact ⟨m + 1, by omega, by go_num, ⟨true, rfl, HN⟩, drewN_one _ _⟩
              case measure => simp [intOf]; omega
          · have hme : m = xs.length := by omega
            subst hme
            have t2 : decide ((xs.length : Int) < (xs.length : Int)) = false := by simp
            have hq := HQ.out
            rw [HALL.out] at hq
            have hmb := HMB2.out
            rw [← hq, HOW2.out, hde] at hmb
            have d0 : (wo.drewN qn).cell? ⟨b, o + k * 4, none⟩ = some (.string ⟨dn.toArray⟩) := c0
            have d1 : (wo.drewN qn).cell? ⟨b, o + k * 4 + 1, none⟩ = some (.string ⟨dv.toArray⟩) := c1
            have d2 : (wo.drewN qn).cell? ⟨b, o + k * 4 + 2, none⟩ = some (.bool dh) := c2
            have d3 : (wo.drewN qn).cell? ⟨b, o + k * 4 + 3, none⟩ = some (.string ⟨df.toArray⟩) := c3
            have HO2 : Hid (DSt4 w.heap.size (.slice oa acc.length oc) acc (some ⟨b, o, none⟩) xs (wo.drewN qn)) := HO
            obtain ⟨W5, hW5⟩ : ∃ W5, wo.drewN qn = W5 := ⟨_, rfl⟩
            rw [hW5] at d0 d1 d2 d3 HO2 hsz ⊢
            clear hW5 HQ hq HMB2 HOW2 HALL HANY HOW HRD HO c0 c1 c2 c3
            have yes : mb ⟨dn, dv, dh, df⟩ = true → Hid ((xs.take (k + 1)).filter mb = acc ++ [⟨dn, dv, dh, df⟩]) := fun h => Lib.hid (by rw [HST.out, h]; rfl)
            have no : mb ⟨dn, dv, dh, df⟩ = false → Hid ((xs.take (k + 1)).filter mb = acc) := fun h => Lib.hid (by rw [HST.out, h]; rfl)
            have YES := Lib.hid yes; have NO := Lib.hid no
            clear yes no HST
            cases e1 : (df == dev.toList) <;> cases e3 : df.isEmpty <;> cases q
            all_goals (
              rw [e1, e3] at hmb
              first
                | (have HN := NO.out hmb
                   clear hmb
                   have HO3 : Hid (DSt4 w.heap.size (.slice oa acc.length oc) ((xs.take (k + 1)).filter mb) (some ⟨b, o, none⟩) xs W5) := by rw [HN.out]; exact HO2
                   clear NO YES HO2
                   go_wp2
                   go_roundw
                   case rel => exact ⟨k + 1, by omega, by go_num, HO3, hsz⟩
                   case measure => simp [intOf]; omega)
                | (have HN := YES.out hmb
                   clear hmb
                   clear NO YES
                   go_wp2_with (at_builtin; refine app_dir w.heap.size ⟨dn, dv, dh, df⟩ HO2.out.1 hsz.size hlen2 rfl _ _ rfl rfl rfl ?_)
                   intro v' w7 hO7 hb7 hfar7
                   have hB7 := hsz.trans hb7
                   have HO7 : Hid (DSt4 w.heap.size v' ((xs.take (k + 1)).filter mb) (some ⟨b, o, none⟩) xs w7) := by rw [HN.out]; exact Lib.hid (HO2.out.far hO7 hfar7)
                   clear hO7 hb7 hfar7 HO2
                   go_wp2
                   go_roundw
                   case rel => exact ⟨k + 1, by omega, by go_num, HO7, hB7⟩
                   case measure => simp [intOf]; omega))
      · have hke : k = xs.length := by omega
        subst hke
        clear HSTEP HLEN HMB
        generalize (xs.take xs.length).filter mb = q at *
        have t1 : decide ((xs.length : Int) < (xs.length : Int)) = false := by simp
        go_wp2
        go_ret
        exact ⟨oa, oc, rfl, HO.out.1, hbw⟩
  · go_enter Tryd.func31, Tryd.ntmps31
    go_wp2_with fail
    go_loopw [6, 5] (fun i out wr => ∃ k : Nat, k ≤ xs.length ∧ i = .int .i64 k ∧ Hid (DSt4 w.heap.size out ((xs.take k).filter mb) A xs wr) ∧ Below w.heap.size w wr) (fun i _ _ => xs.length - (intOf i).toNat)
    case atStart => exact ⟨0, Nat.zero_le _, rfl, by rw [H00.out]; exact HS, hB⟩
    case round =>
      clear HS hB H00
      obtain ⟨k, hk, rfl, HO, hbw⟩ := hrel
      obtain ⟨oa, oc, rfl⟩ := HO.out.1.shape
      have hal := HLEN.out k
      by_cases hlt : k < xs.length
      · obtain ⟨b, o, rfl, hl, c0, c1, c2, c3⟩ := HO.out.2.1.dir_at (k := k) hlt
        have hst := HSTEP.out k hlt
        have hmb := HMB.out xs[k]
        have how := HOW.out xs[k]
        have HRD := Lib.hid HO.out.2.1
        generalize xs[k] = d at *
        generalize (xs.take k).filter mb = acc at *
        obtain ⟨dn, dv, dh, df⟩ := d
        simp only at c0 c1 c2 c3 hmb how
        have hlen2 : acc.length ≤ 1000000000 := by omega
        have t1 : decide ((k : Int) < (xs.length : Int)) = true := by simp; omega
        have HST := Lib.hid hst; have HMB2 := Lib.hid hmb; have HOW2 := Lib.hid how
        clear hst hmb how HSTEP HLEN HMB
        go_wp2_with fail
        obtain ⟨wo, rfl⟩ : ∃ wo : World, wo = wr := ⟨_, rfl⟩
        go_loopw [8, 7] (fun j ow2 wi => ∃ m : Nat, m ≤ xs.length ∧ j = .int .i64 m ∧ (∃ q : Bool, ow2 = .bool q ∧ Hid (q = (xs.take m).any fun x => ow x && x.name == dn)) ∧ (∃ qn, wi = wo.drewN qn)) (fun j _ _ => xs.length - (intOf j).toNat)
        case atStart => exact ⟨0, Nat.zero_le _, rfl, ⟨false, rfl, Lib.hid (by simp)⟩, ⟨0, rfl⟩⟩
        case round =>
          obtain ⟨m, hm, rfl, ⟨q, rfl, HQ⟩, ⟨qn, rfl⟩⟩ := hrel
          have hsz : Below w.heap.size w (wo.drewN qn) := below_drewNK hbw qn
          by_cases hlm : m < xs.length
          · obtain ⟨b2, o2, e2, hl2, x0, x1, x2, x3⟩ := (HRD.out.drewN qn).dir_at (k := m) hlm
            cases e2
            have d0 : (wo.drewN qn).cell? ⟨b, o + k * 4, none⟩ = some (.string ⟨dn.toArray⟩) := c0
            have hox := HOW.out xs[m]
            have hnx := HANY.out (fun x => ow x && x.name == dn) m hlm
            rw [← HQ.out] at hnx
            generalize xs[m] = x at *
            obtain ⟨xn, xv, xh, xf⟩ := x
            simp only at x0 x1 x2 x3 hox hnx
            rw [hox, hde] at hnx
            have t2 : decide ((m : Int) < (xs.length : Int)) = true := by simp; omega
            have HNX := Lib.hid hnx
            clear hox hnx HQ
            cases q
            · have HN : Hid (false = (xs.take (m + 1)).any fun x => ow x && x.name == dn) := Lib.hid (by rw [HNX.out]; rfl)
              clear HNX
              go_wp2
              refine wp_region_held_drew (S := (fun w' => w'.cell? ⟨b, o + m * 4, none⟩ = some (.string ⟨xn.toArray⟩) ∧ w'.cell? ⟨b, o + m * 4 + 3, none⟩ = some (.string ⟨xf.toArray⟩) ∧ w'.cell? ⟨b, o + k * 4, none⟩ = some (.string ⟨dn.toArray⟩))) (by kernel_rfl) (⟨x0, x3, d0⟩) (fun hHeld => ?_)
              refine wpAnyH_take (i := 0) (v := ?_) (by simp only [List.getElem?_toArray, List.getElem?_cons_zero]; exact rfl) (by kernel_rfl) (by kernel_rfl) (by kernel_rfl) (by intro _ _ _ h; exact h) (Or.inl ⟨by rfl, fun W hSw => ?_⟩) hHeld ?_
              rotate_left
              focus ((try dsimp only at hSw); first | (go_simp; done) | (go_simp; with_reducible rfl))
              try simp only [Act.put, List.setIfInBounds_toArray, List.set_cons_zero, List.set_cons_succ]
              refine wpAnyH_take (i := 1) (v := ?_) (by simp only [List.getElem?_toArray, List.getElem?_cons_succ, List.getElem?_cons_zero]; exact rfl) (by kernel_rfl) (by kernel_rfl) (by kernel_rfl) (by intro _ _ _ h; exact h) (Or.inl ⟨by rfl, fun W hSw => ?_⟩) hHeld ?_
              rotate_left
              focus ((try dsimp only at hSw); first | (go_simp; done) | (go_simp; with_reducible rfl))
              try simp only [Act.put, List.setIfInBounds_toArray, List.set_cons_zero, List.set_cons_succ]
              refine wpAnyH_take (i := 2) (v := ?_) (by simp only [List.getElem?_toArray, List.getElem?_cons_succ, List.getElem?_cons_zero]; exact rfl) (by kernel_rfl) (by kernel_rfl) (by kernel_rfl) (by intro _ _ _ h; exact h) (Or.inl ⟨by rfl, fun W hSw => ?_⟩) hHeld ?_
              rotate_left
              focus ((try dsimp only at hSw); first | (go_simp; done) | (go_simp; with_reducible rfl))
              try simp only [Act.put, List.setIfInBounds_toArray, List.set_cons_zero, List.set_cons_succ]
              refine wpAnyH_take (i := 3) (v := ?_) (by simp only [List.getElem?_toArray, List.getElem?_cons_succ, List.getElem?_cons_zero]; exact rfl) (by kernel_rfl) (by kernel_rfl) (by kernel_rfl) (by intro _ _ _ h; exact h) (Or.inl ⟨by rfl, fun W hSw => ?_⟩) hHeld ?_
              rotate_left
              focus ((try dsimp only at hSw); first | (go_simp; done) | (go_simp; with_reducible rfl))
              try simp only [Act.put, List.setIfInBounds_toArray, List.set_cons_zero, List.set_cons_succ]
              refine wpAnyH_take (i := 4) (v := ?_) (by simp only [List.getElem?_toArray, List.getElem?_cons_succ, List.getElem?_cons_zero]; exact rfl) (by kernel_rfl) (by kernel_rfl) (by kernel_rfl) (by intro _ _ _ h; exact h) (Or.inl ⟨by rfl, fun W hSw => ?_⟩) hHeld ?_
              rotate_left
              focus ((try dsimp only at hSw); first | (go_simp; done) | (go_simp; with_reducible rfl))
              try simp only [Act.put, List.setIfInBounds_toArray, List.set_cons_zero, List.set_cons_succ]
              refine wpAnyH_take (i := 5) (v := undef) (by simp only [List.getElem?_toArray, List.getElem?_cons_succ, List.getElem?_cons_zero]; exact rfl) (by kernel_rfl) (by kernel_rfl) (by kernel_rfl) (by intro _ _ _ h; exact h) (Or.inr ⟨by rfl, rfl⟩) hHeld ?_
              try simp only [Act.put, List.setIfInBounds_toArray, List.set_cons_zero, List.set_cons_succ]
              refine wpAnyH_take (i := 6) (v := undef) (by simp only [List.getElem?_toArray, List.getElem?_cons_succ, List.getElem?_cons_zero]; exact rfl) (by kernel_rfl) (by kernel_rfl) (by kernel_rfl) (by intro _ _ _ h; exact h) (Or.inr ⟨by rfl, rfl⟩) hHeld ?_
              try simp only [Act.put, List.setIfInBounds_toArray, List.set_cons_zero, List.set_cons_succ]
              refine wpAnyH_take (i := 7) (v := undef) (by simp only [List.getElem?_toArray, List.getElem?_cons_succ, List.getElem?_cons_zero]; exact rfl) (by kernel_rfl) (by kernel_rfl) (by kernel_rfl) (by intro _ _ _ h; exact h) (Or.inr ⟨by rfl, rfl⟩) hHeld ?_
              try simp only [Act.put, List.setIfInBounds_toArray, List.set_cons_zero, List.set_cons_succ]
              refine wpAnyH_take (i := 8) (v := undef) (by simp only [List.getElem?_toArray, List.getElem?_cons_succ, List.getElem?_cons_zero]; exact rfl) (by kernel_rfl) (by kernel_rfl) (by kernel_rfl) (by intro _ _ _ h; exact h) (Or.inr ⟨by rfl, rfl⟩) hHeld ?_
              try simp only [Act.put, List.setIfInBounds_toArray, List.set_cons_zero, List.set_cons_succ]
              refine wpAnyH_take (i := 9) (v := undef) (by simp only [List.getElem?_toArray, List.getElem?_cons_succ, List.getElem?_cons_zero]; exact rfl) (by kernel_rfl) (by kernel_rfl) (by kernel_rfl) (by intro _ _ _ h; exact h) (Or.inr ⟨by rfl, rfl⟩) hHeld ?_
              try simp only [Act.put, List.setIfInBounds_toArray, List.set_cons_zero, List.set_cons_succ]
              refine wpAnyH_take (i := 10) (v := undef) (by simp only [List.getElem?_toArray, List.getElem?_cons_succ, List.getElem?_cons_zero]; exact rfl) (by kernel_rfl) (by kernel_rfl) (by kernel_rfl) (by intro _ _ _ h; exact h) (Or.inr ⟨by rfl, rfl⟩) hHeld ?_
              try simp only [Act.put, List.setIfInBounds_toArray, List.set_cons_zero, List.set_cons_succ]
              refine wpAnyH_take (i := 11) (v := undef) (by simp only [List.getElem?_toArray, List.getElem?_cons_succ, List.getElem?_cons_zero]; exact rfl) (by kernel_rfl) (by kernel_rfl) (by kernel_rfl) (by intro _ _ _ h; exact h) (Or.inr ⟨by rfl, rfl⟩) hHeld ?_
              try simp only [Act.put, List.setIfInBounds_toArray, List.set_cons_zero, List.set_cons_succ]
              refine wpAnyH_take (i := 12) (v := ?_) (by simp only [List.getElem?_toArray, List.getElem?_cons_succ, List.getElem?_cons_zero]; exact rfl) (by kernel_rfl) (by kernel_rfl) (by kernel_rfl) (by intro _ _ _ h; exact h) (Or.inl ⟨by rfl, fun W hSw => ?_⟩) hHeld ?_
              rotate_left
              focus ((try dsimp only at hSw); first | (go_simp; done) | (go_simp; with_reducible rfl))
              try simp only [Act.put, List.setIfInBounds_toArray, List.set_cons_zero, List.set_cons_succ]
              refine wpAnyH_take (i := 13) (v := ?_) (by simp only [List.getElem?_toArray, List.getElem?_cons_succ, List.getElem?_cons_zero]; exact rfl) (by kernel_rfl) (by kernel_rfl) (by kernel_rfl) (by intro _ _ _ h; exact h) (Or.inl ⟨by rfl, fun W hSw => ?_⟩) hHeld ?_
              rotate_left
              focus ((try dsimp only at hSw); first | (go_simp; done) | (go_simp; with_reducible rfl))
              try simp only [Act.put, List.setIfInBounds_toArray, List.set_cons_zero, List.set_cons_succ]
              refine wpAnyH_take (i := 14) (v := undef) (by simp only [List.getElem?_toArray, List.getElem?_cons_succ, List.getElem?_cons_zero]; exact rfl) (by kernel_rfl) (by kernel_rfl) (by kernel_rfl) (by intro _ _ _ h; exact h) (Or.inr ⟨by rfl, rfl⟩) hHeld ?_
              try simp only [Act.put, List.setIfInBounds_toArray, List.set_cons_zero, List.set_cons_succ]
              refine wpAnyH_take (i := 15) (v := undef) (by simp only [List.getElem?_toArray, List.getElem?_cons_succ, List.getElem?_cons_zero]; exact rfl) (by kernel_rfl) (by kernel_rfl) (by kernel_rfl) (by intro _ _ _ h; exact h) (Or.inr ⟨by rfl, rfl⟩) hHeld ?_
              try simp only [Act.put, List.setIfInBounds_toArray, List.set_cons_zero, List.set_cons_succ]
              refine wpAnyH_take (i := 16) (v := undef) (by simp only [List.getElem?_toArray, List.getElem?_cons_succ, List.getElem?_cons_zero]; exact rfl) (by kernel_rfl) (by kernel_rfl) (by kernel_rfl) (by intro _ _ _ h; exact h) (Or.inr ⟨by rfl, rfl⟩) hHeld ?_
              try simp only [Act.put, List.setIfInBounds_toArray, List.set_cons_zero, List.set_cons_succ]
              refine wpAnyH_take (i := 17) (v := undef) (by simp only [List.getElem?_toArray, List.getElem?_cons_succ, List.getElem?_cons_zero]; exact rfl) (by kernel_rfl) (by kernel_rfl) (by kernel_rfl) (by intro _ _ _ h; exact h) (Or.inr ⟨by rfl, rfl⟩) hHeld ?_
              try simp only [Act.put, List.setIfInBounds_toArray, List.set_cons_zero, List.set_cons_succ]
              refine wpAnyH_take (i := 18) (v := undef) (by simp only [List.getElem?_toArray, List.getElem?_cons_succ, List.getElem?_cons_zero]; exact rfl) (by kernel_rfl) (by kernel_rfl) (by kernel_rfl) (by intro _ _ _ h; exact h) (Or.inr ⟨by rfl, rfl⟩) hHeld ?_
              try simp only [Act.put, List.setIfInBounds_toArray, List.set_cons_zero, List.set_cons_succ]
              refine wpAnyH_take (i := 19) (v := undef) (by simp only [List.getElem?_toArray, List.getElem?_cons_succ, List.getElem?_cons_zero]; exact rfl) (by kernel_rfl) (by kernel_rfl) (by kernel_rfl) (by intro _ _ _ h; exact h) (Or.inr ⟨by rfl, rfl⟩) hHeld ?_
              try simp only [Act.put, List.setIfInBounds_toArray, List.set_cons_zero, List.set_cons_succ]
              refine wpAnyH_take (i := 20) (v := undef) (by simp only [List.getElem?_toArray, List.getElem?_cons_succ, List.getElem?_cons_zero]; exact rfl) (by kernel_rfl) (by kernel_rfl) (by kernel_rfl) (by intro _ _ _ h; exact h) (Or.inr ⟨by rfl, rfl⟩) hHeld ?_
              try simp only [Act.put, List.setIfInBounds_toArray, List.set_cons_zero, List.set_cons_succ]
              refine wpAnyH_take (i := 21) (v := undef) (by simp only [List.getElem?_toArray, List.getElem?_cons_succ, List.getElem?_cons_zero]; exact rfl) (by kernel_rfl) (by kernel_rfl) (by kernel_rfl) (by intro _ _ _ h; exact h) (Or.inr ⟨by rfl, rfl⟩) hHeld ?_
              try simp only [Act.put, List.setIfInBounds_toArray, List.set_cons_zero, List.set_cons_succ]
              refine wpAnyH_take (i := 22) (v := undef) (by simp only [List.getElem?_toArray, List.getElem?_cons_succ, List.getElem?_cons_zero]; exact rfl) (by kernel_rfl) (by kernel_rfl) (by kernel_rfl) (by intro _ _ _ h; exact h) (Or.inr ⟨by rfl, rfl⟩) hHeld ?_
              try simp only [Act.put, List.setIfInBounds_toArray, List.set_cons_zero, List.set_cons_succ]
              refine wpAnyH_take (i := 23) (v := undef) (by simp only [List.getElem?_toArray, List.getElem?_cons_succ, List.getElem?_cons_zero]; exact rfl) (by kernel_rfl) (by kernel_rfl) (by kernel_rfl) (by intro _ _ _ h; exact h) (Or.inr ⟨by rfl, rfl⟩) hHeld ?_
              try simp only [Act.put, List.setIfInBounds_toArray, List.set_cons_zero, List.set_cons_succ]
              refine wpAnyH_take (i := 24) (v := undef) (by simp only [List.getElem?_toArray, List.getElem?_cons_succ, List.getElem?_cons_zero]; exact rfl) (by kernel_rfl) (by kernel_rfl) (by kernel_rfl) (by intro _ _ _ h; exact h) (Or.inr ⟨by rfl, rfl⟩) hHeld ?_
              try simp only [Act.put, List.setIfInBounds_toArray, List.set_cons_zero, List.set_cons_succ]
              refine wpAnyH_take (i := 25) (v := ?_) (by simp only [List.getElem?_toArray, List.getElem?_cons_succ, List.getElem?_cons_zero]; exact rfl) (by kernel_rfl) (by kernel_rfl) (by kernel_rfl) (by intro _ _ _ h; exact h) (Or.inl ⟨by rfl, fun W hSw => ?_⟩) hHeld ?_
              rotate_left
              focus ((try dsimp only at hSw); first | (go_simp; done) | (go_simp; with_reducible rfl))
              try simp only [Act.put, List.setIfInBounds_toArray, List.set_cons_zero, List.set_cons_succ]
              refine wpAnyH_take (i := 26) (v := ?_) (by simp only [List.getElem?_toArray, List.getElem?_cons_succ, List.getElem?_cons_zero]; exact rfl) (by kernel_rfl) (by kernel_rfl) (by kernel_rfl) (by intro _ _ _ h; exact h) (Or.inl ⟨by rfl, fun W hSw => ?_⟩) hHeld ?_
              rotate_left
              focus ((try dsimp only at hSw); first | (go_simp; done) | (go_simp; with_reducible rfl))
              try simp only [Act.put, List.setIfInBounds_toArray, List.set_cons_zero, List.set_cons_succ]
              refine wpAnyH_take (i := 27) (v := ?_) (by simp only [List.getElem?_toArray, List.getElem?_cons_succ, List.getElem?_cons_zero]; exact rfl) (by kernel_rfl) (by kernel_rfl) (by kernel_rfl) (by intro _ _ _ h; exact h) (Or.inl ⟨by rfl, fun W hSw => ?_⟩) hHeld ?_
              rotate_left
              focus ((try dsimp only at hSw); first | (go_simp; done) | (go_simp; with_reducible rfl))
              try simp only [Act.put, List.setIfInBounds_toArray, List.set_cons_zero, List.set_cons_succ]
              refine wpAnyH_done (by kernel_rfl) ?_ _
              clear hHeld
              go_wp2
              go_roundw
              case rel => exact ⟨m + 1, by omega, by go_num, ⟨false, rfl, HN⟩, drewN_one _ _⟩
              case measure => simp [intOf]; omega
            · have HN : Hid (true = (xs.take (m + 1)).any fun x => ow x && x.name == dn) := Lib.hid (by rw [HNX.out]; rfl)
              clear HNX
              go_wp2
              refine wp_region_held_drew (S := (fun w' => w'.cell? ⟨b, o + m * 4, none⟩ = some (.string ⟨xn.toArray⟩) ∧ w'.cell? ⟨b, o + m * 4 + 3, none⟩ = some (.string ⟨xf.toArray⟩) ∧ w'.cell? ⟨b, o + k * 4, none⟩ = some (.string ⟨dn.toArray⟩))) (by kernel_rfl) (⟨x0, x3, d0⟩) (fun hHeld => ?_)
              refine wpAnyH_take (i := 0) (v := ?_) (by simp only [List.getElem?_toArray, List.getElem?_cons_zero]; exact rfl) (by kernel_rfl) (by kernel_rfl) (by kernel_rfl) (by intro _ _ _ h; exact h) (Or.inl ⟨by rfl, fun W hSw => ?_⟩) hHeld ?_
              rotate_left
              focus ((try dsimp only at hSw); first | (go_simp; done) | (go_simp; with_reducible rfl))
              try simp only [Act.put, List.setIfInBounds_toArray, List.set_cons_zero, List.set_cons_succ]
              refine wpAnyH_take (i := 1) (v := ?_) (by simp only [List.getElem?_toArray, List.getElem?_cons_succ, List.getElem?_cons_zero]; exact rfl) (by kernel_rfl) (by kernel_rfl) (by kernel_rfl) (by intro _ _ _ h; exact h) (Or.inl ⟨by rfl, fun W hSw => ?_⟩) hHeld ?_
              rotate_left
              focus ((try dsimp only at hSw); first | (go_simp; done) | (go_simp; with_reducible rfl))
              try simp only [Act.put, List.setIfInBounds_toArray, List.set_cons_zero, List.set_cons_succ]
              refine wpAnyH_take (i := 2) (v := undef) (by simp only [List.getElem?_toArray, List.getElem?_cons_succ, List.getElem?_cons_zero]; exact rfl) (by kernel_rfl) (by kernel_rfl) (by kernel_rfl) (by intro _ _ _ h; exact h) (Or.inr ⟨by rfl, rfl⟩) hHeld ?_
              try simp only [Act.put, List.setIfInBounds_toArray, List.set_cons_zero, List.set_cons_succ]
              refine wpAnyH_take (i := 3) (v := undef) (by simp only [List.getElem?_toArray, List.getElem?_cons_succ, List.getElem?_cons_zero]; exact rfl) (by kernel_rfl) (by kernel_rfl) (by kernel_rfl) (by intro _ _ _ h; exact h) (Or.inr ⟨by rfl, rfl⟩) hHeld ?_
              try simp only [Act.put, List.setIfInBounds_toArray, List.set_cons_zero, List.set_cons_succ]
              refine wpAnyH_take (i := 4) (v := undef) (by simp only [List.getElem?_toArray, List.getElem?_cons_succ, List.getElem?_cons_zero]; exact rfl) (by kernel_rfl) (by kernel_rfl) (by kernel_rfl) (by intro _ _ _ h; exact h) (Or.inr ⟨by rfl, rfl⟩) hHeld ?_
              try simp only [Act.put, List.setIfInBounds_toArray, List.set_cons_zero, List.set_cons_succ]
              refine wpAnyH_take (i := 5) (v := undef) (by simp only [List.getElem?_toArray, List.getElem?_cons_succ, List.getElem?_cons_zero]; exact rfl) (by kernel_rfl) (by kernel_rfl) (by kernel_rfl) (by intro _ _ _ h; exact h) (Or.inr ⟨by rfl, rfl⟩) hHeld ?_
              try simp only [Act.put, List.setIfInBounds_toArray, List.set_cons_zero, List.set_cons_succ]
              refine wpAnyH_take (i := 6) (v := undef) (by simp only [List.getElem?_toArray, List.getElem?_cons_succ, List.getElem?_cons_zero]; exact rfl) (by kernel_rfl) (by kernel_rfl) (by kernel_rfl) (by intro _ _ _ h; exact h) (Or.inr ⟨by rfl, rfl⟩) hHeld ?_
              try simp only [Act.put, List.setIfInBounds_toArray, List.set_cons_zero, List.set_cons_succ]
              refine wpAnyH_take (i := 7) (v := undef) (by simp only [List.getElem?_toArray, List.getElem?_cons_succ, List.getElem?_cons_zero]; exact rfl) (by kernel_rfl) (by kernel_rfl) (by kernel_rfl) (by intro _ _ _ h; exact h) (Or.inr ⟨by rfl, rfl⟩) hHeld ?_
              try simp only [Act.put, List.setIfInBounds_toArray, List.set_cons_zero, List.set_cons_succ]
              refine wpAnyH_take (i := 8) (v := undef) (by simp only [List.getElem?_toArray, List.getElem?_cons_succ, List.getElem?_cons_zero]; exact rfl) (by kernel_rfl) (by kernel_rfl) (by kernel_rfl) (by intro _ _ _ h; exact h) (Or.inr ⟨by rfl, rfl⟩) hHeld ?_
              try simp only [Act.put, List.setIfInBounds_toArray, List.set_cons_zero, List.set_cons_succ]
              refine wpAnyH_take (i := 9) (v := undef) (by simp only [List.getElem?_toArray, List.getElem?_cons_succ, List.getElem?_cons_zero]; exact rfl) (by kernel_rfl) (by kernel_rfl) (by kernel_rfl) (by intro _ _ _ h; exact h) (Or.inr ⟨by rfl, rfl⟩) hHeld ?_
              try simp only [Act.put, List.setIfInBounds_toArray, List.set_cons_zero, List.set_cons_succ]
              refine wpAnyH_take (i := 10) (v := undef) (by simp only [List.getElem?_toArray, List.getElem?_cons_succ, List.getElem?_cons_zero]; exact rfl) (by kernel_rfl) (by kernel_rfl) (by kernel_rfl) (by intro _ _ _ h; exact h) (Or.inr ⟨by rfl, rfl⟩) hHeld ?_
              try simp only [Act.put, List.setIfInBounds_toArray, List.set_cons_zero, List.set_cons_succ]
              refine wpAnyH_take (i := 11) (v := undef) (by simp only [List.getElem?_toArray, List.getElem?_cons_succ, List.getElem?_cons_zero]; exact rfl) (by kernel_rfl) (by kernel_rfl) (by kernel_rfl) (by intro _ _ _ h; exact h) (Or.inr ⟨by rfl, rfl⟩) hHeld ?_
              try simp only [Act.put, List.setIfInBounds_toArray, List.set_cons_zero, List.set_cons_succ]
              refine wpAnyH_take (i := 12) (v := undef) (by simp only [List.getElem?_toArray, List.getElem?_cons_succ, List.getElem?_cons_zero]; exact rfl) (by kernel_rfl) (by kernel_rfl) (by kernel_rfl) (by intro _ _ _ h; exact h) (Or.inr ⟨by rfl, rfl⟩) hHeld ?_
              try simp only [Act.put, List.setIfInBounds_toArray, List.set_cons_zero, List.set_cons_succ]
              refine wpAnyH_take (i := 13) (v := undef) (by simp only [List.getElem?_toArray, List.getElem?_cons_succ, List.getElem?_cons_zero]; exact rfl) (by kernel_rfl) (by kernel_rfl) (by kernel_rfl) (by intro _ _ _ h; exact h) (Or.inr ⟨by rfl, rfl⟩) hHeld ?_
              try simp only [Act.put, List.setIfInBounds_toArray, List.set_cons_zero, List.set_cons_succ]
              refine wpAnyH_take (i := 14) (v := undef) (by simp only [List.getElem?_toArray, List.getElem?_cons_succ, List.getElem?_cons_zero]; exact rfl) (by kernel_rfl) (by kernel_rfl) (by kernel_rfl) (by intro _ _ _ h; exact h) (Or.inr ⟨by rfl, rfl⟩) hHeld ?_
              try simp only [Act.put, List.setIfInBounds_toArray, List.set_cons_zero, List.set_cons_succ]
              refine wpAnyH_take (i := 15) (v := undef) (by simp only [List.getElem?_toArray, List.getElem?_cons_succ, List.getElem?_cons_zero]; exact rfl) (by kernel_rfl) (by kernel_rfl) (by kernel_rfl) (by intro _ _ _ h; exact h) (Or.inr ⟨by rfl, rfl⟩) hHeld ?_
              try simp only [Act.put, List.setIfInBounds_toArray, List.set_cons_zero, List.set_cons_succ]
              refine wpAnyH_take (i := 16) (v := undef) (by simp only [List.getElem?_toArray, List.getElem?_cons_succ, List.getElem?_cons_zero]; exact rfl) (by kernel_rfl) (by kernel_rfl) (by kernel_rfl) (by intro _ _ _ h; exact h) (Or.inr ⟨by rfl, rfl⟩) hHeld ?_
              try simp only [Act.put, List.setIfInBounds_toArray, List.set_cons_zero, List.set_cons_succ]
              refine wpAnyH_take (i := 17) (v := undef) (by simp only [List.getElem?_toArray, List.getElem?_cons_succ, List.getElem?_cons_zero]; exact rfl) (by kernel_rfl) (by kernel_rfl) (by kernel_rfl) (by intro _ _ _ h; exact h) (Or.inr ⟨by rfl, rfl⟩) hHeld ?_
              try simp only [Act.put, List.setIfInBounds_toArray, List.set_cons_zero, List.set_cons_succ]
              refine wpAnyH_take (i := 18) (v := undef) (by simp only [List.getElem?_toArray, List.getElem?_cons_succ, List.getElem?_cons_zero]; exact rfl) (by kernel_rfl) (by kernel_rfl) (by kernel_rfl) (by intro _ _ _ h; exact h) (Or.inr ⟨by rfl, rfl⟩) hHeld ?_
              try simp only [Act.put, List.setIfInBounds_toArray, List.set_cons_zero, List.set_cons_succ]
              refine wpAnyH_take (i := 19) (v := undef) (by simp only [List.getElem?_toArray, List.getElem?_cons_succ, List.getElem?_cons_zero]; exact rfl) (by kernel_rfl) (by kernel_rfl) (by kernel_rfl) (by intro _ _ _ h; exact h) (Or.inr ⟨by rfl, rfl⟩) hHeld ?_
              try simp only [Act.put, List.setIfInBounds_toArray, List.set_cons_zero, List.set_cons_succ]
              refine wpAnyH_take (i := 20) (v := undef) (by simp only [List.getElem?_toArray, List.getElem?_cons_succ, List.getElem?_cons_zero]; exact rfl) (by kernel_rfl) (by kernel_rfl) (by kernel_rfl) (by intro _ _ _ h; exact h) (Or.inr ⟨by rfl, rfl⟩) hHeld ?_
              try simp only [Act.put, List.setIfInBounds_toArray, List.set_cons_zero, List.set_cons_succ]
              refine wpAnyH_take (i := 21) (v := undef) (by simp only [List.getElem?_toArray, List.getElem?_cons_succ, List.getElem?_cons_zero]; exact rfl) (by kernel_rfl) (by kernel_rfl) (by kernel_rfl) (by intro _ _ _ h; exact h) (Or.inr ⟨by rfl, rfl⟩) hHeld ?_
              try simp only [Act.put, List.setIfInBounds_toArray, List.set_cons_zero, List.set_cons_succ]
              refine wpAnyH_take (i := 22) (v := undef) (by simp only [List.getElem?_toArray, List.getElem?_cons_succ, List.getElem?_cons_zero]; exact rfl) (by kernel_rfl) (by kernel_rfl) (by kernel_rfl) (by intro _ _ _ h; exact h) (Or.inr ⟨by rfl, rfl⟩) hHeld ?_
              try simp only [Act.put, List.setIfInBounds_toArray, List.set_cons_zero, List.set_cons_succ]
              refine wpAnyH_take (i := 23) (v := undef) (by simp only [List.getElem?_toArray, List.getElem?_cons_succ, List.getElem?_cons_zero]; exact rfl) (by kernel_rfl) (by kernel_rfl) (by kernel_rfl) (by intro _ _ _ h; exact h) (Or.inr ⟨by rfl, rfl⟩) hHeld ?_
              try simp only [Act.put, List.setIfInBounds_toArray, List.set_cons_zero, List.set_cons_succ]
              refine wpAnyH_take (i := 24) (v := undef) (by simp only [List.getElem?_toArray, List.getElem?_cons_succ, List.getElem?_cons_zero]; exact rfl) (by kernel_rfl) (by kernel_rfl) (by kernel_rfl) (by intro _ _ _ h; exact h) (Or.inr ⟨by rfl, rfl⟩) hHeld ?_
              try simp only [Act.put, List.setIfInBounds_toArray, List.set_cons_zero, List.set_cons_succ]
              refine wpAnyH_take (i := 25) (v := undef) (by simp only [List.getElem?_toArray, List.getElem?_cons_succ, List.getElem?_cons_zero]; exact rfl) (by kernel_rfl) (by kernel_rfl) (by kernel_rfl) (by intro _ _ _ h; exact h) (Or.inr ⟨by rfl, rfl⟩) hHeld ?_
              try simp only [Act.put, List.setIfInBounds_toArray, List.set_cons_zero, List.set_cons_succ]
              refine wpAnyH_take (i := 26) (v := ?_) (by simp only [List.getElem?_toArray, List.getElem?_cons_succ, List.getElem?_cons_zero]; exact rfl) (by kernel_rfl) (by kernel_rfl) (by kernel_rfl) (by intro _ _ _ h; exact h) (Or.inl ⟨by rfl, fun W hSw => ?_⟩) hHeld ?_
              rotate_left
              focus ((try dsimp only at hSw); first | (go_simp; done) | (go_simp; with_reducible rfl))
              try simp only [Act.put, List.setIfInBounds_toArray, List.set_cons_zero, List.set_cons_succ]
              refine wpAnyH_take (i := 27) (v := ?_) (by simp only [List.getElem?_toArray, List.getElem?_cons_succ, List.getElem?_cons_zero]; exact rfl) (by kernel_rfl) (by kernel_rfl) (by kernel_rfl) (by intro _ _ _ h; exact h) (Or.inl ⟨by rfl, fun W hSw => ?_⟩) hHeld ?_
              rotate_left
              focus ((try dsimp only at hSw); first | (go_simp; done) | (go_simp; with_reducible rfl))
              try simp only [Act.put, List.setIfInBounds_toArray, List.set_cons_zero, List.set_cons_succ]
              refine wpAnyH_done (by kernel_rfl) ?_ _
              clear hHeld
              go_wp2
              go_roundw
              case rel => exact ⟨m + 1, by omega, by go_num, ⟨true, rfl, HN⟩, drewN_one _ _⟩
              case measure => simp [intOf]; omega
          · have hme : m = xs.length := by omega
            subst hme
            have t2 : decide ((xs.length : Int) < (xs.length : Int)) = false := by simp
            have hq := HQ.out
            rw [HALL.out] at hq
            have hmb := HMB2.out
            rw [← hq, HOW2.out, hde] at hmb
            have d0 : (wo.drewN qn).cell? ⟨b, o + k * 4, none⟩ = some (.string ⟨dn.toArray⟩) := c0
            have d1 : (wo.drewN qn).cell? ⟨b, o + k * 4 + 1, none⟩ = some (.string ⟨dv.toArray⟩) := c1
            have d2 : (wo.drewN qn).cell? ⟨b, o + k * 4 + 2, none⟩ = some (.bool dh) := c2
            have d3 : (wo.drewN qn).cell? ⟨b, o + k * 4 + 3, none⟩ = some (.string ⟨df.toArray⟩) := c3
            have HO2 : Hid (DSt4 w.heap.size (.slice oa acc.length oc) acc (some ⟨b, o, none⟩) xs (wo.drewN qn)) := HO
            obtain ⟨W5, hW5⟩ : ∃ W5, wo.drewN qn = W5 := ⟨_, rfl⟩
            rw [hW5] at d0 d1 d2 d3 HO2 hsz ⊢
            clear hW5 HQ hq HMB2 HOW2 HALL HANY HOW HRD HO c0 c1 c2 c3
            have yes : mb ⟨dn, dv, dh, df⟩ = true → Hid ((xs.take (k + 1)).filter mb = acc ++ [⟨dn, dv, dh, df⟩]) := fun h => Lib.hid (by rw [HST.out, h]; rfl)
            have no : mb ⟨dn, dv, dh, df⟩ = false → Hid ((xs.take (k + 1)).filter mb = acc) := fun h => Lib.hid (by rw [HST.out, h]; rfl)
            have YES := Lib.hid yes; have NO := Lib.hid no
            clear yes no HST
            cases e1 : (df == dev.toList) <;> cases e3 : df.isEmpty <;> cases q
            all_goals (
              rw [e1, e3] at hmb
              first
                | (have HN := NO.out hmb
                   clear hmb
                   have HO3 : Hid (DSt4 w.heap.size (.slice oa acc.length oc) ((xs.take (k + 1)).filter mb) (some ⟨b, o, none⟩) xs W5) := by rw [HN.out]; exact HO2
                   clear NO YES HO2
                   go_wp2
                   go_roundw
                   case rel => exact ⟨k + 1, by omega, by go_num, HO3, hsz⟩
                   case measure => simp [intOf]; omega)
                | (have HN := YES.out hmb
                   clear hmb
                   clear NO YES
                   go_wp2_with (at_builtin; refine app_dir w.heap.size ⟨dn, dv, dh, df⟩ HO2.out.1 hsz.size hlen2 rfl _ _ rfl rfl rfl ?_)
                   intro v' w7 hO7 hb7 hfar7
                   have hB7 := hsz.trans hb7
                   have HO7 : Hid (DSt4 w.heap.size v' ((xs.take (k + 1)).filter mb) (some ⟨b, o, none⟩) xs w7) := by rw [HN.out]; exact Lib.hid (HO2.out.far hO7 hfar7)
                   clear hO7 hb7 hfar7 HO2
                   go_wp2
                   go_roundw
                   case rel => exact ⟨k + 1, by omega, by go_num, HO7, hB7⟩
                   case measure => simp [intOf]; omega))
      · have hke : k = xs.length := by omega
        subst hke
        clear HSTEP HLEN HMB
        generalize (xs.take xs.length).filter mb = q at *
        have t1 : decide ((xs.length : Int) < (xs.length : Int)) = false := by simp
        go_wp2
        go_ret
        exact ⟨oa, oc, rfl, HO.out.1, hbw⟩
end Go.Proofs.YtfoabdpfadgafaaDoor
/- The walk of the document's Delta. -/
namespace Go.Proofs.YtfoabdpfadgafaaDoor
open Go.RowKit

set_option maxHeartbeats 1000000 in
theorem rof_any (n : Int) (w : World) :
    Calls Tryd.prog 101 #[.int .i64 n] w fun e w' => e = .returned (.int .i64 (bnd n)) ∧ w = w' := by
  rcases (by omega : n < 0 ∨ (0 ≤ n ∧ n ≤ 2147483648) ∨ 2147483648 < n) with h | ⟨h, h2⟩ | h
  · have Hb := Lib.hid (bnd_neg h)
    go_enter Tryd.func101, Tryd.ntmps101
    go_wp2
    go_ret
    exact ⟨ret_int Hb.out.symm, rfl⟩
  · have Hb := Lib.hid (bnd_in h h2)
    go_enter Tryd.func101, Tryd.ntmps101
    go_wp2
    go_ret
    exact ⟨ret_int Hb.out.symm, rfl⟩
  · have Hb := Lib.hid (bnd_big h)
    go_enter Tryd.func101, Tryd.ntmps101
    go_wp2
    go_ret
    exact ⟨ret_int Hb.out.symm, rfl⟩

set_option maxHeartbeats 4000000 in
theorem rdelta_any (s : ByteArray) (w : World) (hs : s.size ≤ 1000000) :
    Calls Tryd.prog 89 #[.string s] w fun e w' => e = .returned (deltaV s.data.toList) ∧ w = w' := by
  by_cases h0 : 0 < s.size
  · have hne : s.toList.isEmpty = false := by rw [Lib.toList_data]; exact ne_of_pos s h0
    have hB : ∀ k (h : k < s.size), dgt s[k] = false → deltaV s.data.toList = .tuple #[.int .i64 0, .bool false] := fun k h hb => delta_bad s k h hb
    have HB := Lib.hid hB
    have hL : ∀ f (hf : f < s.size), s.data.toList.all dgt = true → (∀ c ∈ s.data.toList.take f, c.toNat = 48) → ¬ s[f].toNat = 48 → 10 < s.size - f → deltaV s.data.toList = .tuple #[.int .i64 2147483648, .bool true] := fun f hf => delta_long s f hf
    have hS : ∀ f, s.data.toList.all dgt = true → (∀ c ∈ s.data.toList.take f, c.toNat = 48) → deltaV s.data.toList = .tuple #[.int .i64 (bnd (val (s.data.toList.drop f))), .bool true] := fun f => delta_short s f h0
    have HL := Lib.hid hL; have HS := Lib.hid hS
    clear hB hL hS
    generalize deltaV s.data.toList = out at *
    go_enter Tryd.func89, Tryd.ntmps89
    go_wp2
    clear hne
    go_loop [5, 4] (fun i g => ∃ (k f : Nat), k ≤ s.size ∧ f ≤ k ∧ i = .int .i64 k ∧ g = .int .i64 f ∧ Hid ((s.data.toList.take k).all dgt = true) ∧ Hid (∀ c ∈ s.data.toList.take f, c.toNat = 48) ∧ Hid (f < k → ∀ h : f < s.size, ¬ s[f].toNat = 48)) (fun i _ => s.size - (intOf i).toNat)
    case atStart => exact ⟨0, 0, Nat.zero_le _, Nat.le_refl _, rfl, rfl, by show _ = _; simp, by show ∀ c ∈ _, _; simp, fun h => absurd h (by omega)⟩
    case round =>
      obtain ⟨k, f, hk, hfk, rfl, rfl, Hall, Hz, Hnz⟩ := hrel
      by_cases hlt : k < s.size
      · have hu := u8_lt s[k]
        have hd := dgtI s[k]
        cases c1 : decide (48 ≤ (s[k].toNat : Int)) <;> cases c2 : decide ((s[k].toNat : Int) ≤ 57)
        · exfalso; simp at c1 c2; omega
        · have hf := HB.out k hlt (by rw [hd, c1, c2]; rfl)
          have Hf := Lib.hid hf; clear hf hd
          have c3 : decide ((s[k].toNat : Int) < 48) = true := by simp at c1 ⊢; omega
          go_wp2
          go_ret2
          exact ⟨by rw [Hf.out]; rfl, rfl⟩
        · have hf := HB.out k hlt (by rw [hd, c1, c2]; rfl)
          have Hf := Lib.hid hf; clear hf hd
          have c3 : decide ((s[k].toNat : Int) < 48) = false := by simp at c1 ⊢; omega
          have c4 : decide (57 < (s[k].toNat : Int)) = true := by simp at c2 ⊢; omega
          go_wp2
          go_ret2
          exact ⟨by rw [Hf.out]; rfl, rfl⟩
        · have hn : (s.data.toList.take (k + 1)).all dgt = true := by rw [all_snoc dgt s k hlt, Hall.out, hd, c1, c2]; rfl
          have c3 : decide ((s[k].toNat : Int) < 48) = false := by simp at c1 ⊢; omega
          have c4 : decide (57 < (s[k].toNat : Int)) = false := by simp at c2 ⊢; omega
          have Hn := Lib.hid hn; clear hn hd c1 c2
          cases c5 : ((s[k].toNat : Int) == 48)
          · have hq : f < k + 1 → ∀ h : f < s.size, ¬ s[f].toNat = 48 := by
              intro h1 h2
              by_cases e : f = k
              · subst e; simp at c5; omega
              · exact Hnz.out (by omega) h2
            have Hq := Lib.hid hq; clear hq
            go_wp2
            go_round
            case rel => exact ⟨k + 1, f, by omega, by omega, by go_num, rfl, Hn, Hz, Hq⟩
            case measure => simp [intOf]; omega
          · by_cases e : f = k
            · subst e
              have c6 : ((f : Int) == f) = true := by simp
              have hq : ∀ c ∈ s.data.toList.take (f + 1), c.toNat = 48 := by
                rw [take_snoc s f hlt]; intro c hc
                rcases List.mem_append.1 hc with h | h
                · exact Hz.out c h
                · obtain rfl := List.mem_singleton.1 h; simp at c5; omega
              have Hq := Lib.hid hq; clear hq
              go_wp2
              go_round
              case rel => exact ⟨f + 1, f + 1, by omega, by omega, by go_num, by go_num, Hn, Hq, fun h => absurd h (by omega)⟩
              case measure => simp [intOf]; omega
            · have c6 : ((f : Int) == k) = false := by rw [beq_eq_false_iff_ne]; omega
              have hq : f < k + 1 → ∀ h : f < s.size, ¬ s[f].toNat = 48 := fun _ h2 => Hnz.out (by omega) h2
              have Hq := Lib.hid hq; clear hq
              go_wp2
              go_round
              case rel => exact ⟨k + 1, f, by omega, by omega, by go_num, rfl, Hn, Hz, Hq⟩
              case measure => simp [intOf]; omega
      · have hke : k = s.size := by omega
        have hall : s.data.toList.all dgt = true := by have := Hall.out; rwa [take_all s k (by omega)] at this
        by_cases hlg : 10 < s.size - f
        · have hf := HL.out f (by omega) hall Hz.out (Hnz.out (by omega) (by omega)) hlg
          have Hf := Lib.hid hf; clear hf hall
          have Hke := Lib.hid hke; clear hke
          have c7 : decide (10 < (s.size : Int) - f) = true := by simp; omega
          go_wp2
          go_ret2
          exact ⟨by rw [Hf.out]; rfl, rfl⟩
        · have hf := HS.out f hall Hz.out
          have Hf := Lib.hid hf; clear hf
          have Hke := Lib.hid hke; clear hke
          have Hal := Lib.hid hall; clear hall
          have c7 : decide (10 < (s.size : Int) - f) = false := by simp; omega
          have hfs : f ≤ s.size := by have := Hke.out; omega
          go_wp2
          clear c7 hlt
          go_loop [7, 6] (fun i n => ∃ (j v : Nat), f ≤ j ∧ j ≤ s.size ∧ i = .int .i64 j ∧ n = .int .i64 v ∧ v < 10000000000 ∧ Hid (v = val ((s.data.toList.drop f).take (j - f)))) (fun i _ => s.size - (intOf i).toNat)
          case atStart => exact ⟨f, 0, Nat.le_refl _, hfs, rfl, rfl, by decide, by show _ = _; rw [Nat.sub_self]; rfl⟩
          case round =>
            obtain ⟨j, v, hfj, hj, rfl, rfl, hv, Hv⟩ := hrel
            by_cases hlt : j < s.size
            · have hu := u8_lt s[j]
              have hmem : dgt s[j] = true := by
                have h1 := Hal.out
                rw [List.all_eq_true] at h1
                exact h1 s[j] (by show s.data[j] ∈ _; simp)
              have hd := dgtI s[j]
              rw [hmem] at hd
              have c5 : (48 : Int) ≤ (s[j].toNat : Int) := by simp at hd; omega
              have hnx : (s.data.toList.drop f).take (j + 1 - f) = (s.data.toList.drop f).take (j - f) ++ [s[j]] := by
                rw [show j + 1 - f = (j - f) + 1 from by omega, List.take_succ_eq_append_getElem (by rw [List.length_drop, ← Lib.size_eq]; omega)]
                congr 2
                rw [List.getElem_drop, at_list s j hlt]; congr 1; omega
              have hvn : 10 * v + (s[j].toNat - 48) = val ((s.data.toList.drop f).take (j + 1 - f)) := by rw [hnx, val_snoc, Hv.out]
              have hvl : 10 * v + (s[j].toNat - 48) < 10000000000 := by
                rw [hvn]
                have hal2 : ((s.data.toList.drop f).take (j + 1 - f)).all dgt = true := by
                  rw [List.all_eq_true]; intro x hx
                  exact List.all_eq_true.1 Hal.out x (List.mem_of_mem_drop (List.mem_of_mem_take hx))
                have h1 := val_lt _ hal2
                have h2 : ((s.data.toList.drop f).take (j + 1 - f)).length ≤ 10 := by rw [List.length_take, List.length_drop, ← Lib.size_eq]; omega
                have h3 : (10 : Nat) ^ ((s.data.toList.drop f).take (j + 1 - f)).length ≤ 10 ^ 10 := Nat.pow_le_pow_right (by decide) h2
                have : (10 : Nat) ^ 10 = 10000000000 := rfl
                omega
              have Hvn := Lib.hid hvn; clear hvn hd hmem hnx
              go_wp2
              go_round
              case rel => exact ⟨j + 1, 10 * v + (s[j].toNat - 48), by omega, by omega, by go_num, by congr 1; omega, hvl, Hvn⟩
              case measure => simp [intOf]; omega
            · have hv2 : v = val (s.data.toList.drop f) := by
                rw [Hv.out, List.take_of_length_le (by rw [List.length_drop, ← Lib.size_eq]; omega)]
              have Hv2 := Lib.hid hv2; clear hv2
              go_wp2_with (go_at_call 101; refine (rof_any _ _).mono ?_; rintro e w' ⟨rfl, rfl⟩)
              go_ret2
              exact ⟨by rw [Hf.out, ← Hv2.out]; rfl, rfl⟩
  · have he : s.data.toList = [] := by apply List.eq_nil_of_length_eq_zero; rw [← Lib.size_eq]; omega
    have hne : s.toList.isEmpty = true := by rw [Lib.toList_data, he]; rfl
    rw [he]
    clear he
    go_enter Tryd.func89, Tryd.ntmps89
    go_wp2
    go_ret2
    exact ⟨rfl, rfl⟩
end Go.Proofs.YtfoabdpfadgafaaDoor
/- The walks of the document's first, word, ages, Of (layer 12). -/
namespace Go.Proofs.YtfoabdpfadgafaaDoor
open Go.RowKit
set_option maxRecDepth 100000

def optV (o : Option (List UInt8)) : Value := .tuple #[.string ⟨(o.getD []).toArray⟩, .bool o.isSome]
set_option maxHeartbeats 4000000 in
theorem rfirst_any (A : Option Addr) (n c : Nat) (xs : List Dir) (nm : List UInt8) (w : World) (hr : Rd A n 4 (dirsV xs) w) (hn : n ≤ 1000000) :
    Calls Tryd.prog 62 #[.slice A n c, .string ⟨nm.toArray⟩] w fun e w' => e = .returned (optV (firstV xs nm)) ∧ w = w' := by
  obtain rfl := hr.dir
  have hstep := fun k (h : k < xs.length) => @find_take_none xs (fun d => d.name == nm) k h
  have hhit : ∀ k (h : k < xs.length), (xs.take k).find? (fun d => d.name == nm) = none → (xs[k].name == nm) = true → firstV xs nm = some xs[k].value := fun k h hno hp => first_some (find_take_some h hno hp)
  have hend : ∀ k, k = xs.length → (xs.take k).find? (fun d => d.name == nm) = none → firstV xs nm = none := fun k hk h => by
    subst hk; rw [List.take_length] at h; exact first_none h
  generalize firstV xs nm = out at *
  have HR := Lib.hid hr; have HS := Lib.hid hstep; have HH := Lib.hid hhit; have HE := Lib.hid hend
  clear hr hstep hhit hend
  go_enter Tryd.func62, Tryd.ntmps62
  go_wp2_with fail
  go_loopw [6] (fun i wr => ∃ k : Nat, k ≤ xs.length ∧ i = .int .i64 k ∧ Hid ((xs.take k).find? (fun d => d.name == nm) = none) ∧ wr = w) (fun i _ => xs.length - (intOf i).toNat)
  case atStart => exact ⟨0, Nat.zero_le _, rfl, Lib.hid (by simp), rfl⟩
  case round =>
    obtain ⟨k, hk, rfl, HN, rfl⟩ := hrel
    by_cases hlt : k < xs.length
    · obtain ⟨b, o, rfl, hl, x0, x1, x2, x3⟩ := HR.out.dir_at (k := k) hlt
      have hst := HS.out k hlt HN.out
      have hht := HH.out k hlt HN.out
      generalize xs[k] = d at *
      obtain ⟨dn, dv, dh, df⟩ := d
      simp only at x0 x1 x2 x3 hht
      cases hq : (dn == nm)
      · have HN2 := Lib.hid (hst hq)
        clear hst hht HS HH HE HN
        go_wp2
        go_roundw
        case rel => exact ⟨k + 1, by omega, by go_num, HN2, trivial⟩
        case measure => simp [intOf]; omega
      · have ho := hht hq
        subst ho
        clear hst hht HS HH HE HN
        go_wp2
        go_ret2
        exact ⟨rfl, rfl⟩
    · have ho := HE.out k (by omega) HN.out
      subst ho
      clear HS HH HE HN
      go_wp2
      go_ret2
      exact ⟨rfl, rfl⟩

theorem blank12I (c : UInt8) : blanks.contains c = (((c.toNat : Int) == 32) || ((c.toNat : Int) == 9)) := by
  rw [Bool.eq_iff_iff]
  simp only [blanks, List.contains_cons, List.contains_nil, Bool.or_false, Bool.or_eq_true, beq_iff_eq, ← UInt8.toNat_inj]
  show (c.toNat = 32 ∨ c.toNat = 9) ↔ _
  omega
set_option maxHeartbeats 8000000 in
theorem rword_any (s wd : ByteArray) (w : World) (hs : s.size ≤ 1000000) :
    Calls Tryd.prog 63 #[.string s, .string wd] w fun e w' => e = .returned (.bool (wordP wd.data.toList [] s.data.toList)) ∧ w = w' := by
  have h0 : wordP wd.data.toList [] s.data.toList = wordP wd.data.toList ((s.data.toList.drop 0).take (0 - 0)) (s.data.toList.drop 0) := by simp
  generalize wordP wd.data.toList [] s.data.toList = out at *
  have H0 := Lib.hid h0; clear h0
  go_enter Tryd.func63, Tryd.ntmps63
  go_wp2_with fail
  go_loopw [6, 5] (fun i g wr => ∃ k f : Nat, k ≤ s.size + 1 ∧ f ≤ k ∧ i = .int .i64 k ∧ g = .int .i64 f ∧ Hid (k ≤ s.size → out = wordP wd.data.toList ((s.data.toList.drop f).take (k - f)) (s.data.toList.drop k)) ∧ Hid (s.size < k → out = false) ∧ wr = w) (fun i _ _ => s.size + 1 - (intOf i).toNat)
  case atStart => exact ⟨0, 0, Nat.zero_le _, Nat.le_refl _, rfl, rfl, Lib.hid (fun _ => H0.out), Lib.hid (fun h => by omega), rfl⟩
  case round =>
    obtain ⟨k, f, hk, hf, rfl, rfl, HA, HB, rfl⟩ := hrel
    by_cases hlt : k < s.size
    · have hA := HA.out (by omega)
      have hdc := drop_cons s k hlt
      have hbl := blank12I s[k]
      have hcur : (s.data.toList.drop f).take (k + 1 - f) = (s.data.toList.drop f).take (k - f) ++ [s[k]] := by
        rw [show k + 1 - f = (k - f) + 1 from by omega, List.take_add, List.drop_drop, show f + (k - f) = k from by omega, hdc]; rfl
      rw [hdc, wordP] at hA
      have hex : (s.extract f k).data.toList = (s.data.toList.drop f).take (k - f) := Lib.extract_data _ _ _
      have hu := u8_lt s[k]
      have tk : ((k : Int) == (s.size : Int)) = false := by simp; omega
      cases c1 : ((s[k].toNat : Int) == 32) <;> cases c2 : ((s[k].toNat : Int) == 9)
      · rw [c1, c2] at hbl
        rw [hbl, show (false || false) = false from rfl, cond_false, ← hcur] at hA
        have HA2 : Hid (k + 1 ≤ s.size → out = wordP wd.data.toList ((s.data.toList.drop f).take (k + 1 - f)) (s.data.toList.drop (k + 1))) := Lib.hid (fun _ => hA)
        have HB2 : Hid (s.size < k + 1 → out = false) := Lib.hid (fun h => by omega)
        clear hA hdc hbl hcur hex HA HB
        go_wp2
        go_roundw
        case rel => exact ⟨k + 1, f, by omega, by omega, by go_num, rfl, HA2, HB2, trivial⟩
        case measure => simp [intOf]; omega
      all_goals (
        rw [c1, c2] at hbl
        simp only [Bool.or_true, Bool.or_false] at hbl
        rw [hbl, cond_true, ← hex] at hA
        have heq : ((s.extract f k).toList == wd.toList) = ((s.extract f k).data.toList == wd.data.toList) := by rw [Lib.toList_data, Lib.toList_data]
        cases hq : ((s.extract f k).data.toList == wd.data.toList)
        · rw [hq, Bool.false_or] at hA
          rw [hq] at heq
          have HA2 : Hid (k + 1 ≤ s.size → out = wordP wd.data.toList ((s.data.toList.drop (k + 1)).take (k + 1 - (k + 1))) (s.data.toList.drop (k + 1))) := Lib.hid (fun _ => by rw [Nat.sub_self, List.take_zero]; exact hA)
          have HB2 : Hid (s.size < k + 1 → out = false) := Lib.hid (fun h => by omega)
          clear hA hdc hbl hcur hex HA HB hq
          go_wp2
          go_roundw
          case rel => exact ⟨k + 1, k + 1, by omega, by omega, by go_num, by go_num, HA2, HB2, trivial⟩
          case measure => simp [intOf]; omega
        · rw [hq, Bool.true_or] at hA
          rw [hq] at heq
          subst hA
          clear hdc hbl hcur hex HA HB hq
          go_wp2
          go_ret
          exact ⟨rfl, rfl⟩)
    · by_cases hke : k = s.size
      · subst hke
        have hA := HA.out (by omega)
        rw [drop_all s _ (Nat.le_refl _), wordP] at hA
        have hex : (s.extract f s.size).data.toList = (s.data.toList.drop f).take (s.size - f) := Lib.extract_data _ _ _
        rw [← hex] at hA
        have heq : ((s.extract f s.size).toList == wd.toList) = ((s.extract f s.size).data.toList == wd.data.toList) := by rw [Lib.toList_data, Lib.toList_data]
        have tk : ((s.size : Int) == (s.size : Int)) = true := by simp
        cases hq : ((s.extract f s.size).data.toList == wd.data.toList)
        · rw [hq] at hA heq
          have HA2 : Hid (s.size + 1 ≤ s.size → out = wordP wd.data.toList ((s.data.toList.drop (s.size + 1)).take (s.size + 1 - (s.size + 1))) (s.data.toList.drop (s.size + 1))) := Lib.hid (fun h => by omega)
          have HB2 : Hid (s.size < s.size + 1 → out = false) := Lib.hid (fun _ => hA)
          clear hA hex HA HB hq
          go_wp2
          go_roundw
          case rel => exact ⟨s.size + 1, s.size + 1, by omega, by omega, by go_num, by go_num, HA2, HB2, trivial⟩
          case measure => simp [intOf]
        · rw [hq] at hA heq
          subst hA
          clear hex HA HB hq
          go_wp2
          go_ret
          exact ⟨rfl, rfl⟩
      · have ho := HB.out (by omega)
        subst ho
        clear HA HB
        go_wp2
        go_ret
        exact ⟨rfl, rfl⟩

/-! ages -/
theorem dgt_43 {c : UInt8} (h : dgt c = true) : c ≠ 43 := by rintro rfl; exact absurd h (by decide)
theorem ages_delta {s : ByteArray} (h : deltaOk s.data.toList = true) : agesL s.data.toList = (bnd (val s.data.toList), 0) := by
  have hd : s.data.toList.all dgt = true := by unfold deltaOk at h; rw [Bool.and_eq_true] at h; exact h.2
  rw [List.all_eq_true] at hd
  have hc := cutc_miss s 43 (fun j hj => dgt_43 (hd _ (by rw [at_list s j hj]; exact List.getElem_mem _)))
  unfold agesL
  rw [hc]
  simp only
  rw [h]
  rfl
theorem ages_hit (s : ByteArray) (k : Nat) (hk : k < s.size) (h : s[k] = 43) (hno : ∀ j (hj : j < s.size), j < k → s[j] ≠ 43) : agesL s.data.toList = bif deltaOk (s.data.toList.take k) && deltaOk (s.data.toList.drop (k + 1)) then (bnd (val (s.data.toList.take k)), bnd (val (s.data.toList.drop (k + 1)))) else (0, 0) := by
  unfold agesL
  rw [cutc_hit s 43 k hk h hno]
  simp only
  cases deltaOk (s.data.toList.take k) <;> cases deltaOk (s.data.toList.drop (k + 1)) <;> rfl
theorem ages_miss (s : ByteArray) (h0 : deltaOk s.data.toList = false) (hno : ∀ j (hj : j < s.size), s[j] ≠ 43) : agesL s.data.toList = (0, 0) := by
  unfold agesL
  rw [cutc_miss s 43 hno]
  simp only
  rw [h0]
  rfl
theorem delta_behind (s : ByteArray) (k j : Nat) (hj : j < s.size) (hjk : j < k) (h : s[j] = 43) : deltaOk (s.data.toList.take k) = false := by
  cases ht : deltaOk (s.data.toList.take k)
  · rfl
  · exfalso
    have hd : (s.data.toList.take k).all dgt = true := by unfold deltaOk at ht; rw [Bool.and_eq_true] at ht; exact ht.2
    rw [List.all_eq_true] at hd
    have hl := Lib.size_eq s
    refine dgt_43 (hd 43 ?_) rfl
    rw [List.mem_take_iff_getElem]
    exact ⟨j, by omega, by rw [← at_list s j hj]; exact h⟩
def agesV (p : Int × Int) : Value := .tuple #[.int .i64 p.1, .int .i64 p.2]
set_option maxHeartbeats 8000000 in
theorem rages_any (s : ByteArray) (w : World) (hs : s.size ≤ 1000000) :
    Calls Tryd.prog 64 #[.string s] w fun e w' => e = .returned (agesV (agesL s.data.toList)) ∧ w = w' := by
  have k1 := fun W => rdelta_any s W hs
  unfold deltaV at k1
  cases h0 : deltaOk s.data.toList
  · have hmiss := ages_miss s h0
    have hhit := ages_hit s
    have hbeh := delta_behind s
    have hcut : ∀ k, k ≤ s.size → s.extract 0 k = ⟨(s.data.toList.take k).toArray⟩ := fun k _ => str_eq _ _ (by rw [Lib.extract_data]; simp)
    have hcut2 : ∀ k, s.extract (k + 1) s.size = ⟨(s.data.toList.drop (k + 1)).toArray⟩ := fun k => str_eq _ _ (by rw [Lib.extract_data, List.take_of_length_le (by rw [List.length_drop, ← Lib.size_eq]; omega)])
    have k2 := fun k (hk : k < s.size) W => rdelta_any (s.extract 0 k) W (by rw [hcut k (by omega), Lib.size_eq]; simp; omega)
    have k3 := fun k (hk : k < s.size) W => rdelta_any (s.extract (k + 1) s.size) W (by rw [hcut2 k, Lib.size_eq]; simp only [List.length_drop, ← Lib.size_eq]; omega)
    have k2' : ∀ k (hk : k < s.size) W, Calls Tryd.prog 89 #[.string (s.extract 0 k)] W fun e w' => e = .returned (deltaV (s.data.toList.take k)) ∧ W = w' := fun k hk W => by
      have := k2 k hk W
      rw [show (s.extract 0 k).data.toList = s.data.toList.take k from by rw [hcut k (by omega)]] at this
      exact this
    have k3' : ∀ k (hk : k < s.size) W, Calls Tryd.prog 89 #[.string (s.extract (k + 1) s.size)] W fun e w' => e = .returned (deltaV (s.data.toList.drop (k + 1))) ∧ W = w' := fun k hk W => by
      have := k3 k hk W
      rw [show (s.extract (k + 1) s.size).data.toList = s.data.toList.drop (k + 1) from by rw [hcut2 k]] at this
      exact this
    rw [h0] at k1
    simp only [cond_false] at k1
    generalize agesL s.data.toList = out at *
    have K1 := Lib.hid k1; have K2 := Lib.hid k2'; have K3 := Lib.hid k3'; have HM := Lib.hid hmiss; have HH := Lib.hid hhit; have HB := Lib.hid hbeh
    clear k1 k2 k3 k2' k3' hmiss hhit hbeh hcut hcut2 h0
    go_enter Tryd.func64, Tryd.ntmps64
    go_wp2_with fail
    (with_reducible refine (K1.out _).mono ?_)
    rintro e w1 ⟨rfl, rfl⟩
    go_wp2_with fail
    go_loopw [6] (fun i wr => ∃ k : Nat, k ≤ s.size ∧ i = .int .i64 k ∧ Hid ((∀ j (hj : j < s.size), j < k → s[j] ≠ 43) ∨ (out = (0, 0) ∧ ∃ j, ∃ hj : j < s.size, j < k ∧ s[j] = 43)) ∧ wr = w) (fun i _ => s.size - (intOf i).toNat)
    case atStart => exact ⟨0, Nat.zero_le _, rfl, Lib.hid (Or.inl (fun j _ h => absurd h (by omega))), rfl⟩
    case round =>
      obtain ⟨k, hk, rfl, HP, rfl⟩ := hrel
      by_cases hlt : k < s.size
      · have hu := u8_lt s[k]
        cases hc : ((s[k].toNat : Int) == 43)
        · have hne : s[k] ≠ 43 := fun e => by rw [e] at hc; simp at hc
          have hn2 : ((s[k].toNat : Int) != 43) = true := by simp [bne, hc]
          have HP2 : Hid ((∀ j (hj : j < s.size), j < k + 1 → s[j] ≠ 43) ∨ (out = (0, 0) ∧ ∃ j, ∃ hj : j < s.size, j < k + 1 ∧ s[j] = 43)) := by
            refine Lib.hid ?_
            rcases HP.out with h | ⟨h1, j, hj, h2, h3⟩
            · left
              intro j hj hjk
              by_cases e : j = k
              · subst e; exact hne
              · exact h j hj (by omega)
            · exact Or.inr ⟨h1, j, hj, by omega, h3⟩
          clear HP hne
          go_wp2
          go_roundw
          case rel => exact ⟨k + 1, by omega, by go_num, HP2, trivial⟩
          case measure => simp [intOf]; omega
        · have heq : s[k] = 43 := by rw [← UInt8.toNat_inj]; simp at hc; show s[k].toNat = 43; omega
          have hn2 : ((s[k].toNat : Int) != 43) = false := by simp [bne, hc]
          have hsum : IntKind.i64.wrap ((k : Int) + 1) = (k : Int) + 1 := IntWalk.i64_in _ (by omega)
          have k2 := K2.out k hlt
          have k3 := K3.out k hlt
          unfold deltaV at k2 k3
          have hcase : (deltaOk (s.data.toList.take k) && deltaOk (s.data.toList.drop (k + 1))) = true → out = (bnd (val (s.data.toList.take k)), bnd (val (s.data.toList.drop (k + 1)))) := by
            intro h
            rcases HP.out with h1 | ⟨_, j, hj, h2, h3⟩
            · have := HH.out k hlt heq h1
              rw [h, cond_true] at this
              exact this
            · rw [HB.out k j hj h2 h3] at h; cases h
          have hcase2 : (deltaOk (s.data.toList.take k) && deltaOk (s.data.toList.drop (k + 1))) = false → Hid ((∀ j (hj : j < s.size), j < k + 1 → s[j] ≠ 43) ∨ (out = (0, 0) ∧ ∃ j, ∃ hj : j < s.size, j < k + 1 ∧ s[j] = 43)) := by
            intro h
            refine Lib.hid (Or.inr ⟨?_, k, hlt, by omega, heq⟩)
            rcases HP.out with h1 | ⟨h0, _⟩
            · have := HH.out k hlt heq h1
              rw [h, cond_false] at this
              exact this
            · exact h0
          have HC := Lib.hid hcase; have HC2 := Lib.hid hcase2
          clear hcase hcase2 HP HH HB HM heq
          obtain ⟨va, hva⟩ : ∃ x : Int, bnd (val (s.data.toList.take k)) = x := ⟨_, rfl⟩
          obtain ⟨vb, hvb⟩ : ∃ x : Int, bnd (val (s.data.toList.drop (k + 1))) = x := ⟨_, rfl⟩
          rw [hva] at k2 HC
          rw [hvb] at k3 HC
          generalize deltaOk (s.data.toList.take k) = da at *
          generalize deltaOk (s.data.toList.drop (k + 1)) = db at *
          clear hva hvb
          cases da <;> cases db
          all_goals (
            simp only [cond_true, cond_false] at k2 k3
            have K4 := Lib.hid k2; have K5 := Lib.hid k3
            clear k2 k3
            go_wp2_with fail
            refine (K4.out _).mono ?_
            rintro e w2 ⟨rfl, rfl⟩
            go_wp2_with fail
            refine (K5.out _).mono ?_
            rintro e w2 ⟨rfl, rfl⟩
            clear K4 K5
            first
              | (have HP2 := HC2.out rfl
                 clear HC HC2
                 go_wp2
                 go_roundw
                 case rel => exact ⟨k + 1, by omega, by go_num, HP2, trivial⟩
                 case measure => simp [intOf]; omega)
              | (have ho := HC.out rfl
                 subst ho
                 clear HC HC2
                 go_wp2
                 go_ret2
                 exact ⟨rfl, rfl⟩))
      · have ho : out = (0, 0) := by
          rcases HP.out with h | ⟨h, _⟩
          · exact HM.out (fun j hj => h j hj (by omega))
          · exact h
        subst ho
        clear HP HH HB HM
        go_wp2
        go_ret2
        exact ⟨rfl, rfl⟩
  · rw [ages_delta h0]
    rw [h0] at k1
    simp only [cond_true] at k1
    obtain ⟨v, hv⟩ : ∃ x : Int, bnd (val s.data.toList) = x := ⟨_, rfl⟩
    rw [hv] at k1 ⊢
    have K1 := Lib.hid k1; clear k1 hv h0
    go_enter Tryd.func64, Tryd.ntmps64
    go_wp2_with fail
    (with_reducible refine (K1.out _).mono ?_)
    rintro e w1 ⟨rfl, rfl⟩
    go_wp2
    go_ret2
    exact ⟨rfl, rfl⟩

theorem ages_nil : agesL [] = (0, 0) := by kernel_rfl
theorem ctl_parts (ls : List Dir) : ctlL ls = ⟨(firstV ls noStore).isSome, (firstV ls sRemote).isSome, wordP sESI [] ((firstV ls sContent).getD []), (firstV ls sMaxAge).isSome, (agesL ((firstV ls sMaxAge).getD [])).1, (agesL ((firstV ls sMaxAge).getD [])).2⟩ := by
  unfold ctlL
  cases firstV ls sContent <;> cases firstV ls sMaxAge
  · simp only [Option.getD_none, ages_nil]; rfl
  · simp only [Option.getD_none, Option.getD_some]; rfl
  · simp only [Option.getD_none, Option.getD_some, ages_nil]
  · simp only [Option.getD_some]
theorem first_len {ls : List Dir} {nm : List UInt8} {B : Nat} (h : ∀ d ∈ ls, d.value.length ≤ B) : ((firstV ls nm).getD []).length ≤ B := by
  unfold firstV
  cases hf : ls.find? fun d => d.name == nm with
  | none => simp
  | some d => exact h d (List.mem_of_find?_eq_some hf)
end Go.Proofs.YtfoabdpfadgafaaDoor
/- The walk of the document's Of (layer 12). -/
namespace Go.Proofs.YtfoabdpfadgafaaDoor
open Go.RowKit
set_option maxRecDepth 100000

set_option maxHeartbeats 16000000 in
theorem rsurOf_any (A : Option Addr) (n c : Nat) (vs : List (List UInt8)) (dev : ByteArray) (w : World) (hr : Rd A n 1 (strsV vs) w) (hn : n ≤ 10000) (hl : ∀ v ∈ vs, v.length ≤ 900000) :
    Calls Tryd.prog 33 #[.slice A n c, .string dev] w fun e w' => e = .returned (ctlV (ofL vs dev.data.toList)) ∧ Below w.heap.size w w' := by
  obtain rfl := hr.str
  obtain ⟨W0, hW0⟩ : ∃ W0, w.alloc (.cells #[.bool false, .bool false, .bool false, .bool false, .int .i64 0, .int .i64 0] 49) = W0 := ⟨_, rfl⟩
  have hB0 : Below w.heap.size w W0 := by rw [← hW0]; exact (Below.refl _ w).alloc (Nat.le_refl _) _
  have hh0 : W0.heap[w.heap.size]? = some (.cells #[.bool false, .bool false, .bool false, .bool false, .int .i64 0, .int .i64 0] 49 (0, 0)) := by rw [← hW0]; exact World.alloc_heap_new w _
  have hl0 : w.heap.size < W0.heap.size := by rw [← hW0]; simp
  have k1 := rsurList_any A vs.length c vs W0 (hr.below hB0) hn (fun v hv => by have := hl v hv; omega)
  have hsl := slist_le vs
  have hdl0 := slist_dirle (B := 900000) hl
  have hofl : ofL vs dev.data.toList = ctlL (mineL (slistL vs) dev.data.toList) := rfl
  rw [hofl, ctl_parts]
  have hml : (mineL (slistL vs) dev.data.toList).length ≤ (slistL vs).length := List.length_filter_le _ _
  have hdl : ∀ d ∈ mineL (slistL vs) dev.data.toList, d.value.length ≤ 1000000 := fun d hd => by
    have := (hdl0 d (List.mem_filter.1 hd).1).2.1; omega
  have k2 := fun a c W (h : Rd a (slistL vs).length 4 (dirsV (slistL vs)) W) => rmine_any a (slistL vs).length c (slistL vs) dev W h (by omega)
  generalize mineL (slistL vs) dev.data.toList = ls at *
  generalize slistL vs = l0 at *
  have hls : ls.length ≤ 1000000 := by omega
  have q3 := first_len (nm := sContent) hdl
  have q4 := first_len (nm := sMaxAge) hdl
  have f1 := fun a c W (h : Rd a ls.length 4 (dirsV ls) W) => rfirst_any a ls.length c ls noStore W h hls
  have f2 := fun a c W (h : Rd a ls.length 4 (dirsV ls) W) => rfirst_any a ls.length c ls sRemote W h hls
  have f3 := fun a c W (h : Rd a ls.length 4 (dirsV ls) W) => rfirst_any a ls.length c ls sContent W h hls
  have f4 := fun a c W (h : Rd a ls.length 4 (dirsV ls) W) => rfirst_any a ls.length c ls sMaxAge W h hls
  unfold optV at f1 f2 f3 f4
  generalize firstV ls noStore = v1 at *
  generalize firstV ls sRemote = v2 at *
  generalize firstV ls sContent = v3 at *
  generalize firstV ls sMaxAge = v4 at *
  have k5 := fun W => rword_any ⟨(v3.getD []).toArray⟩ ⟨sESI.toArray⟩ W (by rw [Lib.size_eq]; exact q3)
  have k6 := fun W => rages_any ⟨(v4.getD []).toArray⟩ W (by rw [Lib.size_eq]; exact q4)
  simp only at k5 k6
  unfold agesV at k6
  rw [show (⟨noStore.toArray⟩ : ByteArray) = ⟨#[110, 111, 45, 115, 116, 111, 114, 101]⟩ from rfl] at f1
  rw [show (⟨sRemote.toArray⟩ : ByteArray) = ⟨#[110, 111, 45, 115, 116, 111, 114, 101, 45, 114, 101, 109, 111, 116, 101]⟩ from rfl] at f2
  rw [show (⟨sContent.toArray⟩ : ByteArray) = ⟨#[99, 111, 110, 116, 101, 110, 116]⟩ from rfl] at f3
  rw [show (⟨sMaxAge.toArray⟩ : ByteArray) = ⟨#[109, 97, 120, 45, 97, 103, 101]⟩ from rfl] at f4
  rw [show (⟨sESI.toArray⟩ : ByteArray) = ⟨#[69, 83, 73, 47, 49, 46, 48]⟩ from rfl] at k5
  obtain ⟨s3, hs3⟩ : ∃ s : ByteArray, (⟨(v3.getD []).toArray⟩ : ByteArray) = s := ⟨_, rfl⟩
  obtain ⟨s4, hs4⟩ : ∃ s : ByteArray, (⟨(v4.getD []).toArray⟩ : ByteArray) = s := ⟨_, rfl⟩
  rw [hs3] at f3 k5
  rw [hs4] at f4 k6
  generalize wordP sESI [] (v3.getD []) = b3 at *
  generalize agesL (v4.getD []) = ag at *
  obtain ⟨x, y⟩ := ag
  simp only at k6 ⊢
  generalize v1.isSome = b1 at *
  generalize v2.isSome = b2 at *
  generalize v4.isSome = b4 at *
  have K1 := Lib.hid k1; have K2 := Lib.hid k2; have K5 := Lib.hid k5; have K6 := Lib.hid k6; have F1 := Lib.hid f1; have F2 := Lib.hid f2; have F3 := Lib.hid f3; have F4 := Lib.hid f4
  have HW0 := Lib.hid hW0; have HH0 := Lib.hid hh0
  clear k1 k2 k5 k6 f1 f2 f3 f4 hW0 hh0 hdl hdl0 hr hofl hml hsl hl q3 q4 hs3 hs4
  go_enter Tryd.func33, Tryd.ntmps33
  go_wp2_with fail
  rw [HW0.out]
  (with_reducible refine K1.out.mono ?_)
  rintro e w1 ⟨a1, c1, rfl, ho1, hb1⟩
  have R1 := Lib.hid ho1.rd.2
  clear ho1 K1
  go_wp2_with fail
  (with_reducible refine (K2.out _ _ _ R1.out).mono ?_)
  rintro e w2 ⟨la, lc, rfl, ho2, hb2⟩
  have hB2 := bt hb1 hb2
  have hh2 := (hB2.block w.heap.size hl0).trans HH0.out
  have hal := (Below.refl w2.heap.size w2).alloc (Nat.le_refl _) (.cells #[.bool false, .bool false, .bool false, .bool false, .int .i64 0, .int .i64 0] 49)
  have hB2w := hB0.trans (hB2.mono hB0.size)
  have hlt2 : w.heap.size < w2.heap.size := Nat.lt_of_lt_of_le hl0 hB2.size
  have R2 := Lib.hid ho2.rd.2
  have hne : w.heap.size ≠ w2.heap.size := by omega
  have c0 : w2.cell? ⟨w.heap.size, 0, none⟩ = some (.bool false) := (of_heap hh2 0).1
  have c11 : w2.cell? ⟨w.heap.size, 1, none⟩ = some (.bool false) := (of_heap hh2 1).1
  have c2 : w2.cell? ⟨w.heap.size, 2, none⟩ = some (.bool false) := (of_heap hh2 2).1
  have c3 : w2.cell? ⟨w.heap.size, 3, none⟩ = some (.bool false) := (of_heap hh2 3).1
  have c4 : w2.cell? ⟨w.heap.size, 4, none⟩ = some (.int .i64 0) := (of_heap hh2 4).1
  have c5 : w2.cell? ⟨w.heap.size, 5, none⟩ = some (.int .i64 0) := (of_heap hh2 5).1
  have g0 := (of_heap hh2 0).2.1; have g1 := (of_heap hh2 1).2.1; have g2 := (of_heap hh2 2).2.1; have g3 := (of_heap hh2 3).2.1; have g4 := (of_heap hh2 4).2.1; have g5 := (of_heap hh2 5).2.1
  have rdAl : ∀ cs, Rd la ls.length 4 (dirsV ls) (w2.alloc (.cells cs 49)) := fun cs => R2.out.below ((Below.refl w2.heap.size w2).alloc (Nat.le_refl _) _)
  have RA := Lib.hid rdAl
  clear ho2 hb1 hb2 hh2 R1 K2 hal rdAl
  go_wp2_with fail
  (with_reducible refine (F1.out _ _ _ (RA.out _)).mono ?_)
  rintro e w3 ⟨rfl, rfl⟩
  go_wp2_with fail
  (with_reducible refine (F2.out _ _ _ (RA.out _)).mono ?_)
  rintro e w3 ⟨rfl, rfl⟩
  go_wp2_with fail
  (with_reducible refine (F3.out _ _ _ (RA.out _)).mono ?_)
  rintro e w3 ⟨rfl, rfl⟩
  go_wp2_with fail
  (with_reducible refine (K5.out _).mono ?_)
  rintro e w3 ⟨rfl, rfl⟩
  go_wp2_with fail
  (with_reducible refine (F4.out _ _ _ (RA.out _)).mono ?_)
  rintro e w3 ⟨rfl, rfl⟩
  go_wp2_with fail
  (with_reducible refine (K6.out _).mono ?_)
  rintro e w3 ⟨rfl, rfl⟩
  go_wp2_with fail
  refine bodyPost_ret_by (v := ctlV ⟨b1, b2, b3, b4, x, y⟩) ?_ rfl ?_
  · rw [results_cell_one rfl]
    go_simp
    rfl
  · exact ⟨rfl, ((((((hB2w.setCell (p := ⟨w.heap.size, 0, none⟩) (Nat.le_refl _) _).setCell (p := ⟨w.heap.size, 1, none⟩) (Nat.le_refl _) _).setCell (p := ⟨w.heap.size, 2, none⟩) (Nat.le_refl _) _).setCell (p := ⟨w.heap.size, 3, none⟩) (Nat.le_refl _) _).setCell (p := ⟨w.heap.size, 4, none⟩) (Nat.le_refl _) _).setCell (p := ⟨w.heap.size, 5, none⟩) (Nat.le_refl _) _).alloc (by simp; omega) _⟩
end Go.Proofs.YtfoabdpfadgafaaDoor
/- SurctlTells: the walk of the law, and the law as it is handed in. -/
namespace Go.Proofs.YtfoabdpfadgafaaDoor
open Go.RowKit Go.ChangeShapes Go.WideShapes
set_option maxRecDepth 100000

def capL (dev : List UInt8) : List UInt8 := bif tokenL dev then dev ++ [61, 34, 83, 117, 114, 114, 111, 103, 97, 116, 101, 47, 49, 46, 48, 32, 69, 83, 73, 47, 49, 46, 48, 34] else []
set_option maxHeartbeats 4000000 in
theorem cap_any (dev : ByteArray) (w : World) (hd : dev.size ≤ 1000000) :
    Calls Tryd.prog 34 #[.string dev] w fun e w' => e = .returned (.string ⟨(capL dev.data.toList).toArray⟩) ∧ w = w' := by
  have k1 := fun W => token_any dev W hd
  cases ht : tokenL dev.data.toList
  · rw [ht] at k1
    have hc : capL dev.data.toList = [] := by unfold capL; rw [ht]; rfl
    rw [hc]
    have K1 := Lib.hid k1; clear k1 hc ht
    go_enter Tryd.func34, Tryd.ntmps34
    go_wp2_with fail
    refine (K1.out _).mono ?_
    rintro e w1 ⟨rfl, rfl⟩
    go_wp2
    go_ret
    exact ⟨rfl, rfl⟩
  · rw [ht] at k1
    have hc : (⟨(capL dev.data.toList).toArray⟩ : ByteArray) = dev ++ ⟨#[61, 34, 83, 117, 114, 114, 111, 103, 97, 116, 101, 47, 49, 46, 48, 32, 69, 83, 73, 47, 49, 46, 48, 34]⟩ := by
      apply str_eq; unfold capL; rw [ht, app_list]; rfl
    rw [hc]
    have hz : (⟨#[61, 34, 83, 117, 114, 114, 111, 103, 97, 116, 101, 47, 49, 46, 48, 32, 69, 83, 73, 47, 49, 46, 48, 34]⟩ : ByteArray).size = 24 := rfl
    have K1 := Lib.hid k1; clear k1 hc ht
    go_enter Tryd.func34, Tryd.ntmps34
    go_wp2_with fail
    refine (K1.out _).mono ?_
    rintro e w1 ⟨rfl, rfl⟩
    go_wp2
    go_ret
    exact ⟨rfl, rfl⟩
set_option maxHeartbeats 4000000 in
theorem rcap_any (dev : ByteArray) (w : World) (hd : dev.size ≤ 1000000) :
    Calls Tryd.prog 35 #[.string dev] w fun e w' => e = .returned (.string ⟨(capL dev.data.toList).toArray⟩) ∧ w = w' := by
  have k1 := fun W => rtoken_any dev W hd
  cases ht : tokenL dev.data.toList
  · rw [ht] at k1
    have hc : capL dev.data.toList = [] := by unfold capL; rw [ht]; rfl
    rw [hc]
    have K1 := Lib.hid k1; clear k1 hc ht
    go_enter Tryd.func35, Tryd.ntmps35
    go_wp2_with fail
    refine (K1.out _).mono ?_
    rintro e w1 ⟨rfl, rfl⟩
    go_wp2
    go_ret
    exact ⟨rfl, rfl⟩
  · rw [ht] at k1
    have hc : (⟨(capL dev.data.toList).toArray⟩ : ByteArray) = dev ++ ⟨#[61, 34, 83, 117, 114, 114, 111, 103, 97, 116, 101, 47, 49, 46, 48, 32, 69, 83, 73, 47, 49, 46, 48, 34]⟩ := by
      apply str_eq; unfold capL; rw [ht, app_list]; rfl
    rw [hc]
    have hz : (⟨#[61, 34, 83, 117, 114, 114, 111, 103, 97, 116, 101, 47, 49, 46, 48, 32, 69, 83, 73, 47, 49, 46, 48, 34]⟩ : ByteArray).size = 24 := rfl
    have K1 := Lib.hid k1; clear k1 hc ht
    go_enter Tryd.func35, Tryd.ntmps35
    go_wp2_with fail
    refine (K1.out _).mono ?_
    rintro e w1 ⟨rfl, rfl⟩
    go_wp2
    go_ret
    exact ⟨rfl, rfl⟩
set_option maxHeartbeats 8000000 in
theorem surctlTells_any (A : Option Addr) (n c : Nat) (vs : List (List UInt8)) (dev : ByteArray) (w : World) (hM : MaxL w) (hr : Rd A n 1 (strsV vs) w) :
    Calls Tryd.prog 11 #[.slice A n c, .string dev] w fun e w' => e = .returned (.bool true) ∧ Below w.heap.size w w' := by
  have k0' := few12_any A n c vs w hr
  have hxn := hr.str
  subst hxn
  cases hf : few12 vs
  · rw [hf] at k0'
    have K0 := Lib.hid k0'; clear k0'
    go_enter Tryd.func11, Tryd.ntmps11
    go_wp2_with fail
    refine K0.out.mono ?_
    rintro e w0 ⟨rfl, rfl⟩
    go_wp2_with fail
    refine (works12_any _ hM).mono ?_
    rintro e w1 ⟨rfl, hb1⟩
    go_wp2
    go_ret
    exact ⟨rfl, hb1⟩
  · rw [hf] at k0'
    obtain ⟨h1, h2⟩ := few12_yes hf
    by_cases hdv : 300 < dev.size
    · have K0 := Lib.hid k0'; clear k0'
      go_enter Tryd.func11, Tryd.ntmps11
      go_wp2_with fail
      refine K0.out.mono ?_
      rintro e w0 ⟨rfl, rfl⟩
      go_wp2_with fail
      refine (works12_any _ hM).mono ?_
      rintro e w1 ⟨rfl, hb1⟩
      go_wp2
      go_ret
      exact ⟨rfl, hb1⟩
    · have k1' := surOf_any A vs.length c vs dev w hM hr (by omega) (fun v hv => by have := h2 v hv; omega)
      have k2' := fun W (hb : Below w.heap.size w W) => rsurOf_any A vs.length c vs dev W (hr.below hb) (by omega) (fun v hv => by have := h2 v hv; omega)
      have k3' := fun W => cap_any dev W (by omega)
      have k4' := fun W => rcap_any dev W (by omega)
      generalize ofL vs dev.data.toList = k at *
      obtain ⟨k0, k1, k2, k3, k4, k5⟩ := k
      obtain ⟨cp, hcp⟩ : ∃ cp : ByteArray, (⟨(capL dev.data.toList).toArray⟩ : ByteArray) = cp := ⟨_, rfl⟩
      rw [hcp] at k3' k4'
      unfold ctlV at k1' k2'
      simp only at k1' k2'
      have K0 := Lib.hid k0'; have K1 := Lib.hid k1'; have K2 := Lib.hid k2'; have K3 := Lib.hid k3'; have K4 := Lib.hid k4'; clear k0' k1' k2' k3' k4' hf h2 hr hcp
      go_enter Tryd.func11, Tryd.ntmps11
      go_wp2_with fail
      refine K0.out.mono ?_
      rintro e w0 ⟨rfl, rfl⟩
      go_wp2_with fail
      refine K1.out.mono ?_
      rintro e w1 ⟨rfl, hb1⟩
      obtain ⟨W3, hW3⟩ : ∃ W3, w1.alloc (.cells #[.bool k0, .bool k1, .bool k2, .bool k3, .int .i64 k4, .int .i64 k5] 46) = W3 := ⟨_, rfl⟩
      have hal : Below w1.heap.size w1 W3 := by rw [← hW3]; exact (Below.refl _ w1).alloc (Nat.le_refl _) _
      have hz : w1.heap.size < W3.heap.size := by rw [← hW3]; simp
      have hc : ∀ j, W3.cell? ⟨w1.heap.size, j, none⟩ = (#[.bool k0, .bool k1, .bool k2, .bool k3, .int .i64 k4, .int .i64 k5] : Array Value)[j]? := fun j => by rw [← hW3]; exact World.cell?_alloc_mark w1 _ _ _ j
      have kc : ∀ w', Below W3.heap.size W3 w' → w'.cell? ⟨w1.heap.size, 0, none⟩ = some (.bool k0) ∧ w'.cell? ⟨w1.heap.size, 1, none⟩ = some (.bool k1) ∧ w'.cell? ⟨w1.heap.size, 2, none⟩ = some (.bool k2) ∧ w'.cell? ⟨w1.heap.size, 3, none⟩ = some (.bool k3) ∧ w'.cell? ⟨w1.heap.size, 4, none⟩ = some (.int .i64 k4) ∧ w'.cell? ⟨w1.heap.size, 5, none⟩ = some (.int .i64 k5) ∧ Below W3.heap.size W3 w' := fun w' h => ⟨(h.cell (p := ⟨w1.heap.size, 0, none⟩) hz).trans (hc 0), (h.cell (p := ⟨w1.heap.size, 1, none⟩) hz).trans (hc 1), (h.cell (p := ⟨w1.heap.size, 2, none⟩) hz).trans (hc 2), (h.cell (p := ⟨w1.heap.size, 3, none⟩) hz).trans (hc 3), (h.cell (p := ⟨w1.heap.size, 4, none⟩) hz).trans (hc 4), (h.cell (p := ⟨w1.heap.size, 5, none⟩) hz).trans (hc 5), h⟩
      have hB3 := bt hb1 hal
      have hb0 := Below.refl W3.heap.size W3
      have KC := Lib.hid kc; have HW3 := Lib.hid hW3
      clear kc hW3 hc hal K0 K1
      go_wp2_with fail
      rw [HW3.out]
      refine wp_region_held_drew (S := (fun w' => w'.cell? ⟨w1.heap.size, 0, none⟩ = some (.bool k0) ∧ w'.cell? ⟨w1.heap.size, 1, none⟩ = some (.bool k1) ∧ w'.cell? ⟨w1.heap.size, 2, none⟩ = some (.bool k2) ∧ w'.cell? ⟨w1.heap.size, 3, none⟩ = some (.bool k3) ∧ w'.cell? ⟨w1.heap.size, 4, none⟩ = some (.int .i64 k4) ∧ w'.cell? ⟨w1.heap.size, 5, none⟩ = some (.int .i64 k5) ∧ Below W3.heap.size W3 w')) (by kernel_rfl) (KC.out _ hb0.drew) (fun hHeld => ?_)
      refine wpAnyH_take (i := 0) (v := ?_) (by simp only [List.getElem?_toArray, List.getElem?_cons_zero]; exact rfl) (by kernel_rfl) (by kernel_rfl) (by kernel_rfl) (by intro _ _ _ h; exact h) (Or.inl ⟨by rfl, fun W hSw => ?_⟩) hHeld ?_
      rotate_left
      focus ((try dsimp only at hSw); first | (go_simp; done) | (go_simp; with_reducible rfl))
      try simp only [Act.put, List.setIfInBounds_toArray, List.set_cons_zero, List.set_cons_succ]
      refine wpAnyH_take (i := 1) (v := ?_) (by simp only [List.getElem?_toArray, List.getElem?_cons_succ, List.getElem?_cons_zero]; exact rfl) (by kernel_rfl) (by kernel_rfl) (by kernel_rfl) (by intro _ _ _ h; exact h) (Or.inl ⟨by rfl, fun W hSw => ?_⟩) hHeld ?_
      rotate_left
      focus ((try dsimp only at hSw); first | (go_simp; done) | (go_simp; with_reducible rfl))
      try simp only [Act.put, List.setIfInBounds_toArray, List.set_cons_zero, List.set_cons_succ]
      refine wpAnyH_take (i := 2) (v := ?_) (by simp only [List.getElem?_toArray, List.getElem?_cons_succ, List.getElem?_cons_zero]; exact rfl) (by kernel_rfl) (by kernel_rfl) (by kernel_rfl) (by intro _ _ _ h; exact h) (Or.inl ⟨by rfl, fun W hSw => ?_⟩) hHeld ?_
      rotate_left
      focus ((try dsimp only at hSw); first | (go_simp; done) | (go_simp; with_reducible rfl))
      try simp only [Act.put, List.setIfInBounds_toArray, List.set_cons_zero, List.set_cons_succ]
      refine wpAnyH_ready (rs := [3]) (by kernel_rfl) (by simp) (AllReadyH.cons (by simp only [List.getElem?_toArray, List.getElem?_cons_succ, List.getElem?_cons_zero]; exact rfl) (fun K hK => ?_) AllReadyH.nil)
      rw [if_pos (by rfl)]
      go_simp
      refine (K2.out _ (hB3.drew)).mono ?_; rintro e w4 ⟨rfl, h4⟩; have hb4 := hb0.drew.trans (h4.mono (Nat.le_refl _)); go_wp2_with fail
      refine hK.out _ _ (KC.out _ hb4) (fun hHeld => ?_)
      clear hK K
      try simp only [Act.put, List.setIfInBounds_toArray, List.set_cons_zero, List.set_cons_succ]
      refine wpAnyH_take (i := 4) (v := ?_) (by simp only [List.getElem?_toArray, List.getElem?_cons_succ, List.getElem?_cons_zero]; exact rfl) (by kernel_rfl) (by kernel_rfl) (by kernel_rfl) (by intro _ _ _ h; exact h) (Or.inl ⟨by rfl, fun W hSw => ?_⟩) hHeld ?_
      rotate_left
      focus ((try dsimp only at hSw); first | (go_simp; done) | (go_simp; with_reducible rfl))
      try simp only [Act.put, List.setIfInBounds_toArray, List.set_cons_zero, List.set_cons_succ]
      refine wpAnyH_take (i := 5) (v := ?_) (by simp only [List.getElem?_toArray, List.getElem?_cons_succ, List.getElem?_cons_zero]; exact rfl) (by kernel_rfl) (by kernel_rfl) (by kernel_rfl) (by intro _ _ _ h; exact h) (Or.inl ⟨by rfl, fun W hSw => ?_⟩) hHeld ?_
      rotate_left
      focus ((try dsimp only at hSw); first | (go_simp; done) | (go_simp; with_reducible rfl))
      try simp only [Act.put, List.setIfInBounds_toArray, List.set_cons_zero, List.set_cons_succ]
      refine wpAnyH_take (i := 6) (v := ?_) (by simp only [List.getElem?_toArray, List.getElem?_cons_succ, List.getElem?_cons_zero]; exact rfl) (by kernel_rfl) (by kernel_rfl) (by kernel_rfl) (by intro _ _ _ h; exact h) (Or.inl ⟨by rfl, fun W hSw => ?_⟩) hHeld ?_
      rotate_left
      focus ((try dsimp only at hSw); first | (go_simp; done) | (go_simp; with_reducible rfl))
      try simp only [Act.put, List.setIfInBounds_toArray, List.set_cons_zero, List.set_cons_succ]
      refine wpAnyH_take (i := 8) (v := ?_) (by simp only [List.getElem?_toArray, List.getElem?_cons_succ, List.getElem?_cons_zero]; exact rfl) (by kernel_rfl) (by kernel_rfl) (by kernel_rfl) (by intro _ _ _ h; exact h) (Or.inl ⟨by rfl, fun W hSw => ?_⟩) hHeld ?_
      rotate_left
      focus ((try dsimp only at hSw); first | (go_simp; done) | (go_simp; with_reducible rfl))
      try simp only [Act.put, List.setIfInBounds_toArray, List.set_cons_zero, List.set_cons_succ]
      refine wpAnyH_ready (rs := [7]) (by kernel_rfl) (by simp) (AllReadyH.cons (by simp only [List.getElem?_toArray, List.getElem?_cons_succ, List.getElem?_cons_zero]; exact rfl) (fun K hK => ?_) AllReadyH.nil)
      rw [if_pos (by rfl)]
      go_simp
      refine (K3.out _).mono ?_; rintro e w5 ⟨rfl, rfl⟩; go_wp2_with fail
      refine hK.out _ _ (KC.out _ hb4) (fun hHeld => ?_)
      clear hK K
      try simp only [Act.put, List.setIfInBounds_toArray, List.set_cons_zero, List.set_cons_succ]
      refine wpAnyH_ready (rs := [9]) (by kernel_rfl) (by simp) (AllReadyH.cons (by simp only [List.getElem?_toArray, List.getElem?_cons_succ, List.getElem?_cons_zero]; exact rfl) (fun K hK => ?_) AllReadyH.nil)
      rw [if_pos (by rfl)]
      go_simp
      refine (K4.out _).mono ?_; rintro e w5 ⟨rfl, rfl⟩; go_wp2_with fail
      refine hK.out _ _ (KC.out _ hb4) (fun hHeld => ?_)
      clear hK K
      try simp only [Act.put, List.setIfInBounds_toArray, List.set_cons_zero, List.set_cons_succ]
      refine wpAnyH_take (i := 10) (v := ?_) (by simp only [List.getElem?_toArray, List.getElem?_cons_succ, List.getElem?_cons_zero]; exact rfl) (by kernel_rfl) (by kernel_rfl) (by kernel_rfl) (by intro _ _ _ h; exact h) (Or.inl ⟨by rfl, fun W hSw => ?_⟩) hHeld ?_
      rotate_left
      focus ((try dsimp only at hSw); first | (go_simp; done) | (go_simp; with_reducible rfl))
      try simp only [Act.put, List.setIfInBounds_toArray, List.set_cons_zero, List.set_cons_succ]
      refine wpAnyH_take (i := 11) (v := ?_) (by simp only [List.getElem?_toArray, List.getElem?_cons_succ, List.getElem?_cons_zero]; exact rfl) (by kernel_rfl) (by kernel_rfl) (by kernel_rfl) (by intro _ _ _ h; exact h) (Or.inl ⟨by rfl, fun W hSw => ?_⟩) hHeld ?_
      rotate_left
      focus ((try dsimp only at hSw); first | (go_simp; done) | (go_simp; with_reducible rfl))
      try simp only [Act.put, List.setIfInBounds_toArray, List.set_cons_zero, List.set_cons_succ]
      refine wpAnyH_take (i := 12) (v := ?_) (by simp only [List.getElem?_toArray, List.getElem?_cons_succ, List.getElem?_cons_zero]; exact rfl) (by kernel_rfl) (by kernel_rfl) (by kernel_rfl) (by intro _ _ _ h; exact h) (Or.inl ⟨by rfl, fun W hSw => ?_⟩) hHeld ?_
      rotate_left
      focus ((try dsimp only at hSw); first | (go_simp; done) | (go_simp; with_reducible rfl))
      try simp only [Act.put, List.setIfInBounds_toArray, List.set_cons_zero, List.set_cons_succ]
      refine wpAnyH_ready (rs := [13]) (by kernel_rfl) (by simp) (AllReadyH.cons (by simp only [List.getElem?_toArray, List.getElem?_cons_succ, List.getElem?_cons_zero]; exact rfl) (fun K hK => ?_) AllReadyH.nil)
      rw [if_pos (by rfl)]
      go_simp
      refine (works12_any _ (hM.below (hB3.trans (hb4.mono hB3.size)))).mono ?_; rintro e w6 ⟨rfl, h6⟩; have hb6 := bt hb4 h6; go_wp2_with fail
      refine hK.out _ _ (KC.out _ hb6) (fun hHeld => ?_)
      clear hK K
      try simp only [Act.put, List.setIfInBounds_toArray, List.set_cons_zero, List.set_cons_succ]
      refine wpAnyH_take (i := 14) (v := ?_) (by simp only [List.getElem?_toArray, List.getElem?_cons_succ, List.getElem?_cons_zero]; exact rfl) (by kernel_rfl) (by kernel_rfl) (by kernel_rfl) (by intro _ _ _ h; exact h) (Or.inl ⟨by rfl, fun W hSw => ?_⟩) hHeld ?_
      rotate_left
      focus ((try dsimp only at hSw); first | (go_simp; done) | (go_simp; with_reducible rfl))
      try simp only [Act.put, List.setIfInBounds_toArray, List.set_cons_zero, List.set_cons_succ]
      refine wpAnyH_take (i := 15) (v := ?_) (by simp only [List.getElem?_toArray, List.getElem?_cons_succ, List.getElem?_cons_zero]; exact rfl) (by kernel_rfl) (by kernel_rfl) (by kernel_rfl) (by intro _ _ _ h; exact h) (Or.inl ⟨by rfl, fun W hSw => ?_⟩) hHeld ?_
      rotate_left
      focus ((try dsimp only at hSw); first | (go_simp; done) | (go_simp; with_reducible rfl))
      try simp only [Act.put, List.setIfInBounds_toArray, List.set_cons_zero, List.set_cons_succ]
      refine wpAnyH_done (by kernel_rfl) ?_ _
      clear hHeld
      go_wp2
      go_ret
      exact ⟨rfl, hB3.trans (hb6.mono hB3.size)⟩
theorem surctlTells_law {H : Type} {enc : TypeId × Value → H} {W : World} {base : Nat}
    (v0 : Value) (hv0 : Value.okWide Tryd.prog W .any base 22 v0) {d0 : DataW H} {p0 : List MemPlace} (h0 : DataW.Trod enc Tryd.prog W 0 (fun _ => true) true 22 v0 d0 p0) (hr0 : Reach 22 d0) (dev : ByteArray)
    (w : World) (hw : w = W) (h : ∃ m, W.cell? ⟨0, 0, none⟩ = some (.int .i64 m)) :
    Calls Tryd.prog 11 #[v0, .string dev] w fun e w' => e = .returned (.bool true) ∧ Below w.heap.size w w' := by
  subst hw
  obtain ⟨A, n, c, ls, rfl, hR, _, _⟩ := open_texts_v hv0 h0 hr0
  exact surctlTells_any A n c ls dev w (MaxL.of h) hR
end Go.Proofs.YtfoabdpfadgafaaDoor
/- SurctlKnown: the walk of the law (printed by wip/tools/known12.py). -/
namespace Go.Proofs.YtfoabdpfadgafaaDoor
open Go.RowKit
set_option maxRecDepth 100000

theorem ka0_of : ofL [[120]] [100] = ⟨false, false, false, false, 0, 0⟩ := by kernel_rfl
theorem ka0 (w : World) (hM : MaxL w) : Calls Tryd.prog 36 #[.string ⟨#[120]⟩, .agg #[.bool false, .bool false, .bool false, .bool false, .int .i64 0, .int .i64 0]] w fun e w' => e = .returned (.bool true) ∧ Below w.heap.size w w' :=
  says_any [120] false false false false 0 0 w hM (by decide) ka0_of
theorem ka1_of : ofL [[109, 97, 120, 45, 97, 103, 101, 61, 54, 48, 59, 101, 44, 32, 110, 111, 45, 115, 116, 111, 114, 101, 59, 100]] [100] = ⟨true, false, false, false, 0, 0⟩ := by kernel_rfl
theorem ka1 (w : World) (hM : MaxL w) : Calls Tryd.prog 36 #[.string ⟨#[109, 97, 120, 45, 97, 103, 101, 61, 54, 48, 59, 101, 44, 32, 110, 111, 45, 115, 116, 111, 114, 101, 59, 100]⟩, .agg #[.bool true, .bool false, .bool false, .bool false, .int .i64 0, .int .i64 0]] w fun e w' => e = .returned (.bool true) ∧ Below w.heap.size w w' :=
  says_any [109, 97, 120, 45, 97, 103, 101, 61, 54, 48, 59, 101, 44, 32, 110, 111, 45, 115, 116, 111, 114, 101, 59, 100] true false false false 0 0 w hM (by decide) ka1_of
theorem ka2_of : ofL [[99, 111, 110, 116, 101, 110, 116, 61, 34, 97, 32, 69, 83, 73, 47, 49, 46, 48, 34, 59, 100, 44, 32, 99, 111, 110, 116, 101, 110, 116, 61, 34, 120, 34]] [100] = ⟨false, false, true, false, 0, 0⟩ := by kernel_rfl
theorem ka2 (w : World) (hM : MaxL w) : Calls Tryd.prog 36 #[.string ⟨#[99, 111, 110, 116, 101, 110, 116, 61, 34, 97, 32, 69, 83, 73, 47, 49, 46, 48, 34, 59, 100, 44, 32, 99, 111, 110, 116, 101, 110, 116, 61, 34, 120, 34]⟩, .agg #[.bool false, .bool false, .bool true, .bool false, .int .i64 0, .int .i64 0]] w fun e w' => e = .returned (.bool true) ∧ Below w.heap.size w w' :=
  says_any [99, 111, 110, 116, 101, 110, 116, 61, 34, 97, 32, 69, 83, 73, 47, 49, 46, 48, 34, 59, 100, 44, 32, 99, 111, 110, 116, 101, 110, 116, 61, 34, 120, 34] false false true false 0 0 w hM (by decide) ka2_of
theorem ka3_of : ofL [[99, 111, 110, 116, 101, 110, 116, 61, 69, 83, 73, 47, 49, 46, 48]] [100] = ⟨false, false, false, false, 0, 0⟩ := by kernel_rfl
theorem ka3 (w : World) (hM : MaxL w) : Calls Tryd.prog 36 #[.string ⟨#[99, 111, 110, 116, 101, 110, 116, 61, 69, 83, 73, 47, 49, 46, 48]⟩, .agg #[.bool false, .bool false, .bool false, .bool false, .int .i64 0, .int .i64 0]] w fun e w' => e = .returned (.bool true) ∧ Below w.heap.size w w' :=
  says_any [99, 111, 110, 116, 101, 110, 116, 61, 69, 83, 73, 47, 49, 46, 48] false false false false 0 0 w hM (by decide) ka3_of
theorem ka4_of : ofL [[99, 111, 110, 116, 101, 110, 116, 61, 34, 101, 115, 105, 47, 49, 46, 48, 34]] [100] = ⟨false, false, false, false, 0, 0⟩ := by kernel_rfl
theorem ka4 (w : World) (hM : MaxL w) : Calls Tryd.prog 36 #[.string ⟨#[99, 111, 110, 116, 101, 110, 116, 61, 34, 101, 115, 105, 47, 49, 46, 48, 34]⟩, .agg #[.bool false, .bool false, .bool false, .bool false, .int .i64 0, .int .i64 0]] w fun e w' => e = .returned (.bool true) ∧ Below w.heap.size w w' :=
  says_any [99, 111, 110, 116, 101, 110, 116, 61, 34, 101, 115, 105, 47, 49, 46, 48, 34] false false false false 0 0 w hM (by decide) ka4_of
theorem ka5_of : ofL [[67, 79, 78, 84, 69, 78, 84, 61, 34, 69, 83, 73, 47, 49, 46, 48, 92, 116, 98, 34]] [100] = ⟨false, false, false, false, 0, 0⟩ := by kernel_rfl
theorem ka5 (w : World) (hM : MaxL w) : Calls Tryd.prog 36 #[.string ⟨#[67, 79, 78, 84, 69, 78, 84, 61, 34, 69, 83, 73, 47, 49, 46, 48, 92, 116, 98, 34]⟩, .agg #[.bool false, .bool false, .bool false, .bool false, .int .i64 0, .int .i64 0]] w fun e w' => e = .returned (.bool true) ∧ Below w.heap.size w w' :=
  says_any [67, 79, 78, 84, 69, 78, 84, 61, 34, 69, 83, 73, 47, 49, 46, 48, 92, 116, 98, 34] false false false false 0 0 w hM (by decide) ka5_of
theorem ka6_of : ofL [[67, 79, 78, 84, 69, 78, 84, 61, 34, 98, 9, 69, 83, 73, 47, 49, 46, 48, 34]] [100] = ⟨false, false, true, false, 0, 0⟩ := by kernel_rfl
theorem ka6 (w : World) (hM : MaxL w) : Calls Tryd.prog 36 #[.string ⟨#[67, 79, 78, 84, 69, 78, 84, 61, 34, 98, 9, 69, 83, 73, 47, 49, 46, 48, 34]⟩, .agg #[.bool false, .bool false, .bool true, .bool false, .int .i64 0, .int .i64 0]] w fun e w' => e = .returned (.bool true) ∧ Below w.heap.size w w' :=
  says_any [67, 79, 78, 84, 69, 78, 84, 61, 34, 98, 9, 69, 83, 73, 47, 49, 46, 48, 34] false false true false 0 0 w hM (by decide) ka6_of
theorem kb0_of : ofL [[109, 97, 120, 45, 97, 103, 101]] [100] = ⟨false, false, false, true, 0, 0⟩ := by kernel_rfl
theorem kb0 (w : World) (hM : MaxL w) : Calls Tryd.prog 36 #[.string ⟨#[109, 97, 120, 45, 97, 103, 101]⟩, .agg #[.bool false, .bool false, .bool false, .bool true, .int .i64 0, .int .i64 0]] w fun e w' => e = .returned (.bool true) ∧ Below w.heap.size w w' :=
  says_any [109, 97, 120, 45, 97, 103, 101] false false false true 0 0 w hM (by decide) kb0_of
theorem kb1_of : ofL [[109, 97, 120, 45, 97, 103, 101, 61, 49, 43, 50, 43, 51]] [100] = ⟨false, false, false, true, 0, 0⟩ := by kernel_rfl
theorem kb1 (w : World) (hM : MaxL w) : Calls Tryd.prog 36 #[.string ⟨#[109, 97, 120, 45, 97, 103, 101, 61, 49, 43, 50, 43, 51]⟩, .agg #[.bool false, .bool false, .bool false, .bool true, .int .i64 0, .int .i64 0]] w fun e w' => e = .returned (.bool true) ∧ Below w.heap.size w w' :=
  says_any [109, 97, 120, 45, 97, 103, 101, 61, 49, 43, 50, 43, 51] false false false true 0 0 w hM (by decide) kb1_of
theorem kb2_of : ofL [[109, 97, 120, 45, 97, 103, 101, 61, 43, 51]] [100] = ⟨false, false, false, true, 0, 0⟩ := by kernel_rfl
theorem kb2 (w : World) (hM : MaxL w) : Calls Tryd.prog 36 #[.string ⟨#[109, 97, 120, 45, 97, 103, 101, 61, 43, 51]⟩, .agg #[.bool false, .bool false, .bool false, .bool true, .int .i64 0, .int .i64 0]] w fun e w' => e = .returned (.bool true) ∧ Below w.heap.size w w' :=
  says_any [109, 97, 120, 45, 97, 103, 101, 61, 43, 51] false false false true 0 0 w hM (by decide) kb2_of
theorem kb3_of : ofL [[109, 97, 120, 45, 97, 103, 101, 61, 51, 43]] [100] = ⟨false, false, false, true, 0, 0⟩ := by kernel_rfl
theorem kb3 (w : World) (hM : MaxL w) : Calls Tryd.prog 36 #[.string ⟨#[109, 97, 120, 45, 97, 103, 101, 61, 51, 43]⟩, .agg #[.bool false, .bool false, .bool false, .bool true, .int .i64 0, .int .i64 0]] w fun e w' => e = .returned (.bool true) ∧ Below w.heap.size w w' :=
  says_any [109, 97, 120, 45, 97, 103, 101, 61, 51, 43] false false false true 0 0 w hM (by decide) kb3_of
theorem kb4_of : ofL [[109, 97, 120, 45, 97, 103, 101, 61, 34, 55, 34]] [100] = ⟨false, false, false, true, 7, 0⟩ := by kernel_rfl
theorem kb4 (w : World) (hM : MaxL w) : Calls Tryd.prog 36 #[.string ⟨#[109, 97, 120, 45, 97, 103, 101, 61, 34, 55, 34]⟩, .agg #[.bool false, .bool false, .bool false, .bool true, .int .i64 7, .int .i64 0]] w fun e w' => e = .returned (.bool true) ∧ Below w.heap.size w w' :=
  says_any [109, 97, 120, 45, 97, 103, 101, 61, 34, 55, 34] false false false true 7 0 w hM (by decide) kb4_of
theorem kb5_of : ofL [[109, 97, 120, 45, 97, 103, 101, 61, 57, 57, 57, 57, 57, 57, 57, 57, 57, 57, 57, 43, 49]] [100] = ⟨false, false, false, true, 2147483648, 1⟩ := by kernel_rfl
theorem kb5 (w : World) (hM : MaxL w) : Calls Tryd.prog 36 #[.string ⟨#[109, 97, 120, 45, 97, 103, 101, 61, 57, 57, 57, 57, 57, 57, 57, 57, 57, 57, 57, 43, 49]⟩, .agg #[.bool false, .bool false, .bool false, .bool true, .int .i64 2147483648, .int .i64 1]] w fun e w' => e = .returned (.bool true) ∧ Below w.heap.size w w' :=
  says_any [109, 97, 120, 45, 97, 103, 101, 61, 57, 57, 57, 57, 57, 57, 57, 57, 57, 57, 57, 43, 49] false false false true 2147483648 1 w hM (by decide) kb5_of
theorem kb6_of : ofL [[109, 97, 120, 45, 97, 103, 101, 61, 49, 44, 32, 109, 97, 120, 45, 97, 103, 101, 61, 50]] [100] = ⟨false, false, false, true, 1, 0⟩ := by kernel_rfl
theorem kb6 (w : World) (hM : MaxL w) : Calls Tryd.prog 36 #[.string ⟨#[109, 97, 120, 45, 97, 103, 101, 61, 49, 44, 32, 109, 97, 120, 45, 97, 103, 101, 61, 50]⟩, .agg #[.bool false, .bool false, .bool false, .bool true, .int .i64 1, .int .i64 0]] w fun e w' => e = .returned (.bool true) ∧ Below w.heap.size w w' :=
  says_any [109, 97, 120, 45, 97, 103, 101, 61, 49, 44, 32, 109, 97, 120, 45, 97, 103, 101, 61, 50] false false false true 1 0 w hM (by decide) kb6_of
theorem kc0_of : ofL [[97, 61, 34]] [100] = ⟨true, false, false, false, 0, 0⟩ := by kernel_rfl
theorem kc0 (w : World) (hM : MaxL w) : Calls Tryd.prog 36 #[.string ⟨#[97, 61, 34]⟩, .agg #[.bool true, .bool false, .bool false, .bool false, .int .i64 0, .int .i64 0]] w fun e w' => e = .returned (.bool true) ∧ Below w.heap.size w w' :=
  says_any [97, 61, 34] true false false false 0 0 w hM (by decide) kc0_of
theorem kc1_of : ofL [[110, 111, 45, 115, 116, 111, 114, 101, 59, 100, 59, 101]] [100] = ⟨false, false, false, false, 0, 0⟩ := by kernel_rfl
theorem kc1 (w : World) (hM : MaxL w) : Calls Tryd.prog 36 #[.string ⟨#[110, 111, 45, 115, 116, 111, 114, 101, 59, 100, 59, 101]⟩, .agg #[.bool false, .bool false, .bool false, .bool false, .int .i64 0, .int .i64 0]] w fun e w' => e = .returned (.bool true) ∧ Below w.heap.size w w' :=
  says_any [110, 111, 45, 115, 116, 111, 114, 101, 59, 100, 59, 101] false false false false 0 0 w hM (by decide) kc1_of
theorem kc2_of : ofL [[110, 111, 45, 115, 116, 111, 114, 101, 59, 40, 100, 41]] [100] = ⟨false, false, false, false, 0, 0⟩ := by kernel_rfl
theorem kc2 (w : World) (hM : MaxL w) : Calls Tryd.prog 36 #[.string ⟨#[110, 111, 45, 115, 116, 111, 114, 101, 59, 40, 100, 41]⟩, .agg #[.bool false, .bool false, .bool false, .bool false, .int .i64 0, .int .i64 0]] w fun e w' => e = .returned (.bool true) ∧ Below w.heap.size w w' :=
  says_any [110, 111, 45, 115, 116, 111, 114, 101, 59, 40, 100, 41] false false false false 0 0 w hM (by decide) kc2_of
theorem kc3_of : ofL [[110, 111, 45, 115, 116, 111, 114, 101, 45, 114, 101, 109, 111, 116, 101, 32, 59, 32, 100]] [100] = ⟨false, true, false, false, 0, 0⟩ := by kernel_rfl
theorem kc3 (w : World) (hM : MaxL w) : Calls Tryd.prog 36 #[.string ⟨#[110, 111, 45, 115, 116, 111, 114, 101, 45, 114, 101, 109, 111, 116, 101, 32, 59, 32, 100]⟩, .agg #[.bool false, .bool true, .bool false, .bool false, .int .i64 0, .int .i64 0]] w fun e w' => e = .returned (.bool true) ∧ Below w.heap.size w w' :=
  says_any [110, 111, 45, 115, 116, 111, 114, 101, 45, 114, 101, 109, 111, 116, 101, 32, 59, 32, 100] false true false false 0 0 w hM (by decide) kc3_of
theorem kof0_of : ofL [] [100] = ⟨false, false, false, false, 0, 0⟩ := by kernel_rfl
theorem kof0 (w : World) (hM : MaxL w) : Calls Tryd.prog 32 #[.slice none 0 0, .string ⟨#[100]⟩] w fun e w' => e = .returned (.agg #[.bool false, .bool false, .bool false, .bool false, .int .i64 0, .int .i64 0]) ∧ Below w.heap.size w w' := by
  have h := surOf_any none 0 0 [] ⟨#[100]⟩ w hM Rd.nil (by omega) (by simp)
  rw [show (⟨#[100]⟩ : ByteArray).data.toList = [100] from rfl, kof0_of] at h
  exact h
theorem kof1_of : ofL [[110, 111, 45, 115, 116, 111, 114, 101, 59, 100], [109, 97, 120, 45, 97, 103, 101, 61, 50]] [] = ⟨false, false, false, true, 2, 0⟩ := by kernel_rfl
theorem Rd.newS (w : World) (ls : List (List UInt8)) (T : TypeId) : Rd (some ⟨w.heap.size, 0, none⟩) ls.length 1 (strsV ls) (w.alloc (.cells (strsV ls).toArray T)) := by
  refine ⟨by simp [strsV], fun _ => ⟨w.heap.size, 0, rfl, by simp, fun j u hu => ?_⟩⟩
  rw [Nat.zero_add, World.cell?_alloc_mark]
  simpa using hu
theorem kof1 (w : World) (hM : MaxL w) : Calls Tryd.prog 32 #[.slice (some ⟨w.heap.size, 0, none⟩) 2 2, .string ⟨#[]⟩] (w.alloc (.cells #[.string ⟨#[110, 111, 45, 115, 116, 111, 114, 101, 59, 100]⟩, .string ⟨#[109, 97, 120, 45, 97, 103, 101, 61, 50]⟩] 9)) fun e w' => e = .returned (.agg #[.bool false, .bool false, .bool false, .bool true, .int .i64 2, .int .i64 0]) ∧ Below w.heap.size w w' := by
  have hal := (Below.refl w.heap.size w).alloc (Nat.le_refl _) (.cells #[.string ⟨#[110, 111, 45, 115, 116, 111, 114, 101, 59, 100]⟩, .string ⟨#[109, 97, 120, 45, 97, 103, 101, 61, 50]⟩] 9)
  have h := surOf_any _ 2 2 [[110, 111, 45, 115, 116, 111, 114, 101, 59, 100], [109, 97, 120, 45, 97, 103, 101, 61, 50]] ⟨#[]⟩ _ (hM.below hal) (Rd.newS w [[110, 111, 45, 115, 116, 111, 114, 101, 59, 100], [109, 97, 120, 45, 97, 103, 101, 61, 50]] 9) (by omega) (by intro x hx; simp at hx; rcases hx with rfl | rfl <;> decide)
  rw [show (⟨#[]⟩ : ByteArray).data.toList = [] from rfl, kof1_of] at h
  exact h.mono fun _ _ ⟨h1, h2⟩ => ⟨h1, hal.trans (h2.mono (by simp))⟩
theorem kcap (d : ByteArray) (l : List UInt8) (h : capL d.data.toList = l) (w : World) (hd : d.size ≤ 1000) : Calls Tryd.prog 34 #[.string d] w fun e w' => e = .returned (.string ⟨l.toArray⟩) ∧ w = w' := by
  rw [← h]; exact cap_any d w (by omega)
set_option maxHeartbeats 16000000 in
theorem surctlKnown_any (w : World) (hM : MaxL w) :
    Calls Tryd.prog 12 #[] w fun e w' => e = .returned (.bool true) ∧ Below w.heap.size w w' := by
  obtain ⟨W3, hW3⟩ : ∃ W3, ((w.alloc (.cells #[.bool false, .bool false, .bool false, .bool false, .int .i64 0, .int .i64 0] 46)).alloc (.cells #[.bool false, .bool false, .bool true, .bool false, .int .i64 0, .int .i64 0] 46)).alloc (.cells #[.bool true, .bool false, .bool false, .bool false, .int .i64 0, .int .i64 0] 46) = W3 := ⟨_, rfl⟩
  have hB3 : Below w.heap.size w W3 := by rw [← hW3]; exact (((Below.refl _ w).alloc (Nat.le_refl _) _).alloc (by simp) _).alloc (by simp; omega) _
  have hz3 : W3.heap.size = w.heap.size + 3 := by rw [← hW3]; simp
  have x3 : W3.heap[w.heap.size + 2]? = some (.cells #[.bool true, .bool false, .bool false, .bool false, .int .i64 0, .int .i64 0] 46 (0, 0)) := by
    rw [← hW3]
    have := World.alloc_heap_new ((w.alloc (.cells #[.bool false, .bool false, .bool false, .bool false, .int .i64 0, .int .i64 0] 46)).alloc (.cells #[.bool false, .bool false, .bool true, .bool false, .int .i64 0, .int .i64 0] 46)) (.cells #[.bool true, .bool false, .bool false, .bool false, .int .i64 0, .int .i64 0] 46)
    simpa using this
  have x2 : W3.heap[w.heap.size + 1]? = some (.cells #[.bool false, .bool false, .bool true, .bool false, .int .i64 0, .int .i64 0] 46 (0, 0)) := by
    rw [← hW3]
    have := World.alloc_heap_new (w.alloc (.cells #[.bool false, .bool false, .bool false, .bool false, .int .i64 0, .int .i64 0] 46)) (.cells #[.bool false, .bool false, .bool true, .bool false, .int .i64 0, .int .i64 0] 46)
    rw [World.size_alloc] at this
    exact (Below.heap_alloc _ _ _ (by simp)).trans this
  have x1 : W3.heap[w.heap.size]? = some (.cells #[.bool false, .bool false, .bool false, .bool false, .int .i64 0, .int .i64 0] 46 (0, 0)) := by
    rw [← hW3]
    exact ((Below.heap_alloc _ _ _ (by simp; omega)).trans (Below.heap_alloc _ _ _ (by simp))).trans (World.alloc_heap_new w _)
  have kc : ∀ w', Below W3.heap.size W3 w' → w'.cell? ⟨w.heap.size, 0, none⟩ = some (.bool false) ∧ w'.cell? ⟨w.heap.size, 1, none⟩ = some (.bool false) ∧ w'.cell? ⟨w.heap.size, 2, none⟩ = some (.bool false) ∧ w'.cell? ⟨w.heap.size, 3, none⟩ = some (.bool false) ∧ w'.cell? ⟨w.heap.size, 4, none⟩ = some (.int .i64 0) ∧ w'.cell? ⟨w.heap.size, 5, none⟩ = some (.int .i64 0) ∧ w'.cell? ⟨w.heap.size + 1, 0, none⟩ = some (.bool false) ∧ w'.cell? ⟨w.heap.size + 1, 1, none⟩ = some (.bool false) ∧ w'.cell? ⟨w.heap.size + 1, 2, none⟩ = some (.bool true) ∧ w'.cell? ⟨w.heap.size + 1, 3, none⟩ = some (.bool false) ∧ w'.cell? ⟨w.heap.size + 1, 4, none⟩ = some (.int .i64 0) ∧ w'.cell? ⟨w.heap.size + 1, 5, none⟩ = some (.int .i64 0) ∧ w'.cell? ⟨w.heap.size + 2, 0, none⟩ = some (.bool true) ∧ w'.cell? ⟨w.heap.size + 2, 1, none⟩ = some (.bool false) ∧ w'.cell? ⟨w.heap.size + 2, 2, none⟩ = some (.bool false) ∧ w'.cell? ⟨w.heap.size + 2, 3, none⟩ = some (.bool false) ∧ w'.cell? ⟨w.heap.size + 2, 4, none⟩ = some (.int .i64 0) ∧ w'.cell? ⟨w.heap.size + 2, 5, none⟩ = some (.int .i64 0) ∧ Below W3.heap.size W3 w' := fun w' h => ⟨(of_heap ((h.block _ (by omega)).trans x1) 0).1, (of_heap ((h.block _ (by omega)).trans x1) 1).1, (of_heap ((h.block _ (by omega)).trans x1) 2).1, (of_heap ((h.block _ (by omega)).trans x1) 3).1, (of_heap ((h.block _ (by omega)).trans x1) 4).1, (of_heap ((h.block _ (by omega)).trans x1) 5).1, (of_heap ((h.block _ (by omega)).trans x2) 0).1, (of_heap ((h.block _ (by omega)).trans x2) 1).1, (of_heap ((h.block _ (by omega)).trans x2) 2).1, (of_heap ((h.block _ (by omega)).trans x2) 3).1, (of_heap ((h.block _ (by omega)).trans x2) 4).1, (of_heap ((h.block _ (by omega)).trans x2) 5).1, (of_heap ((h.block _ (by omega)).trans x3) 0).1, (of_heap ((h.block _ (by omega)).trans x3) 1).1, (of_heap ((h.block _ (by omega)).trans x3) 2).1, (of_heap ((h.block _ (by omega)).trans x3) 3).1, (of_heap ((h.block _ (by omega)).trans x3) 4).1, (of_heap ((h.block _ (by omega)).trans x3) 5).1, h⟩
  have hb0 := Below.refl W3.heap.size W3
  have KC := Lib.hid kc; have HW3 := Lib.hid hW3
  clear kc hW3 x1 x2 x3
  have HZ3 := Lib.hid hz3
  clear hz3
  go_enter Tryd.func12, Tryd.ntmps12
  go_wp2_with fail
  rw [HW3.out]
  refine wp_region_held_drew (S := (fun w' => w'.cell? ⟨w.heap.size, 0, none⟩ = some (.bool false) ∧ w'.cell? ⟨w.heap.size, 1, none⟩ = some (.bool false) ∧ w'.cell? ⟨w.heap.size, 2, none⟩ = some (.bool false) ∧ w'.cell? ⟨w.heap.size, 3, none⟩ = some (.bool false) ∧ w'.cell? ⟨w.heap.size, 4, none⟩ = some (.int .i64 0) ∧ w'.cell? ⟨w.heap.size, 5, none⟩ = some (.int .i64 0) ∧ w'.cell? ⟨w.heap.size + 1, 0, none⟩ = some (.bool false) ∧ w'.cell? ⟨w.heap.size + 1, 1, none⟩ = some (.bool false) ∧ w'.cell? ⟨w.heap.size + 1, 2, none⟩ = some (.bool true) ∧ w'.cell? ⟨w.heap.size + 1, 3, none⟩ = some (.bool false) ∧ w'.cell? ⟨w.heap.size + 1, 4, none⟩ = some (.int .i64 0) ∧ w'.cell? ⟨w.heap.size + 1, 5, none⟩ = some (.int .i64 0) ∧ w'.cell? ⟨w.heap.size + 2, 0, none⟩ = some (.bool true) ∧ w'.cell? ⟨w.heap.size + 2, 1, none⟩ = some (.bool false) ∧ w'.cell? ⟨w.heap.size + 2, 2, none⟩ = some (.bool false) ∧ w'.cell? ⟨w.heap.size + 2, 3, none⟩ = some (.bool false) ∧ w'.cell? ⟨w.heap.size + 2, 4, none⟩ = some (.int .i64 0) ∧ w'.cell? ⟨w.heap.size + 2, 5, none⟩ = some (.int .i64 0) ∧ Below W3.heap.size W3 w')) (by kernel_rfl) (KC.out _ hb0.drew) (fun hHeld => ?_)
  refine wpAnyH_ready (rs := [0]) (by kernel_rfl) (by simp) (AllReadyH.cons (by simp only [List.getElem?_toArray, List.getElem?_cons_zero]; exact rfl) (fun K hK => ?_) AllReadyH.nil)
  rw [if_pos (by rfl)]
  go_simp
  refine (works12_any _ (hM.below hB3.drew)).mono ?_; rintro e w4 ⟨rfl, h4⟩; have hb1 := hb0.drew.trans (h4.mono (Nat.le_refl _)); go_wp2_with fail
  refine hK.out _ _ (KC.out _ hb1) (fun hHeld => ?_)
  clear hK K
  try simp only [Act.put, List.setIfInBounds_toArray, List.set_cons_zero, List.set_cons_succ]
  refine wpAnyH_take (i := 1) (v := ?_) (by simp only [List.getElem?_toArray, List.getElem?_cons_succ, List.getElem?_cons_zero]; exact rfl) (by kernel_rfl) (by kernel_rfl) (by kernel_rfl) (by intro _ _ _ h; exact h) (Or.inl ⟨by rfl, fun W hSw => ?_⟩) hHeld ?_
  rotate_left
  focus ((try dsimp only at hSw); first | (go_simp; done) | (go_simp; with_reducible rfl))
  try simp only [Act.put, List.setIfInBounds_toArray, List.set_cons_zero, List.set_cons_succ]
  refine wpAnyH_take (i := 2) (v := ?_) (by simp only [List.getElem?_toArray, List.getElem?_cons_succ, List.getElem?_cons_zero]; exact rfl) (by kernel_rfl) (by kernel_rfl) (by kernel_rfl) (by intro _ _ _ h; exact h) (Or.inl ⟨by rfl, fun W hSw => ?_⟩) hHeld ?_
  rotate_left
  focus ((try dsimp only at hSw); first | (go_simp; done) | (go_simp; with_reducible rfl))
  try simp only [Act.put, List.setIfInBounds_toArray, List.set_cons_zero, List.set_cons_succ]
  refine wpAnyH_take (i := 4) (v := ?_) (by simp only [List.getElem?_toArray, List.getElem?_cons_succ, List.getElem?_cons_zero]; exact rfl) (by kernel_rfl) (by kernel_rfl) (by kernel_rfl) (by intro _ _ _ h; exact h) (Or.inl ⟨by rfl, fun W hSw => ?_⟩) hHeld ?_
  rotate_left
  focus ((try dsimp only at hSw); first | (go_simp; done) | (go_simp; with_reducible rfl))
  try simp only [Act.put, List.setIfInBounds_toArray, List.set_cons_zero, List.set_cons_succ]
  refine wpAnyH_ready (rs := [3]) (by kernel_rfl) (by simp) (AllReadyH.cons (by simp only [List.getElem?_toArray, List.getElem?_cons_succ, List.getElem?_cons_zero]; exact rfl) (fun K hK => ?_) AllReadyH.nil)
  rw [if_pos (by rfl)]
  go_simp
  refine (kof0 _ (hM.below (hB3.trans (hb1.mono hB3.size)))).mono ?_; rintro e w4 ⟨rfl, h4⟩; have hb2 := bt hb1 h4; go_wp2_with fail
  refine hK.out _ _ (KC.out _ hb2) (fun hHeld => ?_)
  clear hK K
  try simp only [Act.put, List.setIfInBounds_toArray, List.set_cons_zero, List.set_cons_succ]
  refine wpAnyH_take (i := 5) (v := ?_) (by simp only [List.getElem?_toArray, List.getElem?_cons_succ, List.getElem?_cons_zero]; exact rfl) (by kernel_rfl) (by kernel_rfl) (by kernel_rfl) (by intro _ _ _ h; exact h) (Or.inl ⟨by rfl, fun W hSw => ?_⟩) hHeld ?_
  rotate_left
  focus ((try dsimp only at hSw); first | (go_simp; done) | (go_simp; with_reducible rfl))
  try simp only [Act.put, List.setIfInBounds_toArray, List.set_cons_zero, List.set_cons_succ]
  refine wpAnyH_take (i := 6) (v := ?_) (by simp only [List.getElem?_toArray, List.getElem?_cons_succ, List.getElem?_cons_zero]; exact rfl) (by kernel_rfl) (by kernel_rfl) (by kernel_rfl) (by intro _ _ _ h; exact h) (Or.inl ⟨by rfl, fun W hSw => ?_⟩) hHeld ?_
  rotate_left
  focus ((try dsimp only at hSw); first | (go_simp; done) | (go_simp; with_reducible rfl))
  try simp only [Act.put, List.setIfInBounds_toArray, List.set_cons_zero, List.set_cons_succ]
  refine wpAnyH_take (i := 7) (v := ?_) (by simp only [List.getElem?_toArray, List.getElem?_cons_succ, List.getElem?_cons_zero]; exact rfl) (by kernel_rfl) (by kernel_rfl) (by kernel_rfl) (by intro _ _ _ h; exact h) (Or.inl ⟨by rfl, fun W hSw => ?_⟩) hHeld ?_
  rotate_left
  focus ((try dsimp only at hSw); first | (go_simp; done) | (go_simp; with_reducible rfl))
  try simp only [Act.put, List.setIfInBounds_toArray, List.set_cons_zero, List.set_cons_succ]
  refine wpAnyH_take (i := 8) (v := ?_) (by simp only [List.getElem?_toArray, List.getElem?_cons_succ, List.getElem?_cons_zero]; exact rfl) (by kernel_rfl) (by kernel_rfl) (by kernel_rfl) (by intro _ _ _ h; exact h) (Or.inl ⟨by rfl, fun W hSw => ?_⟩) hHeld ?_
  rotate_left
  focus ((try dsimp only at hSw); first | (go_simp; done) | (go_simp; with_reducible rfl))
  try simp only [Act.put, List.setIfInBounds_toArray, List.set_cons_zero, List.set_cons_succ]
  refine wpAnyH_ready (rs := [9]) (by kernel_rfl) (by simp) (AllReadyH.cons (by simp only [List.getElem?_toArray, List.getElem?_cons_succ, List.getElem?_cons_zero]; exact rfl) (fun K hK => ?_) AllReadyH.nil)
  rw [if_pos (by rfl)]
  go_simp
  refine (ka0 _ (hM.below (hB3.trans (hb2.mono hB3.size)))).mono ?_; rintro e w4 ⟨rfl, h4⟩; have hb3 := bt hb2 h4; go_wp2_with fail
  refine hK.out _ _ (KC.out _ hb3) (fun hHeld => ?_)
  clear hK K
  try simp only [Act.put, List.setIfInBounds_toArray, List.set_cons_zero, List.set_cons_succ]
  refine wpAnyH_take (i := 10) (v := ?_) (by simp only [List.getElem?_toArray, List.getElem?_cons_succ, List.getElem?_cons_zero]; exact rfl) (by kernel_rfl) (by kernel_rfl) (by kernel_rfl) (by intro _ _ _ h; exact h) (Or.inl ⟨by rfl, fun W hSw => ?_⟩) hHeld ?_
  rotate_left
  focus ((try dsimp only at hSw); first | (go_simp; done) | (go_simp; with_reducible rfl))
  try simp only [Act.put, List.setIfInBounds_toArray, List.set_cons_zero, List.set_cons_succ]
  refine wpAnyH_take (i := 11) (v := ?_) (by simp only [List.getElem?_toArray, List.getElem?_cons_succ, List.getElem?_cons_zero]; exact rfl) (by kernel_rfl) (by kernel_rfl) (by kernel_rfl) (by intro _ _ _ h; exact h) (Or.inl ⟨by rfl, fun W hSw => ?_⟩) hHeld ?_
  rotate_left
  focus ((try dsimp only at hSw); first | (go_simp; done) | (go_simp; with_reducible rfl))
  try simp only [Act.put, List.setIfInBounds_toArray, List.set_cons_zero, List.set_cons_succ]
  refine wpAnyH_take (i := 12) (v := ?_) (by simp only [List.getElem?_toArray, List.getElem?_cons_succ, List.getElem?_cons_zero]; exact rfl) (by kernel_rfl) (by kernel_rfl) (by kernel_rfl) (by intro _ _ _ h; exact h) (Or.inl ⟨by rfl, fun W hSw => ?_⟩) hHeld ?_
  rotate_left
  focus ((try dsimp only at hSw); first | (go_simp; done) | (go_simp; with_reducible rfl))
  try simp only [Act.put, List.setIfInBounds_toArray, List.set_cons_zero, List.set_cons_succ]
  refine wpAnyH_take (i := 13) (v := ?_) (by simp only [List.getElem?_toArray, List.getElem?_cons_succ, List.getElem?_cons_zero]; exact rfl) (by kernel_rfl) (by kernel_rfl) (by kernel_rfl) (by intro _ _ _ h; exact h) (Or.inl ⟨by rfl, fun W hSw => ?_⟩) hHeld ?_
  rotate_left
  focus ((try dsimp only at hSw); first | (go_simp; done) | (go_simp; with_reducible rfl))
  try simp only [Act.put, List.setIfInBounds_toArray, List.set_cons_zero, List.set_cons_succ]
  refine wpAnyH_ready (rs := [14]) (by kernel_rfl) (by simp) (AllReadyH.cons (by simp only [List.getElem?_toArray, List.getElem?_cons_succ, List.getElem?_cons_zero]; exact rfl) (fun K hK => ?_) AllReadyH.nil)
  rw [if_pos (by rfl)]
  go_simp
  refine (ka1 _ (hM.below (hB3.trans (hb3.mono hB3.size)))).mono ?_; rintro e w4 ⟨rfl, h4⟩; have hb4 := bt hb3 h4; go_wp2_with fail
  refine hK.out _ _ (KC.out _ hb4) (fun hHeld => ?_)
  clear hK K
  try simp only [Act.put, List.setIfInBounds_toArray, List.set_cons_zero, List.set_cons_succ]
  refine wpAnyH_take (i := 15) (v := ?_) (by simp only [List.getElem?_toArray, List.getElem?_cons_succ, List.getElem?_cons_zero]; exact rfl) (by kernel_rfl) (by kernel_rfl) (by kernel_rfl) (by intro _ _ _ h; exact h) (Or.inl ⟨by rfl, fun W hSw => ?_⟩) hHeld ?_
  rotate_left
  focus ((try dsimp only at hSw); first | (go_simp; done) | (go_simp; with_reducible rfl))
  try simp only [Act.put, List.setIfInBounds_toArray, List.set_cons_zero, List.set_cons_succ]
  refine wpAnyH_take (i := 16) (v := ?_) (by simp only [List.getElem?_toArray, List.getElem?_cons_succ, List.getElem?_cons_zero]; exact rfl) (by kernel_rfl) (by kernel_rfl) (by kernel_rfl) (by intro _ _ _ h; exact h) (Or.inl ⟨by rfl, fun W hSw => ?_⟩) hHeld ?_
  rotate_left
  focus ((try dsimp only at hSw); first | (go_simp; done) | (go_simp; with_reducible rfl))
  try simp only [Act.put, List.setIfInBounds_toArray, List.set_cons_zero, List.set_cons_succ]
  refine wpAnyH_take (i := 17) (v := ?_) (by simp only [List.getElem?_toArray, List.getElem?_cons_succ, List.getElem?_cons_zero]; exact rfl) (by kernel_rfl) (by kernel_rfl) (by kernel_rfl) (by intro _ _ _ h; exact h) (Or.inl ⟨by rfl, fun W hSw => ?_⟩) hHeld ?_
  rotate_left
  focus ((try dsimp only at hSw); first | (go_simp; done) | (go_simp; with_reducible rfl))
  try simp only [Act.put, List.setIfInBounds_toArray, List.set_cons_zero, List.set_cons_succ]
  refine wpAnyH_take (i := 18) (v := ?_) (by simp only [List.getElem?_toArray, List.getElem?_cons_succ, List.getElem?_cons_zero]; exact rfl) (by kernel_rfl) (by kernel_rfl) (by kernel_rfl) (by intro _ _ _ h; exact h) (Or.inl ⟨by rfl, fun W hSw => ?_⟩) hHeld ?_
  rotate_left
  focus ((try dsimp only at hSw); first | (go_simp; done) | (go_simp; with_reducible rfl))
  try simp only [Act.put, List.setIfInBounds_toArray, List.set_cons_zero, List.set_cons_succ]
  refine wpAnyH_ready (rs := [19]) (by kernel_rfl) (by simp) (AllReadyH.cons (by simp only [List.getElem?_toArray, List.getElem?_cons_succ, List.getElem?_cons_zero]; exact rfl) (fun K hK => ?_) AllReadyH.nil)
  rw [if_pos (by rfl)]
  go_simp
  refine (ka2 _ (hM.below (hB3.trans (hb4.mono hB3.size)))).mono ?_; rintro e w4 ⟨rfl, h4⟩; have hb5 := bt hb4 h4; go_wp2_with fail
  refine hK.out _ _ (KC.out _ hb5) (fun hHeld => ?_)
  clear hK K
  try simp only [Act.put, List.setIfInBounds_toArray, List.set_cons_zero, List.set_cons_succ]
  refine wpAnyH_take (i := 20) (v := ?_) (by simp only [List.getElem?_toArray, List.getElem?_cons_succ, List.getElem?_cons_zero]; exact rfl) (by kernel_rfl) (by kernel_rfl) (by kernel_rfl) (by intro _ _ _ h; exact h) (Or.inl ⟨by rfl, fun W hSw => ?_⟩) hHeld ?_
  rotate_left
  focus ((try dsimp only at hSw); first | (go_simp; done) | (go_simp; with_reducible rfl))
  try simp only [Act.put, List.setIfInBounds_toArray, List.set_cons_zero, List.set_cons_succ]
  refine wpAnyH_take (i := 21) (v := ?_) (by simp only [List.getElem?_toArray, List.getElem?_cons_succ, List.getElem?_cons_zero]; exact rfl) (by kernel_rfl) (by kernel_rfl) (by kernel_rfl) (by intro _ _ _ h; exact h) (Or.inl ⟨by rfl, fun W hSw => ?_⟩) hHeld ?_
  rotate_left
  focus ((try dsimp only at hSw); first | (go_simp; done) | (go_simp; with_reducible rfl))
  try simp only [Act.put, List.setIfInBounds_toArray, List.set_cons_zero, List.set_cons_succ]
  refine wpAnyH_take (i := 22) (v := ?_) (by simp only [List.getElem?_toArray, List.getElem?_cons_succ, List.getElem?_cons_zero]; exact rfl) (by kernel_rfl) (by kernel_rfl) (by kernel_rfl) (by intro _ _ _ h; exact h) (Or.inl ⟨by rfl, fun W hSw => ?_⟩) hHeld ?_
  rotate_left
  focus ((try dsimp only at hSw); first | (go_simp; done) | (go_simp; with_reducible rfl))
  try simp only [Act.put, List.setIfInBounds_toArray, List.set_cons_zero, List.set_cons_succ]
  refine wpAnyH_take (i := 23) (v := ?_) (by simp only [List.getElem?_toArray, List.getElem?_cons_succ, List.getElem?_cons_zero]; exact rfl) (by kernel_rfl) (by kernel_rfl) (by kernel_rfl) (by intro _ _ _ h; exact h) (Or.inl ⟨by rfl, fun W hSw => ?_⟩) hHeld ?_
  rotate_left
  focus ((try dsimp only at hSw); first | (go_simp; done) | (go_simp; with_reducible rfl))
  try simp only [Act.put, List.setIfInBounds_toArray, List.set_cons_zero, List.set_cons_succ]
  refine wpAnyH_ready (rs := [24]) (by kernel_rfl) (by simp) (AllReadyH.cons (by simp only [List.getElem?_toArray, List.getElem?_cons_succ, List.getElem?_cons_zero]; exact rfl) (fun K hK => ?_) AllReadyH.nil)
  rw [if_pos (by rfl)]
  go_simp
  refine (ka3 _ (hM.below (hB3.trans (hb5.mono hB3.size)))).mono ?_; rintro e w4 ⟨rfl, h4⟩; have hb6 := bt hb5 h4; go_wp2_with fail
  refine hK.out _ _ (KC.out _ hb6) (fun hHeld => ?_)
  clear hK K
  try simp only [Act.put, List.setIfInBounds_toArray, List.set_cons_zero, List.set_cons_succ]
  refine wpAnyH_take (i := 25) (v := ?_) (by simp only [List.getElem?_toArray, List.getElem?_cons_succ, List.getElem?_cons_zero]; exact rfl) (by kernel_rfl) (by kernel_rfl) (by kernel_rfl) (by intro _ _ _ h; exact h) (Or.inl ⟨by rfl, fun W hSw => ?_⟩) hHeld ?_
  rotate_left
  focus ((try dsimp only at hSw); first | (go_simp; done) | (go_simp; with_reducible rfl))
  try simp only [Act.put, List.setIfInBounds_toArray, List.set_cons_zero, List.set_cons_succ]
  refine wpAnyH_take (i := 26) (v := ?_) (by simp only [List.getElem?_toArray, List.getElem?_cons_succ, List.getElem?_cons_zero]; exact rfl) (by kernel_rfl) (by kernel_rfl) (by kernel_rfl) (by intro _ _ _ h; exact h) (Or.inl ⟨by rfl, fun W hSw => ?_⟩) hHeld ?_
  rotate_left
  focus ((try dsimp only at hSw); first | (go_simp; done) | (go_simp; with_reducible rfl))
  try simp only [Act.put, List.setIfInBounds_toArray, List.set_cons_zero, List.set_cons_succ]
  refine wpAnyH_take (i := 27) (v := ?_) (by simp only [List.getElem?_toArray, List.getElem?_cons_succ, List.getElem?_cons_zero]; exact rfl) (by kernel_rfl) (by kernel_rfl) (by kernel_rfl) (by intro _ _ _ h; exact h) (Or.inl ⟨by rfl, fun W hSw => ?_⟩) hHeld ?_
  rotate_left
  focus ((try dsimp only at hSw); first | (go_simp; done) | (go_simp; with_reducible rfl))
  try simp only [Act.put, List.setIfInBounds_toArray, List.set_cons_zero, List.set_cons_succ]
  refine wpAnyH_take (i := 28) (v := ?_) (by simp only [List.getElem?_toArray, List.getElem?_cons_succ, List.getElem?_cons_zero]; exact rfl) (by kernel_rfl) (by kernel_rfl) (by kernel_rfl) (by intro _ _ _ h; exact h) (Or.inl ⟨by rfl, fun W hSw => ?_⟩) hHeld ?_
  rotate_left
  focus ((try dsimp only at hSw); first | (go_simp; done) | (go_simp; with_reducible rfl))
  try simp only [Act.put, List.setIfInBounds_toArray, List.set_cons_zero, List.set_cons_succ]
  refine wpAnyH_ready (rs := [29]) (by kernel_rfl) (by simp) (AllReadyH.cons (by simp only [List.getElem?_toArray, List.getElem?_cons_succ, List.getElem?_cons_zero]; exact rfl) (fun K hK => ?_) AllReadyH.nil)
  rw [if_pos (by rfl)]
  go_simp
  refine (ka4 _ (hM.below (hB3.trans (hb6.mono hB3.size)))).mono ?_; rintro e w4 ⟨rfl, h4⟩; have hb7 := bt hb6 h4; go_wp2_with fail
  refine hK.out _ _ (KC.out _ hb7) (fun hHeld => ?_)
  clear hK K
  try simp only [Act.put, List.setIfInBounds_toArray, List.set_cons_zero, List.set_cons_succ]
  refine wpAnyH_take (i := 30) (v := ?_) (by simp only [List.getElem?_toArray, List.getElem?_cons_succ, List.getElem?_cons_zero]; exact rfl) (by kernel_rfl) (by kernel_rfl) (by kernel_rfl) (by intro _ _ _ h; exact h) (Or.inl ⟨by rfl, fun W hSw => ?_⟩) hHeld ?_
  rotate_left
  focus ((try dsimp only at hSw); first | (go_simp; done) | (go_simp; with_reducible rfl))
  try simp only [Act.put, List.setIfInBounds_toArray, List.set_cons_zero, List.set_cons_succ]
  refine wpAnyH_take (i := 31) (v := ?_) (by simp only [List.getElem?_toArray, List.getElem?_cons_succ, List.getElem?_cons_zero]; exact rfl) (by kernel_rfl) (by kernel_rfl) (by kernel_rfl) (by intro _ _ _ h; exact h) (Or.inl ⟨by rfl, fun W hSw => ?_⟩) hHeld ?_
  rotate_left
  focus ((try dsimp only at hSw); first | (go_simp; done) | (go_simp; with_reducible rfl))
  try simp only [Act.put, List.setIfInBounds_toArray, List.set_cons_zero, List.set_cons_succ]
  refine wpAnyH_take (i := 32) (v := ?_) (by simp only [List.getElem?_toArray, List.getElem?_cons_succ, List.getElem?_cons_zero]; exact rfl) (by kernel_rfl) (by kernel_rfl) (by kernel_rfl) (by intro _ _ _ h; exact h) (Or.inl ⟨by rfl, fun W hSw => ?_⟩) hHeld ?_
  rotate_left
  focus ((try dsimp only at hSw); first | (go_simp; done) | (go_simp; with_reducible rfl))
  try simp only [Act.put, List.setIfInBounds_toArray, List.set_cons_zero, List.set_cons_succ]
  refine wpAnyH_take (i := 33) (v := ?_) (by simp only [List.getElem?_toArray, List.getElem?_cons_succ, List.getElem?_cons_zero]; exact rfl) (by kernel_rfl) (by kernel_rfl) (by kernel_rfl) (by intro _ _ _ h; exact h) (Or.inl ⟨by rfl, fun W hSw => ?_⟩) hHeld ?_
  rotate_left
  focus ((try dsimp only at hSw); first | (go_simp; done) | (go_simp; with_reducible rfl))
  try simp only [Act.put, List.setIfInBounds_toArray, List.set_cons_zero, List.set_cons_succ]
  refine wpAnyH_ready (rs := [34]) (by kernel_rfl) (by simp) (AllReadyH.cons (by simp only [List.getElem?_toArray, List.getElem?_cons_succ, List.getElem?_cons_zero]; exact rfl) (fun K hK => ?_) AllReadyH.nil)
  rw [if_pos (by rfl)]
  go_simp
  refine (ka5 _ (hM.below (hB3.trans (hb7.mono hB3.size)))).mono ?_; rintro e w4 ⟨rfl, h4⟩; have hb8 := bt hb7 h4; go_wp2_with fail
  refine hK.out _ _ (KC.out _ hb8) (fun hHeld => ?_)
  clear hK K
  try simp only [Act.put, List.setIfInBounds_toArray, List.set_cons_zero, List.set_cons_succ]
  refine wpAnyH_take (i := 35) (v := ?_) (by simp only [List.getElem?_toArray, List.getElem?_cons_succ, List.getElem?_cons_zero]; exact rfl) (by kernel_rfl) (by kernel_rfl) (by kernel_rfl) (by intro _ _ _ h; exact h) (Or.inl ⟨by rfl, fun W hSw => ?_⟩) hHeld ?_
  rotate_left
  focus ((try dsimp only at hSw); first | (go_simp; done) | (go_simp; with_reducible rfl))
  try simp only [Act.put, List.setIfInBounds_toArray, List.set_cons_zero, List.set_cons_succ]
  refine wpAnyH_take (i := 36) (v := ?_) (by simp only [List.getElem?_toArray, List.getElem?_cons_succ, List.getElem?_cons_zero]; exact rfl) (by kernel_rfl) (by kernel_rfl) (by kernel_rfl) (by intro _ _ _ h; exact h) (Or.inl ⟨by rfl, fun W hSw => ?_⟩) hHeld ?_
  rotate_left
  focus ((try dsimp only at hSw); first | (go_simp; done) | (go_simp; with_reducible rfl))
  try simp only [Act.put, List.setIfInBounds_toArray, List.set_cons_zero, List.set_cons_succ]
  refine wpAnyH_take (i := 37) (v := ?_) (by simp only [List.getElem?_toArray, List.getElem?_cons_succ, List.getElem?_cons_zero]; exact rfl) (by kernel_rfl) (by kernel_rfl) (by kernel_rfl) (by intro _ _ _ h; exact h) (Or.inl ⟨by rfl, fun W hSw => ?_⟩) hHeld ?_
  rotate_left
  focus ((try dsimp only at hSw); first | (go_simp; done) | (go_simp; with_reducible rfl))
  try simp only [Act.put, List.setIfInBounds_toArray, List.set_cons_zero, List.set_cons_succ]
  refine wpAnyH_take (i := 38) (v := ?_) (by simp only [List.getElem?_toArray, List.getElem?_cons_succ, List.getElem?_cons_zero]; exact rfl) (by kernel_rfl) (by kernel_rfl) (by kernel_rfl) (by intro _ _ _ h; exact h) (Or.inl ⟨by rfl, fun W hSw => ?_⟩) hHeld ?_
  rotate_left
  focus ((try dsimp only at hSw); first | (go_simp; done) | (go_simp; with_reducible rfl))
  try simp only [Act.put, List.setIfInBounds_toArray, List.set_cons_zero, List.set_cons_succ]
  refine wpAnyH_ready (rs := [39]) (by kernel_rfl) (by simp) (AllReadyH.cons (by simp only [List.getElem?_toArray, List.getElem?_cons_succ, List.getElem?_cons_zero]; exact rfl) (fun K hK => ?_) AllReadyH.nil)
  rw [if_pos (by rfl)]
  go_simp
  refine (ka6 _ (hM.below (hB3.trans (hb8.mono hB3.size)))).mono ?_; rintro e w4 ⟨rfl, h4⟩; have hb9 := bt hb8 h4; go_wp2_with fail
  refine hK.out _ _ (KC.out _ hb9) (fun hHeld => ?_)
  clear hK K
  try simp only [Act.put, List.setIfInBounds_toArray, List.set_cons_zero, List.set_cons_succ]
  refine wpAnyH_take (i := 40) (v := ?_) (by simp only [List.getElem?_toArray, List.getElem?_cons_succ, List.getElem?_cons_zero]; exact rfl) (by kernel_rfl) (by kernel_rfl) (by kernel_rfl) (by intro _ _ _ h; exact h) (Or.inl ⟨by rfl, fun W hSw => ?_⟩) hHeld ?_
  rotate_left
  focus ((try dsimp only at hSw); first | (go_simp; done) | (go_simp; with_reducible rfl))
  try simp only [Act.put, List.setIfInBounds_toArray, List.set_cons_zero, List.set_cons_succ]
  refine wpAnyH_take (i := 41) (v := ?_) (by simp only [List.getElem?_toArray, List.getElem?_cons_succ, List.getElem?_cons_zero]; exact rfl) (by kernel_rfl) (by kernel_rfl) (by kernel_rfl) (by intro _ _ _ h; exact h) (Or.inl ⟨by rfl, fun W hSw => ?_⟩) hHeld ?_
  rotate_left
  focus ((try dsimp only at hSw); first | (go_simp; done) | (go_simp; with_reducible rfl))
  try simp only [Act.put, List.setIfInBounds_toArray, List.set_cons_zero, List.set_cons_succ]
  refine wpAnyH_done (by kernel_rfl) ?_ _
  clear hHeld
  have hBa := hB3.trans (hb9.mono hB3.size)
  obtain ⟨wa, hwa⟩ : ∃ wa : World, wa = w4 := ⟨_, rfl⟩
  subst hwa
  obtain ⟨W5, hW5⟩ : ∃ W5, wa.alloc (.cells #[.bool false, .bool false, .bool false, .bool true, .int .i64 0, .int .i64 0] 46) = W5 := ⟨_, rfl⟩
  have hal : Below wa.heap.size wa W5 := by rw [← hW5]; exact (Below.refl _ wa).alloc (Nat.le_refl _) _
  have x4 : W5.heap[wa.heap.size]? = some (.cells #[.bool false, .bool false, .bool false, .bool true, .int .i64 0, .int .i64 0] 46 (0, 0)) := by rw [← hW5]; exact World.alloc_heap_new wa _
  have hz5 : wa.heap.size < W5.heap.size := by rw [← hW5]; simp
  obtain ⟨g4, hg4⟩ : ∃ g4, wa.heap.size = g4 := ⟨_, rfl⟩
  have hb5 := bt hb9 hal
  have hB5 := hB3.trans (hb5.mono hB3.size)
  rw [hg4] at x4 hz5
  have kc5 : ∀ w', Below W5.heap.size W5 w' → w'.cell? ⟨g4, 0, none⟩ = some (.bool false) ∧ w'.cell? ⟨g4, 1, none⟩ = some (.bool false) ∧ w'.cell? ⟨g4, 2, none⟩ = some (.bool false) ∧ w'.cell? ⟨g4, 3, none⟩ = some (.bool true) ∧ w'.cell? ⟨g4, 4, none⟩ = some (.int .i64 0) ∧ w'.cell? ⟨g4, 5, none⟩ = some (.int .i64 0) ∧ w'.cell? ⟨w.heap.size, 0, none⟩ = some (.bool false) ∧ w'.cell? ⟨w.heap.size, 1, none⟩ = some (.bool false) ∧ w'.cell? ⟨w.heap.size, 2, none⟩ = some (.bool false) ∧ w'.cell? ⟨w.heap.size, 3, none⟩ = some (.bool false) ∧ w'.cell? ⟨w.heap.size, 4, none⟩ = some (.int .i64 0) ∧ w'.cell? ⟨w.heap.size, 5, none⟩ = some (.int .i64 0) ∧ w'.cell? ⟨w.heap.size + 2, 0, none⟩ = some (.bool true) ∧ w'.cell? ⟨w.heap.size + 2, 1, none⟩ = some (.bool false) ∧ w'.cell? ⟨w.heap.size + 2, 2, none⟩ = some (.bool false) ∧ w'.cell? ⟨w.heap.size + 2, 3, none⟩ = some (.bool false) ∧ w'.cell? ⟨w.heap.size + 2, 4, none⟩ = some (.int .i64 0) ∧ w'.cell? ⟨w.heap.size + 2, 5, none⟩ = some (.int .i64 0) := fun w' h => by
    have k := KC.out w' (hb5.trans (h.mono hb5.size))
    exact ⟨(of_heap ((h.block _ hz5).trans x4) 0).1, (of_heap ((h.block _ hz5).trans x4) 1).1, (of_heap ((h.block _ hz5).trans x4) 2).1, (of_heap ((h.block _ hz5).trans x4) 3).1, (of_heap ((h.block _ hz5).trans x4) 4).1, (of_heap ((h.block _ hz5).trans x4) 5).1, k.1, k.2.1, k.2.2.1, k.2.2.2.1, k.2.2.2.2.1, k.2.2.2.2.2.1, k.2.2.2.2.2.2.2.2.2.2.2.2.1, k.2.2.2.2.2.2.2.2.2.2.2.2.2.1, k.2.2.2.2.2.2.2.2.2.2.2.2.2.2.1, k.2.2.2.2.2.2.2.2.2.2.2.2.2.2.2.1, k.2.2.2.2.2.2.2.2.2.2.2.2.2.2.2.2.1, k.2.2.2.2.2.2.2.2.2.2.2.2.2.2.2.2.2.1⟩
  have hc0 := Below.refl W5.heap.size W5
  have f0 := kc5 W5 hc0
  obtain ⟨y0, y1, y2, y3, y4, y5, y6, y7, y8, y9, y10, y11, y12, y13, y14, y15, y16, y17⟩ := f0
  have KC5 := Lib.hid kc5; have HW5 := Lib.hid hW5; have HG4 := Lib.hid hg4
  clear kc5 hW5 hg4 x4 hal
  go_wp2_with fail
  rw [HW5.out, HG4.out]
  (with_reducible refine (kb0 _ (hM.below (hB5.trans (hc0.mono hB5.size)))).mono ?_)
  rintro e w6 ⟨rfl, h6⟩
  have hc1 := bt hc0 h6
  clear y0 y1 y2 y3 y4 y5 y6 y7 y8 y9 y10 y11 y12 y13 y14 y15 y16 y17 h6
  obtain ⟨y0, y1, y2, y3, y4, y5, y6, y7, y8, y9, y10, y11, y12, y13, y14, y15, y16, y17⟩ := KC5.out w6 hc1
  go_wp2_with fail
  (with_reducible refine (kb1 _ (hM.below (hB5.trans (hc1.mono hB5.size)))).mono ?_)
  rintro e w6 ⟨rfl, h6⟩
  have hc2 := bt hc1 h6
  clear y0 y1 y2 y3 y4 y5 y6 y7 y8 y9 y10 y11 y12 y13 y14 y15 y16 y17 h6
  obtain ⟨y0, y1, y2, y3, y4, y5, y6, y7, y8, y9, y10, y11, y12, y13, y14, y15, y16, y17⟩ := KC5.out w6 hc2
  go_wp2_with fail
  (with_reducible refine (kb2 _ (hM.below (hB5.trans (hc2.mono hB5.size)))).mono ?_)
  rintro e w6 ⟨rfl, h6⟩
  have hc3 := bt hc2 h6
  clear y0 y1 y2 y3 y4 y5 y6 y7 y8 y9 y10 y11 y12 y13 y14 y15 y16 y17 h6
  obtain ⟨y0, y1, y2, y3, y4, y5, y6, y7, y8, y9, y10, y11, y12, y13, y14, y15, y16, y17⟩ := KC5.out w6 hc3
  go_wp2_with fail
  (with_reducible refine (kb3 _ (hM.below (hB5.trans (hc3.mono hB5.size)))).mono ?_)
  rintro e w6 ⟨rfl, h6⟩
  have hc4 := bt hc3 h6
  clear y0 y1 y2 y3 y4 y5 y6 y7 y8 y9 y10 y11 y12 y13 y14 y15 y16 y17 h6
  obtain ⟨y0, y1, y2, y3, y4, y5, y6, y7, y8, y9, y10, y11, y12, y13, y14, y15, y16, y17⟩ := KC5.out w6 hc4
  go_wp2_with fail
  (with_reducible refine (kb4 _ (hM.below (hB5.trans (hc4.mono hB5.size)))).mono ?_)
  rintro e w6 ⟨rfl, h6⟩
  have hc5 := bt hc4 h6
  clear y0 y1 y2 y3 y4 y5 y6 y7 y8 y9 y10 y11 y12 y13 y14 y15 y16 y17 h6
  obtain ⟨y0, y1, y2, y3, y4, y5, y6, y7, y8, y9, y10, y11, y12, y13, y14, y15, y16, y17⟩ := KC5.out w6 hc5
  go_wp2_with fail
  (with_reducible refine (kb5 _ (hM.below (hB5.trans (hc5.mono hB5.size)))).mono ?_)
  rintro e w6 ⟨rfl, h6⟩
  have hc6 := bt hc5 h6
  clear y0 y1 y2 y3 y4 y5 y6 y7 y8 y9 y10 y11 y12 y13 y14 y15 y16 y17 h6
  obtain ⟨y0, y1, y2, y3, y4, y5, y6, y7, y8, y9, y10, y11, y12, y13, y14, y15, y16, y17⟩ := KC5.out w6 hc6
  go_wp2_with fail
  (with_reducible refine (kb6 _ (hM.below (hB5.trans (hc6.mono hB5.size)))).mono ?_)
  rintro e w6 ⟨rfl, h6⟩
  have hc7 := bt hc6 h6
  clear y0 y1 y2 y3 y4 y5 y6 y7 y8 y9 y10 y11 y12 y13 y14 y15 y16 y17 h6
  obtain ⟨y0, y1, y2, y3, y4, y5, y6, y7, y8, y9, y10, y11, y12, y13, y14, y15, y16, y17⟩ := KC5.out w6 hc7
  go_wp2_with fail
  (with_reducible refine (kc0 _ (hM.below (hB5.trans (hc7.mono hB5.size)))).mono ?_)
  rintro e w6 ⟨rfl, h6⟩
  have hc8 := bt hc7 h6
  clear y0 y1 y2 y3 y4 y5 y6 y7 y8 y9 y10 y11 y12 y13 y14 y15 y16 y17 h6
  obtain ⟨y0, y1, y2, y3, y4, y5, y6, y7, y8, y9, y10, y11, y12, y13, y14, y15, y16, y17⟩ := KC5.out w6 hc8
  go_wp2_with fail
  (with_reducible refine (kc1 _ (hM.below (hB5.trans (hc8.mono hB5.size)))).mono ?_)
  rintro e w6 ⟨rfl, h6⟩
  have hc9 := bt hc8 h6
  clear y0 y1 y2 y3 y4 y5 y6 y7 y8 y9 y10 y11 y12 y13 y14 y15 y16 y17 h6
  obtain ⟨y0, y1, y2, y3, y4, y5, y6, y7, y8, y9, y10, y11, y12, y13, y14, y15, y16, y17⟩ := KC5.out w6 hc9
  go_wp2_with fail
  (with_reducible refine (kc2 _ (hM.below (hB5.trans (hc9.mono hB5.size)))).mono ?_)
  rintro e w6 ⟨rfl, h6⟩
  have hc10 := bt hc9 h6
  clear y0 y1 y2 y3 y4 y5 y6 y7 y8 y9 y10 y11 y12 y13 y14 y15 y16 y17 h6
  obtain ⟨y0, y1, y2, y3, y4, y5, y6, y7, y8, y9, y10, y11, y12, y13, y14, y15, y16, y17⟩ := KC5.out w6 hc10
  go_wp2_with fail
  (with_reducible refine (kc3 _ (hM.below (hB5.trans (hc10.mono hB5.size)))).mono ?_)
  rintro e w6 ⟨rfl, h6⟩
  have hc11 := bt hc10 h6
  clear y0 y1 y2 y3 y4 y5 y6 y7 y8 y9 y10 y11 y12 y13 y14 y15 y16 y17 h6
  obtain ⟨y0, y1, y2, y3, y4, y5, y6, y7, y8, y9, y10, y11, y12, y13, y14, y15, y16, y17⟩ := KC5.out w6 hc11
  clear y0 y1 y2 y3 y4 y5 y6 y7 y8 y9 y10 y11 y12 y13 y14 y15 y16 y17
  have hB6 := hB5.trans (hc11.mono hB5.size)
  go_wp2_with fail
  (with_reducible refine (kof1 _ (hM.below hB6)).mono ?_)
  rintro e w7 ⟨rfl, h7⟩
  have hB7 := bt hB6 h7
  go_wp2_with fail
  (with_reducible refine (kcap ⟨#[100]⟩ [100, 61, 34, 83, 117, 114, 114, 111, 103, 97, 116, 101, 47, 49, 46, 48, 32, 69, 83, 73, 47, 49, 46, 48, 34] (by kernel_rfl) _ (by decide)).mono ?_)
  rintro e w8 ⟨rfl, rfl⟩
  go_wp2_with fail
  (with_reducible refine (kcap ⟨#[]⟩ [] (by kernel_rfl) _ (by decide)).mono ?_)
  rintro e w8 ⟨rfl, rfl⟩
  go_wp2_with fail
  (with_reducible refine (kcap ⟨#[97, 32, 98]⟩ [] (by kernel_rfl) _ (by decide)).mono ?_)
  rintro e w8 ⟨rfl, rfl⟩
  have hB8 := hB7.alloc hB7.size (.cells #[.bool false, .bool false, .bool false, .bool true, .int .i64 2, .int .i64 0] 46)
  go_wp2_with fail
  (with_reducible refine (works12_any _ (hM.below hB8)).mono ?_)
  rintro e w9 ⟨rfl, h9⟩
  go_wp2
  go_ret
  exact ⟨rfl, bt hB8 h9⟩
end Go.Proofs.YtfoabdpfadgafaaDoor
