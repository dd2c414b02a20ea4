/- The walks of strings.CutPrefix and etag.read. -/
import Derived.Test.YthnfmhjjpodhfaaDoorKit
namespace Go.Proofs.YthnfmhjjpodhfaaDoor
open Go.RowKit

set_option maxHeartbeats 400000 in
theorem hp (s p : ByteArray) (w : World) :
    Calls Tryd.prog 58 #[.string s, .string p] w fun e w' => e = .returned (.bool (Lib.hasPrefix s.data.toList p.data.toList)) ∧ w = w' := by
  have H := Lib.hasPrefix_raw s p
  by_cases h1 : p.size ≤ s.size
  · have H2 := Lib.hid H; clear H
    go_enter Tryd.func58, Tryd.ntmps58
    go_wp2
    go_ret
    exact ⟨by rw [← H2.out]; simp [h1], rfl⟩
  · have H2 := Lib.hid H; clear H
    go_enter Tryd.func58, Tryd.ntmps58
    go_wp2
    go_ret
    exact ⟨by rw [← H2.out]; simp [h1], rfl⟩

/-- strings.CutPrefix. -/
def cutP (s p : ByteArray) : ByteArray := if Lib.hasPrefix s.data.toList p.data.toList then s.extract p.size s.size else s
theorem cutP_le (s p : ByteArray) : (cutP s p).size ≤ s.size := by
  unfold cutP; split <;> simp [ByteArray.size_extract]

set_option maxHeartbeats 400000 in
theorem cp (s p : ByteArray) (w : World) :
    Calls Tryd.prog 35 #[.string s, .string p] w fun e w' => e = .returned (.tuple #[.string (cutP s p), .bool (Lib.hasPrefix s.data.toList p.data.toList)]) ∧ w = w' := by
  by_cases h : Lib.hasPrefix s.data.toList p.data.toList = true
  · have hle : p.size ≤ s.size := by
      have := Lib.hasPrefix_raw s p; rw [h] at this; simp at this; exact this.1
    have hc : cutP s p = s.extract p.size s.size := by unfold cutP; rw [if_pos h]
    have Hc := Lib.hid hc; clear hc
    have H := Lib.hid h; clear h

    go_enter Tryd.func35, Tryd.ntmps35
    go_wp2_with (first | (go_at_call 58; refine (hp s p _).mono ?_; rintro e w' ⟨rfl, rfl⟩; rw [H.out]) | go_in)
    go_ret2
    exact ⟨by rw [Hc.out, H.out]; rfl, rfl⟩
  · have h' : Lib.hasPrefix s.data.toList p.data.toList = false := by simpa using h
    have hc : cutP s p = s := by unfold cutP; rw [if_neg h]
    have Hc := Lib.hid hc; clear hc h
    have H := Lib.hid h'; clear h'
    go_enter Tryd.func35, Tryd.ntmps35
    go_wp2_with (first | (go_at_call 58; refine (hp s p _).mono ?_; rintro e w' ⟨rfl, rfl⟩; rw [H.out]) | go_in)
    go_ret2
    exact ⟨by rw [Hc.out, H.out]; rfl, rfl⟩

/-! plain -/
def okb (c : UInt8) : Bool := !(decide (c.toNat ≤ 32) || c.toNat == 34 || c.toNat == 127)
/-- the tag between the quotes -/
def inner (t : ByteArray) : ByteArray := t.extract 1 (t.size - 1)
def tagged (t : ByteArray) : Bool :=
  if h : 2 ≤ t.size then t[0].toNat == 34 && t[t.size - 1].toNat == 34 && (inner t).data.toList.all okb else false
def empt : ByteArray := ⟨#[]⟩
structure Ent where
  weak : Bool
  right : Bool
  tag : ByteArray
def ent (s : ByteArray) : Ent :=
  if tagged (cutP s ⟨#[87, 47]⟩) then ⟨Lib.hasPrefix s.data.toList [87, 47], true, inner (cutP s ⟨#[87, 47]⟩)⟩ else ⟨false, false, empt⟩
def Ent.val (x : Ent) : Value := .agg #[.bool x.weak, .bool x.right, .string x.tag]

set_option linter.unusedVariables false in
set_option maxHeartbeats 1000000 in
theorem rd (s : ByteArray) (w : World) (hs : s.size ≤ 8000) :
    Calls Tryd.prog 20 #[.string s] w fun e w' => e = .returned (ent s).val ∧ Below w.heap.size w w' := by
  have hle := cutP_le s ⟨#[87, 47]⟩
  obtain ⟨E, hE⟩ : ∃ E, E = ent s := ⟨_, rfl⟩
  have HE := Lib.hid hE
  rw [← hE]; clear hE
  unfold ent at HE
  rw [show Lib.hasPrefix s.data.toList [87, 47] = Lib.hasPrefix s.data.toList (⟨#[87, 47]⟩ : ByteArray).data.toList from rfl] at HE
  go_enter Tryd.func20, Tryd.ntmps20
  go_upto_region 2 with (first | (go_at_call 35; refine (cp s _ _).mono ?_; rintro e w' ⟨rfl, rfl⟩) )
  generalize cutP s ⟨#[87, 47]⟩ = t at *
  generalize Lib.hasPrefix _ _ = b at *
  have ht : t.size ≤ 8000 := by omega
  clear hle
  by_cases h2 : 2 ≤ t.size
  · by_cases h0 : t[0].toNat = 34
    · by_cases h1 : t[t.size - 1].toNat = 34
      · have hx : (inner t).size = t.size - 2 := by unfold inner; simp [ByteArray.size_extract]; omega
        have Hx := Lib.hid hx
        have e1 : t.size - 1 - 1 = t.size - 2 := by omega
        have d0 : ((t[0].toNat : Int) != 34) = false := by simp; omega
        have d1 : ((t[t.size - 1].toNat : Int) != 34) = false := by simp; omega
        have d2 : decide ((t.size : Int) < 2) = false := by simp; omega
        go_wp2
        clear d0 d1 d2
        have ei : t.extract 1 (t.size - 1) = inner t := rfl
        simp only [ei, ← Hx.out]
        have ht2 : t.size = (inner t).size + 2 := by omega
        have hI : ∀ k, k ≤ (inner t).size → ((inner t).data.toList.take k).all okb = true → k = (inner t).size → tagged t = true := by
          intro k _ hk e
          unfold tagged
          rw [dif_pos h2, h0, h1, ← take_all (inner t) k (by omega), hk]; rfl
        have hB : ∀ k (h : k < (inner t).size), okb (inner t)[k] = false → tagged t = false := by
          intro k h hk
          unfold tagged
          rw [dif_pos h2, all_bad okb (inner t) k h hk]; simp
        have HI := Lib.hid hI; have HB := Lib.hid hB
        clear hI hB hx e1 ht2 Hx ei h0 h1
        have hn : (inner t).size ≤ 8000 := by unfold inner; simp [ByteArray.size_extract]; omega
        clear ht h2 hs
        generalize inner t = g at *
        go_loop [37] (fun i => ∃ k : Nat, k ≤ g.size ∧ i = .int .i64 k ∧ (g.data.toList.take k).all okb = true) (fun i => g.size - (intOf i).toNat)
        case atStart => exact ⟨0, Nat.zero_le _, rfl, by simp⟩
        case round =>
          obtain ⟨k, hk, rfl, hall⟩ := hrel
          have Hall := Lib.hid hall; clear hall
          by_cases hlt : k < g.size
          · by_cases hb : okb g[k] = true
            · have c1 : decide ((g[k].toNat : Int) ≤ 32) = false := by simp [okb] at hb; simp; omega
              have c2 : ((g[k].toNat : Int) == 34) = false := by simp [okb] at hb; simp; omega
              have c3 : ((g[k].toNat : Int) == 127) = false := by simp [okb] at hb; simp; omega
              have Hb := Lib.hid hb; clear hb
              go_wp2
              go_round
              case rel => exact ⟨k + 1, by omega, by go_num, by rw [all_snoc okb g k hlt, Hall.out, Hb.out]; rfl⟩
              case measure => simp [intOf]; omega
            · have hf := HB.out k hlt (by simpa using hb)
              have Hf := Lib.hid hf; clear hf
              have hb' : decide ((g[k].toNat : Int) ≤ 32) = true ∨ (decide ((g[k].toNat : Int) ≤ 32) = false ∧ ((g[k].toNat : Int) == 34) = true) ∨ (decide ((g[k].toNat : Int) ≤ 32) = false ∧ ((g[k].toNat : Int) == 34) = false ∧ ((g[k].toNat : Int) == 127) = true) := by simp [okb] at hb; simp; omega
              clear hb
              rcases hb' with c1 | ⟨c1, c2⟩ | ⟨c1, c2, c3⟩
              all_goals
                go_wp2
                refine bodyPost_ret (v := (⟨false, false, empt⟩ : Ent).val) (by simp [results, Tryd.results20, go_sem]; rfl) rfl ⟨?_, (Below.refl _ _).alloc (Nat.le_refl _) _⟩
                rw [HE.out, Hf.out]; rfl
          · have hf := HI.out k hk Hall.out (by omega)
            have Hf := Lib.hid hf; clear hf
            go_wp2
            refine bodyPost_ret (v := (⟨b, true, g⟩ : Ent).val) (by simp [results, Tryd.results20, go_sem]; rfl) rfl ⟨?_, (Below.refl _ _).alloc (Nat.le_refl _) _⟩
            rw [HE.out, Hf.out]; rfl
      · have hf : tagged t = false := by unfold tagged; rw [dif_pos h2]; simp [h1]
        have d0 : ((t[0].toNat : Int) != 34) = false := by simp; omega
        have d1 : ((t[t.size - 1].toNat : Int) != 34) = true := by simp; omega
        have d2 : decide ((t.size : Int) < 2) = false := by simp; omega
        clear h0 h1
        have Hf := Lib.hid hf; clear hf
        go_wp2
        refine bodyPost_ret (v := (⟨false, false, empt⟩ : Ent).val) (by simp [results, Tryd.results20, go_sem]; rfl) rfl ⟨?_, (Below.refl _ _).alloc (Nat.le_refl _) _⟩
        rw [HE.out, Hf.out]; rfl
    · have hf : tagged t = false := by unfold tagged; rw [dif_pos h2]; simp [h0]
      have d0 : ((t[0].toNat : Int) != 34) = true := by simp; omega
      have d2 : decide ((t.size : Int) < 2) = false := by simp; omega
      clear h0
      have Hf := Lib.hid hf; clear hf
      go_wp2
      refine bodyPost_ret (v := (⟨false, false, empt⟩ : Ent).val) (by simp [results, Tryd.results20, go_sem]; rfl) rfl ⟨?_, (Below.refl _ _).alloc (Nat.le_refl _) _⟩
      rw [HE.out, Hf.out]; rfl
  · have hf : tagged t = false := by unfold tagged; rw [dif_neg h2]
    have Hf := Lib.hid hf; clear hf
    go_wp2
    refine bodyPost_ret (v := (⟨false, false, empt⟩ : Ent).val) (by simp [results, Tryd.results20, go_sem]; rfl) rfl ⟨?_, (Below.refl _ _).alloc (Nat.le_refl _) _⟩
    rw [HE.out, Hf.out]; rfl

end Go.Proofs.YthnfmhjjpodhfaaDoor
