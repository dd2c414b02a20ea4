/- The walk of the document's in (layer 15). -/
import Derived.Test.YtdlajobnnnmojaaDoorRd
namespace Go.Proofs.YtdlajobnnnmojaaDoor
open Go.RowKit

set_option maxHeartbeats 2000000 in
theorem in15_any (A : Option Addr) (n c : Nat) (ls : List (List UInt8)) (nm : List UInt8) (w : World) (h : Rd A n 1 (strsV ls) w) (hn : n ≤ 1000000) :
    Calls Tryd.prog 32 #[.slice A n c, .string ⟨nm.toArray⟩] w fun e w' => e = .returned (.bool (ls.contains nm)) ∧ w = w' := by
  obtain rfl := h.str
  have hY : ∀ k (h : k < ls.length), (ls[k] == nm) = true → ls.contains nm = true := by
    intro k h e
    rw [List.contains_iff_mem, ← beq_iff_eq.1 e]; exact List.getElem_mem _
  have hN : ∀ k, ls.length ≤ k → (ls.take k).contains nm = false → ls.contains nm = false := by
    intro k h e; rwa [List.take_of_length_le h] at e
  have hS : ∀ k (h : k < ls.length), (ls.take k).contains nm = false → (ls[k] == nm) = false → (ls.take (k + 1)).contains nm = false := by
    intro k h e n
    have n2 : nm ≠ ls[k] := fun x => (beq_eq_false_iff_ne.1 n) x.symm
    have e2 : nm ∉ ls.take k := by simpa using e
    rw [List.take_succ_eq_append_getElem h, List.contains_eq_mem, decide_eq_false_iff_not, List.mem_append]
    rintro (x | x)
    · exact e2 x
    · exact n2 (List.mem_singleton.1 x)
  have HY := Lib.hid hY; have HN := Lib.hid hN; have HS := Lib.hid hS; have HR := Lib.hid h; clear hY hN hS h
  generalize ls.contains nm = out at *
  go_enter Tryd.func32, Tryd.ntmps32
  go_wp2
  go_loop [5] (fun i => ∃ k : Nat, k ≤ ls.length ∧ i = .int .i64 k ∧ Hid ((ls.take k).contains nm = false)) (fun i => ls.length - (intOf i).toNat)
  case atStart => exact ⟨0, Nat.zero_le _, rfl, by show _ = _; simp⟩
  case round =>
    obtain ⟨k, hk, rfl, Hall⟩ := hrel
    by_cases hlt : k < ls.length
    · obtain ⟨b, o, rfl, hl, c1⟩ := HR.out.str_at (k := k) hlt
      have hy := HY.out k hlt
      have hs := HS.out k hlt Hall.out
      generalize ls[k] = l at *
      have Hy := Lib.hid hy; have Hs := Lib.hid hs; clear hy hs
      cases hq : (l == nm)
      · have hf := Hs.out hq
        have Hf := Lib.hid hf; clear hf
        go_wp2
        go_round
        case rel => exact ⟨k + 1, by omega, by go_num, Hf⟩
        case measure => simp [intOf]; omega
      · have hf := Hy.out hq
        have Hf := Lib.hid hf; clear hf
        go_wp2
        go_ret
        exact ⟨by rw [Hf.out]; rfl, rfl⟩
    · have hf := HN.out k (by omega) Hall.out
      have Hf := Lib.hid hf; clear hf
      go_wp2
      go_ret
      exact ⟨by rw [Hf.out]; rfl, rfl⟩
end Go.Proofs.YtdlajobnnnmojaaDoor
