/- The walks of Clean (layer 4), and of the document's. -/
import Derived.Test.YthppcaoldobocaaDoorRHop04
namespace Go.Proofs.YthppcaoldobocaaDoor
open Go.RowKit
set_option maxRecDepth 100000

theorem hopL_mem (xs : List Fld) (hs : sumF xs ≤ 1000000) : ∀ l ∈ hopL xs, l.length ≤ 1000000 := by
  have hvt := total_values xs connW
  exact hopVs_mem 1000000 _ hop9 (by decide) (fun v hv => by have := total_mem hv; omega)
theorem hopL_le (xs : List Fld) : (hopL xs).length ≤ 9 + 64 * xs.length := by
  have h1 := hopVs_le (valuesL xs connW) hop9
  have h2 := valuesL_le xs connW
  have h3 : hop9.length = 9 := rfl
  unfold hopL; omega
set_option maxHeartbeats 2000000 in
theorem clean_any (A : Option Addr) (n c : Nat) (xs : List Fld) (w : World) (hr : Rd A n 2 (fldsV xs) w) (hn : n ≤ 10000) (hs : sumF xs ≤ 1000000) :
    Calls Tryd.prog 32 #[.slice A n c] w (FieldsPost w (cleanL xs)) := by
  have hxn := hr.fld
  have k1 := hop_any A n c xs w hr hn hs
  have hl := hopL_le xs
  have k2 := fun (a : Option Addr) (c' : Nat) W (hb : Below w.heap.size w W) h => del_any A n c xs a (hopL xs).length c' (hopL xs) W (hr.below hb) (by omega) (fun f hf => by have := sumF_mem hf; omega) h (by omega) (hopL_mem xs hs)
  have hc : delL xs (hopL xs) = cleanL xs := rfl
  rw [hc] at k2
  generalize cleanL xs = out at *
  generalize hopL xs = hp at *
  have K1 := Lib.hid k1; have K2 := Lib.hid k2
  clear k1 k2 hr hn hs hl hxn hc
  go_enter Tryd.func32, Tryd.ntmps32
  go_wp2_with fail
  refine K1.out.mono ?_
  rintro e w1 ⟨a1, c1, rfl, ho1, hb1⟩
  go_wp2_with fail
  refine (K2.out _ _ _ hb1 ho1.rd.2).mono ?_
  rintro e w2 ⟨a2, c2, rfl, ho2, hb2⟩
  have HO2 := Lib.hid (ho2.base (B' := w.heap.size) hb1.size)
  clear ho2
  go_wp2
  go_ret
  exact ⟨a2, c2, rfl, HO2.out, bt hb1 hb2⟩
set_option maxHeartbeats 2000000 in
theorem rclean_any (A : Option Addr) (n c : Nat) (xs : List Fld) (w : World) (hr : Rd A n 2 (fldsV xs) w) (hn : n ≤ 10000) (hs : sumF xs ≤ 1000000) :
    Calls Tryd.prog 33 #[.slice A n c] w (FieldsPost w (cleanL xs)) := by
  have hxn := hr.fld
  have k1 := rhop_any A n c xs w hr hn hs
  have hl := hopL_le xs
  have k2 := fun (a : Option Addr) (c' : Nat) W (hb : Below w.heap.size w W) h => rdel_any A n c xs a (hopL xs).length c' (hopL xs) W (hr.below hb) (by omega) (fun f hf => by have := sumF_mem hf; omega) h (by omega) (hopL_mem xs hs)
  have hc : delL xs (hopL xs) = cleanL xs := rfl
  rw [hc] at k2
  generalize cleanL xs = out at *
  generalize hopL xs = hp at *
  have K1 := Lib.hid k1; have K2 := Lib.hid k2
  clear k1 k2 hr hn hs hl hxn hc
  go_enter Tryd.func33, Tryd.ntmps33
  go_wp2_with fail
  refine K1.out.mono ?_
  rintro e w1 ⟨a1, c1, rfl, ho1, hb1⟩
  go_wp2_with fail
  refine (K2.out _ _ _ hb1 ho1.rd.2).mono ?_
  rintro e w2 ⟨a2, c2, rfl, ho2, hb2⟩
  have HO2 := Lib.hid (ho2.base (B' := w.heap.size) hb1.size)
  clear ho2
  go_wp2
  go_ret
  exact ⟨a2, c2, rfl, HO2.out, bt hb1 hb2⟩
end Go.Proofs.YthppcaoldobocaaDoor
