/- The walks of the law's names, matches, awake (layer 15). -/
import Derived.Test.YtdlajobnnnmojaaDoorOf15
import Derived.Test.YtdlajobnnnmojaaDoorNames
import Derived.Test.YtdlajobnnnmojaaDoorVarySel
namespace Go.Proofs.YtdlajobnnnmojaaDoor
open Go.RowKit

def namesT (o : Option (List (List UInt8))) : List UInt8 := match o with | none => [97, 108, 108] | some l => Lib.join l [32]
theorem ofL_mem (M : Nat) : ∀ ls : List (List UInt8), (∀ x ∈ ls, x.length ≤ M) → ∀ f ∈ ofL ls, f.1.length ≤ M ∧ f.2.length ≤ M
  | [], _, f, hf => by simp [ofL] at hf
  | [_], _, f, hf => by simp [ofL] at hf
  | a :: b :: r, h, f, hf => by
    rcases List.mem_cons.1 hf with rfl | hf
    · exact ⟨h a (by simp), h b (by simp)⟩
    · exact ofL_mem M r (fun x hx => h x (by simp [hx])) f hf

set_option maxRecDepth 100000 in
set_option maxHeartbeats 2000000 in
theorem names15_any (A : Option Addr) (n c : Nat) (ls : List (List UInt8)) (w : World) (hr : Rd A n 1 (strsV ls) w) (hn : n ≤ 1000) (hl : ∀ x ∈ ls, x.length ≤ 1000) (o : Option (List (List UInt8))) (ho : namesO (ofL ls) = o) (hol : (optL o).length ≤ 1000 ∧ total (optL o) ≤ 1000000) :
    Calls Tryd.prog 18 #[.slice A n c] w fun e w' => e = .returned (.string ⟨(namesT o).toArray⟩) ∧ Below w.heap.size w w' := by
  have k1 := of15_any A n c ls w hr (by omega)
  have hfl : (ofL ls).length ≤ 1000 := by rw [ofL_len]; have := hr.str; omega
  have hfm := ofL_mem 1000 ls hl
  have k2 : ∀ (a : Option Addr) (c : Nat) (w : World), Rd a (ofL ls).length 2 (fldsV (ofL ls)) w → Calls Tryd.prog 10 #[.agg #[.int .i64 0, .string ⟨#[]⟩, .int .i64 0, .slice a (ofL ls).length c, .string ⟨#[]⟩]] w (NamesPost w (namesO (ofL ls))) :=
    fun a c w h => vnames_any 0 ⟨#[]⟩ 0 a (ofL ls).length c ⟨#[]⟩ (ofL ls) w h hfl (fun f hf => by have := hfm f hf; omega)
  rw [ho] at k2
  clear hfm ho hl hr
  generalize ofL ls = fs at *
  have K1 := Lib.hid k1; have K2 := Lib.hid k2; clear k1 k2
  go_enter Tryd.func18, Tryd.ntmps18
  go_wp2_with fail
  refine K1.out.mono ?_
  rintro e w1 ⟨a1, c1, rfl, ho1, hb1⟩
  go_wp2_with fail
  refine (K2.out _ _ _ ho1.rd.2).mono ?_
  rintro e w2 ⟨a2, c2, rfl, ho2, hb2⟩
  clear K1 K2
  cases o with
  | none =>
    go_wp2
    go_ret
    exact ⟨rfl, bt hb1 hb2⟩
  | some l =>
    obtain ⟨h1, h2⟩ := hol
    have h1' : l.length ≤ 1000 := h1
    have h2' : total l ≤ 1000000 := h2
    have k3 := join_any w1.heap.size c2 a2 l ⟨#[32]⟩ w2 ho2 (by omega) (by rw [show (⟨#[32]⟩ : ByteArray).size = 1 from rfl]; omega)
    have K3 := Lib.hid k3; clear k3
    go_wp2_with fail
    refine K3.out.mono ?_
    rintro e w3 ⟨rfl, hb3⟩
    go_wp2
    go_ret
    exact ⟨rfl, bt (bt hb1 hb2) hb3⟩

def accW : List UInt8 := [97, 99, 99, 101, 112, 116]
set_option maxRecDepth 100000 in
set_option maxHeartbeats 2000000 in
theorem matches15_any (v : List UInt8) (A : Option Addr) (n c : Nat) (ls : List (List UInt8)) (w : World) (hr : Rd A n 1 (strsV ls) w) (hn : n ≤ 1000) (hl : ∀ x ∈ ls, x.length ≤ 1000) :
    Calls Tryd.prog 20 #[.string ⟨v.toArray⟩, .slice A n c] w fun e w' => e = .returned (.bool (matchesL [(accW, v)] (ofL ls))) ∧ Below w.heap.size w w' := by
  have hfl : (ofL ls).length ≤ 1000 := by rw [ofL_len]; have := hr.str; omega
  have hfm := ofL_mem 1000 ls hl
  have k0 : ∀ (W : World) (g : Nat), W.cell? ⟨g, 0, none⟩ = some (.string ⟨accW.toArray⟩) → W.cell? ⟨g, 1, none⟩ = some (.string ⟨v.toArray⟩) → g < W.heap.size → Calls Tryd.prog 19 #[.slice (some ⟨g, 0, none⟩) 2 2] W (FieldsPost W [(accW, v)]) := by
    intro W g h1 h2 h3
    refine of15_any _ _ _ [accW, v] W ⟨rfl, fun _ => ⟨g, 0, rfl, h3, fun j u hu => ?_⟩⟩ (by omega)
    match j, hu with
    | 0, hu => simp [strsV] at hu; subst hu; exact h1
    | 1, hu => simp [strsV] at hu; subst hu; exact h2
  have k1 := fun W (hb : Below w.heap.size w W) => of15_any A n c ls W (hr.below hb) (by omega)
  have k2 : ∀ (va : Option Addr) (vc : Nat) (a : Option Addr) (c : Nat) (w : World), Rd va 1 2 (fldsV [(accW, v)]) w → Rd a (ofL ls).length 2 (fldsV (ofL ls)) w → Calls Tryd.prog 16 #[.agg #[.int .i64 0, .string ⟨#[]⟩, .int .i64 0, .slice none 0 0, .string ⟨#[]⟩, .int .i64 0, .int .i64 0, .slice va 1 vc], .slice a (ofL ls).length c] w fun e w' => e = .returned (.bool (matchesL [(accW, v)] (ofL ls))) ∧ Below w.heap.size w w' :=
    fun va vc a c w h h2 => matches_any 0 ⟨#[]⟩ 0 none 0 0 ⟨#[]⟩ 0 0 va 1 vc [(accW, v)] a (ofL ls).length c (ofL ls) w h (by omega) (by intro f hf; simp at hf; subst hf; show accW.length ≤ 1000000; decide) h2 hfl (fun f hf => by have := hfm f hf; omega)
  clear hfm hl hr
  generalize ofL ls = fs at *
  generalize matchesL [(accW, v)] fs = out at *
  have K0 := Lib.hid k0; have K1 := Lib.hid k1; have K2 := Lib.hid k2; clear k0 k1 k2
  go_enter Tryd.func20, Tryd.ntmps20
  go_wp2_with fail
  refine (K0.out _ _ (World.cell?_alloc_mark w _ _ _ 0) (World.cell?_alloc_mark w _ _ _ 1) (by simp)).mono ?_
  rintro e w1 ⟨a1, c1, rfl, ho1, hb1⟩
  have hb1' : Below w.heap.size w w1 := ((Below.refl w.heap.size w).alloc (Nat.le_refl _) _).trans (hb1.mono (by simp))
  go_wp2_with fail
  refine (K1.out _ hb1').mono ?_
  rintro e w2 ⟨a2, c2, rfl, ho2, hb2⟩
  go_wp2_with fail
  refine (K2.out _ _ _ _ _ (ho1.below hb2).rd.2 ho2.rd.2).mono ?_
  rintro e w3 ⟨rfl, hb3⟩
  go_wp2
  go_ret
  exact ⟨rfl, bt (bt hb1' hb2) hb3⟩

theorem rd_new (w : World) (ls : List (List UInt8)) (T : TypeId) : Rd (some ⟨w.heap.size, 0, none⟩) ls.length 1 (strsV ls) (w.alloc (.cells (strsV ls).toArray T)) := by
  refine ⟨by simp [strsV], fun _ => ⟨w.heap.size, 0, rfl, by simp, fun j u hu => ?_⟩⟩
  rw [Nat.zero_add, World.cell?_alloc_mark]
  simpa using hu
def aw1 : List (List UInt8) := [[118, 97, 114, 121], [65, 99, 99, 101, 112, 116, 45, 76, 97, 110, 103, 117, 97, 103, 101, 44, 32, 67, 111, 111, 107, 105, 101], [118, 97, 114, 121], [99, 111, 111, 107, 105, 101]]
def aw2 : List (List UInt8) := [[118, 97, 114, 121], [42]]
def aw3 : List (List UInt8) := [[97, 99, 99, 101, 112, 116], [97, 44, 98]]
def aw4 : List (List UInt8) := [[97, 99, 99, 101, 112, 116], [98, 44, 32, 97]]
theorem names15_new (ls : List (List UInt8)) (w : World) (hn : ls.length ≤ 1000) (hl : ∀ x ∈ ls, x.length ≤ 1000) (o : Option (List (List UInt8))) (ho : namesO (ofL ls) = o) (hol : (optL o).length ≤ 1000 ∧ total (optL o) ≤ 1000000) :
    Calls Tryd.prog 18 #[.slice (some ⟨w.heap.size, 0, none⟩) ls.length ls.length] (w.alloc (.cells (strsV ls).toArray 9)) fun e w' => e = .returned (.string ⟨(namesT o).toArray⟩) ∧ Below w.heap.size w w' :=
  (names15_any _ _ _ ls _ (rd_new w ls 9) hn hl o ho hol).mono fun _ _ ⟨h1, h2⟩ => ⟨h1, ((Below.refl w.heap.size w).alloc (Nat.le_refl _) _).trans (h2.mono (by simp))⟩
theorem matches15_new (v : List UInt8) (ls : List (List UInt8)) (w : World) (hn : ls.length ≤ 1000) (hl : ∀ x ∈ ls, x.length ≤ 1000) (o : Bool) (ho : matchesL [(accW, v)] (ofL ls) = o) :
    Calls Tryd.prog 20 #[.string ⟨v.toArray⟩, .slice (some ⟨w.heap.size, 0, none⟩) ls.length ls.length] (w.alloc (.cells (strsV ls).toArray 9)) fun e w' => e = .returned (.bool o) ∧ Below w.heap.size w w' := by
  subst ho
  exact (matches15_any v _ _ _ ls _ (rd_new w ls 9) hn hl).mono fun _ _ ⟨h1, h2⟩ => ⟨h1, ((Below.refl w.heap.size w).alloc (Nat.le_refl _) _).trans (h2.mono (by simp))⟩
theorem aw1_names : namesO (ofL aw1) = some [[97, 99, 99, 101, 112, 116, 45, 108, 97, 110, 103, 117, 97, 103, 101], [99, 111, 111, 107, 105, 101]] := by kernel_rfl
theorem aw2_names : namesO (ofL aw2) = none := by kernel_rfl
def abW : List UInt8 := [97, 44, 32, 98]
theorem aw3_match : matchesL [(accW, abW)] (ofL aw3) = true := by kernel_rfl
theorem aw4_match : matchesL [(accW, abW)] (ofL aw4) = false := by kernel_rfl
theorem small_all (ls : List (List UInt8)) (h : ls.all (fun x => decide (x.length ≤ 1000)) = true) : ∀ x ∈ ls, x.length ≤ 1000 := fun x hx => of_decide_eq_true (List.all_eq_true.1 h x hx)

set_option maxRecDepth 100000 in
set_option maxHeartbeats 4000000 in
theorem awake15_any (w : World) :
    Calls Tryd.prog 9 #[] w fun e w' => e = .returned (.bool true) ∧ Below w.heap.size w w' := by
  have k1 := fun w => names15_new aw1 w (by decide) (small_all _ (by decide)) _ aw1_names (by decide)
  have k2 := fun w => names15_new aw2 w (by decide) (small_all _ (by decide)) _ aw2_names (by decide)
  have k3 := fun w => matches15_new abW aw3 w (by decide) (small_all _ (by decide)) _ aw3_match
  have k4 := fun w => matches15_new abW aw4 w (by decide) (small_all _ (by decide)) _ aw4_match
  have e1 : (strsV aw1).toArray = #[.string ⟨#[118, 97, 114, 121]⟩, .string ⟨#[65, 99, 99, 101, 112, 116, 45, 76, 97, 110, 103, 117, 97, 103, 101, 44, 32, 67, 111, 111, 107, 105, 101]⟩, .string ⟨#[118, 97, 114, 121]⟩, .string ⟨#[99, 111, 111, 107, 105, 101]⟩] := rfl
  have e2 : (strsV aw2).toArray = #[.string ⟨#[118, 97, 114, 121]⟩, .string ⟨#[42]⟩] := rfl
  have e3 : (strsV aw3).toArray = #[.string ⟨#[97, 99, 99, 101, 112, 116]⟩, .string ⟨#[97, 44, 98]⟩] := rfl
  have e4 : (strsV aw4).toArray = #[.string ⟨#[97, 99, 99, 101, 112, 116]⟩, .string ⟨#[98, 44, 32, 97]⟩] := rfl
  rw [e1] at k1; rw [e2] at k2; rw [e3] at k3; rw [e4] at k4
  clear e1 e2 e3 e4
  have K1 := Lib.hid k1; have K2 := Lib.hid k2; have K3 := Lib.hid k3; have K4 := Lib.hid k4; clear k1 k2 k3 k4
  go_enter Tryd.func9, Tryd.ntmps9
  go_wp2_with fail
  refine (K1.out _).mono ?_
  rintro e w1 ⟨rfl, hb1⟩
  go_wp2_with fail
  refine (K2.out _).mono ?_
  rintro e w2 ⟨rfl, hb2⟩
  go_wp2_with fail
  refine (K3.out _).mono ?_
  rintro e w3 ⟨rfl, hb3⟩
  go_wp2_with fail
  refine (K4.out _).mono ?_
  rintro e w4 ⟨rfl, hb4⟩
  go_wp2
  go_ret
  exact ⟨rfl, bt (bt (bt hb1 hb2) hb3) hb4⟩
end Go.Proofs.YtdlajobnnnmojaaDoor
