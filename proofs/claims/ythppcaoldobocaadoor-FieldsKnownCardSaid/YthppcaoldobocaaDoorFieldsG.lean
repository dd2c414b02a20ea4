/- FieldsKnown: the walk of the law (printed by wip/tools/known04.py). -/
import Derived.Test.YthppcaoldobocaaDoorClean04
import Derived.Test.YthppcaoldobocaaDoorPut04
import Derived.Test.YthppcaoldobocaaDoorSet04
import Derived.Test.YthppcaoldobocaaDoorTexts04
import Derived.Test.YthppcaoldobocaaDoorWorks04
namespace Go.Proofs.YthppcaoldobocaaDoor
open Go.RowKit
set_option maxRecDepth 100000

theorem kn0 (w : World) (hM : MaxL w) : Calls Tryd.prog 34 #[.string ⟨#[]⟩, .slice none 0 0] w fun e w' => e = .returned (.bool true) ∧ Below w.heap.size w w' :=
  (reads_any ⟨#[]⟩ none 0 0 [] w hM (by decide) Rd.nil (by decide)).mono (by rintro e w' ⟨rfl, hb⟩; exact ⟨congrArg Ending.returned (by kernel_rfl), hb⟩)
theorem kn1 (w : World) (hM : MaxL w) : Calls Tryd.prog 34 #[.string ⟨#[65, 58, 32, 98, 13, 10]⟩, .slice (some ⟨w.heap.size, 0, none⟩) 2 2] (w.alloc (.cells #[.string ⟨#[65]⟩, .string ⟨#[98]⟩] 9)) fun e w' => e = .returned (.bool true) ∧ Below w.heap.size w w' :=
  (reads_any ⟨#[65, 58, 32, 98, 13, 10]⟩ (some ⟨w.heap.size, 0, none⟩) 2 2 [[65], [98]] (w.alloc (.cells #[.string ⟨#[65]⟩, .string ⟨#[98]⟩] 9)) (hM.below ((Below.refl w.heap.size w).alloc (Nat.le_refl _) _)) (by decide) (Rd.newS w [[65], [98]] 9) (by decide)).mono (by rintro e w' ⟨rfl, hb⟩; exact ⟨congrArg Ending.returned (by kernel_rfl), ((Below.refl w.heap.size w).alloc (Nat.le_refl _) _).trans (hb.mono (by simp))⟩)
theorem kn2 (w : World) (hM : MaxL w) : Calls Tryd.prog 34 #[.string ⟨#[65, 58, 13, 10]⟩, .slice (some ⟨w.heap.size, 0, none⟩) 2 2] (w.alloc (.cells #[.string ⟨#[65]⟩, .string ⟨#[]⟩] 9)) fun e w' => e = .returned (.bool true) ∧ Below w.heap.size w w' :=
  (reads_any ⟨#[65, 58, 13, 10]⟩ (some ⟨w.heap.size, 0, none⟩) 2 2 [[65], []] (w.alloc (.cells #[.string ⟨#[65]⟩, .string ⟨#[]⟩] 9)) (hM.below ((Below.refl w.heap.size w).alloc (Nat.le_refl _) _)) (by decide) (Rd.newS w [[65], []] 9) (by decide)).mono (by rintro e w' ⟨rfl, hb⟩; exact ⟨congrArg Ending.returned (by kernel_rfl), ((Below.refl w.heap.size w).alloc (Nat.le_refl _) _).trans (hb.mono (by simp))⟩)
theorem kn3 (w : World) (hM : MaxL w) : Calls Tryd.prog 35 #[.string ⟨#[58, 32, 98, 13, 10]⟩, .int .i64 4] w fun e w' => e = .returned (.bool true) ∧ Below w.heap.size w w' :=
  (fails_any ⟨#[58, 32, 98, 13, 10]⟩ 4 w hM (by decide)).mono (by rintro e w' ⟨rfl, hb⟩; exact ⟨congrArg Ending.returned (by kernel_rfl), hb⟩)
theorem kn4 (w : World) (hM : MaxL w) : Calls Tryd.prog 35 #[.string ⟨#[65, 32, 98, 13, 10]⟩, .int .i64 4] w fun e w' => e = .returned (.bool true) ∧ Below w.heap.size w w' :=
  (fails_any ⟨#[65, 32, 98, 13, 10]⟩ 4 w hM (by decide)).mono (by rintro e w' ⟨rfl, hb⟩; exact ⟨congrArg Ending.returned (by kernel_rfl), hb⟩)
theorem kn5 (w : World) (hM : MaxL w) : Calls Tryd.prog 35 #[.string ⟨#[65, 58, 32, 98]⟩, .int .i64 4] w fun e w' => e = .returned (.bool true) ∧ Below w.heap.size w w' :=
  (fails_any ⟨#[65, 58, 32, 98]⟩ 4 w hM (by decide)).mono (by rintro e w' ⟨rfl, hb⟩; exact ⟨congrArg Ending.returned (by kernel_rfl), hb⟩)
theorem kn6 (w : World) (hM : MaxL w) : Calls Tryd.prog 35 #[.string ⟨#[32, 65, 58, 32, 98, 13, 10]⟩, .int .i64 4] w fun e w' => e = .returned (.bool true) ∧ Below w.heap.size w w' :=
  (fails_any ⟨#[32, 65, 58, 32, 98, 13, 10]⟩ 4 w hM (by decide)).mono (by rintro e w' ⟨rfl, hb⟩; exact ⟨congrArg Ending.returned (by kernel_rfl), hb⟩)
theorem kn7 (w : World) (hM : MaxL w) : Calls Tryd.prog 35 #[.string ⟨#[65, 58, 32, 98, 10, 13, 10]⟩, .int .i64 4] w fun e w' => e = .returned (.bool true) ∧ Below w.heap.size w w' :=
  (fails_any ⟨#[65, 58, 32, 98, 10, 13, 10]⟩ 4 w hM (by decide)).mono (by rintro e w' ⟨rfl, hb⟩; exact ⟨congrArg Ending.returned (by kernel_rfl), hb⟩)

/-! The long ones: the texts stay closed. -/
def M64 : ByteArray := ⟨(Lib.repeatL [65, 58, 32, 98, 13, 10] 64).toArray⟩
def M65 : ByteArray := ⟨(Lib.repeatL [65, 58, 32, 98, 13, 10] 65).toArray⟩
def B46 : ByteArray := ⟨(Lib.repeatL [98] 2046).toArray⟩
def B45 : ByteArray := ⟨(Lib.repeatL [98] 2045).toArray⟩
def C46 : ByteArray := (⟨#[65, 58]⟩ ++ B46) ++ ⟨#[13, 10]⟩
def C45 : ByteArray := (⟨#[65, 58]⟩ ++ B45) ++ ⟨#[13, 10]⟩
theorem m64 (w : World) : Calls Tryd.prog 36 #[.string ⟨#[65, 58, 32, 98, 13, 10]⟩, .int .i64 64] w fun e w' => e = .returned (.string M64) ∧ Below w.heap.size w w' := Tryd.strings_Repeat ⟨#[65, 58, 32, 98, 13, 10]⟩ 64 w (by decide) (by decide)
theorem m65 (w : World) : Calls Tryd.prog 36 #[.string ⟨#[65, 58, 32, 98, 13, 10]⟩, .int .i64 65] w fun e w' => e = .returned (.string M65) ∧ Below w.heap.size w w' := Tryd.strings_Repeat ⟨#[65, 58, 32, 98, 13, 10]⟩ 65 w (by decide) (by decide)
theorem b46 (w : World) : Calls Tryd.prog 36 #[.string ⟨#[98]⟩, .int .i64 2046] w fun e w' => e = .returned (.string B46) ∧ Below w.heap.size w w' := Tryd.strings_Repeat ⟨#[98]⟩ 2046 w (by decide) (by decide)
theorem b45 (w : World) : Calls Tryd.prog 36 #[.string ⟨#[98]⟩, .int .i64 2045] w fun e w' => e = .returned (.string B45) ∧ Below w.heap.size w w' := Tryd.strings_Repeat ⟨#[98]⟩ 2045 w (by decide) (by decide)
theorem s64 : M64.size ≤ 1000000 := of_decide_eq_true (by kernel_rfl)
theorem s65 : M65.size ≤ 1000000 := of_decide_eq_true (by kernel_rfl)
theorem s46 : C46.size ≤ 1000000 := of_decide_eq_true (by kernel_rfl)
theorem s45 : C45.size ≤ 1000000 := of_decide_eq_true (by kernel_rfl)
theorem sb46 : B46.size = 2046 := by kernel_rfl
theorem sb45 : B45.size = 2045 := by kernel_rfl
theorem q64a : (parseL M64.data.toList).1.length = 64 := by kernel_rfl
theorem q64b : (parseL M64.data.toList).2 = 0 := by kernel_rfl
theorem q65 : failsL M65.data.toList 3 = true := by kernel_rfl
theorem q46 : failsL C46.data.toList 3 = true := by kernel_rfl
theorem q45 : readsL C45.data.toList [[65], B45.data.toList] = true := by kernel_rfl
theorem p64 (w : World) (hM : MaxL w) : Calls Tryd.prog 12 #[.string M64] w fun e w' => ∃ a c, e = .returned (.tuple #[.slice a 64 c, .int .i64 0]) ∧ Below w.heap.size w w' := by
  have k := parse4_any M64 w hM s64
  have h1 := q64a; have h2 := q64b
  generalize M64 = M at *
  generalize parseL M.data.toList = r at *
  obtain ⟨fs, er⟩ := r
  simp only at h1 h2
  subst h2
  refine k.mono ?_
  rintro e w' ⟨a, c, rfl, _, hb⟩
  exact ⟨a, c, by simp only [h1], hb⟩
theorem f65 (w : World) (hM : MaxL w) : Calls Tryd.prog 35 #[.string M65, .int .i64 3] w fun e w' => e = .returned (.bool true) ∧ Below w.heap.size w w' := by
  have k := fails_any M65 3 w hM s65
  rw [q65] at k
  exact k
theorem f46 (w : World) (hM : MaxL w) : Calls Tryd.prog 35 #[.string C46, .int .i64 3] w fun e w' => e = .returned (.bool true) ∧ Below w.heap.size w w' := by
  have k := fails_any C46 3 w hM s46
  rw [q46] at k
  exact k
theorem r45 (w : World) (hM : MaxL w) : Calls Tryd.prog 34 #[.string C45, .slice (some ⟨w.heap.size, 0, none⟩) 2 2] (w.alloc (.cells #[.string ⟨#[65]⟩, .string B45] 9)) fun e w' => e = .returned (.bool true) ∧ Below w.heap.size w w' := by
  have hal := (Below.refl w.heap.size w).alloc (Nat.le_refl _) (.cells #[.string ⟨#[65]⟩, .string B45] 9)
  have hnew : Rd (some ⟨w.heap.size, 0, none⟩) 2 1 (strsV [[65], B45.data.toList]) (w.alloc (.cells #[.string ⟨#[65]⟩, .string B45] 9)) := by
    have := Rd.newS w [[65], B45.data.toList] 9
    have e : (strsV [[65], B45.data.toList]).toArray = #[.string ⟨#[65]⟩, .string B45] := by
      unfold strsV; simp only [List.map_cons, List.map_nil, str_of]
    rw [e] at this
    exact this
  have k := reads_any C45 (some ⟨w.heap.size, 0, none⟩) 2 2 [[65], B45.data.toList] (w.alloc (.cells #[.string ⟨#[65]⟩, .string B45] 9)) (hM.below hal) s45 hnew (by decide)
  rw [q45] at k
  refine k.mono ?_
  rintro e w' ⟨rfl, hb⟩
  exact ⟨rfl, hal.trans (hb.mono (by simp))⟩

/-! What is told of the chapter's fields. -/
theorem v1 (a : Option Addr) (c : Nat) (w : World) (h : Rd a 3 2 (fldsV someL) w) : Calls Tryd.prog 24 #[.slice a 3 c, .string ⟨#[65]⟩] w (TextsPost w [[98], [99]]) := by
  have k := values_any a 3 c someL ⟨#[65]⟩ w h (by decide) (by decide) (by decide)
  rw [show valuesL someL ((⟨#[65]⟩ : ByteArray).data.toList) = [[98], [99]] from by kernel_rfl] at k
  exact k
theorem t1 (a : Option Addr) (c : Nat) (w : World) (h : Rd a 2 1 (strsV [[98], [99]]) w) : Calls Tryd.prog 23 #[.slice a 2 c, .slice (some ⟨w.heap.size, 0, none⟩) 2 2] (w.alloc (.cells #[.string ⟨#[98]⟩, .string ⟨#[99]⟩] 9)) fun e w' => e = .returned (.bool true) ∧ Below w.heap.size w w' :=
  (texts04_any a 2 c [[98], [99]] (some ⟨w.heap.size, 0, none⟩) 2 2 [[98], [99]] (w.alloc (.cells #[.string ⟨#[98]⟩, .string ⟨#[99]⟩] 9)) (h.below ((Below.refl w.heap.size w).alloc (Nat.le_refl _) _)) (Rd.newS w [[98], [99]] 9) (by decide) (by decide)).mono (by rintro e w' ⟨rfl, hb⟩; exact ⟨congrArg Ending.returned (by kernel_rfl), ((Below.refl w.heap.size w).alloc (Nat.le_refl _) _).trans (hb.mono (by simp))⟩)
theorem st1 (a : Option Addr) (c : Nat) (w : World) (h : Rd a 3 2 (fldsV someL) w) : Calls Tryd.prog 26 #[.slice a 3 c, .string ⟨#[97]⟩, .string ⟨#[110]⟩] w (FieldsPost w [([65], [110]), ([120], [121])]) := by
  have k := set_any a 3 c someL [97] [110] w h (by decide) (by decide) (by decide)
  rw [show setL someL [97] [110] = [([65], [110]), ([120], [121])] from by kernel_rfl] at k
  exact k
theorem st2 (a : Option Addr) (c : Nat) (w : World) (h : Rd a 3 2 (fldsV someL) w) : Calls Tryd.prog 26 #[.slice a 3 c, .string ⟨#[122]⟩, .string ⟨#[110]⟩] w (FieldsPost w [([65], [98]), ([120], [121]), ([97], [99]), ([122], [110])]) := by
  have k := set_any a 3 c someL [122] [110] w h (by decide) (by decide) (by decide)
  rw [show setL someL [122] [110] = [([65], [98]), ([120], [121]), ([97], [99]), ([122], [110])] from by kernel_rfl] at k
  exact k
theorem pt1 (a : Option Addr) (c : Nat) (w : World) (h : Rd a 2 2 (fldsV [([65], [110]), ([120], [121])]) w) : Calls Tryd.prog 18 #[.slice a 2 c] w fun e w' => e = .returned (.string ⟨#[65, 58, 32, 110, 13, 10, 120, 58, 32, 121, 13, 10]⟩) ∧ Below w.heap.size w w' :=
  (put4_any a 2 c [([65], [110]), ([120], [121])] w h (by decide) (by decide)).mono (by rintro e w' ⟨rfl, hb⟩; exact ⟨congrArg Ending.returned (by kernel_rfl), hb⟩)
theorem pt2 (a : Option Addr) (c : Nat) (w : World) (h : Rd a 4 2 (fldsV [([65], [98]), ([120], [121]), ([97], [99]), ([122], [110])]) w) : Calls Tryd.prog 18 #[.slice a 4 c] w fun e w' => e = .returned (.string ⟨#[65, 58, 32, 98, 13, 10, 120, 58, 32, 121, 13, 10, 97, 58, 32, 99, 13, 10, 122, 58, 32, 110, 13, 10]⟩) ∧ Below w.heap.size w w' :=
  (put4_any a 4 c [([65], [98]), ([120], [121]), ([97], [99]), ([122], [110])] w h (by decide) (by decide)).mono (by rintro e w' ⟨rfl, hb⟩; exact ⟨congrArg Ending.returned (by kernel_rfl), hb⟩)
theorem d1 (a : Option Addr) (c : Nat) (w : World) (h : Rd a 3 2 (fldsV someL) w) : Calls Tryd.prog 28 #[.slice a 3 c, .slice (some ⟨w.heap.size, 0, none⟩) 2 2] (w.alloc (.cells #[.string ⟨#[65]⟩, .string ⟨#[88]⟩] 9)) fun e w' => ∃ a c, e = .returned (.slice a 0 c) ∧ Below w.heap.size w w' := by
  have hal := (Below.refl w.heap.size w).alloc (Nat.le_refl _) (.cells #[.string ⟨#[65]⟩, .string ⟨#[88]⟩] 9)
  have k := del_any a 3 c someL (some ⟨w.heap.size, 0, none⟩) 2 2 [[65], [88]] (w.alloc (.cells #[.string ⟨#[65]⟩, .string ⟨#[88]⟩] 9)) (h.below hal) (by decide) (by decide) (Rd.newS w [[65], [88]] 9) (by decide) (by decide)
  rw [show delL someL [[65], [88]] = [] from by kernel_rfl] at k
  refine k.mono ?_
  rintro e w' ⟨a, c, rfl, _, hb⟩
  exact ⟨a, c, rfl, hal.trans (hb.mono (by simp))⟩
theorem g1 (a : Option Addr) (c : Nat) (w : World) (h : Rd a 3 2 (fldsV someL) w) : Calls Tryd.prog 21 #[.slice a 3 c, .string ⟨#[122]⟩] w fun e w' => e = .returned (.tuple #[.string ⟨#[]⟩, .bool false]) ∧ Below w.heap.size w w' :=
  (get_any a 3 c someL ⟨#[122]⟩ w h (by decide) (by decide) (by decide)).mono (by rintro e w' ⟨rfl, hb⟩; exact ⟨congrArg Ending.returned (by kernel_rfl), hb⟩)
def hopsF : List Fld := [([67, 111, 110, 110, 101, 99, 116, 105, 111, 110], [67, 108, 111, 115, 101, 44, 32, 88, 45, 65, 44, 32, 34, 98, 34, 44, 32, 116, 101, 44, 32, 40, 99, 41]), ([120, 45, 97], [49]), ([89], [50])]
theorem Rd.newF (w : World) (fs : List Fld) (T : TypeId) : Rd (some ⟨w.heap.size, 0, none⟩) fs.length 2 (fldsV fs) (w.alloc (.cells (fldsV fs).toArray T)) := by
  refine ⟨fldsV_len fs, fun _ => ⟨w.heap.size, 0, rfl, by simp, fun j u hu => ?_⟩⟩
  rw [Nat.zero_add, World.cell?_alloc_mark]
  simpa using hu
theorem h1 (w : World) : Calls Tryd.prog 30 #[.slice (some ⟨w.heap.size, 0, none⟩) 3 3] (w.alloc (.cells #[.string ⟨#[67, 111, 110, 110, 101, 99, 116, 105, 111, 110]⟩, .string ⟨#[67, 108, 111, 115, 101, 44, 32, 88, 45, 65, 44, 32, 34, 98, 34, 44, 32, 116, 101, 44, 32, 40, 99, 41]⟩, .string ⟨#[120, 45, 97]⟩, .string ⟨#[49]⟩, .string ⟨#[89]⟩, .string ⟨#[50]⟩] 37)) fun e w' => ∃ g c, e = .returned (.slice (some ⟨g, 0, none⟩) 11 c) ∧ w'.cell? ⟨g, 0, none⟩ = some (.string ⟨#[99, 111, 110, 110, 101, 99, 116, 105, 111, 110]⟩) ∧ w'.cell? ⟨g, 8, none⟩ = some (.string ⟨#[112, 114, 111, 120, 121, 45, 97, 117, 116, 104, 111, 114, 105, 122, 97, 116, 105, 111, 110]⟩) ∧ w'.cell? ⟨g, 9, none⟩ = some (.string ⟨#[99, 108, 111, 115, 101]⟩) ∧ w'.cell? ⟨g, 10, none⟩ = some (.string ⟨#[120, 45, 97]⟩) ∧ Rd (some ⟨w.heap.size, 0, none⟩) 3 2 (fldsV hopsF) w' ∧ Below w.heap.size w w' := by
  have hal := (Below.refl w.heap.size w).alloc (Nat.le_refl _) (.cells #[.string ⟨#[67, 111, 110, 110, 101, 99, 116, 105, 111, 110]⟩, .string ⟨#[67, 108, 111, 115, 101, 44, 32, 88, 45, 65, 44, 32, 34, 98, 34, 44, 32, 116, 101, 44, 32, 40, 99, 41]⟩, .string ⟨#[120, 45, 97]⟩, .string ⟨#[49]⟩, .string ⟨#[89]⟩, .string ⟨#[50]⟩] 37)
  have hrd : Rd (some ⟨w.heap.size, 0, none⟩) 3 2 (fldsV hopsF) (w.alloc (.cells #[.string ⟨#[67, 111, 110, 110, 101, 99, 116, 105, 111, 110]⟩, .string ⟨#[67, 108, 111, 115, 101, 44, 32, 88, 45, 65, 44, 32, 34, 98, 34, 44, 32, 116, 101, 44, 32, 40, 99, 41]⟩, .string ⟨#[120, 45, 97]⟩, .string ⟨#[49]⟩, .string ⟨#[89]⟩, .string ⟨#[50]⟩] 37)) := Rd.newF w hopsF 37
  have k := hop_any (some ⟨w.heap.size, 0, none⟩) 3 3 hopsF (w.alloc (.cells #[.string ⟨#[67, 111, 110, 110, 101, 99, 116, 105, 111, 110]⟩, .string ⟨#[67, 108, 111, 115, 101, 44, 32, 88, 45, 65, 44, 32, 34, 98, 34, 44, 32, 116, 101, 44, 32, 40, 99, 41]⟩, .string ⟨#[120, 45, 97]⟩, .string ⟨#[49]⟩, .string ⟨#[89]⟩, .string ⟨#[50]⟩] 37)) hrd (by decide) (by decide)
  rw [show hopL hopsF = [[99, 111, 110, 110, 101, 99, 116, 105, 111, 110], [107, 101, 101, 112, 45, 97, 108, 105, 118, 101], [112, 114, 111, 120, 121, 45, 99, 111, 110, 110, 101, 99, 116, 105, 111, 110], [116, 101], [116, 114, 97, 105, 108, 101, 114], [116, 114, 97, 110, 115, 102, 101, 114, 45, 101, 110, 99, 111, 100, 105, 110, 103], [117, 112, 103, 114, 97, 100, 101], [112, 114, 111, 120, 121, 45, 97, 117, 116, 104, 101, 110, 116, 105, 99, 97, 116, 101], [112, 114, 111, 120, 121, 45, 97, 117, 116, 104, 111, 114, 105, 122, 97, 116, 105, 111, 110], [99, 108, 111, 115, 101], [120, 45, 97]] from by kernel_rfl] at k
  refine k.mono ?_
  rintro e w' ⟨a, c, rfl, ho, hb⟩
  obtain ⟨g, rfl, c0, _⟩ := ho.cell 0 (by decide)
  obtain ⟨g8, e8, c8, _⟩ := ho.cell 8 (by decide)
  obtain ⟨g9, e9, c9, _⟩ := ho.cell 9 (by decide)
  obtain ⟨g10, e10, c10, _⟩ := ho.cell 10 (by decide)
  cases e8; cases e9; cases e10
  exact ⟨g, c, rfl, c0, c8, c9, c10, hrd.below hb, hal.trans (hb.mono (by simp))⟩
theorem cl1 (a : Option Addr) (c : Nat) (w : World) (h : Rd a 3 2 (fldsV hopsF) w) : Calls Tryd.prog 32 #[.slice a 3 c] w (FieldsPost w [([89], [50])]) := by
  have k := clean_any a 3 c hopsF w h (by decide) (by decide)
  rw [show cleanL hopsF = [([89], [50])] from by kernel_rfl] at k
  exact k
theorem pt3 (a : Option Addr) (c : Nat) (w : World) (h : Rd a 1 2 (fldsV [([89], [50])]) w) : Calls Tryd.prog 18 #[.slice a 1 c] w fun e w' => e = .returned (.string ⟨#[89, 58, 32, 50, 13, 10]⟩) ∧ Below w.heap.size w w' :=
  (put4_any a 1 c [([89], [50])] w h (by decide) (by decide)).mono (by rintro e w' ⟨rfl, hb⟩; exact ⟨congrArg Ending.returned (by kernel_rfl), hb⟩)
theorem ck1 (w : World) : Calls Tryd.prog 16 #[.slice (some ⟨w.heap.size, 0, none⟩) 1 1] (w.alloc (.cells #[.string ⟨#[65]⟩, .string ⟨#[32, 98]⟩] 37)) fun e w' => e = .returned (.int .i64 4) ∧ Below w.heap.size w w' :=
  (check4_any (some ⟨w.heap.size, 0, none⟩) 1 1 [([65], [32, 98])] (w.alloc (.cells #[.string ⟨#[65]⟩, .string ⟨#[32, 98]⟩] 37)) (Rd.newF w [([65], [32, 98])] 37) (by decide) (by decide)).mono (by rintro e w' ⟨rfl, hb⟩; exact ⟨congrArg Ending.returned (by kernel_rfl), ((Below.refl w.heap.size w).alloc (Nat.le_refl _) _).trans (hb.mono (by simp))⟩)
theorem pt4 (w : World) : Calls Tryd.prog 18 #[.slice (some ⟨w.heap.size, 0, none⟩) 1 1] (w.alloc (.cells #[.string ⟨#[]⟩, .string ⟨#[]⟩] 37)) fun e w' => e = .returned (.string ⟨#[]⟩) ∧ Below w.heap.size w w' :=
  (put4_any (some ⟨w.heap.size, 0, none⟩) 1 1 [([], [])] (w.alloc (.cells #[.string ⟨#[]⟩, .string ⟨#[]⟩] 37)) (Rd.newF w [([], [])] 37) (by decide) (by decide)).mono (by rintro e w' ⟨rfl, hb⟩; exact ⟨congrArg Ending.returned (by kernel_rfl), ((Below.refl w.heap.size w).alloc (Nat.le_refl _) _).trans (hb.mono (by simp))⟩)

set_option maxHeartbeats 16000000 in
theorem fieldsKnown_any (w : World) (hM : MaxL w) :
    Calls Tryd.prog 10 #[] w fun e w' => e = .returned (.bool true) ∧ Below w.heap.size w w' := by
  have e64 := m64; have e65 := m65; have e46 := b46; have e45 := b45; have ep := p64; have ef := f65; have eg := f46; have er := r45
  have z46 := sb46; have z45 := sb45
  unfold C46 at eg
  unfold C45 at er
  generalize M64 = M6 at *
  generalize M65 = M7 at *
  generalize B46 = B6 at *
  generalize B45 = B7 at *
  have E64 := Lib.hid e64; have E65 := Lib.hid e65; have E46 := Lib.hid e46; have E45 := Lib.hid e45; have EP := Lib.hid ep; have EF := Lib.hid ef; have EG := Lib.hid eg; have ER := Lib.hid er
  clear e64 e65 e46 e45 ep ef eg er
  have hB0 := Below.refl w.heap.size w
  go_enter Tryd.func10, Tryd.ntmps10
  go_wp2_with fail
  refine (works4_any _ (hM.below hB0)).mono ?_
  rintro e w1 ⟨rfl, hb1⟩
  have hB1 := bt hB0 hb1
  clear hb1 hB0
  go_wp2_with fail
  refine (kn0 _ (hM.below hB1)).mono ?_
  rintro e w2 ⟨rfl, hb2⟩
  have hB2 := bt hB1 hb2
  clear hb2 hB1
  go_wp2_with fail
  refine (kn1 _ (hM.below hB2)).mono ?_
  rintro e w3 ⟨rfl, hb3⟩
  have hB3 := bt hB2 hb3
  clear hb3 hB2
  go_wp2_with fail
  refine (kn2 _ (hM.below hB3)).mono ?_
  rintro e w4 ⟨rfl, hb4⟩
  have hB4 := bt hB3 hb4
  clear hb4 hB3
  go_wp2_with fail
  refine (kn3 _ (hM.below hB4)).mono ?_
  rintro e w5 ⟨rfl, hb5⟩
  have hB5 := bt hB4 hb5
  clear hb5 hB4
  go_wp2_with fail
  refine (kn4 _ (hM.below hB5)).mono ?_
  rintro e w6 ⟨rfl, hb6⟩
  have hB6 := bt hB5 hb6
  clear hb6 hB5
  go_wp2_with fail
  refine (kn5 _ (hM.below hB6)).mono ?_
  rintro e w7 ⟨rfl, hb7⟩
  have hB7 := bt hB6 hb7
  clear hb7 hB6
  go_wp2_with fail
  refine (kn6 _ (hM.below hB7)).mono ?_
  rintro e w8 ⟨rfl, hb8⟩
  have hB8 := bt hB7 hb8
  clear hb8 hB7
  go_wp2_with fail
  refine (kn7 _ (hM.below hB8)).mono ?_
  rintro e w9 ⟨rfl, hb9⟩
  have hB9 := bt hB8 hb9
  clear hb9 hB8
  go_wp2_with fail
  refine (E64.out _).mono ?_
  rintro e w10 ⟨rfl, hb10⟩
  have hB10 := bt hB9 hb10
  clear hb10 hB9
  go_wp2_with fail
  refine (EP.out _ (hM.below hB10)).mono ?_
  rintro e w11 ⟨ap, cp, rfl, hb11⟩
  have hB11 := bt hB10 hb11
  clear hb11 hB10
  go_wp2_with fail
  refine (E65.out _).mono ?_
  rintro e w12 ⟨rfl, hb12⟩
  have hB12 := bt hB11 hb12
  clear hb12 hB11
  go_wp2_with fail
  refine (EF.out _ (hM.below hB12)).mono ?_
  rintro e w13 ⟨rfl, hb13⟩
  have hB13 := bt hB12 hb13
  clear hb13 hB12
  go_wp2_with fail
  refine (E46.out _).mono ?_
  rintro e w14 ⟨rfl, hb14⟩
  have hB14 := bt hB13 hb14
  clear hb14 hB13
  go_wp2_with fail
  refine (EG.out _ (hM.below hB14)).mono ?_
  rintro e w15 ⟨rfl, hb15⟩
  have hB15 := bt hB14 hb15
  clear hb15 hB14
  go_wp2_with fail
  refine (E45.out _).mono ?_
  rintro e w16 ⟨rfl, hb16⟩
  have hB16 := bt hB15 hb16
  clear hb16 hB15
  go_wp2_with fail
  refine (E45.out _).mono ?_
  rintro e w17 ⟨rfl, hb17⟩
  have hB17 := bt hB16 hb17
  clear hb17 hB16
  go_wp2_with fail
  refine (ER.out _ (hM.below hB17)).mono ?_
  rintro e w18 ⟨rfl, hb18⟩
  have hB18 := bt hB17 hb18
  clear hb18 hB17
  go_wp2_with fail
  refine (some_any _).mono ?_
  rintro e w19 ⟨sa, cs, rfl, hos, hb19⟩
  have hB19 := bt hB18 hb19
  clear hb19 hB18
  go_wp2_with fail
  refine (v1 _ _ _ hos.rd.2).mono ?_
  rintro e w20 ⟨av, cv, rfl, hov, hb20⟩
  have hB20 := bt hB19 hb20
  clear hos
  clear hb20 hB19
  go_wp2_with fail
  refine (t1 _ _ _ hov.rd.2).mono ?_
  rintro e w21 ⟨rfl, hb21⟩
  have hB21 := bt hB20 hb21
  clear hov
  clear hb21 hB20
  go_wp2_with fail
  refine (some_any _).mono ?_
  rintro e w22 ⟨sa, cs, rfl, hos, hb22⟩
  have hB22 := bt hB21 hb22
  clear hb22 hB21
  go_wp2_with fail
  refine (st1 _ _ _ hos.rd.2).mono ?_
  rintro e w23 ⟨av, cv, rfl, hov, hb23⟩
  have hB23 := bt hB22 hb23
  clear hos
  clear hb23 hB22
  go_wp2_with fail
  refine (pt1 _ _ _ hov.rd.2).mono ?_
  rintro e w24 ⟨rfl, hb24⟩
  have hB24 := bt hB23 hb24
  clear hov
  clear hb24 hB23
  go_wp2_with fail
  refine (some_any _).mono ?_
  rintro e w25 ⟨sa, cs, rfl, hos, hb25⟩
  have hB25 := bt hB24 hb25
  clear hb25 hB24
  go_wp2_with fail
  refine (st2 _ _ _ hos.rd.2).mono ?_
  rintro e w26 ⟨av, cv, rfl, hov, hb26⟩
  have hB26 := bt hB25 hb26
  clear hos
  clear hb26 hB25
  go_wp2_with fail
  refine (pt2 _ _ _ hov.rd.2).mono ?_
  rintro e w27 ⟨rfl, hb27⟩
  have hB27 := bt hB26 hb27
  clear hov
  clear hb27 hB26
  go_wp2_with fail
  refine (some_any _).mono ?_
  rintro e w28 ⟨sa, cs, rfl, hos, hb28⟩
  have hB28 := bt hB27 hb28
  clear hb28 hB27
  go_wp2_with fail
  refine (d1 _ _ _ hos.rd.2).mono ?_
  rintro e w29 ⟨av, cv, rfl, hb29⟩
  have hB29 := bt hB28 hb29
  clear hos
  clear hb29 hB28
  go_wp2_with fail
  refine (some_any _).mono ?_
  rintro e w30 ⟨sa, cs, rfl, hos, hb30⟩
  have hB30 := bt hB29 hb30
  clear hb30 hB29
  go_wp2_with fail
  refine (g1 _ _ _ hos.rd.2).mono ?_
  rintro e w31 ⟨rfl, hb31⟩
  have hB31 := bt hB30 hb31
  clear hos
  clear hb31 hB30
  go_wp2_with fail
  refine (h1 _).mono ?_
  rintro e w32 ⟨gh, ch, rfl, x0, x8, x9, x10, hrd, hb32⟩
  have hB32 := bt hB31 hb32
  clear hb32 hB31
  go_wp2_with fail
  refine (cl1 _ _ _ hrd).mono ?_
  rintro e w33 ⟨av, cv, rfl, hov, hb33⟩
  have hB33 := bt hB32 hb33
  clear hrd x0 x8 x9 x10
  clear hb33 hB32
  go_wp2_with fail
  refine (pt3 _ _ _ hov.rd.2).mono ?_
  rintro e w34 ⟨rfl, hb34⟩
  have hB34 := bt hB33 hb34
  clear hov
  clear hb34 hB33
  go_wp2_with fail
  refine (ck1 _).mono ?_
  rintro e w35 ⟨rfl, hb35⟩
  have hB35 := bt hB34 hb35
  clear hb35 hB34
  go_wp2_with fail
  refine (pt4 _).mono ?_
  rintro e w36 ⟨rfl, hb36⟩
  have hB36 := bt hB35 hb36
  clear hb36 hB35
  go_wp2_with fail
  refine (works4_any _ (hM.below hB36)).mono ?_
  rintro e w37 ⟨rfl, hb37⟩
  have hB37 := bt hB36 hb37
  clear hb37 hB36
  go_wp2
  go_ret
  exact ⟨rfl, hB37⟩
theorem fieldsKnown_law (w : World) (h : ∃ m, w.cell? ⟨0, 0, none⟩ = some (.int .i64 m)) : Calls Tryd.prog 10 #[] w fun e w' => e = .returned (.bool true) ∧ Below w.heap.size w w' := fieldsKnown_any w (MaxL.of h)
end Go.Proofs.YthppcaoldobocaaDoor
