/- What a client with one field asks, of the law's reply; the law's small questions. -/
import Derived.Test.YthnfmhjjpodhfaaDoorEtagNot
import Derived.Test.YthnfmhjjpodhfaaDoorDatePut
import Derived.Test.YthnfmhjjpodhfaaDoorFldNew
namespace Go.Proofs.YthnfmhjjpodhfaaDoor
open Go.RowKit
set_option maxRecDepth 100000

theorem reads14_any (s : ByteArray) (wk : Bool) (t : ByteArray) (w : World) (hs : s.size ≤ 8000) (h : (ent s).parse = .tuple #[.bool wk, .string t, .int .i64 0]) :
    Calls Tryd.prog 15 #[.string s, .bool wk, .string t] w fun e w' => e = .returned (.bool true) ∧ Below w.heap.size w w' := by
  have k1 := parse_any s w hs
  rw [h] at k1
  have K1 := Lib.hid k1; clear k1 h
  cases wk
  all_goals
    go_enter Tryd.func15, Tryd.ntmps15
    go_wp2_with fail
    (with_reducible refine K1.out.mono ?_)
    rintro e w1 ⟨rfl, hb1⟩
    go_wp2
    go_ret
    exact ⟨rfl, hb1⟩
theorem no14_any (s : ByteArray) (w : World) (hs : s.size ≤ 8000) (h : (ent s).parse = .tuple #[.bool false, .string ⟨#[]⟩, .int .i64 4]) :
    Calls Tryd.prog 16 #[.string s] w fun e w' => e = .returned (.bool true) ∧ Below w.heap.size w w' := by
  have k1 := parse_any s w hs
  rw [h] at k1
  have K1 := Lib.hid k1; clear k1 h
  go_enter Tryd.func16, Tryd.ntmps16
  go_wp2_with fail
  (with_reducible refine K1.out.mono ?_)
  rintro e w1 ⟨rfl, hb1⟩
  go_wp2
  go_ret
  exact ⟨rfl, hb1⟩

/-- The law's reply. -/
def repF : List Fld := [([69, 84, 97, 103], [34, 97, 34]), ([76, 97, 115, 116, 45, 77, 111, 100, 105, 102, 105, 101, 100], dputL 1000)]
set_option maxHeartbeats 8000000 in
theorem asks14_any (name value : ByteArray) (r : Bool) (w : World) (hE : DEnv w) (hn : name.size ≤ 1000) (hv : value.size ≤ 1000) (h : notModL [(name.data.toList, value.data.toList)] repF 5000 = r) :
    Calls Tryd.prog 17 #[.string name, .string value] w fun e w' => e = .returned (.bool r) ∧ Below w.heap.size w w' := by
  have hrs : sumF repF ≤ 7000 := by decide +kernel
  have k2 := fun (W : World) (hb : Below w.heap.size w W) A B c d hr hq => notMod_any A B 1 c 2 d 200 0 ⟨#[]⟩ ⟨#[]⟩ [(name.data.toList, value.data.toList)] repF 5000 W (hE.below hb) hr hq (by omega) (by omega) (by unfold sumF; simp; omega) hrs
  rw [h] at k2
  unfold repF at k2
  have k1 := dput_any 1000 w hE
  generalize dputL 1000 = dt at *
  have K1 := Lib.hid k1; have K2 := Lib.hid k2; clear k1 k2 h hrs hE hn hv
  go_enter Tryd.func17, Tryd.ntmps17
  go_wp2_with fail
  (with_reducible refine K1.out.mono ?_)
  rintro e w1 ⟨rfl, hb1⟩
  have q1 := Rd.newFs w1 [([69, 84, 97, 103], [34, 97, 34]), ([76, 97, 115, 116, 45, 77, 111, 100, 105, 102, 105, 101, 100], dt)] 38
  have a1 := (Below.refl w1.heap.size w1).alloc (Nat.le_refl _) (.cells (fldsV [([69, 84, 97, 103], [34, 97, 34]), ([76, 97, 115, 116, 45, 77, 111, 100, 105, 102, 105, 101, 100], dt)]).toArray 38)
  obtain ⟨X1, hX1⟩ : ∃ X, w1.alloc (.cells (fldsV [([69, 84, 97, 103], [34, 97, 34]), ([76, 97, 115, 116, 45, 77, 111, 100, 105, 102, 105, 101, 100], dt)]).toArray 38) = X := ⟨_, rfl⟩
  have s1 : X1.heap.size = w1.heap.size + 1 := by rw [← hX1]; simp
  rw [hX1] at q1 a1
  have a2 := (Below.refl X1.heap.size X1).alloc (Nat.le_refl _) (.cells #[.int .i64 200, .string ⟨#[]⟩, .int .i64 0, .slice (some ⟨w1.heap.size, 0, none⟩) 2 2, .string ⟨#[]⟩] 42)
  obtain ⟨X2, hX2⟩ : ∃ X, X1.alloc (.cells #[.int .i64 200, .string ⟨#[]⟩, .int .i64 0, .slice (some ⟨w1.heap.size, 0, none⟩) 2 2, .string ⟨#[]⟩] 42) = X := ⟨_, rfl⟩
  have s2 : X2.heap.size = w1.heap.size + 1 + 1 := by rw [← hX2]; simp [s1]
  rw [hX2] at a2
  have q3 := Rd.newFs X2 [(name.data.toList, value.data.toList)] 38
  have a3 := (Below.refl X2.heap.size X2).alloc (Nat.le_refl _) (.cells (fldsV [(name.data.toList, value.data.toList)]).toArray 38)
  have hb3 := a1.trans ((a2.trans (a3.mono a2.size)).mono (by omega))
  have k4 := K2.out _ (bt hb1 hb3) _ _ 1 2 q3 ((q1.below a2).below a3)
  rw [s2, ← hX2, ← hX1] at k4
  rw [← hX2, ← hX1] at hb3
  have f1 : (fldsV [(name.data.toList, value.data.toList)]).toArray = #[.string name, .string value] := rfl
  have f2 : (fldsV [([69, 84, 97, 103], [34, 97, 34]), ([76, 97, 115, 116, 45, 77, 111, 100, 105, 102, 105, 101, 100], dt)]).toArray = #[.string ⟨#[69, 84, 97, 103]⟩, .string ⟨#[34, 97, 34]⟩, .string ⟨#[76, 97, 115, 116, 45, 77, 111, 100, 105, 102, 105, 101, 100]⟩, .string ⟨dt.toArray⟩] := rfl
  rw [f1, f2] at k4 hb3
  have K4 := Lib.hid (And.intro k4 hb3)
  clear f1 f2 k4 hb3 a3 q3 a2 s2 hX2 hX1 s1 a1 q1 K1 K2
  go_wp2_with fail
  (with_reducible refine K4.out.1.mono ?_)
  rintro e w2 ⟨rfl, hb2⟩
  go_wp2
  go_ret
  exact ⟨rfl, bt (bt hb1 K4.out.2) hb2⟩
end Go.Proofs.YthnfmhjjpodhfaaDoor
