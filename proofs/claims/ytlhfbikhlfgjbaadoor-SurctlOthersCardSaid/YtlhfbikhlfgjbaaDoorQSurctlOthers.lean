/- Joined out of the texts OthersSpec, SurOthers (wip/tools/merge.py). -/
import Derived.Test.YtlhfbikhlfgjbaaDoorPa2
import Derived.Deep.RegionHeld3
/- What is for another device changes nothing: the plain law. -/
namespace Go.Proofs.YtlhfbikhlfgjbaaDoor

theorem any_sub {l : List Dir} {p q : Dir → Bool} (h : l.any p = false) : (l.filter q).any p = false := by
  rw [List.any_eq_false] at *
  intro x hx
  exact h x (List.mem_filter.1 hx).1
theorem mine_mine (l : List Dir) (dev : List UInt8) : mineL (mineL l dev) dev = mineL l dev := by
  show (mineL l dev).filter (mineB (mineL l dev) dev) = mineL l dev
  rw [List.filter_eq_self]
  intro d hd
  have h := (List.mem_filter.1 hd).2
  unfold mineB at *
  cases ho : ownB dev d
  · rw [ho, Bool.false_or, Bool.and_eq_true] at h
    rw [Bool.false_or, Bool.and_eq_true]
    refine ⟨h.1, ?_⟩
    have h2 : (l.any fun x => ownB dev x && x.name == d.name) = false := by simpa using h.2
    have h3 := any_sub (q := mineB l dev) h2
    show (!(mineL l dev).any fun x => ownB dev x && x.name == d.name) = true
    unfold mineL
    rw [h3]; rfl
  · rfl
theorem mine_other {A : List Dir} (l : List Dir) {dev : List UInt8} (h : ∀ d ∈ A, ownB dev d = false ∧ d.for_.isEmpty = false) : mineL (A ++ l) dev = mineL l dev := by
  have hany : ∀ d : Dir, (A.any fun x => ownB dev x && x.name == d.name) = false := by
    intro d
    rw [List.any_eq_false]
    intro x hx
    rw [(h x hx).1]; simp
  have hm : ∀ d, mineB (A ++ l) dev d = mineB l dev d := by
    intro d
    unfold mineB
    rw [List.any_append, hany d, Bool.false_or]
  unfold mineL
  rw [List.filter_append, List.filter_eq_nil_iff.2 (fun d hd => by
    unfold mineB
    rw [(h d hd).1, (h d hd).2]; simp), List.nil_append]
  exact List.filter_congr (fun d _ => hm d)
theorem firstV_mem {l : List Dir} {nm : List UInt8} {d : Dir} (h : d ∈ l) (hn : d.name = nm) : (firstV l nm).isSome = true := by
  unfold firstV
  rw [Option.isSome_map, List.find?_isSome]
  exact ⟨d, h, by simp [hn]⟩
/-- A value that can't be read forbids keeping. -/
theorem torn_never (vs : List (List UInt8)) (t dev : List UInt8) (ht : ((splitL 44 t).2 == 0) = false) : (ofL (vs ++ [t]) dev).noStore = true := by
  have hs : slistL (vs ++ [t]) = slistL vs ++ [neverD] := by
    unfold slistL
    rw [List.flatMap_append, List.flatMap_cons, List.flatMap_nil, List.append_nil, ht]; rfl
  show (firstV (mineL (slistL (vs ++ [t])) dev) noStore).isSome = true
  rw [hs]
  generalize slistL vs = l
  cases hq : (l ++ [neverD]).any fun x => ownB dev x && x.name == noStore
  · refine firstV_mem (d := neverD) ?_ rfl
    unfold mineL
    rw [List.mem_filter]
    refine ⟨by simp, ?_⟩
    unfold mineB
    have : (neverD).name = noStore := rfl
    rw [this, hq]
    show (ownB dev neverD || (true && true)) = true
    simp
  · rw [List.any_eq_true] at hq
    obtain ⟨x, hx, h⟩ := hq
    rw [Bool.and_eq_true] at h
    refine firstV_mem (d := x) ?_ (beq_iff_eq.1 h.2)
    unfold mineL
    rw [List.mem_filter]
    exact ⟨hx, by unfold mineB; rw [h.1]; rfl⟩
/-- One of its own forbids it. -/
theorem own_never {vs : List (List UInt8)} {dev : List UInt8} {d : Dir} (h : d ∈ mineL (slistL vs) dev) (hn : d.name = noStore) : (ofL vs dev).noStore = true := firstV_mem h hn

theorem spl_runs (sep : UInt8) : ∀ (p : List UInt8) (o b o' b' : Bool) (cur : List UInt8) (ls : List (List UInt8)) (rest : List UInt8), runQ sep (o, b) p = some (o', b') → splP sep o b cur ls (p ++ rest) = splP sep o' b' (cur ++ p) ls rest
  | [], o, b, o', b', cur, ls, rest, h => by
    rw [runQ] at h
    injection h with h
    obtain ⟨rfl, rfl⟩ := Prod.mk.inj h
    rw [List.nil_append, List.append_nil]
  | x :: r, o, b, o', b', cur, ls, rest, h => by
    have ih := spl_runs sep r
    have e : cur ++ x :: r = (cur ++ [x]) ++ r := by simp
    rw [runQ] at h
    rw [List.cons_append, splP, e]
    cases b
    · cases h92 : (o && x.toNat == 92)
      · cases h34 : (x.toNat == 34)
        · cases hs : (x.toNat == sep.toNat && !o)
          · have hst : stepQ sep (o, false) x = some (o, false) := by unfold stepQ; simp only [cond_false, h92, h34, hs]
            rw [hst] at h
            simp only [cond_false]
            exact ih _ _ _ _ _ _ _ h
          · have hst : stepQ sep (o, false) x = none := by unfold stepQ; simp only [cond_false, h92, h34, hs, cond_true]
            rw [hst] at h; cases h
        · have hst : stepQ sep (o, false) x = some (!o, false) := by unfold stepQ; simp only [cond_false, h92, h34, cond_true]
          rw [hst] at h
          simp only [cond_false, cond_true]
          exact ih _ _ _ _ _ _ _ h
      · have hst : stepQ sep (o, false) x = some (o, true) := by unfold stepQ; simp only [cond_false, h92, cond_true]
        rw [hst] at h
        simp only [cond_false, cond_true]
        exact ih _ _ _ _ _ _ _ h
    · have hst : stepQ sep (o, true) x = some (o, false) := by unfold stepQ; simp only [cond_true]
      rw [hst] at h
      simp only [cond_true]
      exact ih _ _ _ _ _ _ _ h
theorem spl_at {sep : UInt8} (h1 : (sep.toNat == 34) = false) (cur : List UInt8) (ls : List (List UInt8)) (rest : List UInt8) : splP sep false false cur ls (sep :: rest) = splP sep false false [] (addP ls (trimL cur)) rest := by
  rw [splP]; simp [h1]
theorem trim_ends {p g g2 : List UInt8} (h1 : ∃ x y, p = x :: y ∧ blanks.contains x = false) (h2 : ∃ x y, p.reverse = x :: y ∧ blanks.contains x = false) (hg : ∀ c ∈ g, blanks.contains c = true) (hg2 : ∀ c ∈ g2, blanks.contains c = true) : trimL ((g ++ p) ++ g2) = p := by
  obtain ⟨x, y, e1, b1⟩ := h1
  obtain ⟨x2, y2, e2, b2⟩ := h2
  unfold trimL Lib.trimS Lib.trimLeftS Lib.trimRightS
  rw [List.reverse_append, dw_app _ _ _ (fun c hc => hg2 c (by simpa using hc)), List.reverse_append, e2, List.cons_append, List.dropWhile_cons_of_neg (by simp only [b2]; decide), ← List.cons_append, ← e2, ← List.reverse_append, List.reverse_reverse,
    dw_app _ _ _ hg, e1, List.dropWhile_cons_of_neg (by simp only [b1]; decide)]
theorem run_plain (c : UInt8) : ∀ l : List UInt8, (∀ x ∈ l, (x.toNat == 34) = false ∧ (x.toNat == c.toNat) = false) → runQ c (false, false) l = some (false, false)
  | [], _ => rfl
  | x :: r, h => by
    have h1 := h x (by simp)
    have hst : stepQ c (false, false) x = some (false, false) := by unfold stepQ; simp only [cond_false, Bool.false_and, h1.1, h1.2]
    rw [runQ, hst]
    exact run_plain c r (fun y hy => h y (by simp [hy]))
theorem word_sep {c : UInt8} (h : wordb c = true) : (c.toNat == 34) = false ∧ (c.toNat == 44) = false ∧ (c.toNat == 59) = false := by
  refine ⟨(word_not h).2.1, ?_, ?_⟩
  · cases hb : (c.toNat == 44)
    · rfl
    · have : c = 44 := by rw [← UInt8.toNat_inj]; simpa using hb
      subst this; exact absurd h (by decide)
  · cases hb : (c.toNat == 59)
    · rfl
    · have : c = 59 := by rw [← UInt8.toNat_inj]; simpa using hb
      subst this; exact absurd h (by decide)
/-- A piece with a device behind it. -/
theorem piece_for {a o : List UInt8} (ho : tokenL o = true) (h44 : runQ 44 (false, false) (a ++ [59]) = some (false, false)) (h59 : runQ 59 (false, false) a = some (false, false)) (ha : ∃ x y, a = x :: y ∧ blanks.contains x = false) (hr : ∃ x y, a.reverse = x :: y ∧ blanks.contains x = false) :
    (∀ g rest ls, (∀ c ∈ g, blanks.contains c = true) → splP 44 false false [] ls (g ++ (a ++ 59 :: (o ++ 44 :: rest))) = splP 44 false false [] (ls ++ [a ++ 59 :: o]) rest ∧ splP 44 false false [] ls (g ++ (a ++ 59 :: o)) = some (ls ++ [a ++ 59 :: o])) ∧ ∀ d ∈ sayS (a ++ 59 :: o), d.for_ = o := by
  have hw := token_all ho
  have hne : ∃ x y, o = x :: y ∧ blanks.contains x = false := by
    cases o with
    | nil => exact absurd hw.2 (by decide)
    | cons x y => exact ⟨x, y, rfl, (word_not (hw.1 x (by simp))).1⟩
  have hre : ∃ x y, o.reverse = x :: y ∧ blanks.contains x = false := by
    cases hr : o.reverse with
    | nil => rw [List.reverse_eq_nil_iff] at hr; subst hr; exact absurd hw.2 (by decide)
    | cons x y => exact ⟨x, y, rfl, (word_not (hw.1 x (by rw [← List.mem_reverse, hr]; simp))).1⟩
  have hol : o.isEmpty = false := hw.2
  have ro44 := run_plain 44 o (fun x hx => ⟨(word_sep (hw.1 x hx)).1, (word_sep (hw.1 x hx)).2.1⟩)
  have ro59 := run_plain 59 o (fun x hx => ⟨(word_sep (hw.1 x hx)).1, (word_sep (hw.1 x hx)).2.2⟩)
  have hp : a ++ 59 :: o = (a ++ [59]) ++ o := by simp
  have r44 : runQ 44 (false, false) (a ++ 59 :: o) = some (false, false) := by rw [hp, runQ_app, h44, Option.bind_some, ro44]
  have e1 : ∃ x y, a ++ 59 :: o = x :: y ∧ blanks.contains x = false := by obtain ⟨x, y, rfl, hb⟩ := ha; exact ⟨x, y ++ 59 :: o, rfl, hb⟩
  have e2 : ∃ x y, (a ++ 59 :: o).reverse = x :: y ∧ blanks.contains x = false := by
    obtain ⟨x, y, e, hb⟩ := hre
    rw [hp, List.reverse_append, e]
    exact ⟨x, y ++ (a ++ [59]).reverse, rfl, hb⟩
  have hadd : ∀ ls, addP ls (a ++ 59 :: o) = ls ++ [a ++ 59 :: o] := by
    intro ls; obtain ⟨x, y, e, _⟩ := e1; rw [e]; rfl
  refine ⟨fun g rest ls hg => ?_, ?_⟩
  · have rg := blanks_run0 (c := 44) (by decide) g hg
    have rgp : runQ 44 (false, false) (g ++ (a ++ 59 :: o)) = some (false, false) := by rw [runQ_app, rg, Option.bind_some, r44]
    have ht : trimL (g ++ (a ++ 59 :: o)) = a ++ 59 :: o := by
      have := trim_ends e1 e2 hg (g2 := []) (by simp)
      rwa [List.append_nil] at this
    constructor
    · have e : g ++ (a ++ 59 :: (o ++ 44 :: rest)) = (g ++ (a ++ 59 :: o)) ++ 44 :: rest := by simp
      rw [e, spl_runs 44 _ false false false false [] ls _ rgp, spl_at rfl, List.nil_append, ht, hadd]
    · have := spl_runs 44 _ false false false false [] ls [] rgp
      rw [List.append_nil] at this
      rw [this, splP, cond_false, List.nil_append, ht, hadd]
  · intro d hd
    unfold sayS at hd
    have hs : splitL 59 (a ++ 59 :: o) = ([a, o], 0) := by
      unfold splitL splitE
      have h1 := spl_runs 59 a false false false false [] [] (59 :: o) h59
      have h2 := spl_runs 59 o false false false false [] [a] [] ro59
      rw [List.append_nil] at h2
      have t1 : trimL a = a := by have := trim_ends ha hr (g := []) (g2 := []) (by simp) (by simp); simpa using this
      have t2 : trimL o = o := trim_token ho
      have a1 : addP [] a = [a] := by obtain ⟨x, y, e, _⟩ := ha; rw [e]; rfl
      have a2 : addP [a] o = [a, o] := by obtain ⟨x, y, e, _⟩ := hne; rw [e]; rfl
      rw [h1, spl_at rfl, List.nil_append, t1, a1, h2, splP, cond_false, List.nil_append, t2, a2]
      rfl
    rw [hs] at hd
    simp only [ho, cond_true] at hd
    have h0 : ((0 : Int) != 0) = false := rfl
    rw [h0, cond_false] at hd
    cases hq : (saidO a).toList with
    | nil => rw [hq] at hd; simp [oneOf] at hd
    | cons z zs =>
      cases zs with
      | nil =>
        rw [hq] at hd
        simp only [oneOf, hol, cond_false, List.mem_singleton] at hd
        subst hd; rfl
      | cons _ _ => rw [hq] at hd; simp [oneOf] at hd
def moreT (o : List UInt8) : List UInt8 :=
  (noStore ++ 59 :: (o ++ 44 :: ([32] ++ ([99, 111, 110, 116, 101, 110, 116, 61, 34, 69, 83, 73, 47, 49, 46, 48, 34] ++ 59 :: (o ++ 44 :: ([32] ++ ([109, 97, 120, 45, 97, 103, 101, 61, 49] ++ 59 :: o)))))))
theorem more_for (o : List UInt8) (ho : tokenL o = true) : ∀ d ∈ slistL [moreT o], d.for_ = o := by
  have k1 := piece_for (a := noStore) ho (by decide +kernel) (by decide +kernel) ⟨_, _, rfl, by decide⟩ ⟨_, _, rfl, by decide⟩
  have k2 := piece_for (a := [99, 111, 110, 116, 101, 110, 116, 61, 34, 69, 83, 73, 47, 49, 46, 48, 34]) ho (by decide +kernel) (by decide +kernel) ⟨_, _, rfl, by decide⟩ ⟨_, _, rfl, by decide⟩
  have k3 := piece_for (a := [109, 97, 120, 45, 97, 103, 101, 61, 49]) ho (by decide +kernel) (by decide +kernel) ⟨_, _, rfl, by decide⟩ ⟨_, _, rfl, by decide⟩
  have hs : splP 44 false false [] [] (moreT o) = some [noStore ++ 59 :: o, [99, 111, 110, 116, 101, 110, 116, 61, 34, 69, 83, 73, 47, 49, 46, 48, 34] ++ 59 :: o, [109, 97, 120, 45, 97, 103, 101, 61, 49] ++ 59 :: o] := by
    unfold moreT
    have j1 := (k1.1 [] ([32] ++ ([99, 111, 110, 116, 101, 110, 116, 61, 34, 69, 83, 73, 47, 49, 46, 48, 34] ++ 59 :: (o ++ 44 :: ([32] ++ ([109, 97, 120, 45, 97, 103, 101, 61, 49] ++ 59 :: o))))) [] (by simp)).1
    have j2 := (k2.1 [32] ([32] ++ ([109, 97, 120, 45, 97, 103, 101, 61, 49] ++ 59 :: o)) [noStore ++ 59 :: o] (by decide)).1
    have j3 := (k3.1 [32] [] [noStore ++ 59 :: o, [99, 111, 110, 116, 101, 110, 116, 61, 34, 69, 83, 73, 47, 49, 46, 48, 34] ++ 59 :: o] (by decide)).2
    rw [List.nil_append, List.nil_append] at j1
    exact j1.trans (j2.trans j3)
  have hsp : splitL 44 (moreT o) = ([noStore ++ 59 :: o, [99, 111, 110, 116, 101, 110, 116, 61, 34, 69, 83, 73, 47, 49, 46, 48, 34] ++ 59 :: o, [109, 97, 120, 45, 97, 103, 101, 61, 49] ++ 59 :: o], 0) := by
    unfold splitL splitE
    rw [hs]; rfl
  intro d hd
  unfold slistL at hd
  rw [List.flatMap_cons, List.flatMap_nil, List.append_nil, hsp] at hd
  have h0 : ((0 : Int) == 0) = true := rfl
  rw [h0, cond_true] at hd
  simp only [List.flatMap_cons, List.flatMap_nil, List.append_nil, List.mem_append] at hd
  rcases hd with hd | hd | hd
  · exact k1.2 d hd
  · exact k2.2 d hd
  · exact k3.2 d hd
/-- Another device's directives change nothing. -/
theorem of_more (o dev : List UInt8) (vs : List (List UInt8)) (ho : tokenL o = true) (hne : o ≠ dev) : ofL (moreT o :: vs) dev = ofL vs dev := by
  unfold ofL
  have : slistL (moreT o :: vs) = slistL [moreT o] ++ slistL vs := by unfold slistL; simp
  rw [this, mine_other]
  intro d hd
  have hf := more_for o ho d hd
  have hol := (token_all ho).2
  refine ⟨?_, by rw [hf]; exact hol⟩
  unfold ownB
  rw [hf]
  cases dev with
  | nil => rfl
  | cons x y =>
    have : (o == x :: y) = false := by rw [beq_eq_false_iff_ne]; exact hne
    rw [this]; simp
end Go.Proofs.YtlhfbikhlfgjbaaDoor
/- SurctlOthers: the walk of the law, and the law as it is handed in. -/
namespace Go.Proofs.YtlhfbikhlfgjbaaDoor
open Go.RowKit Go.ChangeShapes Go.WideShapes
set_option maxRecDepth 100000

def tornT : List UInt8 := [109, 97, 120, 45, 97, 103, 101, 61, 49, 44, 32, 34]
def ownP (dev : List UInt8) (d : Dir) : Bool := d.name == noStore && d.for_ == dev
theorem own_says {vs : List (List UInt8)} {dev : List UInt8} (h : (mineL (slistL vs) dev).any (ownP dev) = true) : (ofL vs dev).noStore = true := by
  rw [List.any_eq_true] at h
  obtain ⟨d, hd, hp⟩ := h
  unfold ownP at hp
  rw [Bool.and_eq_true] at hp
  exact own_never hd (beq_iff_eq.1 hp.1)
theorem any_take {α : Type} (p : α → Bool) (l : List α) (k : Nat) (h : k < l.length) : (l.take (k + 1)).any p = ((l.take k).any p || p l[k]) := by
  rw [List.take_succ_eq_append_getElem h, List.any_append]; simp
set_option maxHeartbeats 32000000 in
theorem surctlOthers_any (A : Option Addr) (n c : Nat) (vs : List (List UInt8)) (dev oth : ByteArray) (w : World) (hM : MaxL w) (hr : Rd A n 1 (strsV vs) w) :
    Calls Tryd.prog 4 #[.slice A n c, .string dev, .string oth] w fun e w' => e = .returned (.bool true) ∧ Below w.heap.size w w' := by
  have kf' := few12_any A n c vs w hr
  have hxn := hr.str
  subst hxn
  by_cases hall : few12 vs = true ∧ dev.size ≤ 300 ∧ oth.size ≤ 300 ∧ vs.length ≤ 9
  rotate_left
  · have KF := Lib.hid kf'; clear kf'
    have out : ∀ b : Bool, (Calls Tryd.prog 12 #[.slice A vs.length c] w fun e w' => e = .returned (.bool b) ∧ w = w') → (b = true → ¬ (dev.size ≤ 300 ∧ oth.size ≤ 300 ∧ vs.length ≤ 9)) → Calls Tryd.prog 4 #[.slice A vs.length c, .string dev, .string oth] w fun e w' => e = .returned (.bool true) ∧ Below w.heap.size w w' := by
      intro b kb hb
      have KB := Lib.hid kb
      clear kb hr hall
      cases b
      · clear hb
        go_enter Tryd.func4, Tryd.ntmps4
        go_wp2_with fail
        refine KB.out.mono ?_
        rintro e w0 ⟨rfl, rfl⟩
        go_wp2_with fail
        refine (works12_any _ hM).mono ?_
        rintro e w1 ⟨rfl, hb1⟩
        go_wp2
        go_ret
        exact ⟨rfl, hb1⟩
      · have hb := hb rfl
        by_cases q1 : 300 < dev.size
        · go_enter Tryd.func4, Tryd.ntmps4
          go_wp2_with fail
          refine KB.out.mono ?_
          rintro e w0 ⟨rfl, rfl⟩
          go_wp2_with fail
          refine (works12_any _ hM).mono ?_
          rintro e w1 ⟨rfl, hb1⟩
          go_wp2
          go_ret
          exact ⟨rfl, hb1⟩
        · by_cases q2 : 300 < oth.size
          · go_enter Tryd.func4, Tryd.ntmps4
            go_wp2_with fail
            refine KB.out.mono ?_
            rintro e w0 ⟨rfl, rfl⟩
            go_wp2_with fail
            refine (works12_any _ hM).mono ?_
            rintro e w1 ⟨rfl, hb1⟩
            go_wp2
            go_ret
            exact ⟨rfl, hb1⟩
          · have q3 : 9 < vs.length := by omega
            go_enter Tryd.func4, Tryd.ntmps4
            go_wp2_with fail
            refine KB.out.mono ?_
            rintro e w0 ⟨rfl, rfl⟩
            go_wp2_with fail
            refine (works12_any _ hM).mono ?_
            rintro e w1 ⟨rfl, hb1⟩
            go_wp2
            go_ret
            exact ⟨rfl, hb1⟩
    exact out _ KF.out (fun h h2 => hall ⟨h, h2⟩)
  obtain ⟨hf, hd3, ho3, h9⟩ := hall
  obtain ⟨_, h2⟩ := few12_yes hf
  rw [hf] at kf'
  have hsl := slist_le vs
  have hml : (mineL (slistL vs) dev.data.toList).length ≤ (slistL vs).length := List.length_filter_le _ _
  have kof := fun W (hb : Below w.heap.size w W) => surOf_any A vs.length c vs dev W (hM.below hb) (hr.below hb) (by omega) (fun v hv => by have := h2 v hv; omega)
  have kli := fun W (hb : Below w.heap.size w W) => surList_any A vs.length c vs W (hM.below hb) (hr.below hb) (by omega) (fun v hv => by have := h2 v hv; omega)
  have km1 := fun a c W (h : Rd a (slistL vs).length 4 (dirsV (slistL vs)) W) => mine_any a (slistL vs).length c (slistL vs) dev W h (by omega)
  have km2 := fun a c W (h : Rd a (mineL (slistL vs) dev.data.toList).length 4 (dirsV (mineL (slistL vs) dev.data.toList)) W) => mine_any a (mineL (slistL vs) dev.data.toList).length c (mineL (slistL vs) dev.data.toList) dev W h (by omega)
  rw [mine_mine] at km2
  have kto : ∀ a c W, Below w.heap.size w W → Rd a (vs ++ [tornT]).length 1 (strsV (vs ++ [tornT])) W → Calls Tryd.prog 14 #[.slice a (vs.length + 1) c, .string dev] W fun e w' => e = .returned (ctlV (ofL (vs ++ [tornT]) dev.data.toList)) ∧ Below W.heap.size W w' := fun a c W hb h => by
    have := surOf_any a (vs ++ [tornT]).length c (vs ++ [tornT]) dev W (hM.below hb) h (by rw [List.length_append, List.length_singleton]; omega) (fun v hv => by
      rcases List.mem_append.1 hv with hv | hv
      · have := h2 v hv; omega
      · rw [List.mem_singleton.1 hv]; decide)
    rwa [show (vs ++ [tornT]).length = vs.length + 1 from by simp] at this
  have htn : (ofL (vs ++ [tornT]) dev.data.toList).noStore = true := torn_never vs tornT dev.data.toList (by decide +kernel)
  have hown : (mineL (slistL vs) dev.data.toList).any (ownP dev.data.toList) = true → (ofL vs dev.data.toList).noStore = true := own_says
  have hto : tokenL oth.data.toList = true → oth ≠ dev → ofL (moreT oth.data.toList :: vs) dev.data.toList = ofL vs dev.data.toList := fun h1 h2 => of_more _ _ _ h1 (fun e => h2 (str_eq _ _ e))
  have hmore : (((((⟨#[110, 111, 45, 115, 116, 111, 114, 101, 59]⟩ : ByteArray) ++ oth) ++ ⟨#[44, 32, 99, 111, 110, 116, 101, 110, 116, 61, 34, 69, 83, 73, 47, 49, 46, 48, 34, 59]⟩) ++ oth) ++ ⟨#[44, 32, 109, 97, 120, 45, 97, 103, 101, 61, 49, 59]⟩) ++ oth = ⟨(moreT oth.data.toList).toArray⟩ := by
    apply str_eq
    simp only [app_list]
    unfold moreT noStore
    simp
  have hmlen : (moreT oth.data.toList).length ≤ 1000 := by
    have e : (moreT oth.data.toList).length = 41 + 3 * oth.data.toList.length := by
      unfold moreT noStore
      simp only [List.length_append, List.length_cons, List.length_nil]
      omega
    rw [e, ← Lib.size_eq]; omega
  have kmo : ∀ a c W, Below w.heap.size w W → Rd a (moreT oth.data.toList :: vs).length 1 (strsV (moreT oth.data.toList :: vs)) W → Calls Tryd.prog 14 #[.slice a (vs.length + 1) c, .string dev] W fun e w' => e = .returned (ctlV (ofL (moreT oth.data.toList :: vs) dev.data.toList)) ∧ Below W.heap.size W w' := fun a c W hb h => surOf_any a (moreT oth.data.toList :: vs).length c (moreT oth.data.toList :: vs) dev W (hM.below hb) h (by rw [List.length_cons]; omega) (fun v hv => by
    rcases List.mem_cons.1 hv with rfl | hv
    · omega
    · have := h2 v hv; omega)
  have ktk := fun W => token_any oth W (by omega)
  have hmls : (mineL (slistL vs) dev.data.toList).length ≤ 1000 := by omega
  generalize mineL (slistL vs) dev.data.toList = ms at *
  generalize slistL vs = sl at *
  generalize ofL (moreT oth.data.toList :: vs) dev.data.toList = km at *
  generalize ofL vs dev.data.toList = k at *
  generalize ofL (vs ++ [tornT]) dev.data.toList = kt at *
  generalize moreT oth.data.toList = mt at *
  obtain ⟨k0, k1, k2, k3, k4, k5⟩ := k
  obtain ⟨t0, t1, t2, t3, t4, t5⟩ := kt
  simp only at htn
  subst htn
  unfold ctlV at kof kto
  simp only at kof kto hown
  have hany := fun j (h : j < ms.length) => any_take (ownP dev.data.toList) ms j h
  have hend : (ms.take ms.length).any (ownP dev.data.toList) = true → k0 = true := by rw [List.take_length]; exact hown
  have hz1 : ([] : List (List UInt8)).length + vs.length ≤ 1000000000 := by simp; omega
  have hz2 : vs.length ≤ 1000000000 := by omega
  have hz3 : ([] : List (List UInt8)).length ≤ 1000000000 := by simp
  have hz4 : [mt].length + vs.length ≤ 1000000000 := by simp; omega
  have KF := Lib.hid kf'; have KOF := Lib.hid kof; have KLI := Lib.hid kli; have KM1 := Lib.hid km1; have KM2 := Lib.hid km2; have KTO := Lib.hid kto; have KMO := Lib.hid kmo; have KTK := Lib.hid ktk
  have HR := Lib.hid hr; have HTO := Lib.hid hto; have HMORE := Lib.hid hmore; have HANY := Lib.hid hany; have HEND := Lib.hid hend
  clear kf' kof kli km1 km2 kto kmo ktk hr hto hmore hany hend hown hsl hml hf h2 hmlen
  go_enter Tryd.func4, Tryd.ntmps4
  go_wp2_with fail
  refine KF.out.mono ?_
  rintro e w0 ⟨rfl, rfl⟩
  go_wp2_with fail
  refine (KOF.out _ (Below.refl _ _)).mono ?_
  rintro e w1 ⟨rfl, hb1⟩
  obtain ⟨W3, hW3⟩ : ∃ W3, w1.alloc (.cells #[.bool k0, .bool k1, .bool k2, .bool k3, .int .i64 k4, .int .i64 k5] 38) = W3 := ⟨_, rfl⟩
  have hal : Below w1.heap.size w1 W3 := by rw [← hW3]; exact (Below.refl _ w1).alloc (Nat.le_refl _) _
  have hz : w1.heap.size < W3.heap.size := by rw [← hW3]; simp
  have hc : ∀ j, W3.cell? ⟨w1.heap.size, j, none⟩ = (#[.bool k0, .bool k1, .bool k2, .bool k3, .int .i64 k4, .int .i64 k5] : Array Value)[j]? := fun j => by rw [← hW3]; exact World.cell?_alloc_mark w1 _ _ _ j
  have hB3 := bt hb1 hal
  have HW3 := Lib.hid hW3
  clear hW3 hal
  go_wp2_with fail
  rw [HW3.out]
  (with_reducible refine (KLI.out _ hB3).mono ?_)
  rintro e w4 ⟨a4, c4, rfl, ho4, hb4⟩
  have R4 := Lib.hid ho4.rd.2
  clear ho4
  go_wp2_with fail
  (with_reducible refine (KM1.out _ _ _ R4.out).mono ?_)
  rintro e w5 ⟨a5, c5, rfl, ho5, hb5⟩
  have R5 := Lib.hid ho5.rd.2
  clear ho5
  go_wp2_with fail
  (with_reducible refine (KM2.out _ _ _ R5.out).mono ?_)
  rintro e w6 ⟨a6, c6, rfl, ho6, hb6⟩
  have R6 := Lib.hid ho6.rd.2
  have R5b := Lib.hid (R5.out.below hb6)
  clear ho6
  have ksm := samed_any a6 ms.length c6 ms a5 ms.length c5 ms w6 R6.out R5b.out (by omega) (by omega)
  have hff : (ms == ms) = true := by simp
  rw [hff] at ksm
  have KSM := Lib.hid ksm
  clear ksm hff R6 R4 R5
  go_wp2_with fail
  (with_reducible refine KSM.out.mono ?_)
  rintro e w7 ⟨rfl, hb7⟩
  have hB7 : Below W3.heap.size W3 w7 := ((hb4.trans (hb5.mono hb4.size)).trans (hb6.mono (Nat.le_trans hb4.size hb5.size))).trans (hb7.mono (Nat.le_trans (Nat.le_trans hb4.size hb5.size) hb6.size))
  have hW7 := bt hB3 hB7
  have R7 := Lib.hid (R5b.out.below hb7)
  have HR7 := Lib.hid (HR.out.below hW7)
  clear R5b KSM hb4 hb5 hb6 hb7
  go_wp2_with (at_builtin; refine app_strs w7.heap.size (OwnS.nil _ _) (Nat.le_refl _) HR7.out hz1 rfl _ _ rfl rfl rfl ?_)
  intro v8 w8 hO8 hb8 _
  have HO8 : Hid (OwnS w7.heap.size v8 vs w8) := Lib.hid hO8
  clear hO8
  have hs8 : w7.heap.size ≤ w8.heap.size := hb8.size
  go_wp2_with (at_builtin; refine app_str w7.heap.size tornT HO8.out hs8 hz2 rfl _ _ rfl rfl rfl ?_)
  intro v9 w9 hO9 hb9 _
  obtain ⟨a9, c9, rfl⟩ := hO9.shape
  have R9 := Lib.hid hO9.rd.2
  have hc9 : Below w7.heap.size w7 w9 := hb8.trans hb9
  have hw9 : Below w.heap.size w w9 := bt hW7 hc9
  clear hO9 HO8 hb8 hb9 hs8
  go_wp2_with fail
  (with_reducible refine (KTO.out _ _ _ hw9 R9.out).mono ?_)
  rintro e w10 ⟨rfl, hb10⟩
  obtain ⟨W11, hW11⟩ : ∃ W11, w10.alloc (.cells #[.bool true, .bool t1, .bool t2, .bool t3, .int .i64 t4, .int .i64 t5] 38) = W11 := ⟨_, rfl⟩
  have hal2 : Below w10.heap.size w10 W11 := by rw [← hW11]; exact (Below.refl _ w10).alloc (Nat.le_refl _) _
  have hd0 : W11.cell? ⟨w10.heap.size, 0, none⟩ = some (.bool true) := by rw [← hW11]; exact World.cell?_alloc_mark w10 _ _ _ 0
  have hc11 : Below w7.heap.size w7 W11 := (bt hc9 hb10).trans (hal2.mono (Nat.le_trans hc9.size hb10.size))
  have hw11 := bt hW7 hc11
  have hZ11 : Below W3.heap.size W3 W11 := hB7.trans (hc11.mono hB7.size)
  have hcc0 : W11.cell? ⟨w1.heap.size, 0, none⟩ = some (.bool k0) := (hZ11.cell (p := ⟨w1.heap.size, 0, none⟩) hz).trans (hc 0)
  have R11 := Lib.hid (R7.out.below hc11)
  have HW11 := Lib.hid hW11
  have HC3 := Lib.hid hc
  clear hW11 hal2 hc R7 R9 hb10 hc9 hw9 KTO
  go_wp2_with fail
  rw [HW11.out]
  go_loopw [11, 12] (fun o i wr => ∃ k : Nat, k ≤ ms.length ∧ (∃ b, o = .bool b ∧ Hid ((ms.take k).any (ownP dev.data.toList) = b)) ∧ i = .int .i64 k ∧ wr = W11) (fun _ i _ => ms.length - (intOf i).toNat)
  case atStart => exact ⟨0, Nat.zero_le _, ⟨false, rfl, Lib.hid (by simp)⟩, rfl, rfl⟩
  case round =>
    obtain ⟨k, hk, ⟨b, rfl, HB⟩, rfl, rfl⟩ := hrel
    by_cases hlt : k < ms.length
    · obtain ⟨b0, o0, rfl, hl0, x0, x1, x2, x3⟩ := R11.out.dir_at (k := k) hlt
      have ha := HANY.out k hlt
      rw [HB.out] at ha
      generalize ms[k] = d at *
      obtain ⟨dn, dv, dh, df⟩ := d
      simp only at x0 x1 x2 x3
      have hp : ownP dev.data.toList ⟨dn, dv, dh, df⟩ = ((dn == [110, 111, 45, 115, 116, 111, 114, 101]) && (df == dev.toList)) := by unfold ownP noStore; rw [Lib.toList_data]
      rw [hp] at ha
      clear hp HB HANY HEND HC3 HTO HMORE
      cases b <;> cases q1 : (dn == [110, 111, 45, 115, 116, 111, 114, 101]) <;> cases q2 : (df == dev.toList)
      all_goals (
        rw [q1, q2] at ha
        have HN := Lib.hid ha
        clear ha
        go_wp2
        go_roundw
        case rel => exact ⟨k + 1, by omega, ⟨_, rfl, HN⟩, by go_num, trivial⟩
        case measure => simp [intOf]; omega)
    · have hke : k = ms.length := by omega
      subst hke
      have hbk : b = true → k0 = true := fun h => HEND.out (by rw [HB.out, h])
      clear HB HANY HEND hlt hk
      have hcase : b = false ∨ (b = true ∧ k0 = true) := by cases b; exact Or.inl rfl; exact Or.inr ⟨rfl, hbk rfl⟩
      clear hbk
      rcases hcase with rfl | ⟨rfl, hk0⟩
      rotate_left
      rw [hk0] at hcc0
      clear hk0
      all_goals (
        have ktk := KTK.out
        cases htk : tokenL oth.data.toList
        · rw [htk] at ktk
          have KT := Lib.hid ktk
          clear ktk htk KTK HTO HMORE KMO HC3
          go_wp2_with fail
          refine (KT.out _).mono ?_
          rintro e wt ⟨rfl, rfl⟩
          go_wp2_with fail
          refine (works12_any _ (hM.below hw11)).mono ?_
          rintro e wq ⟨rfl, hbq⟩
          go_wp2
          go_ret
          exact ⟨rfl, bt hw11 hbq⟩
        · rw [htk] at ktk
          have KT := Lib.hid ktk
          by_cases hne : oth = dev
          · have tq : (oth.toList == dev.toList) = true := by rw [hne]; simp
            clear ktk htk KTK HTO HMORE KMO HC3 hne
            go_wp2_with fail
            refine (KT.out _).mono ?_
            rintro e wt ⟨rfl, rfl⟩
            go_wp2_with fail
            refine (works12_any _ (hM.below hw11)).mono ?_
            rintro e wq ⟨rfl, hbq⟩
            go_wp2
            go_ret
            exact ⟨rfl, bt hw11 hbq⟩
          · have tq : (oth.toList == dev.toList) = false := by rw [beq_eq_false_iff_ne, Lib.toList_data, Lib.toList_data]; exact fun e => hne (str_eq _ _ e)
            have hkm := HTO.out htk hne
            have kmo := KMO.out
            rw [hkm] at kmo
            have KMO2 := Lib.hid kmo
            have HR11 := Lib.hid (HR.out.below hw11)
            have HM11 := Lib.hid (hM.below hw11)
            have HC11 : Hid (∀ j, wr.cell? ⟨w1.heap.size, j, none⟩ = W3.cell? ⟨w1.heap.size, j, none⟩) := Lib.hid (fun j => hZ11.cell (p := ⟨w1.heap.size, j, none⟩) hz)
            have hz11 : w1.heap.size < wr.heap.size := Nat.lt_of_lt_of_le hz hZ11.size
            clear ktk htk KTK HTO KMO hkm kmo hne R11
            go_wp2_with fail
            refine (KT.out _).mono ?_
            rintro e wt ⟨rfl, rfl⟩
            go_wp2_with (at_builtin; (try rw [HMORE.out]); refine app_str wr.heap.size mt (OwnS.nil _ _) (Nat.le_refl _) hz3 rfl _ _ rfl rfl rfl ?_)
            intro v12 w12 hO12 hb12 _
            have HO12 : Hid (OwnS wr.heap.size v12 [mt] w12) := Lib.hid hO12
            have HR12 := Lib.hid (HR11.out.below hb12)
            have hs12 := hb12.size
            clear hO12 HMORE HR11
            go_wp2_with (at_builtin; refine app_strs wr.heap.size HO12.out hs12 HR12.out hz4 rfl _ _ rfl rfl rfl ?_)
            intro v13 w13 hO13 hb13 _
            have hO13b : OwnS wr.heap.size v13 (mt :: vs) w13 := hO13
            obtain ⟨a13, c13, rfl⟩ := hO13b.shape
            have R13 := Lib.hid hO13b.rd.2
            have hc13 : Below wr.heap.size wr w13 := hb12.trans hb13
            have hw13 : Below w.heap.size w w13 := bt hw11 hc13
            have HM13 := Lib.hid (hM.below hw13)
            have kmz := fun W (hb : Below w13.heap.size w13 W) => KMO2.out a13 c13 W (bt hw13 hb) (R13.out.below hb)
            have kc : ∀ w', Below w13.heap.size w13 w' → w'.cell? ⟨w1.heap.size, 0, none⟩ = some (.bool k0) ∧ w'.cell? ⟨w1.heap.size, 1, none⟩ = some (.bool k1) ∧ w'.cell? ⟨w1.heap.size, 2, none⟩ = some (.bool k2) ∧ w'.cell? ⟨w1.heap.size, 3, none⟩ = some (.bool k3) ∧ w'.cell? ⟨w1.heap.size, 4, none⟩ = some (.int .i64 k4) ∧ w'.cell? ⟨w1.heap.size, 5, none⟩ = some (.int .i64 k5) ∧ Below w13.heap.size w13 w' := fun w' h => by
              have e : ∀ j, w'.cell? ⟨w1.heap.size, j, none⟩ = (#[.bool k0, .bool k1, .bool k2, .bool k3, .int .i64 k4, .int .i64 k5] : Array Value)[j]? := fun j => by
                rw [h.cell (p := ⟨w1.heap.size, j, none⟩) (Nat.lt_of_lt_of_le hz11 hc13.size), hc13.cell (p := ⟨w1.heap.size, j, none⟩) hz11, HC11.out j, HC3.out j]
              exact ⟨e 0, e 1, e 2, e 3, e 4, e 5, h⟩
            have hb0 := Below.refl w13.heap.size w13
            unfold ctlV at kmz
            simp only at kmz
            have KC := Lib.hid kc; have KMZ := Lib.hid kmz
            clear kc kmz hO13 hO13b R13 HO12 HR12 KMO2 HC11 HC3 hb12 hb13 hc13 hz11
            go_wp2_with fail
            refine wp_region_held_drew (S := (fun w' => w'.cell? ⟨w1.heap.size, 0, none⟩ = some (.bool k0) ∧ w'.cell? ⟨w1.heap.size, 1, none⟩ = some (.bool k1) ∧ w'.cell? ⟨w1.heap.size, 2, none⟩ = some (.bool k2) ∧ w'.cell? ⟨w1.heap.size, 3, none⟩ = some (.bool k3) ∧ w'.cell? ⟨w1.heap.size, 4, none⟩ = some (.int .i64 k4) ∧ w'.cell? ⟨w1.heap.size, 5, none⟩ = some (.int .i64 k5) ∧ Below w13.heap.size w13 w')) (by kernel_rfl) (KC.out _ hb0.drew) (fun hHeld => ?_)
            refine wpAnyH_take (i := 0) (v := ?_) (by simp only [List.getElem?_toArray, List.getElem?_cons_zero]; exact rfl) (by kernel_rfl) (by kernel_rfl) (by kernel_rfl) (by intro _ _ _ h; exact h) (Or.inl ⟨by rfl, fun W hSw => ?_⟩) hHeld ?_
            rotate_left
            focus ((try dsimp only at hSw); first | (go_simp; done) | (go_simp; with_reducible rfl))
            try simp only [Act.put, List.setIfInBounds_toArray, List.set_cons_zero, List.set_cons_succ]
            refine wpAnyH_take (i := 1) (v := ?_) (by simp only [List.getElem?_toArray, List.getElem?_cons_succ, List.getElem?_cons_zero]; exact rfl) (by kernel_rfl) (by kernel_rfl) (by kernel_rfl) (by intro _ _ _ h; exact h) (Or.inl ⟨by rfl, fun W hSw => ?_⟩) hHeld ?_
            rotate_left
            focus ((try dsimp only at hSw); first | (go_simp; done) | (go_simp; with_reducible rfl))
            try simp only [Act.put, List.setIfInBounds_toArray, List.set_cons_zero, List.set_cons_succ]
            refine wpAnyH_take (i := 3) (v := ?_) (by simp only [List.getElem?_toArray, List.getElem?_cons_succ, List.getElem?_cons_zero]; exact rfl) (by kernel_rfl) (by kernel_rfl) (by kernel_rfl) (by intro _ _ _ h; exact h) (Or.inl ⟨by rfl, fun W hSw => ?_⟩) hHeld ?_
            rotate_left
            focus ((try dsimp only at hSw); first | (go_simp; done) | (go_simp; with_reducible rfl))
            try simp only [Act.put, List.setIfInBounds_toArray, List.set_cons_zero, List.set_cons_succ]
            refine wpAnyH_ready (rs := [2]) (by kernel_rfl) (by simp) (AllReadyH.cons (by simp only [List.getElem?_toArray, List.getElem?_cons_succ, List.getElem?_cons_zero]; exact rfl) (fun K hK => ?_) AllReadyH.nil)
            rw [if_pos (by rfl)]
            go_simp
            (with_reducible refine (KMZ.out _ hb0.drew).mono ?_); rintro e w14 ⟨rfl, h14⟩; have hb14 := hb0.drew.trans (h14.mono (Nat.le_refl _)); go_wp2_with fail
            refine hK.out _ _ (KC.out _ hb14) (fun hHeld => ?_)
            clear hK K
            try simp only [Act.put, List.setIfInBounds_toArray, List.set_cons_zero, List.set_cons_succ]
            refine wpAnyH_take (i := 4) (v := ?_) (by simp only [List.getElem?_toArray, List.getElem?_cons_succ, List.getElem?_cons_zero]; exact rfl) (by kernel_rfl) (by kernel_rfl) (by kernel_rfl) (by intro _ _ _ h; exact h) (Or.inl ⟨by rfl, fun W hSw => ?_⟩) hHeld ?_
            rotate_left
            focus ((try dsimp only at hSw); first | (go_simp; done) | (go_simp; with_reducible rfl))
            try simp only [Act.put, List.setIfInBounds_toArray, List.set_cons_zero, List.set_cons_succ]
            refine wpAnyH_take (i := 5) (v := ?_) (by simp only [List.getElem?_toArray, List.getElem?_cons_succ, List.getElem?_cons_zero]; exact rfl) (by kernel_rfl) (by kernel_rfl) (by kernel_rfl) (by intro _ _ _ h; exact h) (Or.inl ⟨by rfl, fun W hSw => ?_⟩) hHeld ?_
            rotate_left
            focus ((try dsimp only at hSw); first | (go_simp; done) | (go_simp; with_reducible rfl))
            try simp only [Act.put, List.setIfInBounds_toArray, List.set_cons_zero, List.set_cons_succ]
            refine wpAnyH_ready (rs := [6]) (by kernel_rfl) (by simp) (AllReadyH.cons (by simp only [List.getElem?_toArray, List.getElem?_cons_succ, List.getElem?_cons_zero]; exact rfl) (fun K hK => ?_) AllReadyH.nil)
            rw [if_pos (by rfl)]
            go_simp
            refine (works12_any _ (HM13.out.below hb14)).mono ?_; rintro e w15 ⟨rfl, h15⟩; have hb15 := bt hb14 h15; go_wp2_with fail
            refine hK.out _ _ (KC.out _ hb15) (fun hHeld => ?_)
            clear hK K
            try simp only [Act.put, List.setIfInBounds_toArray, List.set_cons_zero, List.set_cons_succ]
            refine wpAnyH_take (i := 7) (v := ?_) (by simp only [List.getElem?_toArray, List.getElem?_cons_succ, List.getElem?_cons_zero]; exact rfl) (by kernel_rfl) (by kernel_rfl) (by kernel_rfl) (by intro _ _ _ h; exact h) (Or.inl ⟨by rfl, fun W hSw => ?_⟩) hHeld ?_
            rotate_left
            focus ((try dsimp only at hSw); first | (go_simp; done) | (go_simp; with_reducible rfl))
            try simp only [Act.put, List.setIfInBounds_toArray, List.set_cons_zero, List.set_cons_succ]
            refine wpAnyH_take (i := 8) (v := ?_) (by simp only [List.getElem?_toArray, List.getElem?_cons_succ, List.getElem?_cons_zero]; exact rfl) (by kernel_rfl) (by kernel_rfl) (by kernel_rfl) (by intro _ _ _ h; exact h) (Or.inl ⟨by rfl, fun W hSw => ?_⟩) hHeld ?_
            rotate_left
            focus ((try dsimp only at hSw); first | (go_simp; done) | (go_simp; with_reducible rfl))
            try simp only [Act.put, List.setIfInBounds_toArray, List.set_cons_zero, List.set_cons_succ]
            refine wpAnyH_done (by kernel_rfl) ?_ _
            clear hHeld
            go_wp2
            go_ret
            exact ⟨rfl, bt hw13 hb15⟩)
theorem surctlOthers_law {H : Type} {enc : TypeId × Value → H} {W : World} {base : Nat}
    (v0 : Value) (hv0 : Value.okWide Tryd.prog W .any base 34 v0) {d0 : DataW H} {p0 : List MemPlace} (h0 : DataW.Trod enc Tryd.prog W 0 (fun _ => true) true 34 v0 d0 p0) (hr0 : Reach 34 d0) (dev oth : ByteArray)
    (w : World) (hw : w = W) (h : ∃ m, W.cell? ⟨0, 0, none⟩ = some (.int .i64 m)) :
    Calls Tryd.prog 4 #[v0, .string dev, .string oth] w fun e w' => e = .returned (.bool true) ∧ Below w.heap.size w w' := by
  subst hw
  obtain ⟨A, n, c, ls, rfl, hR, _, _⟩ := open_texts_v hv0 h0 hr0
  exact surctlOthers_any A n c ls dev oth w (MaxL.of h) hR
end Go.Proofs.YtlhfbikhlfgjbaaDoor
