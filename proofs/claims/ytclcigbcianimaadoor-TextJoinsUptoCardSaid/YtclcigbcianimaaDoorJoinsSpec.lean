/- TextJoins: the plain law: a list put together of tokens and quoted texts is parted into them. -/
import Derived.Test.YtclcigbcianimaaDoorStaysSpec
import Derived.Lib.Join
namespace Go.Proofs.YtclcigbcianimaaDoor

def goodQ (q : List UInt8) : Prop := tokenL q = true ∨ ∃ l : List UInt8, l.all plainb = true ∧ q = 34 :: (l.flatMap esc ++ [34])
theorem spl_run : ∀ (l cur : List UInt8) (ls : List (List UInt8)) (rest : List UInt8), (∀ c ∈ l, (c.toNat == 34) = false ∧ (c.toNat == 44) = false) →
    splP 44 false false cur ls (l ++ rest) = splP 44 false false (cur ++ l) ls rest
  | [], cur, ls, rest, _ => by simp
  | c :: r, cur, ls, rest, h => by
    have hc := h c (by simp)
    rw [List.cons_append, splP, hc.1, show (44 : UInt8).toNat = 44 from rfl, hc.2]
    simp only [cond_false, Bool.false_and]
    rw [spl_run r (cur ++ [c]) ls rest (fun x hx => h x (by simp [hx]))]
    simp
theorem spl_in : ∀ (l cur : List UInt8) (ls : List (List UInt8)) (rest : List UInt8), splP 44 true false cur ls (l.flatMap esc ++ rest) = splP 44 true false (cur ++ l.flatMap esc) ls rest
  | [], cur, ls, rest => by simp
  | c :: r, cur, ls, rest => by
    have ih := spl_in r
    rw [List.flatMap_cons]
    cases h34 : (c.toNat == 34) <;> cases h92 : (c.toNat == 92)
    · have he : esc c = [c] := by simp [esc, h34, h92]
      rw [he, List.append_assoc, List.singleton_append, splP, h34, h92]
      simp only [cond_false, Bool.and_false, Bool.not_true]
      rw [ih]; simp
    all_goals
      have he : esc c = [92, c] := by simp [esc, h34, h92]
      rw [he, List.append_assoc, List.cons_append, List.singleton_append, splP]
      simp only [cond_false, cond_true, Bool.true_and, show ((92 : UInt8).toNat == 92) = true from rfl]
      rw [splP, cond_true, ih]; simp
theorem spl_item {q : List UInt8} (h : goodQ q) (cur : List UInt8) (ls : List (List UInt8)) (rest : List UInt8) : splP 44 false false cur ls (q ++ rest) = splP 44 false false (cur ++ q) ls rest := by
  rcases h with h | ⟨l, _, rfl⟩
  · refine spl_run q cur ls rest fun c hc => ?_
    have hw := (token_all h).1 c hc
    refine ⟨(word_not hw).2.1, ?_⟩
    cases hb : (c.toNat == 44)
    · rfl
    · have : c = 44 := by rw [← UInt8.toNat_inj]; simpa using hb
      subst this; exact absurd hw (by decide)
  · rw [List.cons_append, List.append_assoc, splP]
    simp only [cond_false, Bool.false_and, show ((34 : UInt8).toNat == 34) = true from rfl, cond_true, Bool.not_false]
    rw [spl_in, List.singleton_append, splP]
    simp
theorem spl_comma (cur : List UInt8) (ls : List (List UInt8)) (rest : List UInt8) : splP 44 false false cur ls (44 :: rest) = splP 44 false false [] (addP ls (trimL cur)) rest := by
  rw [splP]; simp
theorem dw_app (p : UInt8 → Bool) : ∀ (g x : List UInt8), (∀ c ∈ g, p c = true) → (g ++ x).dropWhile p = x.dropWhile p
  | [], _, _ => rfl
  | c :: r, x, h => by rw [List.cons_append, List.dropWhile_cons_of_pos (h c (by simp)), dw_app p r x (fun y hy => h y (by simp [hy]))]
theorem good_ends {q : List UInt8} (h : goodQ q) : (∃ x y, q = x :: y ∧ blanks.contains x = false) ∧ ∃ x y, q.reverse = x :: y ∧ blanks.contains x = false := by
  rcases h with h | ⟨l, _, rfl⟩
  · have ht := token_all h
    constructor
    · cases q with
      | nil => exact absurd ht.2 (by decide)
      | cons x y => exact ⟨x, y, rfl, (word_not (ht.1 x (by simp))).1⟩
    · cases hr : q.reverse with
      | nil => rw [List.reverse_eq_nil_iff] at hr; subst hr; exact absurd ht.2 (by decide)
      | cons x y => exact ⟨x, y, rfl, (word_not (ht.1 x (by rw [← List.mem_reverse, hr]; simp))).1⟩
  · exact ⟨⟨34, _, rfl, by decide⟩, ⟨34, (l.flatMap esc).reverse ++ [34], by simp, by decide⟩⟩
theorem trim_good {q g g2 : List UInt8} (h : goodQ q) (hg : ∀ c ∈ g, blanks.contains c = true) (hg2 : ∀ c ∈ g2, blanks.contains c = true) : trimL ((g ++ q) ++ g2) = q := by
  obtain ⟨⟨x, y, e1, b1⟩, ⟨x2, y2, e2, b2⟩⟩ := good_ends h
  unfold trimL Lib.trimS Lib.trimLeftS Lib.trimRightS
  rw [List.reverse_append, dw_app _ _ _ (fun c hc => hg2 c (by simpa using hc)), List.reverse_append, e2, List.cons_append, List.dropWhile_cons_of_neg (by simp only [b2]; decide), ← List.cons_append, ← e2, ← List.reverse_append, List.reverse_reverse,
    dw_app _ _ _ hg, e1, List.dropWhile_cons_of_neg (by simp only [b1]; decide)]
theorem trim_blank (g : List UInt8) (hg : ∀ c ∈ g, blanks.contains c = true) : trimL g = [] := by
  unfold trimL Lib.trimS Lib.trimLeftS Lib.trimRightS
  have : g.reverse.dropWhile (fun x => blanks.contains x) = [] := by
    have := dw_app (fun x => blanks.contains x) g.reverse [] (fun c hc => hg c (by simpa using hc))
    rw [List.append_nil] at this; exact this
  rw [this]; rfl
theorem blank_not {c : UInt8} (h : blanks.contains c = true) : (c.toNat == 34) = false ∧ (c.toNat == 44) = false := by
  have : c = 32 ∨ c = 9 := by simpa [blanks] using h
  rcases this with e | e <;> subst e <;> exact ⟨rfl, rfl⟩
theorem addP_good {q : List UInt8} (h : goodQ q) (ls : List (List UInt8)) : addP ls q = ls ++ [q] := by
  obtain ⟨⟨x, y, rfl, _⟩, _⟩ := good_ends h
  rfl
theorem spl_tail (g : List UInt8) (hg : ∀ c ∈ g, blanks.contains c = true) : ∀ (r : List (List UInt8)) (q : List UInt8) (ls : List (List UInt8)), goodQ q → (∀ x ∈ r, goodQ x) →
    splP 44 false false (g ++ q) ls (Lib.joinTail (g ++ [44] ++ g) r ++ (g ++ [44])) = some (ls ++ q :: r)
  | [], q, ls, hq, _ => by
    have hr : Lib.joinTail (g ++ [44] ++ g) [] = [] := rfl
    rw [hr, List.nil_append, spl_run g _ _ _ (fun c hc => blank_not (hg c hc)), spl_comma, trim_good hq hg hg, addP_good hq]
    rfl
  | x :: r, q, ls, hq, hr => by
    have ih := spl_tail g hg r x (ls ++ [q]) (hr x (by simp)) (fun y hy => hr y (by simp [hy]))
    have hj : Lib.joinTail (g ++ [44] ++ g) (x :: r) = g ++ (44 :: (g ++ (x ++ Lib.joinTail (g ++ [44] ++ g) r))) := by
      simp [Lib.joinTail]
    rw [hj, List.append_assoc, spl_run g _ _ _ (fun c hc => blank_not (hg c hc)), List.cons_append, spl_comma, trim_good hq hg hg, addP_good hq, List.append_assoc, spl_run g _ _ _ (fun c hc => blank_not (hg c hc)), List.append_assoc, spl_item (hr x (by simp)), List.nil_append, ih]
    simp
theorem split_joined (g : List UInt8) (hg : ∀ c ∈ g, blanks.contains c = true) (ws : List (List UInt8)) (h : ∀ x ∈ ws, goodQ x) (hn : ws.length ≤ 64) :
    splitL 44 (((g ++ Lib.join ws (g ++ [44] ++ g)) ++ g) ++ [44]) = (ws, 0) := by
  have key : splP 44 false false [] [] (((g ++ Lib.join ws (g ++ [44] ++ g)) ++ g) ++ [44]) = some ws := by
    cases ws with
    | nil =>
      rw [Lib.join_nil, List.append_nil]
      have : (g ++ g) ++ [44] = (g ++ g) ++ (44 :: []) := rfl
      rw [this, spl_run (g ++ g) _ _ _ (fun c hc => blank_not (hg c (by simpa using hc))), spl_comma, List.nil_append, trim_blank _ (fun c hc => hg c (by simpa using hc))]
      rfl
    | cons q r =>
      have e : ((g ++ Lib.join (q :: r) (g ++ [44] ++ g)) ++ g) ++ [44] = g ++ (q ++ (Lib.joinTail (g ++ [44] ++ g) r ++ (g ++ [44]))) := by
        rw [Lib.join_cons]; simp
      rw [e, spl_run g _ _ _ (fun c hc => blank_not (hg c hc)), spl_item (h q (by simp)), List.nil_append, spl_tail g hg r q [] (h q (by simp)) (fun x hx => h x (by simp [hx]))]
      rfl
  unfold splitL
  rw [key, show ((44 : UInt8).toNat == 34 || (44 : UInt8).toNat == 92) = false from rfl]
  have : decide (64 < ws.length) = false := by simp; omega
  simp only [splitE, cond_false, this]
theorem repeat_blank (c : UInt8) (hc : blanks.contains c = true) : ∀ n, ∀ x ∈ Lib.repeatL [c] n, blanks.contains x = true
  | 0, x, h => by simp [Lib.repeatL] at h
  | n + 1, x, h => by
    rw [Lib.repeatL, List.singleton_append, List.mem_cons] at h
    rcases h with rfl | h
    · exact hc
    · exact repeat_blank c hc n x h
theorem good_quote {s : ByteArray} {q : List UInt8} (h : quoteO s = some q) : goodQ q := by
  unfold quoteO at h
  cases hp : s.data.toList.all plainb <;> rw [hp] at h <;> simp at h
  exact Or.inr ⟨_, hp, h.symm⟩
end Go.Proofs.YtclcigbcianimaaDoor
