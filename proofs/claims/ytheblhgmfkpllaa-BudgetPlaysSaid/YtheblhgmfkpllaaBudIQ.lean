/- The contracts of budget.Budget over plain lists (printed by wip/tools/budq.py). -/
import Derived.Test.YtheblhgmfkpllaaBudIP
namespace Go.Proofs.Ytheblhgmfkpllaa
open Go.RowKit
set_option maxRecDepth 100000

/-- A budget stands here, in these blocks, and keeps this. -/
def BQI (w : World) (fp : List Nat) (bl : Nat) (n m : Int) (es : List Ent) : Prop :=
  ∃ r M xs, fp = bl :: M :: r :: xs.map Prod.fst ∧ es = xs.map Prod.snd ∧ BudI w bl r M n m xs ∧ (1 ≤ n ∧ n ≤ 4096) ∧ (1 ≤ m ∧ m ≤ 1073741824) ∧ (es.length : Int) ≤ n ∧ sumE es ≤ m
/-- A call turned it to this. -/
def StI (w w' : World) (fp : List Nat) (bl : Nat) (n m : Int) (es : List Ent) : Prop := ∃ fp', BQI w' fp' bl n m es ∧ Touch fp w w' ∧ ∀ b ∈ fp', b ∈ fp ∨ w.heap.size ≤ b
theorem BQI.low {w : World} {fp : List Nat} {bl : Nat} {n m : Int} {es : List Ent} (h : BQI w fp bl n m es) : ∀ b ∈ fp, b < w.heap.size := by
  obtain ⟨r, M, xs, rfl, rfl, h, _⟩ := h
  exact h.low
theorem BQI.keep {w w' : World} {fp fp2 : List Nat} {bl : Nat} {n m : Int} {es : List Ent} (h : BQI w fp bl n m es) (ht : Touch fp2 w w') (hs : ∀ b ∈ fp, b ∉ fp2) : BQI w' fp bl n m es := by
  have hl := h.low
  obtain ⟨r, M, xs, rfl, rfl, h, r⟩ := h
  exact ⟨_, M, xs, rfl, rfl, h.of (fun b hb => ht.2.2.2.2 b (hl b hb) (hs b hb)), r⟩
theorem BQI.below {w w' : World} {fp : List Nat} {bl : Nat} {n m : Int} {es : List Ent} (h : BQI w fp bl n m es) (hb : Below w.heap.size w w') : BQI w' fp bl n m es := by
  have hl := h.low
  obtain ⟨r, M, xs, rfl, rfl, h, r⟩ := h
  exact ⟨_, M, xs, rfl, rfl, h.below hb hl, r⟩
theorem BQI.nd {w : World} {fp : List Nat} {bl : Nat} {n m : Int} {es : List Ent} (h : BQI w fp bl n m es) : (es.map (·.key)).Nodup := by
  obtain ⟨r, M, xs, rfl, rfl, h, _⟩ := h
  have := h.kn
  have e : (kvL xs).map Prod.fst = (xs.map Prod.snd).map (·.key) := by simp [kvL]
  rw [← e]; exact this
theorem BQI.sz {w : World} {fp : List Nat} {bl : Nat} {n m : Int} {es : List Ent} (h : BQI w fp bl n m es) : ∀ e ∈ es, (0 ≤ e.size ∧ e.size ≤ 1073741824) ∧ e.key.size ≤ maxLen := by
  obtain ⟨r, M, xs, rfl, rfl, h, _⟩ := h
  intro e he
  obtain ⟨p, hp, rfl⟩ := List.mem_map.1 he
  exact ⟨h.sz p hp, h.ks p hp⟩
theorem BQI.ends {w : World} {fp : List Nat} {bl : Nat} {n m : Int} {es : List Ent} (h : BQI w fp bl n m es) : (es.length : Int) ≤ n ∧ 0 ≤ sumE es ∧ sumE es ≤ m ∧ n ≤ 4096 ∧ m ≤ 1073741824 ∧ 1 ≤ n ∧ 1 ≤ m := by
  obtain ⟨r, M, xs, rfl, rfl, h, hn, hm, h1, h2⟩ := h
  have := sumL_nn h.sz h.len
  rw [sumL_map] at this
  exact ⟨h1, this.1, h2, hn.2, hm.2, hn.1, hm.1⟩
theorem StI.same {w : World} {fp : List Nat} {bl : Nat} {n m : Int} {es : List Ent} (h : BQI w fp bl n m es) : StI w w fp bl n m es := ⟨fp, h, Touch.refl _ _, fun _ hb => Or.inl hb⟩
theorem dropI_q {w : World} {fp : List Nat} {bl : Nat} {n m : Int} {es : List Ent} (h : BQI w fp bl n m es) (key : ByteArray) (hkey : key.size ≤ maxLen) :
    Calls Try.prog 27 #[.pointer (some ⟨bl, 0, none⟩), .string key] w fun x w' => x = .returned (.bool (hasE key es)) ∧ StI w w' fp bl n m (delE key es) := by
  obtain ⟨r, M, xs, rfl, rfl, h, hn, hm, h1, h2⟩ := h
  refine (dropI_all h key hkey).mono ?_
  rintro x w' ⟨rfl, ys, e1, e2, e3, hb, ht⟩
  refine ⟨rfl, _, ⟨r, M, ys, rfl, e1.symm, hb, hn, hm, ?_, ?_⟩, ht, fun b hb' => Or.inl (((((e2.map Prod.fst).cons_cons r).cons_cons M).cons_cons bl).subset hb')⟩
  · have := e2.length_le
    rw [← e1, List.length_map]
    rw [List.length_map] at h1
    omega
  · rw [← e1]
    exact Int.le_trans (sumE_sub (e2.map _) (fun e he => by obtain ⟨p, hp, rfl⟩ := List.mem_map.1 he; exact (h.sz p hp).1)) h2
theorem peekI_q {w : World} {fp : List Nat} {bl : Nat} {n m : Int} {es : List Ent} (h : BQI w fp bl n m es) (key : ByteArray) (hkey : key.size ≤ maxLen) :
    Calls Try.prog 10 #[.pointer (some ⟨bl, 0, none⟩), .string key] w fun x w' => x = .returned (.tuple #[valE zeI.x key es, .bool (hasE key es)]) ∧ w = w' := by
  obtain ⟨r, M, xs, rfl, rfl, h, hn, hm, h1, h2⟩ := h
  unfold valE hasE
  rcases split_keyL key xs h.kn with ⟨h1, h2, h3, h4⟩ | ⟨p, l, e, q, rfl, rfl, h3, h4, h5⟩
  · rw [h1]; exact peekI_none h key hkey h3
  · rw [h3]; exact peekI_any h (l := l) (e := e) (by simp)
theorem getI_q {w : World} {fp : List Nat} {bl : Nat} {n m : Int} {es : List Ent} (h : BQI w fp bl n m es) (key : ByteArray) (hkey : key.size ≤ maxLen) :
    Calls Try.prog 25 #[.pointer (some ⟨bl, 0, none⟩), .string key] w fun x w' => x = .returned (.tuple #[valE zeI.x key es, .bool (hasE key es)]) ∧ StI w w' fp bl n m (getE key es) := by
  have h0 := h
  obtain ⟨r, M, xs, rfl, rfl, h, hn, hm, h1, h2⟩ := h
  unfold valE hasE getE
  rcases split_keyL key xs h.kn with ⟨e1, e2, e3, e4⟩ | ⟨p, l, e, q, rfl, rfl, e3, e4, e5⟩
  · rw [e1]
    refine (getI_none h key hkey e3).mono ?_
    rintro x w' ⟨rfl, rfl⟩
    exact ⟨rfl, StI.same h0⟩
  · rw [e3]
    refine (getI_any h).mono ?_
    rintro x w' ⟨rfl, hb, ht⟩
    refine ⟨rfl, _, ⟨r, M, p ++ q ++ [(l, e)], rfl, by show delE e.key ((p ++ (l, e) :: q).map Prod.snd) ++ [e] = _; rw [e4]; simp only [List.map_append, List.map_cons, List.map_nil], hb, hn, hm, ?_, ?_⟩, ht, fun b hb' => Or.inl ?_⟩
    · simp only [e4]
      simp only [List.length_append, List.length_map, List.length_cons, List.length_nil] at h1 ⊢
      omega
    · simp only [e4]
      simp only [List.map_append, List.map_cons, sumE_app, sumE] at h2 ⊢
      omega
    · simp only [List.map_append, List.map_cons, List.map_nil, List.mem_cons, List.mem_append, List.not_mem_nil, or_false] at hb' ⊢
      rcases hb' with h | h | h | (h | h) | h <;> simp [h]
theorem lenI_q {w : World} {fp : List Nat} {bl : Nat} {n m : Int} {es : List Ent} (h : BQI w fp bl n m es) :
    Calls Try.prog 13 #[.pointer (some ⟨bl, 0, none⟩)] w fun x w' => x = .returned (.int .i64 es.length) ∧ w = w' := by
  obtain ⟨r, M, xs, rfl, rfl, h, hn, hm, h1, h2⟩ := h
  refine (lenI_any h).mono ?_
  rintro x w' ⟨rfl, rfl⟩
  exact ⟨by rw [List.length_map]; rfl, rfl⟩
theorem bytesI_q {w : World} {fp : List Nat} {bl : Nat} {n m : Int} {es : List Ent} (h : BQI w fp bl n m es) :
    Calls Try.prog 14 #[.pointer (some ⟨bl, 0, none⟩)] w fun x w' => x = .returned (.int .i64 (sumE es)) ∧ w = w' := by
  obtain ⟨r, M, xs, rfl, rfl, h, hn, hm, h1, h2⟩ := h
  rw [← sumL_map]
  exact bytesI_any h
theorem keysI_q {w : World} {fp : List Nat} {bl : Nat} {n m : Int} {es : List Ent} (h : BQI w fp bl n m es) :
    Calls Try.prog 9 #[.pointer (some ⟨bl, 0, none⟩)] w (TextsPost w (strs (es.map (·.key)))) := by
  obtain ⟨r, M, xs, rfl, rfl, h, hn, hm, h1, h2⟩ := h
  have e : (xs.map Prod.snd).map (·.key) = keysL xs := by simp [keysL]
  rw [e]
  exact keysI_any h
theorem putI_q {w : World} {fp : List Nat} {bl : Nat} {n m : Int} {es : List Ent} (h : BQI w fp bl n m es) (key : ByteArray) (hkey : key.size ≤ maxLen) (s : Int) (x0 : Int) :
    Calls Try.prog 26 #[.pointer (some ⟨bl, 0, none⟩), .string key, .int .i64 s, .int .i64 x0] w fun x w' => ∃ a cap fp', x = .returned (.slice a (putE n m key s (.int .i64 x0) es).1.length cap) ∧ OwnS w.heap.size (.slice a (putE n m key s (.int .i64 x0) es).1.length cap) (strs (putE n m key s (.int .i64 x0) es).1) w' ∧
      BQI w' fp' bl n m (putE n m key s (.int .i64 x0) es).2 ∧ Touch fp w w' ∧ (∀ b ∈ fp', b ∈ fp ∨ w.heap.size ≤ b) ∧ ∀ g, (Value.slice a (putE n m key s (.int .i64 x0) es).1.length cap).ownBlock = some g → g ∉ fp' := by
  have hends : ((putE n m key s (.int .i64 x0) es).2.length : Int) ≤ n ∧ sumE (putE n m key s (.int .i64 x0) es).2 ≤ m := by
    have he := h.ends
    unfold putE
    split
    · have hs : (delE key es).Sublist es := List.filter_sublist
      have h1 := hs.length_le
      have h2 := sumE_sub hs (fun e he => (h.sz e he).1.1)
      exact ⟨by simp only; omega, by simp only; omega⟩
    · exact evE_end he.2.2.2.2.2.1 he.2.2.2.2.2.2 _
  obtain ⟨r, M, xs, rfl, rfl, h, hn, hm, h1, h2⟩ := h
  refine (putI_any h hn hm (by rw [List.length_map] at h1; exact h1) key hkey s x0).mono ?_
  rintro x w' ⟨a, cap, ys, rfl, e1, hb, hO, hg, ht, hf⟩
  exact ⟨a, cap, _, rfl, hO, ⟨r, M, ys, rfl, e1.symm, hb, hn, hm, hends.1, hends.2⟩, ht, hf, hg⟩
theorem newI_q (n m : Int) (w : World) (hn : 1 ≤ n ∧ n ≤ 4096) (hm : 1 ≤ m ∧ m ≤ 1073741824) :
    Calls Try.prog 7 #[.int .i64 n, .int .i64 m] w fun x w' => ∃ bl fp, x = .returned (.pointer (some ⟨bl, 0, none⟩)) ∧ BQI w' fp bl n m [] ∧ Below w.heap.size w w' ∧ ∀ b ∈ fp, w.heap.size ≤ b := by
  refine (newI_any n m w hn hm).mono ?_
  rintro x w' ⟨bl, r, M, rfl, hb, hbw, hf⟩
  exact ⟨bl, _, rfl, ⟨r, M, [], rfl, rfl, hb, hn, hm, by simp; omega, by simp [sumE]; omega⟩, hbw, hf⟩
end Go.Proofs.Ytheblhgmfkpllaa
