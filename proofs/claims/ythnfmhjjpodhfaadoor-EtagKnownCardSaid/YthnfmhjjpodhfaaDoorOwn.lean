/- Texts in a slice that the call made; blocks of one cell. -/
import Derived.Test.YthnfmhjjpodhfaaDoorKit
import Derived.Test.YthnfmhjjpodhfaaDoorRd
import Derived.Maps.AppendAt
namespace Go.Proofs.YthnfmhjjpodhfaaDoor
open Go.RowKit

theorem uStr : (Tryd.prog.info? 9).map (fun i => (i.zero, i.size, i.bytes)) = some (some (.string ByteArray.empty), 1, 16) := by kernel_rfl
/-- A slice of texts that the call made. -/
def OwnS (B : Nat) (v : Value) (ls : List (List UInt8)) (w : World) : Prop := w.ownsRow B 9 1 v ls.length (ls.map fun l => Value.string ⟨l.toArray⟩)
theorem OwnS.shape {B : Nat} {v : Value} {ls : List (List UInt8)} {w : World} (h : OwnS B v ls w) : ∃ a cap, v = .slice a ls.length cap := by
  rcases h.2 with ⟨rfl, h0⟩ | ⟨g, cap, cur, rfl, _⟩
  · exact ⟨none, 0, by rw [h0]⟩
  · exact ⟨_, _, rfl⟩

theorem own_below {B : Nat} {e : TypeId} {size : Nat} {v : Value} {n : Nat} {xs : List Value} {w w1 : World} (h : w.ownsRow B e size v n xs) (hb : Below w.heap.size w w1) : w1.ownsRow B e size v n xs := by
  obtain ⟨h1, h2⟩ := h
  refine ⟨h1, ?_⟩
  rcases h2 with h2 | ⟨g, cap, cur, hv, hg, hh, r⟩
  · exact Or.inl h2
  · refine Or.inr ⟨g, cap, cur, hv, hg, ?_, r⟩
    have hlt : g < w.heap.size := by
      rcases Nat.lt_or_ge g w.heap.size with h' | h'
      · exact h'
      · simp [Array.getElem?_eq_none h'] at hh
    rw [hb.block g hlt]; exact hh
theorem OwnS.below {B : Nat} {v : Value} {ls : List (List UInt8)} {w w1 : World} (h : OwnS B v ls w) (hb : Below w.heap.size w w1) : OwnS B v ls w1 := own_below h hb
theorem of_heap {w : World} {b : Nat} {cs : Array Value} {T : TypeId} (h : w.heap[b]? = some (.cells cs T (0, 0))) (j : Nat) : w.cell? ⟨b, j, none⟩ = cs[j]? ∧ w.frozen? ⟨b, j, none⟩ = false ∧ b < w.heap.size := by
  refine ⟨by simp [World.cell?, h], by simp [World.frozen?, h], ?_⟩
  rcases Nat.lt_or_ge b w.heap.size with h' | h'
  · exact h'
  · simp [Array.getElem?_eq_none h'] at h
theorem heap_set {w : World} {b : Nat} {v u : Value} {T : TypeId} (h : w.heap[b]? = some (.cells #[u] T (0, 0))) : (w.setCell ⟨b, 0, none⟩ v).heap[b]? = some (.cells #[v] T (0, 0)) := by
  simp [World.setCell, Array.getElem?_modify, h]

theorem heap_set2 {w : World} {b c : Nat} {v u x : Value} {T : TypeId} (hne : c ≠ b) (h : w.heap[b]? = some (.cells #[u] T (0, 0))) : ((w.setCell ⟨b, 0, none⟩ v).setCell ⟨c, 0, none⟩ x).heap[b]? = some (.cells #[v] T (0, 0)) := by
  rw [Below.heap_setCell _ _ _ _ (by show b ≠ c; omega)]; exact heap_set h
theorem OwnS.cell {B n cap : Nat} {a : Option Addr} {ls : List (List UInt8)} {w : World} (h : OwnS B (.slice a n cap) ls w) (j : Nat) (hj : j < ls.length) :
    ∃ g, a = some ⟨g, 0, none⟩ ∧ w.cell? ⟨g, j, none⟩ = some (.string ⟨ls[j].toArray⟩) ∧ w.frozen? ⟨g, j, none⟩ = false := by
  rcases h.2 with ⟨_, h0⟩ | ⟨g, cp, cur, hv, hg, hh, hn, hc, hs, hx⟩
  · omega
  · cases hv
    refine ⟨g, rfl, ?_, by simp [World.frozen?, hh]⟩
    have h1 : cur[j]? = (cur.toList.take (ls.length * 1))[j]? := by
      rw [List.getElem?_take_of_lt (by omega), Array.getElem?_toList]
    have h2 : cur[j]? = some (.string ⟨ls[j].toArray⟩) := by
      rw [h1, hx, List.getElem?_map, List.getElem?_eq_getElem hj]; rfl
    simp only [World.cell?, hh]
    exact h2
theorem OwnS.base {B B' : Nat} {v : Value} {ls : List (List UInt8)} {w : World} (h : OwnS B v ls w) (hB : B' ≤ B) : OwnS B' v ls w := by
  refine ⟨h.1, ?_⟩
  rcases h.2 with h | ⟨g, cp, cur, hv, hg, r⟩
  · exact Or.inl h
  · exact Or.inr ⟨g, cp, cur, hv, by omega, r⟩
theorem OwnS.room {B n cap : Nat} {a : Option Addr} {ls : List (List UInt8)} {w : World} (h : OwnS B (.slice a n cap) ls w) : n = ls.length ∧ n ≤ cap ∧ (0 < n → ∃ g, a = some ⟨g, 0, none⟩ ∧ g < w.heap.size) := by
  rcases h.2 with ⟨hv, h0⟩ | ⟨g, cp, cur, hv, hg, hh, hn, hc, hs, hx⟩
  · cases hv; exact ⟨by omega, by omega, fun h => by omega⟩
  · cases hv
    refine ⟨rfl, hn, fun _ => ⟨g, rfl, ?_⟩⟩
    rcases Nat.lt_or_ge g w.heap.size with h' | h'
    · exact h'
    · simp [Array.getElem?_eq_none h'] at hh

/-! One element more at the end of a row that the call made. -/
/-- What an append leaves alone, and where the new row lies. -/
def Far (w w1 : World) (v v' : Value) : Prop := w.grownBy w1 v.ownBlock ∧ (v'.ownBlock = v.ownBlock ∨ ∀ g, v'.ownBlock = some g → w.heap.size ≤ g)
theorem wp_app_one {P : Program} {o : Oper} {a : Act} {K : Act → World → Prop} {Q : Exit → Act → World → Prop} (s x : Operand) (T E : TypeId)
    (ho : o.op = .call { callee := .builtin .append, args := #[s, x], argTypes := #[T, T] }) {z : Value} {size bytes : Nat} (ht : P.underlying T = some (.slice E)) (hinf : (P.info? E).map (fun i => (i.zero, i.size, i.bytes)) = some (some z, size, bytes))
    (hzs : z.cells.size = size) (hsz : 0 < size) (hbs : bytes ≤ 1000) {w wx : World} (B g : Nat) {v : Value} {n : Nat} {xs : List Value} (news : List Value) (hl : news.length = size) (h1 : ∀ u ∈ news, u.oneCell' = true)
    (hs : a.eval s = v) (hx : a.eval x = .slice (some ⟨g, 0, none⟩) 1 1) (hown : wx.ownsRow B E size v n xs) (hB : B ≤ w.heap.size) (hn : n ≤ 1000000000)
    (hc : ∀ j : Nat, wx.cell? ⟨g, j, none⟩ = news[j]?) (hwx : Below w.heap.size w wx)
    (hK : ∀ v' w1, w1.ownsRow B E size v' (n + 1) (xs ++ news) → Below B w w1 → Far wx w1 v v' → K (a.put o.dst v') w1) :
    o.wp P a wx K Q := by
  obtain ⟨i0, hi, hz0, hz1, hz2⟩ := info_parts hinf
  have hby : (n + 1) * bytes ≤ 1000000001 * 1000 := Nat.mul_le_mul (by omega) hbs
  have hsz2 := hwx.size
  obtain ⟨v', w', hr, h2, h3, _, h5⟩ := run_append_own_at (P := P) wx B T o.type E i0 z size bytes ht hi hz0 hz1 hz2 hzs hsz v n xs hown ⟨g, 0, none⟩ 1 1 news (by omega) (by
    intro j u hj
    have e : (⟨g, 0, none⟩ : Addr).add j = ⟨g, j, none⟩ := by
      unfold Addr.add; split <;> simp_all
    rw [e, hc, hj]) h1 (by unfold maxLen; omega) (by omega) (by omega)
  unfold Oper.wp execOp
  simp only [ho, resolve, invoke, builtin, Sem.run_bind, Sem.run_pure, Result.andThen_ok, List.map_toArray, List.map_cons, List.map_nil, hs, hx, hr]
  refine hK _ _ h2 ?_ ⟨h3, ?_⟩
  · exact (hwx.mono hB).grown h3 (by omega) (fun k hk => (hown.lt k hk).1)
  · rcases h5 with h | h
    · exact Or.inl h
    · refine Or.inr fun g hg => ?_
      rw [h] at hg
      have := Option.some.inj hg
      omega
theorem far_alloc {w w1 : World} {o : Obj} {v v' : Value} (h : Far (w.alloc o) w1 v v') : Far w w1 v v' := by
  obtain ⟨hgrow, hwhere⟩ := h
  have h0 := World.grownBy_alloc w o v.ownBlock
  refine ⟨⟨hgrow.os.trans h0.os, hgrow.tape.trans h0.tape, hgrow.output.trans h0.output, Nat.le_trans h0.size hgrow.size, fun k hk hne => (hgrow.block k (Nat.lt_of_lt_of_le hk h0.size) hne).trans (h0.block k hk hne)⟩, ?_⟩
  rcases hwhere with h | h
  · exact Or.inl h
  · exact Or.inr fun g hg => Nat.le_trans h0.size (h g hg)
theorem app_one {P : Program} {ops : Array Oper} {rest : List Oper} {o : Oper} {a : Act} {Q : Exit → Act → World → Prop} (hgd : o.guard = none) (s x : Operand) (T E : TypeId)
    (ho : o.op = .call { callee := .builtin .append, args := #[s, x], argTypes := #[T, T] }) {z : Value} {size bytes : Nat} (ht : P.underlying T = some (.slice E)) (hinf : (P.info? E).map (fun i => (i.zero, i.size, i.bytes)) = some (some z, size, bytes))
    (hzs : z.cells.size = size) (hsz : 0 < size) (hbs : bytes ≤ 1000) {w : World} (B : Nat) {v : Value} {n : Nat} {xs : List Value} (news : List Value) (hl : news.length = size) (h1 : ∀ u ∈ news, u.oneCell' = true)
    (hs : a.eval s = v) (hx : a.eval x = .slice (some ⟨w.heap.size, 0, none⟩) 1 1) (hown : w.ownsRow B E size v n xs) (hB : B ≤ w.heap.size) (hn : n ≤ 1000000000)
    (hK : ∀ v' w1, w1.ownsRow B E size v' (n + 1) (xs ++ news) → Below B w w1 → Far w w1 v v' → wpList P ops Q rest (a.put o.dst v') w1) :
    wpList P ops Q (o :: rest) a (w.alloc (.cells news.toArray E)) :=
  wpList_plain hgd fun _ hK' => wp_app_one s x T E ho ht hinf hzs hsz hbs B w.heap.size news hl h1 hs hx (hown.alloc _) hB hn (fun j => by rw [World.cell?_alloc_mark]; simp) ((Below.refl _ w).alloc (Nat.le_refl _) _)
    fun v' w1 h2 h3 h4 => hK' _ _ (hK v' w1 h2 h3 (far_alloc h4))
/-- The same in a region that draws its order: the block lies behind a draw. -/
theorem step_app_one {P : Program} {ops : Array Oper} {o : Oper} {a : Act} {K : Act → World → Prop} {Q : Exit → Act → World → Prop} {G : Prop} (hgd : o.guard = none) (s x : Operand) (T E : TypeId)
    (ho : o.op = .call { callee := .builtin .append, args := #[s, x], argTypes := #[T, T] }) {z : Value} {size bytes : Nat} (ht : P.underlying T = some (.slice E)) (hinf : (P.info? E).map (fun i => (i.zero, i.size, i.bytes)) = some (some z, size, bytes))
    (hzs : z.cells.size = size) (hsz : 0 < size) (hbs : bytes ≤ 1000) {w : World} (B : Nat) {v : Value} {n : Nat} {xs : List Value} (news : List Value) (hl : news.length = size) (h1 : ∀ u ∈ news, u.oneCell' = true)
    (hs : a.eval s = v) (hx : a.eval x = .slice (some ⟨w.heap.size, 0, none⟩) 1 1) (hown : w.ownsRow B E size v n xs) (hB : B ≤ w.heap.size) (hn : n ≤ 1000000000)
    (hK : ∀ v' w1, w1.ownsRow B E size v' (n + 1) (xs ++ news) → Below B w w1 → Far w w1 v v' → K (a.put o.dst v') w1) :
    if Region.wanted o (yielded ops a.tmps) = true then Oper.wp P o a (w.alloc (.cells news.toArray E)) K Q else G := by
  have hw : Region.wanted o (yielded ops a.tmps) = true := by simp [Region.wanted, hgd]
  rw [if_pos hw]
  exact wp_app_one s x T E ho ht hinf hzs hsz hbs B w.heap.size news hl h1 hs hx (hown.alloc _) hB hn (fun j => by rw [World.cell?_alloc_mark]; simp) ((Below.refl _ w).alloc (Nat.le_refl _) _)
    fun v' w1 h2 h3 h4 => hK v' w1 h2 h3 (far_alloc h4)
theorem app_str {ops : Array Oper} {rest : List Oper} {o : Oper} {a : Act} {Q : Exit → Act → World → Prop} (B : Nat) (y : List UInt8) {w : World} {v : Value} {ls : List (List UInt8)} (hown : OwnS B v ls w) (hB : B ≤ w.heap.size) (hn : ls.length ≤ 1000000000)
    (hgd : o.guard = none) (s x : Operand) (ho : o.op = .call { callee := .builtin .append, args := #[s, x], argTypes := #[28, 28] })
    (hs : a.eval s = v) (hx : a.eval x = .slice (some ⟨w.heap.size, 0, none⟩) 1 1)
    (hK : ∀ v' w1, OwnS B v' (ls ++ [y]) w1 → Below B w w1 → Far w w1 v v' → wpList Tryd.prog ops Q rest (a.put o.dst v') w1) :
    wpList Tryd.prog ops Q (o :: rest) a (w.alloc (.cells #[.string ⟨y.toArray⟩] 9)) := by
  refine app_one (z := .string ByteArray.empty) (bytes := 16) (n := ls.length) hgd s x 28 9 ho Tryd.underlying28 uStr rfl (by decide) (by decide) B [.string ⟨y.toArray⟩] rfl (by intro u hu; simp at hu; subst hu; rfl) hs hx hown hB hn ?_
  intro v' w1 h1 h2 h3
  refine hK v' w1 ?_ h2 h3
  show World.ownsRow _ _ _ _ _ _ _
  rw [List.length_append, List.length_singleton, List.map_append]
  exact h1
theorem OwnS.drew {B : Nat} {v : Value} {ls : List (List UInt8)} {w : World} (h : OwnS B v ls w) : OwnS B v ls w.drew := h
theorem OwnS.nil (B : Nat) (w : World) : OwnS B (.slice none 0 0) [] w := World.ownsRow_nil _ _ _ _
/-- Texts that are handed back in a slice of the call's own. -/
def TextsPost (w : World) (ls : List (List UInt8)) (e : Ending) (w' : World) : Prop :=
  ∃ a cap, e = .returned (.slice a ls.length cap) ∧ OwnS w.heap.size (.slice a ls.length cap) ls w' ∧ Below w.heap.size w w'
theorem OwnS.rd {B m cap : Nat} {a : Option Addr} {ls : List (List UInt8)} {w : World} (h : OwnS B (.slice a m cap) ls w) : m = ls.length ∧ Rd a ls.length 1 (strsV ls) w := Rd.of_own h
/-- v's row is none of those that lie behind A. -/
def Sep (v : Value) (A : Option Addr) (n : Nat) : Prop := 0 < n → ∀ g o, A = some ⟨g, o, none⟩ → v.ownBlock ≠ some g
theorem Rd.far {A : Option Addr} {n size : Nat} {xs : List Value} {w w1 : World} {v v' : Value} (h : Rd A n size xs w) (hf : Far w w1 v v') (hs : Sep v A n) : Rd A n size xs w1 ∧ Sep v' A n := by
  refine ⟨⟨h.1, fun hn => ?_⟩, fun hn g o e => ?_⟩
  · obtain ⟨b, o, e, hl, hc⟩ := h.2 hn
    have hb := hf.1.block b hl (fun x => hs hn b o e x.symm)
    exact ⟨b, o, e, Nat.lt_of_lt_of_le hl hf.1.size, fun j u hu => (World.cell?_of_block (a := ⟨b, o + j, none⟩) hb).trans (hc j u hu)⟩
  · obtain ⟨b, o', e', hl, _⟩ := h.2 hn
    rw [e'] at e
    cases e
    rcases hf.2 with h2 | h2
    · rw [h2]; exact hs hn _ _ e'
    · intro x; have := h2 _ x; omega
/-- What lies in new blocks is none of an elder row. -/
theorem Sep.new {v : Value} {B n : Nat} {e : TypeId} {m size : Nat} {xs : List Value} {w : World} {A : Option Addr} (h : w.ownsRow B e size v m xs) (ha : ∀ g o, A = some ⟨g, o, none⟩ → w.heap.size ≤ g) : Sep v A n := by
  intro _ g o e x
  have := (h.lt g x).2
  have := ha g o e
  omega
theorem own_new {B : Nat} {e : TypeId} {size : Nat} {a : Option Addr} {m n cap : Nat} {xs : List Value} {w : World} (h : w.ownsRow B e size (.slice a m cap) n xs) : ∀ g o, a = some ⟨g, o, none⟩ → B ≤ g := by
  intro g o e
  exact (h.lt g (by rw [e]; rfl)).1
end Go.Proofs.YthnfmhjjpodhfaaDoor
