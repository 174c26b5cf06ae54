/- lists of things of four cells that are nobody else's: what ownRow 43 and ownUpdates 49 lean on. -/
import Derived.Test.YtpoilgeffpedoaaOb
namespace Go.Proofs.Ytpoilgeffpedoaa
open Go.RowKit Go.Pen

def mkc (C : Int → List Value) (j L : Nat) : List Value := (List.range L).flatMap fun q : Nat => C ((j : Int) * 1000 + (q : Int))
def ngc (C : Int → List Value) (j L : Nat) : List Value := (List.range L).flatMap fun q : Nat => C ((-1 - (j : Int)) * 1000 + (q : Int))

theorem fm4_len {f : Nat → List Value} (h : ∀ q, (f q).length = 4) (L : Nat) : ((List.range L).flatMap f).length = L * 4 := by
  induction L with
  | zero => rfl
  | succ L ih => rw [List.range_succ, List.flatMap_append, List.length_append, ih]; simp [h]; omega

theorem fm4_at {f : Nat → List Value} (h : ∀ q, (f q).length = 4) : ∀ (L q r : Nat), q < L → r < 4 → ((List.range L).flatMap f)[q * 4 + r]? = (f q)[r]? := by
  intro L
  induction L with
  | zero => intro q r hq _; omega
  | succ L ih =>
    intro q r hq hr
    rw [List.range_succ, List.flatMap_append]
    rcases Nat.lt_or_ge q L with h1 | h1
    · rw [List.getElem?_append_left (by rw [fm4_len h]; omega)]
      exact ih q r h1 hr
    · obtain rfl : q = L := by omega
      rw [List.getElem?_append_right (by rw [fm4_len h]; omega), fm4_len h, Nat.add_sub_cancel_left]
      simp

theorem mkc_len {C : Int → List Value} (h : ∀ x, (C x).length = 4) (j L : Nat) : (mkc C j L).length = L * 4 := fm4_len (f := fun q : Nat => C ((j : Int) * 1000 + (q : Int))) (fun _ => h _) L
theorem ngc_len {C : Int → List Value} (h : ∀ x, (C x).length = 4) (j L : Nat) : (ngc C j L).length = L * 4 := fm4_len (f := fun q : Nat => C ((-1 - (j : Int)) * 1000 + (q : Int))) (fun _ => h _) L
theorem mkc_at {C : Int → List Value} (h : ∀ x, (C x).length = 4) {j L q r : Nat} (hq : q < L) (hr : r < 4) : (mkc C j L)[q * 4 + r]? = (C ((j : Int) * 1000 + (q : Int)))[r]? := fm4_at (f := fun q : Nat => C ((j : Int) * 1000 + (q : Int))) (fun _ => h _) L q r hq hr
theorem ngc_at {C : Int → List Value} (h : ∀ x, (C x).length = 4) {j L q r : Nat} (hq : q < L) (hr : r < 4) : (ngc C j L)[q * 4 + r]? = (C ((-1 - (j : Int)) * 1000 + (q : Int)))[r]? := fm4_at (f := fun q : Nat => C ((-1 - (j : Int)) * 1000 + (q : Int))) (fun _ => h _) L q r hq hr
theorem ngc_succ (C : Int → List Value) (j k : Nat) : ngc C j k ++ C ((-1 - (j : Int)) * 1000 + (k : Int)) = ngc C j (k + 1) := by
  unfold ngc
  rw [List.range_succ, List.flatMap_append]; simp

/-- the state of the lists while the marks are laid: p cells of list i are done -/
def Mk4 (e : TypeId) (C : Int → List Value) (n : Nat) (v : Nat → Value) (ln : Nat → Nat) (w0 : World) (i p : Nat) (wr : World) : Prop :=
  Only (SV n v) w0 wr ∧
    ∃ X : Nat → List Value, (∀ j, j < n → wr.ownsRow 0 e 4 (v j) (ln j) (X j)) ∧ (∀ j q, j < n → q < ln j * 4 → (j < i ∨ j = i ∧ q < p) → (X j)[q]? = (mkc C j (ln j))[q]?)

theorem mk4_step {e : TypeId} {C : Int → List Value} {n : Nat} {v : Nat → Value} {ln : Nat → Nat} {w0 wr : World} {i p g c : Nat} {x : Value} (h : Mk4 e C n v ln w0 i p wr) (ha : Apart n v) (hi : i < n) (hp : p < ln i * 4) (hv : v i = .slice (some ⟨g, 0, none⟩) (ln i) c)
    (hx : (mkc C i (ln i))[p]? = some x) : Mk4 e C n v ln w0 i (p + 1) (wr.setCell ⟨g, p, none⟩ x) := by
  obtain ⟨ho, X, hX, hm⟩ := h
  refine ⟨ho.set ⟨i, hi, by rw [hv]; rfl⟩, _, own_put hX ha hi hv, fun j q hj hq hjq => ?_⟩
  have hlen := (hX i hi).1
  by_cases hji : j = i
  · subst hji
    rw [if_pos rfl, List.getElem?_set]
    by_cases e : p = q
    · subst e
      rw [if_pos rfl, if_pos (by omega), hx]
    · rw [if_neg e]
      exact hm j q hj hq (by omega)
  · rw [if_neg hji]
    exact hm j q hj hq (by omega)

theorem mk4_next {e : TypeId} {C : Int → List Value} {n : Nat} {v : Nat → Value} {ln : Nat → Nat} {w0 wr : World} {i : Nat} (h : Mk4 e C n v ln w0 i (ln i * 4) wr) : Mk4 e C n v ln w0 (i + 1) 0 wr := by
  obtain ⟨ho, X, hX, hm⟩ := h
  refine ⟨ho, X, hX, fun j q hj hq hjq => hm j q hj hq ?_⟩
  rcases hjq with h1 | ⟨-, h2⟩
  · rcases Nat.lt_or_eq_of_le (Nat.le_of_lt_succ h1) with h3 | rfl
    · exact .inl h3
    · exact .inr ⟨rfl, hq⟩
  · omega

/-- a list reads as its marks -/
def Rd4 (e : TypeId) (C : Int → List Value) (v : Nat → Value) (ln : Nat → Nat) (j : Nat) (w : World) : Prop := ∀ g, (v j).ownBlock = some g → (∃ cur : Array Value, w.heap[g]? = some (Obj.cells cur e (0, 0))) ∧ ∀ q u, (mkc C j (ln j))[q]? = some u → w.cell? ⟨g, q, none⟩ = some u

theorem Rd4.frame {e : TypeId} {C : Int → List Value} {v : Nat → Value} {ln : Nat → Nat} {j : Nat} {w w' : World} (h : Rd4 e C v ln j w) (hf : ∀ g, (v j).ownBlock = some g → g < w.heap.size → w'.heap[g]? = w.heap[g]?) : Rd4 e C v ln j w' := by
  intro g hg
  obtain ⟨⟨cur, h1⟩, h2⟩ := h g hg
  have hb := hf g hg (lt_of_heap h1)
  exact ⟨⟨cur, hb.trans h1⟩, fun q u hq => by rw [World.cell?_of_block hb]; exact h2 q u hq⟩

theorem Rd4.of_own {e : TypeId} {C : Int → List Value} {ln : Nat → Nat} {j : Nat} {w : World} {x : Value} {L : Nat} {ys : List Value} (h : w.ownsRow 0 e 4 x L (mkc C j (ln j) ++ ys)) {g : Nat} (hg : x.ownBlock = some g) : (∃ cur : Array Value, w.heap[g]? = some (Obj.cells cur e (0, 0))) ∧ ∀ q u, (mkc C j (ln j))[q]? = some u → w.cell? ⟨g, q, none⟩ = some u := by
  refine ⟨(ownsRow_block h hg).2.2, fun q u hq => ?_⟩
  have := h.cells hg q _ (by rw [List.getElem?_append_left (List.getElem?_eq_some_iff.1 hq).1]; exact hq)
  rwa [add_lit, Nat.zero_add] at this

/-- a long list that is done -/
def XO4 (e : TypeId) (C : Int → List Value) (v : Nat → Value) (ln : Nat → Nat) (s0 j : Nat) (x : Value) (W : Nat) (w : World) : Prop :=
  w.ownsRow 0 e 4 x (ln j + 8) (mkc C j (ln j) ++ ngc C j 8) ∧ ∀ g, x.ownBlock = some g → g < W ∧ ((v j).ownBlock = some g ∨ s0 ≤ g)

/-- the state while the lists grow: m are done -/
structure Gr4 (e tl : TypeId) (C : Int → List Value) (n : Nat) (v : Nat → Value) (ln : Nat → Nat) (w0 : World) (m : Nat) (lv : Value) (wr : World) : Prop where
  only : Only (SV n v) w0 wr
  rest : ∀ j, m ≤ j → j < n → wr.ownsRow 0 e 4 (v j) (ln j) (mkc C j (ln j))
  rd : ∀ j, j < m → Rd4 e C v ln j wr
  long : ∃ xv : Nat → Value, wr.ownsRow w0.heap.size tl 1 lv m ((List.range m).map xv) ∧ ∀ j, j < m → XO4 e C v ln w0.heap.size j (xv j) wr.heap.size wr

theorem gr4_start {e tl : TypeId} {C : Int → List Value} (hC : ∀ x, (C x).length = 4) {n : Nat} {v : Nat → Value} {ln : Nat → Nat} {w0 wr : World} (h : Mk4 e C n v ln w0 n 0 wr) : Gr4 e tl C n v ln w0 0 (.slice none 0 0) wr := by
  obtain ⟨ho, X, hX, hm⟩ := h
  refine ⟨ho, fun j _ hj => ?_, fun j hj => absurd hj (Nat.not_lt_zero _), fun _ => .slice none 0 0, World.ownsRow_nil _ _ _ _, fun j hj => absurd hj (Nat.not_lt_zero _)⟩
  have hx := hX j hj
  have hl := hx.1
  have e : X j = mkc C j (ln j) := by
    refine List.ext_getElem? fun q => ?_
    rcases Nat.lt_or_ge q (ln j * 4) with h | h
    · exact hm j q hj h (.inl hj)
    · rw [List.getElem?_eq_none (by omega), List.getElem?_eq_none (by rw [mkc_len hC]; exact h)]
  rw [← e]; exact hx

/-- one list grows: k are appended -/
structure In4 (e tl : TypeId) (C : Int → List Value) (n : Nat) (v : Nat → Value) (ln : Nat → Nat) (w0 : World) (m : Nat) (lv : Value) (xv : Nat → Value) (W k : Nat) (x : Value) (wr : World) : Prop where
  only : Only (SV n v) w0 wr
  rest : ∀ j, m < j → j < n → wr.ownsRow 0 e 4 (v j) (ln j) (mkc C j (ln j))
  rd : ∀ j, j ≤ m → Rd4 e C v ln j wr
  long : wr.ownsRow w0.heap.size tl 1 lv m ((List.range m).map xv)
  done : ∀ j, j < m → XO4 e C v ln w0.heap.size j (xv j) W wr
  cur : wr.ownsRow 0 e 4 x (ln m + k) (mkc C m (ln m) ++ ngc C m k)
  place : ∀ g, x.ownBlock = some g → (v m).ownBlock = some g ∨ W ≤ g
  low : w0.heap.size ≤ W
  high : W ≤ wr.heap.size

theorem in4_start {e tl : TypeId} {C : Int → List Value} {n : Nat} {v : Nat → Value} {ln : Nat → Nat} {w0 wr : World} {m : Nat} {lv : Value} (h : Gr4 e tl C n v ln w0 m lv wr) (hm : m < n) : ∃ xv, In4 e tl C n v ln w0 m lv xv wr.heap.size 0 (v m) wr := by
  obtain ⟨xv, h1, h2⟩ := h.long
  have ho := h.rest m (Nat.le_refl _) hm
  refine ⟨xv, h.only, fun j h1 h2 => h.rest j (by omega) h2, fun j hj => ?_, h1, h2, by simpa [ngc] using ho, fun g hg => .inl hg, h.only.size, Nat.le_refl _⟩
  rcases Nat.lt_or_eq_of_le hj with h3 | rfl
  · exact h.rd j h3
  · intro g hg
    have ho := h.rest j (Nat.le_refl _) hm
    rw [← List.append_nil (mkc C j (ln j))] at ho
    exact Rd4.of_own ho hg

theorem in4_step {e tl : TypeId} (htl : tl ≠ e) {C : Int → List Value} {n : Nat} {v : Nat → Value} {ln : Nat → Nat} {w0 wr w1 w2 : World} {m W k : Nat} {lv x x' : Value} {xv : Nat → Value} (h : In4 e tl C n v ln w0 m lv xv W k x wr) (ha : Apart n v) (hm : m < n) (hvl : ∀ j g, j < n → (v j).ownBlock = some g → g < w0.heap.size)
    (hb : Below wr.heap.size wr w1) (hown : w2.ownsRow 0 e 4 x' (ln m + k + 1) (mkc C m (ln m) ++ ngc C m k ++ C ((-1 - (m : Int)) * 1000 + (k : Int)))) (hold : w2.ownsRow 0 e 4 x (ln m + k) (mkc C m (ln m) ++ ngc C m k))
    (hg : w1.grownBy w2 x.ownBlock) (hp : x'.ownBlock = x.ownBlock ∨ ∀ g, x'.ownBlock = some g → w1.heap.size ≤ g) : In4 e tl C n v ln w0 m lv xv W (k + 1) x' w2 := by
  have hs1 := hb.size
  have hs2 := hg.size
  have hlow := h.low
  have hhigh := h.high
  have fr : ∀ g, g < wr.heap.size → x.ownBlock ≠ some g → w2.heap[g]? = wr.heap[g]? := fun g hgl hgx => (hg.block g (by omega) (fun e => hgx e.symm)).trans (hb.block g hgl)
  have hxb : ∀ g, x.ownBlock = some g → ∃ cur, wr.heap[g]? = some (.cells cur e (0, 0)) := fun g hgx => (ownsRow_block h.cur hgx).2.2
  have hvx : ∀ j g, j < n → j ≠ m → (v j).ownBlock = some g → x.ownBlock ≠ some g := fun j g hj hjm hgj e => by
    rcases h.place g e with h1 | h1
    · exact hjm (ha j m g hj hm hgj h1)
    · have := hvl j g hj hgj; omega
  refine ⟨?_, fun j h1 h2 => ?_, fun j hj => ?_, ?_, fun j hj => ?_, ?_, fun g hgx => ?_, hlow, by omega⟩
  · refine Only.grown (h.only.trans (Only.of_below hb)) hg fun g hgx => ?_
    rcases h.place g hgx with h1 | h1
    · exact .inl ⟨m, hm, h1⟩
    · exact .inr (by omega)
  · have ho := h.rest j h1 h2
    exact ownsRow_frame ho fun g hgj => fr g (ho.lt g hgj).2 (hvx j g h2 (by omega) hgj)
  · rcases Nat.lt_or_eq_of_le hj with h3 | rfl
    · exact (h.rd j (by omega)).frame fun g hgj hgl => fr g hgl (hvx j g (by omega) (by omega) hgj)
    · intro g hgj
      by_cases e : x.ownBlock = some g
      · exact Rd4.of_own hold e
      · exact ((h.rd j (Nat.le_refl _)).frame (w' := w2) fun g' hg' hl' => by
          rw [hgj] at hg'; cases hg'; exact fr g hl' e) g hgj
  · refine ownsRow_frame h.long fun g hgl => ?_
    obtain ⟨-, hl2, cur, hcur⟩ := ownsRow_block h.long hgl
    refine fr g hl2 fun e => ?_
    obtain ⟨cur', hcur'⟩ := hxb g e
    exact type_ne hcur hcur' htl rfl
  · obtain ⟨h1, h2⟩ := h.done j hj
    refine ⟨ownsRow_frame h1 fun g hgj => fr g (h1.lt g hgj).2 fun e => ?_, h2⟩
    obtain ⟨h3, h4⟩ := h2 g hgj
    rcases h.place g e with h5 | h5
    · rcases h4 with h6 | h6
      · have := ha j m g (by omega) hm h6 h5; omega
      · have := hvl m g hm h5; omega
    · omega
  · rw [List.append_assoc, ngc_succ] at hown
    exact hown
  · rcases hp with h1 | h1
    · rw [h1] at hgx; exact h.place g hgx
    · have := h1 g hgx; exact .inr (by omega)

theorem in4_end {e tl : TypeId} (htl : tl ≠ e) {C : Int → List Value} {n : Nat} {v : Nat → Value} {ln : Nat → Nat} {w0 wr w1 w2 : World} {m W : Nat} {lv lv' x : Value} {xv : Nat → Value} (h : In4 e tl C n v ln w0 m lv xv W 8 x wr)
    (hb : Below wr.heap.size wr w1) (hown : w2.ownsRow w0.heap.size tl 1 lv' (m + 1) ((List.range m).map xv ++ [x])) (hg : w1.grownBy w2 lv.ownBlock) : Gr4 e tl C n v ln w0 (m + 1) lv' w2 := by
  have hs1 := hb.size
  have hs2 := hg.size
  have hlow := h.low
  have hhigh := h.high
  have fr : ∀ (g : Nat) (cur : Array Value), wr.heap[g]? = some (Obj.cells cur e (0, 0)) → w2.heap[g]? = wr.heap[g]? := fun g cur hc => by
    have hgl := lt_of_heap hc
    refine (hg.block g (by omega) fun e => ?_).trans (hb.block g hgl)
    obtain ⟨-, -, cur', hcur⟩ := ownsRow_block h.long e.symm
    exact type_ne hcur hc htl rfl
  have frO : ∀ {y : Value} {l : Nat} {xs : List Value}, wr.ownsRow 0 e 4 y l xs → w2.ownsRow 0 e 4 y l xs := fun ho => ownsRow_frame ho fun g hgy => by
    obtain ⟨-, -, cur, hcur⟩ := ownsRow_block ho hgy
    exact fr g cur hcur
  refine ⟨?_, fun j h1 h2 => frO (h.rest j (by omega) h2), fun j hj => ?_, fun j => if j = m then x else xv j, ?_, fun j hj => ?_⟩
  · refine Only.grown (h.only.trans (Only.of_below hb)) hg fun g hgl => .inr ?_
    exact (h.long.lt g hgl).1
  · intro g hgj
    obtain ⟨⟨cur, hcur⟩, -⟩ := h.rd j (by omega) g hgj
    exact ((h.rd j (by omega)).frame (w' := w2) fun g' hg' _ => by
      rw [hgj] at hg'; cases hg'; exact fr g cur hcur) g hgj
  · have e : (List.range (m + 1)).map (fun j => if j = m then x else xv j) = (List.range m).map xv ++ [x] := by
      rw [List.range_succ, List.map_append]
      congr 1
      · refine List.map_congr_left fun j hj => ?_
        have := List.mem_range.1 hj
        rw [if_neg (by omega)]
      · simp
    rw [e]; exact hown
  · by_cases hjm : j = m
    · subst hjm
      simp only [if_true]
      exact ⟨frO h.cur, fun g hgx => ⟨by have := (h.cur.lt g hgx).2; omega, (h.place g hgx).imp id fun h1 => by omega⟩⟩
    · simp only [if_neg hjm]
      obtain ⟨h1, h2⟩ := h.done j (by omega)
      exact ⟨frO h1, fun g hgx => ⟨by have := (h2 g hgx).1; omega, (h2 g hgx).2⟩⟩
end Go.Proofs.Ytpoilgeffpedoaa
