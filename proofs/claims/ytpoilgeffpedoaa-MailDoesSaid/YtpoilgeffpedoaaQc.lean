import Derived.Test.YtpoilgeffpedoaaQb
import Derived.Deep.RegionLaw
import Derived.Deep.RegionLawGrows
import Derived.Laws.IdiomCopy
/- The reference's Send. -/
namespace Go.Proofs.Ytpoilgeffpedoaa
open Go.RowKit Go.Pen
attribute [local go_sem ↓] Go.wp_at_zero Go.wp_at_succ

def msgAgg (m : AMsg) : Value := .agg #[.int .i64 m.node, .bool m.out, .int .i64 m.port, .int .u64 m.epoch, .slice m.la m.loops.length m.lc, .slice m.ra m.rows.length m.rc, .slice m.ea m.errs.length m.ec]

set_option maxHeartbeats 400000 in
theorem rsend_no {b : Nat} {RB RQ : Nat} {RR : Nat → Nat} {n r : Nat} {V : Nat → Nat → Value} {q : Nat → Nat → List AMsg} (i k : Int) (m : AMsg) (w : World) (h : RefIs b w RB RQ RR n r V q) (hn : ¬ InBox n i k) :
    Calls Try.prog 21 #[.pointer (some ⟨RB, 0, none⟩), .int .i64 i, .int .i64 k, msgAgg m] w fun e w' => e = .returned (.int .i64 90) ∧ Below w.heap.size w w' := by
  have H := Lib.hid h
  clear h
  unfold msgAgg
  go_enter Try.func21, Try.ntmps21
  go_wp2_with (go_at_call 29; refine (is_no i k _ (H.out.below ((Below.refl _ _).alloc (Nat.le_refl _) _)) hn).mono ?_; rintro e w1 ⟨rfl, hb1⟩)
  go_ret
  exact ⟨rfl, ((Below.refl _ _).alloc (Nat.le_refl _) _).trans (hb1.mono (by simp))⟩

set_option maxHeartbeats 800000 in
theorem rsend_full {b : Nat} {RB RQ : Nat} {RR : Nat → Nat} {n r : Nat} {V : Nat → Nat → Value} {q : Nat → Nat → List AMsg} (i k : Nat) (m : AMsg) (w : World) (h : RefIs b w RB RQ RR n r V q) (hi : i < n) (hk : k < n) (hf : r ≤ (q i k).length) :
    Calls Try.prog 21 #[.pointer (some ⟨RB, 0, none⟩), .int .i64 i, .int .i64 k, msgAgg m] w fun e w' => e = .returned (.int .i64 5) ∧ Below w.heap.size w w' := by
  have H := Lib.hid h
  clear h
  unfold msgAgg
  have hf' : (r : Int) ≤ ((q i k).length : Int) := by omega
  go_enter Try.func21, Try.ntmps21
  go_wp2_with (go_at_call 29; refine (is_yes i k _ (H.out.below ((Below.refl _ _).alloc (Nat.le_refl _) _)) hi hk).mono ?_; rintro e w1 ⟨rfl, hb1⟩; obtain ⟨c, c0, c1⟩ := ((H.out.below ((Below.refl _ _).alloc (Nat.le_refl _) _)).below hb1).cells; obtain ⟨d0, d1⟩ := ((H.out.below ((Below.refl _ _).alloc (Nat.le_refl _) _)).below hb1).way hi hk; obtain ⟨a, cc, hv, -⟩ := H.out.que i k hi hk; rw [hv] at d1; clear hv)
  go_quiet (fail)
  go_wp2
  go_ret
  exact ⟨rfl, below_drewN (((Below.refl _ _).alloc (Nat.le_refl _) _).trans (hb1.mono (by simp))) _⟩

def put2 {α : Type} (f : Nat → Nat → α) (i k : Nat) (x : α) : Nat → Nat → α := fun i' k' => if i' = i ∧ k' = k then x else f i' k'
theorem put2_same {α : Type} (f : Nat → Nat → α) (i k : Nat) (x : α) : put2 f i k x i k = x := by simp [put2]
theorem put2_ne {α : Type} {f : Nat → Nat → α} {i k i' k' : Nat} {x : α} (h : ¬ (i' = i ∧ k' = k)) : put2 f i k x i' k' = f i' k' := by simp only [put2, if_neg h]

theorem ref_put {b : Nat} {w W : World} {RB RQ : Nat} {RR : Nat → Nat} {n r : Nat} {V : Nat → Nat → Value} {q : Nat → Nat → List AMsg} (h : RefIs b w RB RQ RR n r V q) {i k : Nat} (hi : i < n) (hk : k < n) {v' : Value} {q' : List AMsg}
    (hW : Only (fun g => g = RR i ∨ (V i k).ownBlock = some g) w W) (hRR : ∀ cells : Array Value, w.heap[RR i]? = some (.cells cells 101 (0, 0)) → W.heap[RR i]? = some (.cells (cells.setIfInBounds k v') 101 (0, 0)))
    (hQ : QueueAt W v' q') (hv : ∀ g, v'.ownBlock = some g → (V i k).ownBlock = some g ∨ w.heap.size ≤ g) : RefIs b W RB RQ RR n r (put2 V i k v') (put2 q i k q') := by
  obtain ⟨c, hb⟩ := h.box
  obtain ⟨cs, hr, hrs⟩ := h.rows
  obtain ⟨rc, hrc, hrcs⟩ := h.row i hi
  have qt : ∀ i k g, i < n → k < n → (V i k).ownBlock = some g → ∃ cells : Array Value, w.heap[g]? = some (.cells cells 31 (0, 0)) := fun i k g hi hk hg => (h.que i k hi hk).block hg
  have keep : ∀ (g : Nat) (cur : Array Value) (t : TypeId), w.heap[g]? = some (.cells cur t (0, 0)) → t ≠ 31 → g ≠ RR i → W.heap[g]? = some (.cells cur t (0, 0)) := fun g cur t hg ht hn => by
    rw [hW.block g (lt_of_heap hg) (fun e => by
      rcases e with e | e
      · exact hn e
      · obtain ⟨cells, hc⟩ := qt i k g hi hk e
        exact type_ne hg hc ht rfl)]
    exact hg
  have hbs : b ≤ w.heap.size := Nat.le_trans h.low.1 (Nat.le_of_lt (lt_of_heap hb))
  refine ⟨⟨c, keep _ _ _ hb (by decide) (type_ne hb hrc (by decide))⟩, ⟨cs, keep _ _ _ hr (by decide) (type_ne hr hrc (by decide)), hrs⟩, fun i' hi' => ?_, h.inj, fun i' k' hi' hk' => ?_, fun i1 k1 i2 k2 g h1 h2 h3 h4 e1 e2 => ?_, h.low.1, h.low.2.1, h.low.2.2.1, fun i' k' g hi' hk' hg => ?_⟩
  · by_cases e : i' = i
    · subst e
      refine ⟨_, hRR _ hrc, fun k' hk' => ?_⟩
      by_cases e2 : k' = k
      · subst e2
        rw [put2_same]
        have : k' < rc.size := by
          rcases Nat.lt_or_ge k' rc.size with h | h
          · exact h
          · have := hrcs k' hk'; rw [Array.getElem?_eq_none h] at this; cases this
        rw [Array.getElem?_setIfInBounds_self_of_lt this]
      · rw [put2_ne (by omega), Array.getElem?_setIfInBounds_ne (by omega)]
        exact hrcs k' hk'
    · obtain ⟨rc', h1, h2⟩ := h.row i' hi'
      refine ⟨rc', keep _ _ _ h1 (by decide) (fun e2 => e (h.inj i' i hi' hi e2)), fun k' hk' => ?_⟩
      rw [put2_ne (by omega)]; exact h2 k' hk'
  · by_cases e : i' = i ∧ k' = k
    · obtain ⟨rfl, rfl⟩ := e
      rw [put2_same, put2_same]; exact hQ
    · rw [put2_ne e, put2_ne e]
      refine (h.que i' k' hi' hk').frame fun g hg => ?_
      obtain ⟨cells, hc⟩ := qt i' k' g hi' hk' hg
      refine hW.block g (lt_of_heap hc) fun e2 => ?_
      rcases e2 with e2 | e2
      · exact type_ne hc hrc (by decide) e2
      · exact e (h.apart i' k' i k g hi' hk' hi hk hg e2)
  · have old : ∀ i k g, i < n → k < n → (V i k).ownBlock = some g → g < w.heap.size := fun i k g hi hk hg => by
      obtain ⟨cells, hc⟩ := qt i k g hi hk hg
      exact lt_of_heap hc
    by_cases q1 : i1 = i ∧ k1 = k <;> by_cases q2 : i2 = i ∧ k2 = k
    · omega
    · obtain ⟨rfl, rfl⟩ := q1
      rw [put2_same] at e1
      rw [put2_ne q2] at e2
      rcases hv g e1 with e1 | e1
      · exact h.apart i1 k1 i2 k2 g h1 h2 h3 h4 e1 e2
      · have := old i2 k2 g h3 h4 e2; omega
    · obtain ⟨rfl, rfl⟩ := q2
      rw [put2_same] at e2
      rw [put2_ne q1] at e1
      rcases hv g e2 with e2 | e2
      · exact h.apart i1 k1 i2 k2 g h1 h2 h3 h4 e1 e2
      · have := old i1 k1 g h1 h2 e1; omega
    · rw [put2_ne q1] at e1
      rw [put2_ne q2] at e2
      exact h.apart i1 k1 i2 k2 g h1 h2 h3 h4 e1 e2
  · by_cases e : i' = i ∧ k' = k
    · obtain ⟨rfl, rfl⟩ := e
      rw [put2_same] at hg
      rcases hv g hg with hg | hg
      · exact h.low.2.2.2 i' k' g hi' hk' hg
      · omega
    · rw [put2_ne e] at hg
      exact h.low.2.2.2 i' k' g hi' hk' hg

theorem setCells_same : ∀ (vs : List Value) (w : World) (g o : Nat) (c : Array Value) (t : TypeId) (f : Nat × Nat), w.heap[g]? = some (.cells c t f) → o + vs.length ≤ c.size →
    ∃ c' : Array Value, (w.setCells g o vs).heap[g]? = some (.cells c' t f) ∧ c'.size = c.size ∧ (∀ x, x < o ∨ o + vs.length ≤ x → c'[x]? = c[x]?) ∧ ∀ (j : Nat) u, vs[j]? = some u → c'[o + j]? = some u
  | [], w, g, o, c, t, f, h, _ => ⟨c, h, rfl, fun _ _ => rfl, fun j u hu => by simp at hu⟩
  | v :: vs, w, g, o, c, t, f, h, hl => by
    simp only [List.length_cons] at hl
    obtain ⟨c', h1, h2, h3, h4⟩ := setCells_same vs (w.setCell ⟨g, o, none⟩ v) g (o + 1) (c.setIfInBounds o v) t f (heap_set_same h) (by simp; omega)
    refine ⟨c', h1, by simpa using h2, fun x hx => ?_, fun j u hu => ?_⟩
    · simp only [List.length_cons] at hx
      rw [h3 x (by omega), Array.getElem?_setIfInBounds_ne (by omega)]
    · cases j with
      | zero =>
        simp at hu
        subst hu
        rw [Nat.add_zero, h3 o (by omega), Array.getElem?_setIfInBounds_self_of_lt (by omega)]
      | succ j =>
        have := h4 j u (by simpa using hu)
        rw [show o + (j + 1) = o + 1 + j by omega]; exact this

theorem setCells_ne : ∀ (vs : List Value) (w : World) (g o k : Nat), k ≠ g → (w.setCells g o vs).heap[k]? = w.heap[k]?
  | [], _, _, _, _, _ => rfl
  | v :: vs, w, g, o, k, h => by
    have := setCells_ne vs (w.setCell ⟨g, o, none⟩ v) g (o + 1) k h
    exact this.trans (heap_set_ne h)
end Go.Proofs.Ytpoilgeffpedoaa
