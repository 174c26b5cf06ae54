import Derived.Test.YtpoilgeffpedoaaB
import Derived.Deep.RegionWith
namespace Go.Proofs.Ytpoilgeffpedoaa
open Go.RowKit Go.Pen
attribute [local go_sem ↓] Go.wp_at_zero Go.wp_at_succ

/-- a message, as it is -/
structure Msg where
  node : Int
  out : Bool
  port : Int
  epoch : Int
  loops : List Value
  ln : Nat
  rows : List Up
  errs : List Up
  lo : Nat := 0
  hi : Nat := 0

/-- where its lists lie -/
def Msg.at (m : Msg) (lo hi : Nat) : Msg := { m with lo := lo, hi := hi }

structure Msg.ok (m : Msg) : Prop where
  ln : m.ln ≤ 1073741824
  loops : ∀ x ∈ m.loops, x.oneCell' = true
  rows : m.rows.length ≤ 1073741824
  errs : m.errs.length ≤ 1073741824
  rok : ∀ u ∈ m.rows, u.ok
  eok : ∀ u ∈ m.errs, u.ok

/-- the lists of a message -/
structure MsgIs (w : World) (base : Nat) (m : Msg) (lv rv ev : Value) : Prop where
  loops : w.ownsRow base 111 1 lv m.ln m.loops
  rows : UpsIs w base rv m.rows
  errs : UpsIs w base ev m.errs

theorem UpsIs.slice {w : World} {base : Nat} {v : Value} {us : List Up} (h : UpsIs w base v us) : ∃ a c, v = .slice a us.length c := by
  obtain ⟨xs, hr, _⟩ := h
  exact ownsRow_slice hr

theorem UpIs.lower {w : World} {base base' : Nat} {xs : List Value} {j : Nat} {u : Up} (h : UpIs w base xs j u) (hb : base' ≤ base) : UpIs w base' xs j u := by
  obtain ⟨rv, lv, a0, a1, a2, a3, hr, hl⟩ := h
  exact ⟨rv, lv, a0, a1, a2, a3, ownsRow_lower hr hb, ownsRow_lower hl hb⟩

theorem UpsIs.lower {w : World} {base base' : Nat} {v : Value} {us : List Up} (h : UpsIs w base v us) (hb : base' ≤ base) : UpsIs w base' v us := by
  obtain ⟨xs, hr, hel⟩ := h
  exact ⟨xs, ownsRow_lower hr hb, fun j u hu => (hel j u hu).lower hb⟩

/-- what a list of updates reads as stays where the blocks of updates, data and words stay -/
theorem UpsIs.frame {w w' : World} {base : Nat} {v : Value} {us : List Up} (h : UpsIs w base v us) (hf : ∀ (g : Nat) (cur : Array Value) (t : TypeId), w.heap[g]? = some (.cells cur t (0, 0)) → (t = 37 ∨ t = 89 ∨ t = 111) → w'.heap[g]? = w.heap[g]?) : UpsIs w' base v us := by
  obtain ⟨xs, hr, hel⟩ := h
  refine ⟨xs, ownsRow_frame hr fun g hg => ?_, fun j u hu => ?_⟩
  · obtain ⟨_, _, cur, hc⟩ := ownsRow_block hr hg
    exact hf g cur 37 hc (.inl rfl)
  · obtain ⟨rv, lv, a0, a1, a2, a3, hr', hl'⟩ := hel j u hu
    refine ⟨rv, lv, a0, a1, a2, a3, ownsRow_frame hr' fun g hg => ?_, ownsRow_frame hl' fun g hg => ?_⟩
    · obtain ⟨_, _, cur, hc⟩ := ownsRow_block hr' hg
      exact hf g cur 89 hc (.inr (.inl rfl))
    · obtain ⟨_, _, cur, hc⟩ := ownsRow_block hl' hg
      exact hf g cur 111 hc (.inr (.inr rfl))

theorem MsgIs.frame {w w' : World} {base : Nat} {m : Msg} {lv rv ev : Value} (h : MsgIs w base m lv rv ev) (hf : ∀ (g : Nat) (cur : Array Value) (t : TypeId), w.heap[g]? = some (.cells cur t (0, 0)) → (t = 37 ∨ t = 89 ∨ t = 111) → w'.heap[g]? = w.heap[g]?) : MsgIs w' base m lv rv ev := by
  refine ⟨ownsRow_frame h.loops fun g hg => ?_, h.rows.frame hf, h.errs.frame hf⟩
  obtain ⟨_, _, cur, hc⟩ := ownsRow_block h.loops hg
  exact hf g cur 111 hc (.inr (.inr rfl))

theorem MsgIs.below {w w' : World} {base : Nat} {m : Msg} {lv rv ev : Value} (h : MsgIs w base m lv rv ev) (hb : Below w.heap.size w w') : MsgIs w' base m lv rv ev :=
  h.frame fun g _ _ hg _ => hb.block g (lt_of_heap hg)
theorem UpsIs.below {w w' : World} {base : Nat} {us : List Up} {v : Value} (h : UpsIs w base v us) (hb : Below w.heap.size w w') : UpsIs w' base v us :=
  h.frame fun g _ _ hg _ => hb.block g (lt_of_heap hg)
theorem MsgIs.lower {w : World} {base base' : Nat} {m : Msg} {lv rv ev : Value} (h : MsgIs w base m lv rv ev) (hb : base' ≤ base) : MsgIs w base' m lv rv ev :=
  ⟨ownsRow_lower h.loops hb, h.rows.lower hb, h.errs.lower hb⟩

/-- the lists of a message, all from lo on and below hi, each its own -/
def MsgIn (w : World) (lo hi : Nat) (m : Msg) (lv rv ev : Value) : Prop :=
  ∃ a b, lo ≤ a ∧ a ≤ b ∧ b ≤ hi ∧ w.ownsRow lo 111 1 lv m.ln m.loops ∧ (∀ g, lv.ownBlock = some g → g < a) ∧ UpsIn w a b rv m.rows ∧ UpsIn w b hi ev m.errs

theorem MsgIn.is {w : World} {lo hi : Nat} {m : Msg} {lv rv ev : Value} (h : MsgIn w lo hi m lv rv ev) : MsgIs w lo m lv rv ev := by
  obtain ⟨a, b, h1, h2, h3, h4, h5, h6, h7⟩ := h
  exact ⟨h4, h6.is.lower h1, h7.is.lower (Nat.le_trans h1 h2)⟩

theorem UpsIn.frame {w w' : World} {lo hi : Nat} {v : Value} {us : List Up} (h : UpsIn w lo hi v us) (hf : ∀ (g : Nat) (cur : Array Value) (t : TypeId), w.heap[g]? = some (.cells cur t (0, 0)) → (t = 37 ∨ t = 89 ∨ t = 111) → lo ≤ g → g < hi → w'.heap[g]? = w.heap[g]?) : UpsIn w' lo hi v us := by
  obtain ⟨xs, h1, h2, h3, h4, h5, h6⟩ := h
  refine ⟨xs, ownsRow_frame h1 fun g hg => ?_, h2, fun j u hu => ?_, h4, h5, h6⟩
  · obtain ⟨hl, _, cur, hc⟩ := ownsRow_block h1 hg
    exact hf g cur 37 hc (.inl rfl) hl (h2 g hg)
  · obtain ⟨rv, lv, a0, a1, a2, a3, hr', hl'⟩ := h3 j u hu
    refine ⟨rv, lv, a0, a1, a2, a3, ownsRow_frame hr' fun g hg => ?_, ownsRow_frame hl' fun g hg => ?_⟩
    · obtain ⟨hl, _, cur, hc⟩ := ownsRow_block hr' hg
      exact hf g cur 89 hc (.inr (.inl rfl)) hl (h4 _ _ g a0 hg)
    · obtain ⟨hl, _, cur, hc⟩ := ownsRow_block hl' hg
      exact hf g cur 111 hc (.inr (.inr rfl)) hl (h4 _ _ g a2 hg)

theorem MsgIn.frame {w w' : World} {lo hi : Nat} {m : Msg} {lv rv ev : Value} (h : MsgIn w lo hi m lv rv ev) (hf : ∀ (g : Nat) (cur : Array Value) (t : TypeId), w.heap[g]? = some (.cells cur t (0, 0)) → (t = 37 ∨ t = 89 ∨ t = 111) → lo ≤ g → g < hi → w'.heap[g]? = w.heap[g]?) : MsgIn w' lo hi m lv rv ev := by
  obtain ⟨a, b, h1, h2, h3, h4, h5, h6, h7⟩ := h
  refine ⟨a, b, h1, h2, h3, ownsRow_frame h4 fun g hg => ?_, h5, h6.frame fun g cur t hg ht l1 l2 => hf g cur t hg ht (by omega) (by omega), h7.frame fun g cur t hg ht l1 l2 => hf g cur t hg ht (by omega) l2⟩
  obtain ⟨hl, _, cur, hc⟩ := ownsRow_block h4 hg
  have := h5 g hg
  exact hf g cur 111 hc (.inr (.inr rfl)) hl (by omega)

theorem UpsIn.wide {w : World} {lo lo' hi hi' : Nat} {v : Value} {us : List Up} (h : UpsIn w lo hi v us) (h1 : lo' ≤ lo) (h2 : hi ≤ hi') : UpsIn w lo' hi' v us := by
  obtain ⟨xs, a1, a2, a3, a4, a5, a6⟩ := h
  exact ⟨xs, ownsRow_lower a1 h1, fun g hg => Nat.lt_of_lt_of_le (a2 g hg) h2, fun j u hu => (a3 j u hu).lower h1, fun j x g hx hg => Nat.lt_of_lt_of_le (a4 j x g hx hg) h2, a5, a6⟩

theorem MsgIn.wide {w : World} {lo lo' hi hi' : Nat} {m : Msg} {lv rv ev : Value} (h : MsgIn w lo hi m lv rv ev) (h1 : lo' ≤ lo) (h2 : hi ≤ hi') : MsgIn w lo' hi' m lv rv ev := by
  obtain ⟨a, b, a1, a2, a3, a4, a5, a6, a7⟩ := h
  exact ⟨a, b, Nat.le_trans h1 a1, a2, Nat.le_trans a3 h2, ownsRow_lower a4 h1, a5, a6, a7.wide (Nat.le_refl _) h2⟩

set_option maxRecDepth 100000 in
set_option maxHeartbeats 1000000 in
theorem copied_any (m : Msg) (la : Option Addr) (lc : Nat) (ra : Option Addr) (rc : Nat) (ea : Option Addr) (ec : Nat) (w : World)
    (hm : MsgIs w 0 m (.slice la m.ln lc) (.slice ra m.rows.length rc) (.slice ea m.errs.length ec)) (hok : m.ok) :
    Calls Try.prog 35 #[.agg #[.int .i64 m.node, .bool m.out, .int .i64 m.port, .int .u64 m.epoch, .slice la m.ln lc, .slice ra m.rows.length rc, .slice ea m.errs.length ec]] w fun e w' =>
      ∃ la' lc' ra' rc' ea' ec', e = .returned (.agg #[.int .i64 m.node, .bool m.out, .int .i64 m.port, .int .u64 m.epoch, .slice la' m.ln lc', .slice ra' m.rows.length rc', .slice ea' m.errs.length ec']) ∧
        MsgIn w' w.heap.size w'.heap.size m (.slice la' m.ln lc') (.slice ra' m.rows.length rc') (.slice ea' m.errs.length ec') ∧ Below w.heap.size w w' := by
  have HM := Lib.hid hm
  have HK := Lib.hid hok
  clear hm hok
  go_enter Try.func35, Try.ntmps35
  go_wp2_with fail
  obtain ⟨w1, hw1⟩ : ∃ w1, w1 = (w.alloc (.cells #[.int .i64 m.node, .bool m.out, .int .i64 m.port, .int .u64 m.epoch, .slice la m.ln lc, .slice ra m.rows.length rc, .slice ea m.errs.length ec] 31)).alloc (.cells #[.int .i64 0, .bool false, .int .i64 0, .int .u64 0, .slice none 0 0, .slice none 0 0, .slice none 0 0] 31) := ⟨_, rfl⟩
  obtain ⟨B, hB⟩ : ∃ B, B = w.heap.size := ⟨_, rfl⟩
  have hb1 : Below w.heap.size w w1 := by rw [hw1]; exact ((Below.refl _ _).alloc (Nat.le_refl _) _).alloc (by simp) _
  have hs1 : w1.heap.size = B + 2 := by rw [hw1, hB]; simp
  have h1 : w1.heap[B]? = some (.cells #[.int .i64 m.node, .bool m.out, .int .i64 m.port, .int .u64 m.epoch, .slice la m.ln lc, .slice ra m.rows.length rc, .slice ea m.errs.length ec] 31 (0, 0)) := by
    rw [hw1, hB, Below.heap_alloc _ _ _ (by simp)]; exact heap_alloc_new w _
  have h2 : w1.heap[B + 1]? = some (.cells #[.int .i64 0, .bool false, .int .i64 0, .int .u64 0, .slice none 0 0, .slice none 0 0, .slice none 0 0] 31 (0, 0)) := by
    rw [hw1, hB, show w.heap.size + 1 = (w.alloc (.cells #[.int .i64 m.node, .bool m.out, .int .i64 m.port, .int .u64 m.epoch, .slice la m.ln lc, .slice ra m.rows.length rc, .slice ea m.errs.length ec] 31)).heap.size by simp]; exact heap_alloc_new _ _
  have HM1 : Hid (MsgIs w1 0 m (.slice la m.ln lc) (.slice ra m.rows.length rc) (.slice ea m.errs.length ec)) := HM.out.below hb1
  rw [← hw1, ← hB]
  have HB1 := Lib.hid hb1
  have HB := Lib.hid hB
  clear hw1 hB hb1
  refine (clone55 _ m.ln m.loops _ HM1.out.loops HK.out.ln HK.out.loops).mono ?_
  rintro e w2 ⟨v2, rfl, ho2, hb2⟩
  obtain ⟨a2, c2, rfl⟩ := ownsRow_slice ho2
  have g1 : w2.heap[B]? = _ := (hb2.block B (by omega)).trans h1
  have g2 : w2.heap[B + 1]? = _ := (hb2.block (B + 1) (by omega)).trans h2
  have hs2 : B + 2 ≤ w2.heap.size := by have := hb2.size; omega
  have hc4 : w2.cell? ⟨B, 4, none⟩ = some (.slice la m.ln lc) := cell_of_heap g1 rfl
  have hf4 : w2.frozen? ⟨B, 4, none⟩ = false := frozen_of_heap g1
  have HM2 : Hid (MsgIs w2 0 m (.slice la m.ln lc) (.slice ra m.rows.length rc) (.slice ea m.errs.length ec)) := HM1.out.below hb2
  have G1 := Lib.hid g1
  have G2 := Lib.hid g2
  have HO2 := Lib.hid ho2
  have HB2 := Lib.hid hb2
  clear g1 g2 ho2 hb2 h1 h2
  go_wp2_with fail
  obtain ⟨w3, hw3⟩ : ∃ w3, w3 = w2.setCell ⟨B, 4, none⟩ (.slice a2 m.ln c2) := ⟨_, rfl⟩
  have g1 : w3.heap[B]? = some (.cells #[.int .i64 m.node, .bool m.out, .int .i64 m.port, .int .u64 m.epoch, .slice a2 m.ln c2, .slice ra m.rows.length rc, .slice ea m.errs.length ec] 31 (0, 0)) := by
    rw [hw3, heap_set_same G1.out]; rfl
  have g2 : w3.heap[B + 1]? = some (.cells #[.int .i64 0, .bool false, .int .i64 0, .int .u64 0, .slice none 0 0, .slice none 0 0, .slice none 0 0] 31 (0, 0)) := by
    rw [hw3, heap_set_ne (by omega)]; exact G2.out
  have hfr3 : ∀ g, g ≠ B → w3.heap[g]? = w2.heap[g]? := fun g hg => by rw [hw3, heap_set_ne hg]
  have hs3 : w3.heap.size = w2.heap.size := by rw [hw3]; simp [World.setCell]
  have HM3 : Hid (MsgIs w3 0 m (.slice la m.ln lc) (.slice ra m.rows.length rc) (.slice ea m.errs.length ec)) := HM2.out.frame fun g cur t hg ht => by
    apply hfr3; intro e; subst e; rw [G1.out] at hg; simp only [Option.some.injEq, Obj.cells.injEq] at hg; obtain ⟨_, h31, _⟩ := hg; rw [← h31] at ht; simp at ht
  have HO3 : Hid (w3.ownsRow w.heap.size 111 1 (.slice a2 m.ln c2) m.ln m.loops) := ownsRow_frame (ownsRow_lower HO2.out (by have := HB1.out.size; omega)) fun g hg => hfr3 g (fun e => by have := (HO2.out.lt g hg).1; omega)
  have HB3 : Hid (Below w.heap.size w w3) := by
    rw [hw3]; exact (HB1.out.trans (HB2.out.mono (by have := HB1.out.size; omega))).setCell (by rw [HB.out]; exact Nat.le_refl _) _
  rw [← hw3]
  clear hw3 hfr3 hc4 hf4
  have hc5 : w3.cell? ⟨B, 5, none⟩ = some (.slice ra m.rows.length rc) := cell_of_heap g1 rfl
  have hc6 : w3.cell? ⟨B, 6, none⟩ = some (.slice ea m.errs.length ec) := cell_of_heap g1 rfl
  have hBs : B + 1 < w3.heap.size := by omega
  have G1 := Lib.hid g1
  have G2 := Lib.hid g2
  clear g1 g2
  go_region_with (first | (go_at_call_of 56 (Value.slice ra m.rows.length rc); refine (updates_any (.slice ra m.rows.length rc) m.rows _ (HM3.out.below (w' := w3.drew) ⟨rfl, rfl, rfl, Nat.le_refl _, fun _ _ => rfl⟩).rows HK.out.rows HK.out.rok).mono ?_; rintro e w4 ⟨a4, c4, rfl, ho4, hb4⟩; have q6 := (hb4.cell (p := ⟨B, 6, none⟩) (by simp; omega)).trans hc6) | (go_at_call_of 56 (Value.slice ea m.errs.length ec); refine (updates_any (.slice ea m.errs.length ec) m.errs _ ((HM3.out.below (w' := w3.drew) ⟨rfl, rfl, rfl, Nat.le_refl _, fun _ _ => rfl⟩).below hb4).errs HK.out.errs HK.out.eok).mono ?_; rintro e w5 ⟨a5, c5, rfl, ho5, hb5⟩; have hb45 := hb4.trans (hb5.mono hb4.size); have r1 : w5.heap[B]? = _ := (hb45.block B (by simp; omega)).trans G1.out; have p5 : w5.cell? ⟨B, 5, none⟩ = _ := cell_of_heap r1 rfl; have p6 : w5.cell? ⟨B, 6, none⟩ = _ := cell_of_heap r1 rfl; have f5 : w5.frozen? ⟨B, 5, none⟩ = _ := frozen_of_heap r1; have f6 : w5.frozen? ⟨B, 6, none⟩ = _ := frozen_of_heap r1; have R1 := Lib.hid r1; clear r1))
  all_goals
    obtain ⟨w6, hw6⟩ : ∃ w6, w6 = (w5.setCell ⟨B, 5, none⟩ (.slice a4 m.rows.length c4)).setCell ⟨B, 6, none⟩ (.slice a5 m.errs.length c5) := ⟨_, rfl⟩
    have hb45' : Below w3.heap.size w3 w5 := below_undrew hb45
    have hfr6 : ∀ g, g ≠ B → w6.heap[g]? = w5.heap[g]? := fun g hg => by rw [hw6, heap_set_ne hg, heap_set_ne hg]
    have hs6 : w6.heap.size = w5.heap.size := by rw [hw6]; simp [World.setCell]
    have hs5 : w3.heap.size ≤ w5.heap.size := hb45.size
    have k1 : w6.heap[B]? = some (.cells #[.int .i64 m.node, .bool m.out, .int .i64 m.port, .int .u64 m.epoch, .slice a2 m.ln c2, .slice a4 m.rows.length c4, .slice a5 m.errs.length c5] 31 (0, 0)) := by
      rw [hw6, heap_set_same (heap_set_same R1.out)]; rfl
    have k2 : w6.heap[B + 1]? = some (.cells #[.int .i64 0, .bool false, .int .i64 0, .int .u64 0, .slice none 0 0, .slice none 0 0, .slice none 0 0] 31 (0, 0)) := by
      rw [hfr6 _ (by omega), hb45'.block (B + 1) (by omega)]; exact G2.out
    have HM6 : Hid (MsgIn w6 w.heap.size w6.heap.size m (.slice a2 m.ln c2) (.slice a4 m.rows.length c4) (.slice a5 m.errs.length c5)) := by
      have hsw : w.heap.size ≤ w3.heap.size := HB3.out.size
      have hfr : ∀ (g : Nat) (cur : Array Value) (t : TypeId), w5.heap[g]? = some (.cells cur t (0, 0)) → (t = 37 ∨ t = 89 ∨ t = 111) → w6.heap[g]? = w5.heap[g]? := fun g cur t hg ht => by
        apply hfr6; intro e; subst e; rw [R1.out] at hg; simp only [Option.some.injEq, Obj.cells.injEq] at hg; obtain ⟨_, h31, _⟩ := hg; rw [← h31] at ht; simp at ht
      refine MsgIn.frame (w := w5) ⟨w3.heap.size, w4.heap.size, hsw, hb4.size, by rw [hs6]; exact hb5.size, ?_, fun g hg => (HO3.out.lt g hg).2, ?_, ?_⟩ fun g cur t hg ht _ _ => hfr g cur t hg ht
      · exact Below.ownsRow' hb45' HO3.out
      · exact UpsIn.frame ho4 fun g cur t hg _ _ _ => hb5.block g (lt_of_heap hg)
      · rw [hs6]; exact ho5
    have HB6 : Hid (Below w.heap.size w w6) := by
      have h5 : Below w.heap.size w w5 := HB3.out.trans (hb45'.mono HB3.out.size)
      rw [hw6]; exact (h5.setCell (by rw [HB.out]; exact Nat.le_refl _) _).setCell (by rw [HB.out]; exact Nat.le_refl _) _
    rw [← hw6]
    have HK2 := Lib.hid k2
    clear hw6 hfr6 p5 p6 f5 f6 q6 ho4 ho5 hb4 hb5 hb45 hb45' R1 hc5 hc6
    have c10 : w6.cell? ⟨B, 0, none⟩ = _ := cell_of_heap k1 rfl
    have c11 : w6.cell? ⟨B, 1, none⟩ = _ := cell_of_heap k1 rfl
    have c12 : w6.cell? ⟨B, 2, none⟩ = _ := cell_of_heap k1 rfl
    have c13 : w6.cell? ⟨B, 3, none⟩ = _ := cell_of_heap k1 rfl
    have c14 : w6.cell? ⟨B, 4, none⟩ = _ := cell_of_heap k1 rfl
    have c15 : w6.cell? ⟨B, 5, none⟩ = _ := cell_of_heap k1 rfl
    have c16 : w6.cell? ⟨B, 6, none⟩ = _ := cell_of_heap k1 rfl
    have c20 : w6.cell? ⟨B + 1, 0, none⟩ = _ := cell_of_heap k2 rfl
    have c21 : w6.cell? ⟨B + 1, 1, none⟩ = _ := cell_of_heap k2 rfl
    have c22 : w6.cell? ⟨B + 1, 2, none⟩ = _ := cell_of_heap k2 rfl
    have c23 : w6.cell? ⟨B + 1, 3, none⟩ = _ := cell_of_heap k2 rfl
    have c24 : w6.cell? ⟨B + 1, 4, none⟩ = _ := cell_of_heap k2 rfl
    have c25 : w6.cell? ⟨B + 1, 5, none⟩ = _ := cell_of_heap k2 rfl
    have c26 : w6.cell? ⟨B + 1, 6, none⟩ = _ := cell_of_heap k2 rfl
    have f20 : w6.frozen? ⟨B + 1, 0, none⟩ = _ := frozen_of_heap k2
    have f21 : w6.frozen? ⟨B + 1, 1, none⟩ = _ := frozen_of_heap k2
    have f22 : w6.frozen? ⟨B + 1, 2, none⟩ = _ := frozen_of_heap k2
    have f23 : w6.frozen? ⟨B + 1, 3, none⟩ = _ := frozen_of_heap k2
    have f24 : w6.frozen? ⟨B + 1, 4, none⟩ = _ := frozen_of_heap k2
    have f25 : w6.frozen? ⟨B + 1, 5, none⟩ = _ := frozen_of_heap k2
    have f26 : w6.frozen? ⟨B + 1, 6, none⟩ = _ := frozen_of_heap k2
    clear k1 k2
    go_wp2_with fail
    refine bodyPost_ret (v := .agg #[.int .i64 m.node, .bool m.out, .int .i64 m.port, .int .u64 m.epoch, .slice a2 m.ln c2, .slice a4 m.rows.length c4, .slice a5 m.errs.length c5]) (by simp [results, Try.results35, go_sem, c20, c21, c22, c23, c24, c25, c26]) rfl ⟨a2, c2, a4, c4, a5, c5, rfl, ?_, ?_⟩
    · refine (HM6.out.wide (Nat.le_refl _) (by simp [World.setCell])).frame fun g cur t hg ht _ _ => ?_
      have hne : g ≠ B + 1 := by
        intro e; subst e; rw [HK2.out] at hg; simp only [Option.some.injEq, Obj.cells.injEq] at hg; obtain ⟨_, h31, _⟩ := hg; rw [← h31] at ht; simp at ht
      simp only [heap_set_ne hne]
    · have hq : w.heap.size ≤ B + 1 := by have := HB.out; omega
      exact ((((((HB6.out.setCell hq _).setCell hq _).setCell hq _).setCell hq _).setCell hq _).setCell hq _).setCell hq _
end Go.Proofs.Ytpoilgeffpedoaa
