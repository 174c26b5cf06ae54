import Derived.Test.YtpoilgeffpedoaaRj
/- What is made of a message that is lent, step by step, whatever is made beside it. -/
namespace Go.Proofs.Ytpoilgeffpedoaa
open Go.RowKit Go.Pen
attribute [local go_sem ↓] Go.wp_at_zero Go.wp_at_succ

def Own1 (w0 w : World) (m : AMsg) (lb L2 : Nat) : Prop := Below w0.heap.size w0 w ∧ LentW w w0.heap.size lb m.loops ∧ lb < L2 ∧ w0.heap.size ≤ L2 ∧ L2 ≤ w.heap.size
def Own2 (w0 w : World) (m : AMsg) (lb rg L2 L3 : Nat) : Prop := Own1 w0 w m lb L2 ∧ LentUps w L2 rg m.rows ∧ SpUps w L2 L3 rg m.rows.length (m.rows.length + 1) ∧ L2 ≤ L3 ∧ L3 ≤ w.heap.size
def Own3 (w0 w : World) (m : AMsg) (lb rg eg L2 L3 L4 : Nat) : Prop := Own2 w0 w m lb rg L2 L3 ∧ LentUps w L3 eg m.errs ∧ SpUps w L3 L4 eg m.errs.length (m.errs.length + 1) ∧ L3 ≤ L4 ∧ L4 ≤ w.heap.size

theorem SpUps.below {w w' : World} {lo hi g n c : Nat} (h : SpUps w lo hi g n c) (hb : Below w.heap.size w w') : SpUps w' lo hi g n c := h.frame fun x _ _ hx => hb.block x hx

theorem Own1.below {w0 w w' : World} {m : AMsg} {lb L2 : Nat} (h : Own1 w0 w m lb L2) (hb : Below w.heap.size w w') : Own1 w0 w' m lb L2 :=
  ⟨h.1.trans (hb.mono h.1.size), h.2.1.frame hb, h.2.2.1, h.2.2.2.1, Nat.le_trans h.2.2.2.2 hb.size⟩
theorem Own2.below {w0 w w' : World} {m : AMsg} {lb rg L2 L3 : Nat} (h : Own2 w0 w m lb rg L2 L3) (hb : Below w.heap.size w w') : Own2 w0 w' m lb rg L2 L3 :=
  ⟨h.1.below hb, h.2.1.below hb, h.2.2.1.below hb, h.2.2.2.1, Nat.le_trans h.2.2.2.2 hb.size⟩
theorem Own3.below {w0 w w' : World} {m : AMsg} {lb rg eg L2 L3 L4 : Nat} (h : Own3 w0 w m lb rg eg L2 L3 L4) (hb : Below w.heap.size w w') : Own3 w0 w' m lb rg eg L2 L3 L4 :=
  ⟨h.1.below hb, h.2.1.below hb, h.2.2.1.below hb, h.2.2.2.1, Nat.le_trans h.2.2.2.2 hb.size⟩

theorem own_14 {w0 w : World} {m : AMsg} (h : m.there w0) (hb : Below w0.heap.size w0 w) :
    Calls Try.prog 14 #[.agg #[.int .u64 m.epoch, .slice m.la m.loops.length m.lc]] w fun e w' => ∃ lb, e = .returned (.agg #[.int .u64 m.epoch, .slice (some ⟨lb, 0, none⟩) m.loops.length (m.loops.length + 2)]) ∧ Own1 w0 w' m lb w'.heap.size ∧ Below w.heap.size w w' := by
  refine (lentTime_14 m.epoch m.la m.lc m.loops w (h.below hb).loops (by have := h.l1; omega)).mono ?_
  rintro e w' ⟨g, hg, rfl, ho, hb'⟩
  exact ⟨g, rfl, ⟨hb.trans (hb'.mono hb.size), ownsRow_lower ho hb.size, (ho.lt g rfl).2, Nat.le_trans hb.size hb'.size, Nat.le_refl _⟩, hb'⟩

theorem own_15 {w0 w : World} {v : Value} {us : List Upd} (hv : UpsAt w0 v us) (hb : Below w0.heap.size w0 w) (hn : us.length ≤ 3000) (hk : ∀ u ∈ us, u.row.length ≤ 3000 ∧ u.loops.length ≤ 3000) :
    Calls Try.prog 15 #[v] w fun e w' => ∃ g, e = .returned (.slice (some ⟨g, 0, none⟩) us.length (us.length + 1)) ∧ (LentUps w' w.heap.size g us ∧ SpUps w' w.heap.size w'.heap.size g us.length (us.length + 1)) ∧ Below w.heap.size w w' := by
  refine (lentUpdates_15 v us w (hv.below hb) (by omega) (fun u hu => by have := hk u hu; omega)).mono ?_
  rintro e w' ⟨rfl, hu, hb'⟩
  exact ⟨_, rfl, ⟨hu, hu.sp hn hk⟩, hb'⟩

theorem own2_of {w0 w w' : World} {m : AMsg} {lb rg L2 : Nat} (ho : Own1 w0 w m lb L2) (hu : LentUps w' w.heap.size rg m.rows ∧ SpUps w' w.heap.size w'.heap.size rg m.rows.length (m.rows.length + 1)) (hb : Below w.heap.size w w') : Own2 w0 w' m lb rg w.heap.size w'.heap.size := by
  have h1 := ho.below hb
  exact ⟨⟨h1.1, h1.2.1, Nat.lt_of_lt_of_le ho.2.2.1 ho.2.2.2.2, ho.1.size, hb.size⟩, hu.1, hu.2, hb.size, Nat.le_refl _⟩

theorem own3_of {w0 w w' : World} {m : AMsg} {lb rg eg L2 L3 : Nat} (ho : Own2 w0 w m lb rg L2 L3) (hu : LentUps w' w.heap.size eg m.errs ∧ SpUps w' w.heap.size w'.heap.size eg m.errs.length (m.errs.length + 1)) (hb : Below w.heap.size w w') : Own3 w0 w' m lb rg eg L2 w.heap.size w'.heap.size := by
  obtain ⟨h1, h2, h3, h4, h5⟩ := ho.below hb
  refine ⟨⟨h1, h2, ?_, Nat.le_trans h4 ho.2.2.2.2, hb.size⟩, hu.1, hu.2, hb.size, Nat.le_refl _⟩
  obtain ⟨q1, q2, q3, q4, cur, q5, q6, q7⟩ := h3
  have hle := ho.2.2.2.2
  refine ⟨q1, by omega, q3, q4, cur, q5, q6, fun j hj => ?_⟩
  obtain ⟨rb, rn, rc, lb', ln, lc, a0, r1, r2, r3, r4, r5, a2, l1, l2, l3, l4, l5⟩ := q7 j hj
  exact ⟨rb, rn, rc, lb', ln, lc, a0, r1, r2, r3, r4, by omega, a2, l1, l2, l3, l4, by omega⟩

def ownCells (m : AMsg) (lb rg eg : Nat) : Array Value := #[.int .i64 m.node, .bool m.out, .int .i64 m.port, .int .u64 m.epoch, .slice (some ⟨lb, 0, none⟩) m.loops.length (m.loops.length + 2), .slice (some ⟨rg, 0, none⟩) m.rows.length (m.rows.length + 1), .slice (some ⟨eg, 0, none⟩) m.errs.length (m.errs.length + 1)]

/-- the message that is lent, at its block -/
def OwnRel (w0 w : World) (m : AMsg) (M : Nat) : Prop := ∃ lb rg eg L2 L3 L4, Own3 w0 w m lb rg eg L2 L3 L4 ∧ w.heap[M]? = some (.cells (ownCells m lb rg eg) 31 (0, 0)) ∧ w0.heap.size ≤ M

/-- it is made behind all -/
theorem own_last {w0 w : World} {m : AMsg} {lb rg eg L2 L3 L4 : Nat} (h : Own3 w0 w m lb rg eg L2 L3 L4) : OwnRel w0 (w.alloc (.cells (ownCells m lb rg eg) 31)) m w.heap.size :=
  ⟨lb, rg, eg, L2, L3, L4, h.below ((Below.refl _ _).alloc (Nat.le_refl _) _), heap_alloc_new _ _, h.1.1.1.size⟩

/-- a message's block, whatever it holds -/
theorem shape_new {w : World} (v0 v1 v2 v3 v4 v5 v6 : Value) : Shape (w.alloc (.cells #[v0, v1, v2, v3, v4, v5, v6] 31)) w.heap.size 31 7 := ⟨_, heap_alloc_new _ _, rfl⟩
theorem Shape.below {w w' : World} {g T sz : Nat} (h : Shape w g T sz) (hb : Below w.heap.size w w') : Shape w' g T sz := h.frame (hb.block g h.lt)

theorem shape7 {w : World} {g : Nat} (h : Shape w g 31 7) :
    ∃ y0 y1 y2 y3 y4 y5 y6, w.cell? ⟨g, 0, none⟩ = some y0 ∧ w.cell? ⟨g, 1, none⟩ = some y1 ∧ w.cell? ⟨g, 2, none⟩ = some y2 ∧ w.cell? ⟨g, 3, none⟩ = some y3 ∧ w.cell? ⟨g, 4, none⟩ = some y4 ∧ w.cell? ⟨g, 5, none⟩ = some y5 ∧ w.cell? ⟨g, 6, none⟩ = some y6 ∧
      w.frozen? ⟨g, 0, none⟩ = false ∧ w.frozen? ⟨g, 1, none⟩ = false ∧ w.frozen? ⟨g, 2, none⟩ = false ∧ w.frozen? ⟨g, 3, none⟩ = false ∧ w.frozen? ⟨g, 4, none⟩ = false ∧ w.frozen? ⟨g, 5, none⟩ = false ∧ w.frozen? ⟨g, 6, none⟩ = false := by
  obtain ⟨⟨y0, h0⟩, f0⟩ := h.cell (o := 0) (by decide)
  obtain ⟨⟨y1, h1⟩, f1⟩ := h.cell (o := 1) (by decide)
  obtain ⟨⟨y2, h2⟩, f2⟩ := h.cell (o := 2) (by decide)
  obtain ⟨⟨y3, h3⟩, f3⟩ := h.cell (o := 3) (by decide)
  obtain ⟨⟨y4, h4⟩, f4⟩ := h.cell (o := 4) (by decide)
  obtain ⟨⟨y5, h5⟩, f5⟩ := h.cell (o := 5) (by decide)
  obtain ⟨⟨y6, h6⟩, f6⟩ := h.cell (o := 6) (by decide)
  exact ⟨y0, y1, y2, y3, y4, y5, y6, h0, h1, h2, h3, h4, h5, h6, f0, f1, f2, f3, f4, f5, f6⟩

theorem put7_cells {w : World} {M : Nat} (h : Shape w M 31 7) (v0 v1 v2 v3 v4 v5 v6 : Value) : (put7 w M 0 v0 v1 v2 v3 v4 v5 v6).heap[M]? = some (.cells #[v0, v1, v2, v3, v4, v5, v6] 31 (0, 0)) := by
  obtain ⟨cur, hc, hs⟩ := h
  have h7 := put7_same (o := 0) (v0 := v0) (v1 := v1) (v2 := v2) (v3 := v3) (v4 := v4) (v5 := v5) (v6 := v6) hc
  have e : cells7 cur 0 v0 v1 v2 v3 v4 v5 v6 = #[v0, v1, v2, v3, v4, v5, v6] := by
    obtain ⟨l⟩ := cur
    have hs' : l.length = 7 := hs
    obtain ⟨a, l1, rfl⟩ := List.exists_cons_of_length_eq_add_one hs'
    obtain ⟨b, l2, rfl⟩ := List.exists_cons_of_length_eq_add_one (Nat.succ.inj hs')
    obtain ⟨c, l3, rfl⟩ := List.exists_cons_of_length_eq_add_one (Nat.succ.inj (Nat.succ.inj hs'))
    have h3 : l3.length = 4 := by simpa using hs'
    obtain ⟨d, l4, rfl⟩ := List.exists_cons_of_length_eq_add_one h3
    obtain ⟨e, l5, rfl⟩ := List.exists_cons_of_length_eq_add_one (Nat.succ.inj h3)
    obtain ⟨f, l6, rfl⟩ := List.exists_cons_of_length_eq_add_one (Nat.succ.inj (Nat.succ.inj h3))
    have h6 : l6.length = 1 := by simpa using h3
    obtain ⟨g, l7, rfl⟩ := List.exists_cons_of_length_eq_add_one h6
    have h7 : l7 = [] := by simpa using h6
    subst h7
    unfold cells7
    simp only [List.setIfInBounds_toArray, List.set_cons_succ, List.set_cons_zero, Nat.zero_add]
  rw [e] at h7
  exact h7

/-- its block lay there before -/
theorem own_laid {w0 w : World} {m : AMsg} {lb rg eg L2 L3 L4 M : Nat} (h : Own3 w0 w m lb rg eg L2 L3 L4) (hM : Shape w M 31 7) (hlo : w0.heap.size ≤ M) :
    OwnRel w0 (put7 w M 0 (.int .i64 m.node) (.bool m.out) (.int .i64 m.port) (.int .u64 m.epoch) (.slice (some ⟨lb, 0, none⟩) m.loops.length (m.loops.length + 2)) (.slice (some ⟨rg, 0, none⟩) m.rows.length (m.rows.length + 1)) (.slice (some ⟨eg, 0, none⟩) m.errs.length (m.errs.length + 1))) m M := by
  obtain ⟨w', hw'⟩ : ∃ w', w' = put7 w M 0 (.int .i64 m.node) (.bool m.out) (.int .i64 m.port) (.int .u64 m.epoch) (.slice (some ⟨lb, 0, none⟩) m.loops.length (m.loops.length + 2)) (.slice (some ⟨rg, 0, none⟩) m.rows.length (m.rows.length + 1)) (.slice (some ⟨eg, 0, none⟩) m.errs.length (m.errs.length + 1)) := ⟨_, rfl⟩
  have hcells : w'.heap[M]? = some (.cells (ownCells m lb rg eg) 31 (0, 0)) := by rw [hw']; exact put7_cells hM _ _ _ _ _ _ _
  have hne : ∀ k, k ≠ M → w'.heap[k]? = w.heap[k]? := fun k hk => by rw [hw']; exact put7_ne hk
  have hsz : w'.heap.size = w.heap.size := by rw [hw']; exact put7_size
  have hos : w'.os = w.os ∧ w'.tape = w.tape ∧ w'.output = w.output := by rw [hw']; unfold put7; simp only [setCell_os, setCell_tape, setCell_output, and_self]
  rw [← hw']
  obtain ⟨cM, hcM, -⟩ := hM
  clear hw'
  obtain ⟨⟨⟨hb, hl, l1, l2, l3⟩, hu, hsp, l4, l5⟩, hu2, hsp2, l6, l7⟩ := h
  have fr : ∀ {base e size n : Nat} {v : Value} {xs : List Value}, w.ownsRow base e size v n xs → e ≠ 31 → w'.ownsRow base e size v n xs := fun {base e size n v xs} ho he => by
    refine ownsRow_frame ho fun x hx => hne x fun e2 => ?_
    subst e2
    obtain ⟨-, -, cur, hc⟩ := ownsRow_block ho hx
    exact type_ne hc hcM he rfl
  have sh : ∀ {g T sz : Nat}, Shape w g T sz → T ≠ 31 → Shape w' g T sz := fun {g T sz} hg hT => by
    obtain ⟨cur, hc, hs⟩ := hg
    exact ⟨cur, (hne g fun e2 => by subst e2; exact type_ne hc hcM hT rfl).trans hc, hs⟩
  have ups : ∀ {lo g : Nat} {us : List Upd}, LentUps w lo g us → LentUps w' lo g us := fun {lo g us} hu => by
    obtain ⟨xs, q1, q2, q3⟩ := hu
    refine ⟨xs, fr q1 (by decide), q2, fun j u hj => ?_⟩
    obtain ⟨rb, lb', a0, a1, a2, a3, hr, hl'⟩ := q3 j u hj
    exact ⟨rb, lb', a0, a1, a2, a3, fr hr (by decide), fr hl' (by decide)⟩
  have sps : ∀ {lo hi g n c : Nat}, SpUps w lo hi g n c → SpUps w' lo hi g n c := fun {lo hi g n c} hu => by
    obtain ⟨q1, q2, q3, q4, cur, q5, q6, q7⟩ := hu
    refine ⟨q1, q2, q3, q4, cur, (hne g fun e2 => by subst e2; exact type_ne q5 hcM (by decide) rfl).trans q5, q6, fun j hj => ?_⟩
    obtain ⟨rb, rn, rc, lb', ln, lc, a0, r1, r2, r3, r4, r5, a2, l1, l2, l3, l4, l5⟩ := q7 j hj
    exact ⟨rb, rn, rc, lb', ln, lc, a0, r1, r2, sh r3 (by decide), r4, r5, a2, l1, l2, sh l3 (by decide), l4, l5⟩
  exact ⟨lb, rg, eg, L2, L3, L4, ⟨⟨⟨⟨hos.1.trans hb.os, hos.2.1.trans hb.tape, hos.2.2.trans hb.output, by rw [hsz]; exact hb.size, fun x hx => (hne x (by omega)).trans (hb.block x hx)⟩, fr hl (by decide), l1, l2, by rw [hsz]; exact l3⟩, ups hu, sps hsp, l4, by rw [hsz]; exact l5⟩, ups hu2, sps hsp2, l6, by rw [hsz]; exact l7⟩, hcells, hlo⟩

theorem bl_d1 (w : World) : Below w.heap.size w w.drew := (Below.refl _ _).drew
theorem bl_a (w : World) (o : Obj) : Below w.heap.size w (w.alloc o) := (Below.refl _ _).alloc (Nat.le_refl _) o
theorem bl_ad (w : World) (o : Obj) : Below w.heap.size w (w.alloc o).drew := ((Below.refl _ _).alloc (Nat.le_refl _) o).drew
theorem bl_adn (w : World) (o : Obj) (n : Nat) : Below w.heap.size w ((w.alloc o).drewN n) := below_drewN ((Below.refl _ _).alloc (Nat.le_refl _) o) n
theorem bl_da (w : World) (o : Obj) : Below w.heap.size w (w.drew.alloc o) := bl_ad w o
theorem shape_new_d {w : World} (v0 v1 v2 v3 v4 v5 v6 : Value) : Shape (w.alloc (.cells #[v0, v1, v2, v3, v4, v5, v6] 31)).drew w.heap.size 31 7 := shape_new v0 v1 v2 v3 v4 v5 v6
theorem shape_new_n {w : World} (n : Nat) (v0 v1 v2 v3 v4 v5 v6 : Value) : Shape ((w.alloc (.cells #[v0, v1, v2, v3, v4, v5, v6] 31)).drewN n) w.heap.size 31 7 := by
  obtain ⟨cur, h1, h2⟩ := shape_new (w := w) v0 v1 v2 v3 v4 v5 v6
  exact ⟨cur, by simpa using h1, h2⟩
theorem shape_ne {w0 w : World} {M A : Nat} {cur : Array Value} (h : Shape w M 31 7) (hA : w0.heap[A]? = some (.cells cur 33 (0, 0))) (hb : Below w0.heap.size w0 w) : M ≠ A := fun e => by
  subst e
  obtain ⟨c, h1, -⟩ := h
  exact type_ne h1 ((hb.block M (lt_of_heap hA)).trans hA) (by decide) rfl
theorem own2_of_a {w0 w w' : World} {o : Obj} {m : AMsg} {lb rg L2 : Nat} (ho : Own1 w0 w m lb L2) (hu : LentUps w' (w.alloc o).heap.size rg m.rows ∧ SpUps w' (w.alloc o).heap.size w'.heap.size rg m.rows.length (m.rows.length + 1)) (hb : Below (w.alloc o).heap.size (w.alloc o) w') : Own2 w0 w' m lb rg (w.alloc o).heap.size w'.heap.size :=
  own2_of (ho.below (bl_a _ _)) hu hb
theorem own3_of_a {w0 w w' : World} {o : Obj} {m : AMsg} {lb rg eg L2 L3 : Nat} (ho : Own2 w0 w m lb rg L2 L3) (hu : LentUps w' (w.alloc o).heap.size eg m.errs ∧ SpUps w' (w.alloc o).heap.size w'.heap.size eg m.errs.length (m.errs.length + 1)) (hb : Below (w.alloc o).heap.size (w.alloc o) w') : Own3 w0 w' m lb rg eg L2 (w.alloc o).heap.size w'.heap.size :=
  own3_of (ho.below (bl_a _ _)) hu hb
theorem shape_after {w w' : World} {v0 v1 v2 v3 v4 v5 v6 : Value} (hb : Below (w.alloc (.cells #[v0, v1, v2, v3, v4, v5, v6] 31)).heap.size (w.alloc (.cells #[v0, v1, v2, v3, v4, v5, v6] 31)) w') : Shape w' w.heap.size 31 7 := (shape_new _ _ _ _ _ _ _).below hb
theorem shape_after_d {w w' : World} {v0 v1 v2 v3 v4 v5 v6 : Value} (hb : Below (w.alloc (.cells #[v0, v1, v2, v3, v4, v5, v6] 31)).drew.heap.size (w.alloc (.cells #[v0, v1, v2, v3, v4, v5, v6] 31)).drew w') : Shape w' w.heap.size 31 7 := (shape_new_d _ _ _ _ _ _ _).below hb
theorem shape_after_n {w w' : World} {n : Nat} {v0 v1 v2 v3 v4 v5 v6 : Value} (hb : Below ((w.alloc (.cells #[v0, v1, v2, v3, v4, v5, v6] 31)).drewN n).heap.size ((w.alloc (.cells #[v0, v1, v2, v3, v4, v5, v6] 31)).drewN n) w') : Shape w' w.heap.size 31 7 := (shape_new_n _ _ _ _ _ _ _ _).below hb
theorem own1_bl {w0 w : World} {m : AMsg} {lb L2 : Nat} (h : Own1 w0 w m lb L2) : Below w0.heap.size w0 w := h.1
theorem own1_bla {w0 w : World} {o : Obj} {m : AMsg} {lb L2 : Nat} (h : Own1 w0 w m lb L2) : Below w0.heap.size w0 (w.alloc o) := (h.below (bl_a w o)).1
theorem own2_bl {w0 w : World} {m : AMsg} {lb rg L2 L3 : Nat} (h : Own2 w0 w m lb rg L2 L3) : Below w0.heap.size w0 w := h.1.1
theorem own2_bla {w0 w : World} {o : Obj} {m : AMsg} {lb rg L2 L3 : Nat} (h : Own2 w0 w m lb rg L2 L3) : Below w0.heap.size w0 (w.alloc o) := (h.below (bl_a w o)).1.1

/-- what is lent, wherever it lies -/
structure Lent3 (lo : Nat) (w : World) (m : AMsg) (lb rg eg L2 L3 L4 : Nat) : Prop where
  words : LentW w lo lb m.loops
  l1 : lb < L2
  l2 : lo ≤ L2
  l3 : L2 ≤ L3
  l4 : L3 ≤ L4
  l5 : L4 ≤ w.heap.size
  rows : LentUps w L2 rg m.rows
  spr : SpUps w L2 L3 rg m.rows.length (m.rows.length + 1)
  errs : LentUps w L3 eg m.errs
  spe : SpUps w L3 L4 eg m.errs.length (m.errs.length + 1)

theorem Own3.lent {w0 w : World} {m : AMsg} {lb rg eg L2 L3 L4 : Nat} (h : Own3 w0 w m lb rg eg L2 L3 L4) : Lent3 w0.heap.size w m lb rg eg L2 L3 L4 :=
  ⟨h.1.1.2.1, h.1.1.2.2.1, h.1.1.2.2.2.1, h.1.2.2.2.1, h.2.2.2.1, h.2.2.2.2, h.1.2.1, h.1.2.2.1, h.2.1, h.2.2.1⟩

theorem Lent3.keep {lo : Nat} {w w' : World} {m : AMsg} {lb rg eg L2 L3 L4 : Nat} (h : Lent3 lo w m lb rg eg L2 L3 L4) (hs : w.heap.size ≤ w'.heap.size) (hk : ∀ x, lo ≤ x → x < w.heap.size → w'.heap[x]? = w.heap[x]?) : Lent3 lo w' m lb rg eg L2 L3 L4 :=
  ⟨h.words.keep hk, h.l1, h.l2, h.l3, h.l4, Nat.le_trans h.l5 hs, h.rows.keep fun x h1 h2 => hk x (Nat.le_trans h.l2 h1) h2, h.spr.frame fun x h1 _ h2 => hk x (Nat.le_trans h.l2 h1) h2, h.errs.keep fun x h1 h2 => hk x (Nat.le_trans h.l2 (Nat.le_trans h.l3 h1)) h2, h.spe.frame fun x h1 _ h2 => hk x (Nat.le_trans h.l2 (Nat.le_trans h.l3 h1)) h2⟩

theorem Lent3.below {lo : Nat} {w w' : World} {m : AMsg} {lb rg eg L2 L3 L4 : Nat} (h : Lent3 lo w m lb rg eg L2 L3 L4) (hb : Below w.heap.size w w') : Lent3 lo w' m lb rg eg L2 L3 L4 := h.keep hb.size fun x _ hx => hb.block x hx

theorem Lent3.msg {lo : Nat} {w : World} {m : AMsg} {lb rg eg L2 L3 L4 : Nat} (h : Lent3 lo w m lb rg eg L2 L3 L4) :
    MsgIs w 0 m.raw (.slice (some ⟨lb, 0, none⟩) m.loops.length (m.loops.length + 2)) (.slice (some ⟨rg, 0, none⟩) m.rows.length (m.rows.length + 1)) (.slice (some ⟨eg, 0, none⟩) m.errs.length (m.errs.length + 1)) := lent_msg h.words h.rows h.errs

theorem Lent3.shape {lo : Nat} {w : World} {m : AMsg} {lb rg eg L2 L3 L4 : Nat} (h : Lent3 lo w m lb rg eg L2 L3 L4) : Shape w lb 111 (m.loops.length + 2) ∧ lo ≤ lb := by
  obtain ⟨h1, h2, -⟩ := shape_of_owns h.words
  exact ⟨by simpa using h1, h2⟩

theorem Sp.type {w w' : World} {lo hi x : Nat} (h : Sp (SpB w lo hi) w w') {cur : Array Value} {t : TypeId} (hx : w.heap[x]? = some (.cells cur t (0, 0))) (h1 : t ≠ 37) (h2 : t ≠ 89) (h3 : t ≠ 111) : w'.heap[x]? = some (.cells cur t (0, 0)) := by
  refine (h.1.block x (lt_of_heap hx) fun hb => ?_).trans hx
  obtain ⟨-, -, cur', t', hc, ht⟩ := hb
  rcases ht with rfl | rfl | rfl
  · exact type_ne hx hc h1 rfl
  · exact type_ne hx hc h2 rfl
  · exact type_ne hx hc h3 rfl

theorem sp_words {w w' : World} {lo hi g c : Nat} (h : Sp (fun k => k = g) w w') (hg : Shape w g 111 c) (h1 : lo ≤ g) (h2 : g < hi) : Sp (SpB w lo hi) w w' :=
  h.wide fun k e => by subst e; exact hg.spB h1 h2 (.inr (.inr rfl))
end Go.Proofs.Ytpoilgeffpedoaa
