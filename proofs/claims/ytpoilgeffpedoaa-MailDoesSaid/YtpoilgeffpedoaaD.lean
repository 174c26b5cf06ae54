import Derived.Test.YtpoilgeffpedoaaC
namespace Go.Proofs.Ytpoilgeffpedoaa
open Go.RowKit Go.Pen
attribute [local go_sem ↓] Go.wp_at_zero Go.wp_at_succ

structure WaySt where
  ring : Option Nat
  fr : Nat
  q : List Msg

def ringVal (r : Nat) : Option Nat → Value
  | none => .slice none 0 0
  | some g => .slice (some ⟨g, 0, none⟩) r r

/-- a message's seven cells, from a place on -/
def MsgAt (w : World) (cells : Array Value) (o : Nat) (m : Msg) : Prop :=
  ∃ la lc ra rc ea ec, cells[o]? = some (.int .i64 m.node) ∧ cells[o + 1]? = some (.bool m.out) ∧ cells[o + 2]? = some (.int .i64 m.port) ∧ cells[o + 3]? = some (.int .u64 m.epoch) ∧
    cells[o + 4]? = some (.slice la m.ln lc) ∧ cells[o + 5]? = some (.slice ra m.rows.length rc) ∧ cells[o + 6]? = some (.slice ea m.errs.length ec) ∧
    MsgIn w m.lo m.hi m (.slice la m.ln lc) (.slice ra m.rows.length rc) (.slice ea m.errs.length ec) ∧ m.ok

def RingIs (w : World) (g r fr : Nat) (q : List Msg) : Prop :=
  ∃ cells : Array Value, w.heap[g]? = some (.cells cells 31 (0, 0)) ∧ cells.size = r * 7 ∧ (∀ x ∈ cells, x.oneCell' = true) ∧ ∀ j m, q[j]? = some m → MsgAt w cells ((fr + j) % r * 7) m

structure WayIs (w : World) (L k r : Nat) (s : WaySt) : Prop where
  blk : ∃ cells, w.heap[L]? = some (.cells cells 103 (0, 0))
  c0 : w.cell? ⟨L, k * 3, none⟩ = some (ringVal r s.ring)
  c1 : w.cell? ⟨L, k * 3 + 1, none⟩ = some (.int .i64 s.fr)
  c2 : w.cell? ⟨L, k * 3 + 2, none⟩ = some (.int .i64 s.q.length)
  len : s.q.length ≤ r
  lt : s.fr < r
  empty : s.ring = none → s.q = []
  ring : ∀ g, s.ring = some g → RingIs w g r s.fr s.q

def BoxIs (w : World) (B L n r : Nat) : Prop :=
  w.heap[B]? = some (.cells #[.int .i64 n, .int .i64 r, .slice (some ⟨L, 0, none⟩) (n * n) (n * n)] 94 (0, 0))

/-- what turns at an act on one way -/
structure Turn (w w' : World) (L k : Nat) (rg : Option Nat) : Prop where
  os : w'.os = w.os
  tape : w'.tape = w.tape
  output : w'.output = w.output
  size : w.heap.size ≤ w'.heap.size
  block : ∀ g, g < w.heap.size → g ≠ L → rg ≠ some g → w'.heap[g]? = w.heap[g]?
  lcell : ∀ o, (o < k * 3 ∨ k * 3 + 3 ≤ o) → w'.cell? ⟨L, o, none⟩ = w.cell? ⟨L, o, none⟩
  lblk : ∀ cells, w.heap[L]? = some (.cells cells 103 (0, 0)) → ∃ cells', w'.heap[L]? = some (.cells cells' 103 (0, 0))

theorem Turn.of_below {w w' : World} {L k : Nat} {rg : Option Nat} (h : Below w.heap.size w w') (hL : L < w.heap.size) : Turn w w' L k rg :=
  ⟨h.os, h.tape, h.output, h.size, fun g hg _ _ => h.block g hg, fun o _ => World.cell?_of_block (h.block L hL), fun cells hc => ⟨cells, by rw [h.block L hL]; exact hc⟩⟩

theorem MsgAt.frameIn {w w' : World} {cells : Array Value} {o : Nat} {m : Msg} (h : MsgAt w cells o m) (hf : ∀ (g : Nat) (cur : Array Value) (t : TypeId), w.heap[g]? = some (.cells cur t (0, 0)) → (t = 37 ∨ t = 89 ∨ t = 111) → m.lo ≤ g → g < m.hi → w'.heap[g]? = w.heap[g]?) : MsgAt w' cells o m := by
  obtain ⟨la, lc, ra, rc, ea, ec, a0, a1, a2, a3, a4, a5, a6, hm, hk⟩ := h
  exact ⟨la, lc, ra, rc, ea, ec, a0, a1, a2, a3, a4, a5, a6, hm.frame hf, hk⟩

theorem MsgAt.frame {w w' : World} {cells : Array Value} {o : Nat} {m : Msg} (h : MsgAt w cells o m) (hf : ∀ (g : Nat) (cur : Array Value) (t : TypeId), w.heap[g]? = some (.cells cur t (0, 0)) → (t = 37 ∨ t = 89 ∨ t = 111) → w'.heap[g]? = w.heap[g]?) : MsgAt w' cells o m :=
  h.frameIn fun g cur t hg ht _ _ => hf g cur t hg ht

/-- a way of which nothing has turned -/
theorem WayIs.frame {w w' : World} {L k r : Nat} {s : WaySt} (h : WayIs w L k r s) (hblk : ∃ cells, w'.heap[L]? = some (.cells cells 103 (0, 0)))
    (hc : ∀ o, k * 3 ≤ o → o < k * 3 + 3 → w'.cell? ⟨L, o, none⟩ = w.cell? ⟨L, o, none⟩) (hr : ∀ g, s.ring = some g → w'.heap[g]? = w.heap[g]?)
    (hf : ∀ (g : Nat) (cur : Array Value) (t : TypeId), w.heap[g]? = some (.cells cur t (0, 0)) → (t = 37 ∨ t = 89 ∨ t = 111) → w'.heap[g]? = w.heap[g]?) : WayIs w' L k r s := by
  refine ⟨hblk, (hc (k * 3) (by omega) (by omega)).trans h.c0, (hc (k * 3 + 1) (by omega) (by omega)).trans h.c1, (hc (k * 3 + 2) (by omega) (by omega)).trans h.c2, h.len, h.lt, h.empty, fun g hg => ?_⟩
  obtain ⟨cells, h1, h2, h3, h4⟩ := h.ring g hg
  exact ⟨cells, by rw [hr g hg]; exact h1, h2, h3, fun j m hm => (h4 j m hm).frame hf⟩

/-- a way whose own blocks have not turned, nor those of its messages -/
theorem WayIs.frameIn {w w' : World} {L k r : Nat} {s : WaySt} (h : WayIs w L k r s) (hb : w'.heap[L]? = w.heap[L]?) (hr : ∀ g, s.ring = some g → w'.heap[g]? = w.heap[g]?)
    (hf : ∀ m ∈ s.q, ∀ (g : Nat) (cur : Array Value) (t : TypeId), w.heap[g]? = some (.cells cur t (0, 0)) → (t = 37 ∨ t = 89 ∨ t = 111) → m.lo ≤ g → g < m.hi → w'.heap[g]? = w.heap[g]?) : WayIs w' L k r s := by
  obtain ⟨lc, hlc⟩ := h.blk
  refine ⟨⟨lc, by rw [hb]; exact hlc⟩, (World.cell?_of_block hb).trans h.c0, (World.cell?_of_block hb).trans h.c1, (World.cell?_of_block hb).trans h.c2, h.len, h.lt, h.empty, fun g hg => ?_⟩
  obtain ⟨cells, h1, h2, h3, h4⟩ := h.ring g hg
  exact ⟨cells, by rw [hr g hg]; exact h1, h2, h3, fun j m hm => (h4 j m hm).frameIn (hf m (List.mem_of_getElem? hm))⟩

def Ways (b : Nat) (w : World) (D : Nat → Nat → Prop) (r : Nat → Nat) (σ : Nat → Nat → WaySt) : Prop :=
  (∀ L k, D L k → WayIs w L k (r L) (σ L k)) ∧ (∀ L k L' k' g, D L k → D L' k' → (σ L k).ring = some g → (σ L' k').ring = some g → L = L' ∧ k = k') ∧
    ∀ L k, D L k → b ≤ L ∧ ∀ g, (σ L k).ring = some g → b ≤ g

def upd (σ : Nat → Nat → WaySt) (L k : Nat) (s : WaySt) : Nat → Nat → WaySt := fun L' k' => if L' = L ∧ k' = k then s else σ L' k'

theorem upd_same (σ : Nat → Nat → WaySt) (L k : Nat) (s : WaySt) : upd σ L k s L k = s := by simp [upd]
theorem upd_ne {σ : Nat → Nat → WaySt} {L k L' k' : Nat} {s : WaySt} (h : ¬ (L' = L ∧ k' = k)) : upd σ L k s L' k' = σ L' k' := by simp only [upd, if_neg h]

theorem type_ne {w : World} {g G : Nat} {c1 c2 : Array Value} {t1 t2 : TypeId} (h1 : w.heap[g]? = some (.cells c1 t1 (0, 0))) (h2 : w.heap[G]? = some (.cells c2 t2 (0, 0))) (h : t1 ≠ t2) : g ≠ G := by
  intro e; subst e; rw [h1] at h2; simp only [Option.some.injEq, Obj.cells.injEq] at h2; exact h h2.2.1

theorem Ways.turn {b : Nat} {w w' : World} {D : Nat → Nat → Prop} {r : Nat → Nat} {σ : Nat → Nat → WaySt} (h : Ways b w D r σ) {L k : Nat} (hD : D L k) (ht : Turn w w' L k (σ L k).ring) {s : WaySt} (hs : WayIs w' L k (r L) s)
    (hn : s.ring = (σ L k).ring ∨ ∃ g, s.ring = some g ∧ w.heap.size ≤ g) : Ways b w' D r (upd σ L k s) := by
  have hLk := h.1 L k hD
  obtain ⟨lc, hlc⟩ := hLk.blk
  have hring : ∀ g, (σ L k).ring = some g → ∃ cells, w.heap[g]? = some (.cells cells 31 (0, 0)) := fun g hg => by
    obtain ⟨cells, h1, _⟩ := hLk.ring g hg; exact ⟨cells, h1⟩
  have hf : ∀ (g : Nat) (cur : Array Value) (t : TypeId), w.heap[g]? = some (.cells cur t (0, 0)) → (t = 37 ∨ t = 89 ∨ t = 111) → w'.heap[g]? = w.heap[g]? := fun g cur t hg htt => by
    refine ht.block g (lt_of_heap hg) (type_ne hg hlc (by rcases htt with rfl | rfl | rfl <;> decide)) fun e => ?_
    obtain ⟨cells, hc⟩ := hring g e
    exact type_ne hg hc (by rcases htt with rfl | rfl | rfl <;> decide) rfl
  have hbs : b ≤ w.heap.size := Nat.le_trans (h.2.2 L k hD).1 (Nat.le_of_lt (lt_of_heap hlc))
  refine ⟨fun L' k' hD' => ?_, fun L1 k1 L2 k2 g h1 h2 e1 e2 => ?_, fun L' k' hD' => ?_⟩
  · by_cases he : L' = L ∧ k' = k
    · obtain ⟨rfl, rfl⟩ := he; rw [upd_same]; exact hs
    · rw [upd_ne he]
      have hw := h.1 L' k' hD'
      obtain ⟨lc', hlc'⟩ := hw.blk
      have hr' : ∀ g, (σ L' k').ring = some g → w'.heap[g]? = w.heap[g]? := fun g hg => by
        obtain ⟨cells, h1, _⟩ := hw.ring g hg
        refine ht.block g (lt_of_heap h1) (type_ne h1 hlc (by decide)) fun e => he ?_
        obtain ⟨a, b⟩ := h.2.1 L k L' k' g hD hD' e hg
        exact ⟨a.symm, b.symm⟩
      by_cases hL : L' = L
      · subst hL
        exact hw.frame (ht.lblk lc' hlc') (fun o h1 h2 => ht.lcell o (by omega)) hr' hf
      · have hb : w'.heap[L']? = w.heap[L']? := ht.block L' (lt_of_heap hlc') hL fun e => by
          obtain ⟨cells, hc⟩ := hring L' e
          exact type_ne hlc' hc (by decide) rfl
        exact hw.frame ⟨lc', by rw [hb]; exact hlc'⟩ (fun o _ _ => World.cell?_of_block hb) hr' hf
  · have old : ∀ L' k' g, D L' k' → (σ L' k').ring = some g → g < w.heap.size := fun L' k' g hD' hg => by
      obtain ⟨cells, h1, _⟩ := (h.1 L' k' hD').ring g hg; exact lt_of_heap h1
    by_cases hq1 : L1 = L ∧ k1 = k
    · obtain ⟨rfl, rfl⟩ := hq1
      rw [upd_same] at e1
      by_cases hq2 : L2 = L1 ∧ k2 = k1
      · exact ⟨hq2.1.symm, hq2.2.symm⟩
      · rw [upd_ne hq2] at e2
        rcases hn with hn | ⟨g', hn, hg'⟩
        · exact h.2.1 L1 k1 L2 k2 g h1 h2 (by rw [← hn]; exact e1) e2
        · have := old L2 k2 g h2 e2
          rw [e1] at hn; cases hn; omega
    · rw [upd_ne hq1] at e1
      by_cases hq2 : L2 = L ∧ k2 = k
      · obtain ⟨rfl, rfl⟩ := hq2
        rw [upd_same] at e2
        rcases hn with hn | ⟨g', hn, hg'⟩
        · exact h.2.1 L1 k1 L2 k2 g h1 h2 e1 (by rw [← hn]; exact e2)
        · have := old L1 k1 g h1 e1
          rw [e2] at hn; cases hn; omega
      · rw [upd_ne hq2] at e2
        exact h.2.1 L1 k1 L2 k2 g h1 h2 e1 e2
  · by_cases he : L' = L ∧ k' = k
    · obtain ⟨rfl, rfl⟩ := he
      rw [upd_same]
      refine ⟨(h.2.2 L' k' hD').1, fun g hg => ?_⟩
      rcases hn with hn | ⟨g', hn, hg'⟩
      · exact (h.2.2 L' k' hD').2 g (by rw [← hn]; exact hg)
      · rw [hg] at hn; cases hn; omega
    · rw [upd_ne he]; exact h.2.2 L' k' hD'

theorem Ways.turn_below {b : Nat} {w w' : World} {D : Nat → Nat → Prop} {r : Nat → Nat} {σ : Nat → Nat → WaySt} (h : Ways b w D r σ) {L k : Nat} (hD : D L k) (ht : Turn w w' L k (σ L k).ring) : Below b w w' := by
  obtain ⟨lc, hlc⟩ := (h.1 L k hD).blk
  have hL := (h.2.2 L k hD).1
  have hlt := lt_of_heap hlc
  exact ⟨ht.os, ht.tape, ht.output, ht.size, fun x hx => ht.block x (by omega) (by omega) fun e => by have := (h.2.2 L k hD).2 x e; omega⟩

theorem WayIs.below {w w' : World} {L k r : Nat} {s : WaySt} (h : WayIs w L k r s) (hb : Below w.heap.size w w') : WayIs w' L k r s := by
  obtain ⟨lc, hlc⟩ := h.blk
  have hl := hb.block L (lt_of_heap hlc)
  refine h.frame ⟨lc, hl.trans hlc⟩ (fun o _ _ => World.cell?_of_block hl) (fun g hg => ?_) fun g cur t hg _ => hb.block g (lt_of_heap hg)
  obtain ⟨cells, h1, _⟩ := h.ring g hg
  exact hb.block g (lt_of_heap h1)

theorem Ways.below {b : Nat} {w w' : World} {D : Nat → Nat → Prop} {r : Nat → Nat} {σ : Nat → Nat → WaySt} (h : Ways b w D r σ) (hb : Below w.heap.size w w') : Ways b w' D r σ :=
  ⟨fun L k hD => (h.1 L k hD).below hb, h.2⟩

/-- New, if it may be -/
theorem info103 : (Try.prog.info? 103).map (fun i => (i.zero, i.size, i.bytes)) = some (some (.agg #[.slice none 0 0, .int .i64 0, .int .i64 0]), 3, 40) := by kernel_rfl

set_option maxRecDepth 100000 in
set_option maxHeartbeats 400000 in
theorem new_ok (n r : Nat) (w : World) (h1 : 1 ≤ n) (h2 : n ≤ 8) (h3 : 1 ≤ r) (h4 : r ≤ 64) :
    Calls Try.prog 6 #[.int .i64 n, .int .i64 r] w fun e w' => e = .returned (.tuple #[.pointer (some ⟨w.heap.size + 1, 0, none⟩), .int .u16 0]) ∧
      w' = (w.alloc (.cells (madeCells #[.slice none 0 0, .int .i64 0, .int .i64 0] (n * n * 3)) 103)).alloc (.cells #[.int .i64 n, .int .i64 r, .slice (some ⟨w.heap.size, 0, none⟩) (n * n) (n * n)] 94) := by
  obtain ⟨i0, hi, hz0, hz1, hz2⟩ := info_parts info103
  have hnn : n * n ≤ 64 := Nat.mul_le_mul h2 h2
  have g4 : (n : Int) * n ≤ 64 := by
    have : ((n * n : Nat) : Int) ≤ 64 := by omega
    simpa using this
  have g5 : (0 : Int) ≤ (n : Int) * n := by
    have : (0 : Int) ≤ ((n * n : Nat) : Int) := by omega
    simpa using this
  have hmk : ∀ u : World, (Instr.makeSlice 92 (.int .i64 ((n : Int) * n)) (.int .i64 ((n : Int) * n))).run Try.prog u =
      .ok (.slice (some ⟨u.heap.size, 0, none⟩) (n * n) (n * n)) (u.alloc (.cells (madeCells #[.slice none 0 0, .int .i64 0, .int .i64 0] (n * n * 3)) 103)) := fun u => by
    have h := run_make (P := Try.prog) u 92 103 i0 _ Try.underlying92 hi hz0 .i64 .i64 ((n : Int) * n) ((n : Int) * n) g5 (Int.le_refl _) (by rw [hz2]; omega) (by omega)
    have e : ((n : Int) * n).toNat = n * n := by
      have : ((n * n : Nat) : Int) = (n : Int) * n := by simp
      omega
    rw [e] at h
    simpa [hz1, Value.cells] using h
  have n1 : (1 : Int) ≤ n := by omega
  have n2 : (n : Int) ≤ 8 := by omega
  have n3 : (1 : Int) ≤ r := by omega
  have n4 : (r : Int) ≤ 64 := by omega
  go_enter Try.func6, Try.ntmps6
  go_wp2
  go_ret2
  exact ⟨rfl, rfl⟩

set_option maxHeartbeats 400000 in
theorem new_zero (r : Int) (w : World) :
    Calls Try.prog 6 #[.int .i64 0, .int .i64 r] w fun e w' => e = .returned (.tuple #[.pointer none, .int .u16 90]) ∧ w = w' := by
  go_enter Try.func6, Try.ntmps6
  go_wp2
  go_ret2
  exact ⟨rfl, rfl⟩
end Go.Proofs.Ytpoilgeffpedoaa
