import Derived.Test.YtpoilgeffpedoaaQh
/- The state of the two boxes and the book, side by side. -/
namespace Go.Proofs.Ytpoilgeffpedoaa
open Go.RowKit Go.Pen
attribute [local go_sem ↓] Go.wp_at_zero Go.wp_at_succ

/-- a message, without where it lies -/
def Msg.core (m : Msg) : Msg := m.at 0 0
def AMsg.raw (m : AMsg) : Msg := { node := m.node, out := m.out, port := m.port, epoch := m.epoch, loops := m.loops.map (Value.int .u32), ln := m.loops.length, rows := m.rows.map Upd.raw, errs := m.errs.map Upd.raw }

/-- what came in, and is not too great -/
structure AMsg.there (w : World) (m : AMsg) : Prop where
  loops : WordsAt w (.slice m.la m.loops.length m.lc) m.loops
  rows : UpsAt w (.slice m.ra m.rows.length m.rc) m.rows
  errs : UpsAt w (.slice m.ea m.errs.length m.ec) m.errs
  l1 : m.loops.length ≤ 3000
  l2 : m.rows.length ≤ 3000
  l3 : m.errs.length ≤ 3000
  k2 : ∀ u ∈ m.rows, u.row.length ≤ 3000 ∧ u.loops.length ≤ 3000
  k3 : ∀ u ∈ m.errs, u.row.length ≤ 3000 ∧ u.loops.length ≤ 3000

theorem AMsg.there.below {w w' : World} {m : AMsg} (h : m.there w) (hb : Below w.heap.size w w') : m.there w' :=
  ⟨h.loops.below hb, h.rows.below hb, h.errs.below hb, h.l1, h.l2, h.l3, h.k2, h.k3⟩

/-- a book's blocks have not turned -/
theorem BookIs.frame {w w' : World} {B base c : Nat} {U : Nat → Prop} (h : BookIs w B base c U)
    (hf : ∀ (g : Nat) (cur : Array Value) (t : TypeId), w.heap[g]? = some (.cells cur t (0, 0)) → (t = 63 ∨ t = 26 ∨ t = 34 ∨ t = 29) → w'.heap[g]? = w.heap[g]?)
    (hu : ∀ (g : Nat) (cur : Array Value) (t : TypeId), w.heap[g]? = some (.cells cur t (0, 0)) → (t = 37 ∨ t = 89 ∨ t = 111) → U g → w'.heap[g]? = w.heap[g]?) : BookIs w' B base c U := by
  obtain ⟨hB0, v3, v4, v10, n3, n4, n10, f3, f4, f10, l3, l4, l10, hB, h3, h4, h10, k3, k4, k10, u3, u4, u10⟩ := h
  have fr : ∀ {e sz tl n : Nat} {ov : Value} {v : Nat → Value} {ln : Nat → Nat}, BkList e sz tl base w ov n v ln → (tl = 26 ∨ tl = 34 ∨ tl = 29) → (e = 37 ∨ e = 89 ∨ e = 111) → (∀ g, SV n v g → U g) → BkList e sz tl base w' ov n v ln := by
    intro e sz tl n ov v ln h htl he hU
    refine ⟨ownsRow_frame h.outer fun g hg => ?_, h.nil, fun i hi => ?_, h.apart, h.cnt, h.lens⟩
    · obtain ⟨-, -, cur, hc⟩ := ownsRow_block h.outer hg
      exact hf g cur tl hc (by rcases htl with rfl | rfl | rfl <;> simp)
    · obtain ⟨xs, ho⟩ := h.own i hi
      refine ⟨xs, ownsRow_frame ho fun g hg => ?_⟩
      obtain ⟨-, -, cur, hc⟩ := ownsRow_block ho hg
      exact hu g cur e hc he (hU g ⟨i, hi, hg⟩)
  exact ⟨hB0, v3, v4, v10, n3, n4, n10, f3, f4, f10, l3, l4, l10, by rw [hf _ _ _ hB (by simp)]; exact hB, fr h3 (by simp) (by simp) u3, fr h4 (by simp) (by simp) u4, fr h10 (by simp) (by simp) u10, k3, k4, k10, u3, u4, u10⟩

/-- the numbers of things: program's box, its ways, workers, room; reference's box, its rows, their rows; the book -/
structure Cfg where
  b : Nat
  PB : Nat
  PL : Nat
  n : Nat
  r : Nat
  RB : Nat
  RQ : Nat
  RR : Nat → Nat
  BB : Nat

structure Sta where
  σ : Nat → Nat → WaySt
  V : Nat → Nat → Value
  QP : Nat → Nat → List AMsg
  QR : Nat → Nat → List AMsg
  U : Nat → Prop
  c : Nat

def Cfg.D (C : Cfg) : Nat → Nat → Prop := fun L k => L = C.PL ∧ k < C.n * C.n

structure St (C : Cfg) (K : AMsg → Prop) (w : World) (s : Sta) : Prop where
  base : C.b ≤ w.heap.size
  box : BoxIs w C.PB C.PL C.n C.r
  low : C.b ≤ C.PB
  ways : Ways C.b w C.D (fun _ => C.r) s.σ
  ref : RefIs C.b w C.RB C.RQ C.RR C.n C.r s.V s.QR
  same : ∀ i k, i < C.n → k < C.n → (s.σ C.PL (i * C.n + k)).q.map Msg.core = (s.QP i k).map AMsg.raw
  ring : ∀ p g, p < C.n * C.n → (s.σ C.PL p).ring = some g → ∀ i k, i < C.n → k < C.n → (s.V i k).ownBlock ≠ some g
  book : BookIs w C.BB C.b s.c s.U
  ulim : ∀ g, s.U g → C.b ≤ g ∧ g < w.heap.size
  span : ∀ p (j : Nat) m, p < C.n * C.n → (s.σ C.PL p).q[j]? = some m → C.b ≤ m.lo ∧ m.hi ≤ w.heap.size ∧ ∀ g, s.U g → ¬ (m.lo ≤ g ∧ g < m.hi)
  apart : ∀ p (j : Nat) m p' (j' : Nat) m', p < C.n * C.n → p' < C.n * C.n → (s.σ C.PL p).q[j]? = some m → (s.σ C.PL p').q[j']? = some m' → ¬ (p = p' ∧ j = j') → m.hi ≤ m'.lo ∨ m'.hi ≤ m.lo
  argP : ∀ i k m, i < C.n → k < C.n → m ∈ s.QP i k → K m
  argR : ∀ i k m, i < C.n → k < C.n → m ∈ s.QR i k → K m
  nn : 1 ≤ C.n ∧ C.n ≤ 8 ∧ 1 ≤ C.r ∧ C.r ≤ 64

/-- nothing of it has turned: neither of the boxes' blocks, nor of those that messages and the book hold -/
theorem St.frame {C : Cfg} {K : AMsg → Prop} {w w' : World} {s : Sta} (h : St C K w s) (hs : w.heap.size ≤ w'.heap.size)
    (hf : ∀ (g : Nat) (cur : Array Value) (t : TypeId), w.heap[g]? = some (.cells cur t (0, 0)) → (t = 94 ∨ t = 103 ∨ t = 31 ∨ t = 97 ∨ t = 98 ∨ t = 101 ∨ t = 63 ∨ t = 26 ∨ t = 34 ∨ t = 29) → w'.heap[g]? = w.heap[g]?)
    (hl : ∀ (g : Nat) (cur : Array Value) (t : TypeId), w.heap[g]? = some (.cells cur t (0, 0)) → (t = 37 ∨ t = 89 ∨ t = 111) → (s.U g ∨ ∃ p, ∃ (j : Nat), ∃ m, p < C.n * C.n ∧ (s.σ C.PL p).q[j]? = some m ∧ m.lo ≤ g ∧ g < m.hi) → w'.heap[g]? = w.heap[g]?) : St C K w' s := by
  refine ⟨Nat.le_trans h.base hs, ?_, h.low, ⟨fun L k hD => ?_, h.ways.2⟩, ?_, h.same, h.ring, ?_, fun g hg => ⟨(h.ulim g hg).1, Nat.lt_of_lt_of_le (h.ulim g hg).2 hs⟩, fun p j m hp hm => ⟨(h.span p j m hp hm).1, Nat.le_trans (h.span p j m hp hm).2.1 hs, (h.span p j m hp hm).2.2⟩, h.apart, h.argP, h.argR, h.nn⟩
  · exact show _ = _ from (hf _ _ _ h.box (by simp)).trans h.box
  · have hw := h.ways.1 L k hD
    obtain ⟨rfl, hk⟩ := hD
    obtain ⟨lc, hlc⟩ := hw.blk
    refine hw.frameIn (hf _ _ _ hlc (by simp)) (fun g hg => ?_) fun m hm g cur t hg ht h1 h2 => ?_
    · obtain ⟨cells, hc, -⟩ := hw.ring g hg
      exact hf _ _ _ hc (by simp)
    · obtain ⟨j, hj⟩ := List.getElem?_of_mem hm
      exact hl g cur t hg ht (.inr ⟨k, j, m, hk, hj, h1, h2⟩)
  · refine h.ref.frame (fun g cur t hg ht => hf g cur t hg (by rcases ht with rfl | rfl | rfl <;> simp)) fun i k g hi hk hg => ?_
    obtain ⟨cells, hc⟩ := (h.ref.que i k hi hk).block hg
    exact hf _ _ _ hc (by simp)
  · exact h.book.frame (fun g cur t hg ht => hf g cur t hg (by rcases ht with rfl | rfl | rfl | rfl <;> simp)) fun g cur t hg ht hU => hl g cur t hg ht (.inl hU)

theorem St.below {C : Cfg} {K : AMsg → Prop} {w w' : World} {s : Sta} (h : St C K w s) (hb : Below w.heap.size w w') : St C K w' s :=
  h.frame hb.size (fun g _ _ hg _ => hb.block g (lt_of_heap hg)) fun g _ _ hg _ _ => hb.block g (lt_of_heap hg)

theorem St.wayIn {C : Cfg} {K : AMsg → Prop} {w : World} {s : Sta} (_ : St C K w s) {i k : Nat} (hi : i < C.n) (hk : k < C.n) : C.D C.PL (i * C.n + k) := ⟨rfl, idx_lt hi hk⟩

theorem map_len {C : Cfg} {K : AMsg → Prop} {w : World} {s : Sta} (h : St C K w s) {i k : Nat} (hi : i < C.n) (hk : k < C.n) : (s.σ C.PL (i * C.n + k)).q.length = (s.QP i k).length := by
  have := congrArg List.length (h.same i k hi hk)
  simpa using this
end Go.Proofs.Ytpoilgeffpedoaa
