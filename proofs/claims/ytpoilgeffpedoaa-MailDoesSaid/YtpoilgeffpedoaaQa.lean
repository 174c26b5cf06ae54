import Derived.Test.YtpoilgeffpedoaaPe
/- The reference's box: what it is in memory; is, Len. -/
namespace Go.Proofs.Ytpoilgeffpedoaa
open Go.RowKit Go.Pen
attribute [local go_sem ↓] Go.wp_at_zero Go.wp_at_succ

/-- a message as it came in -/
structure AMsg where
  node : Int
  out : Bool
  port : Int
  epoch : Int
  la : Option Addr
  lc : Nat
  loops : List Int
  ra : Option Addr
  rc : Nat
  rows : List Upd
  ea : Option Addr
  ec : Nat
  errs : List Upd

def AMsg.vals (m : AMsg) : List Value := [.int .i64 m.node, .bool m.out, .int .i64 m.port, .int .u64 m.epoch, .slice m.la m.loops.length m.lc, .slice m.ra m.rows.length m.rc, .slice m.ea m.errs.length m.ec]

theorem AMsg.one (m : AMsg) : ∀ u ∈ m.vals, u.oneCell' = true := by
  intro u hu
  simp [AMsg.vals] at hu
  rcases hu with rfl | rfl | rfl | rfl | rfl | rfl | rfl <;> rfl

/-- one queue of the reference -/
def QueueAt (w : World) (v : Value) (q : List AMsg) : Prop :=
  ∃ a c, v = .slice a q.length c ∧ (a = none → q = [] ∧ c = 0) ∧ ∀ ad, a = some ad → ∃ g o, ∃ cells : Array Value, ad = ⟨g, o, none⟩ ∧ w.heap[g]? = some (.cells cells 31 (0, 0)) ∧ o + c * 7 ≤ cells.size ∧ q.length ≤ c ∧
    ∀ (j : Nat) m, q[j]? = some m → ∀ (t : Nat) x, m.vals[t]? = some x → cells[o + j * 7 + t]? = some x

structure RefIs (b : Nat) (w : World) (RB RQ : Nat) (RR : Nat → Nat) (n r : Nat) (V : Nat → Nat → Value) (q : Nat → Nat → List AMsg) : Prop where
  box : ∃ c, w.heap[RB]? = some (.cells #[.int .i64 r, .slice (some ⟨RQ, 0, none⟩) n c] 97 (0, 0))
  rows : ∃ cells : Array Value, w.heap[RQ]? = some (.cells cells 98 (0, 0)) ∧ ∀ i, i < n → cells[i]? = some (.slice (some ⟨RR i, 0, none⟩) n n)
  row : ∀ i, i < n → ∃ cells : Array Value, w.heap[RR i]? = some (.cells cells 101 (0, 0)) ∧ ∀ k, k < n → cells[k]? = some (V i k)
  inj : ∀ i j, i < n → j < n → RR i = RR j → i = j
  que : ∀ i k, i < n → k < n → QueueAt w (V i k) (q i k)
  apart : ∀ i k i' k' g, i < n → k < n → i' < n → k' < n → (V i k).ownBlock = some g → (V i' k').ownBlock = some g → i = i' ∧ k = k'
  low : b ≤ RB ∧ b ≤ RQ ∧ (∀ i, i < n → b ≤ RR i) ∧ ∀ i k g, i < n → k < n → (V i k).ownBlock = some g → b ≤ g

theorem QueueAt.frame {w w' : World} {v : Value} {q : List AMsg} (h : QueueAt w v q) (hf : ∀ g, v.ownBlock = some g → w'.heap[g]? = w.heap[g]?) : QueueAt w' v q := by
  obtain ⟨a, c, rfl, h0, h1⟩ := h
  refine ⟨a, c, rfl, h0, fun ad hd => ?_⟩
  obtain ⟨g, o, cells, rfl, hc, hs, hl, hm⟩ := h1 ad hd
  exact ⟨g, o, cells, rfl, by rw [hf g (by rw [hd]; rfl)]; exact hc, hs, hl, hm⟩

theorem QueueAt.block {w : World} {v : Value} {q : List AMsg} (h : QueueAt w v q) {g : Nat} (hg : v.ownBlock = some g) : ∃ cells : Array Value, w.heap[g]? = some (.cells cells 31 (0, 0)) := by
  obtain ⟨a, c, rfl, h0, h1⟩ := h
  cases a with
  | none => cases hg
  | some ad =>
    obtain ⟨g', o, cells, rfl, hc, -⟩ := h1 ad rfl
    cases hg
    exact ⟨cells, hc⟩

/-- nothing of it has turned -/
theorem RefIs.frame {b : Nat} {w w' : World} {RB RQ : Nat} {RR : Nat → Nat} {n r : Nat} {V : Nat → Nat → Value} {q : Nat → Nat → List AMsg} (h : RefIs b w RB RQ RR n r V q)
    (hf : ∀ (g : Nat) (cur : Array Value) (t : TypeId), w.heap[g]? = some (.cells cur t (0, 0)) → (t = 97 ∨ t = 98 ∨ t = 101) → w'.heap[g]? = w.heap[g]?)
    (hq : ∀ i k g, i < n → k < n → (V i k).ownBlock = some g → w'.heap[g]? = w.heap[g]?) : RefIs b w' RB RQ RR n r V q := by
  obtain ⟨c, hb⟩ := h.box
  obtain ⟨cs, hr, hrs⟩ := h.rows
  refine ⟨⟨c, by rw [hf _ _ _ hb (by simp)]; exact hb⟩, ⟨cs, by rw [hf _ _ _ hr (by simp)]; exact hr, hrs⟩, fun i hi => ?_, h.inj, fun i k hi hk => (h.que i k hi hk).frame fun g hg => hq i k g hi hk hg, h.apart, h.low⟩
  obtain ⟨cells, h1, h2⟩ := h.row i hi
  exact ⟨cells, by rw [hf _ _ _ h1 (by simp)]; exact h1, h2⟩

theorem RefIs.below {b : Nat} {w w' : World} {RB RQ : Nat} {RR : Nat → Nat} {n r : Nat} {V : Nat → Nat → Value} {q : Nat → Nat → List AMsg} (h : RefIs b w RB RQ RR n r V q) (hb : Below w.heap.size w w') : RefIs b w' RB RQ RR n r V q :=
  h.frame (fun g _ _ hg _ => hb.block g (lt_of_heap hg)) fun i k g hi hk hg => by
    obtain ⟨cells, hc⟩ := (h.que i k hi hk).block hg
    exact hb.block g (lt_of_heap hc)

theorem RefIs.cells {b : Nat} {w : World} {RB RQ : Nat} {RR : Nat → Nat} {n r : Nat} {V : Nat → Nat → Value} {q : Nat → Nat → List AMsg} (h : RefIs b w RB RQ RR n r V q) :
    ∃ c, w.cell? ⟨RB, 0, none⟩ = some (.int .i64 r) ∧ w.cell? ⟨RB, 1, none⟩ = some (.slice (some ⟨RQ, 0, none⟩) n c) := by
  obtain ⟨c, hb⟩ := h.box
  exact ⟨c, cell_of_heap hb rfl, cell_of_heap hb rfl⟩

theorem RefIs.way {b : Nat} {w : World} {RB RQ : Nat} {RR : Nat → Nat} {n r : Nat} {V : Nat → Nat → Value} {q : Nat → Nat → List AMsg} (h : RefIs b w RB RQ RR n r V q) {i k : Nat} (hi : i < n) (hk : k < n) :
    w.cell? ⟨RQ, i, none⟩ = some (.slice (some ⟨RR i, 0, none⟩) n n) ∧ w.cell? ⟨RR i, k, none⟩ = some (V i k) := by
  obtain ⟨cs, hr, hrs⟩ := h.rows
  obtain ⟨cells, h1, h2⟩ := h.row i hi
  exact ⟨cell_of_heap hr (hrs i hi), cell_of_heap h1 (h2 k hk)⟩

set_option maxHeartbeats 400000 in
theorem is_yes {b : Nat} {RB RQ : Nat} {RR : Nat → Nat} {n r : Nat} {V : Nat → Nat → Value} {q : Nat → Nat → List AMsg} (i k : Nat) (w : World) (h : RefIs b w RB RQ RR n r V q) (hi : i < n) (hk : k < n) :
    Calls Try.prog 29 #[.pointer (some ⟨RB, 0, none⟩), .int .i64 i, .int .i64 k] w fun e w' => e = .returned (.bool true) ∧ Below w.heap.size w w' := by
  obtain ⟨c, -, c1⟩ := h.cells
  have g0 : (0 : Int) ≤ i := by omega
  have g1 : (i : Int) < n := by omega
  have g2 : (0 : Int) ≤ k := by omega
  have g3 : (k : Int) < n := by omega
  clear h hi hk
  go_enter Try.func29, Try.ntmps29
  go_wp2
  go_ret
  exact ⟨rfl, Below.refl _ _⟩

/-- there is such a way -/
def InBox (n : Nat) (i k : Int) : Prop := 0 ≤ i ∧ i < n ∧ 0 ≤ k ∧ k < n

theorem not_inBox {n : Nat} {i k : Int} (h : ¬ InBox n i k) : i < 0 ∨ (0 ≤ i ∧ (n : Int) ≤ i) ∨ (0 ≤ i ∧ i < n ∧ k < 0) ∨ (0 ≤ i ∧ i < n ∧ 0 ≤ k ∧ (n : Int) ≤ k) := by
  unfold InBox at h; omega

set_option maxHeartbeats 400000 in
theorem is_no {b : Nat} {RB RQ : Nat} {RR : Nat → Nat} {n r : Nat} {V : Nat → Nat → Value} {q : Nat → Nat → List AMsg} (i k : Int) (w : World) (h : RefIs b w RB RQ RR n r V q) (hn : ¬ InBox n i k) :
    Calls Try.prog 29 #[.pointer (some ⟨RB, 0, none⟩), .int .i64 i, .int .i64 k] w fun e w' => e = .returned (.bool false) ∧ Below w.heap.size w w' := by
  obtain ⟨c, -, c1⟩ := h.cells
  clear h
  rcases not_inBox hn with h | ⟨h, h1⟩ | ⟨h, h1, h2⟩ | ⟨h, h1, h2, h3⟩
  · have h' : ¬ (0 ≤ i) := by omega
    clear hn
    go_enter Try.func29, Try.ntmps29
    go_wp2
    go_ret
    exact ⟨rfl, Below.refl _ _⟩
  · have h' : ¬ (i < n) := by omega
    clear hn
    go_enter Try.func29, Try.ntmps29
    go_wp2
    go_ret
    exact ⟨rfl, Below.refl _ _⟩
  · have h' : ¬ (0 ≤ k) := by omega
    clear hn
    go_enter Try.func29, Try.ntmps29
    go_wp2
    go_ret
    exact ⟨rfl, Below.refl _ _⟩
  · have h' : ¬ (k < n) := by omega
    clear hn
    go_enter Try.func29, Try.ntmps29
    go_wp2
    refine bodyPost_ret (v := .bool false) (by simp [results, Try.results29, go_sem]) rfl ⟨rfl, Below.refl _ _⟩

set_option maxHeartbeats 400000 in
theorem rlen_yes {b : Nat} {RB RQ : Nat} {RR : Nat → Nat} {n r : Nat} {V : Nat → Nat → Value} {q : Nat → Nat → List AMsg} (i k : Nat) (w : World) (h : RefIs b w RB RQ RR n r V q) (hi : i < n) (hk : k < n) :
    Calls Try.prog 25 #[.pointer (some ⟨RB, 0, none⟩), .int .i64 i, .int .i64 k] w fun e w' => e = .returned (.int .i64 (q i k).length) ∧ Below w.heap.size w w' := by
  have H := Lib.hid h
  clear h
  go_enter Try.func25, Try.ntmps25
  go_wp2_with (go_at_call 29; refine (is_yes i k _ H.out hi hk).mono ?_; rintro e w1 ⟨rfl, hb1⟩; obtain ⟨c, -, c1⟩ := (H.out.below hb1).cells; obtain ⟨d0, d1⟩ := (H.out.below hb1).way hi hk; obtain ⟨a, cc, hv, -⟩ := H.out.que i k hi hk; rw [hv] at d1; clear hv)
  go_ret
  exact ⟨rfl, hb1⟩

set_option maxHeartbeats 400000 in
theorem rlen_no {b : Nat} {RB RQ : Nat} {RR : Nat → Nat} {n r : Nat} {V : Nat → Nat → Value} {q : Nat → Nat → List AMsg} (i k : Int) (w : World) (h : RefIs b w RB RQ RR n r V q) (hn : ¬ InBox n i k) :
    Calls Try.prog 25 #[.pointer (some ⟨RB, 0, none⟩), .int .i64 i, .int .i64 k] w fun e w' => e = .returned (.int .i64 0) ∧ Below w.heap.size w w' := by
  have H := Lib.hid h
  clear h
  go_enter Try.func25, Try.ntmps25
  go_wp2_with (go_at_call 29; refine (is_no i k _ H.out hn).mono ?_; rintro e w1 ⟨rfl, hb1⟩)
  go_ret
  exact ⟨rfl, hb1⟩
end Go.Proofs.Ytpoilgeffpedoaa
