import Derived.Test.YtpoilgeffpedoaaRf
/- Ready, of both. -/
namespace Go.Proofs.Ytpoilgeffpedoaa
open Go.RowKit Go.Pen
attribute [local go_sem ↓] Go.wp_at_zero Go.wp_at_succ

/-- the ways that have messages -/
def idxOf (n : Nat) (q : Nat → Nat → List AMsg) : List Nat := readyIdx (fun p => (q (p / n) (p % n)).length) (n * n)

theorem readyIdx_congr {f g : Nat → Nat} {N : Nat} (h : ∀ k, k < N → f k = g k) : readyIdx f N = readyIdx g N := by
  unfold readyIdx
  refine List.filter_congr fun k hk => ?_
  rw [h k (List.mem_range.1 hk)]

theorem st_ready {C : Cfg} {K : AMsg → Prop} {w : World} {s : Sta} (h : St C K w s) :
    Calls Try.prog 22 #[.pointer (some ⟨C.PB, 0, none⟩)] w fun e w' => ∃ v, e = .returned v ∧ w'.ownsRow w.heap.size 81 2 v (idxOf C.n s.QP).length (pairCells C.n (idxOf C.n s.QP)) ∧ St C K w' s ∧ Below w.heap.size w w' := by
  have hl : C.PL < w.heap.size := by
    obtain ⟨lc, hlc⟩ := (h.ways.1 C.PL 0 ⟨rfl, Nat.mul_pos (by have := h.nn.1; omega) (by have := h.nn.1; omega)⟩).blk
    exact lt_of_heap hlc
  refine (ready_any C.PB C.PL C.n C.r (fun k => (s.σ C.PL k).q.length) w h.box h.nn.1 h.nn.2.1 hl (lens_of_ways h.ways fun k hk => ⟨rfl, hk⟩)).mono ?_
  rintro e w' ⟨v, rfl, ho, hb⟩
  have e1 : readyIdx (fun k => (s.σ C.PL k).q.length) (C.n * C.n) = idxOf C.n s.QP := by
    refine readyIdx_congr fun p hp => ?_
    have hn : 0 < C.n := by have := h.nn.1; omega
    have h1 : p / C.n < C.n := by rw [Nat.div_lt_iff_lt_mul hn]; exact hp
    have h2 : p % C.n < C.n := Nat.mod_lt _ hn
    have := map_len h h1 h2
    rw [show p / C.n * C.n + p % C.n = p by rw [Nat.mul_comm]; exact Nat.div_add_mod p C.n] at this
    exact this
  rw [e1] at ho
  exact ⟨v, rfl, ho, h.below hb, hb⟩

/-- what the reference's Ready tells -/
def PairsAt (w : World) (n : Nat) (v : Value) (l : List Nat) : Prop :=
  ∃ (b : Nat) (G : Nat → Nat), w.ownsRow b 82 1 v l.length (pairVals l.length G) ∧ ∀ (j : Nat) x, l[j]? = some x → w.heap[G j]? = some (.cells #[.int .i64 ((x / n : Nat) : Int), .int .i64 ((x % n : Nat) : Int)] 3 (0, 0))

theorem st_rready {C : Cfg} {K : AMsg → Prop} {w : World} {s : Sta} (h : St C K w s) :
    Calls Try.prog 23 #[.pointer (some ⟨C.RB, 0, none⟩)] w fun e w' => ∃ v, e = .returned v ∧ PairsAt w' C.n v (idxOf C.n s.QR) ∧ St C K w' s ∧ Below w.heap.size w w' := by
  refine (rready_any w h.ref h.nn.2.1 h.nn.1).mono ?_
  rintro e w' ⟨v, rfl, G, ho, hG, hb⟩
  exact ⟨v, rfl, ⟨_, G, ho, hG⟩, h.below hb, hb⟩

theorem PairsAt.below {w w' : World} {n : Nat} {v : Value} {l : List Nat} (h : PairsAt w n v l) (hb : Below w.heap.size w w') : PairsAt w' n v l := by
  obtain ⟨b, G, h1, h2⟩ := h
  exact ⟨b, G, Below.ownsRow' hb h1, fun j x hx => (hb.block _ (lt_of_heap (h2 j x hx))).trans (h2 j x hx)⟩

theorem idxOf_len (n : Nat) (q : Nat → Nat → List AMsg) (hn : n ≤ 8) : (idxOf n q).length ≤ 64 := by
  have h1 := readyIdx_len (fun p => (q (p / n) (p % n)).length) (n * n)
  have h2 : n * n ≤ 8 * 8 := Nat.mul_le_mul hn hn
  unfold idxOf; omega

theorem pairCells_at (n : Nat) : ∀ (l : List Nat) (j x : Nat), l[j]? = some x → (pairCells n l)[j * 2]? = some (.int .i64 ((x / n : Nat) : Int)) ∧ (pairCells n l)[j * 2 + 1]? = some (.int .i64 ((x % n : Nat) : Int))
  | [], j, x, h => by simp at h
  | y :: l, j, x, h => by
    have e : pairCells n (y :: l) = [.int .i64 ((y / n : Nat) : Int), .int .i64 ((y % n : Nat) : Int)] ++ pairCells n l := by simp [pairCells]
    cases j with
    | zero => simp at h; subst h; rw [e]; exact ⟨rfl, rfl⟩
    | succ j =>
      have := pairCells_at n l j x (by simpa using h)
      rw [e, show (j + 1) * 2 = j * 2 + 1 + 1 by omega]
      exact this

/-- both answers at one place -/
theorem pairs_read {w : World} {n b L c L' c' : Nat} {a a' : Option Addr} {l : List Nat} (h1 : w.ownsRow b 81 2 (.slice a L c) l.length (pairCells n l)) (h2 : PairsAt w n (.slice a' L' c') l) {j : Nat} (hj : j < l.length) :
    ∃ (x g g' G : Nat), L = l.length ∧ L' = l.length ∧ a = some ⟨g, 0, none⟩ ∧ a' = some ⟨g', 0, none⟩ ∧ w.cell? ⟨g, j * 2, none⟩ = some (.int .i64 ((x / n : Nat) : Int)) ∧ w.cell? ⟨g, j * 2 + 1, none⟩ = some (.int .i64 ((x % n : Nat) : Int)) ∧
      w.cell? ⟨g', j, none⟩ = some (.slice (some ⟨G, 0, none⟩) 2 2) ∧ w.cell? ⟨G, 0, none⟩ = some (.int .i64 ((x / n : Nat) : Int)) ∧ w.cell? ⟨G, 1, none⟩ = some (.int .i64 ((x % n : Nat) : Int)) := by
  obtain ⟨b2, G, ho, hG⟩ := h2
  obtain ⟨g, cap, hv, -, -⟩ := h1.form (by omega)
  obtain ⟨g', cap', hv', -, -⟩ := ho.form (by omega)
  cases hv
  cases hv'
  have hx : l[j]? = some l[j] := List.getElem?_eq_getElem hj
  obtain ⟨p1, p2⟩ := pairCells_at n l j _ hx
  have hg := hG j _ hx
  have hp : (pairVals l.length G)[j]? = some (.slice (some ⟨G j, 0, none⟩) 2 2) := by simp [pairVals, hj]
  exact ⟨l[j], g, g', G j, rfl, rfl, rfl, rfl, (ownsRow_heap h1).2.2.2 _ _ p1, (ownsRow_heap h1).2.2.2 _ _ p2, (ownsRow_heap ho).2.2.2 _ _ hp, cell_of_heap hg rfl, cell_of_heap hg rfl⟩
end Go.Proofs.Ytpoilgeffpedoaa
