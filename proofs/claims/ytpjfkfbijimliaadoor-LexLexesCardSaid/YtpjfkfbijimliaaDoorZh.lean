/- a store into an owned row. -/
import Derived.Test.YtpjfkfbijimliaaDoorZg
namespace Go.Proofs.YtpjfkfbijimliaaDoor
open Go.RowKit Go.Pen

theorem ownsRow_set {w : World} {base e size n g c j : Nat} {xs : List Value} {x : Value} (h : w.ownsRow base e size (.slice (some ⟨g, 0, none⟩) n c) n xs) :
    (w.setCell ⟨g, j, none⟩ x).ownsRow base e size (.slice (some ⟨g, 0, none⟩) n c) n (xs.set j x) := by
  refine ⟨by rw [List.length_set]; exact h.1, ?_⟩
  rcases h.2 with ⟨hv, _⟩ | ⟨g', cap, cur, hv, hb, hg, h1, h2, h3, h4⟩
  · cases hv
  · cases hv
    refine .inr ⟨g, c, cur.setIfInBounds j x, rfl, hb, heap_set_same hg, h1, h2, by simpa using h3, ?_⟩
    rw [← h4, Array.toList_setIfInBounds, List.take_set]

theorem lx_count : ∀ (f n k : Nat) (l : Bytes) (ts : List Tok), n ≤ 4000 → lx f n k l = .ok ts → ts.length + n ≤ 4000
  | 0, n, k, l, ts, hn, h => by simp only [lx, Res.ok.injEq] at h; subst h; simpa using hn
  | f + 1, n, k, l, ts, hn, h => by
    simp only [lx] at h
    rw [lxb] at h
    split at h
    · cases h; simpa using hn
    · split at h
      · cases h
      · split at h
        · cases h
        · rename_i h4
          split at h
          · cases h
          · rename_i t m ht
            cases hr : lx f (n + 1) (k + sk false l + m) ((l.drop (sk false l)).drop m) with
            | err a e => rw [hr] at h; cases h
            | ok us =>
              rw [hr] at h
              simp only [Res.cons, Res.ok.injEq] at h
              subst h
              have := lx_count f (n + 1) _ _ us (by omega) hr
              simp only [List.length_cons]; omega

theorem toks_count (l : Bytes) : (lexed l).toks.length ≤ 4000 := by
  cases h : lexed l with
  | err a e => simp [Res.toks]
  | ok ts =>
    rw [lexed] at h
    split at h
    · cases h
    · have := lx_count _ _ _ _ _ (Nat.zero_le _) h
      simpa [Res.toks] using this

/-- what LexKeeps' loop leaves: the first row is written over, all else is as it was -/
def KpRel (H n : Nat) (va : Value) (w3 wr : World) : Prop :=
  (∃ xs, wr.ownsRow H 37 4 va n xs) ∧ (∀ g, va.ownBlock ≠ some g → wr.heap[g]? = w3.heap[g]?) ∧ wr.heap.size = w3.heap.size ∧ wr.os = w3.os ∧ wr.tape = w3.tape ∧ wr.output = w3.output

theorem kp_set {H n m r : Nat} {g c : Nat} {x : Value} {w3 wr : World} (h : KpRel H n (.slice (some ⟨g, 0, none⟩) n c) w3 wr) : KpRel H n (.slice (some ⟨g, 0, none⟩) n c) w3 (wr.setCell ⟨g, m * 4 + r, none⟩ x) := by
  obtain ⟨⟨xs, h1⟩, h2, h3, h4, h5, h6⟩ := h
  refine ⟨⟨_, ownsRow_set h1⟩, fun k hk => ?_, by rw [← h3]; simp [World.setCell], h4, h5, h6⟩
  rw [heap_set_ne (fun e => hk (by rw [e]; rfl))]
  exact h2 k hk
end Go.Proofs.YtpjfkfbijimliaaDoor
