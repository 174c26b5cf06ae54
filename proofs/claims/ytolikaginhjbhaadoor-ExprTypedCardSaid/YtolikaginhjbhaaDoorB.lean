import Derived.Test.YtolikaginhjbhaaDoorA
/- LentExpr, LentExprs: copies. -/
namespace Go.Proofs.YtolikaginhjbhaaDoor
open Go.RowKit Go.Pen
attribute [local go_sem ↓] Go.wp_at_zero Go.wp_at_succ

theorem info27 : (Tryd.prog.info? 27).map (fun i => (i.zero, i.size, i.bytes)) = some (some (.agg #[.int .u8 0, .slice none 0 0, .int .i64 0, .int .u8 0, .bool false, .int .i64 0, .string ⟨#[]⟩]), 7, 72) := by kernel_rfl

/-- a part's cells -/
def ET.cells (k : ET) (kv : Value) : List Value := [.int .u8 k.op, kv, .int .i64 k.col, .int .u8 k.lit.kind, .bool k.lit.bool, .int .i64 k.lit.int, .string k.lit.text]

/-- between two numbers -/
def Btw (lo hi : Nat) (g : Nat) : Prop := lo ≤ g ∧ g < hi

/-- the part at seven cells of a row -/
def ElOn (S : Nat → Prop) (w : World) (xs : List Value) (j : Nat) (k : ET) : Prop := ∃ kv, (∀ (t : Nat) x, (k.cells kv)[t]? = some x → xs[j * 7 + t]? = some x) ∧ k.On S w kv

theorem on_of_row {w : World} {base hi : Nat} {v : Value} {ks : List ET} {xs : List Value} (h : w.ownsRow base 27 7 v ks.length xs) (hhi : w.heap.size ≤ hi) (hel : ∀ (j : Nat) k, ks[j]? = some k → ElOn (Btw base hi) w xs j k) (o c : Int) (d : Dat) : (ET.mk o c d ks).On (Btw base hi) w v := by
  rw [ET.On.iff]
  simp only [ET.kids]
  rcases Nat.eq_zero_or_pos ks.length with h0 | h0
  · have hnil : ks = [] := List.length_eq_zero_iff.1 h0
    subst hnil
    rcases h.2 with ⟨hv, -⟩ | ⟨g, cap, cur, hv, -⟩
    · exact ⟨none, 0, hv, fun _ => rfl, fun h => absurd rfl h⟩
    · exact ⟨some ⟨g, 0, none⟩, cap, hv, (fun h => by cases h), fun h => absurd rfl h⟩
  · obtain ⟨g, cap, rfl, hg1, hg2⟩ := h.form h0
    refine ⟨some ⟨g, 0, none⟩, cap, rfl, (fun h => by cases h), fun _ => ⟨g, 0, rfl, ⟨hg1, by omega⟩, ET.Ons.mk fun i k hk => ?_⟩⟩
    obtain ⟨kv, h1, h2⟩ := hel i k hk
    have hc := (ownsRow_heap h).2.2.2
    rw [Nat.zero_add]
    exact ⟨kv, ⟨hc _ _ (h1 0 _ rfl), hc _ _ (h1 1 _ rfl), hc _ _ (h1 2 _ rfl), hc _ _ (h1 3 _ rfl), hc _ _ (h1 4 _ rfl), hc _ _ (h1 5 _ rfl), hc _ _ (h1 6 _ rfl)⟩, h2⟩

/-- the loop's relation: so many have come -/
def LRel (ks : List ET) (w : World) (k : Nat) (v : Value) (wr : World) : Prop :=
  ∃ xs, wr.ownsRow w.heap.size 27 7 v k xs ∧ (∀ (j : Nat) x, j < k → ks[j]? = some x → ∃ lo hi, w.heap.size ≤ lo ∧ hi ≤ wr.heap.size ∧ (∀ g, v.ownBlock = some g → g < lo ∨ hi ≤ g) ∧ ElOn (Btw lo hi) wr xs j x) ∧ Below w.heap.size w wr

theorem lrel_step {ks : List ET} {w wr w3 w4 w5 : World} {k : Nat} {v v' kv : Value} {x : ET} {xs : List Value} (hown : wr.ownsRow w.heap.size 27 7 v k xs)
    (hel : ∀ (j : Nat) x, j < k → ks[j]? = some x → ∃ lo hi, w.heap.size ≤ lo ∧ hi ≤ wr.heap.size ∧ (∀ g, v.ownBlock = some g → g < lo ∨ hi ≤ g) ∧ ElOn (Btw lo hi) wr xs j x) (hb : Below w.heap.size w wr) (hx : ks[k]? = some x)
    (h3 : Below wr.heap.size wr w3) (hat : x.On (Btw wr.heap.size w3.heap.size) w3 kv) (h4 : Below w3.heap.size w3 w4) (h5 : w5.ownsRow w.heap.size 27 7 v' (k + 1) (xs ++ x.cells kv)) (hg : w4.grownBy w5 v.ownBlock) (hv' : ∀ g, v'.ownBlock = some g → v.ownBlock = some g ∨ w4.heap.size ≤ g) : LRel ks w (k + 1) v' w5 := by
  have s3 := h3.size
  have s4 := h4.size
  have s5 := hg.size
  have sb := hb.size
  have keep : ∀ {S : Nat → Prop} {e : ET} {u : Value} {W : World}, e.On S W u → Below W.heap.size W w4 → (∀ g, S g → v.ownBlock ≠ some g) → e.On S w5 u := fun {S e u W} ho hbl hne => by
    refine (ho.below hbl).frame fun g hS hgl => hg.block g hgl fun e => hne g hS e.symm
  refine ⟨_, h5, fun j y hj hy => ?_, ?_⟩
  · have hl := hown.1
    by_cases e : j < k
    · obtain ⟨lo, hi, q1, q2, q3, kv', h1, h2⟩ := hel j y e hy
      refine ⟨lo, hi, q1, by omega, fun g hgv => ?_, kv', fun t z hz => ?_, keep h2 (h3.trans (h4.mono s3)) fun g hS hgv => ?_⟩
      · rcases hv' g hgv with h | h
        · exact q3 g h
        · right; omega
      · have ht := (List.getElem?_eq_some_iff.1 hz).1
        simp only [ET.cells, List.length_cons, List.length_nil] at ht
        rw [List.getElem?_append_left (by omega)]
        exact h1 t z hz
      · have := q3 g hgv
        have := hS.1
        have := hS.2
        omega
    · obtain rfl : j = k := by omega
      rw [hx] at hy; cases hy
      refine ⟨wr.heap.size, w3.heap.size, sb, by omega, fun g hgv => ?_, kv, fun t z hz => ?_, keep hat h4 fun g hS hgv => ?_⟩
      · rcases hv' g hgv with h | h
        · left; exact (hown.lt g h).2
        · right; omega
      · rw [List.getElem?_append_right (by omega), show j * 7 + t - xs.length = t by omega]
        exact hz
      · have := (hown.lt g hgv).2
        have := hS.1
        omega
  · exact ((hb.trans (h3.mono sb)).trans (h4.mono (by omega))).grown hg (by omega) (fun g hg' => (hown.lt g hg').1)

theorem ET.sizes_mem : ∀ {ks : List ET} {k : ET}, k ∈ ks → k.size ≤ ET.sizes ks
  | [], k, h => by cases h
  | x :: ks, k, h => by
    simp only [ET.sizes]
    rcases List.mem_cons.1 h with rfl | h
    · omega
    · have := ET.sizes_mem h; omega
theorem ET.sizes_len : ∀ (ks : List ET), ks.length ≤ ET.sizes ks
  | [] => Nat.zero_le _
  | x :: ks => by
    have := ET.sizes_len ks
    have := x.size_pos
    simp only [ET.sizes, List.length_cons]; omega

end Go.Proofs.YtolikaginhjbhaaDoor
