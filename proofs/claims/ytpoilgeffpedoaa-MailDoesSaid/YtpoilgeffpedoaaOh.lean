/- Book.Words 12, Book.Row 30, Book.Updates 11: lists laid into a book. -/
import Derived.Test.YtpoilgeffpedoaaOg
namespace Go.Proofs.Ytpoilgeffpedoaa
open Go.RowKit Go.Pen

/-- one more list -/
def snoc (n : Nat) (f : Nat → Value) (x : Value) : Nat → Value := fun j => if j = n then x else f j
def snocL (n : Nat) (f : Nat → Nat) (x : Nat) : Nat → Nat := fun j => if j = n then x else f j

theorem snoc_map (n : Nat) (f : Nat → Value) (x : Value) : (List.range (n + 1)).map (snoc n f x) = (List.range n).map f ++ [x] := by
  rw [List.range_succ, List.map_append]
  congr 1
  · refine List.map_congr_left fun j hj => ?_
    have := List.mem_range.1 hj
    unfold snoc; rw [if_neg (by omega)]
  · simp [snoc]

theorem BkList.snoc {e sz tl base : Nat} {w w' : World} {ov ov' x : Value} {n L : Nat} {v : Nat → Value} {ln : Nat → Nat} {xs : List Value} (h : BkList e sz tl base w ov n v ln) (hx : w.ownsRow base e sz x L xs) (hL : L ≤ 1000000) (hn : n + 1 ≤ 1000000000)
    (hne : ∀ i, i < n → ∀ g, (v i).ownBlock = some g → x.ownBlock ≠ some g) (hf : ∀ (g : Nat) (cur : Array Value), w.heap[g]? = some (.cells cur e (0, 0)) → w'.heap[g]? = w.heap[g]?)
    (ho : w'.ownsRow base tl 1 ov' (n + 1) ((List.range n).map v ++ [x])) : BkList e sz tl base w' ov' (n + 1) (Go.Proofs.Ytpoilgeffpedoaa.snoc n v x) (snocL n ln L) := by
  have fr : ∀ {y : Value} {l : Nat} {ys : List Value}, w.ownsRow base e sz y l ys → w'.ownsRow base e sz y l ys := fun h => ownsRow_frame h fun g hg => by
    obtain ⟨-, -, cur, hc⟩ := ownsRow_block h hg
    exact hf g cur hc
  refine ⟨by rw [snoc_map]; exact ho, fun h0 => by omega, fun i hi => ?_, fun i j g hi hj h1 h2 => ?_, hn, fun i hi => ?_⟩
  · unfold Go.Proofs.Ytpoilgeffpedoaa.snoc snocL
    by_cases e : i = n
    · rw [if_pos e, if_pos e]; exact ⟨xs, fr hx⟩
    · rw [if_neg e, if_neg e]
      obtain ⟨ys, hy⟩ := h.own i (by omega)
      exact ⟨ys, fr hy⟩
  · unfold Go.Proofs.Ytpoilgeffpedoaa.snoc at h1 h2
    by_cases e1 : i = n <;> by_cases e2 : j = n
    · omega
    · rw [if_pos e1] at h1; rw [if_neg e2] at h2
      exact absurd h1 (hne j (by omega) g h2)
    · rw [if_neg e1] at h1; rw [if_pos e2] at h2
      exact absurd h2 (hne i (by omega) g h1)
    · rw [if_neg e1] at h1; rw [if_neg e2] at h2
      exact h.apart i j g (by omega) (by omega) h1 h2
  · unfold snocL
    by_cases e : i = n
    · rw [if_pos e]; exact hL
    · rw [if_neg e]; exact h.lens i (by omega)

theorem BkList.slice {e sz tl base : Nat} {w : World} {ov : Value} {n : Nat} {v : Nat → Value} {ln : Nat → Nat} (h : BkList e sz tl base w ov n v ln) : ∃ a c, ov = .slice a n c := ownsRow_slice h.outer

set_option maxRecDepth 100000 in
set_option maxHeartbeats 4000000 in
theorem words_12 (B base : Nat) (v3 v4 v10 x : Value) (n L : Nat) (f : Nat → Value) (l : Nat → Nat) (xs : List Value) (w : World) (hB : w.heap[B]? = some (.cells (bookCells v3 v4 v10) 63 (0, 0))) (hbase : base ≤ w.heap.size)
    (h3 : BkList 111 1 26 base w v3 n f l) (hx : w.ownsRow base 111 1 x L xs) (hL : L ≤ 1000000) (hn : n + 1 ≤ 1000000000) (hne : ∀ i, i < n → ∀ g, (f i).ownBlock = some g → x.ownBlock ≠ some g) :
    Calls Try.prog 12 #[.pointer (some ⟨B, 0, none⟩), x] w fun e w' => e = .returned (.tuple #[]) ∧ ∃ v3', w'.heap[B]? = some (.cells (bookCells v3' v4 v10) 63 (0, 0)) ∧ BkList 111 1 26 base w' v3' (n + 1) (snoc n f x) (snocL n l L) ∧ Only (fun g => g = B ∨ v3.ownBlock = some g) w w' := by
  obtain ⟨i0, hi, hz0, hz1, hz2⟩ := info_parts info26
  obtain ⟨a, c, rfl⟩ := h3.slice
  obtain ⟨xa, xc, rfl⟩ := ownsRow_slice hx
  have c3 := book_at hB 3 _ rfl
  have H3 := Lib.hid h3
  have HB := Lib.hid hB
  have HX := Lib.hid hx
  have HNE := Lib.hid hne
  clear h3 hB hx hne
  go_enter Try.func12, Try.ntmps12
  go_wp2_with (at_builtin; go_must (refine wpList_append_own _ rfl _ _ 51 rfl base 26 i0 (.slice none 0 0) 1 24 Try.underlying51 hi hz0 hz1 hz2 rfl (by decide) (.slice a n c) n ((List.range n).map f) rfl (H3.out.outer.alloc _) ⟨w.heap.size, 0, none⟩ 1 1 [.slice xa L xc] rfl rfl ?c1 ?c2 ?c3 ?c4 ?c5 ?_))
  case c1 =>
    intro j u hj
    rw [add_lit, Nat.zero_add]
    exact cell_of_heap (heap_alloc_new w _) (by rw [List.getElem?_toArray]; exact hj)
  case c2 => intro u hu; simp at hu; subst hu; rfl
  case c3 => unfold maxLen; omega
  case c4 => omega
  case c5 => simp; omega
  intro v' w2 hown' hgrow _
  obtain ⟨a', c', rfl⟩ := ownsRow_slice hown'
  have hBl := lt_of_heap HB.out
  have hBne : (Value.slice a n c).ownBlock ≠ some B := fun e => by
    obtain ⟨-, -, cur, hc⟩ := ownsRow_block H3.out.outer e
    exact type_ne hc HB.out (by decide) rfl
  have hB2 : w2.heap[B]? = some (.cells (bookCells (.slice a n c) v4 v10) 63 (0, 0)) := by
    rw [hgrow.block B (by simp; omega) (fun e => hBne e.symm), Below.heap_alloc w _ B hBl]; exact HB.out
  have c3' : w2.cell? ⟨B, 3, none⟩ = some (.slice a n c) := book_at hB2 3 _ rfl
  have f3' : w2.frozen? ⟨B, 3, none⟩ = false := frozen_of_heap hB2
  have HB2 := Lib.hid hB2
  have ho2 : Only (fun g => g = B ∨ (Value.slice a n c).ownBlock = some g) w w2 := Only.grown (Only.of_below ((Below.refl _ _).alloc (Nat.le_refl _) _)) hgrow fun g hg => .inl (.inr hg)
  have hf2 : ∀ (g : Nat) (cur : Array Value), w.heap[g]? = some (.cells cur 111 (0, 0)) → w2.heap[g]? = w.heap[g]? := fun g cur hg => ho2.block g (lt_of_heap hg) fun hs => by
    rcases hs with rfl | hs
    · exact type_ne hg HB.out (by decide) rfl
    · obtain ⟨-, -, cur', hc⟩ := ownsRow_block H3.out.outer hs
      exact type_ne hg hc (by decide) rfl
  have HO2 := Lib.hid ho2
  have HF2 := Lib.hid hf2
  have HOW := Lib.hid hown'
  clear c3 hown' hgrow hB2 ho2 hf2 hBne
  go_wp2_with fail

  go_end0
  refine ⟨rfl, .slice a' (n + 1) c', ?h1, ?h2, ?h3⟩
  case h3 => exact HO2.out.set (.inl rfl)
  case h1 => exact heap_set_same HB2.out
  case h2 =>
    have hne26 : ∀ (g : Nat) (cur : Array Value), w2.heap[g]? = some (.cells cur 26 (0, 0)) → g ≠ B := fun g cur hg => type_ne hg HB2.out (by decide)
    refine H3.out.snoc (xs := xs) HX.out hL hn HNE.out (fun g cur hg => ?_) (ownsRow_frame HOW.out fun g hg => ?_)
    · rw [heap_set_ne (type_ne hg HB.out (by decide))]; exact HF2.out g cur hg
    · obtain ⟨-, -, cur, hc⟩ := ownsRow_block HOW.out hg
      exact heap_set_ne (hne26 g cur hc)

set_option maxRecDepth 100000 in
set_option maxHeartbeats 4000000 in
theorem row_30 (B base : Nat) (v3 v4 v10 x : Value) (n L : Nat) (f : Nat → Value) (l : Nat → Nat) (xs : List Value) (w : World) (hB : w.heap[B]? = some (.cells (bookCells v3 v4 v10) 63 (0, 0))) (hbase : base ≤ w.heap.size)
    (h3 : BkList 89 4 34 base w v4 n f l) (hx : w.ownsRow base 89 4 x L xs) (hL : L ≤ 1000000) (hn : n + 1 ≤ 1000000000) (hne : ∀ i, i < n → ∀ g, (f i).ownBlock = some g → x.ownBlock ≠ some g) :
    Calls Try.prog 30 #[.pointer (some ⟨B, 0, none⟩), x] w fun e w' => e = .returned (.tuple #[]) ∧ ∃ v3', w'.heap[B]? = some (.cells (bookCells v3 v3' v10) 63 (0, 0)) ∧ BkList 89 4 34 base w' v3' (n + 1) (snoc n f x) (snocL n l L) ∧ Only (fun g => g = B ∨ v4.ownBlock = some g) w w' := by
  obtain ⟨i0, hi, hz0, hz1, hz2⟩ := info_parts info34
  obtain ⟨a, c, rfl⟩ := h3.slice
  obtain ⟨xa, xc, rfl⟩ := ownsRow_slice hx
  have c3 := book_at hB 4 _ rfl
  have H3 := Lib.hid h3
  have HB := Lib.hid hB
  have HX := Lib.hid hx
  have HNE := Lib.hid hne
  clear h3 hB hx hne
  go_enter Try.func30, Try.ntmps30
  go_wp2_with (at_builtin; go_must (refine wpList_append_own _ rfl _ _ 52 rfl base 34 i0 (.slice none 0 0) 1 24 Try.underlying52 hi hz0 hz1 hz2 rfl (by decide) (.slice a n c) n ((List.range n).map f) rfl (H3.out.outer.alloc _) ⟨w.heap.size, 0, none⟩ 1 1 [.slice xa L xc] rfl rfl ?c1 ?c2 ?c3 ?c4 ?c5 ?_))
  case c1 =>
    intro j u hj
    rw [add_lit, Nat.zero_add]
    exact cell_of_heap (heap_alloc_new w _) (by rw [List.getElem?_toArray]; exact hj)
  case c2 => intro u hu; simp at hu; subst hu; rfl
  case c3 => unfold maxLen; omega
  case c4 => omega
  case c5 => simp; omega
  intro v' w2 hown' hgrow _
  obtain ⟨a', c', rfl⟩ := ownsRow_slice hown'
  have hBl := lt_of_heap HB.out
  have hBne : (Value.slice a n c).ownBlock ≠ some B := fun e => by
    obtain ⟨-, -, cur, hc⟩ := ownsRow_block H3.out.outer e
    exact type_ne hc HB.out (by decide) rfl
  have hB2 : w2.heap[B]? = some (.cells (bookCells v3 (.slice a n c) v10) 63 (0, 0)) := by
    rw [hgrow.block B (by simp; omega) (fun e => hBne e.symm), Below.heap_alloc w _ B hBl]; exact HB.out
  have c3' : w2.cell? ⟨B, 4, none⟩ = some (.slice a n c) := book_at hB2 4 _ rfl
  have f3' : w2.frozen? ⟨B, 4, none⟩ = false := frozen_of_heap hB2
  have HB2 := Lib.hid hB2
  have ho2 : Only (fun g => g = B ∨ (Value.slice a n c).ownBlock = some g) w w2 := Only.grown (Only.of_below ((Below.refl _ _).alloc (Nat.le_refl _) _)) hgrow fun g hg => .inl (.inr hg)
  have hf2 : ∀ (g : Nat) (cur : Array Value), w.heap[g]? = some (.cells cur 89 (0, 0)) → w2.heap[g]? = w.heap[g]? := fun g cur hg => ho2.block g (lt_of_heap hg) fun hs => by
    rcases hs with rfl | hs
    · exact type_ne hg HB.out (by decide) rfl
    · obtain ⟨-, -, cur', hc⟩ := ownsRow_block H3.out.outer hs
      exact type_ne hg hc (by decide) rfl
  have HO2 := Lib.hid ho2
  have HF2 := Lib.hid hf2
  have HOW := Lib.hid hown'
  clear c3 hown' hgrow hB2 ho2 hf2 hBne
  go_wp2_with fail
  go_end0
  refine ⟨rfl, .slice a' (n + 1) c', ?h1, ?h2, ?h3⟩
  case h3 => exact HO2.out.set (.inl rfl)
  case h1 => exact heap_set_same HB2.out
  case h2 =>
    have hne26 : ∀ (g : Nat) (cur : Array Value), w2.heap[g]? = some (.cells cur 34 (0, 0)) → g ≠ B := fun g cur hg => type_ne hg HB2.out (by decide)
    refine H3.out.snoc (xs := xs) HX.out hL hn HNE.out (fun g cur hg => ?_) (ownsRow_frame HOW.out fun g hg => ?_)
    · rw [heap_set_ne (type_ne hg HB.out (by decide))]; exact HF2.out g cur hg
    · obtain ⟨-, -, cur, hc⟩ := ownsRow_block HOW.out hg
      exact heap_set_ne (hne26 g cur hc)
end Go.Proofs.Ytpoilgeffpedoaa
