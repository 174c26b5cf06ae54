/- Book.Own 26: what a book holds. -/
import Derived.Test.YtpoilgeffpedoaaOf
namespace Go.Proofs.Ytpoilgeffpedoaa
open Go.RowKit Go.Pen

/-- a list of lists, each its own: e, sz: of what the lists are; tl: the lists' own type -/
structure BkList (e sz tl base : Nat) (w : World) (ov : Value) (n : Nat) (v : Nat → Value) (ln : Nat → Nat) : Prop where
  outer : w.ownsRow base tl 1 ov n ((List.range n).map v)
  nil : n = 0 → ov = .slice none 0 0
  own : ∀ i, i < n → ∃ xs, w.ownsRow base e sz (v i) (ln i) xs
  apart : Apart n v
  cnt : n ≤ 1000000000
  lens : ∀ i, i < n → ln i ≤ 1000000

theorem BkList.frame {e sz tl base : Nat} {w w' : World} {ov : Value} {n : Nat} {v : Nat → Value} {ln : Nat → Nat} (h : BkList e sz tl base w ov n v ln)
    (hf : ∀ (g : Nat) (cur : Array Value) (t : TypeId), w.heap[g]? = some (.cells cur t (0, 0)) → (t = e ∨ t = tl) → w'.heap[g]? = w.heap[g]?) : BkList e sz tl base w' ov n v ln := by
  refine ⟨ownsRow_frame h.outer fun g hg => ?_, h.nil, fun i hi => ?_, h.apart, h.cnt, h.lens⟩
  · obtain ⟨-, -, cur, hc⟩ := ownsRow_block h.outer hg
    exact hf g cur _ hc (.inr rfl)
  · obtain ⟨xs, ho⟩ := h.own i hi
    refine ⟨xs, ownsRow_frame ho fun g hg => ?_⟩
    obtain ⟨-, -, cur, hc⟩ := ownsRow_block ho hg
    exact hf g cur _ hc (.inl rfl)

/-- the lists' blocks -/
theorem BkList.block {e sz tl base : Nat} {w : World} {ov : Value} {n : Nat} {v : Nat → Value} {ln : Nat → Nat} (h : BkList e sz tl base w ov n v ln) {g : Nat} (hg : SV n v g) : base ≤ g ∧ ∃ cur : Array Value, w.heap[g]? = some (.cells cur e (0, 0)) := by
  obtain ⟨i, hi, hv⟩ := hg
  obtain ⟨xs, ho⟩ := h.own i hi
  obtain ⟨h1, -, h2⟩ := ownsRow_block ho hv
  exact ⟨h1, h2⟩

/-- nothing of another type turns -/
theorem only_type {S : Nat → Prop} {w w' : World} (h : Only S w w') {e : TypeId} (hS : ∀ g, S g → ∃ cur : Array Value, w.heap[g]? = some (.cells cur e (0, 0))) {g : Nat} {cur : Array Value} {t : TypeId} (hg : w.heap[g]? = some (.cells cur t (0, 0))) (ht : t ≠ e) : w'.heap[g]? = w.heap[g]? :=
  h.block g (lt_of_heap hg) fun hs => by
    obtain ⟨cur', hc⟩ := hS g hs
    exact type_ne hg hc ht rfl

theorem only_below {S : Nat → Prop} {w w' : World} (h : Only S w w') {b : Nat} (hb : b ≤ w.heap.size) (hS : ∀ g, S g → b ≤ g) : Below b w w' :=
  ⟨h.os, h.tape, h.output, h.size, fun g hg => h.block g (by omega) fun hs => by have := hS g hs; omega⟩

theorem ownW {base : Nat} {w : World} {ov : Value} {n : Nat} {v : Nat → Value} {ln : Nat → Nat} (h : BkList 111 1 26 base w ov n v ln) : Calls Try.prog 42 #[ov] w fun e w' => e = .returned (.bool true) ∧ Only (SV n v) w w' := by
  rcases Nat.eq_zero_or_pos n with h0 | h0
  · rw [h.nil h0]
    refine (ownNil_42 w).mono ?_
    rintro e w' ⟨rfl, rfl⟩
    exact ⟨rfl, Only.refl _ _⟩
  · obtain ⟨ob, oc, rfl⟩ : ∃ ob oc, ov = .slice (some ⟨ob, 0, none⟩) n oc := by
      rcases h.outer.2 with ⟨-, h1⟩ | ⟨g, cap, cur, h1, -⟩
      · omega
      · exact ⟨g, cap, h1⟩
    have hc := ownsRow_heap h.outer
    refine ownWords_42 n v ln ob oc w h.cnt h.lens h.apart (fun i hi => ?_) hc.1 (fun i hi => hc.2.2.2 i _ (by rw [List.getElem?_map, List.getElem?_range hi]; rfl)) (fun i hi e => ?_)
    · obtain ⟨xs, ho⟩ := h.own i hi
      exact ⟨xs, ownsRow_lower ho (Nat.zero_le _)⟩
    · obtain ⟨-, cur, h1⟩ := h.block ⟨i, hi, e⟩
      obtain ⟨-, -, cur', h2⟩ := ownsRow_block h.outer (g := ob) rfl
      exact type_ne h1 h2 (by decide) rfl

theorem ownR {base : Nat} {w : World} {ov : Value} {n : Nat} {v : Nat → Value} {ln : Nat → Nat} (h : BkList 89 4 34 base w ov n v ln) : Calls Try.prog 43 #[ov] w fun e w' => e = .returned (.bool true) ∧ Only (SV n v) w w' := by
  rcases Nat.eq_zero_or_pos n with h0 | h0
  · rw [h.nil h0]
    refine (ownNil_43 w).mono ?_
    rintro e w' ⟨rfl, rfl⟩
    exact ⟨rfl, Only.refl _ _⟩
  · obtain ⟨ob, oc, rfl⟩ : ∃ ob oc, ov = .slice (some ⟨ob, 0, none⟩) n oc := by
      rcases h.outer.2 with ⟨-, h1⟩ | ⟨g, cap, cur, h1, -⟩
      · omega
      · exact ⟨g, cap, h1⟩
    have hc := ownsRow_heap h.outer
    refine ownRow_43 n v ln ob oc w h.cnt h.lens h.apart (fun i hi => ?_) hc.1 (fun i hi => hc.2.2.2 i _ (by rw [List.getElem?_map, List.getElem?_range hi]; rfl)) (fun i hi e => ?_)
    · obtain ⟨xs, ho⟩ := h.own i hi
      exact ⟨xs, ownsRow_lower ho (Nat.zero_le _)⟩
    · obtain ⟨-, cur, h1⟩ := h.block ⟨i, hi, e⟩
      obtain ⟨-, -, cur', h2⟩ := ownsRow_block h.outer (g := ob) rfl
      exact type_ne h1 h2 (by decide) rfl

theorem ownU {base : Nat} {w : World} {ov : Value} {n : Nat} {v : Nat → Value} {ln : Nat → Nat} (h : BkList 37 4 29 base w ov n v ln) : Calls Try.prog 49 #[ov] w fun e w' => e = .returned (.bool true) ∧ Only (SV n v) w w' := by
  rcases Nat.eq_zero_or_pos n with h0 | h0
  · rw [h.nil h0]
    refine (ownNil_49 w).mono ?_
    rintro e w' ⟨rfl, rfl⟩
    exact ⟨rfl, Only.refl _ _⟩
  · obtain ⟨ob, oc, rfl⟩ : ∃ ob oc, ov = .slice (some ⟨ob, 0, none⟩) n oc := by
      rcases h.outer.2 with ⟨-, h1⟩ | ⟨g, cap, cur, h1, -⟩
      · omega
      · exact ⟨g, cap, h1⟩
    have hc := ownsRow_heap h.outer
    refine ownUpdates_49 n v ln ob oc w h.cnt h.lens h.apart (fun i hi => ?_) hc.1 (fun i hi => hc.2.2.2 i _ (by rw [List.getElem?_map, List.getElem?_range hi]; rfl)) (fun i hi e => ?_)
    · obtain ⟨xs, ho⟩ := h.own i hi
      exact ⟨xs, ownsRow_lower ho (Nat.zero_le _)⟩
    · obtain ⟨-, cur, h1⟩ := h.block ⟨i, hi, e⟩
      obtain ⟨-, -, cur', h2⟩ := ownsRow_block h.outer (g := ob) rfl
      exact type_ne h1 h2 (by decide) rfl

/-- a book's cells -/
def bookCells (v3 v4 v10 : Value) : Array Value := #[.slice none 0 0, .slice none 0 0, .slice none 0 0, v3, v4, .slice none 0 0, .slice none 0 0, .slice none 0 0, .slice none 0 0, .slice none 0 0, v10, .slice none 0 0, .slice none 0 0, .slice none 0 0]

theorem book_at {w : World} {B : Nat} {v3 v4 v10 : Value} (h : w.heap[B]? = some (.cells (bookCells v3 v4 v10) 63 (0, 0))) (i : Nat) (x : Value) (hx : (bookCells v3 v4 v10)[i]? = some x) : w.cell? ⟨B, i, none⟩ = some x := cell_of_heap h hx

set_option maxRecDepth 100000 in
set_option maxHeartbeats 4000000 in
theorem own_26 (B base : Nat) (v3 v4 v10 : Value) (n3 n4 n10 : Nat) (f3 f4 f10 : Nat → Value) (l3 l4 l10 : Nat → Nat) (w : World) (hB : w.heap[B]? = some (.cells (bookCells v3 v4 v10) 63 (0, 0))) (hbase : base ≤ w.heap.size)
    (h3 : BkList 111 1 26 base w v3 n3 f3 l3) (h4 : BkList 89 4 34 base w v4 n4 f4 l4) (h10 : BkList 37 4 29 base w v10 n10 f10 l10) :
    Calls Try.prog 26 #[.pointer (some ⟨B, 0, none⟩)] w fun e w' => e = .returned (.bool true) ∧ Below base w w' := by
  have H3 := Lib.hid h3
  have H4 := Lib.hid h4
  have H10 := Lib.hid h10
  have HB := Lib.hid hB
  have c0 := book_at hB 0 _ rfl
  have c1 := book_at hB 1 _ rfl
  have c2 := book_at hB 2 _ rfl
  have c3 := book_at hB 3 _ rfl
  clear h3 h4 h10 hB
  go_enter Try.func26, Try.ntmps26
  go_wp2_with fail
  refine (ownNil_39 _).mono ?_
  rintro _ wx ⟨rfl, hw⟩; rw [hw]; clear hw
  go_wp2_with fail
  refine (ownNil_40 _).mono ?_
  rintro _ wx ⟨rfl, hw⟩; rw [hw]; clear hw
  go_wp2_with fail
  refine (ownNil_41 _).mono ?_
  rintro _ wx ⟨rfl, hw⟩; rw [hw]; clear hw
  go_wp2_with fail
  refine (ownW H3.out).mono ?_
  rintro _ w1 ⟨rfl, ho1⟩
  have k1 : ∀ {g : Nat} {cur : Array Value} {t : TypeId}, w.heap[g]? = some (.cells cur t (0, 0)) → t ≠ 111 → w1.heap[g]? = w.heap[g]? := fun hg ht => only_type ho1 (fun g hs => (H3.out.block hs).2) hg ht
  have hB1 : w1.heap[B]? = some (.cells (bookCells v3 v4 v10) 63 (0, 0)) := (k1 HB.out (by decide)).trans HB.out
  have H41 := Lib.hid (H4.out.frame (w' := w1) fun g cur t hg ht => k1 hg (by rcases ht with rfl | rfl <;> decide))
  have H101 := Lib.hid (H10.out.frame (w' := w1) fun g cur t hg ht => k1 hg (by rcases ht with rfl | rfl <;> decide))
  have HL1 := Lib.hid (only_below ho1 hbase (fun g hs => (H3.out.block hs).1))
  have c4 := book_at hB1 4 _ rfl
  have HB1 := Lib.hid hB1
  clear c0 c1 c2 c3 ho1 k1 hB1
  go_wp2_with fail
  refine (ownR H41.out).mono ?_
  rintro _ w2 ⟨rfl, ho2⟩
  have k2 : ∀ {g : Nat} {cur : Array Value} {t : TypeId}, w1.heap[g]? = some (.cells cur t (0, 0)) → t ≠ 89 → w2.heap[g]? = w1.heap[g]? := fun hg ht => only_type ho2 (fun g hs => (H41.out.block hs).2) hg ht
  have hB2 : w2.heap[B]? = some (.cells (bookCells v3 v4 v10) 63 (0, 0)) := (k2 HB1.out (by decide)).trans HB1.out
  have H102 := Lib.hid (H101.out.frame (w' := w2) fun g cur t hg ht => k2 hg (by rcases ht with rfl | rfl <;> decide))
  have HL2 := Lib.hid (HL1.out.trans (only_below ho2 (by have := HL1.out.size; omega) (fun g hs => (H41.out.block hs).1)))
  have c5 := book_at hB2 5 _ rfl
  have c6 := book_at hB2 6 _ rfl
  have c7 := book_at hB2 7 _ rfl
  have c8 := book_at hB2 8 _ rfl
  have c9 := book_at hB2 9 _ rfl
  have c10 := book_at hB2 10 _ rfl
  have HB2 := Lib.hid hB2
  clear c4 ho2 k2 hB2
  go_wp2_with fail
  refine (ownNil_44 _).mono ?_
  rintro _ wx ⟨rfl, hw⟩; rw [hw]; clear hw
  go_wp2_with fail
  refine (ownNil_45 _).mono ?_
  rintro _ wx ⟨rfl, hw⟩; rw [hw]; clear hw
  go_wp2_with fail
  refine (ownNil_46 _).mono ?_
  rintro _ wx ⟨rfl, hw⟩; rw [hw]; clear hw
  go_wp2_with fail
  refine (ownNil_47 _).mono ?_
  rintro _ wx ⟨rfl, hw⟩; rw [hw]; clear hw
  go_wp2_with fail
  refine (ownNil_48 _).mono ?_
  rintro _ wx ⟨rfl, hw⟩; rw [hw]; clear hw
  go_wp2_with fail
  refine (ownU H102.out).mono ?_
  rintro _ w3 ⟨rfl, ho3⟩
  have hB3 : w3.heap[B]? = some (.cells (bookCells v3 v4 v10) 63 (0, 0)) := (only_type ho3 (fun g hs => (H102.out.block hs).2) HB2.out (by decide)).trans HB2.out
  have HL3 := Lib.hid (HL2.out.trans (only_below ho3 (by have := HL2.out.size; omega) (fun g hs => (H102.out.block hs).1)))
  have d11 := book_at hB3 11 _ rfl
  have d12 := book_at hB3 12 _ rfl
  have d13 := book_at hB3 13 _ rfl
  clear c5 c6 c7 c8 c9 c10 ho3 hB3
  go_wp2_with fail
  refine (ownNil_50 _).mono ?_
  rintro _ wx ⟨rfl, hw⟩; rw [hw]; clear hw
  go_wp2_with fail
  refine (ownNil_51 _).mono ?_
  rintro _ wx ⟨rfl, hw⟩; rw [hw]; clear hw
  go_wp2_with fail
  refine (ownNil_52 _).mono ?_
  rintro _ wx ⟨rfl, hw⟩; rw [hw]; clear hw
  go_wp2_with fail
  go_ret
  exact ⟨rfl, HL3.out⟩
end Go.Proofs.Ytpoilgeffpedoaa
