/- LentWords 33, LentRow 34: copies with two elements of the owner's behind them. -/
import Derived.Test.YtpoilgeffpedoaaOi
import Derived.Test.YtpoilgeffpedoaaK
namespace Go.Proofs.Ytpoilgeffpedoaa
open Go.RowKit Go.Pen
attribute [local go_sem ↓] Go.wp_at_zero Go.wp_at_succ

def wordCells (xs : List Int) : List Value := xs.map (Value.int .u32)
def rowCells (ds : List Dat) : List Value := ds.flatMap Dat.cells
def wordTail : List Value := [.int .u32 771, .int .u32 772]
def rowTail : List Value := [.int .u8 91, .bool false, .int .i64 0, .string ⟨#[]⟩, .int .u8 92, .bool false, .int .i64 0, .string ⟨#[]⟩]

theorem wordCells_len (xs : List Int) : (wordCells xs).length = xs.length * 1 := by simp [wordCells]
theorem rowCells_len (ds : List Dat) : (rowCells ds).length = ds.length * 4 := by
  unfold rowCells
  induction ds with
  | nil => rfl
  | cons d ds ih => rw [List.flatMap_cons, List.length_append, ih]; simp [Dat.cells]; omega
theorem wordCells_one (xs : List Int) : ∀ u ∈ wordCells xs, u.oneCell' = true := by
  intro u hu
  obtain ⟨x, -, rfl⟩ := List.mem_map.1 hu
  rfl
theorem rowCells_one (ds : List Dat) : ∀ u ∈ rowCells ds, u.oneCell' = true := by
  intro u hu
  obtain ⟨d, -, hd⟩ := List.mem_flatMap.1 hu
  simp only [Dat.cells, List.mem_cons, List.not_mem_nil, or_false] at hd
  rcases hd with rfl | rfl | rfl | rfl <;> rfl

theorem rowCells_at : ∀ (ds : List Dat) (i : Nat) (d : Dat) (j : Nat), ds[i]? = some d → j < 4 → (rowCells ds)[i * 4 + j]? = d.cells[j]? := by
  intro ds
  induction ds with
  | nil => intro i d j h; simp at h
  | cons x ds ih =>
    intro i d j h hj
    unfold rowCells at ih ⊢
    rw [List.flatMap_cons]
    cases i with
    | zero =>
      simp at h; subst h
      rw [List.getElem?_append_left (by simp [Dat.cells]; omega)]
      simp
    | succ i =>
      rw [List.getElem?_append_right (by simp [Dat.cells]; omega)]
      have : (i + 1) * 4 + j - x.cells.length = i * 4 + j := by simp [Dat.cells]; omega
      rw [this]
      exact ih i d j (by simpa using h) hj

theorem WordsAt.cells {w : World} {a : Option Addr} {n c : Nat} {xs : List Int} (h : WordsAt w (.slice a n c) xs) : ∀ ad, a = some ad → ∀ j u, (wordCells xs)[j]? = some u → w.cell? (ad.add j) = some u := by
  rintro ad rfl j u hu
  obtain ⟨a', c', hv, -, h⟩ := h
  cases hv
  have hj := (List.getElem?_eq_some_iff.1 hu).1
  simp [wordCells] at hj
  obtain ⟨b, o, hb, hc⟩ := h (by intro e; rw [e] at hj; simp at hj)
  cases hb
  rw [add_lit]
  have hx : xs[j]? = some xs[j] := List.getElem?_eq_getElem hj
  rw [hc j _ hx]
  rw [wordCells, List.getElem?_map, hx] at hu
  simpa using hu

theorem RowAt.cells {w : World} {a : Option Addr} {n c : Nat} {xs : List Dat} (h : RowAt w (.slice a n c) xs) : ∀ ad, a = some ad → ∀ j u, (rowCells xs)[j]? = some u → w.cell? (ad.add j) = some u := by
  rintro ad rfl j u hu
  obtain ⟨a', c', hv, -, h⟩ := h
  cases hv
  have hj := (List.getElem?_eq_some_iff.1 hu).1
  rw [rowCells_len] at hj
  have hk : j / 4 < xs.length := by omega
  obtain ⟨b, o, hb, hc⟩ := h (by intro e; rw [e] at hk; simp at hk)
  cases hb
  rw [add_lit]
  have hx : xs[j / 4]? = some xs[j / 4] := List.getElem?_eq_getElem hk
  obtain ⟨c0, c1, c2, c3⟩ := hc _ _ hx
  have hm := rowCells_at xs (j / 4) _ (j % 4) hx (by omega)
  rw [show j / 4 * 4 + j % 4 = j by omega, hu] at hm
  have hr : j % 4 = 0 ∨ j % 4 = 1 ∨ j % 4 = 2 ∨ j % 4 = 3 := by omega
  rcases hr with hr | hr | hr | hr <;> rw [hr] at hm <;> simp [Dat.cells] at hm <;> subst hm
  · rw [show o + j = o + j / 4 * 4 by omega]; exact c0
  · rw [show o + j = o + j / 4 * 4 + 1 by omega]; exact c1
  · rw [show o + j = o + j / 4 * 4 + 2 by omega]; exact c2
  · rw [show o + j = o + j / 4 * 4 + 3 by omega]; exact c3

theorem WordsAt.none {w : World} {a : Option Addr} {n c : Nat} {xs : List Int} (h : WordsAt w (.slice a n c) xs) : n = xs.length ∧ (a = none → n = 0 ∧ c = 0) := by
  obtain ⟨a', c', hv, hz, h⟩ := h
  cases hv
  refine ⟨rfl, fun ha => ⟨?_, hz ha⟩⟩
  cases xs with
  | nil => rfl
  | cons x xs => obtain ⟨b, o, hb, -⟩ := h (by simp); rw [ha] at hb; cases hb
theorem RowAt.none {w : World} {a : Option Addr} {n c : Nat} {xs : List Dat} (h : RowAt w (.slice a n c) xs) : n = xs.length ∧ (a = none → n = 0 ∧ c = 0) := by
  obtain ⟨a', c', hv, hz, h⟩ := h
  cases hv
  refine ⟨rfl, fun ha => ⟨?_, hz ha⟩⟩
  cases xs with
  | nil => rfl
  | cons x xs => obtain ⟨b, o, hb, -⟩ := h (by simp); rw [ha] at hb; cases hb

set_option maxRecDepth 100000 in
set_option maxHeartbeats 2000000 in
theorem lentWords_33 (v : Value) (xs : List Int) (w : World) (hv : WordsAt w v xs) (hn : xs.length ≤ 1000000) :
    Calls Try.prog 33 #[v] w fun e w' => e = .returned (.slice (some ⟨w.heap.size, 0, none⟩) xs.length (xs.length + 2)) ∧
      w'.ownsRow w.heap.size 111 1 (.slice (some ⟨w.heap.size, 0, none⟩) (xs.length + 2) (xs.length + 2)) (xs.length + 2) (wordCells xs ++ wordTail) ∧ Below w.heap.size w w' := by
  obtain ⟨i0, hi, hz0, hz1, hz2⟩ := info_parts info111
  obtain ⟨a, c, rfl⟩ := hv.slice
  have hnone := hv.none.2
  have hcells := hv.cells
  have hw : IntKind.i64.wrap ((xs.length : Int) + 2) = (xs.length : Int) + 2 := IntWalk.i64_in _ (by omega)
  obtain ⟨n, en⟩ : ∃ n, n = xs.length := ⟨_, rfl⟩
  rw [← en] at hn hnone hw ⊢
  have EN := Lib.hid en
  have HNN := Lib.hid hnone
  have HCC := Lib.hid hcells
  clear hv hnone hcells en
  go_enter Try.func33, Try.ntmps33
  go_wp2_with (at_make; refine wpList_make_own _ rfl _ _ 26 rfl w.heap.size 111 i0 (.int .u32 0) 1 Try.underlying26 hi hz0 hz1 .i64 .i64 ((n : Int) + 2) (n + 2) rfl rfl (by omega) (by rw [hz2]; omega) (by unfold maxLen; omega) (Nat.le_refl _) ?_)
  intro w1 ho1 hg1
  have hb1 : Below w.heap.size w w1 := (Below.refl _ _).grown hg1 (Nat.le_refl _) (by intro k hk; cases hk)
  have hsrc : ∀ ad, a = some ad → ∀ j u, (wordCells xs)[j]? = some u → w1.cell? (ad.add j) = some u := fun ad had j u hu => cell_keep hb1 (HCC.out ad had j u hu)
  have HS := Lib.hid hsrc
  have HO1 := Lib.hid ho1
  have HB1 := Lib.hid hb1
  have hs1 : w.heap.size < w1.heap.size := (ho1.lt _ rfl).2
  obtain ⟨g, eg⟩ : ∃ g, g = w.heap.size := ⟨_, rfl⟩
  rw [← eg] at hs1 HO1 HB1 ⊢
  have EG := Lib.hid eg
  clear hsrc ho1 hb1 hg1 eg
  go_wp2_with (at_builtin; go_must (refine wpList_append_fits_any _ rfl _ _ 26 rfl g 111 i0 1 Try.underlying26 hi hz1 g 0 (n + 2) [] rfl HO1.out a n c (wordCells xs) rfl (by rw [wordCells_len, EN.out]) HNN.out HS.out (wordCells_one xs) (by omega) ?_))
  intro w2 ho2 hg2
  have hb2 : Below g w w2 := HB1.out.grown hg2 (by omega) (by intro k hk; cases hk; exact Nat.le_refl _)
  have hs2 : g < w2.heap.size := (ho2.lt _ rfl).2
  have HO2 := Lib.hid ho2
  have HB2 := Lib.hid hb2
  clear ho2 hb2 hg2 hs1
  go_wp2_with (at_builtin; go_must (refine wpList_append_fits _ rfl _ _ 26 rfl g 111 i0 1 Try.underlying26 hi hz1 g n (n + 2) (wordCells xs) rfl (HO2.out.alloc _) ⟨w2.heap.size, 0, none⟩ 2 2 wordTail rfl rfl ?c1 ?c2 (Nat.le_refl _) ?_))
  case c1 =>
    intro j u hj
    rw [add_lit, Nat.zero_add]
    exact cell_of_heap (heap_alloc_new w2 _) (by rw [List.getElem?_toArray]; exact hj)
  case c2 => intro u hu; simp [wordTail] at hu; rcases hu with rfl | rfl <;> rfl
  intro w3 ho3 hg3
  have hb3 : Below g w w3 := (HB2.out.alloc (Nat.le_of_lt hs2) _).grown hg3 (by simp; omega) (by intro k hk; cases hk; exact Nat.le_refl _)
  have HO3 := Lib.hid ho3
  have HB3 := Lib.hid hb3
  clear ho3 hb3 hg3
  go_wp2_with fail
  rw [← EG.out]
  go_ret
  exact ⟨rfl, HO3.out, HB3.out⟩

set_option maxRecDepth 100000 in
set_option maxHeartbeats 2000000 in
theorem lentRow_34 (v : Value) (xs : List Dat) (w : World) (hv : RowAt w v xs) (hn : xs.length ≤ 1000000) :
    Calls Try.prog 34 #[v] w fun e w' => e = .returned (.slice (some ⟨w.heap.size, 0, none⟩) xs.length (xs.length + 2)) ∧
      w'.ownsRow w.heap.size 89 4 (.slice (some ⟨w.heap.size, 0, none⟩) (xs.length + 2) (xs.length + 2)) (xs.length + 2) (rowCells xs ++ rowTail) ∧ Below w.heap.size w w' := by
  obtain ⟨i0, hi, hz0, hz1, hz2⟩ := info_parts info89
  obtain ⟨a, c, rfl⟩ := hv.slice
  have hnone := hv.none.2
  have hcells := hv.cells
  have hw : IntKind.i64.wrap ((xs.length : Int) + 2) = (xs.length : Int) + 2 := IntWalk.i64_in _ (by omega)
  obtain ⟨n, en⟩ : ∃ n, n = xs.length := ⟨_, rfl⟩
  rw [← en] at hn hnone hw ⊢
  have EN := Lib.hid en
  have HNN := Lib.hid hnone
  have HCC := Lib.hid hcells
  clear hv hnone hcells en
  go_enter Try.func34, Try.ntmps34
  go_wp2_with (at_make; refine wpList_make_own _ rfl _ _ 34 rfl w.heap.size 89 i0 (.agg #[.int .u8 0, .bool false, .int .i64 0, .string .empty]) 4 Try.underlying34 hi hz0 hz1 .i64 .i64 ((n : Int) + 2) (n + 2) rfl rfl (by omega) (by rw [hz2]; omega) (by unfold maxLen; omega) (Nat.le_refl _) ?_)
  intro w1 ho1 hg1
  have hb1 : Below w.heap.size w w1 := (Below.refl _ _).grown hg1 (Nat.le_refl _) (by intro k hk; cases hk)
  have hsrc : ∀ ad, a = some ad → ∀ j u, (rowCells xs)[j]? = some u → w1.cell? (ad.add j) = some u := fun ad had j u hu => cell_keep hb1 (HCC.out ad had j u hu)
  have HS := Lib.hid hsrc
  have HO1 := Lib.hid ho1
  have HB1 := Lib.hid hb1
  have hs1 : w.heap.size < w1.heap.size := (ho1.lt _ rfl).2
  obtain ⟨g, eg⟩ : ∃ g, g = w.heap.size := ⟨_, rfl⟩
  rw [← eg] at hs1 HO1 HB1 ⊢
  have EG := Lib.hid eg
  clear hsrc ho1 hb1 hg1 eg
  go_wp2_with (at_builtin; go_must (refine wpList_append_fits_any _ rfl _ _ 34 rfl g 89 i0 4 Try.underlying34 hi hz1 g 0 (n + 2) [] rfl HO1.out a n c (rowCells xs) rfl (by rw [rowCells_len, EN.out]) HNN.out HS.out (rowCells_one xs) (by omega) ?_))
  intro w2 ho2 hg2
  have hb2 : Below g w w2 := HB1.out.grown hg2 (by omega) (by intro k hk; cases hk; exact Nat.le_refl _)
  have hs2 : g < w2.heap.size := (ho2.lt _ rfl).2
  have HO2 := Lib.hid ho2
  have HB2 := Lib.hid hb2
  clear ho2 hb2 hg2 hs1
  go_wp2_with (at_builtin; go_must (refine wpList_append_fits _ rfl _ _ 34 rfl g 89 i0 4 Try.underlying34 hi hz1 g n (n + 2) (rowCells xs) rfl (HO2.out.alloc _) ⟨w2.heap.size, 0, none⟩ 2 2 rowTail rfl rfl ?c1 ?c2 (Nat.le_refl _) ?_))
  case c1 =>
    intro j u hj
    rw [add_lit, Nat.zero_add]
    exact cell_of_heap (heap_alloc_new w2 _) (by rw [List.getElem?_toArray]; exact hj)
  case c2 => intro u hu; simp [rowTail] at hu; rcases hu with rfl | rfl | rfl | rfl | rfl | rfl | rfl | rfl <;> rfl
  intro w3 ho3 hg3
  have hb3 : Below g w w3 := (HB2.out.alloc (Nat.le_of_lt hs2) _).grown hg3 (by simp; omega) (by intro k hk; cases hk; exact Nat.le_refl _)
  have HO3 := Lib.hid ho3
  have HB3 := Lib.hid hb3
  clear ho3 hb3 hg3
  go_wp2_with fail
  rw [← EG.out]
  go_ret
  exact ⟨rfl, HO3.out, HB3.out⟩
end Go.Proofs.Ytpoilgeffpedoaa
