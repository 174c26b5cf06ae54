import Derived.Test.YtolikaginhjbhaaGreatDoorR
import Derived.OwnWalk
import Derived.ArgAppend
/- Rows of numbers: LentInts, SameInts, WholeInts. -/
namespace Go.Proofs.YtolikaginhjbhaaGreatDoor
open Go.RowKit Go.Pen
attribute [local go_sem ↓] Go.wp_at_zero Go.wp_at_succ

theorem info3 : (Tryz.prog.info? 3).map (fun i => (i.zero, i.size, i.bytes)) = some (some (.int .i64 0), 1, 8) := by kernel_rfl
theorem owns_nil {w : World} {base e size n l c : Nat} {a : Option Addr} {xs : List Value} (h : w.ownsRow base e size (.slice a l c) n xs) : a = none → c = 0 := by
  rintro rfl
  rcases h.2 with ⟨h1, -⟩ | ⟨g, cap, cur, h1, -⟩
  · cases h1; rfl
  · cases h1

/-- what a row of numbers reads as -/
def IntsAt (w : World) (v : Value) (xs : List Int) : Prop :=
  ∃ a c, v = .slice a xs.length c ∧ (a = none → c = 0) ∧ (xs ≠ [] → ∃ b o, a = some ⟨b, o, none⟩ ∧ ∀ i x, xs[i]? = some x → w.cell? ⟨b, o + i, none⟩ = some (.int .i64 x))

set_option maxRecDepth 100000 in
set_option maxHeartbeats 1000000 in
theorem same_27 (v1 v2 : Value) (xs : List Int) (w : World) (h1 : IntsAt w v1 xs) (h2 : IntsAt w v2 xs) (hn : xs.length ≤ 17592186043904) :
    Calls Tryz.prog 27 #[v1, v2] w fun e w' => e = .returned (.bool true) ∧ ∃ k, w' = w.drewN k := by
  obtain ⟨a1, c1, rfl, -, h1⟩ := h1
  obtain ⟨a2, c2, rfl, -, h2⟩ := h2
  obtain ⟨n, en⟩ : ∃ n, n = xs.length := ⟨_, rfl⟩
  rw [← en] at hn ⊢
  have H1 := Lib.hid h1
  have H2 := Lib.hid h2
  have EN := Lib.hid en
  clear h1 h2 en
  go_enter Tryz.func27, Tryz.ntmps27
  go_wp2
  go_loopw [5] (fun i wr => ∃ k : Nat, k ≤ n ∧ i = .int .i64 k ∧ ∃ q, wr = w.drewN q) (fun i _ => n - (intOf i).toNat)
  case atStart => exact ⟨0, Nat.zero_le _, rfl, 0, rfl⟩
  case round =>
    obtain ⟨k, hk, rfl, q, rfl⟩ := hrel
    by_cases hlt : k < n
    · have hne : xs ≠ [] := by intro e; rw [EN.out, e] at hlt; simp at hlt
      obtain ⟨b1, o1, rfl, g1⟩ := H1.out hne
      obtain ⟨b2, o2, rfl, g2⟩ := H2.out hne
      obtain ⟨x, hx⟩ : ∃ x, xs[k]? = some x := ⟨xs[k]'(by rw [← EN.out]; exact hlt), List.getElem?_eq_getElem _⟩
      have e1 := g1 k x hx
      have e2 := g2 k x hx
      have hb : (x != x) = false := by simp
      clear g1 g2 hx hne
      go_wp2
      go_quiet (fail)
      go_wp2
      go_roundw
      case rel => exact ⟨k + 1, hlt, by go_num, _, rfl⟩
      case measure => simp [intOf]; omega
    · go_wp2
      go_ret
      exact ⟨rfl, _, rfl⟩

theorem IntsAt.slice {w : World} {v : Value} {xs : List Int} (h : IntsAt w v xs) : ∃ a c, v = .slice a xs.length c := by obtain ⟨a, c, rfl, _⟩ := h; exact ⟨a, c, rfl⟩
theorem IntsAt.below {w w' : World} {v : Value} {xs : List Int} (h : IntsAt w v xs) (hb : Below w.heap.size w w') : IntsAt w' v xs := by
  obtain ⟨a, c, rfl, hz, h⟩ := h
  refine ⟨a, c, rfl, hz, fun hne => ?_⟩
  obtain ⟨b, o, rfl, g⟩ := h hne
  exact ⟨b, o, rfl, fun i x hx => cell_keep hb (g i x hx)⟩
theorem intsAt_of_owns {w : World} {base : Nat} {v : Value} {n : Nat} {xs : List Int} (h : w.ownsRow base 3 1 v n (xs.map (Value.int .i64))) : IntsAt w v xs := by
  have hl : n = xs.length := by have := h.1; simp at this; omega
  subst hl
  obtain ⟨a, c, rfl⟩ := ownsRow_slice h
  refine ⟨a, c, rfl, owns_nil h, fun hne => ?_⟩
  obtain ⟨g, cap, hv, _, _⟩ := h.form (by cases xs; exact absurd rfl hne; simp)
  simp only [Value.slice.injEq] at hv
  obtain ⟨rfl, _, rfl⟩ := hv
  refine ⟨g, 0, rfl, fun i x hx => ?_⟩
  rw [Nat.zero_add]
  exact (ownsRow_heap h).2.2.2 i _ (by rw [List.getElem?_map, hx]; rfl)

theorem ownsRow_head {w : World} {base e size n m cap g : Nat} {xs ys : List Value} (h : w.ownsRow base e size (.slice (some ⟨g, 0, none⟩) (n + m) cap) (n + m) (xs ++ ys)) (hx : xs.length = n * size) :
    w.ownsRow base e size (.slice (some ⟨g, 0, none⟩) n cap) n xs := by
  refine ⟨hx, ?_⟩
  rcases h.2 with ⟨hv, _⟩ | ⟨g', cap', cur, hv, hb, hg, h1, h2, h3, h4⟩
  · cases hv
  · cases hv
    refine .inr ⟨g, cap, cur, rfl, hb, hg, by omega, h2, h3, ?_⟩
    have := congrArg (List.take (n * size)) h4
    rw [List.take_take, Nat.min_eq_left (Nat.mul_le_mul_right _ (Nat.le_add_right n m)), ← hx, List.take_left] at this
    rw [← hx]
    exact this

def intCells (xs : List Int) : List Value := xs.map (Value.int .i64)
def intTail : List Value := [.int .i64 (-771), .int .i64 (-772)]
theorem intCells_len (xs : List Int) : (intCells xs).length = xs.length * 1 := by simp [intCells]
theorem intCells_one (xs : List Int) : ∀ u ∈ intCells xs, u.oneCell' = true := by
  intro u hu
  obtain ⟨x, -, rfl⟩ := List.mem_map.1 hu
  rfl
theorem IntsAt.cells {w : World} {a : Option Addr} {n c : Nat} {xs : List Int} (h : IntsAt w (.slice a n c) xs) : ∀ ad, a = some ad → ∀ j u, (intCells xs)[j]? = some u → w.cell? (ad.add j) = some u := by
  rintro ad rfl j u hu
  obtain ⟨a', c', hv, -, h⟩ := h
  cases hv
  have hj := (List.getElem?_eq_some_iff.1 hu).1
  simp [intCells] at hj
  obtain ⟨b, o, hb, hc⟩ := h (by intro e; rw [e] at hj; simp at hj)
  cases hb
  rw [add_lit]
  have hx : xs[j]? = some xs[j] := List.getElem?_eq_getElem hj
  rw [hc j _ hx]
  rw [intCells, List.getElem?_map, hx] at hu
  simpa using hu

theorem IntsAt.none {w : World} {a : Option Addr} {n c : Nat} {xs : List Int} (h : IntsAt w (.slice a n c) xs) : n = xs.length ∧ (a = none → n = 0 ∧ c = 0) := by
  obtain ⟨a', c', hv, hz, h⟩ := h
  cases hv
  refine ⟨rfl, fun ha => ⟨?_, hz ha⟩⟩
  cases xs with
  | nil => rfl
  | cons x xs => obtain ⟨b, o, hb, -⟩ := h (by simp); rw [ha] at hb; cases hb
set_option maxRecDepth 100000 in
set_option maxHeartbeats 2000000 in
theorem lent_17 (v : Value) (xs : List Int) (w : World) (hv : IntsAt w v xs) (hn : xs.length ≤ 17592186043904) :
    Calls Tryz.prog 17 #[v] w fun e w' => e = .returned (.slice (some ⟨w.heap.size, 0, none⟩) xs.length (xs.length + 2)) ∧
      w'.ownsRow w.heap.size 3 1 (.slice (some ⟨w.heap.size, 0, none⟩) (xs.length + 2) (xs.length + 2)) (xs.length + 2) (intCells xs ++ intTail) ∧ Below w.heap.size w w' := by
  obtain ⟨i0, hi, hz0, hz1, hz2⟩ := info_parts info3
  obtain ⟨a, c, rfl⟩ := hv.slice
  have hnone := hv.none.2
  have hcells := hv.cells
  have hw : IntKind.i64.wrap ((xs.length : Int) + 2) = (xs.length : Int) + 2 := IntWalk.i64_in _ (by omega)
  obtain ⟨n, en⟩ : ∃ n, n = xs.length := ⟨_, rfl⟩
  rw [← en] at hn hnone hw ⊢
  have EN := Lib.hid en
  have HNN := Lib.hid hnone
  have HCC := Lib.hid hcells
  clear hv hnone hcells en
  go_enter Tryz.func17, Tryz.ntmps17
  go_wp2_with (at_make; refine wpList_make_own _ rfl _ _ 44 rfl w.heap.size 3 i0 (.int .i64 0) 1 Tryz.underlying44 hi hz0 hz1 .i64 .i64 ((n : Int) + 2) (n + 2) rfl rfl (by omega) (by rw [hz2]; omega) (by unfold maxLen; omega) (Nat.le_refl _) ?_)
  intro w1 ho1 hg1
  have hb1 : Below w.heap.size w w1 := (Below.refl _ _).grown hg1 (Nat.le_refl _) (by intro k hk; cases hk)
  have hsrc : ∀ ad, a = some ad → ∀ j u, (intCells xs)[j]? = some u → w1.cell? (ad.add j) = some u := fun ad had j u hu => cell_keep hb1 (HCC.out ad had j u hu)
  have HS := Lib.hid hsrc
  have HO1 := Lib.hid ho1
  have HB1 := Lib.hid hb1
  have hs1 : w.heap.size < w1.heap.size := (ho1.lt _ rfl).2
  obtain ⟨g, eg⟩ : ∃ g, g = w.heap.size := ⟨_, rfl⟩
  rw [← eg] at hs1 HO1 HB1 ⊢
  have EG := Lib.hid eg
  clear hsrc ho1 hb1 hg1 eg
  go_wp2_with (at_builtin; go_must (refine wpList_append_fits_any _ rfl _ _ 44 rfl g 3 i0 1 Tryz.underlying44 hi hz1 g 0 (n + 2) [] rfl HO1.out a n c (intCells xs) rfl (by rw [intCells_len, EN.out]) HNN.out HS.out (intCells_one xs) (by omega) ?_))
  intro w2 ho2 hg2
  have hb2 : Below g w w2 := HB1.out.grown hg2 (by omega) (by intro k hk; cases hk; exact Nat.le_refl _)
  have hs2 : g < w2.heap.size := (ho2.lt _ rfl).2
  have HO2 := Lib.hid ho2
  have HB2 := Lib.hid hb2
  clear ho2 hb2 hg2 hs1
  go_wp2_with (at_builtin; go_must (refine wpList_append_fits _ rfl _ _ 44 rfl g 3 i0 1 Tryz.underlying44 hi hz1 g n (n + 2) (intCells xs) rfl (HO2.out.alloc _) ⟨w2.heap.size, 0, none⟩ 2 2 intTail rfl rfl ?c1 ?c2 (Nat.le_refl _) ?_))
  case c1 =>
    intro j u hj
    rw [add_lit, Nat.zero_add]
    exact cell_of_heap (heap_alloc_new w2 _) (by rw [List.getElem?_toArray]; exact hj)
  case c2 => intro u hu; simp [intTail] at hu; rcases hu with rfl | rfl <;> rfl
  intro w3 ho3 hg3
  have hb3 : Below g w w3 := (HB2.out.alloc (Nat.le_of_lt hs2) _).grown hg3 (by simp; omega) (by intro k hk; cases hk; exact Nat.le_refl _)
  have HO3 := Lib.hid ho3
  have HB3 := Lib.hid hb3
  clear ho3 hb3 hg3
  go_wp2_with fail
  rw [← EG.out]
  go_ret
  exact ⟨rfl, HO3.out, HB3.out⟩

/-- a lent row of numbers -/
def LentI (w : World) (lo g : Nat) (xs : List Int) : Prop := w.ownsRow lo 3 1 (.slice (some ⟨g, 0, none⟩) (xs.length + 2) (xs.length + 2)) (xs.length + 2) (intCells xs ++ intTail)
theorem LentI.head {w : World} {lo g : Nat} {xs : List Int} (h : LentI w lo g xs) : w.ownsRow lo 3 1 (.slice (some ⟨g, 0, none⟩) xs.length (xs.length + 2)) xs.length (intCells xs) := ownsRow_head h (intCells_len xs)
theorem LentI.at {w : World} {lo g : Nat} {xs : List Int} (h : LentI w lo g xs) : IntsAt w (.slice (some ⟨g, 0, none⟩) xs.length (xs.length + 2)) xs := intsAt_of_owns h.head
theorem LentI.tail {w : World} {lo g : Nat} {xs : List Int} (h : LentI w lo g xs) : w.cell? ⟨g, xs.length, none⟩ = some (.int .i64 (-771)) ∧ w.cell? ⟨g, xs.length + 1, none⟩ = some (.int .i64 (-772)) := by
  have hc := (ownsRow_heap h).2.2.2
  have hl := intCells_len xs
  refine ⟨hc _ _ ?_, hc _ _ ?_⟩
  · rw [List.getElem?_append_right (by omega), show xs.length - (intCells xs).length = 0 by omega]; rfl
  · rw [List.getElem?_append_right (by omega), show xs.length + 1 - (intCells xs).length = 1 by omega]; rfl
set_option maxRecDepth 100000 in
set_option maxHeartbeats 2000000 in
theorem whole_20 (lo g : Nat) (v : Value) (xs : List Int) (w : World) (hx : LentI w lo g xs) (hv : IntsAt w v xs) (hn : xs.length ≤ 17592186043904) :
    Calls Tryz.prog 20 #[.slice (some ⟨g, 0, none⟩) xs.length (xs.length + 2), v] w fun e w' => e = .returned (.bool true) ∧ ∃ k, w' = w.drewN k := by
  obtain ⟨t0, t1⟩ := hx.tail
  have hw : IntKind.i64.wrap ((xs.length : Int) + 2) = (xs.length : Int) + 2 := IntWalk.i64_in _ (by omega)
  have hw1 : IntKind.i64.wrap ((xs.length : Int) + 1) = (xs.length : Int) + 1 := IntWalk.i64_in _ (by omega)
  have HX := Lib.hid hx.at
  have HV := Lib.hid hv
  obtain ⟨n, en⟩ : ∃ n, n = xs.length := ⟨_, rfl⟩
  have HN : Hid (xs.length ≤ 17592186043904) := show xs.length ≤ 17592186043904 by omega
  rw [← en] at hn hw hw1 HX t0 t1 ⊢
  have EN := Lib.hid en
  clear hx hv en
  have b1 : (0 : Int) ≤ (n : Int) := by omega
  go_enter Tryz.func20, Tryz.ntmps20
  go_wp2_with (go_at_call 27; refine (same_27 _ _ xs _ HX.out HV.out HN.out).mono ?_; rintro e w' ⟨rfl, nq, rfl⟩)
  go_ret
  exact ⟨rfl, _, rfl⟩


theorem IntsAt.on {w : World} {v : Value} {xs : List Int} (h : IntsAt w v xs) : IntsOn (fun _ => True) w xs v := by
  obtain ⟨a, c, hv, hn, h⟩ := h
  exact ⟨a, c, hv, hn, fun hne => by obtain ⟨b, o, h1, h2⟩ := h hne; exact ⟨b, o, h1, trivial, h2⟩⟩
end Go.Proofs.YtolikaginhjbhaaGreatDoor
