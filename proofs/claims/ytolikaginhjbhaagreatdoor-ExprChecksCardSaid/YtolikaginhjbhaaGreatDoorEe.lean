import Derived.Test.YtolikaginhjbhaaGreatDoorEd
/- datum's functions of two. -/
namespace Go.Proofs.YtolikaginhjbhaaGreatDoor
open Go.RowKit Go.Pen Go.Shelf
attribute [local go_sem] Oper.semAt_some

theorem apR_both (k : Int) (a b : Dat) (r : Res) : apR k [a, b] r = both k a b r := by
  unfold apR both ofR
  cases h1 : isK k a
  · simp [h1]
  · cases h2 : isK k b
    · simp [h1, h2]
    · by_cases e1 : a.kind = 1
      · simp [h1, h2, e1]
      · by_cases e2 : b.kind = 1
        · simp [h1, h2, e1, e2]
        · simp [h1, h2, e1, e2]
theorem apR_sole (k : Int) (a : Dat) (r : Res) : apR k [a] r = sole k a r := by
  unfold apR sole ofR
  cases h1 : isK k a
  · simp [h1]
  · by_cases e1 : a.kind = 1
    · simp [h1, e1]
    · simp [h1, e1]

/-- a row of two data -/
theorem dats2 {w : World} {g : Nat} {a b : Dat} (h : w.heap[g]? = some (.cells #[.int .u8 a.kind, .bool a.bool, .int .i64 a.int, .string a.text, .int .u8 b.kind, .bool b.bool, .int .i64 b.int, .string b.text] 25 (0, 0))) : DatsOn (fun _ => True) w [a, b] (.slice (some ⟨g, 0, none⟩) 2 2) := by
  refine ⟨some ⟨g, 0, none⟩, 2, rfl, (fun h => by cases h), fun _ => ⟨g, 0, rfl, trivial, fun i d hd => ?_⟩⟩
  rcases i with _ | _ | i
  · cases hd; exact ⟨cell_of_heap h rfl, cell_of_heap h rfl, cell_of_heap h rfl, cell_of_heap h rfl⟩
  · cases hd; exact ⟨cell_of_heap h rfl, cell_of_heap h rfl, cell_of_heap h rfl, cell_of_heap h rfl⟩
  · simp at hd

set_option maxRecDepth 100000 in
set_option maxHeartbeats 1000000 in
theorem div_124 (a b : Dat) (w : World) (fa : a.fits) (fb : b.fits) (hT : Lib.Utf8Tabs 1 2 w) (h11 : 3 ≤ w.heap.size) :
    Calls Tryz.prog 124 #[a.agg, b.agg] w (ResPost (divD a b) w) := by
  have hap : ∀ (W : World), Below w.heap.size w W → W.heap[w.heap.size]? = some (.cells #[.int .u8 a.kind, .bool a.bool, .int .i64 a.int, .string a.text] 25 (0, 0)) → W.heap[w.heap.size + 1]? = some (.cells #[.int .u8 b.kind, .bool b.bool, .int .i64 b.int, .string b.text] 25 (0, 0)) → ∀ g, W.heap[g]? = some (.cells #[.int .u8 a.kind, .bool a.bool, .int .i64 a.int, .string a.text, .int .u8 b.kind, .bool b.bool, .int .i64 b.int, .string b.text] 25 (0, 0)) →
      Calls Tryz.prog 163 #[.int .u8 3, .func (.func 171) #[] #[.pointer (some ⟨w.heap.size + 1, 0, none⟩), .pointer (some ⟨w.heap.size, 0, none⟩)], .slice (some ⟨g, 0, none⟩) 2 2] W (ResPost (divD a b) W) := by
    intro W hb hA hB g hg
    have h := apply_163 3 171 #[.pointer (some ⟨w.heap.size + 1, 0, none⟩), .pointer (some ⟨w.heap.size, 0, none⟩)] [a, b] _ (if b.int = 0 then bad 11 else ov (Int.tdiv a.int b.int)) W (by simp) (by intro d hd; simp at hd; rcases hd with rfl | rfl; exact fa; exact fb) (dats2 hg) (tabs_below hT hb h11) (Nat.le_trans h11 hb.size) (enters_of Tryz.func171 (by kernel_rfl) rfl)
      (fun _ W2 hb2 => div_171 a b w.heap.size (w.heap.size + 1) W2 ((hb2.block _ (lt_of_heap hA)).trans hA) ((hb2.block _ (lt_of_heap hB)).trans hB) fa fb)
    rw [apR_both] at h
    exact h
  have HAP := Lib.hid hap
  clear hap hT fa fb
  obtain ⟨X, eX⟩ : ∃ X, X = divD a b := ⟨_, rfl⟩
  rw [← eX] at HAP ⊢
  clear eX
  unfold Dat.agg
  go_enter Tryz.func124, Tryz.ntmps124
  go_wp2_with fail
  have h3 := three_at (w := w) (a := .cells #[.int .u8 a.kind, .bool a.bool, .int .i64 a.int, .string a.text] 25) (b := .cells #[.int .u8 b.kind, .bool b.bool, .int .i64 b.int, .string b.text] 25) (c := .cells #[.int .u8 0, .bool false, .int .i64 0, .string ⟨#[]⟩] 25) (Below.refl _ _)
  have h4 := heap_alloc_new (((w.alloc (.cells #[.int .u8 a.kind, .bool a.bool, .int .i64 a.int, .string a.text] 25)).alloc (.cells #[.int .u8 b.kind, .bool b.bool, .int .i64 b.int, .string b.text] 25)).alloc (.cells #[.int .u8 0, .bool false, .int .i64 0, .string ⟨#[]⟩] 25)) (.cells #[.int .u8 a.kind, .bool a.bool, .int .i64 a.int, .string a.text, .int .u8 b.kind, .bool b.bool, .int .i64 b.int, .string b.text] 25)
  rw [World.size_alloc, World.size_alloc, World.size_alloc] at h4
  have hkeep : ∀ {g : Nat} {y : Obj}, (((w.alloc (.cells #[.int .u8 a.kind, .bool a.bool, .int .i64 a.int, .string a.text] 25)).alloc (.cells #[.int .u8 b.kind, .bool b.bool, .int .i64 b.int, .string b.text] 25)).alloc (.cells #[.int .u8 0, .bool false, .int .i64 0, .string ⟨#[]⟩] 25)).heap[g]? = some y → ((((w.alloc (.cells #[.int .u8 a.kind, .bool a.bool, .int .i64 a.int, .string a.text] 25)).alloc (.cells #[.int .u8 b.kind, .bool b.bool, .int .i64 b.int, .string b.text] 25)).alloc (.cells #[.int .u8 0, .bool false, .int .i64 0, .string ⟨#[]⟩] 25)).alloc (.cells #[.int .u8 a.kind, .bool a.bool, .int .i64 a.int, .string a.text, .int .u8 b.kind, .bool b.bool, .int .i64 b.int, .string b.text] 25)).heap[g]? = some y := fun h => (Below.heap_alloc _ _ _ (lt_of_heap h)).trans h
  refine (HAP.out _ (four_below _ _ _ _ _) (hkeep h3.1) (hkeep h3.2.1) _ h4).mono ?_
  rintro ev w5 ⟨rfl, hb5⟩
  have t5 := (hb5.block _ (lt_of_heap (hkeep h3.2.2))).trans (hkeep h3.2.2)
  have T5 := Lib.hid t5
  have HB5 := Lib.hid ((four_below _ _ _ _ _).trans (hb5.mono (by simp <;> omega)))
  have z0 := cell_of_heap (o := 0) t5 rfl
  have g0 := frozen_of_heap (o := 0) t5
  have z1 := cell_of_heap (o := 1) t5 rfl
  have g1 := frozen_of_heap (o := 1) t5
  have z2 := cell_of_heap (o := 2) t5 rfl
  have g2 := frozen_of_heap (o := 2) t5
  have z3 := cell_of_heap (o := 3) t5 rfl
  have g3 := frozen_of_heap (o := 3) t5
  clear hb5 t5 h3 h4 hkeep
  unfold resT Dat.agg
  go_wp2
  refine bodyPost_ret (results_row_tmp rfl _ _ (w.heap.size + 1 + 1) 25 _ (0, 0) _ rfl (setRow4_at T5.out) Tryz.underlying25 rfl (by kernel_rfl)) rfl ?_
  exact ⟨rfl, setRow4_below HB5.out (by show w.heap.size ≤ w.heap.size + 1 + 1; omega)⟩

set_option maxRecDepth 100000 in
set_option maxHeartbeats 1000000 in
theorem add_121 (a b : Dat) (w : World) (fa : a.fits) (fb : b.fits) (hT : Lib.Utf8Tabs 1 2 w) (h11 : 3 ≤ w.heap.size) :
    Calls Tryz.prog 121 #[a.agg, b.agg] w (ResPost (addD a b) w) := by
  have hap : ∀ (W : World), Below w.heap.size w W → W.heap[w.heap.size]? = some (.cells #[.int .u8 a.kind, .bool a.bool, .int .i64 a.int, .string a.text] 25 (0, 0)) → W.heap[w.heap.size + 1]? = some (.cells #[.int .u8 b.kind, .bool b.bool, .int .i64 b.int, .string b.text] 25 (0, 0)) → ∀ g, W.heap[g]? = some (.cells #[.int .u8 a.kind, .bool a.bool, .int .i64 a.int, .string a.text, .int .u8 b.kind, .bool b.bool, .int .i64 b.int, .string b.text] 25 (0, 0)) →
      Calls Tryz.prog 163 #[.int .u8 3, .func (.func 167) #[] #[.pointer (some ⟨w.heap.size, 0, none⟩), .pointer (some ⟨w.heap.size + 1, 0, none⟩)], .slice (some ⟨g, 0, none⟩) 2 2] W (ResPost (addD a b) W) := by
    intro W hb hA hB g hg
    have h := apply_163 3 167 #[.pointer (some ⟨w.heap.size, 0, none⟩), .pointer (some ⟨w.heap.size + 1, 0, none⟩)] [a, b] _ (ov (a.int + b.int)) W (by simp) (by intro d hd; simp at hd; rcases hd with rfl | rfl; exact fa; exact fb) (dats2 hg) (tabs_below hT hb h11) (Nat.le_trans h11 hb.size) (enters_of Tryz.func167 (by kernel_rfl) rfl)
      (fun _ W2 hb2 => add_167 a b w.heap.size (w.heap.size + 1) W2 ((hb2.block _ (lt_of_heap hA)).trans hA) ((hb2.block _ (lt_of_heap hB)).trans hB) fa fb)
    rw [apR_both] at h
    exact h
  have HAP := Lib.hid hap
  clear hap hT fa fb
  obtain ⟨X, eX⟩ : ∃ X, X = addD a b := ⟨_, rfl⟩
  rw [← eX] at HAP ⊢
  clear eX
  unfold Dat.agg
  go_enter Tryz.func121, Tryz.ntmps121
  go_wp2_with fail
  have h3 := three_at (w := w) (a := .cells #[.int .u8 a.kind, .bool a.bool, .int .i64 a.int, .string a.text] 25) (b := .cells #[.int .u8 b.kind, .bool b.bool, .int .i64 b.int, .string b.text] 25) (c := .cells #[.int .u8 0, .bool false, .int .i64 0, .string ⟨#[]⟩] 25) (Below.refl _ _)
  have h4 := heap_alloc_new (((w.alloc (.cells #[.int .u8 a.kind, .bool a.bool, .int .i64 a.int, .string a.text] 25)).alloc (.cells #[.int .u8 b.kind, .bool b.bool, .int .i64 b.int, .string b.text] 25)).alloc (.cells #[.int .u8 0, .bool false, .int .i64 0, .string ⟨#[]⟩] 25)) (.cells #[.int .u8 a.kind, .bool a.bool, .int .i64 a.int, .string a.text, .int .u8 b.kind, .bool b.bool, .int .i64 b.int, .string b.text] 25)
  rw [World.size_alloc, World.size_alloc, World.size_alloc] at h4
  have hkeep : ∀ {g : Nat} {y : Obj}, (((w.alloc (.cells #[.int .u8 a.kind, .bool a.bool, .int .i64 a.int, .string a.text] 25)).alloc (.cells #[.int .u8 b.kind, .bool b.bool, .int .i64 b.int, .string b.text] 25)).alloc (.cells #[.int .u8 0, .bool false, .int .i64 0, .string ⟨#[]⟩] 25)).heap[g]? = some y → ((((w.alloc (.cells #[.int .u8 a.kind, .bool a.bool, .int .i64 a.int, .string a.text] 25)).alloc (.cells #[.int .u8 b.kind, .bool b.bool, .int .i64 b.int, .string b.text] 25)).alloc (.cells #[.int .u8 0, .bool false, .int .i64 0, .string ⟨#[]⟩] 25)).alloc (.cells #[.int .u8 a.kind, .bool a.bool, .int .i64 a.int, .string a.text, .int .u8 b.kind, .bool b.bool, .int .i64 b.int, .string b.text] 25)).heap[g]? = some y := fun h => (Below.heap_alloc _ _ _ (lt_of_heap h)).trans h
  refine (HAP.out _ (four_below _ _ _ _ _) (hkeep h3.1) (hkeep h3.2.1) _ h4).mono ?_
  rintro ev w5 ⟨rfl, hb5⟩
  have t5 := (hb5.block _ (lt_of_heap (hkeep h3.2.2))).trans (hkeep h3.2.2)
  have T5 := Lib.hid t5
  have HB5 := Lib.hid ((four_below _ _ _ _ _).trans (hb5.mono (by simp <;> omega)))
  have z0 := cell_of_heap (o := 0) t5 rfl
  have g0 := frozen_of_heap (o := 0) t5
  have z1 := cell_of_heap (o := 1) t5 rfl
  have g1 := frozen_of_heap (o := 1) t5
  have z2 := cell_of_heap (o := 2) t5 rfl
  have g2 := frozen_of_heap (o := 2) t5
  have z3 := cell_of_heap (o := 3) t5 rfl
  have g3 := frozen_of_heap (o := 3) t5
  clear hb5 t5 h3 h4 hkeep
  unfold resT Dat.agg
  go_wp2
  refine bodyPost_ret (results_row_tmp rfl _ _ (w.heap.size + 1 + 1) 25 _ (0, 0) _ rfl (setRow4_at T5.out) Tryz.underlying25 rfl (by kernel_rfl)) rfl ?_
  exact ⟨rfl, setRow4_below HB5.out (by show w.heap.size ≤ w.heap.size + 1 + 1; omega)⟩

set_option maxRecDepth 100000 in
set_option maxHeartbeats 1000000 in
theorem sub_122 (a b : Dat) (w : World) (fa : a.fits) (fb : b.fits) (hT : Lib.Utf8Tabs 1 2 w) (h11 : 3 ≤ w.heap.size) :
    Calls Tryz.prog 122 #[a.agg, b.agg] w (ResPost (subD a b) w) := by
  have hap : ∀ (W : World), Below w.heap.size w W → W.heap[w.heap.size]? = some (.cells #[.int .u8 a.kind, .bool a.bool, .int .i64 a.int, .string a.text] 25 (0, 0)) → W.heap[w.heap.size + 1]? = some (.cells #[.int .u8 b.kind, .bool b.bool, .int .i64 b.int, .string b.text] 25 (0, 0)) → ∀ g, W.heap[g]? = some (.cells #[.int .u8 a.kind, .bool a.bool, .int .i64 a.int, .string a.text, .int .u8 b.kind, .bool b.bool, .int .i64 b.int, .string b.text] 25 (0, 0)) →
      Calls Tryz.prog 163 #[.int .u8 3, .func (.func 169) #[] #[.pointer (some ⟨w.heap.size, 0, none⟩), .pointer (some ⟨w.heap.size + 1, 0, none⟩)], .slice (some ⟨g, 0, none⟩) 2 2] W (ResPost (subD a b) W) := by
    intro W hb hA hB g hg
    have h := apply_163 3 169 #[.pointer (some ⟨w.heap.size, 0, none⟩), .pointer (some ⟨w.heap.size + 1, 0, none⟩)] [a, b] _ (ov (a.int - b.int)) W (by simp) (by intro d hd; simp at hd; rcases hd with rfl | rfl; exact fa; exact fb) (dats2 hg) (tabs_below hT hb h11) (Nat.le_trans h11 hb.size) (enters_of Tryz.func169 (by kernel_rfl) rfl)
      (fun _ W2 hb2 => sub_169 a b w.heap.size (w.heap.size + 1) W2 ((hb2.block _ (lt_of_heap hA)).trans hA) ((hb2.block _ (lt_of_heap hB)).trans hB) fa fb)
    rw [apR_both] at h
    exact h
  have HAP := Lib.hid hap
  clear hap hT fa fb
  obtain ⟨X, eX⟩ : ∃ X, X = subD a b := ⟨_, rfl⟩
  rw [← eX] at HAP ⊢
  clear eX
  unfold Dat.agg
  go_enter Tryz.func122, Tryz.ntmps122
  go_wp2_with fail
  have h3 := three_at (w := w) (a := .cells #[.int .u8 a.kind, .bool a.bool, .int .i64 a.int, .string a.text] 25) (b := .cells #[.int .u8 b.kind, .bool b.bool, .int .i64 b.int, .string b.text] 25) (c := .cells #[.int .u8 0, .bool false, .int .i64 0, .string ⟨#[]⟩] 25) (Below.refl _ _)
  have h4 := heap_alloc_new (((w.alloc (.cells #[.int .u8 a.kind, .bool a.bool, .int .i64 a.int, .string a.text] 25)).alloc (.cells #[.int .u8 b.kind, .bool b.bool, .int .i64 b.int, .string b.text] 25)).alloc (.cells #[.int .u8 0, .bool false, .int .i64 0, .string ⟨#[]⟩] 25)) (.cells #[.int .u8 a.kind, .bool a.bool, .int .i64 a.int, .string a.text, .int .u8 b.kind, .bool b.bool, .int .i64 b.int, .string b.text] 25)
  rw [World.size_alloc, World.size_alloc, World.size_alloc] at h4
  have hkeep : ∀ {g : Nat} {y : Obj}, (((w.alloc (.cells #[.int .u8 a.kind, .bool a.bool, .int .i64 a.int, .string a.text] 25)).alloc (.cells #[.int .u8 b.kind, .bool b.bool, .int .i64 b.int, .string b.text] 25)).alloc (.cells #[.int .u8 0, .bool false, .int .i64 0, .string ⟨#[]⟩] 25)).heap[g]? = some y → ((((w.alloc (.cells #[.int .u8 a.kind, .bool a.bool, .int .i64 a.int, .string a.text] 25)).alloc (.cells #[.int .u8 b.kind, .bool b.bool, .int .i64 b.int, .string b.text] 25)).alloc (.cells #[.int .u8 0, .bool false, .int .i64 0, .string ⟨#[]⟩] 25)).alloc (.cells #[.int .u8 a.kind, .bool a.bool, .int .i64 a.int, .string a.text, .int .u8 b.kind, .bool b.bool, .int .i64 b.int, .string b.text] 25)).heap[g]? = some y := fun h => (Below.heap_alloc _ _ _ (lt_of_heap h)).trans h
  refine (HAP.out _ (four_below _ _ _ _ _) (hkeep h3.1) (hkeep h3.2.1) _ h4).mono ?_
  rintro ev w5 ⟨rfl, hb5⟩
  have t5 := (hb5.block _ (lt_of_heap (hkeep h3.2.2))).trans (hkeep h3.2.2)
  have T5 := Lib.hid t5
  have HB5 := Lib.hid ((four_below _ _ _ _ _).trans (hb5.mono (by simp <;> omega)))
  have z0 := cell_of_heap (o := 0) t5 rfl
  have g0 := frozen_of_heap (o := 0) t5
  have z1 := cell_of_heap (o := 1) t5 rfl
  have g1 := frozen_of_heap (o := 1) t5
  have z2 := cell_of_heap (o := 2) t5 rfl
  have g2 := frozen_of_heap (o := 2) t5
  have z3 := cell_of_heap (o := 3) t5 rfl
  have g3 := frozen_of_heap (o := 3) t5
  clear hb5 t5 h3 h4 hkeep
  unfold resT Dat.agg
  go_wp2
  refine bodyPost_ret (results_row_tmp rfl _ _ (w.heap.size + 1 + 1) 25 _ (0, 0) _ rfl (setRow4_at T5.out) Tryz.underlying25 rfl (by kernel_rfl)) rfl ?_
  exact ⟨rfl, setRow4_below HB5.out (by show w.heap.size ≤ w.heap.size + 1 + 1; omega)⟩

set_option maxRecDepth 100000 in
set_option maxHeartbeats 1000000 in
theorem mod_125 (a b : Dat) (w : World) (fa : a.fits) (fb : b.fits) (hT : Lib.Utf8Tabs 1 2 w) (h11 : 3 ≤ w.heap.size) :
    Calls Tryz.prog 125 #[a.agg, b.agg] w (ResPost (modD a b) w) := by
  have hap : ∀ (W : World), Below w.heap.size w W → W.heap[w.heap.size]? = some (.cells #[.int .u8 a.kind, .bool a.bool, .int .i64 a.int, .string a.text] 25 (0, 0)) → W.heap[w.heap.size + 1]? = some (.cells #[.int .u8 b.kind, .bool b.bool, .int .i64 b.int, .string b.text] 25 (0, 0)) → ∀ g, W.heap[g]? = some (.cells #[.int .u8 a.kind, .bool a.bool, .int .i64 a.int, .string a.text, .int .u8 b.kind, .bool b.bool, .int .i64 b.int, .string b.text] 25 (0, 0)) →
      Calls Tryz.prog 163 #[.int .u8 3, .func (.func 172) #[] #[.pointer (some ⟨w.heap.size + 1, 0, none⟩), .pointer (some ⟨w.heap.size, 0, none⟩)], .slice (some ⟨g, 0, none⟩) 2 2] W (ResPost (modD a b) W) := by
    intro W hb hA hB g hg
    have h := apply_163 3 172 #[.pointer (some ⟨w.heap.size + 1, 0, none⟩), .pointer (some ⟨w.heap.size, 0, none⟩)] [a, b] _ (if b.int = 0 then bad 11 else (num (Int.tmod a.int b.int), 0)) W (by simp) (by intro d hd; simp at hd; rcases hd with rfl | rfl; exact fa; exact fb) (dats2 hg) (tabs_below hT hb h11) (Nat.le_trans h11 hb.size) (enters_of Tryz.func172 (by kernel_rfl) rfl)
      (fun _ W2 hb2 => mod_172 a b w.heap.size (w.heap.size + 1) W2 ((hb2.block _ (lt_of_heap hA)).trans hA) ((hb2.block _ (lt_of_heap hB)).trans hB) fa fb)
    rw [apR_both] at h
    exact h
  have HAP := Lib.hid hap
  clear hap hT fa fb
  obtain ⟨X, eX⟩ : ∃ X, X = modD a b := ⟨_, rfl⟩
  rw [← eX] at HAP ⊢
  clear eX
  unfold Dat.agg
  go_enter Tryz.func125, Tryz.ntmps125
  go_wp2_with fail
  have h3 := three_at (w := w) (a := .cells #[.int .u8 a.kind, .bool a.bool, .int .i64 a.int, .string a.text] 25) (b := .cells #[.int .u8 b.kind, .bool b.bool, .int .i64 b.int, .string b.text] 25) (c := .cells #[.int .u8 0, .bool false, .int .i64 0, .string ⟨#[]⟩] 25) (Below.refl _ _)
  have h4 := heap_alloc_new (((w.alloc (.cells #[.int .u8 a.kind, .bool a.bool, .int .i64 a.int, .string a.text] 25)).alloc (.cells #[.int .u8 b.kind, .bool b.bool, .int .i64 b.int, .string b.text] 25)).alloc (.cells #[.int .u8 0, .bool false, .int .i64 0, .string ⟨#[]⟩] 25)) (.cells #[.int .u8 a.kind, .bool a.bool, .int .i64 a.int, .string a.text, .int .u8 b.kind, .bool b.bool, .int .i64 b.int, .string b.text] 25)
  rw [World.size_alloc, World.size_alloc, World.size_alloc] at h4
  have hkeep : ∀ {g : Nat} {y : Obj}, (((w.alloc (.cells #[.int .u8 a.kind, .bool a.bool, .int .i64 a.int, .string a.text] 25)).alloc (.cells #[.int .u8 b.kind, .bool b.bool, .int .i64 b.int, .string b.text] 25)).alloc (.cells #[.int .u8 0, .bool false, .int .i64 0, .string ⟨#[]⟩] 25)).heap[g]? = some y → ((((w.alloc (.cells #[.int .u8 a.kind, .bool a.bool, .int .i64 a.int, .string a.text] 25)).alloc (.cells #[.int .u8 b.kind, .bool b.bool, .int .i64 b.int, .string b.text] 25)).alloc (.cells #[.int .u8 0, .bool false, .int .i64 0, .string ⟨#[]⟩] 25)).alloc (.cells #[.int .u8 a.kind, .bool a.bool, .int .i64 a.int, .string a.text, .int .u8 b.kind, .bool b.bool, .int .i64 b.int, .string b.text] 25)).heap[g]? = some y := fun h => (Below.heap_alloc _ _ _ (lt_of_heap h)).trans h
  refine (HAP.out _ (four_below _ _ _ _ _) (hkeep h3.1) (hkeep h3.2.1) _ h4).mono ?_
  rintro ev w5 ⟨rfl, hb5⟩
  have t5 := (hb5.block _ (lt_of_heap (hkeep h3.2.2))).trans (hkeep h3.2.2)
  have T5 := Lib.hid t5
  have HB5 := Lib.hid ((four_below _ _ _ _ _).trans (hb5.mono (by simp <;> omega)))
  have z0 := cell_of_heap (o := 0) t5 rfl
  have g0 := frozen_of_heap (o := 0) t5
  have z1 := cell_of_heap (o := 1) t5 rfl
  have g1 := frozen_of_heap (o := 1) t5
  have z2 := cell_of_heap (o := 2) t5 rfl
  have g2 := frozen_of_heap (o := 2) t5
  have z3 := cell_of_heap (o := 3) t5 rfl
  have g3 := frozen_of_heap (o := 3) t5
  clear hb5 t5 h3 h4 hkeep
  unfold resT Dat.agg
  go_wp2
  refine bodyPost_ret (results_row_tmp rfl _ _ (w.heap.size + 1 + 1) 25 _ (0, 0) _ rfl (setRow4_at T5.out) Tryz.underlying25 rfl (by kernel_rfl)) rfl ?_
  exact ⟨rfl, setRow4_below HB5.out (by show w.heap.size ≤ w.heap.size + 1 + 1; omega)⟩

end Go.Proofs.YtolikaginhjbhaaGreatDoor
