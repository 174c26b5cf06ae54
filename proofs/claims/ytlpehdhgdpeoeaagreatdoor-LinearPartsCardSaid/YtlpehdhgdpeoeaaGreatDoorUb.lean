import Derived.Test.YtlpehdhgdpeoeaaGreatDoorUa
import Derived.Lib.TrimUEq
import Derived.Lib.RuneCount
/- datum's Concat, Length, Not, Neg. -/
namespace Go.Proofs.YtlpehdhgdpeoeaaGreatDoor
open Go.RowKit Go.Pen Go.Shelf
attribute [local go_sem] Oper.semAt_some

set_option maxRecDepth 100000 in
set_option maxHeartbeats 1000000 in
theorem cat_173 (a b : Dat) (A B : Nat) (w : World) (ha : BoxAt w A a) (hb : BoxAt w B b) (fa : a.fits) (fb : b.fits) :
    Calls Tryz.prog 102 #[.pointer (some ⟨A, 0, none⟩), .pointer (some ⟨B, 0, none⟩)] w (ResPost (if 1000 < a.text.size + b.text.size then bad 12 else (txt ⟨(a.text.data.toList ++ b.text.data.toList).toArray⟩, 0)) w) := by
  have fa1 := fa.2.1
  have fb1 := fb.2.1
  have la : A < w.heap.size := lt_of_heap ha
  have lb : B < w.heap.size := lt_of_heap hb
  have a2 : w.cell? ⟨A, 2, none⟩ = some (.int .i64 a.int) := cell_of_heap ha rfl
  have b2 : w.cell? ⟨B, 2, none⟩ = some (.int .i64 b.int) := cell_of_heap hb rfl
  have a3 : w.cell? ⟨A, 3, none⟩ = some (.string a.text) := cell_of_heap ha rfl
  have b3 : w.cell? ⟨B, 3, none⟩ = some (.string b.text) := cell_of_heap hb rfl
  have fa3 := fa.2.2
  have fb3 := fb.2.2
  generalize a.text = x at *
  generalize b.text = y at *
  clear ha hb fa fb a2 b2 fa1 fb1
  have hw : wrap64 ((x.size : Int) + (y.size : Int)) = (x.size : Int) + (y.size : Int) := by unfold wrap64; omega
  by_cases h0 : 1000 < x.size + y.size
  · rw [if_pos h0]
    have q0 : (1000 : Int) < (x.size : Int) + (y.size : Int) := by omega
    go_enter Tryz.func102, Tryz.ntmps102
    go_wp2_with fail
    refine bodyPost_ret (results_row_tmp rfl _ _ w.heap.size 55 _ (0, 0) _ rfl (heap_alloc_new w _) Tryz.underlying55 rfl (by kernel_rfl)) rfl ?_
    exact ⟨rfl, one_below _ _⟩
  · rw [if_neg h0]
    have q0 : ¬ (1000 : Int) < (x.size : Int) + (y.size : Int) := by omega
    go_enter Tryz.func102, Tryz.ntmps102
    go_wp2_with fail
    refine (text_174 _ _).mono ?_
    rintro ev w5 ⟨rfl, hb5⟩
    have t5 := one_at hb5
    have T5 := Lib.hid t5
    have HB5 := Lib.hid ((one_below _ _).trans (hb5.mono (by simp)))
    have z0 := cell_of_heap (o := 0) t5 rfl
    have g0 := frozen_of_heap (o := 0) t5
    have z1 := cell_of_heap (o := 1) t5 rfl
    have g1 := frozen_of_heap (o := 1) t5
    have z2 := cell_of_heap (o := 2) t5 rfl
    have g2 := frozen_of_heap (o := 2) t5
    have z3 := cell_of_heap (o := 3) t5 rfl
    have g3 := frozen_of_heap (o := 3) t5
    clear hb5 t5
    unfold Dat.agg txt
    go_wp2
    refine bodyPost_ret (results_row_tmp rfl _ _ w.heap.size 55 _ (0, 0) _ rfl (setRow4_at T5.out) Tryz.underlying55 rfl (by kernel_rfl)) rfl ?_
    exact ⟨rfl, setRow4_below HB5.out (Nat.le_refl _)⟩

set_option maxRecDepth 100000 in
set_option maxHeartbeats 1000000 in
theorem cat_126 (a b : Dat) (w : World) (fa : a.fits) (fb : b.fits) (hT : Lib.Utf8Tabs 1 2 w) (h11 : 3 ≤ w.heap.size) :
    Calls Tryz.prog 81 #[a.agg, b.agg] w (ResPost (catD a b) w) := by
  have hap : ∀ (W : World), Below w.heap.size w W → W.heap[w.heap.size]? = some (.cells #[.int .u8 a.kind, .bool a.bool, .int .i64 a.int, .string a.text] 55 (0, 0)) → W.heap[w.heap.size + 1]? = some (.cells #[.int .u8 b.kind, .bool b.bool, .int .i64 b.int, .string b.text] 55 (0, 0)) → ∀ g, W.heap[g]? = some (.cells #[.int .u8 a.kind, .bool a.bool, .int .i64 a.int, .string a.text, .int .u8 b.kind, .bool b.bool, .int .i64 b.int, .string b.text] 55 (0, 0)) →
      Calls Tryz.prog 92 #[.int .u8 4, .func (.func 102) #[] #[.pointer (some ⟨w.heap.size, 0, none⟩), .pointer (some ⟨w.heap.size + 1, 0, none⟩)], .slice (some ⟨g, 0, none⟩) 2 2] W (ResPost (catD a b) W) := by
    intro W hb hA hB g hg
    have h := apply_163 4 102 #[.pointer (some ⟨w.heap.size, 0, none⟩), .pointer (some ⟨w.heap.size + 1, 0, none⟩)] [a, b] _ (if 1000 < a.text.size + b.text.size then bad 12 else (txt ⟨(a.text.data.toList ++ b.text.data.toList).toArray⟩, 0)) W (by simp) (by intro d hd; simp at hd; rcases hd with rfl | rfl; exact fa; exact fb) (dats2 hg) (tabs_below hT hb h11) (Nat.le_trans h11 hb.size) (enters_of Tryz.func102 (by kernel_rfl) rfl)
      (fun _ W2 hb2 => cat_173 a b w.heap.size (w.heap.size + 1) W2 ((hb2.block _ (lt_of_heap hA)).trans hA) ((hb2.block _ (lt_of_heap hB)).trans hB) fa fb)
    rw [apR_both] at h
    exact h
  have HAP := Lib.hid hap
  clear hap hT fa fb
  obtain ⟨X, eX⟩ : ∃ X, X = catD a b := ⟨_, rfl⟩
  rw [← eX] at HAP ⊢
  clear eX
  unfold Dat.agg
  go_enter Tryz.func81, Tryz.ntmps81
  go_wp2_with fail
  have h3 := three_at (w := w) (a := .cells #[.int .u8 a.kind, .bool a.bool, .int .i64 a.int, .string a.text] 55) (b := .cells #[.int .u8 b.kind, .bool b.bool, .int .i64 b.int, .string b.text] 55) (c := .cells #[.int .u8 0, .bool false, .int .i64 0, .string ⟨#[]⟩] 55) (Below.refl _ _)
  have h4 := heap_alloc_new (((w.alloc (.cells #[.int .u8 a.kind, .bool a.bool, .int .i64 a.int, .string a.text] 55)).alloc (.cells #[.int .u8 b.kind, .bool b.bool, .int .i64 b.int, .string b.text] 55)).alloc (.cells #[.int .u8 0, .bool false, .int .i64 0, .string ⟨#[]⟩] 55)) (.cells #[.int .u8 a.kind, .bool a.bool, .int .i64 a.int, .string a.text, .int .u8 b.kind, .bool b.bool, .int .i64 b.int, .string b.text] 55)
  rw [World.size_alloc, World.size_alloc, World.size_alloc] at h4
  have hkeep : ∀ {g : Nat} {y : Obj}, (((w.alloc (.cells #[.int .u8 a.kind, .bool a.bool, .int .i64 a.int, .string a.text] 55)).alloc (.cells #[.int .u8 b.kind, .bool b.bool, .int .i64 b.int, .string b.text] 55)).alloc (.cells #[.int .u8 0, .bool false, .int .i64 0, .string ⟨#[]⟩] 55)).heap[g]? = some y → ((((w.alloc (.cells #[.int .u8 a.kind, .bool a.bool, .int .i64 a.int, .string a.text] 55)).alloc (.cells #[.int .u8 b.kind, .bool b.bool, .int .i64 b.int, .string b.text] 55)).alloc (.cells #[.int .u8 0, .bool false, .int .i64 0, .string ⟨#[]⟩] 55)).alloc (.cells #[.int .u8 a.kind, .bool a.bool, .int .i64 a.int, .string a.text, .int .u8 b.kind, .bool b.bool, .int .i64 b.int, .string b.text] 55)).heap[g]? = some y := fun h => (Below.heap_alloc _ _ _ (lt_of_heap h)).trans h
  refine (HAP.out _ (four_below _ _ _ _ _) (hkeep h3.1) (hkeep h3.2.1) _ h4).mono ?_
  rintro ev w5 ⟨rfl, hb5⟩
  have t5 := (hb5.block _ (lt_of_heap (hkeep h3.2.2))).trans (hkeep h3.2.2)
  have T5 := Lib.hid t5
  have HB5 := Lib.hid ((four_below _ _ _ _ _).trans (hb5.mono (by simp <;> omega)))
  have z0 := cell_of_heap (o := 0) t5 rfl
  have g0 := frozen_of_heap (o := 0) t5
  have z1 := cell_of_heap (o := 1) t5 rfl
  have g1 := frozen_of_heap (o := 1) t5
  have z2 := cell_of_heap (o := 2) t5 rfl
  have g2 := frozen_of_heap (o := 2) t5
  have z3 := cell_of_heap (o := 3) t5 rfl
  have g3 := frozen_of_heap (o := 3) t5
  clear hb5 t5 h3 h4 hkeep
  unfold resT Dat.agg
  go_wp2
  refine bodyPost_ret (results_row_tmp rfl _ _ (w.heap.size + 1 + 1) 55 _ (0, 0) _ rfl (setRow4_at T5.out) Tryz.underlying55 rfl (by kernel_rfl)) rfl ?_
  exact ⟨rfl, setRow4_below HB5.out (by show w.heap.size ≤ w.heap.size + 1 + 1; omega)⟩

/-- a row of one datum -/
theorem dats1 {w : World} {g : Nat} {a : Dat} (h : w.heap[g]? = some (.cells #[.int .u8 a.kind, .bool a.bool, .int .i64 a.int, .string a.text] 55 (0, 0))) : DatsOn (fun _ => True) w [a] (.slice (some ⟨g, 0, none⟩) 1 1) := by
  refine ⟨some ⟨g, 0, none⟩, 1, rfl, (fun h => by cases h), fun _ => ⟨g, 0, rfl, trivial, fun i d hd => ?_⟩⟩
  rcases i with _ | i
  · cases hd; exact ⟨cell_of_heap h rfl, cell_of_heap h rfl, cell_of_heap h rfl, cell_of_heap h rfl⟩
  · simp at hd

set_option maxRecDepth 100000 in
set_option maxHeartbeats 1000000 in
theorem not_165 (a : Dat) (A : Nat) (w : World) (ha : BoxAt w A a) (_ : a.fits) :
    Calls Tryz.prog 94 #[.pointer (some ⟨A, 0, none⟩)] w (ResPost (boo (!a.bool), 0) w) := by
  have la : A < w.heap.size := lt_of_heap ha
  have a1 : w.cell? ⟨A, 1, none⟩ = some (.bool a.bool) := cell_of_heap ha rfl
  generalize a.bool = x at *
  clear ha
  go_enter Tryz.func94, Tryz.ntmps94
  go_wp2_with fail
  refine (boolean_166 _ _).mono ?_
  rintro ev w5 ⟨rfl, hb5⟩
  have t5 := one_at hb5
  have T5 := Lib.hid t5
  have HB5 := Lib.hid ((one_below _ _).trans (hb5.mono (by simp)))
  have z0 := cell_of_heap (o := 0) t5 rfl
  have g0 := frozen_of_heap (o := 0) t5
  have z1 := cell_of_heap (o := 1) t5 rfl
  have g1 := frozen_of_heap (o := 1) t5
  have z2 := cell_of_heap (o := 2) t5 rfl
  have g2 := frozen_of_heap (o := 2) t5
  have z3 := cell_of_heap (o := 3) t5 rfl
  have g3 := frozen_of_heap (o := 3) t5
  clear hb5 t5
  unfold Dat.agg boo
  go_wp2
  refine bodyPost_ret (results_row_tmp rfl _ _ w.heap.size 55 _ (0, 0) _ rfl (setRow4_at T5.out) Tryz.underlying55 rfl (by kernel_rfl)) rfl ?_
  exact ⟨rfl, setRow4_below HB5.out (Nat.le_refl _)⟩

set_option maxRecDepth 100000 in
set_option maxHeartbeats 1000000 in
theorem not_120 (a : Dat) (w : World) (fa : a.fits) (hT : Lib.Utf8Tabs 1 2 w) (h11 : 3 ≤ w.heap.size) :
    Calls Tryz.prog 75 #[a.agg] w (ResPost (notD a) w) := by
  have hap : ∀ (W : World), Below w.heap.size w W → W.heap[w.heap.size]? = some (.cells #[.int .u8 a.kind, .bool a.bool, .int .i64 a.int, .string a.text] 55 (0, 0)) → ∀ g, W.heap[g]? = some (.cells #[.int .u8 a.kind, .bool a.bool, .int .i64 a.int, .string a.text] 55 (0, 0)) →
      Calls Tryz.prog 92 #[.int .u8 2, .func (.func 94) #[] #[.pointer (some ⟨w.heap.size, 0, none⟩)], .slice (some ⟨g, 0, none⟩) 1 1] W (ResPost (notD a) W) := by
    intro W hb hA g hg
    have h := apply_163 2 94 #[.pointer (some ⟨w.heap.size, 0, none⟩)] [a] _ (boo (!a.bool), 0) W (by simp) (by intro d hd; simp at hd; rcases hd with rfl; exact fa) (dats1 hg) (tabs_below hT hb h11) (Nat.le_trans h11 hb.size) (enters_of Tryz.func94 (by kernel_rfl) rfl)
      (fun _ W2 hb2 => not_165 a w.heap.size W2 ((hb2.block _ (lt_of_heap hA)).trans hA) fa)
    rw [apR_sole] at h
    exact h
  have HAP := Lib.hid hap
  clear hap hT fa
  obtain ⟨X, eX⟩ : ∃ X, X = notD a := ⟨_, rfl⟩
  rw [← eX] at HAP ⊢
  clear eX
  unfold Dat.agg
  go_enter Tryz.func75, Tryz.ntmps75
  go_wp2_with fail
  have h3 := two_at (w := w) (a := .cells #[.int .u8 a.kind, .bool a.bool, .int .i64 a.int, .string a.text] 55) (b := .cells #[.int .u8 0, .bool false, .int .i64 0, .string ⟨#[]⟩] 55) (Below.refl _ _)
  have h4 := heap_alloc_new ((w.alloc (.cells #[.int .u8 a.kind, .bool a.bool, .int .i64 a.int, .string a.text] 55)).alloc (.cells #[.int .u8 0, .bool false, .int .i64 0, .string ⟨#[]⟩] 55)) (.cells #[.int .u8 a.kind, .bool a.bool, .int .i64 a.int, .string a.text] 55)
  rw [World.size_alloc, World.size_alloc] at h4
  have hkeep : ∀ {g : Nat} {y : Obj}, ((w.alloc (.cells #[.int .u8 a.kind, .bool a.bool, .int .i64 a.int, .string a.text] 55)).alloc (.cells #[.int .u8 0, .bool false, .int .i64 0, .string ⟨#[]⟩] 55)).heap[g]? = some y → (((w.alloc (.cells #[.int .u8 a.kind, .bool a.bool, .int .i64 a.int, .string a.text] 55)).alloc (.cells #[.int .u8 0, .bool false, .int .i64 0, .string ⟨#[]⟩] 55)).alloc (.cells #[.int .u8 a.kind, .bool a.bool, .int .i64 a.int, .string a.text] 55)).heap[g]? = some y := fun h => (Below.heap_alloc _ _ _ (lt_of_heap h)).trans h
  refine (HAP.out _ ((two_below w _ _).alloc (two_below w _ _).size _) (hkeep h3.1) _ h4).mono ?_
  rintro ev w5 ⟨rfl, hb5⟩
  have t5 := (hb5.block _ (lt_of_heap (hkeep h3.2))).trans (hkeep h3.2)
  have T5 := Lib.hid t5
  have HB5 := Lib.hid (((two_below w _ _).alloc (two_below w _ _).size _).trans (hb5.mono (by simp <;> omega)))
  have z0 := cell_of_heap (o := 0) t5 rfl
  have g0 := frozen_of_heap (o := 0) t5
  have z1 := cell_of_heap (o := 1) t5 rfl
  have g1 := frozen_of_heap (o := 1) t5
  have z2 := cell_of_heap (o := 2) t5 rfl
  have g2 := frozen_of_heap (o := 2) t5
  have z3 := cell_of_heap (o := 3) t5 rfl
  have g3 := frozen_of_heap (o := 3) t5
  clear hb5 t5 h3 h4 hkeep
  unfold resT Dat.agg
  go_wp2
  refine bodyPost_ret (results_row_tmp rfl _ _ (w.heap.size + 1) 55 _ (0, 0) _ rfl (setRow4_at T5.out) Tryz.underlying55 rfl (by kernel_rfl)) rfl ?_
  exact ⟨rfl, setRow4_below HB5.out (by show w.heap.size ≤ w.heap.size + 1; omega)⟩

theorem runes_from {s : ByteArray} {p : Nat} (h : p < s.size) : runes (s.data.toList.drop p) = 1 + runes (s.data.toList.drop (p + (Utf8.decode s p).2)) := by
  have hl : p < s.data.toList.length := by simpa using h
  rw [← Lib.decodeL_drop]
  rw [List.drop_eq_getElem_cons hl, runes_step, ← List.drop_eq_getElem_cons hl, List.drop_drop]
theorem runes_end {s : ByteArray} {p : Nat} (h : ¬ p < s.size) : runes (s.data.toList.drop p) = 0 := by
  rw [List.drop_eq_nil_of_le (by simp; omega)]
  rfl

set_option maxRecDepth 100000 in
set_option maxHeartbeats 1000000 in
theorem len_164 (a : Dat) (A : Nat) (w : World) (ha : BoxAt w A a) (fa : a.fits) :
    Calls Tryz.prog 93 #[.pointer (some ⟨A, 0, none⟩)] w (ResPost (num (runes a.text.data.toList), 0) w) := by
  have la : A < w.heap.size := lt_of_heap ha
  have a3 : w.cell? ⟨A, 3, none⟩ = some (.string a.text) := cell_of_heap ha rfl
  have fa3 := fa.2.2
  generalize a.text = s at *
  clear ha fa
  obtain ⟨w1, hw1⟩ : ∃ w1, w1 = w.alloc (.cells #[.int .u8 0, .bool false, .int .i64 0, .string ⟨#[]⟩] 55) := ⟨_, rfl⟩
  have hb1 : Below w.heap.size w w1 := by rw [hw1]; exact one_below _ _
  have t1 : w1.heap[w.heap.size]? = some (.cells #[.int .u8 0, .bool false, .int .i64 0, .string ⟨#[]⟩] 55 (0, 0)) := by rw [hw1]; exact heap_alloc_new _ _
  have hsz : w1.heap.size = w.heap.size + 1 := by rw [hw1]; simp
  have HW1 := Lib.hid hw1
  have HB1 := Lib.hid hb1
  have T1 := Lib.hid t1
  clear hw1 hb1 t1
  have hle : runes s.data.toList ≤ s.size := by
    have h := runesN_le s.data.toList.length s.data.toList
    have h2 : s.data.toList.length = s.size := by simp
    unfold runes; omega
  have hip : ∀ p, (w1.iter s p).iterPos (w.heap.size + 1) = p := fun p => by rw [← hsz]; exact World.iterPos_iter w1 s p
  have hkp : ∀ p, (w1.iter s p).heap[w.heap.size]? = some (.cells #[.int .u8 0, .bool false, .int .i64 0, .string ⟨#[]⟩] 55 (0, 0)) := fun p => (Below.heap_alloc w1 _ _ (lt_of_heap T1.out)).trans T1.out
  have hbl : ∀ p, Below w.heap.size w (w1.iter s p) := fun p => HB1.out.alloc HB1.out.size _
  have HLE := Lib.hid hle
  have HIP := Lib.hid hip
  have HKP := Lib.hid hkp
  have HBL := Lib.hid hbl
  have HSZ := Lib.hid hsz
  clear hle hip hkp hbl hsz
  go_enter Tryz.func93, Tryz.ntmps93
  go_wp2_with fail
  rw [← HW1.out]
  go_loopw [3] (fun n w' => ∃ (pos acc : Nat), w' = w1.iter s pos ∧ n = .int .i64 acc ∧ acc + runes (s.data.toList.drop pos) = runes s.data.toList) (fun _ w' => s.size - w'.iterPos (w.heap.size + 1))
  case atStart => exact ⟨0, 0, rfl, rfl, by simp⟩
  case round =>
    obtain ⟨pos, acc, rfl, rfl, hc⟩ := hrel
    have HC := Lib.hid hc
    by_cases hp : pos < s.size
    · have hnx : ∀ ty, (Instr.next (.pointer (some ⟨w1.heap.size, 0, none⟩)) true ty).run Tryz.prog (w1.iter s pos) = _ := fun ty => run_next_any w1 s pos ty hp
      have hnx2 := hnx
      rw [HSZ.out] at hnx2
      have hacc : acc + 1 ≤ s.size := by
        have h1 := HC.out
        rw [runes_from hp] at h1
        have h2 := HLE.out
        omega
      clear hc
      go_wp2
      go_roundw
      case rel =>
        refine ⟨pos + (Utf8.decode s pos).2, acc + 1, rfl, by go_num, ?_⟩
        rw [← HC.out, runes_from hp]
        omega
      case measure =>
        have h1 := Lib.decode_width_pos s pos hp
        rw [HIP.out, HIP.out]
        omega
    · have hnx : ∀ ty, (Instr.next (.pointer (some ⟨w1.heap.size, 0, none⟩)) true ty).run Tryz.prog (w1.iter s pos) = _ := fun ty => run_next_end w1 s pos ty hp
      have hnx2 := hnx
      rw [HSZ.out] at hnx2
      rw [runes_end hp, Nat.add_zero] at hc
      subst hc
      go_wp2_with fail
      refine (number_162 _ _).mono ?_
      rintro ev w5 ⟨rfl, hb5⟩
      have t5 := (hb5.block _ (lt_of_heap (HKP.out pos))).trans (HKP.out pos)
      have T5 := Lib.hid t5
      have HB5 := Lib.hid ((HBL.out pos).trans (hb5.mono (HBL.out pos).size))
      have z0 := cell_of_heap (o := 0) t5 rfl
      have g0 := frozen_of_heap (o := 0) t5
      have z1 := cell_of_heap (o := 1) t5 rfl
      have g1 := frozen_of_heap (o := 1) t5
      have z2 := cell_of_heap (o := 2) t5 rfl
      have g2 := frozen_of_heap (o := 2) t5
      have z3 := cell_of_heap (o := 3) t5 rfl
      have g3 := frozen_of_heap (o := 3) t5
      clear hb5 t5
      unfold Dat.agg num
      go_wp2
      refine bodyPost_ret (results_row_tmp rfl _ _ w.heap.size 55 _ (0, 0) _ rfl (setRow4_at T5.out) Tryz.underlying55 rfl (by kernel_rfl)) rfl ?_
      exact ⟨rfl, setRow4_below HB5.out (Nat.le_refl _)⟩

set_option maxRecDepth 100000 in
set_option maxHeartbeats 1000000 in
theorem len_119 (a : Dat) (w : World) (fa : a.fits) (hT : Lib.Utf8Tabs 1 2 w) (h11 : 3 ≤ w.heap.size) :
    Calls Tryz.prog 74 #[a.agg] w (ResPost (lenD a) w) := by
  have hap : ∀ (W : World), Below w.heap.size w W → W.heap[w.heap.size]? = some (.cells #[.int .u8 a.kind, .bool a.bool, .int .i64 a.int, .string a.text] 55 (0, 0)) → ∀ g, W.heap[g]? = some (.cells #[.int .u8 a.kind, .bool a.bool, .int .i64 a.int, .string a.text] 55 (0, 0)) →
      Calls Tryz.prog 92 #[.int .u8 4, .func (.func 93) #[] #[.pointer (some ⟨w.heap.size, 0, none⟩)], .slice (some ⟨g, 0, none⟩) 1 1] W (ResPost (lenD a) W) := by
    intro W hb hA g hg
    have h := apply_163 4 93 #[.pointer (some ⟨w.heap.size, 0, none⟩)] [a] _ (num (runes a.text.data.toList), 0) W (by simp) (by intro d hd; simp at hd; rcases hd with rfl; exact fa) (dats1 hg) (tabs_below hT hb h11) (Nat.le_trans h11 hb.size) (enters_of Tryz.func93 (by kernel_rfl) rfl)
      (fun _ W2 hb2 => len_164 a w.heap.size W2 ((hb2.block _ (lt_of_heap hA)).trans hA) fa)
    rw [apR_sole] at h
    exact h
  have HAP := Lib.hid hap
  clear hap hT fa
  obtain ⟨X, eX⟩ : ∃ X, X = lenD a := ⟨_, rfl⟩
  rw [← eX] at HAP ⊢
  clear eX
  unfold Dat.agg
  go_enter Tryz.func74, Tryz.ntmps74
  go_wp2_with fail
  have h3 := two_at (w := w) (a := .cells #[.int .u8 a.kind, .bool a.bool, .int .i64 a.int, .string a.text] 55) (b := .cells #[.int .u8 0, .bool false, .int .i64 0, .string ⟨#[]⟩] 55) (Below.refl _ _)
  have h4 := heap_alloc_new ((w.alloc (.cells #[.int .u8 a.kind, .bool a.bool, .int .i64 a.int, .string a.text] 55)).alloc (.cells #[.int .u8 0, .bool false, .int .i64 0, .string ⟨#[]⟩] 55)) (.cells #[.int .u8 a.kind, .bool a.bool, .int .i64 a.int, .string a.text] 55)
  rw [World.size_alloc, World.size_alloc] at h4
  have hkeep : ∀ {g : Nat} {y : Obj}, ((w.alloc (.cells #[.int .u8 a.kind, .bool a.bool, .int .i64 a.int, .string a.text] 55)).alloc (.cells #[.int .u8 0, .bool false, .int .i64 0, .string ⟨#[]⟩] 55)).heap[g]? = some y → (((w.alloc (.cells #[.int .u8 a.kind, .bool a.bool, .int .i64 a.int, .string a.text] 55)).alloc (.cells #[.int .u8 0, .bool false, .int .i64 0, .string ⟨#[]⟩] 55)).alloc (.cells #[.int .u8 a.kind, .bool a.bool, .int .i64 a.int, .string a.text] 55)).heap[g]? = some y := fun h => (Below.heap_alloc _ _ _ (lt_of_heap h)).trans h
  refine (HAP.out _ ((two_below w _ _).alloc (two_below w _ _).size _) (hkeep h3.1) _ h4).mono ?_
  rintro ev w5 ⟨rfl, hb5⟩
  have t5 := (hb5.block _ (lt_of_heap (hkeep h3.2))).trans (hkeep h3.2)
  have T5 := Lib.hid t5
  have HB5 := Lib.hid (((two_below w _ _).alloc (two_below w _ _).size _).trans (hb5.mono (by simp <;> omega)))
  have z0 := cell_of_heap (o := 0) t5 rfl
  have g0 := frozen_of_heap (o := 0) t5
  have z1 := cell_of_heap (o := 1) t5 rfl
  have g1 := frozen_of_heap (o := 1) t5
  have z2 := cell_of_heap (o := 2) t5 rfl
  have g2 := frozen_of_heap (o := 2) t5
  have z3 := cell_of_heap (o := 3) t5 rfl
  have g3 := frozen_of_heap (o := 3) t5
  clear hb5 t5 h3 h4 hkeep
  unfold resT Dat.agg
  go_wp2
  refine bodyPost_ret (results_row_tmp rfl _ _ (w.heap.size + 1) 55 _ (0, 0) _ rfl (setRow4_at T5.out) Tryz.underlying55 rfl (by kernel_rfl)) rfl ?_
  exact ⟨rfl, setRow4_below HB5.out (by show w.heap.size ≤ w.heap.size + 1; omega)⟩

theorem neg_sub (a : Dat) : subD (num 0) a = negD a := by
  have h1 : isK 3 (num 0) = true := by
    have : okD (num 0) = true := by
      unfold okD chkD
      rfl
    unfold isK
    rw [this]
    rfl
  unfold subD negD both sole
  rw [h1, show (num 0).int - a.int = -a.int from Int.zero_sub _]
  simp [num]
theorem num0_fits : (num 0).fits := (num_ok (by decide)).1

set_option maxRecDepth 100000 in
set_option maxHeartbeats 1000000 in
theorem neg_118 (a : Dat) (w : World) (fa : a.fits) (hT : Lib.Utf8Tabs 1 2 w) (h11 : 3 ≤ w.heap.size) :
    Calls Tryz.prog 73 #[a.agg] w (ResPost (negD a) w) := by
  have hsub := fun (W : World) (hb : Below w.heap.size w W) => sub_122 (num 0) a W num0_fits fa (tabs_below hT hb h11) (Nat.le_trans h11 hb.size)
  rw [neg_sub] at hsub
  have HSUB := Lib.hid hsub
  obtain ⟨X, eX⟩ : ∃ X, X = negD a := ⟨_, rfl⟩
  rw [← eX] at HSUB ⊢
  clear eX hsub hT
  unfold Dat.agg at *
  obtain ⟨w1, hw1⟩ : ∃ w1, w1 = (w.alloc (.cells #[.int .u8 a.kind, .bool a.bool, .int .i64 a.int, .string a.text] 55)).alloc (.cells #[.int .u8 0, .bool false, .int .i64 0, .string ⟨#[]⟩] 55) := ⟨_, rfl⟩
  have hb1 : Below w.heap.size w w1 := by rw [hw1]; exact two_below _ _ _
  have ht := two_at (w := w) (w1 := w1) (a := .cells #[.int .u8 a.kind, .bool a.bool, .int .i64 a.int, .string a.text] 55) (b := .cells #[.int .u8 0, .bool false, .int .i64 0, .string ⟨#[]⟩] 55) (by rw [hw1]; exact Below.refl _ _)
  have hs1 : w1.cell? ⟨w.heap.size, 0, none⟩ = some (.int .u8 a.kind) ∧ w1.cell? ⟨w.heap.size, 1, none⟩ = some (.bool a.bool) ∧ w1.cell? ⟨w.heap.size, 2, none⟩ = some (.int .i64 a.int) ∧ w1.cell? ⟨w.heap.size, 3, none⟩ = some (.string a.text) := ⟨cell_of_heap ht.1 rfl, cell_of_heap ht.1 rfl, cell_of_heap ht.1 rfl, cell_of_heap ht.1 rfl⟩
  have hkeep : ∀ (w' : World), Below w1.heap.size w1 w' → w'.cell? ⟨w.heap.size, 0, none⟩ = some (.int .u8 a.kind) ∧ w'.cell? ⟨w.heap.size, 1, none⟩ = some (.bool a.bool) ∧ w'.cell? ⟨w.heap.size, 2, none⟩ = some (.int .i64 a.int) ∧ w'.cell? ⟨w.heap.size, 3, none⟩ = some (.string a.text) := fun w' hb => ⟨cell_keep hb hs1.1, cell_keep hb hs1.2.1, cell_keep hb hs1.2.2.1, cell_keep hb hs1.2.2.2⟩
  have ne1 : w.heap.size ≠ w.heap.size + 1 := by omega
  have HW1 := Lib.hid hw1
  have HB1 := Lib.hid hb1
  have T1 := Lib.hid ht.2
  have S1 := Lib.hid hs1
  have HKEEP := Lib.hid hkeep
  clear hw1 hb1 ht hs1 hkeep
  go_enter Tryz.func73, Tryz.ntmps73
  go_wp2_with fail
  rw [← HW1.out]
  have s0 := S1.out.1
  have s1 := S1.out.2.1
  have s2 := S1.out.2.2.1
  have s3 := S1.out.2.2.2
  go_region_held3 (fun w' => w'.cell? ⟨w.heap.size, 0, none⟩ = some (.int .u8 a.kind) ∧ w'.cell? ⟨w.heap.size, 1, none⟩ = some (.bool a.bool) ∧ w'.cell? ⟨w.heap.size, 2, none⟩ = some (.int .i64 a.int) ∧ w'.cell? ⟨w.heap.size, 3, none⟩ = some (.string a.text))
    (first | go_keep | exact HKEEP.out _ hbS.out)
    (first
    | (go_at_call 91; refine (number_162 _ _).mono ?_; rintro ev w6 ⟨rfl, hb6⟩; have hbS : Hid (Below w1.heap.size w1 w6) := Lib.hid (by first | exact hb6 | exact below_undrew hb6 | exact below_undrewN hb6); clear hb6; unfold Dat.agg num)
    | (go_at_call 77; refine (HSUB.out _ (by first | exact HB1.out.trans (hbS.out.mono HB1.out.size) | exact Go.Pen.below_drewN (HB1.out.trans (hbS.out.mono HB1.out.size)))).mono ?_; rintro ev w5 ⟨rfl, hb5⟩; have hbS : Hid (Below w1.heap.size w1 w5) := Lib.hid (hbS.out.trans ((show Below w6.heap.size w6 w5 by first | exact hb5 | exact below_undrew hb5 | exact below_undrewN hb5).mono hbS.out.size)); have t5 := (hbS.out.block _ (lt_of_heap T1.out)).trans T1.out; have z0 := cell_of_heap (o := 0) t5 rfl; have g0 := frozen_of_heap (o := 0) t5; have z1 := cell_of_heap (o := 1) t5 rfl; have g1 := frozen_of_heap (o := 1) t5; have z2 := cell_of_heap (o := 2) t5 rfl; have g2 := frozen_of_heap (o := 2) t5; have z3 := cell_of_heap (o := 3) t5 rfl; have g3 := frozen_of_heap (o := 3) t5; have T5 := Lib.hid t5; clear hb5 t5; unfold resT Dat.agg))
  go_wp2
  refine bodyPost_ret (results_row_tmp rfl _ _ (w.heap.size + 1) 55 _ (0, 0) _ rfl (setRow4_at T5.out) Tryz.underlying55 rfl (by kernel_rfl)) rfl ?_
  exact ⟨rfl, setRow4_below (HB1.out.trans (hbS.out.mono HB1.out.size)) (by show w.heap.size ≤ w.heap.size + 1; omega)⟩

end Go.Proofs.YtlpehdhgdpeoeaaGreatDoor
