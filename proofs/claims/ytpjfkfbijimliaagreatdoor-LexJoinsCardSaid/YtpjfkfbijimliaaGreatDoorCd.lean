/- ref right 11. -/
import Derived.Test.YtpjfkfbijimliaaGreatDoorCc
namespace Go.Proofs.YtpjfkfbijimliaaGreatDoor
open Go.RowKit Go.Pen

theorem rt_blk {w w1 : World} {H : Nat} {k : Int} {t : ByteArray} {n a : Int} (hH : w.heap.size = H) (hw1 : w.alloc (.cells #[.int .u8 k, .string t, .int .i64 n, .int .i64 a] 34) = w1) :
    Below H w w1 ∧ H < w1.heap.size ∧ w1.cell? ⟨H, 0, none⟩ = some (.int .u8 k) ∧ w1.cell? ⟨H, 1, none⟩ = some (.string t) ∧ w1.cell? ⟨H, 2, none⟩ = some (.int .i64 n) := by
  subst hH hw1
  have e := heap_alloc_new w (.cells #[.int .u8 k, .string t, .int .i64 n, .int .i64 a] 34)
  exact ⟨(Below.refl _ _).alloc (Nat.le_refl _) _, lt_of_heap e, cell_of_heap e rfl, cell_of_heap e rfl, cell_of_heap e rfl⟩

set_option maxRecDepth 100000 in
set_option maxHeartbeats 4000000 in
theorem right_word (t : ByteArray) (n a : Int) (w : World) :
    Calls Tryz.prog 11 #[tokAgg 1 t n a] w fun e w' => e = .returned (.bool (decide (n = 0) && wordB t.data.toList)) ∧ Below w.heap.size w w' := by
  obtain ⟨H, hH⟩ : ∃ H, w.heap.size = H := ⟨_, rfl⟩
  have HH := Lib.hid hH
  clear hH
  unfold tokAgg
  by_cases hn : n = 0
  · subst hn
    rw [decide_eq_true rfl, Bool.true_and]
    go_enter Tryz.func11, Tryz.ntmps11
    go_wp2_with fail
    rw [HH.out]
    generalize hw1 : World.alloc _ _ = w1
    obtain ⟨hb, hz, c0, c1, c2⟩ := rt_blk HH.out hw1
    have HB := Lib.hid hb
    clear hw1 hb
    refine (word_20 t _).mono ?_
    rintro _ w9 ⟨rfl, hw⟩; rw [hw]; clear hw
    go_wp2_with fail
    go_ret
    exact ⟨rfl, by rw [HH.out]; exact HB.out⟩
  · have en : (n == 0) = false := by simpa using hn
    rw [decide_eq_false hn, Bool.false_and]
    clear hn
    go_enter Tryz.func11, Tryz.ntmps11
    go_wp2_with fail
    go_ret
    exact ⟨rfl, (Below.refl _ _).alloc (Nat.le_refl _) _⟩

set_option maxRecDepth 100000 in
set_option maxHeartbeats 4000000 in
theorem right_num (t : ByteArray) (n a : Int) (w : World) :
    Calls Tryz.prog 11 #[tokAgg 2 t n a] w fun e w' => e = .returned (.bool (decide (0 ≤ n) && t.toList.isEmpty)) ∧ Below w.heap.size w w' := by
  unfold tokAgg
  cases hd : decide (0 ≤ n)
  · rw [Bool.false_and]
    go_enter Tryz.func11, Tryz.ntmps11
    go_wp2_with fail
    go_ret
    exact ⟨rfl, (Below.refl _ _).alloc (Nat.le_refl _) _⟩
  · rw [Bool.true_and]
    go_enter Tryz.func11, Tryz.ntmps11
    go_wp2_with fail
    go_ret
    exact ⟨rfl, (Below.refl _ _).alloc (Nat.le_refl _) _⟩

theorem chk_eq (t : ByteArray) : decide (chkE t.data.toList = 0) = (decide (t.size ≤ 1000) && Lib.validD t.data.toList) := by
  rw [chkE, len_list]
  cases Lib.validD t.data.toList
  · simp
  · by_cases h : 1000 < t.size
    · have : ¬ t.size ≤ 1000 := by omega
      simp [h, this]
    · have : t.size ≤ 1000 := by omega
      simp [h, this]

set_option maxRecDepth 100000 in
set_option maxHeartbeats 4000000 in
theorem right_text (t : ByteArray) (n a : Int) (w : World) :
    Calls Tryz.prog 11 #[tokAgg 3 t n a] w fun e w' => e = .returned (.bool (decide (n = 0) && decide (chkE t.data.toList = 0))) ∧ Below w.heap.size w w' := by
  obtain ⟨H, hH⟩ : ∃ H, w.heap.size = H := ⟨_, rfl⟩
  have HH := Lib.hid hH
  clear hH
  rw [chk_eq]
  unfold tokAgg
  by_cases hn : n = 0
  · subst hn
    rw [decide_eq_true rfl, Bool.true_and]
    by_cases hl : t.size ≤ 1000
    · have hd : decide ((t.size : Int) ≤ 1000) = true := by simp; omega
      rw [decide_eq_true hl, Bool.true_and]
      obtain ⟨V, hV⟩ : ∃ V, Lib.validD t.data.toList = V := ⟨_, rfl⟩
      rw [hV]
      have HV := Lib.hid hV
      clear hV
      go_enter Tryz.func11, Tryz.ntmps11
      go_wp2_with fail
      rw [HH.out]
      generalize hw1 : World.alloc _ _ = w1
      obtain ⟨hb, hz, c0, c1, c2⟩ := rt_blk HH.out hw1
      have HB := Lib.hid hb
      clear hw1 hb
      refine (runes_65 t _ (by omega)).mono ?_
      rintro _ w9 ⟨r, rfl, hr, hw⟩; rw [hw]; clear hw
      rw [HV.out] at hr
      have hd0 : decide (0 ≤ r) = V := by
        cases V
        · simp at hr ⊢; omega
        · simp at hr ⊢; omega
      clear hr
      go_wp2_with fail
      go_ret
      exact ⟨rfl, by rw [HH.out]; exact HB.out⟩
    · have hd : decide ((t.size : Int) ≤ 1000) = false := by simp; omega
      rw [decide_eq_false hl, Bool.false_and]
      clear hl
      go_enter Tryz.func11, Tryz.ntmps11
      go_wp2_with fail
      go_ret
      exact ⟨rfl, (Below.refl _ _).alloc (Nat.le_refl _) _⟩
  · have en : (n == 0) = false := by simpa using hn
    rw [decide_eq_false hn, Bool.false_and]
    clear hn
    go_enter Tryz.func11, Tryz.ntmps11
    go_wp2_with fail
    go_ret
    exact ⟨rfl, (Below.refl _ _).alloc (Nat.le_refl _) _⟩

set_option maxRecDepth 100000 in
set_option maxHeartbeats 4000000 in
theorem right_sign (t : ByteArray) (n a : Int) (w : World) (hs : t.size ≤ 9223372036854775807) :
    Calls Tryz.prog 11 #[tokAgg 4 t n a] w fun e w' => e = .returned (.bool (decide (n = 0) && (!t.toList.isEmpty && decide (sgn t.data.toList = t.data.toList)))) ∧ Below w.heap.size w w' := by
  obtain ⟨H, hH⟩ : ∃ H, w.heap.size = H := ⟨_, rfl⟩
  have HH := Lib.hid hH
  clear hH
  unfold tokAgg
  by_cases hn : n = 0
  · subst hn
    rw [decide_eq_true rfl, Bool.true_and]
    cases he : t.toList.isEmpty
    · go_enter Tryz.func11, Tryz.ntmps11
      go_wp2_with fail
      rw [HH.out]
      generalize hw1 : World.alloc _ _ = w1
      obtain ⟨hb, hz1, c0, c1, c2⟩ := rt_blk HH.out hw1
      have HB := Lib.hid hb
      have hsg := fun W => sign_any t 0 W (Nat.zero_le _) (by omega) hs
      rw [List.drop_zero] at hsg
      have HS := Lib.hid hsg
      clear hw1 hb hsg
      go_region_held3 (fun w' => w'.cell? ⟨H, 1, none⟩ = some (.string t) ∧ w'.cell? ⟨H, 2, none⟩ = some (.int .i64 0))
        (first | go_keep | (exact ⟨(hb5.cell (p := ⟨H, 1, none⟩) hz1).trans c1, (hb5.cell (p := ⟨H, 2, none⟩) hz1).trans c2⟩))
        (first | (go_at_call 27; refine (HS.out _).mono ?_; rintro e w5 ⟨rfl, hb5⟩))
      have hb : Below H w w5 := HB.out.trans ((by first | exact hb5 | exact below_undrew hb5 | exact below_undrewN hb5 : Below w1.heap.size w1 w5).mono (Nat.le_of_lt hz1))
      have HB5 := Lib.hid hb
      clear hb hb5 c1 c2
      go_wp2_with fail
      go_ret
      refine ⟨?_, by rw [HH.out]; exact HB5.out⟩
      have htl : t.toList = t.data.toList := ByteArray.toList_eq ..
      have : (sgn t.data.toList == t.data.toList) = decide (sgn t.data.toList = t.data.toList) := by rw [Bool.eq_iff_iff]; simp
      rw [← this, ← htl]; rfl
    · go_enter Tryz.func11, Tryz.ntmps11
      go_wp2_with fail
      rw [HH.out]
      generalize hw1 : World.alloc _ _ = w1
      obtain ⟨hb, hz1, c0, c1, c2⟩ := rt_blk HH.out hw1
      have HB := Lib.hid hb
      clear hw1 hb
      go_quiet (fail)
      go_wp2_with fail
      go_ret
      exact ⟨rfl, by rw [HH.out]; exact Go.Pen.below_drewN HB.out⟩
  · have en : (n == 0) = false := by simpa using hn
    rw [decide_eq_false hn, Bool.false_and]
    clear hn
    go_enter Tryz.func11, Tryz.ntmps11
    go_wp2_with fail
    rw [HH.out]
    generalize hw1 : World.alloc _ _ = w1
    obtain ⟨hb, hz1, c0, c1, c2⟩ := rt_blk HH.out hw1
    have HB := Lib.hid hb
    clear hw1 hb
    go_quiet (fail)
    go_wp2_with fail
    go_ret
    exact ⟨rfl, by rw [HH.out]; exact Go.Pen.below_drewN HB.out⟩

set_option maxRecDepth 100000 in
set_option maxHeartbeats 4000000 in
theorem right_other (k : Int) (t : ByteArray) (n a : Int) (h1 : k ≠ 1) (h2 : k ≠ 2) (h3 : k ≠ 3) (h4 : k ≠ 4) (w : World) :
    Calls Tryz.prog 11 #[tokAgg k t n a] w fun e w' => e = .returned (.bool false) ∧ Below w.heap.size w w' := by
  have e1 : (k == 1) = false := by simpa using h1
  have e2 : (k == 2) = false := by simpa using h2
  have e3 : (k == 3) = false := by simpa using h3
  have e4 : (k == 4) = false := by simpa using h4
  clear h1 h2 h3 h4
  unfold tokAgg
  go_enter Tryz.func11, Tryz.ntmps11
  go_wp2_with fail
  go_ret
  exact ⟨rfl, (Below.refl _ _).alloc (Nat.le_refl _) _⟩

theorem right_11 (g : GTok) (hf : g.fits) (w : World) : Calls Tryz.prog 11 #[g.val] w fun e w' => e = .returned (.bool (fW g).2) ∧ Below w.heap.size w w' := by
  obtain ⟨k, t, n, a⟩ := g
  obtain ⟨f1, f2, f3⟩ := hf
  unfold GTok.val fW
  simp only [] at f1 f2 f3 ⊢
  by_cases k2 : k = 2
  · subst k2
    rw [if_pos rfl]
    exact right_num t n a w
  rw [if_neg k2]
  by_cases k1 : k = 1
  · subst k1
    rw [if_pos rfl]
    exact right_word t n a w
  rw [if_neg k1]
  by_cases k3 : k = 3
  · subst k3
    rw [if_pos rfl]
    exact right_text t n a w
  rw [if_neg k3]
  by_cases k4 : k = 4
  · subst k4
    rw [if_pos rfl]
    exact right_sign t n a w f3
  rw [if_neg k4]
  exact right_other k t n a k1 k2 k3 k4 w
end Go.Proofs.YtpjfkfbijimliaaGreatDoor
