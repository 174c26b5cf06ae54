/- datum.Print 50 of any text, lex.written 31 of any token. -/
import Derived.Test.YtpjfkfbijimliaaGreatDoorBb
namespace Go.Proofs.YtpjfkfbijimliaaGreatDoor
open Go.RowKit Go.Pen

/-- what is written of a text -/
def prf (l : Bytes) : Bytes := if chkE l = 0 then quf l else []

set_option maxRecDepth 100000 in
set_option maxHeartbeats 4000000 in
theorem printF_50 (t : ByteArray) (w : World) (hs : t.size ≤ 9223372036854775807) (hT : Lib.Utf8Tabs 0 1 w) (h16 : 10 ≤ w.heap.size) (hc9 : w.cell? ⟨9, 15, none⟩ = some (.int .u8 4)) :
    Calls Tryz.prog 19 #[txtDat t] w fun e w' => e = .returned (.string ⟨(prf t.data.toList).toArray⟩) ∧ Below w.heap.size w w' := by
  obtain ⟨H, hH⟩ : ∃ H, w.heap.size = H := ⟨_, rfl⟩
  have HH := Lib.hid hH
  have HT := Lib.hid hT
  have HC9 := Lib.hid hc9
  clear hT hH hc9
  unfold txtDat
  go_enter Tryz.func19, Tryz.ntmps19
  go_wp2_with fail
  rw [HH.out]
  generalize hw1 : World.alloc _ _ = w1
  have hb1 : Below H w w1 := by rw [← hw1]; exact (Below.refl _ _).alloc (by have := HH.out; omega) _
  have e1 : w1.heap[H]? = some (.cells #[.int .u8 4, .bool false, .int .i64 0, .string t] 43 (0, 0)) := by
    rw [← hw1, ← HH.out]; exact heap_alloc_new w _
  have hz1 : H < w1.heap.size := lt_of_heap e1
  clear hw1
  refine (check_51 t w1 hs (tabs_below HT.out hb1 (by have := HH.out; omega)) (by have := HH.out; omega)).mono ?_
  rintro _ w2 ⟨rfl, hb2⟩
  have c0 : w2.cell? ⟨H, 0, none⟩ = some (.int .u8 4) := (hb2.cell (p := ⟨H, 0, none⟩) hz1).trans (cell_of_heap e1 rfl)
  have c3 : w2.cell? ⟨H, 3, none⟩ = some (.string t) := (hb2.cell (p := ⟨H, 3, none⟩) hz1).trans (cell_of_heap e1 rfl)
  have hb : Below H w w2 := hb1.trans (hb2.mono (Nat.le_of_lt hz1))
  have HB := Lib.hid hb
  have HC := Lib.hid ((hb.cell (p := ⟨9, 15, none⟩) (by have := HH.out; show 9 < H; omega)).trans HC9.out)
  have hz2 : 10 ≤ w2.heap.size := by have := hb2.size; have := HH.out; omega
  clear hb hb1 hb2 e1
  by_cases hk : chkE t.data.toList = 0
  · have HK := Lib.hid hk
    rw [hk]
    have hlen : t.size ≤ 1000 := by
      rw [chkE] at hk
      split at hk
      · omega
      · split at hk
        · omega
        · rename_i h; rw [len_list] at h; omega
    clear hk
    go_wp2_with fail
    refine (quotedF_70 t w2 hlen hz2 HC.out).mono ?_
    rintro _ w3 ⟨rfl, hb3⟩
    go_wp2_with fail
    go_ret
    exact ⟨by rw [prf, if_pos HK.out]; rfl, by rw [HH.out]; exact HB.out.trans (hb3.mono (by have := HB.out.size; have := HH.out; omega))⟩
  · have HK := Lib.hid hk
    have hne : ((chkE t.data.toList : Int) != 0) = true := by simp; exact hk
    generalize chkE t.data.toList = X at hne ⊢
    clear hk
    go_wp2_with fail
    go_ret
    exact ⟨by rw [prf, if_neg HK.out]; rfl, by rw [HH.out]; exact HB.out⟩
set_option maxRecDepth 100000 in
set_option maxHeartbeats 4000000 in
/-- a text -/
theorem writtenF_text (t : ByteArray) (a : Int) (w : World) (hs : t.size ≤ 9223372036854775807) (hT : Lib.Utf8Tabs 0 1 w) (h16 : 10 ≤ w.heap.size) (hc9 : w.cell? ⟨9, 15, none⟩ = some (.int .u8 4)) :
    Calls Tryz.prog 9 #[tokAgg 3 t 0 a] w fun e w' => e = .returned (.tuple #[.string ⟨(prf t.data.toList).toArray⟩, .bool (decide (chkE t.data.toList = 0))]) ∧ Below w.heap.size w w' := by
  obtain ⟨H, hH⟩ : ∃ H, w.heap.size = H := ⟨_, rfl⟩
  have HH := Lib.hid hH
  have HT := Lib.hid hT
  have HC9 := Lib.hid hc9
  clear hH hT hc9
  unfold tokAgg
  go_enter Tryz.func9, Tryz.ntmps9
  go_wp2_with fail
  rw [HH.out]
  generalize hw1 : World.alloc _ _ = w1
  have hwb := wrB_mk HH.out hw1
  have hz1 : H + 1 < w1.heap.size := lt_of_heap hwb.b1
  have c2 : w1.cell? ⟨H, 2, none⟩ = some (.int .i64 0) := cell_of_heap hwb.b0 rfl
  have d0 : w1.cell? ⟨H + 1, 0, none⟩ = some (.int .u8 4) := cell_of_heap hwb.b1 rfl
  have d1 : w1.cell? ⟨H + 1, 1, none⟩ = some (.bool false) := cell_of_heap hwb.b1 rfl
  have d2 : w1.cell? ⟨H + 1, 2, none⟩ = some (.int .i64 0) := cell_of_heap hwb.b1 rfl
  have d3 : w1.cell? ⟨H + 1, 3, none⟩ = some (.string t) := cell_of_heap hwb.b1 rfl
  have HB := Lib.hid hwb.below
  have HT1 := Lib.hid (tabs_below HT.out hwb.below (by have := HH.out; omega))
  have hz11 : 10 ≤ w1.heap.size := by have := HH.out; omega
  have HC := Lib.hid ((hwb.below.cell (p := ⟨9, 15, none⟩) (by have := HH.out; show 9 < H; omega)).trans HC9.out)
  have hz0 : H < w1.heap.size := by omega
  clear hw1 hwb
  go_region_held3 (fun w' => w'.cell? ⟨H, 2, none⟩ = some (.int .i64 0) ∧ w'.cell? ⟨H + 1, 0, none⟩ = some (.int .u8 4) ∧ w'.cell? ⟨H + 1, 1, none⟩ = some (.bool false) ∧ w'.cell? ⟨H + 1, 2, none⟩ = some (.int .i64 0) ∧ w'.cell? ⟨H + 1, 3, none⟩ = some (.string t))
    (first | go_keep | with_reducible exact HS5.out | with_reducible exact HS6.out)
    (first | (go_at_call 19; refine (printF_50 t _ hs (by exact HT1.out) (by simpa using hz11) (by exact HC.out)).mono ?_; rintro e w5 ⟨rfl, hb5⟩; have hz5 := hb5.size; have HS5 := Lib.hid (And.intro ((hb5.cell (p := ⟨H, 2, none⟩) hz0).trans c2) (And.intro ((hb5.cell (p := ⟨H + 1, 0, none⟩) hz1).trans d0) (And.intro ((hb5.cell (p := ⟨H + 1, 1, none⟩) hz1).trans d1) (And.intro ((hb5.cell (p := ⟨H + 1, 2, none⟩) hz1).trans d2) ((hb5.cell (p := ⟨H + 1, 3, none⟩) hz1).trans d3)))))) | (go_at_call 20; refine (check_51 t _ hs (by exact tabs_below HT1.out (below_undrew hb5) (by show 10 ≤ w1.heap.size; omega)) (by simp at hz5; omega)).mono ?_; rintro e w6 ⟨rfl, hb6⟩; have HS6 := Lib.hid (And.intro ((hb6.cell (p := ⟨H, 2, none⟩) (Nat.lt_of_lt_of_le hz0 hz5)).trans HS5.out.1) (And.intro ((hb6.cell (p := ⟨H + 1, 0, none⟩) (Nat.lt_of_lt_of_le hz1 hz5)).trans HS5.out.2.1) (And.intro ((hb6.cell (p := ⟨H + 1, 1, none⟩) (Nat.lt_of_lt_of_le hz1 hz5)).trans HS5.out.2.2.1) (And.intro ((hb6.cell (p := ⟨H + 1, 2, none⟩) (Nat.lt_of_lt_of_le hz1 hz5)).trans HS5.out.2.2.2.1) ((hb6.cell (p := ⟨H + 1, 3, none⟩) (Nat.lt_of_lt_of_le hz1 hz5)).trans HS5.out.2.2.2.2)))))))
  have hb : Below H w w6 := HB.out.trans (((below_undrew hb5).trans (hb6.mono (by exact hz5)) : Below w1.heap.size w1 w6).mono (Nat.le_of_lt hz0))
  have HB5 := Lib.hid hb
  clear hb hb5 hb6 c2 d0 d1 d2 d3 HS5 HS6
  go_wp2_with fail
  obtain ⟨X, hX⟩ : ∃ X, chkE t.data.toList = X := ⟨_, rfl⟩
  rw [hX]
  refine bodyPost_ret (v := .tuple #[.string ⟨(prf t.data.toList).toArray⟩, .bool ((X : Int) == 0)]) (by simp [results, Tryz.results9, go_sem]) rfl ⟨?_, ?_⟩
  · have : ((X : Int) == 0) = decide (X = 0) := by rw [Bool.eq_iff_iff]; simp
    rw [this]
  · rw [HH.out]; exact HB5.out

theorem below_grow (w : World) (os : Array Obj) (B : Nat) (hB : B ≤ w.heap.size) : Below B w (Go.Sort.grow w os) := by
  have key : ∀ (l : List Obj) (w : World), B ≤ w.heap.size → Below B w (Go.Sort.grow w l.toArray) := fun l => by
    induction l with
    | nil => intro w h; rw [Go.Sort.grow_empty]; exact Below.refl _ _
    | cons x xs ih =>
      intro w h
      have e : Go.Sort.grow w (x :: xs).toArray = Go.Sort.grow (w.alloc x) xs.toArray := by
        rw [Go.Sort.alloc_eq_grow, Go.Sort.grow_grow]; simp
      rw [e]
      exact ((Below.refl _ _).alloc h _).trans (ih _ (by simp; omega))
  have := key os.toList w hB
  simpa using this

theorem format_49 (n : Int) (h0 : -9223372036854775808 ≤ n) (h1 : n ≤ 9223372036854775807) (w : World) (htab : Lib.TabIs Tryz.prog w "internal/strconv.uint64pow10" .u64 Lib.pow10Tab) :
    Calls Tryz.prog 17 #[.int .i64 n, .int .i64 10] w fun e w' => e = .returned (.string ⟨(Lib.itoa n).toArray⟩) ∧ Below w.heap.size w w' := by
  refine (Tryz.strconv_FormatInt_10 n h0 h1 w htab).mono ?_
  rintro _ w9 ⟨rfl, k, os, rfl⟩
  refine ⟨rfl, ?_⟩
  exact (Go.Pen.below_drewN (Below.refl _ _)).trans (below_grow _ _ _ (by simp))

theorem globP10 : Tryz.prog.globalNamed "internal/strconv.uint64pow10" = some 2 := by kernel_rfl

set_option maxRecDepth 100000 in
set_option maxHeartbeats 4000000 in
/-- a word with a number -/
theorem writtenF_word_n (t : ByteArray) (n a : Int) (hn : n ≠ 0) (w : World) :
    Calls Tryz.prog 9 #[tokAgg 1 t n a] w fun e w' => e = .returned (.tuple #[.string t, .bool false]) ∧ Below w.heap.size w w' := by
  obtain ⟨H, hH⟩ : ∃ H, w.heap.size = H := ⟨_, rfl⟩
  have HH := Lib.hid hH
  have en : (n == 0) = false := by simpa using hn
  clear hH hn
  unfold tokAgg
  go_enter Tryz.func9, Tryz.ntmps9
  go_wp2_with fail
  rw [HH.out]
  generalize hw1 : World.alloc _ _ = w1
  have hwb := wrB_mk HH.out hw1
  have c1 : w1.cell? ⟨H, 1, none⟩ = some (.string t) := cell_of_heap hwb.b0 rfl
  have c2 : w1.cell? ⟨H, 2, none⟩ = some (.int .i64 n) := cell_of_heap hwb.b0 rfl
  have HB := Lib.hid hwb.below
  clear hw1 hwb
  go_quiet (fail)
  go_wp2_with fail
  refine bodyPost_ret (v := .tuple #[.string t, .bool false]) (by simp [results, Tryz.results9, go_sem]) rfl ⟨rfl, ?_⟩
  rw [HH.out]; exact Go.Pen.below_drewN HB.out

set_option maxRecDepth 100000 in
set_option maxHeartbeats 4000000 in
/-- a sign with a number -/
theorem writtenF_sign_n (t : ByteArray) (n a : Int) (hn : n ≠ 0) (w : World) :
    Calls Tryz.prog 9 #[tokAgg 4 t n a] w fun e w' => e = .returned (.tuple #[.string t, .bool false]) ∧ Below w.heap.size w w' := by
  obtain ⟨H, hH⟩ : ∃ H, w.heap.size = H := ⟨_, rfl⟩
  have HH := Lib.hid hH
  have en : (n == 0) = false := by simpa using hn
  clear hH hn
  unfold tokAgg
  go_enter Tryz.func9, Tryz.ntmps9
  go_wp2_with fail
  rw [HH.out]
  generalize hw1 : World.alloc _ _ = w1
  have hb1 : Below H w w1 := by
    rw [← hw1]
    exact (((Below.refl _ _).alloc (by have := HH.out; omega) _).alloc (by have := HH.out; simp; omega) _).alloc (by have := HH.out; simp; omega) _
  have e0 : w1.heap[H]? = some (.cells #[.int .u8 4, .string t, .int .i64 n, .int .i64 a] 34 (0, 0)) := by
    rw [← hw1, ← HH.out, Below.heap_alloc _ _ _ (by simp; omega), Below.heap_alloc _ _ _ (by simp)]
    exact heap_alloc_new w _
  have c1 : w1.cell? ⟨H, 1, none⟩ = some (.string t) := cell_of_heap e0 rfl
  have c2 : w1.cell? ⟨H, 2, none⟩ = some (.int .i64 n) := cell_of_heap e0 rfl
  have HB := Lib.hid hb1
  clear hw1 hb1 e0
  go_quiet (fail)
  go_wp2_with fail
  refine bodyPost_ret (v := .tuple #[.string t, .bool false]) (by simp [results, Tryz.results9, go_sem]) rfl ⟨rfl, ?_⟩
  rw [HH.out]; exact Go.Pen.below_drewN HB.out

set_option maxRecDepth 100000 in
set_option maxHeartbeats 4000000 in
/-- no sign at all -/
theorem writtenF_sign_0 (t : ByteArray) (a : Int) (he : t.toList.isEmpty = true) (w : World) :
    Calls Tryz.prog 9 #[tokAgg 4 t 0 a] w fun e w' => e = .returned (.tuple #[.string t, .bool false]) ∧ Below w.heap.size w w' := by
  obtain ⟨H, hH⟩ : ∃ H, w.heap.size = H := ⟨_, rfl⟩
  have HH := Lib.hid hH
  clear hH
  unfold tokAgg
  go_enter Tryz.func9, Tryz.ntmps9
  go_wp2_with fail
  rw [HH.out]
  generalize hw1 : World.alloc _ _ = w1
  have hb1 : Below H w w1 := by
    rw [← hw1]
    exact (((Below.refl _ _).alloc (by have := HH.out; omega) _).alloc (by have := HH.out; simp; omega) _).alloc (by have := HH.out; simp; omega) _
  have e0 : w1.heap[H]? = some (.cells #[.int .u8 4, .string t, .int .i64 0, .int .i64 a] 34 (0, 0)) := by
    rw [← hw1, ← HH.out, Below.heap_alloc _ _ _ (by simp; omega), Below.heap_alloc _ _ _ (by simp)]
    exact heap_alloc_new w _
  have c1 : w1.cell? ⟨H, 1, none⟩ = some (.string t) := cell_of_heap e0 rfl
  have c2 : w1.cell? ⟨H, 2, none⟩ = some (.int .i64 0) := cell_of_heap e0 rfl
  have HB := Lib.hid hb1
  clear hw1 hb1 e0
  go_quiet (fail)
  go_wp2_with fail
  refine bodyPost_ret (v := .tuple #[.string t, .bool false]) (by simp [results, Tryz.results9, go_sem]) rfl ⟨rfl, ?_⟩
  rw [HH.out]; exact Go.Pen.below_drewN HB.out

set_option maxRecDepth 100000 in
set_option maxHeartbeats 4000000 in
/-- of no kind -/
theorem writtenF_other (k : Int) (t : ByteArray) (n a : Int) (h1 : k ≠ 1) (h2 : k ≠ 2) (h3 : k ≠ 3) (h4 : k ≠ 4) (w : World) :
    Calls Tryz.prog 9 #[tokAgg k t n a] w fun e w' => e = .returned (.tuple #[.string ⟨#[]⟩, .bool false]) ∧ Below w.heap.size w w' := by
  obtain ⟨H, hH⟩ : ∃ H, w.heap.size = H := ⟨_, rfl⟩
  have HH := Lib.hid hH
  have e1 : (k == 1) = false := by simpa using h1
  have e2 : (k == 2) = false := by simpa using h2
  have e3 : (k == 3) = false := by simpa using h3
  have e4 : (k == 4) = false := by simpa using h4
  clear hH h1 h2 h3 h4
  unfold tokAgg
  go_enter Tryz.func9, Tryz.ntmps9
  go_wp2_with fail
  refine bodyPost_ret (v := .tuple #[.string ⟨#[]⟩, .bool false]) (by simp [results, Tryz.results9, go_sem]) rfl ⟨rfl, ?_⟩
  exact ((Below.refl _ _).alloc (Nat.le_refl _) _).alloc (by simp) _

set_option maxRecDepth 100000 in
set_option maxHeartbeats 4000000 in
/-- a text with a number -/
theorem writtenF_text_n (t : ByteArray) (n a : Int) (hn : n ≠ 0) (w : World) (hs : t.size ≤ 9223372036854775807) (hT : Lib.Utf8Tabs 0 1 w) (h16 : 10 ≤ w.heap.size) (hc9 : w.cell? ⟨9, 15, none⟩ = some (.int .u8 4)) :
    Calls Tryz.prog 9 #[tokAgg 3 t n a] w fun e w' => e = .returned (.tuple #[.string ⟨(prf t.data.toList).toArray⟩, .bool false]) ∧ Below w.heap.size w w' := by
  obtain ⟨H, hH⟩ : ∃ H, w.heap.size = H := ⟨_, rfl⟩
  have HH := Lib.hid hH
  have HT := Lib.hid hT
  have HC9 := Lib.hid hc9
  have en : (n == 0) = false := by simpa using hn
  clear hH hT hc9 hn
  unfold tokAgg
  go_enter Tryz.func9, Tryz.ntmps9
  go_wp2_with fail
  rw [HH.out]
  generalize hw1 : World.alloc _ _ = w1
  have hwb := wrB_mk HH.out hw1
  have hz1 : H + 1 < w1.heap.size := lt_of_heap hwb.b1
  have c2 : w1.cell? ⟨H, 2, none⟩ = some (.int .i64 n) := cell_of_heap hwb.b0 rfl
  have d0 : w1.cell? ⟨H + 1, 0, none⟩ = some (.int .u8 4) := cell_of_heap hwb.b1 rfl
  have d1 : w1.cell? ⟨H + 1, 1, none⟩ = some (.bool false) := cell_of_heap hwb.b1 rfl
  have d2 : w1.cell? ⟨H + 1, 2, none⟩ = some (.int .i64 0) := cell_of_heap hwb.b1 rfl
  have d3 : w1.cell? ⟨H + 1, 3, none⟩ = some (.string t) := cell_of_heap hwb.b1 rfl
  have HB := Lib.hid hwb.below
  have HT1 := Lib.hid (tabs_below HT.out hwb.below (by have := HH.out; omega))
  have hz11 : 10 ≤ w1.heap.size := by have := HH.out; omega
  have HC := Lib.hid ((hwb.below.cell (p := ⟨9, 15, none⟩) (by have := HH.out; show 9 < H; omega)).trans HC9.out)
  have hz0 : H < w1.heap.size := by omega
  clear hw1 hwb
  go_region_with (go_at_call 19; refine (printF_50 t _ hs (by exact HT1.out) (by simpa using hz11) (by exact HC.out)).mono ?_; rintro e w5 ⟨rfl, hb5⟩; have hz5 := hb5.size; have c2' := (hb5.cell (p := ⟨H, 2, none⟩) hz0).trans c2)
  all_goals (
    have hb : Below H w w5 := HB.out.trans ((below_undrew hb5 : Below w1.heap.size w1 w5).mono (Nat.le_of_lt hz0))
    have HB5 := Lib.hid hb
    clear hb hb5 c2 c2' d0 d1 d2 d3
    go_wp2_with fail
    refine bodyPost_ret (v := .tuple #[.string ⟨(prf t.data.toList).toArray⟩, .bool false]) (by simp [results, Tryz.results9, go_sem]) rfl ⟨rfl, ?_⟩
    rw [HH.out]; exact HB5.out)

set_option maxRecDepth 100000 in
set_option maxHeartbeats 4000000 in
/-- a number -/
theorem writtenF_num (t : ByteArray) (n a : Int) (h0 : -9223372036854775808 ≤ n) (h1 : n ≤ 9223372036854775807) (w : World) (htab : Lib.TabIs Tryz.prog w "internal/strconv.uint64pow10" .u64 Lib.pow10Tab) (h16 : 10 ≤ w.heap.size) :
    Calls Tryz.prog 9 #[tokAgg 2 t n a] w fun e w' => e = .returned (.tuple #[.string ⟨(Lib.itoa n).toArray⟩, .bool (decide (0 ≤ n) && t.toList.isEmpty)]) ∧ Below w.heap.size w w' := by
  obtain ⟨H, hH⟩ : ∃ H, w.heap.size = H := ⟨_, rfl⟩
  have HH := Lib.hid hH
  have HT := Lib.hid htab
  clear hH htab
  unfold tokAgg
  go_enter Tryz.func9, Tryz.ntmps9
  go_wp2_with fail
  rw [HH.out]
  generalize hw1 : World.alloc _ _ = w1
  have hwb := wrB_mk HH.out hw1
  have hz1 : H < w1.heap.size := lt_of_heap hwb.b0
  have c1 : w1.cell? ⟨H, 1, none⟩ = some (.string t) := cell_of_heap hwb.b0 rfl
  have c2 : w1.cell? ⟨H, 2, none⟩ = some (.int .i64 n) := cell_of_heap hwb.b0 rfl
  have HB := Lib.hid hwb.below
  have HT1 : Hid (Lib.TabIs Tryz.prog w1 "internal/strconv.uint64pow10" .u64 Lib.pow10Tab) := Lib.hid (var?_below hwb.below globP10 (by have := HH.out; omega) HT.out)
  clear hw1 hwb
  cases hd : decide (0 ≤ n)
  · first | (go_region_with (go_at_call 17; refine (format_49 n h0 h1 _ (by exact HT1.out)).mono ?_; rintro e w5 ⟨rfl, hb5⟩; have c2' := (hb5.cell (p := ⟨H, 2, none⟩) hz1).trans c2)) | fail
    all_goals (
      have hb : Below H w w5 := HB.out.trans ((by first | exact hb5 | exact below_undrew hb5 | exact below_undrewN hb5 : Below w1.heap.size w1 w5).mono (Nat.le_of_lt hz1))
      have HB5 := Lib.hid hb
      clear hb hb5 c1 c2 c2'
      go_wp2_with fail
      refine bodyPost_ret (v := .tuple #[.string ⟨(Lib.itoa n).toArray⟩, .bool false]) (by simp [results, Tryz.results9, go_sem]) rfl ⟨by rw [hd, Bool.false_and], ?_⟩
      rw [HH.out]; exact HB5.out)
  · go_region_held3 (fun w' => w'.cell? ⟨H, 1, none⟩ = some (.string t) ∧ w'.cell? ⟨H, 2, none⟩ = some (.int .i64 n))
      (first | go_keep | (exact ⟨(hb5.cell (p := ⟨H, 1, none⟩) hz1).trans c1, (hb5.cell (p := ⟨H, 2, none⟩) hz1).trans c2⟩))
      (first | (go_at_call 17; refine (format_49 n h0 h1 _ (by exact HT1.out)).mono ?_; rintro e w5 ⟨rfl, hb5⟩))
    have hb : Below H w w5 := HB.out.trans ((by first | exact hb5 | exact below_undrew hb5 | exact below_undrewN hb5 : Below w1.heap.size w1 w5).mono (Nat.le_of_lt hz1))
    have HB5 := Lib.hid hb
    clear hb hb5 c1 c2
    go_wp2_with fail
    refine bodyPost_ret (v := .tuple #[.string ⟨(Lib.itoa n).toArray⟩, .bool t.toList.isEmpty]) (by simp [results, Tryz.results9, go_sem]) rfl ⟨by rw [hd, Bool.true_and], ?_⟩
    rw [HH.out]; exact HB5.out
end Go.Proofs.YtpjfkfbijimliaaGreatDoor
