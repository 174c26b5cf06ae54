import Derived.Test.YtpjfkfbijimliaaGreatDoorU
namespace Go.Proofs.YtpjfkfbijimliaaGreatDoor
open Go.RowKit Go.Pen

def tokAgg (k : Int) (t : ByteArray) (n a : Int) : Value := .agg #[.int .u8 k, .string t, .int .i64 n, .int .i64 a]

/-- the two blocks that written makes first -/
structure WrB (w w1 : World) (H : Nat) (k : Int) (t : ByteArray) (n a : Int) : Prop where
  below : Below H w w1
  b0 : w1.heap[H]? = some (.cells #[.int .u8 k, .string t, .int .i64 n, .int .i64 a] 34 (0, 0))
  b1 : w1.heap[H + 1]? = some (.cells #[.int .u8 4, .bool false, .int .i64 0, .string t] 43 (0, 0))

theorem wrB_mk {w w1 : World} {H : Nat} {k : Int} {t : ByteArray} {n a : Int} (hH : w.heap.size = H) (hw1 : (w.alloc (.cells #[.int .u8 k, .string t, .int .i64 n, .int .i64 a] 34)).alloc (.cells #[.int .u8 4, .bool false, .int .i64 0, .string t] 43) = w1) : WrB w w1 H k t n a := by
  subst hH hw1
  refine ⟨((Below.refl _ _).alloc (Nat.le_refl _) _).alloc (by simp) _, ?_, ?_⟩
  · rw [Below.heap_alloc _ _ _ (by simp)]; exact heap_alloc_new w _
  · have hz : (w.alloc (.cells #[.int .u8 k, .string t, .int .i64 n, .int .i64 a] 34)).heap.size = w.heap.size + 1 := by simp
    rw [← hz]; exact heap_alloc_new _ _

set_option maxRecDepth 100000 in
set_option maxHeartbeats 4000000 in
/-- a word -/
theorem written_word (t : ByteArray) (a : Int) (w : World) :
    Calls Tryz.prog 9 #[tokAgg 1 t 0 a] w fun e w' => e = .returned (.tuple #[.string t, .bool (wordB t.data.toList)]) ∧ Below w.heap.size w w' := by
  obtain ⟨H, hH⟩ : ∃ H, w.heap.size = H := ⟨_, rfl⟩
  have HH := Lib.hid hH
  clear hH
  unfold tokAgg
  go_enter Tryz.func9, Tryz.ntmps9
  go_wp2_with fail
  rw [HH.out]
  generalize hw1 : World.alloc _ _ = w1
  have hwb := wrB_mk HH.out hw1
  have hz1 : H < w1.heap.size := lt_of_heap hwb.b0
  have c1 : w1.cell? ⟨H, 1, none⟩ = some (.string t) := cell_of_heap hwb.b0 rfl
  have c2 : w1.cell? ⟨H, 2, none⟩ = some (.int .i64 0) := cell_of_heap hwb.b0 rfl
  have HB := Lib.hid hwb.below
  clear hw1 hwb
  go_region_held3 (fun w' => w'.cell? ⟨H, 1, none⟩ = some (.string t) ∧ w'.cell? ⟨H, 2, none⟩ = some (.int .i64 0))
    (first | go_keep | (exact ⟨(hb5.cell (p := ⟨H, 1, none⟩) hz1).trans c1, (hb5.cell (p := ⟨H, 2, none⟩) hz1).trans c2⟩))
    (first | (go_at_call 18; refine (word_18 t _).mono ?_; rintro e w5 ⟨rfl, hb5⟩))
  have hb : Below H w w5 := HB.out.trans ((by first | exact hb5 | exact below_undrew hb5 | exact below_undrewN hb5 : Below w1.heap.size w1 w5).mono (Nat.le_of_lt hz1))
  have HB5 := Lib.hid hb
  clear hb hb5 c1 c2
  go_wp2_with fail
  refine bodyPost_ret (v := .tuple #[.string t, .bool (wordB t.data.toList)]) (by simp [results, Tryz.results9, go_sem]) rfl ⟨rfl, ?_⟩
  rw [HH.out]; exact HB5.out

set_option maxRecDepth 100000 in
set_option maxHeartbeats 4000000 in
/-- a sign -/
theorem written_sign (t : ByteArray) (a : Int) (w : World) (hne : t.toList.isEmpty = false) (hsp : Spaces w) (h11 : 10 ≤ w.heap.size) :
    Calls Tryz.prog 9 #[tokAgg 4 t 0 a] w fun e w' => e = .returned (.tuple #[.string t, .bool (decide (sgn t.data.toList = t.data.toList))]) ∧ Below w.heap.size w w' := by
  obtain ⟨H, hH⟩ : ∃ H, w.heap.size = H := ⟨_, rfl⟩
  have HH := Lib.hid hH
  have HS := Lib.hid hsp
  clear hH hsp
  unfold tokAgg
  go_enter Tryz.func9, Tryz.ntmps9
  go_wp2_with fail
  rw [HH.out]
  generalize hw1 : World.alloc _ _ = w1
  have hb1 : Below H w w1 := by
    rw [← hw1]
    exact (((Below.refl _ _).alloc (by have := HH.out; omega) _).alloc (by have := HH.out; simp; omega) _).alloc (by have := HH.out; simp; omega) _
  have e0 : w1.heap[H]? = some (.cells #[.int .u8 4, .string t, .int .i64 0, .int .i64 a] 34 (0, 0)) := by
    rw [← hw1, ← HH.out, Below.heap_alloc _ _ _ (by simp; omega), Below.heap_alloc _ _ _ (by simp)]
    exact heap_alloc_new w _
  have e2 : LexIs w1 (H + 2) t 0 := by
    rw [← hw1, ← HH.out]
    have hz : ((w.alloc (.cells #[.int .u8 4, .string t, .int .i64 0, .int .i64 a] 34)).alloc (.cells #[.int .u8 4, .bool false, .int .i64 0, .string t] 43)).heap.size = w.heap.size + 2 := by simp
    unfold LexIs
    rw [← hz]
    exact heap_alloc_new _ _
  have hz1 : H < w1.heap.size := lt_of_heap e0
  have c1 : w1.cell? ⟨H, 1, none⟩ = some (.string t) := cell_of_heap e0 rfl
  have c2 : w1.cell? ⟨H, 2, none⟩ = some (.int .i64 0) := cell_of_heap e0 rfl
  have HB := Lib.hid hb1
  have HE := Lib.hid e2
  have HS1 : Hid (Spaces w1) := Lib.hid (var?_below hb1 glob3 (by have := HH.out; omega) HS.out)
  clear hw1 hb1 e0 e2
  go_region_held3 (fun w' => w'.cell? ⟨H, 1, none⟩ = some (.string t) ∧ w'.cell? ⟨H, 2, none⟩ = some (.int .i64 0))
    (first | go_keep | (exact ⟨(hb5.cell (p := ⟨H, 1, none⟩) hz1).trans c1, (hb5.cell (p := ⟨H, 2, none⟩) hz1).trans c2⟩))
    (first | (go_at_call 21; refine (sign_39 (H + 2) t 0 _ (by exact HE.out) (Nat.zero_le _) (by exact HS1.out)).mono ?_; rintro e w5 ⟨rfl, hb5⟩))
  have hb : Below H w w5 := HB.out.trans ((below_undrew hb5 : Below w1.heap.size w1 w5).mono (Nat.le_of_lt hz1))
  have HB5 := Lib.hid hb
  clear hb hb5 c1 c2
  go_wp2_with fail
  refine bodyPost_ret (v := .tuple #[.string t, .bool (sgn t.data.toList == t.toList)]) (by simp [results, Tryz.results9, go_sem]) rfl ⟨?_, ?_⟩
  · have htl : t.toList = t.data.toList := ByteArray.toList_eq ..
    have : (sgn t.data.toList == t.data.toList) = decide (sgn t.data.toList = t.data.toList) := by rw [Bool.eq_iff_iff]; simp
    rw [htl, this]
  · rw [HH.out]; exact HB5.out

set_option maxRecDepth 100000 in
set_option maxHeartbeats 4000000 in
/-- a text -/
theorem written_text (t : ByteArray) (a : Int) (w : World) (hs : t.size ≤ 9223372036854775807) (hT : Lib.Utf8Tabs 0 1 w) (h11 : 10 ≤ w.heap.size) (hp : ∀ c ∈ t.data.toList, plainCh c = true) :
    Calls Tryz.prog 9 #[tokAgg 3 t 0 a] w fun e w' => e = .returned (.tuple #[.string ⟨(prt t.data.toList).toArray⟩, .bool (decide (chkE t.data.toList = 0))]) ∧ Below w.heap.size w w' := by
  obtain ⟨H, hH⟩ : ∃ H, w.heap.size = H := ⟨_, rfl⟩
  have HH := Lib.hid hH
  have HT := Lib.hid hT
  have HP := Lib.hid hp
  clear hH hT hp
  unfold tokAgg
  go_enter Tryz.func9, Tryz.ntmps9
  go_wp2_with fail
  rw [HH.out]
  generalize hw1 : World.alloc _ _ = w1
  have hwb := wrB_mk HH.out hw1
  have hz1 : H + 1 < w1.heap.size := lt_of_heap hwb.b1
  have c2 : w1.cell? ⟨H, 2, none⟩ = some (.int .i64 0) := cell_of_heap hwb.b0 rfl
  have d0 : w1.cell? ⟨H + 1, 0, none⟩ = some (.int .u8 4) := cell_of_heap hwb.b1 rfl
  have d1 : w1.cell? ⟨H + 1, 1, none⟩ = some (.bool false) := cell_of_heap hwb.b1 rfl
  have d2 : w1.cell? ⟨H + 1, 2, none⟩ = some (.int .i64 0) := cell_of_heap hwb.b1 rfl
  have d3 : w1.cell? ⟨H + 1, 3, none⟩ = some (.string t) := cell_of_heap hwb.b1 rfl
  have HB := Lib.hid hwb.below
  have HT1 := Lib.hid (tabs_below HT.out hwb.below (by have := HH.out; omega))
  have hz11 : 10 ≤ w1.heap.size := by have := HH.out; omega
  have hz0 : H < w1.heap.size := by omega
  clear hw1 hwb
  go_region_held3 (fun w' => w'.cell? ⟨H, 2, none⟩ = some (.int .i64 0) ∧ w'.cell? ⟨H + 1, 0, none⟩ = some (.int .u8 4) ∧ w'.cell? ⟨H + 1, 1, none⟩ = some (.bool false) ∧ w'.cell? ⟨H + 1, 2, none⟩ = some (.int .i64 0) ∧ w'.cell? ⟨H + 1, 3, none⟩ = some (.string t))
    (first | go_keep | with_reducible exact HS5.out | with_reducible exact HS6.out)
    (first | (go_at_call 19; refine (print_50 t _ hs (by exact HT1.out) (by simpa using hz11) HP.out).mono ?_; rintro e w5 ⟨rfl, hb5⟩; have hz5 := hb5.size; have HS5 := Lib.hid (And.intro ((hb5.cell (p := ⟨H, 2, none⟩) hz0).trans c2) (And.intro ((hb5.cell (p := ⟨H + 1, 0, none⟩) hz1).trans d0) (And.intro ((hb5.cell (p := ⟨H + 1, 1, none⟩) hz1).trans d1) (And.intro ((hb5.cell (p := ⟨H + 1, 2, none⟩) hz1).trans d2) ((hb5.cell (p := ⟨H + 1, 3, none⟩) hz1).trans d3)))))) | (go_at_call 20; refine (check_51 t _ hs (by exact tabs_below HT1.out (below_undrew hb5) (by simpa using hz11)) (by simp at hz5; omega)).mono ?_; rintro e w6 ⟨rfl, hb6⟩; have HS6 := Lib.hid (And.intro ((hb6.cell (p := ⟨H, 2, none⟩) (Nat.lt_of_lt_of_le hz0 hz5)).trans HS5.out.1) (And.intro ((hb6.cell (p := ⟨H + 1, 0, none⟩) (Nat.lt_of_lt_of_le hz1 hz5)).trans HS5.out.2.1) (And.intro ((hb6.cell (p := ⟨H + 1, 1, none⟩) (Nat.lt_of_lt_of_le hz1 hz5)).trans HS5.out.2.2.1) (And.intro ((hb6.cell (p := ⟨H + 1, 2, none⟩) (Nat.lt_of_lt_of_le hz1 hz5)).trans HS5.out.2.2.2.1) ((hb6.cell (p := ⟨H + 1, 3, none⟩) (Nat.lt_of_lt_of_le hz1 hz5)).trans HS5.out.2.2.2.2)))))))
  have hb : Below H w w6 := HB.out.trans (((below_undrew hb5).trans (hb6.mono (by exact hz5)) : Below w1.heap.size w1 w6).mono (Nat.le_of_lt hz0))
  have HB5 := Lib.hid hb
  clear hb hb5 hb6 c2 d0 d1 d2 d3 HS5 HS6
  go_wp2_with fail
  obtain ⟨X, hX⟩ : ∃ X, chkE t.data.toList = X := ⟨_, rfl⟩
  rw [hX]
  refine bodyPost_ret (v := .tuple #[.string ⟨(prt t.data.toList).toArray⟩, .bool ((X : Int) == 0)]) (by simp [results, Tryz.results9, go_sem]) rfl ⟨?_, ?_⟩
  · have : ((X : Int) == 0) = decide (X = 0) := by rw [Bool.eq_iff_iff]; simp
    rw [this]
  · rw [HH.out]; exact HB5.out
end Go.Proofs.YtpjfkfbijimliaaGreatDoor
