/- WholeWords 36, WholeRow 37, WholeTime 17: what was lent is whole. -/
import Derived.Test.YtpoilgeffpedoaaPb
namespace Go.Proofs.Ytpoilgeffpedoaa
open Go.RowKit Go.Pen
attribute [local go_sem ↓] Go.wp_at_zero Go.wp_at_succ

/-- a lent slice of words -/
def LentW (w : World) (lo g : Nat) (xs : List Int) : Prop := w.ownsRow lo 111 1 (.slice (some ⟨g, 0, none⟩) (xs.length + 2) (xs.length + 2)) (xs.length + 2) (wordCells xs ++ wordTail)
def LentR (w : World) (lo g : Nat) (xs : List Dat) : Prop := w.ownsRow lo 89 4 (.slice (some ⟨g, 0, none⟩) (xs.length + 2) (xs.length + 2)) (xs.length + 2) (rowCells xs ++ rowTail)

theorem LentW.head {w : World} {lo g : Nat} {xs : List Int} (h : LentW w lo g xs) : w.ownsRow lo 111 1 (.slice (some ⟨g, 0, none⟩) xs.length (xs.length + 2)) xs.length (wordCells xs) := ownsRow_head h (wordCells_len xs)
theorem LentR.head {w : World} {lo g : Nat} {xs : List Dat} (h : LentR w lo g xs) : w.ownsRow lo 89 4 (.slice (some ⟨g, 0, none⟩) xs.length (xs.length + 2)) xs.length (rowCells xs) := ownsRow_head h (rowCells_len xs)
theorem LentW.at {w : World} {lo g : Nat} {xs : List Int} (h : LentW w lo g xs) : WordsAt w (.slice (some ⟨g, 0, none⟩) xs.length (xs.length + 2)) xs := wordsAt_of_owns h.head
theorem LentR.at {w : World} {lo g : Nat} {xs : List Dat} (h : LentR w lo g xs) : RowAt w (.slice (some ⟨g, 0, none⟩) xs.length (xs.length + 2)) xs := rowAt_of_owns h.head
theorem LentW.tail {w : World} {lo g : Nat} {xs : List Int} (h : LentW w lo g xs) : w.cell? ⟨g, xs.length, none⟩ = some (.int .u32 771) ∧ w.cell? ⟨g, xs.length + 1, none⟩ = some (.int .u32 772) := by
  have hc := (ownsRow_heap h).2.2.2
  have hl := wordCells_len xs
  refine ⟨hc _ _ ?_, hc _ _ ?_⟩
  · rw [List.getElem?_append_right (by omega), show xs.length - (wordCells xs).length = 0 by omega]; rfl
  · rw [List.getElem?_append_right (by omega), show xs.length + 1 - (wordCells xs).length = 1 by omega]; rfl
theorem LentR.tail {w : World} {lo g : Nat} {xs : List Dat} (h : LentR w lo g xs) (j : Nat) (x : Value) (hx : rowTail[j]? = some x) : w.cell? ⟨g, xs.length * 4 + j, none⟩ = some x := by
  have hc := (ownsRow_heap h).2.2.2
  have hl := rowCells_len xs
  refine hc _ _ ?_
  rw [List.getElem?_append_right (by omega), show xs.length * 4 + j - (rowCells xs).length = j by omega]; exact hx

set_option maxRecDepth 100000 in
set_option maxHeartbeats 2000000 in
theorem whole_36 (lo g : Nat) (v : Value) (xs : List Int) (w : World) (hx : LentW w lo g xs) (hv : WordsAt w v xs) (hn : xs.length ≤ 1000000) :
    Calls Try.prog 36 #[.slice (some ⟨g, 0, none⟩) xs.length (xs.length + 2), v] w fun e w' => e = .returned (.bool true) ∧ ∃ k, w' = w.drewN k := by
  obtain ⟨t0, t1⟩ := hx.tail
  have hw : IntKind.i64.wrap ((xs.length : Int) + 2) = (xs.length : Int) + 2 := IntWalk.i64_in _ (by omega)
  have hw1 : IntKind.i64.wrap ((xs.length : Int) + 1) = (xs.length : Int) + 1 := IntWalk.i64_in _ (by omega)
  have HX := Lib.hid hx.at
  have HV := Lib.hid hv
  obtain ⟨n, en⟩ : ∃ n, n = xs.length := ⟨_, rfl⟩
  have HN : Hid (xs.length ≤ 1073741824) := show xs.length ≤ 1073741824 by omega
  rw [← en] at hn hw hw1 HX t0 t1 ⊢
  have EN := Lib.hid en
  clear hx hv en
  have b1 : (0 : Int) ≤ (n : Int) := by omega
  go_enter Try.func36, Try.ntmps36
  go_wp2_with (go_at_call 53; refine (sameWords_yes _ _ xs _ HX.out HV.out HN.out).mono ?_; rintro e w' ⟨rfl, nq, rfl⟩)
  go_ret
  exact ⟨rfl, _, rfl⟩

set_option maxRecDepth 100000 in
set_option maxHeartbeats 2000000 in
theorem whole_37 (lo g : Nat) (v : Value) (xs : List Dat) (w : World) (hx : LentR w lo g xs) (hv : RowAt w v xs) (hn : xs.length ≤ 1000000) :
    Calls Try.prog 37 #[.slice (some ⟨g, 0, none⟩) xs.length (xs.length + 2), v] w fun e w' => e = .returned (.bool true) ∧ ∃ k, w' = w.drewN k := by
  have t0 := hx.tail 0 _ rfl
  have t1 := hx.tail 1 _ rfl
  have t2 := hx.tail 2 _ rfl
  have t3 := hx.tail 3 _ rfl
  have t4 := hx.tail 4 _ rfl
  have t5 := hx.tail 5 _ rfl
  have t6 := hx.tail 6 _ rfl
  have t7 := hx.tail 7 _ rfl
  have hw : IntKind.i64.wrap ((xs.length : Int) + 2) = (xs.length : Int) + 2 := IntWalk.i64_in _ (by omega)
  have hw1 : IntKind.i64.wrap ((xs.length : Int) + 1) = (xs.length : Int) + 1 := IntWalk.i64_in _ (by omega)
  have eq0 : ∀ z, (Op.equalIn 10000 89 (.agg #[.int .u8 91, .bool false, .int .i64 0, .string ⟨#[]⟩]) (.agg #[.int .u8 91, .bool false, .int .i64 0, .string ⟨#[]⟩])).run Try.prog z = .ok true z := fun _ => by kernel_rfl
  have eq1 : ∀ z, (Op.equalIn 10000 89 (.agg #[.int .u8 92, .bool false, .int .i64 0, .string ⟨#[]⟩]) (.agg #[.int .u8 92, .bool false, .int .i64 0, .string ⟨#[]⟩])).run Try.prog z = .ok true z := fun _ => by kernel_rfl
  have HX := Lib.hid hx.at
  have HV := Lib.hid hv
  obtain ⟨n, en⟩ : ∃ n, n = xs.length := ⟨_, rfl⟩
  have HN : Hid (xs.length ≤ 1073741824) := show xs.length ≤ 1073741824 by omega
  rw [← en] at hn hw hw1 HX t0 t1 t2 t3 t4 t5 t6 t7 ⊢
  have EN := Lib.hid en
  clear hx hv en
  have b1 : (0 : Int) ≤ (n : Int) := by omega
  have t4' : w.cell? ⟨g, (n + 1) * 4, none⟩ = some (.int .u8 92) := by rw [show (n + 1) * 4 = n * 4 + 4 by omega]; exact t4
  have t5' : w.cell? ⟨g, (n + 1) * 4 + 1, none⟩ = some (.bool false) := by rw [show (n + 1) * 4 + 1 = n * 4 + 5 by omega]; exact t5
  have t6' : w.cell? ⟨g, (n + 1) * 4 + 2, none⟩ = some (.int .i64 0) := by rw [show (n + 1) * 4 + 2 = n * 4 + 6 by omega]; exact t6
  have t7' : w.cell? ⟨g, (n + 1) * 4 + 3, none⟩ = some (.string ⟨#[]⟩) := by rw [show (n + 1) * 4 + 3 = n * 4 + 7 by omega]; exact t7
  rw [Nat.add_zero] at t0
  clear t4 t5 t6 t7
  go_enter Try.func37, Try.ntmps37
  go_wp2_with (go_at_call 54; refine (sameRow_yes _ _ xs _ HX.out HV.out HN.out).mono ?_; rintro e w' ⟨rfl, nq, rfl⟩)
  go_ret
  exact ⟨rfl, _, rfl⟩
end Go.Proofs.Ytpoilgeffpedoaa
