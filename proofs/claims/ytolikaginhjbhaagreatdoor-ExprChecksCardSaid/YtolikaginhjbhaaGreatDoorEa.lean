import Derived.Test.YtolikaginhjbhaaGreatDoorR
/- datum's small functions; of; apply. -/
namespace Go.Proofs.YtolikaginhjbhaaGreatDoor
open Go.RowKit Go.Pen Go.Shelf
attribute [local go_sem ↓] Go.wp_at_zero Go.wp_at_succ
attribute [local go_sem] Oper.semAt_some

/-- a row of data in memory -/
def DatsOn (S : Nat → Prop) (w : World) (l : List Dat) (v : Value) : Prop :=
  ∃ a c, v = .slice a l.length c ∧ (a = none → c = 0) ∧ (l ≠ [] → ∃ b o, a = some ⟨b, o, none⟩ ∧ S b ∧ ∀ i d, l[i]? = some d →
    w.cell? ⟨b, o + i * 4, none⟩ = some (.int .u8 d.kind) ∧ w.cell? ⟨b, o + i * 4 + 1, none⟩ = some (.bool d.bool) ∧ w.cell? ⟨b, o + i * 4 + 2, none⟩ = some (.int .i64 d.int) ∧ w.cell? ⟨b, o + i * 4 + 3, none⟩ = some (.string d.text))
theorem DatsOn.below {S : Nat → Prop} {w w' : World} {l : List Dat} {v : Value} (h : DatsOn S w l v) (hb : Below w.heap.size w w') : DatsOn S w' l v := by
  obtain ⟨a, c, hv, hn, h⟩ := h
  refine ⟨a, c, hv, hn, fun hne => ?_⟩
  obtain ⟨b, o, ha, hS, hc⟩ := h hne
  exact ⟨b, o, ha, hS, fun i d hd => by
    obtain ⟨h0, h1, h2, h3⟩ := hc i d hd
    exact ⟨cell_keep hb h0, cell_keep hb h1, cell_keep hb h2, cell_keep hb h3⟩⟩

set_option maxRecDepth 100000 in
set_option maxHeartbeats 400000 in
theorem null_207 (w : World) : Calls Tryz.prog 207 #[] w fun ev w' => ev = .returned nul.agg ∧ Below w.heap.size w w' := by
  go_enter Tryz.func207, Tryz.ntmps207
  go_wp2_with fail
  refine bodyPost_ret (results_cell_row rfl _ _ w.heap.size 25 _ (0, 0) _ rfl (heap_alloc_new w _) Tryz.underlying25 rfl (by kernel_rfl)) rfl ?_
  exact ⟨rfl, one_below _ _⟩

set_option maxRecDepth 100000 in
set_option maxHeartbeats 400000 in
theorem number_162 (n : Int) (w : World) : Calls Tryz.prog 162 #[.int .i64 n] w fun ev w' => ev = .returned (num n).agg ∧ Below w.heap.size w w' := by
  go_enter Tryz.func162, Tryz.ntmps162
  go_wp2_with fail
  refine bodyPost_ret (results_cell_row rfl _ _ w.heap.size 25 _ (0, 0) _ rfl (heap_alloc_new w _) Tryz.underlying25 rfl (by kernel_rfl)) rfl ?_
  exact ⟨rfl, one_below _ _⟩

set_option maxRecDepth 100000 in
set_option maxHeartbeats 400000 in
theorem boolean_166 (b : Bool) (w : World) : Calls Tryz.prog 166 #[.bool b] w fun ev w' => ev = .returned (boo b).agg ∧ Below w.heap.size w w' := by
  go_enter Tryz.func166, Tryz.ntmps166
  go_wp2_with fail
  refine bodyPost_ret (results_cell_row rfl _ _ w.heap.size 25 _ (0, 0) _ rfl (heap_alloc_new w _) Tryz.underlying25 rfl (by kernel_rfl)) rfl ?_
  exact ⟨rfl, one_below _ _⟩

set_option maxRecDepth 100000 in
set_option maxHeartbeats 400000 in
theorem text_174 (t : ByteArray) (w : World) : Calls Tryz.prog 174 #[.string t] w fun ev w' => ev = .returned (txt t).agg ∧ Below w.heap.size w w' := by
  go_enter Tryz.func174, Tryz.ntmps174
  go_wp2_with fail
  refine bodyPost_ret (results_cell_row rfl _ _ w.heap.size 25 _ (0, 0) _ rfl (heap_alloc_new w _) Tryz.underlying25 rfl (by kernel_rfl)) rfl ?_
  exact ⟨rfl, one_below _ _⟩

/-- a datum's cells that are written over -/
def setRow4 (w : World) (b : Nat) (v0 v1 v2 v3 : Value) : World := (((w.setCell ⟨b, 0, none⟩ v0).setCell ⟨b, 1, none⟩ v1).setCell ⟨b, 2, none⟩ v2).setCell ⟨b, 3, none⟩ v3
theorem setRow4_at {w : World} {b : Nat} {c0 c1 c2 c3 v0 v1 v2 v3 : Value} {t : TypeId} {f : Nat × Nat} (h : w.heap[b]? = some (.cells #[c0, c1, c2, c3] t f)) : (setRow4 w b v0 v1 v2 v3).heap[b]? = some (.cells #[v0, v1, v2, v3] t f) := by
  have h := heap_set_same (o := 3) (v := v3) (heap_set_same (o := 2) (v := v2) (heap_set_same (o := 1) (v := v1) (heap_set_same (o := 0) (v := v0) h)))
  simpa [setRow4] using h
theorem setRow4_ne {w : World} {b g : Nat} {v0 v1 v2 v3 : Value} (h : g ≠ b) : (setRow4 w b v0 v1 v2 v3).heap[g]? = w.heap[g]? := by
  simp only [setRow4, heap_set_ne h]
theorem setRow4_below {B : Nat} {w w' : World} {b : Nat} {v0 v1 v2 v3 : Value} (h : Below B w w') (hb : B ≤ b) : Below B w (setRow4 w' b v0 v1 v2 v3) :=
  (((h.setCell (p := ⟨b, 0, none⟩) hb _).setCell (p := ⟨b, 1, none⟩) hb _).setCell (p := ⟨b, 2, none⟩) hb _).setCell (p := ⟨b, 3, none⟩) hb _

/-- an answer, and the number of its error -/
def resT (r : Res) : Value := .tuple #[r.1.agg, .int .u16 r.2]

set_option maxRecDepth 100000 in
set_option maxHeartbeats 400000 in
theorem whole_168 (n : Int) (b : Bool) (w : World) : Calls Tryz.prog 168 #[.int .i64 n, .bool b] w fun ev w' => ev = .returned (resT (if b then bad 10 else (num n, 0))) ∧ Below w.heap.size w w' := by
  cases b
  · go_enter Tryz.func168, Tryz.ntmps168
    go_wp2_with (go_at_call 162; refine (number_162 n _).mono ?_; rintro ev w1 ⟨rfl, hb1⟩; have t1 := one_at hb1; unfold Dat.agg num; have z0 := cell_of_heap (o := 0) t1 rfl; have g0 := frozen_of_heap (o := 0) t1; have z1 := cell_of_heap (o := 1) t1 rfl; have g1 := frozen_of_heap (o := 1) t1; have z2 := cell_of_heap (o := 2) t1 rfl; have g2 := frozen_of_heap (o := 2) t1; have z3 := cell_of_heap (o := 3) t1 rfl; have g3 := frozen_of_heap (o := 3) t1; have T1 := Lib.hid t1; have HB1 := Lib.hid ((one_below _ _).trans (hb1.mono (by simp))); clear t1 hb1)
    refine bodyPost_ret (results_row_tmp rfl _ _ w.heap.size 25 _ (0, 0) _ rfl (setRow4_at T1.out) Tryz.underlying25 rfl (by kernel_rfl)) rfl ?_
    exact ⟨rfl, setRow4_below HB1.out (Nat.le_refl _)⟩
  · go_enter Tryz.func168, Tryz.ntmps168
    go_wp2_with fail
    refine bodyPost_ret (results_row_tmp rfl _ _ w.heap.size 25 _ (0, 0) _ rfl (heap_alloc_new w _) Tryz.underlying25 rfl (by kernel_rfl)) rfl ?_
    exact ⟨rfl, one_below _ _⟩
end Go.Proofs.YtolikaginhjbhaaGreatDoor
