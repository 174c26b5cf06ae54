import Derived.Test.YtolikaginhjbhaaDoorJ
import Derived.Test.YtolikaginhjbhaaDoorK
/- The reference's Check of data. -/
namespace Go.Proofs.YtolikaginhjbhaaDoor
open Go.RowKit Go.Pen
attribute [local go_sem] Oper.semAt_some

theorem te_t {t : ByteArray} (h : (!t.toList.isEmpty) = true) : ¬ t.toList = [] := fun e => by rw [e] at h; cases h
theorem te_f {t : ByteArray} (h : (!t.toList.isEmpty) = false) : t.toList = [] := by
  cases hl : t.toList
  · rfl
  · rw [hl] at h; cases h
theorem neg_t {r : Int} {b : Bool} (h : decide (r < 0) = !b) (hr : r < 0) : (!b) = true := by rw [← h]; exact decide_eq_true hr
theorem neg_f {r : Int} {b : Bool} (h : decide (r < 0) = !b) (hr : 0 ≤ r) : (!b) = false := by rw [← h]; exact decide_eq_false (by omega)
theorem chk_finI {d : Dat} {m c B : Nat} {w W : World} (h : chkD d = m) (h2 : chkD d = c) (h3 : Below B w W) : Ending.returned (.int .i64 (m : Int)) = Ending.returned (.int .i64 (c : Int)) ∧ Below B w W := ⟨by rw [h.symm.trans h2], h3⟩
theorem one_below (w : World) (a : Obj) : Below w.heap.size w (w.alloc a) := (Below.refl _ _).alloc (Nat.le_refl _) _

end Go.Proofs.YtolikaginhjbhaaDoor
