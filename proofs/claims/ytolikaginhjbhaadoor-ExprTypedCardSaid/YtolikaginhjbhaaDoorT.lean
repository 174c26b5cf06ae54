import Derived.Test.YtolikaginhjbhaaDoorS
import Derived.Test.YtolikaginhjbhaaDoorO
/- The reference's Turn. -/
namespace Go.Proofs.YtolikaginhjbhaaDoor
open Go.RowKit Go.Pen Go.Shelf
attribute [local go_sem] Oper.semAt_some

def T19 (cols : List Int) (e : ET) (w : World) (ev : Ending) (w' : World) : Prop :=
  ∃ (sa : Option Addr) (sn sc : Nat), ev = .returned (.tuple #[(rTurn cols e).agg (.slice sa sn sc), .int .i64 (rTurnN cols e)]) ∧ (rTurn cols e).On (Btw w.heap.size w'.heap.size) w' (.slice sa sn sc) ∧ Below w.heap.size w w'
theorem t19_no {cols : List Int} {e : ET} {w w' : World} (h : ¬ (e.may okD = true ∧ e.within cols.length = true ∧ e.tok cols = true)) (hb : Below w.heap.size w w') : T19 cols e w (.returned (.tuple #[.agg #[.int .u8 0, .slice none 0 0, .int .i64 0, .int .u8 0, .bool false, .int .i64 0, .string ⟨#[]⟩], .int .i64 30])) w' := by
  obtain ⟨h1, h2⟩ := rTurn_no h
  refine ⟨none, 0, 0, ?_, ?_, hb⟩
  · rw [h1, h2]; rfl
  · rw [h1]; exact on_nil _ _ _ _ _
theorem t19_yes {cols : List Int} {e : ET} {w w' : World} {sa : Option Addr} {sn sc : Nat} (h : rTurn cols e = e.turn cols ∧ rTurnN cols e = 0) (ho : (e.turn cols).On (Btw w.heap.size w'.heap.size) w' (.slice sa sn sc)) (hb : Below w.heap.size w w') : T19 cols e w (.returned (.tuple #[(e.turn cols).agg (.slice sa sn sc), .int .i64 0])) w' := by
  refine ⟨sa, sn, sc, ?_, ?_, hb⟩
  · rw [h.1, h.2]; rfl
  · rw [h.1]; exact ho
theorem two_at {w w1 : World} {a b : Obj} (hb : Below ((w.alloc a).alloc b).heap.size ((w.alloc a).alloc b) w1) : w1.heap[w.heap.size]? = some a ∧ w1.heap[w.heap.size + 1]? = some b := by
  refine ⟨(hb.block _ (by simp <;> omega)).trans ?_, (hb.block _ (by simp <;> omega)).trans ?_⟩
  · rw [Below.heap_alloc _ _ _ (by simp <;> omega)]
    exact heap_alloc_new w a
  · have h := heap_alloc_new (w.alloc a) b
    rw [World.size_alloc] at h
    exact h

end Go.Proofs.YtolikaginhjbhaaDoor
