import Derived.Test.YtolikaginhjbhaaGreatDoorEg
/- errors.As, and number. -/
namespace Go.Proofs.YtolikaginhjbhaaGreatDoor
open Go.RowKit Go.Pen Go.Extern.Stop Go.Stop Go.Extern

theorem as_setE (ta : Addr) (g : Nat) (n : Int) (old : Value) (W : World) (hb : W.heap[g]? = some (.cells #[.int .u16 n] 138 (0, 0))) (ht : W.cell? ta = some old) (hf : W.frozen? ta = false) :
    (ReflectliteValue.set #[.agg #[.pointer (some ⟨7, 138, none⟩), .pointer (some ta), .int .u64 409], .agg #[.pointer (some ⟨7, 138, none⟩), .pointer (some ⟨g, 0, none⟩), .int .u64 153]]).run Tryz.prog W
      = .ok (.tuple #[]) (W.setCell ta (.int .u16 n)) := by
  show Sem.run Tryz.prog (ReflectliteValue.parts (.agg #[.pointer (some ⟨7, 138, none⟩), .pointer (some ta), .int .u64 409]) >>= fun _ => ReflectliteValue.parts (.agg #[.pointer (some ⟨7, 138, none⟩), .pointer (some ⟨g, 0, none⟩), .int .u64 153]) >>= _) W = _
  have hl : (loadVar 138 ⟨g, 0, none⟩).run Tryz.prog W = .ok (.agg #[.int .u16 n]) W := run_loadVar_row (P := Tryz.prog) W g 138 138 #[.int .u16 n] (0, 0) _ hb Tryz.underlying138 rfl (by kernel_rfl)
  simp only [Sem.run_bind, as_partsA, as_partsE, Result.andThen]
  simp [ReflectliteValue.flagAddr, Result.andThen, as_directE, hl, storeVar, Value.cells, storeCells, Addr.add]
  rw [run_store Tryz.prog W ta _ _ (by rfl)]
  simp [ht, hf]
set_option maxRecDepth 100000 in
set_option maxHeartbeats 4000000 in
/-- errors.as: the error's own type is the target's -/
theorem as_132 (n : Int) (t g : Nat) (w : World) (hg : w.heap[g]? = some (.cells #[.pointer (some ⟨t, 0, none⟩)] 146 (0, 0))) (ht : w.heap[t]? = some (.cells #[.int .u16 0] 138 (0, 0))) :
    Calls Tryz.prog 132 #[.iface 138 (.agg #[.int .u16 n]), .iface 146 (.pointer (some ⟨t, 0, none⟩)), .agg #[.pointer (some ⟨7, 146, none⟩), .pointer (some ⟨g, 0, none⟩), .int .u64 150], .iface 248 (.agg #[.pointer (some ⟨7, 138, none⟩)])] w
      fun ev w' => ev = .returned (.bool true) ∧ Below t w w' ∧ w'.heap[t]? = some (.cells #[.int .u16 n] 138 (0, 0)) := by
  have h176 := @run_callFunc_extern Tryz.prog 176 _ ReflectliteType.typeOf Tryz.func176 (by kernel_rfl) (by kernel_rfl) (by kernel_rfl) (by kernel_rfl)
  have h253 := @run_callFunc_extern Tryz.prog 253 _ (ReflectliteType.relation "AssignableTo" ReflectliteType.assignableTo) Tryz.func253 (by kernel_rfl) (by kernel_rfl) (by kernel_rfl) (by kernel_rfl)
  have h177 := @run_callFunc_extern Tryz.prog 177 _ (ReflectliteValue.method (ReflectliteValue.valueError "reflectlite.Value.Elem" 0) ReflectliteValue.elem) Tryz.func177 (by kernel_rfl) (by kernel_rfl) (by kernel_rfl) (by kernel_rfl)
  have h129 := @run_callFunc_extern Tryz.prog 129 _ (fun args => ReflectliteValue.unpack (args.getD 0 (.tuple #[]))) Tryz.func129 (by kernel_rfl) (by kernel_rfl) (by kernel_rfl) (by kernel_rfl)
  have h178 := @run_callFunc_extern Tryz.prog 178 _ ReflectliteValue.set Tryz.func178 (by kernel_rfl) (by kernel_rfl) (by kernel_rfl) (by kernel_rfl)
  have tO := as_typeOfE
  have mA := as_methodAssignableTo
  have aE := as_assignableE
  have vE := as_valueOfE
  have hgl : g < w.heap.size := lt_of_heap hg
  have htl : t < w.heap.size := lt_of_heap ht
  have el := as_elemVP ⟨g, 0, none⟩ ⟨t, 0, none⟩ (w.alloc (.cells #[.pointer (some ⟨7, 146, none⟩), .pointer (some ⟨g, 0, none⟩), .int .u64 150] 208)) (cell_of_heap ((Below.heap_alloc _ _ _ hgl).trans hg) rfl)
  have st := as_setE ⟨t, 0, none⟩ (w.heap.size + 1) n (.int .u16 0) ((w.alloc (.cells #[.pointer (some ⟨7, 146, none⟩), .pointer (some ⟨g, 0, none⟩), .int .u64 150] 208)).alloc (.cells #[.int .u16 n] 138)) (two_at (Below.refl _ _)).2
    (cell_of_heap ((Below.heap_alloc _ _ _ (by simp; omega)).trans ((Below.heap_alloc _ _ _ htl).trans ht)) rfl) (frozen_of_heap ((Below.heap_alloc _ _ _ (by simp; omega)).trans ((Below.heap_alloc _ _ _ htl).trans ht)))
  go_enter Tryz.func132, Tryz.ntmps132
  go_wp2
  refine wp_loop_rounds 1 ?_
  rw [rounds_succ]
  go_wp2
  go_ret
  have hs : (w.setCell ⟨t, 0, none⟩ (.int .u16 n)).heap.size = w.heap.size := by simp [World.setCell]
  refine ⟨rfl, (((Below.refl t w).setCell (p := ⟨t, 0, none⟩) (Nat.le_refl _) _).alloc (by omega) _).alloc (by rw [World.size_alloc]; omega) _, ?_⟩
  exact (Below.heap_alloc _ _ _ (by rw [World.size_alloc]; omega)).trans ((Below.heap_alloc _ _ _ (by omega)).trans ((heap_set_same ht).trans (by simp)))

/-- what a variable of the library's holds -/
def ErrTy (w : World) : Prop := w.cell? ⟨0, 0, none⟩ = some (.iface 248 (.agg #[.pointer (some ⟨7, 88, none⟩)]))

set_option maxRecDepth 100000 in
set_option maxHeartbeats 4000000 in
theorem as_89 (n : Int) (t : Nat) (w : World) (hE : ErrTy w) (ht : w.heap[t]? = some (.cells #[.int .u16 0] 138 (0, 0))) :
    Calls Tryz.prog 89 #[.iface 138 (.agg #[.int .u16 n]), .iface 146 (.pointer (some ⟨t, 0, none⟩))] w
      fun ev w' => ev = .returned (.bool true) ∧ Below t w w' ∧ w'.heap[t]? = some (.cells #[.int .u16 n] 138 (0, 0)) := by
  have h129 := @run_callFunc_extern Tryz.prog 129 _ (fun args => ReflectliteValue.unpack (args.getD 0 (.tuple #[]))) Tryz.func129 (by kernel_rfl) (by kernel_rfl) (by kernel_rfl) (by kernel_rfl)
  have h130 := @run_callFunc_extern Tryz.prog 130 _ (ReflectliteValue.methodAny (ReflectliteValue.valueError "reflectlite.Value.Type" 0) (fun t _ _ _ => ReflectliteType.toType t)) Tryz.func130 (by kernel_rfl) (by kernel_rfl) (by kernel_rfl) (by kernel_rfl)
  have h131 := @run_callFunc_extern Tryz.prog 131 _ (ReflectliteValue.method (ReflectliteValue.valueError "reflectlite.Value.IsNil" 0) ReflectliteValue.isNil) Tryz.func131 (by kernel_rfl) (by kernel_rfl) (by kernel_rfl) (by kernel_rfl)
  have h244 := @run_callFunc_extern Tryz.prog 244 _ (ReflectliteType.abiMethod fun t => do pure (.int .u8 (← Rtype.kind t))) Tryz.func244 (by kernel_rfl) (by kernel_rfl) (by kernel_rfl) (by kernel_rfl)
  have h255 := @run_callFunc_extern Tryz.prog 255 _ (ReflectliteType.method ReflectliteType.elem) Tryz.func255 (by kernel_rfl) (by kernel_rfl) (by kernel_rfl) (by kernel_rfl)
  have h256 := @run_callFunc_extern Tryz.prog 256 _ (ReflectliteType.relation "Implements" ReflectliteType.implements_) Tryz.func256 (by kernel_rfl) (by kernel_rfl) (by kernel_rfl) (by kernel_rfl)
  have f6 := as_valueOfP
  have f7 := as_typeP
  have mK := as_methodKind
  have mE := as_methodElem
  have mI := as_methodImplements
  have kP := as_kindP
  have kE := as_kindE
  have eP := as_elemP
  have iE := as_implementsE
  have htl : t < w.heap.size := lt_of_heap ht
  obtain ⟨w2, hw2⟩ : ∃ w2, w2 = (w.alloc (.cells #[.pointer (some ⟨t, 0, none⟩)] 146)).alloc (.cells #[.pointer (some ⟨7, 146, none⟩), .pointer (some ⟨w.heap.size, 0, none⟩), .int .u64 150] 208) := ⟨_, rfl⟩
  have hb2 : Below w.heap.size w w2 := by rw [hw2]; exact two_below _ _ _
  have hg : w2.heap[w.heap.size]? = some (.cells #[.pointer (some ⟨t, 0, none⟩)] 146 (0, 0)) := by rw [hw2]; exact (two_at (Below.refl _ _)).1
  have ht2 : w2.heap[t]? = some (.cells #[.int .u16 0] 138 (0, 0)) := (hb2.block _ htl).trans ht
  have n8 := as_isNilP ⟨w.heap.size, 0, none⟩ ⟨t, 0, none⟩ w2 (cell_of_heap hg rfl)
  have hg2 : w2.cell? ⟨0, 0, none⟩ = some (.iface 248 (.agg #[.pointer (some ⟨7, 88, none⟩)])) := cell_keep hb2 hE
  have h132 := as_132 n t w.heap.size w2 hg ht2
  have H132 := Lib.hid h132
  have HB2 := Lib.hid hb2
  have HT2 := Lib.hid ht2
  rw [hw2] at n8 hg2
  have HW2 := Lib.hid hw2
  clear h132 hb2 hg ht2 hw2 hE ht
  go_enter Tryz.func89, Tryz.ntmps89
  go_wp2_with fail
  rw [← HW2.out]
  refine H132.out.mono ?_
  rintro ev w5 ⟨rfl, hb5, h5⟩
  go_wp2
  go_ret
  exact ⟨rfl, (HB2.out.mono (Nat.le_of_lt htl)).trans hb5, h5⟩

set_option maxRecDepth 100000 in
set_option maxHeartbeats 1000000 in
theorem number_43 (n : Nat) (w : World) (hn : n ≠ 0) (hE : ErrTy w) :
    Calls Tryz.prog 43 #[errV n] w fun ev w' => ev = .returned (.int .u16 n) ∧ Below w.heap.size w w' := by
  simp only [errV, if_neg hn]
  have hE1 : ErrTy (w.alloc (.cells #[.int .u16 0] 138)) := cell_keep (one_below _ _) hE
  have h89 := as_89 n w.heap.size (w.alloc (.cells #[.int .u16 0] 138)) hE1 (heap_alloc_new _ _)
  have H89 := Lib.hid h89
  clear h89 hE hE1
  go_enter Tryz.func43, Tryz.ntmps43
  go_wp2_with (go_at_call 89; refine H89.out.mono ?_; rintro ev w3 ⟨rfl, hb3, t3⟩; have c3 := cell_of_heap (o := 0) t3 rfl; have HB3 := Lib.hid hb3; clear hb3 t3)
  go_ret
  exact ⟨rfl, (one_below _ _).trans HB3.out⟩
end Go.Proofs.YtolikaginhjbhaaGreatDoor
