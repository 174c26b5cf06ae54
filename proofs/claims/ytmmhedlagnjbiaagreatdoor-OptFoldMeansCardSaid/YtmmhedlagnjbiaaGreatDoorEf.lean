import Derived.Test.YtmmhedlagnjbiaaGreatDoorEa
import Derived.MapKept
import Derived.LaidEql
import Derived.Stop.Asserts
import Derived.RowKitTokens
/- our texts, shortened by program (pack.py) -/
set_option maxRecDepth 100000
set_option maxHeartbeats 8000000
namespace Go.Proofs.YtmmhedlagnjbiaaGreatDoor
open Go.RowKit Go.Pen Go.Shelf
attribute [local go_sem] Oper.semAt_some
def errV (n : Nat) : Value := if n = 0 then .nilIface else .iface 159 (.agg #[.int .u16 n])
def evT (r : Res) : Value := .tuple #[r.1.agg, errV r.2]
theorem told_86 (d : Dat) (n : Nat) (w : World) (hn : n ≤ 65535) :
  Calls Tryz.prog 109 #[d.agg, .int .u16 n] w fun ev w' => ev = .returned (evT (told (d, n))) ∧ Below w.heap.size w w' := by
 unfold Dat.agg
 by_cases h0 : n = 0
 ·subst h0
  have ht : told (d, 0) = (d, 0) := rfl
  rw [ht]
  go_enter Tryz.func109, Tryz.ntmps109
  go_wp2_with fail
  refine bodyPost_ret (results_row_tmp rfl _ _ (w.heap.size + 1) 25 _ (0, 0) _ rfl (two_at (Below.refl _ _)).2 Tryz.underlying25 rfl (by kernel_rfl)) rfl ?_
  exact ⟨rfl, two_below _ _ _⟩
 ·have q0 : ((n : Int) == 0) = false := by simpa using h0
  by_cases h1 : n = 13
  ·subst h1
   have ht : told (d, 13) = bad 31 := rfl
   rw [ht]
   go_enter Tryz.func109, Tryz.ntmps109
   go_wp2_with fail
   refine bodyPost_ret (results_row_tmp rfl _ _ (w.heap.size + 1) 25 _ (0, 0) _ rfl (two_at (Below.refl _ _)).2 Tryz.underlying25 rfl (by kernel_rfl)) rfl ?_
   exact ⟨rfl, two_below _ _ _⟩
  ·have q1 : ((n : Int) == 13) = false := by simp; omega
   have ht : evT (told (d, n)) = .tuple #[Dat.zero.agg, .iface 159 (.agg #[.int .u16 n])] := by simp [told, h0, h1, evT, bad, errV]
   rw [ht]
   go_enter Tryz.func109, Tryz.ntmps109
   go_wp2_with fail
   refine bodyPost_ret (results_row_tmp rfl _ _ (w.heap.size + 1) 25 _ (0, 0) _ rfl (two_at (Below.refl _ _)).2 Tryz.underlying25 rfl (by kernel_rfl)) rfl ?_
   exact ⟨rfl, two_below _ _ _⟩
theorem check_u8 (b : Bool) (k : Int) (w : World) : (Instr.checkKey b 10000 5 (.int .u8 k)).run Tryz.prog w = .ok () w := by kernel_rfl
theorem under5 (w : World) : (underlying 5).run Tryz.prog w = .ok (.int .u8) w := by kernel_rfl
theorem under200 (w : World) : (underlying 190).run Tryz.prog w = .ok (.map 5 163) w := by kernel_rfl
theorem under201 (w : World) : (underlying 191).run Tryz.prog w = .ok (.map 5 165) w := by kernel_rfl
theorem set_last (W : World) (o o' : Obj) : ({ W.alloc o with heap := (W.alloc o).heap.setIfInBounds W.heap.size o' } : World) = W.alloc o' := by
 have h : (W.heap.push o).setIfInBounds W.heap.size o' = W.heap.push o' := by
  refine Array.ext_getElem? fun i => ?_
  rw [Array.getElem?_setIfInBounds, Array.getElem?_push, Array.getElem?_push]
  by_cases h : i = W.heap.size
  ·subst h; simp
  ·rw [if_neg (fun e => h e.symm), if_neg h, if_neg h]
 show ({ W with heap := (W.heap.push o).setIfInBounds W.heap.size o' } : World) = { W with heap := W.heap.push o' }
 rw [h]
theorem ins_law (T el : TypeId) (hT : ∀ w, (underlying T).run Tryz.prog w = .ok (.map 5 el) w) (W : World) (r : Nat) (hr : r = W.heap.size) (es : Array MapEntry) (clock : Nat) (k : Int) (v : Value) (hf : Instr.findNow (.int .u8) (.int .u8 k) es.toList 0 = some none) :
  (Instr.mapUpdate T (.map (some r)) (.int .u8 k) v).run Tryz.prog (W.alloc (.map es clock)) = .ok () (W.alloc (.map (es.push { key := .int .u8 k, val := v, born := clock }) (clock + 1))) := by
 subst hr
 have hg := Go.MapKept.run_getObj_map (P := Tryz.prog) (heap_alloc_new W (.map es clock))
 have hs := Go.MapKept.run_setObj_map (P := Tryz.prog) (.map (es.push { key := .int .u8 k, val := v, born := clock }) (clock + 1)) (heap_alloc_new W (.map es clock))
 rw [set_last] at hs
 simp only [Instr.mapUpdate, Instr.findKey, Sem.run_bind, hT, under5, Result.andThen, hg, check_u8, hf, Sem.run_pure, hs]
theorem look_yes (T el : TypeId) (hT : ∀ w, (underlying T).run Tryz.prog w = .ok (.map 5 el) w) (W : World) (r : Nat) (hr : r = W.heap.size) (es : Array MapEntry) (clock : Nat) (k : Int) (i : Nat) (v : Value) (b : Bool) (hf : Instr.findNow (.int .u8) (.int .u8 k) es.toList 0 = some (some (i, v))) :
  (Instr.lookup T (.map (some r)) (.int .u8 k) b).run Tryz.prog (W.alloc (.map es clock)) = .ok (if b then .tuple #[v, .bool true] else v) (W.alloc (.map es clock)) := by
 subst hr
 have hg := Go.MapKept.run_getObj_map (P := Tryz.prog) (heap_alloc_new W (.map es clock))
 simp only [Instr.lookup, Instr.findKey, Sem.run_bind, hT, under5, Result.andThen, hg, check_u8, hf, Sem.run_pure]
theorem zero144 (w : World) : (zeroValue 165).run Tryz.prog w = .ok .nilFunc w := by kernel_rfl
theorem look_no (W : World) (r : Nat) (hr : r = W.heap.size) (es : Array MapEntry) (clock : Nat) (k : Int) (hf : Instr.findNow (.int .u8) (.int .u8 k) es.toList 0 = some none) :
  (Instr.lookup 191 (.map (some r)) (.int .u8 k) true).run Tryz.prog (W.alloc (.map es clock)) = .ok (.tuple #[.nilFunc, .bool false]) (W.alloc (.map es clock)) := by
 subst hr
 have hg := Go.MapKept.run_getObj_map (P := Tryz.prog) (heap_alloc_new W (.map es clock))
 simp only [Instr.lookup, Instr.findKey, Sem.run_bind, under201, under5, Result.andThen, hg, check_u8, hf, Sem.run_pure, zero144]
 rfl
def twosL : List MapEntry := [{ key := .int .u8 4, val := .func (.func 144) #[] #[], born := 0 }, { key := .int .u8 5, val := .func (.func 145) #[] #[], born := 1 }, { key := .int .u8 6, val := .func (.func 146) #[] #[], born := 2 }, { key := .int .u8 7, val := .func (.func 147) #[] #[], born := 3 }, { key := .int .u8 8, val := .func (.func 148) #[] #[], born := 4 }, { key := .int .u8 9, val := .func (.func 149) #[] #[], born := 5 }]
theorem twos_yes (k : Int) (i : Nat) (G : Nat) (hf : Instr.findNow (.int .u8) (.int .u8 k) twosL 0 = some (some (i, .func (.func G) #[] #[]))) (w : World) : Calls Tryz.prog 111 #[.int .u8 k] w fun ev w' => ev = .returned (.func (.func G) #[] #[]) ∧ Below w.heap.size w w' := by
 have hmm := @run_makeMap Tryz.prog
 have i0 : (Instr.mapUpdate 191 (.map (some (w.heap.size + 1))) (.int .u8 4) (.func (.func 144) #[] #[])).run Tryz.prog ((w.alloc (.cells #[.int .u8 k] 5)).alloc (.map #[] 0)) = .ok () ((w.alloc (.cells #[.int .u8 k] 5)).alloc (.map #[{ key := .int .u8 4, val := .func (.func 144) #[] #[], born := 0 }] 1)) := ins_law 191 _ under201 (w.alloc (.cells #[.int .u8 k] 5)) _ (by simp) #[] 0 4 _ rfl
 have i1 : (Instr.mapUpdate 191 (.map (some (w.heap.size + 1))) (.int .u8 5) (.func (.func 145) #[] #[])).run Tryz.prog ((w.alloc (.cells #[.int .u8 k] 5)).alloc (.map #[{ key := .int .u8 4, val := .func (.func 144) #[] #[], born := 0 }] 1)) = .ok () ((w.alloc (.cells #[.int .u8 k] 5)).alloc (.map #[{ key := .int .u8 4, val := .func (.func 144) #[] #[], born := 0 }, { key := .int .u8 5, val := .func (.func 145) #[] #[], born := 1 }] 2)) := ins_law 191 _ under201 (w.alloc (.cells #[.int .u8 k] 5)) _ (by simp) #[{ key := .int .u8 4, val := .func (.func 144) #[] #[], born := 0 }] 1 5 _ rfl
 have i2 : (Instr.mapUpdate 191 (.map (some (w.heap.size + 1))) (.int .u8 6) (.func (.func 146) #[] #[])).run Tryz.prog ((w.alloc (.cells #[.int .u8 k] 5)).alloc (.map #[{ key := .int .u8 4, val := .func (.func 144) #[] #[], born := 0 }, { key := .int .u8 5, val := .func (.func 145) #[] #[], born := 1 }] 2)) = .ok () ((w.alloc (.cells #[.int .u8 k] 5)).alloc (.map #[{ key := .int .u8 4, val := .func (.func 144) #[] #[], born := 0 }, { key := .int .u8 5, val := .func (.func 145) #[] #[], born := 1 }, { key := .int .u8 6, val := .func (.func 146) #[] #[], born := 2 }] 3)) := ins_law 191 _ under201 (w.alloc (.cells #[.int .u8 k] 5)) _ (by simp) #[{ key := .int .u8 4, val := .func (.func 144) #[] #[], born := 0 }, { key := .int .u8 5, val := .func (.func 145) #[] #[], born := 1 }] 2 6 _ rfl
 have i3 : (Instr.mapUpdate 191 (.map (some (w.heap.size + 1))) (.int .u8 7) (.func (.func 147) #[] #[])).run Tryz.prog ((w.alloc (.cells #[.int .u8 k] 5)).alloc (.map #[{ key := .int .u8 4, val := .func (.func 144) #[] #[], born := 0 }, { key := .int .u8 5, val := .func (.func 145) #[] #[], born := 1 }, { key := .int .u8 6, val := .func (.func 146) #[] #[], born := 2 }] 3)) = .ok () ((w.alloc (.cells #[.int .u8 k] 5)).alloc (.map #[{ key := .int .u8 4, val := .func (.func 144) #[] #[], born := 0 }, { key := .int .u8 5, val := .func (.func 145) #[] #[], born := 1 }, { key := .int .u8 6, val := .func (.func 146) #[] #[], born := 2 }, { key := .int .u8 7, val := .func (.func 147) #[] #[], born := 3 }] 4)) := ins_law 191 _ under201 (w.alloc (.cells #[.int .u8 k] 5)) _ (by simp) #[{ key := .int .u8 4, val := .func (.func 144) #[] #[], born := 0 }, { key := .int .u8 5, val := .func (.func 145) #[] #[], born := 1 }, { key := .int .u8 6, val := .func (.func 146) #[] #[], born := 2 }] 3 7 _ rfl
 have i4 : (Instr.mapUpdate 191 (.map (some (w.heap.size + 1))) (.int .u8 8) (.func (.func 148) #[] #[])).run Tryz.prog ((w.alloc (.cells #[.int .u8 k] 5)).alloc (.map #[{ key := .int .u8 4, val := .func (.func 144) #[] #[], born := 0 }, { key := .int .u8 5, val := .func (.func 145) #[] #[], born := 1 }, { key := .int .u8 6, val := .func (.func 146) #[] #[], born := 2 }, { key := .int .u8 7, val := .func (.func 147) #[] #[], born := 3 }] 4)) = .ok () ((w.alloc (.cells #[.int .u8 k] 5)).alloc (.map #[{ key := .int .u8 4, val := .func (.func 144) #[] #[], born := 0 }, { key := .int .u8 5, val := .func (.func 145) #[] #[], born := 1 }, { key := .int .u8 6, val := .func (.func 146) #[] #[], born := 2 }, { key := .int .u8 7, val := .func (.func 147) #[] #[], born := 3 }, { key := .int .u8 8, val := .func (.func 148) #[] #[], born := 4 }] 5)) := ins_law 191 _ under201 (w.alloc (.cells #[.int .u8 k] 5)) _ (by simp) #[{ key := .int .u8 4, val := .func (.func 144) #[] #[], born := 0 }, { key := .int .u8 5, val := .func (.func 145) #[] #[], born := 1 }, { key := .int .u8 6, val := .func (.func 146) #[] #[], born := 2 }, { key := .int .u8 7, val := .func (.func 147) #[] #[], born := 3 }] 4 8 _ rfl
 have i5 : (Instr.mapUpdate 191 (.map (some (w.heap.size + 1))) (.int .u8 9) (.func (.func 149) #[] #[])).run Tryz.prog ((w.alloc (.cells #[.int .u8 k] 5)).alloc (.map #[{ key := .int .u8 4, val := .func (.func 144) #[] #[], born := 0 }, { key := .int .u8 5, val := .func (.func 145) #[] #[], born := 1 }, { key := .int .u8 6, val := .func (.func 146) #[] #[], born := 2 }, { key := .int .u8 7, val := .func (.func 147) #[] #[], born := 3 }, { key := .int .u8 8, val := .func (.func 148) #[] #[], born := 4 }] 5)) = .ok () ((w.alloc (.cells #[.int .u8 k] 5)).alloc (.map #[{ key := .int .u8 4, val := .func (.func 144) #[] #[], born := 0 }, { key := .int .u8 5, val := .func (.func 145) #[] #[], born := 1 }, { key := .int .u8 6, val := .func (.func 146) #[] #[], born := 2 }, { key := .int .u8 7, val := .func (.func 147) #[] #[], born := 3 }, { key := .int .u8 8, val := .func (.func 148) #[] #[], born := 4 }, { key := .int .u8 9, val := .func (.func 149) #[] #[], born := 5 }] 6)) := ins_law 191 _ under201 (w.alloc (.cells #[.int .u8 k] 5)) _ (by simp) #[{ key := .int .u8 4, val := .func (.func 144) #[] #[], born := 0 }, { key := .int .u8 5, val := .func (.func 145) #[] #[], born := 1 }, { key := .int .u8 6, val := .func (.func 146) #[] #[], born := 2 }, { key := .int .u8 7, val := .func (.func 147) #[] #[], born := 3 }, { key := .int .u8 8, val := .func (.func 148) #[] #[], born := 4 }] 5 9 _ rfl
 have lk : (Instr.lookup 191 (.map (some (w.heap.size + 1))) (.int .u8 k) true).run Tryz.prog ((w.alloc (.cells #[.int .u8 k] 5)).alloc (.map #[{ key := .int .u8 4, val := .func (.func 144) #[] #[], born := 0 }, { key := .int .u8 5, val := .func (.func 145) #[] #[], born := 1 }, { key := .int .u8 6, val := .func (.func 146) #[] #[], born := 2 }, { key := .int .u8 7, val := .func (.func 147) #[] #[], born := 3 }, { key := .int .u8 8, val := .func (.func 148) #[] #[], born := 4 }, { key := .int .u8 9, val := .func (.func 149) #[] #[], born := 5 }] 6)) = .ok (.tuple #[.func (.func G) #[] #[], .bool true]) ((w.alloc (.cells #[.int .u8 k] 5)).alloc (.map #[{ key := .int .u8 4, val := .func (.func 144) #[] #[], born := 0 }, { key := .int .u8 5, val := .func (.func 145) #[] #[], born := 1 }, { key := .int .u8 6, val := .func (.func 146) #[] #[], born := 2 }, { key := .int .u8 7, val := .func (.func 147) #[] #[], born := 3 }, { key := .int .u8 8, val := .func (.func 148) #[] #[], born := 4 }, { key := .int .u8 9, val := .func (.func 149) #[] #[], born := 5 }] 6)) := look_yes 191 _ under201 (w.alloc (.cells #[.int .u8 k] 5)) _ (by simp) #[{ key := .int .u8 4, val := .func (.func 144) #[] #[], born := 0 }, { key := .int .u8 5, val := .func (.func 145) #[] #[], born := 1 }, { key := .int .u8 6, val := .func (.func 146) #[] #[], born := 2 }, { key := .int .u8 7, val := .func (.func 147) #[] #[], born := 3 }, { key := .int .u8 8, val := .func (.func 148) #[] #[], born := 4 }, { key := .int .u8 9, val := .func (.func 149) #[] #[], born := 5 }] 6 k i (.func (.func G) #[] #[]) true hf
 go_enter Tryz.func111, Tryz.ntmps111
 go_wp2_with fail
 go_ret
 exact ⟨rfl, two_below _ _ _⟩
theorem ones_87_3 (w : World) : Calls Tryz.prog 110 #[.int .u8 3] w fun ev w' => ev = .returned (.func (.func 141) #[] #[]) ∧ Below w.heap.size w w' := by
 have hmm := @run_makeMap Tryz.prog
 have i0 : (Instr.mapUpdate 190 (.map (some (w.heap.size))) (.int .u8 3) (.func (.func 141) #[] #[])).run Tryz.prog (w.alloc (.map #[] 0)) = .ok () (w.alloc (.map #[{ key := .int .u8 3, val := .func (.func 141) #[] #[], born := 0 }] 1)) := ins_law 190 _ under200 w _ (by simp) #[] 0 3 _ rfl
 have i1 : (Instr.mapUpdate 190 (.map (some (w.heap.size))) (.int .u8 10) (.func (.func 142) #[] #[])).run Tryz.prog (w.alloc (.map #[{ key := .int .u8 3, val := .func (.func 141) #[] #[], born := 0 }] 1)) = .ok () (w.alloc (.map #[{ key := .int .u8 3, val := .func (.func 141) #[] #[], born := 0 }, { key := .int .u8 10, val := .func (.func 142) #[] #[], born := 1 }] 2)) := ins_law 190 _ under200 w _ (by simp) #[{ key := .int .u8 3, val := .func (.func 141) #[] #[], born := 0 }] 1 10 _ rfl
 have i2 : (Instr.mapUpdate 190 (.map (some (w.heap.size))) (.int .u8 17) (.func (.func 143) #[] #[])).run Tryz.prog (w.alloc (.map #[{ key := .int .u8 3, val := .func (.func 141) #[] #[], born := 0 }, { key := .int .u8 10, val := .func (.func 142) #[] #[], born := 1 }] 2)) = .ok () (w.alloc (.map #[{ key := .int .u8 3, val := .func (.func 141) #[] #[], born := 0 }, { key := .int .u8 10, val := .func (.func 142) #[] #[], born := 1 }, { key := .int .u8 17, val := .func (.func 143) #[] #[], born := 2 }] 3)) := ins_law 190 _ under200 w _ (by simp) #[{ key := .int .u8 3, val := .func (.func 141) #[] #[], born := 0 }, { key := .int .u8 10, val := .func (.func 142) #[] #[], born := 1 }] 2 17 _ rfl
 have lk : (Instr.lookup 190 (.map (some (w.heap.size))) (.int .u8 3) false).run Tryz.prog (w.alloc (.map #[{ key := .int .u8 3, val := .func (.func 141) #[] #[], born := 0 }, { key := .int .u8 10, val := .func (.func 142) #[] #[], born := 1 }, { key := .int .u8 17, val := .func (.func 143) #[] #[], born := 2 }] 3)) = .ok (.func (.func 141) #[] #[]) (w.alloc (.map #[{ key := .int .u8 3, val := .func (.func 141) #[] #[], born := 0 }, { key := .int .u8 10, val := .func (.func 142) #[] #[], born := 1 }, { key := .int .u8 17, val := .func (.func 143) #[] #[], born := 2 }] 3)) := look_yes 190 _ under200 w _ rfl #[{ key := .int .u8 3, val := .func (.func 141) #[] #[], born := 0 }, { key := .int .u8 10, val := .func (.func 142) #[] #[], born := 1 }, { key := .int .u8 17, val := .func (.func 143) #[] #[], born := 2 }] 3 3 0 _ false rfl
 go_enter Tryz.func110, Tryz.ntmps110
 go_wp2_with fail
 go_ret
 exact ⟨rfl, one_below _ _⟩
theorem ones_87_10 (w : World) : Calls Tryz.prog 110 #[.int .u8 10] w fun ev w' => ev = .returned (.func (.func 142) #[] #[]) ∧ Below w.heap.size w w' := by
 have hmm := @run_makeMap Tryz.prog
 have i0 : (Instr.mapUpdate 190 (.map (some (w.heap.size))) (.int .u8 3) (.func (.func 141) #[] #[])).run Tryz.prog (w.alloc (.map #[] 0)) = .ok () (w.alloc (.map #[{ key := .int .u8 3, val := .func (.func 141) #[] #[], born := 0 }] 1)) := ins_law 190 _ under200 w _ (by simp) #[] 0 3 _ rfl
 have i1 : (Instr.mapUpdate 190 (.map (some (w.heap.size))) (.int .u8 10) (.func (.func 142) #[] #[])).run Tryz.prog (w.alloc (.map #[{ key := .int .u8 3, val := .func (.func 141) #[] #[], born := 0 }] 1)) = .ok () (w.alloc (.map #[{ key := .int .u8 3, val := .func (.func 141) #[] #[], born := 0 }, { key := .int .u8 10, val := .func (.func 142) #[] #[], born := 1 }] 2)) := ins_law 190 _ under200 w _ (by simp) #[{ key := .int .u8 3, val := .func (.func 141) #[] #[], born := 0 }] 1 10 _ rfl
 have i2 : (Instr.mapUpdate 190 (.map (some (w.heap.size))) (.int .u8 17) (.func (.func 143) #[] #[])).run Tryz.prog (w.alloc (.map #[{ key := .int .u8 3, val := .func (.func 141) #[] #[], born := 0 }, { key := .int .u8 10, val := .func (.func 142) #[] #[], born := 1 }] 2)) = .ok () (w.alloc (.map #[{ key := .int .u8 3, val := .func (.func 141) #[] #[], born := 0 }, { key := .int .u8 10, val := .func (.func 142) #[] #[], born := 1 }, { key := .int .u8 17, val := .func (.func 143) #[] #[], born := 2 }] 3)) := ins_law 190 _ under200 w _ (by simp) #[{ key := .int .u8 3, val := .func (.func 141) #[] #[], born := 0 }, { key := .int .u8 10, val := .func (.func 142) #[] #[], born := 1 }] 2 17 _ rfl
 have lk : (Instr.lookup 190 (.map (some (w.heap.size))) (.int .u8 10) false).run Tryz.prog (w.alloc (.map #[{ key := .int .u8 3, val := .func (.func 141) #[] #[], born := 0 }, { key := .int .u8 10, val := .func (.func 142) #[] #[], born := 1 }, { key := .int .u8 17, val := .func (.func 143) #[] #[], born := 2 }] 3)) = .ok (.func (.func 142) #[] #[]) (w.alloc (.map #[{ key := .int .u8 3, val := .func (.func 141) #[] #[], born := 0 }, { key := .int .u8 10, val := .func (.func 142) #[] #[], born := 1 }, { key := .int .u8 17, val := .func (.func 143) #[] #[], born := 2 }] 3)) := look_yes 190 _ under200 w _ rfl #[{ key := .int .u8 3, val := .func (.func 141) #[] #[], born := 0 }, { key := .int .u8 10, val := .func (.func 142) #[] #[], born := 1 }, { key := .int .u8 17, val := .func (.func 143) #[] #[], born := 2 }] 3 10 1 _ false rfl
 go_enter Tryz.func110, Tryz.ntmps110
 go_wp2_with fail
 go_ret
 exact ⟨rfl, one_below _ _⟩
theorem ones_87_17 (w : World) : Calls Tryz.prog 110 #[.int .u8 17] w fun ev w' => ev = .returned (.func (.func 143) #[] #[]) ∧ Below w.heap.size w w' := by
 have hmm := @run_makeMap Tryz.prog
 have i0 : (Instr.mapUpdate 190 (.map (some (w.heap.size))) (.int .u8 3) (.func (.func 141) #[] #[])).run Tryz.prog (w.alloc (.map #[] 0)) = .ok () (w.alloc (.map #[{ key := .int .u8 3, val := .func (.func 141) #[] #[], born := 0 }] 1)) := ins_law 190 _ under200 w _ (by simp) #[] 0 3 _ rfl
 have i1 : (Instr.mapUpdate 190 (.map (some (w.heap.size))) (.int .u8 10) (.func (.func 142) #[] #[])).run Tryz.prog (w.alloc (.map #[{ key := .int .u8 3, val := .func (.func 141) #[] #[], born := 0 }] 1)) = .ok () (w.alloc (.map #[{ key := .int .u8 3, val := .func (.func 141) #[] #[], born := 0 }, { key := .int .u8 10, val := .func (.func 142) #[] #[], born := 1 }] 2)) := ins_law 190 _ under200 w _ (by simp) #[{ key := .int .u8 3, val := .func (.func 141) #[] #[], born := 0 }] 1 10 _ rfl
 have i2 : (Instr.mapUpdate 190 (.map (some (w.heap.size))) (.int .u8 17) (.func (.func 143) #[] #[])).run Tryz.prog (w.alloc (.map #[{ key := .int .u8 3, val := .func (.func 141) #[] #[], born := 0 }, { key := .int .u8 10, val := .func (.func 142) #[] #[], born := 1 }] 2)) = .ok () (w.alloc (.map #[{ key := .int .u8 3, val := .func (.func 141) #[] #[], born := 0 }, { key := .int .u8 10, val := .func (.func 142) #[] #[], born := 1 }, { key := .int .u8 17, val := .func (.func 143) #[] #[], born := 2 }] 3)) := ins_law 190 _ under200 w _ (by simp) #[{ key := .int .u8 3, val := .func (.func 141) #[] #[], born := 0 }, { key := .int .u8 10, val := .func (.func 142) #[] #[], born := 1 }] 2 17 _ rfl
 have lk : (Instr.lookup 190 (.map (some (w.heap.size))) (.int .u8 17) false).run Tryz.prog (w.alloc (.map #[{ key := .int .u8 3, val := .func (.func 141) #[] #[], born := 0 }, { key := .int .u8 10, val := .func (.func 142) #[] #[], born := 1 }, { key := .int .u8 17, val := .func (.func 143) #[] #[], born := 2 }] 3)) = .ok (.func (.func 143) #[] #[]) (w.alloc (.map #[{ key := .int .u8 3, val := .func (.func 141) #[] #[], born := 0 }, { key := .int .u8 10, val := .func (.func 142) #[] #[], born := 1 }, { key := .int .u8 17, val := .func (.func 143) #[] #[], born := 2 }] 3)) := look_yes 190 _ under200 w _ rfl #[{ key := .int .u8 3, val := .func (.func 141) #[] #[], born := 0 }, { key := .int .u8 10, val := .func (.func 142) #[] #[], born := 1 }, { key := .int .u8 17, val := .func (.func 143) #[] #[], born := 2 }] 3 17 2 _ false rfl
 go_enter Tryz.func110, Tryz.ntmps110
 go_wp2_with fail
 go_ret
 exact ⟨rfl, one_below _ _⟩
end Go.Proofs.YtmmhedlagnjbiaaGreatDoor
namespace Go.Proofs.YtmmhedlagnjbiaaGreatDoor
open Go.RowKit Go.Extern.Stop Go.Stop Go.Extern
theorem as_valueOfP (t : Addr) (w : World) : (ReflectliteValue.unpack (.iface 167 (.pointer (some t)))).run Tryz.prog w
  = .ok (.agg #[.pointer (some ⟨3, 167, none⟩), .pointer (some ⟨w.heap.size, 0, none⟩), .int .u64 150]) (w.alloc (.cells #[.pointer (some t)] 167)) := by kernel_rfl
theorem as_typeP (a : Addr) (w : World) : (ReflectliteValue.methodAny (ReflectliteValue.valueError "reflectlite.Value.Type" 0) (fun t _ _ _ => ReflectliteType.toType t) #[.agg #[.pointer (some ⟨3, 167, none⟩), .pointer (some a), .int .u64 150]]).run Tryz.prog w
  = .ok (.iface 230 (.agg #[.pointer (some ⟨3, 167, none⟩)])) w := by kernel_rfl
theorem as_kindP (w : World) : ((ReflectliteType.abiMethod fun t => (fun a : Nat => Value.int IntKind.u8 (a : Int)) <$> Rtype.kind t) #[.pointer (some ⟨3, 167, none⟩)]).run Tryz.prog w = .ok (.int .u8 22) w := by kernel_rfl
theorem as_kindE (w : World) : ((ReflectliteType.abiMethod fun t => (fun a : Nat => Value.int IntKind.u8 (a : Int)) <$> Rtype.kind t) #[.pointer (some ⟨3, 159, none⟩)]).run Tryz.prog w = .ok (.int .u8 25) w := by kernel_rfl
theorem as_partsP (a : Addr) (w : World) : (ReflectliteValue.parts (.agg #[.pointer (some ⟨3, 167, none⟩), .pointer (some a), .int .u64 150])).run Tryz.prog w = .ok (some (167, a, 150)) w := by kernel_rfl
theorem as_rlm (z : Sem Value) (f : TypeId → Addr → Nat → Nat → Sem Value) (v : Value) :
  ReflectliteValue.method z f #[v] = (do match ← ReflectliteValue.parts v with | none => z | some (t, a, fl) => f t a fl (fl % 32)) := rfl
theorem as_isNilP (a p : Addr) (W : World) (ha : W.cell? a = some (.pointer (some p))) :
  (ReflectliteValue.method (ReflectliteValue.valueError "reflectlite.Value.IsNil" 0) ReflectliteValue.isNil #[.agg #[.pointer (some ⟨3, 167, none⟩), .pointer (some a), .int .u64 150]]).run Tryz.prog W = .ok (.bool false) W := by
 rw [as_rlm]
 simp only [Sem.run_bind, as_partsP, Result.andThen]
 simp [ReflectliteValue.isNil, loadVar, isAgg, underlying, Tryz.underlying167, ha, Result.andThen]
theorem as_methodKind (h : Value) (w : World) : (Go.method 406 230 (.agg #[h]) "Kind").run Tryz.prog w = .ok (250, h) w := by kernel_rfl
theorem as_methodElem (h : Value) (w : World) : (Go.method 406 230 (.agg #[h]) "Elem").run Tryz.prog w = .ok (260, .agg #[h]) w := by kernel_rfl
theorem as_methodImplements (h : Value) (w : World) : (Go.method 406 230 (.agg #[h]) "Implements").run Tryz.prog w = .ok (261, .agg #[h]) w := by kernel_rfl
theorem as_methodAssignableTo (h : Value) (w : World) : (Go.method 406 230 (.agg #[h]) "AssignableTo").run Tryz.prog w = .ok (258, .agg #[h]) w := by kernel_rfl
theorem as_elemP (w : World) : (ReflectliteType.method ReflectliteType.elem #[.agg #[.pointer (some ⟨3, 167, none⟩)]]).run Tryz.prog w = .ok (.iface 230 (.agg #[.pointer (some ⟨3, 159, none⟩)])) w := by kernel_rfl
theorem as_implementsE (w : World) : (ReflectliteType.relation "Implements" ReflectliteType.implements_ #[.agg #[.pointer (some ⟨3, 159, none⟩)], .iface 230 (.agg #[.pointer (some ⟨3, 139, none⟩)])]).run Tryz.prog w = .ok (.bool true) w := by kernel_rfl
theorem as_typeOfE (v : Value) (w : World) : (ReflectliteType.typeOf #[.iface 159 v]).run Tryz.prog w = .ok (.iface 230 (.agg #[.pointer (some ⟨3, 159, none⟩)])) w := by kernel_rfl
theorem as_assignableE (w : World) : (ReflectliteType.relation "AssignableTo" ReflectliteType.assignableTo #[.agg #[.pointer (some ⟨3, 159, none⟩)], .iface 230 (.agg #[.pointer (some ⟨3, 159, none⟩)])]).run Tryz.prog w = .ok (.bool true) w := by kernel_rfl
theorem as_valueOfE (n : Int) (w : World) : (ReflectliteValue.unpack (.iface 159 (.agg #[.int .u16 n]))).run Tryz.prog w
  = .ok (.agg #[.pointer (some ⟨3, 159, none⟩), .pointer (some ⟨w.heap.size, 0, none⟩), .int .u64 153]) (w.alloc (.cells #[.int .u16 n] 159)) := by kernel_rfl
theorem as_elemOfP (w : World) : (Rtype.elem? 167).run Tryz.prog w = .ok (some 159) w := by kernel_rfl
theorem as_mkE (p : Addr) (w : World) : (ReflectliteValue.mk 159 p ReflectliteValue.flagAddr).run Tryz.prog w = .ok (.agg #[.pointer (some ⟨3, 159, none⟩), .pointer (some p), .int .u64 409]) w := by kernel_rfl
theorem as_elemVP (a p : Addr) (W : World) (ha : W.cell? a = some (.pointer (some p))) :
  (ReflectliteValue.method (ReflectliteValue.valueError "reflectlite.Value.Elem" 0) ReflectliteValue.elem #[.agg #[.pointer (some ⟨3, 167, none⟩), .pointer (some a), .int .u64 150]]).run Tryz.prog W
   = .ok (.agg #[.pointer (some ⟨3, 159, none⟩), .pointer (some p), .int .u64 409]) W := by
 rw [as_rlm]
 simp only [Sem.run_bind, as_partsP, Result.andThen]
 simp [ReflectliteValue.elem, loadVar, isAgg, underlying, Tryz.underlying167, ha, Result.andThen, as_elemOfP, as_mkE]
theorem as_partsA (a : Addr) (w : World) : (ReflectliteValue.parts (.agg #[.pointer (some ⟨3, 159, none⟩), .pointer (some a), .int .u64 409])).run Tryz.prog w = .ok (some (159, a, 409)) w := by kernel_rfl
theorem as_partsE (a : Addr) (w : World) : (ReflectliteValue.parts (.agg #[.pointer (some ⟨3, 159, none⟩), .pointer (some a), .int .u64 153])).run Tryz.prog w = .ok (some (159, a, 153)) w := by kernel_rfl
theorem as_directE (w : World) : (Rtype.directlyAssignable 159 159).run Tryz.prog w = .ok true w := by kernel_rfl
theorem as_sizeE (w : World) : (sizeOf 159).run Tryz.prog w = .ok 1 w := by kernel_rfl
end Go.Proofs.YtmmhedlagnjbiaaGreatDoor
namespace Go.Proofs.YtmmhedlagnjbiaaGreatDoor
open Go.RowKit Go.Pen Go.Extern.Stop Go.Stop Go.Extern
theorem as_setE (ta : Addr) (g : Nat) (n : Int) (old : Value) (W : World) (hb : W.heap[g]? = some (.cells #[.int .u16 n] 159 (0, 0))) (ht : W.cell? ta = some old) (hf : W.frozen? ta = false) :
  (ReflectliteValue.set #[.agg #[.pointer (some ⟨3, 159, none⟩), .pointer (some ta), .int .u64 409], .agg #[.pointer (some ⟨3, 159, none⟩), .pointer (some ⟨g, 0, none⟩), .int .u64 153]]).run Tryz.prog W
   = .ok (.tuple #[]) (W.setCell ta (.int .u16 n)) := by
 show Sem.run Tryz.prog (ReflectliteValue.parts (.agg #[.pointer (some ⟨3, 159, none⟩), .pointer (some ta), .int .u64 409]) >>= fun _ => ReflectliteValue.parts (.agg #[.pointer (some ⟨3, 159, none⟩), .pointer (some ⟨g, 0, none⟩), .int .u64 153]) >>= _) W = _
 have hl : (loadVar 159 ⟨g, 0, none⟩).run Tryz.prog W = .ok (.agg #[.int .u16 n]) W := run_loadVar_row (P := Tryz.prog) W g 159 159 #[.int .u16 n] (0, 0) _ hb Tryz.underlying159 rfl (by kernel_rfl)
 simp only [Sem.run_bind, as_partsA, as_partsE, Result.andThen]
 simp [ReflectliteValue.flagAddr, Result.andThen, as_directE, hl, storeVar, Value.cells, storeCells, Addr.add]
 rw [run_store Tryz.prog W ta _ _ (by rfl)]
 simp [ht, hf]
theorem as_132 (n : Int) (t g : Nat) (w : World) (hg : w.heap[g]? = some (.cells #[.pointer (some ⟨t, 0, none⟩)] 167 (0, 0))) (ht : w.heap[t]? = some (.cells #[.int .u16 0] 159 (0, 0))) :
  Calls Tryz.prog 155 #[.iface 159 (.agg #[.int .u16 n]), .iface 167 (.pointer (some ⟨t, 0, none⟩)), .agg #[.pointer (some ⟨3, 167, none⟩), .pointer (some ⟨g, 0, none⟩), .int .u64 150], .iface 230 (.agg #[.pointer (some ⟨3, 159, none⟩)])] w
   fun ev w' => ev = .returned (.bool true) ∧ Below t w w' ∧ w'.heap[t]? = some (.cells #[.int .u16 n] 159 (0, 0)) := by
 have h176 := @run_callFunc_extern Tryz.prog 193 _ ReflectliteType.typeOf Tryz.func193 (by kernel_rfl) (by kernel_rfl) (by kernel_rfl) (by kernel_rfl)
 have h253 := @run_callFunc_extern Tryz.prog 258 _ (ReflectliteType.relation "AssignableTo" ReflectliteType.assignableTo) Tryz.func258 (by kernel_rfl) (by kernel_rfl) (by kernel_rfl) (by kernel_rfl)
 have h177 := @run_callFunc_extern Tryz.prog 194 _ (ReflectliteValue.method (ReflectliteValue.valueError "reflectlite.Value.Elem" 0) ReflectliteValue.elem) Tryz.func194 (by kernel_rfl) (by kernel_rfl) (by kernel_rfl) (by kernel_rfl)
 have h129 := @run_callFunc_extern Tryz.prog 152 _ (fun args => ReflectliteValue.unpack (args.getD 0 (.tuple #[]))) Tryz.func152 (by kernel_rfl) (by kernel_rfl) (by kernel_rfl) (by kernel_rfl)
 have h178 := @run_callFunc_extern Tryz.prog 195 _ ReflectliteValue.set Tryz.func195 (by kernel_rfl) (by kernel_rfl) (by kernel_rfl) (by kernel_rfl)
 have tO := as_typeOfE
 have mA := as_methodAssignableTo
 have aE := as_assignableE
 have vE := as_valueOfE
 have hgl : g < w.heap.size := lt_of_heap hg
 have htl : t < w.heap.size := lt_of_heap ht
 have el := as_elemVP ⟨g, 0, none⟩ ⟨t, 0, none⟩ (w.alloc (.cells #[.pointer (some ⟨3, 167, none⟩), .pointer (some ⟨g, 0, none⟩), .int .u64 150] 198)) (cell_of_heap ((Below.heap_alloc _ _ _ hgl).trans hg) rfl)
 have st := as_setE ⟨t, 0, none⟩ (w.heap.size + 1) n (.int .u16 0) ((w.alloc (.cells #[.pointer (some ⟨3, 167, none⟩), .pointer (some ⟨g, 0, none⟩), .int .u64 150] 198)).alloc (.cells #[.int .u16 n] 159)) (two_at (Below.refl _ _)).2
  (cell_of_heap ((Below.heap_alloc _ _ _ (by simp; omega)).trans ((Below.heap_alloc _ _ _ htl).trans ht)) rfl) (frozen_of_heap ((Below.heap_alloc _ _ _ (by simp; omega)).trans ((Below.heap_alloc _ _ _ htl).trans ht)))
 go_enter Tryz.func155, Tryz.ntmps155
 go_wp2
 refine wp_loop_rounds 1 ?_
 rw [rounds_succ]
 go_wp2
 go_ret
 have hs : (w.setCell ⟨t, 0, none⟩ (.int .u16 n)).heap.size = w.heap.size := by simp [World.setCell]
 refine ⟨rfl, (((Below.refl t w).setCell (p := ⟨t, 0, none⟩) (Nat.le_refl _) _).alloc (by omega) _).alloc (by rw [World.size_alloc]; omega) _, ?_⟩
 exact (Below.heap_alloc _ _ _ (by rw [World.size_alloc]; omega)).trans ((Below.heap_alloc _ _ _ (by omega)).trans ((heap_set_same ht).trans (by simp)))
def ErrTy (w : World) : Prop := w.cell? ⟨2, 0, none⟩ = some (.iface 230 (.agg #[.pointer (some ⟨3, 139, none⟩)]))
theorem as_89 (n : Int) (t : Nat) (w : World) (hE : ErrTy w) (ht : w.heap[t]? = some (.cells #[.int .u16 0] 159 (0, 0))) :
  Calls Tryz.prog 112 #[.iface 159 (.agg #[.int .u16 n]), .iface 167 (.pointer (some ⟨t, 0, none⟩))] w
   fun ev w' => ev = .returned (.bool true) ∧ Below t w w' ∧ w'.heap[t]? = some (.cells #[.int .u16 n] 159 (0, 0)) := by
 have h129 := @run_callFunc_extern Tryz.prog 152 _ (fun args => ReflectliteValue.unpack (args.getD 0 (.tuple #[]))) Tryz.func152 (by kernel_rfl) (by kernel_rfl) (by kernel_rfl) (by kernel_rfl)
 have h130 := @run_callFunc_extern Tryz.prog 153 _ (ReflectliteValue.methodAny (ReflectliteValue.valueError "reflectlite.Value.Type" 0) (fun t _ _ _ => ReflectliteType.toType t)) Tryz.func153 (by kernel_rfl) (by kernel_rfl) (by kernel_rfl) (by kernel_rfl)
 have h131 := @run_callFunc_extern Tryz.prog 154 _ (ReflectliteValue.method (ReflectliteValue.valueError "reflectlite.Value.IsNil" 0) ReflectliteValue.isNil) Tryz.func154 (by kernel_rfl) (by kernel_rfl) (by kernel_rfl) (by kernel_rfl)
 have h244 := @run_callFunc_extern Tryz.prog 250 _ (ReflectliteType.abiMethod fun t => do pure (.int .u8 (← Rtype.kind t))) Tryz.func250 (by kernel_rfl) (by kernel_rfl) (by kernel_rfl) (by kernel_rfl)
 have h255 := @run_callFunc_extern Tryz.prog 260 _ (ReflectliteType.method ReflectliteType.elem) Tryz.func260 (by kernel_rfl) (by kernel_rfl) (by kernel_rfl) (by kernel_rfl)
 have h256 := @run_callFunc_extern Tryz.prog 261 _ (ReflectliteType.relation "Implements" ReflectliteType.implements_) Tryz.func261 (by kernel_rfl) (by kernel_rfl) (by kernel_rfl) (by kernel_rfl)
 have f6 := as_valueOfP
 have f7 := as_typeP
 have mK := as_methodKind
 have mE := as_methodElem
 have mI := as_methodImplements
 have kP := as_kindP
 have kE := as_kindE
 have eP := as_elemP
 have iE := as_implementsE
 have htl : t < w.heap.size := lt_of_heap ht
 obtain ⟨w2, hw2⟩ : ∃ w2, w2 = (w.alloc (.cells #[.pointer (some ⟨t, 0, none⟩)] 167)).alloc (.cells #[.pointer (some ⟨3, 167, none⟩), .pointer (some ⟨w.heap.size, 0, none⟩), .int .u64 150] 198) := ⟨_, rfl⟩
 have hb2 : Below w.heap.size w w2 := by rw [hw2]; exact two_below _ _ _
 have hg : w2.heap[w.heap.size]? = some (.cells #[.pointer (some ⟨t, 0, none⟩)] 167 (0, 0)) := by rw [hw2]; exact (two_at (Below.refl _ _)).1
 have ht2 : w2.heap[t]? = some (.cells #[.int .u16 0] 159 (0, 0)) := (hb2.block _ htl).trans ht
 have n8 := as_isNilP ⟨w.heap.size, 0, none⟩ ⟨t, 0, none⟩ w2 (cell_of_heap hg rfl)
 have hg2 : w2.cell? ⟨2, 0, none⟩ = some (.iface 230 (.agg #[.pointer (some ⟨3, 139, none⟩)])) := cell_keep hb2 hE
 have h132 := as_132 n t w.heap.size w2 hg ht2
 have H132 := Lib.hid h132
 have HB2 := Lib.hid hb2
 have HT2 := Lib.hid ht2
 rw [hw2] at n8 hg2
 have HW2 := Lib.hid hw2
 clear h132 hb2 hg ht2 hw2 hE ht
 go_enter Tryz.func112, Tryz.ntmps112
 go_wp2_with fail
 rw [← HW2.out]
 refine H132.out.mono ?_
 rintro ev w5 ⟨rfl, hb5, h5⟩
 go_wp2
 go_ret
 exact ⟨rfl, (HB2.out.mono (Nat.le_of_lt htl)).trans hb5, h5⟩
theorem number_43 (n : Nat) (w : World) (hn : n ≠ 0) (hE : ErrTy w) :
  Calls Tryz.prog 89 #[errV n] w fun ev w' => ev = .returned (.int .u16 n) ∧ Below w.heap.size w w' := by
 simp only [errV, if_neg hn]
 have hE1 : ErrTy (w.alloc (.cells #[.int .u16 0] 159)) := cell_keep (one_below _ _) hE
 have h89 := as_89 n w.heap.size (w.alloc (.cells #[.int .u16 0] 159)) hE1 (heap_alloc_new _ _)
 have H89 := Lib.hid h89
 clear h89 hE hE1
 go_enter Tryz.func89, Tryz.ntmps89
 go_wp2_with (go_at_call 112; refine H89.out.mono ?_; rintro ev w3 ⟨rfl, hb3, t3⟩; have c3 := cell_of_heap (o := 0) t3 rfl; have HB3 := Lib.hid hb3; clear hb3 t3)
 go_ret
 exact ⟨rfl, (one_below _ _).trans HB3.out⟩
end Go.Proofs.YtmmhedlagnjbiaaGreatDoor
