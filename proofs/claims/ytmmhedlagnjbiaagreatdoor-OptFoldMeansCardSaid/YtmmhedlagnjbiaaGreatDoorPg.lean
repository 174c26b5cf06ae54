import Derived.Test.YtmmhedlagnjbiaaGreatDoorPf
import Derived.Recover
/- our texts, shortened by program (pack.py) -/
set_option maxRecDepth 100000
set_option maxHeartbeats 4000000
namespace Go.Proofs.YtmmhedlagnjbiaaGreatDoor
open Go.RowKit Go.Pen
attribute [local go_sem] Oper.semAt_some
theorem closure_94 (i a : Int) (f B mb ms ma : Nat) (n : Int) (free : Value) (w : World) (hv : w.cell? ⟨f, 0, none⟩ = some (.pointer (some ⟨B, 0, none⟩))) (hf : Fnd w B mb ms ma n free) :
  Calls Tryz.prog 94 #[.agg #[.int .i64 i, .int .i64 a], .pointer (some ⟨f, 0, none⟩)] w fun ev w' => ev = .returned (.bool false) ∧ Below w.heap.size w w' := by
 have c1 : w.cell? ⟨B, 1, none⟩ = some (.map (some mb)) := cell_of_heap hf.at_ rfl
 have sB := lt_of_heap hf.at_
 have sF := World.block_lt_of_cell? w _ hv
 have hbx := (Below.heap_alloc w (.cells #[.int .i64 i, .int .i64 a] 105) mb (lt_of_heap hf.bound)).trans hf.bound
 have hlk : ∀ q, (Instr.lookup 98 (.map (some mb)) (.int .i64 i) false).run Tryz.prog ((w.alloc (.cells #[.int .i64 i, .int .i64 a] 105)).drewN q) = .ok (.bool false) ((w.alloc (.cells #[.int .i64 i, .int .i64 a] 105)).drewN q) := fun q => by
  have h := lookup_none (t := 98) (w := (w.alloc (.cells #[.int .i64 i, .int .i64 a] 105)).drewN q) Tryz.underlying98 (zero_bool _) hbx i false
  simpa using h
 clear hf hbx
 go_enter Tryz.func94, Tryz.ntmps94
 go_wp2_with fail
 go_quiet (fail)
 go_wp2
 go_ret
 exact ⟨rfl, Go.Pen.below_drewN ((Below.refl _ _).alloc (Nat.le_refl _) _)⟩
theorem idx_124 (i a : Int) (f B mb ms ma : Nat) (n : Int) (free : Value) (lo : Nat) (w : World) (hv : w.cell? ⟨f, 0, none⟩ = some (.pointer (some ⟨B, 0, none⟩))) (hf : Fnd w B mb ms ma n free) (hg : Got w lo free i a) :
  Calls Tryz.prog 124 #[free, .func (.func 94) #[] #[.pointer (some ⟨f, 0, none⟩)]] w fun ev w' => ev = .returned (.int .i64 (-1)) ∧ Below w.heap.size w w' := by
 obtain ⟨g, cap, rfl, -, z0, z1⟩ := hg
 have HC := Lib.hid (closure_94 i a f B mb ms ma n _ w hv hf)
 have sG := World.block_lt_of_cell? w _ z0
 clear hv hf
 go_enter Tryz.func124, Tryz.ntmps124
 go_wp2_with fail
 go_loopg [8] 1 (fun q s8 wr => (q = 1 ∧ s8 = .int .i64 0 ∧ wr = w) ∨ (q = 0 ∧ s8 = .int .i64 1 ∧ Below w.heap.size w wr))
 case atStart => exact .inl ⟨rfl, rfl, rfl⟩
 case round =>
  rcases hrel with ⟨rfl, rfl, rfl⟩ | ⟨rfl, rfl, hb⟩
  ·go_wp2_with fail
   refine HC.out.mono ?_
   rintro ev w3 ⟨rfl, hb⟩
   have HB := Lib.hid hb
   clear hb z0 z1 sG HC
   go_wp2
   go_roundg 0
   case measure => omega
   case rel => exact .inr ⟨rfl, by go_num, HB.out⟩
  ·have HB := Lib.hid hb
   clear hb z0 z1 sG HC
   go_wp2
   go_ret
   exact ⟨rfl, HB.out⟩
theorem contains_93 (i a : Int) (f B mb ms ma : Nat) (n : Int) (free : Value) (lo : Nat) (w : World) (hv : w.cell? ⟨f, 0, none⟩ = some (.pointer (some ⟨B, 0, none⟩))) (hf : Fnd w B mb ms ma n free) (hg : Got w lo free i a) :
  Calls Tryz.prog 93 #[free, .func (.func 94) #[] #[.pointer (some ⟨f, 0, none⟩)]] w fun ev w' => ev = .returned (.bool false) ∧ Below w.heap.size w w' := by
 have HC := Lib.hid (idx_124 i a f B mb ms ma n free lo w hv hf hg)
 obtain ⟨g, cap, rfl, -, -, -⟩ := hg
 clear hv hf
 go_enter Tryz.func93, Tryz.ntmps93
 go_wp2_with fail
 refine HC.out.mono ?_
 rintro ev w3 ⟨rfl, hb⟩
 have HB := Lib.hid hb
 clear hb HC
 go_wp2
 go_ret
 exact ⟨rfl, HB.out⟩
end Go.Proofs.YtmmhedlagnjbiaaGreatDoor
namespace Go.Proofs.YtmmhedlagnjbiaaGreatDoor
open Go.RowKit Go.Pen
attribute [local go_sem] Oper.semAt_some
theorem catch_idle (p q r : Addr) (w : World) :
  CallsD Tryz.prog 90 #[.pointer (some p), .pointer (some q), .pointer (some r)] .returning w fun e u' w' => e = .returned (.tuple #[]) ∧ u' = .returning ∧ w' = w := by
 refine callsD_of_wpS Tryz.func90 rfl fun c₀ cs hu => ?_
 apply wpS_seq
 apply wpS_region
 simp [wpOpsS, go_sem, recoverD, hu, Tryz.ntmps90, Exit.thenS]
 simp only [Array.replicate_succ, Array.replicate_zero, List.push_toArray, List.append_toArray, sA, sB, sC, List.nil_append, List.cons_append]
 refine wpS_of_wp ?_
 go_wp2
 refine ⟨rfl, .returning, ?_, _, results_none rfl _ _ _, rfl, rfl, rfl⟩
 cases c₀
 simp_all
theorem catch_panicking (b : Nat) (x : Option Addr) (y : Int) (z : Int) (w : World) (hp : w.heap[b]? = some (.cells #[.pointer x] 95 (0, 0))) (hq : w.heap[b + 1]? = some (.cells #[.int .i64 y] 3 (0, 0))) (hr : w.heap[b + 1 + 1]? = some (.cells #[.int .u16 z] 31 (0, 0))) :
  CallsD Tryz.prog 90 #[.pointer (some ⟨b, 0, none⟩), .pointer (some ⟨b + 1, 0, none⟩), .pointer (some ⟨b + 1 + 1, 0, none⟩)] (.panicking [{ v := .iface 143 (.agg #[]), recovered := false }]) w fun e u' w' =>
   e = .returned (.tuple #[]) ∧ u' = .panicking [{ v := .iface 143 (.agg #[]), recovered := true }] ∧ w'.heap[b]? = some (.cells #[.pointer none] 95 (0, 0)) ∧ w'.heap[b + 1]? = some (.cells #[.int .i64 0] 3 (0, 0)) ∧ w'.heap[b + 1 + 1]? = some (.cells #[.int .u16 190] 31 (0, 0)) ∧ Below b w w' := by
 have c0 : w.cell? ⟨b, 0, none⟩ = some (.pointer x) := cell_of_heap hp rfl
 have f0 := frozen_of_heap (o := 0) hp
 have c1 : w.cell? ⟨b + 1, 0, none⟩ = some (.int .i64 y) := cell_of_heap hq rfl
 have f1 := frozen_of_heap (o := 0) hq
 have c2 : w.cell? ⟨b + 1 + 1, 0, none⟩ = some (.int .u16 z) := cell_of_heap hr rfl
 have f2 := frozen_of_heap (o := 0) hr
 have s0 := lt_of_heap hp
 have s1 := lt_of_heap hq
 have s2 := lt_of_heap hr
 have HP := Lib.hid hp
 have HQ := Lib.hid hq
 have HR := Lib.hid hr
 clear hp hq hr
 have hta : ∀ w, (Instr.typeAssert (.iface 143 (.agg #[])) 20 143 true).run Tryz.prog w = .ok (.tuple #[.agg #[], .bool true]) w := fun w => by kernel_rfl
 refine callsD_of_wpS Tryz.func90 rfl fun c₀ cs hu => ?_
 apply wpS_seq
 apply wpS_region
 simp [wpOpsS, go_sem, recoverD, hu, Tryz.ntmps90, Exit.thenS]
 simp only [Array.replicate_succ, Array.replicate_zero, List.push_toArray, List.append_toArray, sA, sB, sC, List.nil_append, List.cons_append]
 refine wpS_of_wp ?_
 go_wp2
 have hs : ∀ {v1 v2 v3 : Value}, (((w.setCell ⟨b, 0, none⟩ v1).setCell ⟨b + 1, 0, none⟩ v2).setCell ⟨b + 1 + 1, 0, none⟩ v3).heap.size = w.heap.size := by simp [World.setCell]
 refine ⟨rfl, _, rfl, _, results_none rfl _ _ _, rfl, rfl, ?_, ?_, ?_, ?_⟩
 ·exact (Below.heap_alloc _ _ _ (by rw [hs]; exact s0)).trans ((heap_set_ne (by omega)).trans ((heap_set_ne (by omega)).trans (heap_set_same HP.out)))
 ·exact (Below.heap_alloc _ _ _ (by rw [hs]; exact s1)).trans ((heap_set_ne (by omega)).trans (heap_set_same ((heap_set_ne (by omega)).trans HQ.out)))
 ·exact (Below.heap_alloc _ _ _ (by rw [hs]; exact s2)).trans (heap_set_same ((heap_set_ne (by omega)).trans ((heap_set_ne (by omega)).trans HR.out)))
 ·exact ((((Below.refl _ _).setCell (p := ⟨b, 0, none⟩) (Nat.le_refl _) _).setCell (p := ⟨b + 1, 0, none⟩) (Nat.le_succ _) _).setCell (p := ⟨b + 1 + 1, 0, none⟩) (by show b ≤ b + 1 + 1; omega) _).alloc (by rw [hs]; exact Nat.le_of_lt s0) _
theorem arity_no (B mb ms ma : Nat) (w : World) (hf : Fnd w B mb ms ma 0 (.slice none 0 0)) :
  Calls Tryz.prog 91 #[.pointer (some ⟨B, 0, none⟩), .agg #[.int .u8 0, .int .i64 0, .int .i64 0, .slice none 0 0, .slice none 0 0, .slice none 0 0, .slice none 0 0, .slice none 0 0, .slice none 0 0, .slice none 0 0, .int .i64 0, .int .i64 0, .slice none 0 0], .int .i64 1] w fun ev w' => ev = .panicked [{ v := .iface 143 (.agg #[]), recovered := false }] ∧ But B w w' := by
 have c0 : w.cell? ⟨B, 0, none⟩ = some (.int .i64 0) := cell_of_heap hf.at_ rfl
 have f0 : w.frozen? ⟨B, 0, none⟩ = false := frozen_of_heap hf.at_
 have sB := lt_of_heap hf.at_
 have HK : Hid (∀ W, Calls Tryz.prog 113 #[.int .u8 0, .int .i64 0] W fun ev w' => ev = .returned (.bool false) ∧ w' = W) := Lib.hid (fun W => kids_113 0 0 W (.inr (.inr ⟨rfl, rfl⟩)))
 have HN := Lib.hid need_no
 clear hf
 go_enter_defers Tryz.func91, Tryz.ntmps91
 go_wp2_with fail
 refine (HK.out _).mono ?_
 rintro ev w2 ⟨rfl, rfl⟩
 go_wp2_with fail
 refine (HN.out _).mono ?_
 rintro ev w3 ⟨rfl, rfl⟩
 go_wp2_with fail
 refine ⟨rfl, (But.of_below (Below.refl _ _)).set.trans (But.of_below ((Below.refl _ _).alloc (Nat.le_refl _) _))⟩
theorem allocs_heap : ∀ (os : List Obj) (w : World), (os.foldl World.alloc w).heap = w.heap ++ os.toArray
 | [], w => by simp
 | o :: os, w => by rw [List.foldl_cons, allocs_heap os, show (w.alloc o).heap = w.heap.push o from rfl]; simp
theorem allocs_at (os : List Obj) (w : World) (k : Nat) : (os.foldl World.alloc w).heap[w.heap.size + k]? = os[k]? := by
 rw [allocs_heap, Array.getElem?_append_right (by omega)]
 simp
theorem allocs_below : ∀ (os : List Obj) (w : World), Below w.heap.size w (os.foldl World.alloc w)
 | [], w => Below.refl _ _
 | o :: os, w => ((Below.refl _ _).alloc (Nat.le_refl _) o).trans ((allocs_below os (w.alloc o)).mono (by simp))
structure LkAt (w : World) (H B mb ms ma : Nat) (n kw : Int) (free : Value) (i a : Int) (W : World) : Prop where
 b0 : W.heap[H + 1]? = some (.cells #[.pointer (some ⟨B, 0, none⟩)] 95 (0, 0))
 b1 : W.heap[H + 1 + 1]? = some (.cells #[.int .i64 kw] 3 (0, 0))
 b2 : W.heap[H + 1 + 1 + 1]? = some (.cells #[.int .u16 0] 31 (0, 0))
 lo : w.heap.size ≤ H
 hi : H + 1 + 1 + 1 < B ∧ H + 1 + 1 + 1 < mb ∧ H + 1 + 1 + 1 < ms
 fnd : Fnd W B mb ms ma n free
 got : ∃ lo, H + 1 + 1 + 1 < lo ∧ Got W lo free i a
 low : Below w.heap.size w W
section
variable {w : World} {H B mb ms ma : Nat} {n kw : Int} {free : Value} {i a : Int} {W : World}
theorem LkAt.c0 (h : LkAt w H B mb ms ma n kw free i a W) : W.cell? ⟨H + 1, 0, none⟩ = some (.pointer (some ⟨B, 0, none⟩)) := cell_of_heap h.b0 rfl
theorem LkAt.c1 (h : LkAt w H B mb ms ma n kw free i a W) : W.cell? ⟨H + 1 + 1, 0, none⟩ = some (.int .i64 kw) := cell_of_heap h.b1 rfl
theorem LkAt.c2 (h : LkAt w H B mb ms ma n kw free i a W) : W.cell? ⟨H + 1 + 1 + 1, 0, none⟩ = some (.int .u16 0) := cell_of_heap h.b2 rfl
theorem LkAt.f0 (h : LkAt w H B mb ms ma n kw free i a W) : W.frozen? ⟨H + 1, 0, none⟩ = false := frozen_of_heap h.b0
theorem LkAt.f1 (h : LkAt w H B mb ms ma n kw free i a W) : W.frozen? ⟨H + 1 + 1, 0, none⟩ = false := frozen_of_heap h.b1
theorem LkAt.f2 (h : LkAt w H B mb ms ma n kw free i a W) : W.frozen? ⟨H + 1 + 1 + 1, 0, none⟩ = false := frozen_of_heap h.b2
theorem Got.set {lo b o : Nat} {v : Value} (h : Got W lo free i a) (hb : b < lo) : Got (W.setCell ⟨b, o, none⟩ v) lo free i a := by
 obtain ⟨g, cap, h1, h2, h3, h4⟩ := h
 exact ⟨g, cap, h1, h2, (cell_set_ne (by omega)).trans h3, (cell_set_ne (by omega)).trans h4⟩
theorem Fnd.set {b o : Nat} {v : Value} (h : Fnd W B mb ms ma n free) (h1 : b < B) (h2 : b < mb) (h3 : b < ms) : Fnd (W.setCell ⟨b, o, none⟩ v) B mb ms ma n free :=
 ⟨(heap_set_ne (by omega)).trans h.at_, (heap_set_ne (by omega)).trans h.bound, (heap_set_ne (by omega)).trans h.scope⟩
theorem LkAt.s0 (h : LkAt w H B mb ms ma n kw free i a W) : LkAt w H B mb ms ma n kw free i a (W.setCell ⟨H + 1, 0, none⟩ (.pointer (some ⟨B, 0, none⟩))) :=
 let ⟨l1, l2, l3⟩ := h.hi
 ⟨heap_set_same h.b0, (heap_set_ne (by omega)).trans h.b1, (heap_set_ne (by omega)).trans h.b2, h.lo, h.hi, h.fnd.set (by omega) (by omega) (by omega), let ⟨lo, g1, g2⟩ := h.got; ⟨lo, g1, g2.set (by omega)⟩, h.low.setCell (p := ⟨H + 1, 0, none⟩) (by have := h.lo; show w.heap.size ≤ H + 1; omega) _⟩
theorem LkAt.s1 (h : LkAt w H B mb ms ma n kw free i a W) : LkAt w H B mb ms ma n kw free i a (W.setCell ⟨H + 1 + 1, 0, none⟩ (.int .i64 kw)) :=
 let ⟨l1, l2, l3⟩ := h.hi
 ⟨(heap_set_ne (by omega)).trans h.b0, heap_set_same h.b1, (heap_set_ne (by omega)).trans h.b2, h.lo, h.hi, h.fnd.set (by omega) (by omega) (by omega), let ⟨lo, g1, g2⟩ := h.got; ⟨lo, g1, g2.set (by omega)⟩, h.low.setCell (p := ⟨H + 1 + 1, 0, none⟩) (by have := h.lo; show w.heap.size ≤ H + 1 + 1; omega) _⟩
theorem LkAt.s2 (h : LkAt w H B mb ms ma n kw free i a W) : LkAt w H B mb ms ma n kw free i a (W.setCell ⟨H + 1 + 1 + 1, 0, none⟩ (.int .u16 0)) :=
 let ⟨l1, l2, l3⟩ := h.hi
 ⟨(heap_set_ne (by omega)).trans h.b0, (heap_set_ne (by omega)).trans h.b1, heap_set_same h.b2, h.lo, h.hi, h.fnd.set (by omega) (by omega) (by omega), let ⟨lo, g1, g2⟩ := h.got; ⟨lo, g1, g2.set (by omega)⟩, h.low.setCell (p := ⟨H + 1 + 1 + 1, 0, none⟩) (by have := h.lo; show w.heap.size ≤ H + 1 + 1 + 1; omega) _⟩
theorem LkAt.kept {W' : World} (h : LkAt w H B mb ms ma n kw free i a W) (hb : Below W.heap.size W W') : LkAt w H B mb ms ma n kw free i a W' :=
 ⟨(hb.block _ (lt_of_heap h.b0)).trans h.b0, (hb.block _ (lt_of_heap h.b1)).trans h.b1, (hb.block _ (lt_of_heap h.b2)).trans h.b2, h.lo, h.hi, h.fnd.kept hb, let ⟨lo, g1, g2⟩ := h.got; ⟨lo, g1, g2.below hb⟩, h.low.trans (hb.mono h.low.size)⟩
theorem lk_first {w1 w2 : World} {n2 : Int} (eH : H = w.heap.size) (hB : H + 1 + 1 + 1 < B) (hmb : H + 1 + 1 + 1 < mb) (hms : H + 1 + 1 + 1 < ms) (hb1 : Below w.heap.size w w1) (t1 : w1.heap[H + 1]? = some (.cells #[.pointer (some ⟨B, 0, none⟩)] 95 (0, 0))) (t2 : w1.heap[H + 1 + 1]? = some (.cells #[.int .i64 0] 3 (0, 0))) (t3 : w1.heap[H + 1 + 1 + 1]? = some (.cells #[.int .u16 0] 31 (0, 0)))
  (hf : Fnd w2 B mb ms ma n2 free) (hg : Got w2 w1.heap.size free i a) (hb : But B w1 w2) (hs : H + 1 + 1 + 1 < w1.heap.size) : LkAt w H B mb ms ma n2 kw free i a (w2.setCell ⟨H + 1 + 1, 0, none⟩ (.int .i64 kw)) := by
 have u1 := (hb.block _ (lt_of_heap t1) (by omega)).trans t1
 have u2 := (hb.block _ (lt_of_heap t2) (by omega)).trans t2
 have u3 := (hb.block _ (lt_of_heap t3) (by omega)).trans t3
 have hl : w.heap.size ≤ H := by omega
 exact ⟨(heap_set_ne (by omega)).trans u1, heap_set_same u2, (heap_set_ne (by omega)).trans u3, hl, ⟨hB, hmb, hms⟩, hf.set (by omega) (by omega) (by omega), ⟨w1.heap.size, hs, hg.set (by omega)⟩,
  (hb1.trans (hb.below (by omega) hb1.size)).setCell (p := ⟨H + 1 + 1, 0, none⟩) (by show w.heap.size ≤ H + 1 + 1; omega) _⟩
end
theorem leaves_put {P : Program} {fn : Func} {tmps tmps' : Array Value} {R : Ending → World → Prop} (h : ∀ w, (results fn tmps').run P w = (results fn tmps).run P w) : ∀ (ds : List Deferred) (u : FrameMode) (w : World), Leaves P fn tmps' R ds u w → Leaves P fn tmps R ds u w
 | [], u, w, hl => by
  cases u with
  | returning => obtain ⟨v, h1, h2⟩ := hl; exact ⟨v, by rw [← h]; exact h1, h2⟩
  | panicking c => exact hl
  | run => exact hl
 | d :: ds, u, w, ⟨h0, fv, cap, f, args, h1, h2, h3⟩ => ⟨h0, fv, cap, f, args, h1, h2, h3.mono fun e u' w' hl => by
  cases e with
  | returned v => exact leaves_put h ds _ _ hl
  | panicked c => exact leaves_put h ds _ _ hl
  | outgrown => exact hl⟩
theorem panic_put {R : Ending → World → Prop} {K : Act → World → Prop} (t : Tmp) (ht : t = 22 ∨ t = 23) {v : Value} {c : List PanicEntry} {a : Act} {w : World} (h : Exit.then K (bodyPostD Tryz.prog Tryz.f60 R) (.panic c) (a.put (some t) v) w) : Exit.then K (bodyPostD Tryz.prog Tryz.f60 R) (.panic c) a w := by
 refine leaves_put (fun W => ?_) _ _ _ h
 rcases ht with rfl | rfl <;> simp [results, Tryz.f60, Act.put]
def LkPost (r : RT) (w : World) (ev : Ending) (w' : World) : Prop :=
 ∃ B mb ms ma n free, ev = .returned (.tuple #[.pointer (some ⟨B, 0, none⟩), .int .i64 r.wide, .int .u16 0]) ∧ Fnd w' B mb ms ma n free ∧ Got w' w.heap.size free r.getI r.getA ∧ Below w.heap.size w w'
theorem look_60 (r : RT) (cv kv : Value) (w : World) (hat : r.On (fun g => g < w.heap.size) w cv kv) (hok : r.ok) (hn : r.count ≤ 300) :
  Calls Tryz.prog 60 #[r.agg cv kv] w (LkPost r w) := by
 have hmm := @run_makeMap Tryz.prog
 have hmf : ∀ (fn : Fn) (first cap : Array Value) (w : World), (Instr.makeFunc fn first cap).run Tryz.prog w = .ok (.func fn first cap) w := fun _ _ _ _ => rfl
 obtain ⟨H, eH⟩ : ∃ H, H = w.heap.size := ⟨_, rfl⟩
 obtain ⟨w1, hw1⟩ : ∃ w1, w1 = (((((((w.alloc (.cells #[.int .u8 r.kind, .int .i64 r.ar, .int .i64 r.id, .slice none 0 0, cv, .slice none 0 0, .slice none 0 0, .slice none 0 0, .slice none 0 0, .slice none 0 0, .int .i64 0, .int .i64 0, kv] 56)).alloc (.cells #[.pointer (some ⟨w.heap.size + 1 + 1 + 1 + 1 + 1 + 1 + 1, 0, none⟩)] 95)).alloc (.cells #[.int .i64 0] 3)).alloc (.cells #[.int .u16 0] 31)).alloc (.map #[] 0)).alloc (.map #[] 0)).alloc (.map #[] 0)).alloc (.cells #[.int .i64 0, .map (some (w.heap.size + 1 + 1 + 1 + 1)), .map (some (w.heap.size + 1 + 1 + 1 + 1 + 1)), .map (some (w.heap.size + 1 + 1 + 1 + 1 + 1 + 1)), .slice none 0 0] 103) := ⟨_, rfl⟩
 have hall : w1 = [.cells #[.int .u8 r.kind, .int .i64 r.ar, .int .i64 r.id, .slice none 0 0, cv, .slice none 0 0, .slice none 0 0, .slice none 0 0, .slice none 0 0, .slice none 0 0, .int .i64 0, .int .i64 0, kv] 56, .cells #[.pointer (some ⟨w.heap.size + 1 + 1 + 1 + 1 + 1 + 1 + 1, 0, none⟩)] 95, .cells #[.int .i64 0] 3, .cells #[.int .u16 0] 31, .map #[] 0, .map #[] 0, .map #[] 0, .cells #[.int .i64 0, .map (some (w.heap.size + 1 + 1 + 1 + 1)), .map (some (w.heap.size + 1 + 1 + 1 + 1 + 1)), .map (some (w.heap.size + 1 + 1 + 1 + 1 + 1 + 1)), .slice none 0 0] 103].foldl World.alloc w := hw1
 have T := fun k => congrArg (fun W : World => W.heap[w.heap.size + k]?) hall
 simp only [allocs_at] at T
 rw [← eH] at T
 have hb1 : Below w.heap.size w w1 := by rw [hall]; exact allocs_below _ _
 have hf1 : Fnd w1 (H + 1 + 1 + 1 + 1 + 1 + 1 + 1) (H + 1 + 1 + 1 + 1) (H + 1 + 1 + 1 + 1 + 1) (H + 1 + 1 + 1 + 1 + 1 + 1) 0 (.slice none 0 0) := ⟨T 7, T 4, T 5⟩
 obtain ⟨B, eB⟩ : ∃ B, B = H + 1 + 1 + 1 + 1 + 1 + 1 + 1 := ⟨_, rfl⟩
 rw [← eB] at hf1
 have t1 : w1.heap[H + 1]? = some (.cells #[.pointer (some ⟨B, 0, none⟩)] 95 (0, 0)) := by rw [eB]; exact T 1
 have t2 : w1.heap[H + 1 + 1]? = some (.cells #[.int .i64 0] 3 (0, 0)) := T 2
 have t3 : w1.heap[H + 1 + 1 + 1]? = some (.cells #[.int .u16 0] 31 (0, 0)) := T 3
 have hpos := r.count_pos
 have hct := arity_91 B _ _ _ r cv kv 1 0 w1 ((hat.below hb1).wide fun g hg e => by omega) hok hf1 (by decide) (by omega) (by decide) (by omega)
 unfold RT.agg at hct
 have HCT := Lib.hid hct
 have HB1 := Lib.hid hb1
 have HT1 := Lib.hid t1
 have HT2 := Lib.hid t2
 have HT3 := Lib.hid t3
 have HW1 := Lib.hid hw1
 have EH := Lib.hid eH
 have EB := Lib.hid eB
 have HN := Lib.hid need_92
 clear hct hb1 t1 t2 t3 hw1 hall T hf1 hpos hat hok hn eH
 unfold RT.agg
 go_enter_defers Tryz.func60, Tryz.ntmps60
 go_wp2_with fail
 rw [← EH.out, ← EB.out]
 clear eB
 have hz := HW1.out
 rw [← EH.out, ← EB.out] at hz
 rw [← hz]
 clear hz HW1
 refine HCT.out.mono ?_
 rintro ev w2 ⟨rfl, free, hf2, hg2, hb2⟩
 obtain ⟨kw, ekw⟩ : ∃ kw, kw = r.wide := ⟨_, rfl⟩
 obtain ⟨n2, en2⟩ : ∃ n2, n2 = 0 + r.count := ⟨_, rfl⟩
 rw [← en2] at hf2
 rw [← ekw]
 have hk : LkAt w H B _ _ _ n2 kw free r.getI r.getA (w2.setCell ⟨H + 1 + 1, 0, none⟩ (.int .i64 kw)) := lk_first EH.out (by have := EB.out; omega) (by omega) (by omega) HB1.out HT1.out HT2.out HT3.out hf2 hg2 hb2 (by have := lt_of_heap HT3.out; omega)
 have hBH : H + 1 + 1 + 1 < B := by have := EB.out; omega
 have u1 := (hb2.block _ (lt_of_heap HT1.out) (by omega)).trans HT1.out
 have u2 := (hb2.block _ (lt_of_heap HT2.out) (by omega)).trans HT2.out
 obtain ⟨fg, fcap, efree⟩ : ∃ g cap, free = .slice (some ⟨g, 0, none⟩) 1 cap := by
  obtain ⟨g, cap, h, -⟩ := hg2
  exact ⟨g, cap, h⟩
 subst efree
 have q1 : w2.cell? ⟨H + 1, 0, none⟩ = some (.pointer (some ⟨B, 0, none⟩)) := cell_of_heap u1 rfl
 have q2 : w2.cell? ⟨H + 1 + 1, 0, none⟩ = some (.int .i64 0) := cell_of_heap u2 rfl
 have g2 : w2.frozen? ⟨H + 1 + 1, 0, none⟩ = false := frozen_of_heap u2
 have q4 : w2.cell? ⟨B, 4, none⟩ = some (.slice (some ⟨fg, 0, none⟩) 1 fcap) := cell_of_heap hf2.at_ rfl
 obtain ⟨w3, hw3⟩ : ∃ w3, w3 = w2.setCell ⟨H + 1 + 1, 0, none⟩ (.int .i64 kw) := ⟨_, rfl⟩
 rw [← hw3] at hk
 have h93 := let ⟨lo, _, hg⟩ := hk.got; contains_93 r.getI r.getA (H + 1) B _ _ _ n2 _ lo w3 hk.c0 hk.fnd hg
 have H93 := Lib.hid h93
 have HLK := Lib.hid hk
 have HW3 := Lib.hid hw3
 have EKW := Lib.hid ekw
 have n1 : B ≠ H + 1 + 1 := by omega
 clear hw3 hk h93 u1 u2 hf2 hg2 hb2 ekw en2 HCT HT1 HT2 HT3 HB1
 go_wp2_with fail
 rw [← HW3.out]
 refine H93.out.mono ?_
 rintro ev w4 ⟨rfl, hb4⟩
 have LK4 := Lib.hid (HLK.out.kept hb4)
 clear q1 q2 g2 q4 hb4 HLK H93 HW3
 go_wp2_with fail
 refine (HN.out _).mono ?_
 rintro ev w5 ⟨⟨v, rfl⟩, rfl⟩
 go_upto_region 5 with fail
 obtain ⟨wr, hwr⟩ : ∃ wr, wr = w5.drew := ⟨_, rfl⟩
 have LK0 := Lib.hid (show LkAt w H B _ _ _ n2 kw _ r.getI r.getA wr by rw [hwr]; exact LK4.out.kept (Below.refl _ _).drew)
 refine wp_region_held_drew (S := fun W => W.cell? ⟨H + 1, 0, none⟩ = some (.pointer (some ⟨B, 0, none⟩)) ∧ W.cell? ⟨H + 1 + 1, 0, none⟩ = some (.int .i64 kw)) (by kernel_rfl) (by rw [← hwr]; exact ⟨LK0.out.c0, LK0.out.c1⟩) (fun hHeld => ?_)
 rw [← hwr] at hHeld ⊢
 clear hwr LK4
 refine wpAnyH_take (i := 0) (oi := ⟨some 22, _, _, _, _, _⟩) (v := ?_) rfl (by kernel_rfl) (by kernel_rfl) (by kernel_rfl) (fun _ _ _ h => panic_put _ (by decide) h) (Or.inl ⟨by rfl, ?_⟩) (by assumption) ?_; rotate_left; (intro w hSw; (try dsimp only at hSw); go_simp; (try with_reducible rfl)); (try simp only [Act.put, sA, sB, sC])
 refine wpAnyH_take (i := 1) (oi := ⟨some 23, _, _, _, _, _⟩) (v := ?_) rfl (by kernel_rfl) (by kernel_rfl) (by kernel_rfl) (fun _ _ _ h => panic_put _ (by decide) h) (Or.inl ⟨by rfl, ?_⟩) (by assumption) ?_; rotate_left; (intro w hSw; (try dsimp only at hSw); go_simp; (try with_reducible rfl)); (try simp only [Act.put, sA, sB, sC])
 refine wpAnyH_ready (rs := [2]) (by kernel_rfl) (by simp) ?_
 refine AllReadyH.cons (o := ⟨none, _, _, _, _, _⟩) rfl (fun KK hK => ?_) (AllReadyH.nil)
 have xk := LK0.out.c0
 have xf := LK0.out.f0
 go_simp
 clear xk xf
 have LK1 := Lib.hid (LK0.out.s0)
 refine hK.out _ _ (⟨LK1.out.c0, LK1.out.c1⟩) (fun hHeld => ?_)
 clear hK KK
 skip
 refine wpAnyH_ready (rs := [3]) (by kernel_rfl) (by simp) ?_
 refine AllReadyH.cons (o := ⟨none, _, _, _, _, _⟩) rfl (fun KK hK => ?_) (AllReadyH.nil)
 have xk := LK1.out.c1
 have xf := LK1.out.f1
 go_simp
 clear xk xf
 have LK2 := Lib.hid (LK1.out.s1)
 refine hK.out _ _ (⟨LK2.out.c0, LK2.out.c1⟩) (fun hHeld => ?_)
 clear hK KK
 skip
 refine wpAnyH_ready (rs := [4]) (by kernel_rfl) (by simp) ?_
 refine AllReadyH.cons (o := ⟨none, _, _, _, _, _⟩) rfl (fun KK hK => ?_) (AllReadyH.nil)
 have xk := LK2.out.c2
 have xf := LK2.out.f2
 go_simp
 clear xk xf
 have LK3 := Lib.hid (LK2.out.s2)
 refine hK.out _ _ (⟨LK3.out.c0, LK3.out.c1⟩) (fun hHeld => ?_)
 clear hK KK
 skip
 refine wpAnyH_done (by kernel_rfl) ?_ _
 have y0 := LK3.out.c0
 have y1 := LK3.out.c1
 have y2 := LK3.out.c2
 go_wp2
 refine leaves_cons (f := 90) (args := #[.pointer (some ⟨H + 1, 0, none⟩), .pointer (some ⟨H + 1 + 1, 0, none⟩), .pointer (some ⟨H + 1 + 1 + 1, 0, none⟩)]) (by simp) (by simp [go_sem]) ?_
 refine (catch_idle _ _ _ _).mono ?_
 rintro e u' w9 ⟨rfl, rfl, rfl⟩
 refine ⟨.tuple #[.pointer (some ⟨B, 0, none⟩), .int .i64 kw, .int .u16 0], by simp [results, Tryz.f60, go_sem, y0, y1, y2], ?_⟩
 have hE := LK3.out
 exact ⟨B, _, _, _, n2, _, by rw [EKW.out], hE.fnd, let ⟨lo, h1, h2⟩ := hE.got; h2.lo (by have := hE.lo; omega), hE.low⟩
end Go.Proofs.YtmmhedlagnjbiaaGreatDoor
