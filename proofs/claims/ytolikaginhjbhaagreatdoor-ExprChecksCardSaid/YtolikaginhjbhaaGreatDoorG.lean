import Derived.Test.YtolikaginhjbhaaGreatDoorF
import Derived.Laws.EntriesVeiled
/- expr.parts, as an iterator. -/
namespace Go.Proofs.YtolikaginhjbhaaGreatDoor
open Go.RowKit Go.Pen Go.Shelf
attribute [local go_sem] Oper.semAt_some

set_option maxRecDepth 100000 in
set_option maxHeartbeats 1000000 in
theorem parts_94 (F : Fence) (hd : F.depth = none) (n : Nat) (h94 : F.fn 94) (h95 : F.fn 95) (hro : F.round = none) (l Be : Nat) (S : Nat → Prop) (e : ET) (a : Option Addr) (cc : Nat) (hfit : e.fits) (J Jx : List Part → World → Prop) (hJ : ∀ pre W o, J pre W → J pre (W.alloc o))
    (hY : ∀ pre x W, J pre W → pre.length < (e.pre 1).length → YieldAt F (n - 1) Tryz.prog l (Part.encs x) W fun ev W' => (ev = .returned (.bool true) ∧ J (pre ++ [x]) W' ∧ KpS S W W') ∨ (ev = .returned (.bool false) ∧ Jx (pre ++ [x]) W'))
    (W : World) (hBe : KidCells W Be 0 e (.slice a e.kids.length cc)) (hfresh : ∀ g, W.heap.size ≤ g → ¬ S g) (hat : e.On (fun g => ¬ S g) W (.slice a e.kids.length cc)) (h0 : J [] W) :
    CallsIn F n Tryz.prog 94 #[.func (.yield l) #[] #[], .pointer (some ⟨Be, 0, none⟩)] W fun ev W' => (∃ v, ev = .returned v) ∧ ((∃ ps, ps.map Part.core = e.pre 1 ∧ J ps W') ∨ (∃ ps, ps.map Part.core <+: e.pre 1 ∧ Jx ps W')) := by
  have hdd : ∀ k : Nat, (F.depth.isSome = true → 1 ≤ k) := fun k h => by rw [hd] at h; cases h
  obtain ⟨W1, hW1⟩ : ∃ W1, W1 = W.alloc (.cells #[.func (.yield l) #[] #[]] 151) := ⟨_, rfl⟩
  obtain ⟨W2, hW2⟩ : ∃ W2, W2 = W1.alloc (.cells #[.func (.func 95) #[] #[.pointer (some ⟨W.heap.size, 0, none⟩), .pointer (some ⟨W.heap.size + 1, 0, none⟩)]] 86) := ⟨_, rfl⟩
  have hs1 : W1.heap.size = W.heap.size + 1 := by rw [hW1]; simp
  have k1 : KpS S W W1 := by rw [hW1]; exact KpS.alloc _ _ _
  have k2 : KpS S W1 W2 := by rw [hW2]; exact KpS.alloc _ _ _
  have k := k1.trans k2
  have c1 : W2.cell? ⟨W.heap.size, 0, none⟩ = some (.func (.yield l) #[] #[]) := k2.cell (by rw [hW1]; exact cell_of_heap (heap_alloc_new _ _) rfl) (hfresh _ (Nat.le_refl _))
  have c2 : W2.cell? ⟨W.heap.size + 1, 0, none⟩ = some (.func (.func 95) #[] #[.pointer (some ⟨W.heap.size, 0, none⟩), .pointer (some ⟨W.heap.size + 1, 0, none⟩)]) := by
    rw [hW2, ← hs1]; exact cell_of_heap (heap_alloc_new _ _) rfl
  have hj : J [] W2 := by rw [hW2, hW1]; exact hJ _ _ _ (hJ _ _ _ h0)
  have hct := walk_95 F hd h95 hro l (e.pre 1).length (W.heap.size + 1) W.heap.size S (hfresh _ (Nat.le_succ _)) (hfresh _ (Nat.le_refl _)) J Jx hJ (fun m pre x W hj hl => YieldAt.anyDepth hd m (hY pre x W hj hl)) e _ 1 (n - 1) [] W2 (by decide) hfit (hat.kps k) (fun g hg => hfresh g (Nat.le_trans k.1 hg)) c1 c2 hj (by simp)
  obtain ⟨z0, z1, z2, z3, z4, z5, z6⟩ := hBe
  have sB : Be < W.heap.size := World.block_lt_of_cell? W _ z0
  unfold ET.agg at hct
  rw [hW2, hW1, show ((1 : Nat) : Int) = 1 from rfl] at hct
  have HCT := Lib.hid hct
  clear hct hj c1 c2 k k1 k2 hs1 hW1 hW2 hat hY hJ h0 hfresh
  refine callsIn_of_wp Tryz.func94 rfl h94 ?_ hro
  simp only [Tryz.ntmps94, List.size_toArray, List.length_cons, List.length_nil, Nat.reduceAdd, Nat.reduceSub, Array.replicate_succ, Array.replicate_zero, List.push_toArray, List.append_toArray, List.nil_append, List.cons_append]
  gi_wp2_with fail
  refine HCT.out.mono ?_
  rintro ev W5 (⟨rfl, ps, hp, hj5, -⟩ | ⟨rfl, ps, hp, hx5⟩)
  · gi_wp2_with fail
    go_end0
    exact ⟨⟨_, rfl⟩, .inl ⟨ps, hp, by simpa using hj5⟩⟩
  · gi_wp2_with fail
    go_end0
    exact ⟨⟨_, rfl⟩, .inr ⟨ps, hp, by simpa using hx5⟩⟩

set_option maxRecDepth 100000 in
set_option maxHeartbeats 1000000 in
theorem parts_50 (F : Fence) (n : Nat) (h50 : F.fn 50) (hro : F.round = none) (e : ET) (a : Option Addr) (cc : Nat) (w : World) :
    CallsIn F n Tryz.prog 50 #[e.agg (.slice a e.kids.length cc)] w fun ev w' => ev = .returned (.func (.func 94) #[] #[.pointer (some ⟨w.heap.size, 0, none⟩)]) ∧ w' = w.alloc (.cells (e.cells (.slice a e.kids.length cc)).toArray 27) := by
  unfold ET.agg ET.cells
  refine callsIn_of_wp Tryz.func50 rfl h50 ?_ hro
  simp only [Tryz.ntmps50, List.size_toArray, List.length_cons, List.length_nil, Nat.reduceAdd, Nat.reduceSub, Array.replicate_succ, Array.replicate_zero, List.push_toArray, List.append_toArray, List.nil_append, List.cons_append]
  gi_wp2_with fail
  go_ret
  exact ⟨rfl, rfl⟩

/-- expr.parts hands back a value that tells all parts, in their order; or some of them -/
theorem parts_stops (F : Fence) (hd : F.depth = none) (n : Nat) (h94 : F.fn 94) (h95 : F.fn 95) (hro : F.round = none) (Be : Nat) (S : Nat → Prop) (e : ET) (a : Option Addr) (cc : Nat) (hfit : e.fits) (w : World)
    (hBe : KidCells w Be 0 e (.slice a e.kids.length cc)) (hS : ∀ g, S g → g < w.heap.size) (hat : e.On (fun g => ¬ S g) w (.slice a e.kids.length cc)) :
    SeqStopsK F n Tryz.prog 94 #[.pointer (some ⟨Be, 0, none⟩)] Part.encs (KpS S) (fun ps => ps.map Part.core = e.pre 1) (fun ps => ps.map Part.core <+: e.pre 1) (e.pre 1).length w := fun l J Jx W hW hJ _ hY h0 =>
  parts_94 F hd n h94 h95 hro l Be S e a cc hfit J Jx (fun pre W' o hj => hJ pre W' _ none hj (World.grownBy_alloc W' o none) (fun r er => by cases er)) hY W (hBe.below hW) (fun g hg hs => by have := hS g hs; have := hW.size; omega) (hat.below hW) h0
end Go.Proofs.YtolikaginhjbhaaGreatDoor
