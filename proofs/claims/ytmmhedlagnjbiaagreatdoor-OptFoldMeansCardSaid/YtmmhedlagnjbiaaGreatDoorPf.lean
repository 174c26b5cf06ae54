import Derived.Test.YtmmhedlagnjbiaaGreatDoorPd
import Derived.Test.YtmmhedlagnjbiaaGreatDoorGa
/- our texts, shortened by program (pack.py) -/
set_option maxRecDepth 100000
set_option maxHeartbeats 4000000
namespace Go.Proofs.YtmmhedlagnjbiaaGreatDoor
open Go.RowKit Go.Pen
attribute [local go_sem] Oper.semAt_some
def RT.wide : RT → Int
 | .leaf _ a _ => a
 | .proj cs _ => cs.length
def RT.getI : RT → Int
 | .leaf _ _ i => i
 | .proj _ k => k.getI
def RT.getA : RT → Int
 | .leaf _ a _ => a
 | .proj _ k => k.getA
def RT.count : RT → Int
 | .leaf _ _ _ => 1
 | .proj _ k => k.count + 1
def RT.ok : RT → Prop
 | .leaf kd a i => kd = 1 ∧ 0 ≤ a ∧ a ≤ 32 ∧ 0 ≤ i
 | .proj cs k => k.ok ∧ cs.length ≤ 32 ∧ cs ≠ [] ∧ ∀ c ∈ cs, 0 ≤ c ∧ c < k.wide
theorem RT.count_pos : ∀ r : RT, 1 ≤ r.count
 | .leaf _ _ _ => Int.le_refl _
 | .proj _ k => by have := k.count_pos; simp only [RT.count]; omega
theorem Fnd.count {w : World} {B mb ms ma : Nat} {n : Int} {free : Value} (h : Fnd w B mb ms ma n free) (m : Int) : Fnd (w.setCell ⟨B, 0, none⟩ (.int .i64 m)) B mb ms ma m free := by
 have n1 : mb ≠ B := fun e => by have h' := h.bound; rw [e, h.at_] at h'; cases h'
 have n2 : ms ≠ B := fun e => by have h' := h.scope; rw [e, h.at_] at h'; cases h'
 exact ⟨heap_set_same h.at_, (heap_set_ne n1).trans h.bound, (heap_set_ne n2).trans h.scope⟩
theorem But.kps {B : Nat} {w w' : World} (h : But B w w') : KpS (fun g => g = B) w w' := ⟨h.size, fun g _ _ _ hg hn => (h.block g (lt_of_heap hg) hn).trans hg⟩
theorem RT.wide_le : ∀ r : RT, r.ok → 0 ≤ r.wide ∧ r.wide ≤ 32
 | .leaf _ _ _, h => ⟨h.2.1, h.2.2.1⟩
 | .proj _ _, h => ⟨by simp only [RT.wide]; omega, by simp only [RT.wide]; have := h.2.1; omega⟩
theorem Got.lo {w : World} {lo lo' : Nat} {free : Value} {i a : Int} (h : Got w lo free i a) (hl : lo' ≤ lo) : Got w lo' free i a := by
 obtain ⟨g, cap, h1, h2, h3⟩ := h
 exact ⟨g, cap, h1, by omega, h3⟩
theorem Got.below {w w' : World} {lo : Nat} {free : Value} {i a : Int} (h : Got w lo free i a) (hb : Below w.heap.size w w') : Got w' lo free i a := by
 obtain ⟨g, cap, h1, h2, h3, h4⟩ := h
 have hg := World.block_lt_of_cell? w _ h3
 exact ⟨g, cap, h1, h2, cell_below hb hg h3, cell_below hb hg h4⟩
theorem bodyPostD_ret {P : Program} {fn : Func} {R : Ending → World → Prop} {a : Act} {w : World} {v : Value} (hr : (results fn a.tmps).run P w = .ok v w) (hd : a.defers = []) (hR : R (.returned v) w) : bodyPostD P fn R .ret a w := by
 simp only [bodyPostD, hd]
 simp [Leaves, hr]
 exact hR
def ArIn (k : RT) (B mb ms ma : Nat) (n : Int) (w w' : World) : Prop := ∃ free, Fnd w' B mb ms ma (n + k.count) free ∧ Got w' w.heap.size free k.getI k.getA ∧ But B w w'
def ArPost (r : RT) (B mb ms ma : Nat) (n : Int) (w : World) (ev : Ending) (w' : World) : Prop :=
 ev = .returned (.int .i64 r.wide) ∧ ∃ free, Fnd w' B mb ms ma (n + r.count) free ∧ Got w' w.heap.size free r.getI r.getA ∧ But B w w'
theorem arity_91 (B mb ms ma : Nat) : ∀ (r : RT) (cv kv : Value) (deep n : Int) (w : World), r.On (fun g => ¬ g = B) w cv kv → r.ok → Fnd w B mb ms ma n (.slice none 0 0) → 0 ≤ n → n + r.count ≤ 400 → 0 ≤ deep → deep + r.count ≤ 400 →
  Calls Tryz.prog 91 #[.pointer (some ⟨B, 0, none⟩), r.agg cv kv, .int .i64 deep] w (ArPost r B mb ms ma n w) := by
 intro r
 induction r with
 | leaf kd a i =>
  rintro cv kv deep n w ⟨rfl, rfl⟩ ⟨rfl, ha0, ha9, hi0⟩ hf hn0 hn hd0 hd
  simp only [RT.count] at hn hd
  have c0 : w.cell? ⟨B, 0, none⟩ = some (.int .i64 n) := cell_of_heap hf.at_ rfl
  have f0 : w.frozen? ⟨B, 0, none⟩ = false := frozen_of_heap hf.at_
  have sB := lt_of_heap hf.at_
  obtain ⟨H, eH⟩ : ∃ H, H = w.heap.size := ⟨_, rfl⟩
  obtain ⟨W1, hW1⟩ : ∃ W1, W1 = (w.setCell ⟨B, 0, none⟩ (.int .i64 (n + 1))).alloc (.cells #[.int .u8 1, .int .i64 a, .int .i64 i, .slice none 0 0, .slice none 0 0, .slice none 0 0, .slice none 0 0, .slice none 0 0, .slice none 0 0, .slice none 0 0, .int .i64 0, .int .i64 0, .slice none 0 0] 56) := ⟨_, rfl⟩
  have hne : B ≠ H := by omega
  have hsz : (w.setCell ⟨B, 0, none⟩ (.int .i64 (n + 1))).heap.size = H := by rw [eH]; simp [World.setCell]
  have hf1 := (hf.count (n + 1)).kept ((Below.refl _ _).alloc (Nat.le_refl _) (.cells #[.int .u8 1, .int .i64 a, .int .i64 i, .slice none 0 0, .slice none 0 0, .slice none 0 0, .slice none 0 0, .slice none 0 0, .slice none 0 0, .slice none 0 0, .int .i64 0, .int .i64 0, .slice none 0 0] 56))
  have hx1 : W1.heap[H]? = some (.cells #[.int .u8 1, .int .i64 a, .int .i64 i, .slice none 0 0, .slice none 0 0, .slice none 0 0, .slice none 0 0, .slice none 0 0, .slice none 0 0, .slice none 0 0, .int .i64 0, .int .i64 0, .slice none 0 0] 56 (0, 0)) := by rw [hW1, ← hsz]; exact heap_alloc_new _ _
  have hbt : But B w W1 := by rw [hW1]; exact (But.of_below (Below.refl _ _)).set.trans (But.of_below ((Below.refl _ _).alloc (Nat.le_refl _) _))
  rw [← hW1] at hf1
  clear hsz
  have p0 : W1.cell? ⟨B, 0, none⟩ = some (.int .i64 (n + 1)) := cell_of_heap hf1.at_ rfl
  have HF1 := Lib.hid hf1
  have HBT := Lib.hid hbt
  have HX1 := Lib.hid hx1
  have HNE := Lib.hid hne
  have EH := Lib.hid eH
  have HW1 := Lib.hid hW1
  have HZ : Hid (∀ W, Below W1.heap.size W1 W → W.cell? ⟨H, 0, none⟩ = some (.int .u8 1) ∧ W.cell? ⟨H, 1, none⟩ = some (.int .i64 a) ∧ W.cell? ⟨H, 2, none⟩ = some (.int .i64 i) ∧ W.cell? ⟨H, 3, none⟩ = some (.slice none 0 0) ∧ W.cell? ⟨H, 4, none⟩ = some (.slice none 0 0) ∧ W.cell? ⟨H, 5, none⟩ = some (.slice none 0 0) ∧ W.cell? ⟨H, 6, none⟩ = some (.slice none 0 0) ∧ W.cell? ⟨H, 7, none⟩ = some (.slice none 0 0) ∧ W.cell? ⟨H, 8, none⟩ = some (.slice none 0 0) ∧ W.cell? ⟨H, 9, none⟩ = some (.slice none 0 0) ∧ W.cell? ⟨H, 10, none⟩ = some (.int .i64 0) ∧ W.cell? ⟨H, 11, none⟩ = some (.int .i64 0) ∧ W.cell? ⟨H, 12, none⟩ = some (.slice none 0 0)) := Lib.hid fun W hb => by
   have h := (hb.block _ (lt_of_heap hx1)).trans hx1
   exact ⟨cell_of_heap h rfl, cell_of_heap h rfl, cell_of_heap h rfl, cell_of_heap h rfl, cell_of_heap h rfl, cell_of_heap h rfl, cell_of_heap h rfl, cell_of_heap h rfl, cell_of_heap h rfl, cell_of_heap h rfl, cell_of_heap h rfl, cell_of_heap h rfl, cell_of_heap h rfl⟩
  obtain ⟨z0, z1, z2, z3, z4, z5, z6, z7, z8, z9, z10, z11, z12⟩ := HZ.out W1 (Below.refl _ _)
  have HG : Hid (∀ W, Below W1.heap.size W1 W → Calls Tryz.prog 117 #[.pointer (some ⟨B, 0, none⟩), .agg #[.int .u8 1, .int .i64 a, .int .i64 i, .slice none 0 0, .slice none 0 0, .slice none 0 0, .slice none 0 0, .slice none 0 0, .slice none 0 0, .slice none 0 0, .int .i64 0, .int .i64 0, .slice none 0 0]] W fun ev w' => ev = .returned (.int .i64 a) ∧ ∃ free, Fnd w' B mb ms ma (n + 1) free ∧ Got w' W.heap.size free i a ∧ But B W w') :=
   Lib.hid fun W hb => get_117 a i B mb ms ma (n + 1) W (hf1.kept hb) hi0
  have HK : Hid (∀ W, Calls Tryz.prog 113 #[.int .u8 1, .int .i64 0] W fun ev w' => ev = .returned (.bool true) ∧ w' = W) := Lib.hid (fun W => kids_113 1 0 W (.inl ⟨rfl, rfl⟩))
  have HBr := Lib.hid (fun W => bare_leaf a i W)
  have HE := Lib.hid (fun W => empty_114 1 W)
  have HN := Lib.hid need_92
  have HBd := Lib.hid (fun W => bounded_116 a W ha0 ha9)
  clear hf hf1 hbt hx1 hne eH hW1
  rw [show (RT.leaf 1 a i).agg (.slice none 0 0) (.slice none 0 0) = .agg #[.int .u8 1, .int .i64 a, .int .i64 i, .slice none 0 0, .slice none 0 0, .slice none 0 0, .slice none 0 0, .slice none 0 0, .slice none 0 0, .slice none 0 0, .int .i64 0, .int .i64 0, .slice none 0 0] from rfl]
  go_enter_defers Tryz.func91, Tryz.ntmps91
  go_wp2_with fail
  rw [← HW1.out, ← EH.out]
  refine (HK.out W1).mono ?_
  rintro ev w2 ⟨rfl, rfl⟩
  go_wp2_with fail
  refine (HBr.out _).mono ?_
  rintro ev w3 ⟨rfl, hb3⟩
  clear p0 z0 z1 z2 z3 z4 z5 z6 z7 z8 z9 z10 z11 z12
  obtain ⟨z0, z1, z2, z3, z4, z5, z6, z7, z8, z9, z10, z11, z12⟩ := HZ.out w3 hb3
  have HB3 := Lib.hid hb3
  clear hb3
  go_wp2_with fail
  refine (HE.out _).mono ?_
  rintro ev w4 ⟨rfl, hb4⟩
  have HB4 := Lib.hid (HB3.out.trans (hb4.mono HB3.out.size))
  clear hb4 HB3 z0 z1 z2 z3 z4 z5 z6 z7 z8 z9 z10 z11 z12
  obtain ⟨z0, z1, z2, z3, z4, z5, z6, z7, z8, z9, z10, z11, z12⟩ := HZ.out w4 HB4.out
  go_wp2_with fail
  refine (HN.out _).mono ?_
  rintro ev w5 ⟨⟨v, rfl⟩, rfl⟩
  go_wp2_with fail
  refine (HG.out _ HB4.out).mono ?_
  rintro ev w6 ⟨rfl, free, hf6, hg6, hb6⟩
  have HF6 := Lib.hid hf6
  have HG6 := Lib.hid hg6
  have HB6 := Lib.hid hb6
  clear hf6 hg6 hb6 z0 z1 z2 z3 z4 z5 z6 z7 z8 z9 z10 z11 z12
  go_wp2_with fail
  refine (HBd.out _).mono ?_
  rintro ev w7 ⟨rfl, rfl⟩
  go_wp2_with fail
  refine bodyPostD_ret (results_tmp rfl _ _ _) rfl ⟨rfl, free, HF6.out, HG6.out.lo (by have := HBT.out.size; have := HB4.out.size; omega), HBT.out.trans ((But.of_below HB4.out).trans HB6.out)⟩
 | proj cs k ih =>
  rintro cv kv deep n w ⟨cb, cc, kb, kc, ccv, ckv, rfl, rfl, hSc, hSk, hcc, hkc, hl9, hcs, hkk, hon⟩ ⟨hok, hcl, hcn, hcin⟩ hf hn0 hn hd0 hd
  obtain ⟨⟨xa, xn, xc, rfl⟩, ya, yn, yc, rfl⟩ := hon.kids
  have hkp := k.count_pos
  simp only [RT.count] at hn hd
  have hwd := k.wide_le hok
  have hcbl : cb < w.heap.size := by
   cases cs with
   | nil => exact absurd rfl hcn
   | cons c cs => exact World.block_lt_of_cell? w _ (hcs 0 c rfl)
  have c0 : w.cell? ⟨B, 0, none⟩ = some (.int .i64 n) := cell_of_heap hf.at_ rfl
  have f0 : w.frozen? ⟨B, 0, none⟩ = false := frozen_of_heap hf.at_
  have sB := lt_of_heap hf.at_
  obtain ⟨H, eH⟩ : ∃ H, H = w.heap.size := ⟨_, rfl⟩
  obtain ⟨W1, hW1⟩ : ∃ W1, W1 = (w.setCell ⟨B, 0, none⟩ (.int .i64 (n + 1))).alloc (.cells #[.int .u8 5, .int .i64 0, .int .i64 0, .slice none 0 0, .slice (some ⟨cb, 0, none⟩) cs.length cc, .slice none 0 0, .slice none 0 0, .slice none 0 0, .slice none 0 0, .slice none 0 0, .int .i64 0, .int .i64 0, .slice (some ⟨kb, 0, none⟩) 1 kc] 56) := ⟨_, rfl⟩
  have hne : B ≠ H := by omega
  have hsz : (w.setCell ⟨B, 0, none⟩ (.int .i64 (n + 1))).heap.size = H := by rw [eH]; simp [World.setCell]
  have hf1 := (hf.count (n + 1)).kept ((Below.refl _ _).alloc (Nat.le_refl _) (.cells #[.int .u8 5, .int .i64 0, .int .i64 0, .slice none 0 0, .slice (some ⟨cb, 0, none⟩) cs.length cc, .slice none 0 0, .slice none 0 0, .slice none 0 0, .slice none 0 0, .slice none 0 0, .int .i64 0, .int .i64 0, .slice (some ⟨kb, 0, none⟩) 1 kc] 56))
  have hx1 : W1.heap[H]? = some (.cells #[.int .u8 5, .int .i64 0, .int .i64 0, .slice none 0 0, .slice (some ⟨cb, 0, none⟩) cs.length cc, .slice none 0 0, .slice none 0 0, .slice none 0 0, .slice none 0 0, .slice none 0 0, .int .i64 0, .int .i64 0, .slice (some ⟨kb, 0, none⟩) 1 kc] 56 (0, 0)) := by rw [hW1, ← hsz]; exact heap_alloc_new _ _
  have hbt : But B w W1 := by rw [hW1]; exact (But.of_below (Below.refl _ _)).set.trans (But.of_below ((Below.refl _ _).alloc (Nat.le_refl _) _))
  rw [← hW1] at hf1
  clear hsz
  have p0 : W1.cell? ⟨B, 0, none⟩ = some (.int .i64 (n + 1)) := cell_of_heap hf1.at_ rfl
  have HF1 := Lib.hid hf1
  have HBT := Lib.hid hbt
  have HX1 := Lib.hid hx1
  have HNE := Lib.hid hne
  have EH := Lib.hid eH
  have HW1 := Lib.hid hW1
  have HZ : Hid (∀ W, Below W1.heap.size W1 W → W.cell? ⟨H, 0, none⟩ = some (.int .u8 5) ∧ W.cell? ⟨H, 1, none⟩ = some (.int .i64 0) ∧ W.cell? ⟨H, 2, none⟩ = some (.int .i64 0) ∧ W.cell? ⟨H, 3, none⟩ = some (.slice none 0 0) ∧ W.cell? ⟨H, 4, none⟩ = some (.slice (some ⟨cb, 0, none⟩) cs.length cc) ∧ W.cell? ⟨H, 5, none⟩ = some (.slice none 0 0) ∧ W.cell? ⟨H, 6, none⟩ = some (.slice none 0 0) ∧ W.cell? ⟨H, 7, none⟩ = some (.slice none 0 0) ∧ W.cell? ⟨H, 8, none⟩ = some (.slice none 0 0) ∧ W.cell? ⟨H, 9, none⟩ = some (.slice none 0 0) ∧ W.cell? ⟨H, 10, none⟩ = some (.int .i64 0) ∧ W.cell? ⟨H, 11, none⟩ = some (.int .i64 0) ∧ W.cell? ⟨H, 12, none⟩ = some (.slice (some ⟨kb, 0, none⟩) 1 kc)) := Lib.hid fun W hb => by
   have h := (hb.block _ (lt_of_heap hx1)).trans hx1
   exact ⟨cell_of_heap h rfl, cell_of_heap h rfl, cell_of_heap h rfl, cell_of_heap h rfl, cell_of_heap h rfl, cell_of_heap h rfl, cell_of_heap h rfl, cell_of_heap h rfl, cell_of_heap h rfl, cell_of_heap h rfl, cell_of_heap h rfl, cell_of_heap h rfl, cell_of_heap h rfl⟩
  obtain ⟨z0, z1, z2, z3, z4, z5, z6, z7, z8, z9, z10, z11, z12⟩ := HZ.out W1 (Below.refl _ _)
  have HI : Hid (∀ W, But B w W → Fnd W B mb ms ma (n + 1) (.slice none 0 0) → Calls Tryz.prog 91 #[.pointer (some ⟨B, 0, none⟩), .agg #[.int .u8 k.kind, .int .i64 k.ar, .int .i64 k.id, .slice none 0 0, .slice xa xn xc, .slice none 0 0, .slice none 0 0, .slice none 0 0, .slice none 0 0, .slice none 0 0, .int .i64 0, .int .i64 0, .slice ya yn yc], .int .i64 (deep + 1)] W (ArPost k B mb ms ma (n + 1) W)) :=
   Lib.hid fun W hb h => ih _ _ (deep + 1) (n + 1) W (hon.kps hb.kps) hok h (by omega) (by omega) (by omega) (by omega)
  have HKC : Hid (∀ W, But B w W → W.cell? ⟨kb, 0, none⟩ = some (.int .u8 k.kind) ∧ W.cell? ⟨kb, 1, none⟩ = some (.int .i64 k.ar) ∧ W.cell? ⟨kb, 2, none⟩ = some (.int .i64 k.id) ∧ W.cell? ⟨kb, 3, none⟩ = some (.slice none 0 0) ∧ W.cell? ⟨kb, 4, none⟩ = some (.slice xa xn xc) ∧ W.cell? ⟨kb, 5, none⟩ = some (.slice none 0 0) ∧ W.cell? ⟨kb, 6, none⟩ = some (.slice none 0 0) ∧ W.cell? ⟨kb, 7, none⟩ = some (.slice none 0 0) ∧ W.cell? ⟨kb, 8, none⟩ = some (.slice none 0 0) ∧ W.cell? ⟨kb, 9, none⟩ = some (.slice none 0 0) ∧ W.cell? ⟨kb, 10, none⟩ = some (.int .i64 0) ∧ W.cell? ⟨kb, 11, none⟩ = some (.int .i64 0) ∧ W.cell? ⟨kb, 12, none⟩ = some (.slice ya yn yc)) := Lib.hid fun W hb => hkk.kps hb.kps hSk
  have HIn : Hid (∀ W, But B w W → Ints W cb cs) := Lib.hid fun W hb i c hi => hb.kps.cell (hcs i c hi) hSc
  obtain ⟨kw, ekw⟩ : ∃ kw, kw = k.wide := ⟨_, rfl⟩
  rw [← ekw] at hwd hcin
  have EKW := Lib.hid ekw
  have HOw : Hid (∀ W la lc, But B w W → Calls Tryz.prog 123 #[.agg #[.int .u8 5, .int .i64 0, .int .i64 0, .slice none 0 0, .slice (some ⟨cb, 0, none⟩) cs.length cc, .slice none 0 0, .slice none 0 0, .slice none 0 0, .slice none 0 0, .slice none 0 0, .int .i64 0, .int .i64 0, .slice (some ⟨kb, 0, none⟩) 1 kc], .slice la 1 lc, .int .i64 kw] W fun ev w' => ev = .returned (.int .i64 cs.length) ∧ Below W.heap.size W w') :=
   Lib.hid fun W la lc hb => own_123 kw cb cc cs (some ⟨kb, 0, none⟩) 1 kc la 1 lc W (HIn.out W hb) (Nat.lt_of_lt_of_le hcbl hb.size) hl9 hcin
  have HK : Hid (∀ W, Calls Tryz.prog 113 #[.int .u8 5, .int .i64 1] W fun ev w' => ev = .returned (.bool true) ∧ w' = W) := Lib.hid (fun W => kids_113 5 1 W (.inr (.inl ⟨rfl, rfl⟩)))
  have HBr := Lib.hid (fun W => bare_proj (some ⟨cb, 0, none⟩) cs.length cc (some ⟨kb, 0, none⟩) 1 kc W)
  have HE := Lib.hid (fun W => empty_114 5 W)
  have HN := Lib.hid need_92
  have HBd := Lib.hid (fun W => bounded_116 cs.length W (by omega) (by omega))
  obtain ⟨i0, hi0, hz0, hz1, hz2⟩ := info_parts info3
  have hn9 : n + 1 ≤ 400 := by omega
  have hd9 : deep + 1 ≤ 400 := by omega
  clear hf hf1 hbt hx1 hne eH hW1 ih hon hok hkk hcs hcin hcbl hcn hSc hSk hkc hkp hn hd ekw
  rw [show (RT.proj cs k).agg (.slice (some ⟨cb, 0, none⟩) cs.length cc) (.slice (some ⟨kb, 0, none⟩) 1 kc) = .agg #[.int .u8 5, .int .i64 0, .int .i64 0, .slice none 0 0, .slice (some ⟨cb, 0, none⟩) cs.length cc, .slice none 0 0, .slice none 0 0, .slice none 0 0, .slice none 0 0, .slice none 0 0, .int .i64 0, .int .i64 0, .slice (some ⟨kb, 0, none⟩) 1 kc] from rfl]
  obtain ⟨K, eK⟩ : ∃ K, K = cs.length := ⟨_, rfl⟩
  simp only [← eK] at HZ HX1 HOw HBr HBd z4 HW1 hcc hl9 hcl ⊢
  have EK := Lib.hid eK
  clear eK
  go_enter_defers Tryz.func91, Tryz.ntmps91
  go_wp2_with fail
  rw [← HW1.out, ← EH.out]
  refine (HK.out W1).mono ?_
  rintro ev w2 ⟨rfl, rfl⟩
  go_wp2_with fail
  refine (HBr.out _).mono ?_
  rintro ev w3 ⟨rfl, hb3⟩
  clear p0 z0 z1 z2 z3 z4 z5 z6 z7 z8 z9 z10 z11 z12
  obtain ⟨z0, z1, z2, z3, z4, z5, z6, z7, z8, z9, z10, z11, z12⟩ := HZ.out w3 hb3
  have HB3 := Lib.hid hb3
  clear hb3
  go_wp2_with fail
  refine (HE.out _).mono ?_
  rintro ev w4 ⟨rfl, hb4⟩
  have HB4 := Lib.hid (HB3.out.trans (hb4.mono HB3.out.size))
  clear hb4 HB3 z0 z1 z2 z3 z4 z5 z6 z7 z8 z9 z10 z11 z12
  obtain ⟨z0, z1, z2, z3, z4, z5, z6, z7, z8, z9, z10, z11, z12⟩ := HZ.out w4 HB4.out
  go_wp2_with fail
  refine (HN.out _).mono ?_
  rintro ev w5 ⟨⟨v, rfl⟩, rfl⟩
  go_wp2_with fail
  have HX5 := Lib.hid ((HB4.out.block _ (lt_of_heap HX1.out)).trans HX1.out)
  have HB5 : Hid (But B w w5) := Lib.hid (HBT.out.trans (But.of_below HB4.out))
  have HF5 := Lib.hid (HF1.out.kept HB4.out)
  clear HF1 HB4 HBT HX1
  go_loopg [8, 9, 105] 1 (fun g s8 s9 s105 wr => (g = 1 ∧ s8 = .slice none 0 0 ∧ s9 = .int .i64 0 ∧ s105 = .int .i64 0 ∧ wr = w5) ∨ (g = 0 ∧ ∃ la lc, s8 = .slice la 1 lc ∧ s9 = .int .i64 kw ∧ s105 = .int .i64 1 ∧ ArIn k B mb ms ma (n + 1) w5 wr))
  case atStart => exact .inl ⟨rfl, rfl, rfl, rfl, rfl⟩
  case round =>
   rcases hrel with ⟨rfl, rfl, rfl, rfl, rfl⟩ | ⟨rfl, la, lc, rfl, rfl, rfl, har⟩
   ·have hbw := HB5.out
    have hfr := HF5.out
    clear c0 f0 sB z0 z1 z2 z3 z4 z5 z6 z7 z8 z9 z10 z11 z12
    obtain ⟨z0, z1, z2, z3, z4, z5, z6, z7, z8, z9, z10, z11, z12⟩ := HKC.out wr hbw
    have sK : kb < wr.heap.size := World.block_lt_of_cell? wr _ z0
    have hct := HI.out (wr.alloc (.cells #[.int .u8 k.kind, .int .i64 k.ar, .int .i64 k.id, .slice none 0 0, .slice xa xn xc, .slice none 0 0, .slice none 0 0, .slice none 0 0, .slice none 0 0, .slice none 0 0, .int .i64 0, .int .i64 0, .slice ya yn yc] 56)) (hbw.trans (But.of_below ((Below.refl _ _).alloc (Nat.le_refl _) _))) (hfr.kept ((Below.refl _ _).alloc (Nat.le_refl _) _))
    have hb6 : But B wr (wr.alloc (.cells #[.int .u8 k.kind, .int .i64 k.ar, .int .i64 k.id, .slice none 0 0, .slice xa xn xc, .slice none 0 0, .slice none 0 0, .slice none 0 0, .slice none 0 0, .slice none 0 0, .int .i64 0, .int .i64 0, .slice ya yn yc] 56)) := But.of_below ((Below.refl _ _).alloc (Nat.le_refl _) _)
    have HCT := Lib.hid hct
    have HB6 := Lib.hid hb6
    clear hct hb6 hbw hfr
    go_wp2_with fail
    refine HCT.out.mono ?_
    rintro ev w6 ⟨rfl, free, hf6, hg6, hb7⟩
    rw [← EKW.out]
    have HF6 := Lib.hid hf6
    have HG6 := Lib.hid (hg6.lo HB6.out.size)
    have HB7 := Lib.hid (HB6.out.trans hb7)
    clear hf6 hg6 hb7 HCT HB6 z0 z1 z2 z3 z4 z5 z6 z7 z8 z9 z10 z11 z12 sK
    go_wp2_with (at_builtin; go_must (refine wpList_append_own _ rfl _ _ 49 rfl w6.heap.size 3 i0 (.int .i64 0) 1 8 Tryz.underlying49 hi0 hz0 hz1 hz2 rfl (by decide) (.slice none 0 0) 0 [] rfl (World.ownsRow_nil _ _ _ _) ⟨w6.heap.size, 0, none⟩ 1 1 [.int .i64 kw] rfl rfl ?c1 ?c2 ?c3 ?c4 ?c5 ?_))
    case c1 =>
     intro j u hj
     rw [add_lit, Nat.zero_add]
     exact cell_of_heap (heap_alloc_new w6 _) (by rw [List.getElem?_toArray]; exact hj)
    case c2 => intro u hu; simp at hu; subst hu; rfl
    case c3 => unfold maxLen; omega
    case c4 => omega
    case c5 => simp
    intro v' w8 hown' hgrow _
    obtain ⟨a', c', rfl⟩ := ownsRow_slice hown'
    have hb8 : Below w6.heap.size w6 w8 := ((Below.refl _ _).alloc (Nat.le_refl _) _).grown hgrow (by simp) (fun g hg => by cases hg)
    have HAR : Hid (ArIn k B mb ms ma (n + 1) wr w8) := Lib.hid ⟨free, HF6.out.kept hb8, HG6.out.below hb8, HB7.out.trans (But.of_below hb8)⟩
    clear hown' hgrow hb8 HF6 HG6 HB7
    go_wp2_with fail
    go_roundg 0
    case measure => omega
    case rel => exact .inr ⟨rfl, a', c', rfl, by go_num, by go_num, HAR.out⟩
   ·obtain ⟨free, hf6, hg6, hb6⟩ := har
    have HF6 := Lib.hid hf6
    have HG6 := Lib.hid hg6
    have HB6 := Lib.hid hb6
    have hbw := HB5.out.trans hb6
    have hxr := (hb6.block H (lt_of_heap HX5.out) HNE.out.symm).trans HX5.out
    clear c0 f0 sB z0 z1 z2 z3 z4 z5 z6 z7 z8 z9 z10 z11 z12
    obtain ⟨z0, z1, z2, z3, z4, z5, z6, z7, z8, z9, z10, z11, z12⟩ := cs13 hxr
    have HOC := Lib.hid (HOw.out wr la lc hbw)
    have HBW := Lib.hid hbw
    clear hf6 hg6 hb6 hbw hxr
    go_wp2_with fail
    refine HOC.out.mono ?_
    rintro ev w9 ⟨rfl, hb9⟩
    have HB9 := Lib.hid hb9
    clear hb9 z0 z1 z2 z3 z4 z5 z6 z7 z8 z9 z10 z11 z12
    go_wp2_with fail
    refine (HBd.out _).mono ?_
    rintro ev w10 ⟨rfl, rfl⟩
    go_wp2_with fail
    refine bodyPostD_ret (results_tmp rfl _ _ _) rfl ⟨?_, free, ?_, (HG6.out.lo HB5.out.size).below HB9.out, HBW.out.trans (But.of_below HB9.out)⟩
    ·rw [EK.out]; rfl
    ·have h := HF6.out.kept HB9.out
     rw [show n + (RT.proj cs k).count = n + 1 + k.count by simp only [RT.count]; omega]
     exact h
end Go.Proofs.YtmmhedlagnjbiaaGreatDoor
