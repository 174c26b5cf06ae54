import Derived.Test.YtmmhedlagnjbiaaGreatDoorPi
/- our texts, shortened by program (pack.py) -/
set_option maxRecDepth 100000
set_option maxHeartbeats 4000000
namespace Go.Proofs.YtmmhedlagnjbiaaGreatDoor
open Go.RowKit Go.Pen
attribute [local go_sem] Oper.semAt_some
theorem RT.On.frame {S S' : Nat → Prop} {w w' : World} (hS : ∀ g, S g → S' g) (hf : ∀ g, S g → g < w.heap.size → w'.heap[g]? = w.heap[g]?) : ∀ {r : RT} {cv kv : Value}, r.On S w cv kv → r.On S' w' cv kv
 | .leaf _ _ _, _, _, hh => hh
 | .proj _ _, _, _, ⟨cb, cc, kb, kc, ccv, ckv, h1, h2, h3, h4, h5, h6, hl, h7, h8, h9⟩ => ⟨cb, cc, kb, kc, ccv, ckv, h1, h2, hS _ h3, hS _ h4, h5, h6, hl, fun i c hi => cell_keep1 (h7 i c hi) fun hlt => hf cb h3 hlt, by
  obtain ⟨z0, z1, z2, z3, z4, z5, z6, z7, z8, z9, z10, z11, z12⟩ := h8
  have q : ∀ {o : Nat} {v : Value}, w.cell? ⟨kb, o, none⟩ = some v → w'.cell? ⟨kb, o, none⟩ = some v := fun h => cell_keep1 h fun hlt => hf kb h4 hlt
  exact ⟨q z0, q z1, q z2, q z3, q z4, q z5, q z6, q z7, q z8, q z9, q z10, q z11, q z12⟩, h9.frame hS hf⟩
def ClAt (r : RT) (lo : Nat) (w : World) (cv : Value) : Prop :=
 match r with
 | .leaf _ _ _ => cv = .slice none 0 0
 | .proj cs _ => ∃ g cap, cv = .slice (some ⟨g, 0, none⟩) cs.length cap ∧ lo ≤ g ∧ g < w.heap.size ∧ cs.length ≤ cap ∧ Ints w g cs
theorem ClAt.slice {r : RT} {lo : Nat} {w : World} {cv : Value} (h : ClAt r lo w cv) : ∃ a n c, cv = .slice a n c := by
 cases r with
 | leaf => exact ⟨_, _, _, h⟩
 | proj => obtain ⟨g, cap, h1, -⟩ := h; exact ⟨_, _, _, h1⟩
theorem ClAt.kept {r : RT} {lo : Nat} {w w' : World} {cv : Value} (h : ClAt r lo w cv) (hb : Below w.heap.size w w') : ClAt r lo w' cv := by
 cases r with
 | leaf => exact h
 | proj => obtain ⟨g, cap, h1, h2, h3, h4, h5⟩ := h; exact ⟨g, cap, h1, h2, Nat.lt_of_lt_of_le h3 hb.size, h4, fun i c hi => cell_below hb h3 (h5 i c hi)⟩
theorem ClAt.set {r : RT} {lo : Nat} {w : World} {cv : Value} (h : ClAt r lo w cv) {b o : Nat} {v : Value} (hb : b < lo) : ClAt r lo (w.setCell ⟨b, o, none⟩ v) cv := by
 cases r with
 | leaf => exact h
 | proj => obtain ⟨g, cap, h1, h2, h3, h4, h5⟩ := h; exact ⟨g, cap, h1, h2, by simpa [World.setCell] using h3, h4, fun i c hi => (cell_set_ne (by omega)).trans (h5 i c hi)⟩
theorem ClAt.lo {r : RT} {lo lo' : Nat} {w : World} {cv : Value} (h : ClAt r lo w cv) (hl : lo' ≤ lo) : ClAt r lo' w cv := by
 cases r with
 | leaf => exact h
 | proj => obtain ⟨g, cap, h1, h2, h3⟩ := h; exact ⟨g, cap, h1, by omega, h3⟩
structure OwAt (r : RT) (cv kv : Value) (w : World) (H : Nat) (W : World) : Prop where
 b0 : W.heap[H]? = some (.cells (r.cells cv kv) 56 (0, 0))
 b1 : W.heap[H + 1]? = some (.cells #[.int .u8 0, .int .i64 0, .int .i64 0, .slice none 0 0, .slice none 0 0, .slice none 0 0, .slice none 0 0, .slice none 0 0, .slice none 0 0, .slice none 0 0, .int .i64 0, .int .i64 0, .slice none 0 0] 56 (0, 0))
 hh : H = w.heap.size
 low : Below w.heap.size w W
 sz : H + 2 ≤ W.heap.size
section
variable {r : RT} {cv kv : Value} {w : World} {H : Nat} {W : World}
theorem OwAt.kept {W' : World} (h : OwAt r cv kv w H W) (hb : Below W.heap.size W W') : OwAt r cv kv w H W' :=
 ⟨(hb.block _ (lt_of_heap h.b0)).trans h.b0, (hb.block _ (lt_of_heap h.b1)).trans h.b1, h.hh, h.low.trans (hb.mono h.low.size), Nat.le_trans h.sz hb.size⟩
theorem OwAt.c0 (h : OwAt r cv kv w H W) : W.cell? ⟨H, 0, none⟩ = some (.int .u8 r.kind) := cell_of_heap h.b0 rfl
theorem OwAt.c1 (h : OwAt r cv kv w H W) : W.cell? ⟨H, 1, none⟩ = some (.int .i64 r.ar) := cell_of_heap h.b0 rfl
theorem OwAt.c2 (h : OwAt r cv kv w H W) : W.cell? ⟨H, 2, none⟩ = some (.int .i64 r.id) := cell_of_heap h.b0 rfl
theorem OwAt.c3 (h : OwAt r cv kv w H W) : W.cell? ⟨H, 3, none⟩ = some (.slice none 0 0) := cell_of_heap h.b0 rfl
theorem OwAt.c4 (h : OwAt r cv kv w H W) : W.cell? ⟨H, 4, none⟩ = some (cv) := cell_of_heap h.b0 rfl
theorem OwAt.c5 (h : OwAt r cv kv w H W) : W.cell? ⟨H, 5, none⟩ = some (.slice none 0 0) := cell_of_heap h.b0 rfl
theorem OwAt.c6 (h : OwAt r cv kv w H W) : W.cell? ⟨H, 6, none⟩ = some (.slice none 0 0) := cell_of_heap h.b0 rfl
theorem OwAt.c7 (h : OwAt r cv kv w H W) : W.cell? ⟨H, 7, none⟩ = some (.slice none 0 0) := cell_of_heap h.b0 rfl
theorem OwAt.c8 (h : OwAt r cv kv w H W) : W.cell? ⟨H, 8, none⟩ = some (.slice none 0 0) := cell_of_heap h.b0 rfl
theorem OwAt.c9 (h : OwAt r cv kv w H W) : W.cell? ⟨H, 9, none⟩ = some (.slice none 0 0) := cell_of_heap h.b0 rfl
theorem OwAt.c10 (h : OwAt r cv kv w H W) : W.cell? ⟨H, 10, none⟩ = some (.int .i64 0) := cell_of_heap h.b0 rfl
theorem OwAt.c11 (h : OwAt r cv kv w H W) : W.cell? ⟨H, 11, none⟩ = some (.int .i64 0) := cell_of_heap h.b0 rfl
theorem OwAt.c12 (h : OwAt r cv kv w H W) : W.cell? ⟨H, 12, none⟩ = some (kv) := cell_of_heap h.b0 rfl
theorem OwAt.f3 (h : OwAt r cv kv w H W) : W.frozen? ⟨H, 3, none⟩ = false := frozen_of_heap h.b0
theorem OwAt.f4 (h : OwAt r cv kv w H W) : W.frozen? ⟨H, 4, none⟩ = false := frozen_of_heap h.b0
theorem OwAt.f5 (h : OwAt r cv kv w H W) : W.frozen? ⟨H, 5, none⟩ = false := frozen_of_heap h.b0
theorem OwAt.f6 (h : OwAt r cv kv w H W) : W.frozen? ⟨H, 6, none⟩ = false := frozen_of_heap h.b0
theorem OwAt.f7 (h : OwAt r cv kv w H W) : W.frozen? ⟨H, 7, none⟩ = false := frozen_of_heap h.b0
theorem OwAt.f8 (h : OwAt r cv kv w H W) : W.frozen? ⟨H, 8, none⟩ = false := frozen_of_heap h.b0
theorem OwAt.f9 (h : OwAt r cv kv w H W) : W.frozen? ⟨H, 9, none⟩ = false := frozen_of_heap h.b0
theorem OwAt.f12 (h : OwAt r cv kv w H W) : W.frozen? ⟨H, 12, none⟩ = false := frozen_of_heap h.b0
theorem OwAt.s3 (h : OwAt r cv kv w H W) : OwAt r cv kv w H (W.setCell ⟨H, 3, none⟩ (.slice none 0 0)) := ⟨heap_set_same h.b0, (heap_set_ne (by omega)).trans h.b1, h.hh, h.low.setCell (p := ⟨H, 3, none⟩) (Nat.le_of_eq h.hh.symm) _, by simpa [World.setCell] using h.sz⟩
theorem OwAt.s5 (h : OwAt r cv kv w H W) : OwAt r cv kv w H (W.setCell ⟨H, 5, none⟩ (.slice none 0 0)) := ⟨heap_set_same h.b0, (heap_set_ne (by omega)).trans h.b1, h.hh, h.low.setCell (p := ⟨H, 5, none⟩) (Nat.le_of_eq h.hh.symm) _, by simpa [World.setCell] using h.sz⟩
theorem OwAt.s6 (h : OwAt r cv kv w H W) : OwAt r cv kv w H (W.setCell ⟨H, 6, none⟩ (.slice none 0 0)) := ⟨heap_set_same h.b0, (heap_set_ne (by omega)).trans h.b1, h.hh, h.low.setCell (p := ⟨H, 6, none⟩) (Nat.le_of_eq h.hh.symm) _, by simpa [World.setCell] using h.sz⟩
theorem OwAt.s7 (h : OwAt r cv kv w H W) : OwAt r cv kv w H (W.setCell ⟨H, 7, none⟩ (.slice none 0 0)) := ⟨heap_set_same h.b0, (heap_set_ne (by omega)).trans h.b1, h.hh, h.low.setCell (p := ⟨H, 7, none⟩) (Nat.le_of_eq h.hh.symm) _, by simpa [World.setCell] using h.sz⟩
theorem OwAt.s8 (h : OwAt r cv kv w H W) : OwAt r cv kv w H (W.setCell ⟨H, 8, none⟩ (.slice none 0 0)) := ⟨heap_set_same h.b0, (heap_set_ne (by omega)).trans h.b1, h.hh, h.low.setCell (p := ⟨H, 8, none⟩) (Nat.le_of_eq h.hh.symm) _, by simpa [World.setCell] using h.sz⟩
theorem OwAt.s9 (h : OwAt r cv kv w H W) : OwAt r cv kv w H (W.setCell ⟨H, 9, none⟩ (.slice none 0 0)) := ⟨heap_set_same h.b0, (heap_set_ne (by omega)).trans h.b1, h.hh, h.low.setCell (p := ⟨H, 9, none⟩) (Nat.le_of_eq h.hh.symm) _, by simpa [World.setCell] using h.sz⟩
theorem OwAt.s4 (h : OwAt r cv kv w H W) {cv' : Value} : OwAt r cv' kv w H (W.setCell ⟨H, 4, none⟩ cv') := ⟨heap_set_same h.b0, (heap_set_ne (by omega)).trans h.b1, h.hh, h.low.setCell (p := ⟨H, 4, none⟩) (Nat.le_of_eq h.hh.symm) _, by simpa [World.setCell] using h.sz⟩
theorem OwAt.s12 (h : OwAt r cv kv w H W) {kv' : Value} : OwAt r cv kv' w H (W.setCell ⟨H, 12, none⟩ kv') := ⟨heap_set_same h.b0, (heap_set_ne (by omega)).trans h.b1, h.hh, h.low.setCell (p := ⟨H, 12, none⟩) (Nat.le_of_eq h.hh.symm) _, by simpa [World.setCell] using h.sz⟩
theorem OwAt.lt0 (_ : OwAt r cv kv w H W) : H < H + 2 := by omega
end
theorem clone_cols (r : RT) (cv kv : Value) (w : World) (H : Nat) (hh : H = w.heap.size) (hat : r.On (fun g => g < w.heap.size) w cv kv) (hok : r.ok) : ∀ W, Below w.heap.size w W → H + 2 ≤ W.heap.size →
  Calls Tryz.prog 66 #[cv] W fun ev w' => ∃ cv', ev = .returned cv' ∧ ClAt r (H + 2) w' cv' ∧ Below W.heap.size W w' := fun W hb hs => by
 cases r with
 | leaf kd a i =>
  obtain ⟨rfl, -⟩ := hat
  exact (clone_nil_66 W).mono fun ev w' ⟨h1, h2⟩ => ⟨_, h1, rfl, h2⟩
 | proj cs k =>
  obtain ⟨cb, cc, kb, kc, ccv, ckv, rfl, rfl, hSc, hSk, hcc, hkc, hl9, hcs, hkk, hon⟩ := hat
  exact (clone_66 cs cb cc W (fun i c hi => cell_below hb hSc (hcs i c hi)) hl9).mono fun ev w' ⟨g, cap, h1, h2, h3, h4, h5, h6⟩ => ⟨_, h1, ⟨g, cap, rfl, by omega, h3, h4, h5⟩, h6⟩
def KdR (r : RT) (lo : Nat) (w : World) (kv : Value) : Prop :=
 match r with
 | .leaf _ _ _ => kv = .slice none 0 0
 | .proj _ k => ∃ g cap ccv ckv, kv = .slice (some ⟨g, 0, none⟩) 1 cap ∧ lo ≤ g ∧ g < w.heap.size ∧ 1 ≤ cap ∧ RCells w g k ccv ckv ∧ k.On (fun x => lo ≤ x ∧ x < w.heap.size) w ccv ckv
theorem own_on {r : RT} {lo : Nat} {W : World} {cv kv : Value} (hok : r.ok) (hc : ClAt r lo W cv) (hk : KdR r lo W kv) : r.On (fun g => lo ≤ g ∧ g < W.heap.size) W cv kv := by
 cases r with
 | leaf => exact ⟨hc, hk⟩
 | proj cs k =>
  obtain ⟨g, cap, h1, h2, h3, h4, h5⟩ := hc
  obtain ⟨q, cap', ccv, ckv, k1, k2, k3, k4, k5, k6⟩ := hk
  exact ⟨g, cap, q, cap', ccv, ckv, h1, k1, ⟨h2, h3⟩, ⟨k2, k3⟩, h4, k4, by have := hok.2.1; omega, h5, k5, k6⟩
def OwPost (r : RT) (w : World) (ev : Ending) (w' : World) : Prop :=
 ∃ cv' kv', ev = .returned (r.agg cv' kv') ∧ r.On (fun g => w.heap.size ≤ g ∧ g < w'.heap.size) w' cv' kv' ∧ Below w.heap.size w w'
theorem own_end {r : RT} {cv kv kv0 : Value} {w W : World} {H : Nat} {v0 v1 v2 v3 v4 v5 v6 v7 v8 v9 v10 v11 v12 : Value} (hok : r.ok) (ho : OwAt r cv kv0 w H W) (hc : ClAt r (H + 2) W cv) (hk : KdR r (H + 2) W kv) :
  OwPost r w (.returned (r.agg cv kv)) (setRow13 (W.setCell ⟨H, 12, none⟩ kv) (H + 1) v0 v1 v2 v3 v4 v5 v6 v7 v8 v9 v10 v11 v12) := by
 have hh := ho.hh
 have hs : (W.setCell ⟨H, 12, none⟩ kv).heap.size = W.heap.size := by simp [World.setCell]
 refine ⟨cv, kv, rfl, (own_on hok hc hk).frame (fun g hg => ⟨by omega, by rw [setRow13_size, hs]; exact hg.2⟩) (fun g hg _ => ?_), setRow13_below (ho.s12 (kv' := kv)).low (by omega)⟩
 rw [setRow13_ne (by omega), heap_set_ne (by omega)]
theorem own_36 : ∀ (r : RT) (cv kv : Value) (w : World), r.On (fun g => g < w.heap.size) w cv kv → r.ok → Calls Tryz.prog 36 #[r.agg cv kv] w (OwPost r w) := by
 suffices hs : ∀ r : RT, (∀ k : RT, (∃ cs, r = .proj cs k) → ∀ (cv kv : Value) (w : World), k.On (fun g => g < w.heap.size) w cv kv → k.ok → Calls Tryz.prog 36 #[k.agg cv kv] w (OwPost k w)) → ∀ (cv kv : Value) (w : World), r.On (fun g => g < w.heap.size) w cv kv → r.ok → Calls Tryz.prog 36 #[r.agg cv kv] w (OwPost r w) by
  intro r
  induction r with
  | leaf kd a i => exact hs _ fun k ⟨cs, h⟩ => by cases h
  | proj cs k ih => exact hs _ fun k' ⟨cs', h⟩ => by cases h; exact ih
 intro r hind
 intro cv kv w hat hok
 obtain ⟨⟨ca, cn, cc, rfl⟩, ka, kn, kc, rfl⟩ := hat.kids
 obtain ⟨H, eH⟩ : ∃ H, H = w.heap.size := ⟨_, rfl⟩
 have hcl := clone_cols r _ _ w H eH hat hok
 have HCL : Hid (∀ W, (Below w.heap.size w W ∧ H + 2 ≤ W.heap.size) → Calls Tryz.prog 66 #[.slice ca cn cc] W fun ev w' => ∃ cv', ev = .returned cv' ∧ ClAt r (H + 2) w' cv' ∧ Below W.heap.size W w') := Lib.hid fun W h => hcl W h.1 h.2
 have HC66 := Lib.hid clone_nil_66
 have HC67 := Lib.hid clone_nil_67
 have HC68 := Lib.hid clone_nil_68
 have HC69 := Lib.hid clones_69
 have HC70 := Lib.hid clone_nil_70
 have HC72 := Lib.hid clone_nil_72
 have HAT := Lib.hid hat
 have HOK := Lib.hid hok
 have HIND := Lib.hid hind
 have hw0 : OwAt r (.slice ca cn cc) (.slice ka kn kc) w H ((w.alloc (.cells #[.int .u8 r.kind, .int .i64 r.ar, .int .i64 r.id, .slice none 0 0, .slice ca cn cc, .slice none 0 0, .slice none 0 0, .slice none 0 0, .slice none 0 0, .slice none 0 0, .int .i64 0, .int .i64 0, .slice ka kn kc] 56)).alloc (.cells #[.int .u8 0, .int .i64 0, .int .i64 0, .slice none 0 0, .slice none 0 0, .slice none 0 0, .slice none 0 0, .slice none 0 0, .slice none 0 0, .slice none 0 0, .int .i64 0, .int .i64 0, .slice none 0 0] 56)) := by
  have ht := two_at (w := w) (a := .cells #[.int .u8 r.kind, .int .i64 r.ar, .int .i64 r.id, .slice none 0 0, .slice ca cn cc, .slice none 0 0, .slice none 0 0, .slice none 0 0, .slice none 0 0, .slice none 0 0, .int .i64 0, .int .i64 0, .slice ka kn kc] 56) (b := .cells #[.int .u8 0, .int .i64 0, .int .i64 0, .slice none 0 0, .slice none 0 0, .slice none 0 0, .slice none 0 0, .slice none 0 0, .slice none 0 0, .slice none 0 0, .int .i64 0, .int .i64 0, .slice none 0 0] 56) (Below.refl _ _)
  rw [← eH] at ht
  exact ⟨ht.1, ht.2, eH, two_below _ _ _, by rw [eH]; simp⟩
 have HW0 := Lib.hid hw0
 have EH := Lib.hid eH
 rw [show r.agg (.slice ca cn cc) (.slice ka kn kc) = .agg #[.int .u8 r.kind, .int .i64 r.ar, .int .i64 r.id, .slice none 0 0, .slice ca cn cc, .slice none 0 0, .slice none 0 0, .slice none 0 0, .slice none 0 0, .slice none 0 0, .int .i64 0, .int .i64 0, .slice ka kn kc] from rfl]
 clear hcl hat hok hind hw0 eH
 go_enter Tryz.func36, Tryz.ntmps36
 go_upto_region 1 with fail
 rw [← EH.out]
 obtain ⟨wr, hwr⟩ : ∃ wr, wr = ((w.alloc (.cells #[.int .u8 r.kind, .int .i64 r.ar, .int .i64 r.id, .slice none 0 0, .slice ca cn cc, .slice none 0 0, .slice none 0 0, .slice none 0 0, .slice none 0 0, .slice none 0 0, .int .i64 0, .int .i64 0, .slice ka kn kc] 56)).alloc (.cells #[.int .u8 0, .int .i64 0, .int .i64 0, .slice none 0 0, .slice none 0 0, .slice none 0 0, .slice none 0 0, .slice none 0 0, .slice none 0 0, .slice none 0 0, .int .i64 0, .int .i64 0, .slice none 0 0] 56)).drew := ⟨_, rfl⟩
 have OW0 := Lib.hid (show OwAt r (.slice ca cn cc) (.slice ka kn kc) w H wr by rw [hwr]; exact HW0.out.kept (Below.refl _ _).drew)
 refine wp_region_held_drew (S := fun W => W.cell? ⟨H, 3, none⟩ = some (.slice none 0 0) ∧ W.cell? ⟨H, 7, none⟩ = some (.slice none 0 0) ∧ W.cell? ⟨H, 9, none⟩ = some (.slice none 0 0)) (by kernel_rfl) (by rw [← hwr]; exact ⟨OW0.out.c3, OW0.out.c7, OW0.out.c9⟩) (fun hHeld => ?_)
 rw [← hwr] at hHeld ⊢
 clear hwr HW0
 refine wpAnyH_take (i := 0) (oi := ⟨some 10, _, _, _, _, _⟩) (v := ?_) rfl (by kernel_rfl) (by kernel_rfl) (by kernel_rfl) (fun _ _ _ h => h) (Or.inl ⟨by rfl, ?_⟩) (by assumption) ?_; rotate_left; (intro w hSw; (try dsimp only at hSw); go_simp; (try with_reducible rfl)); (try simp only [Act.put, sA, sB, sC])
 refine wpAnyH_take (i := 1) (oi := ⟨some 11, _, _, _, _, _⟩) (v := ?_) rfl (by kernel_rfl) (by kernel_rfl) (by kernel_rfl) (fun _ _ _ h => h) (Or.inl ⟨by rfl, ?_⟩) (by assumption) ?_; rotate_left; (intro w hSw; (try dsimp only at hSw); go_simp; (try with_reducible rfl)); (try simp only [Act.put, sA, sB, sC])
 refine wpAnyH_take (i := 3) (oi := ⟨some 13, _, _, _, _, _⟩) (v := ?_) rfl (by kernel_rfl) (by kernel_rfl) (by kernel_rfl) (fun _ _ _ h => h) (Or.inl ⟨by rfl, ?_⟩) (by assumption) ?_; rotate_left; (intro w hSw; (try dsimp only at hSw); go_simp; (try with_reducible rfl)); (try simp only [Act.put, sA, sB, sC])
 refine wpAnyH_take (i := 6) (oi := ⟨some 16, _, _, _, _, _⟩) (v := ?_) rfl (by kernel_rfl) (by kernel_rfl) (by kernel_rfl) (fun _ _ _ h => h) (Or.inl ⟨by rfl, ?_⟩) (by assumption) ?_; rotate_left; (intro w hSw; (try dsimp only at hSw); go_simp; (try with_reducible rfl)); (try simp only [Act.put, sA, sB, sC])
 refine wpAnyH_take (i := 7) (oi := ⟨some 17, _, _, _, _, _⟩) (v := ?_) rfl (by kernel_rfl) (by kernel_rfl) (by kernel_rfl) (fun _ _ _ h => h) (Or.inl ⟨by rfl, ?_⟩) (by assumption) ?_; rotate_left; (intro w hSw; (try dsimp only at hSw); go_simp; (try with_reducible rfl)); (try simp only [Act.put, sA, sB, sC])
 refine wpAnyH_take (i := 9) (oi := ⟨some 19, _, _, _, _, _⟩) (v := ?_) rfl (by kernel_rfl) (by kernel_rfl) (by kernel_rfl) (fun _ _ _ h => h) (Or.inl ⟨by rfl, ?_⟩) (by assumption) ?_; rotate_left; (intro w hSw; (try dsimp only at hSw); go_simp; (try with_reducible rfl)); (try simp only [Act.put, sA, sB, sC])
 refine wpAnyH_take (i := 10) (oi := ⟨some 20, _, _, _, _, _⟩) (v := ?_) rfl (by kernel_rfl) (by kernel_rfl) (by kernel_rfl) (fun _ _ _ h => h) (Or.inl ⟨by rfl, ?_⟩) (by assumption) ?_; rotate_left; (intro w hSw; (try dsimp only at hSw); go_simp; (try with_reducible rfl)); (try simp only [Act.put, sA, sB, sC])
 refine wpAnyH_ready (rs := [2, 4]) (by kernel_rfl) (by simp) ?_
 refine AllReadyH.cons (o := ⟨some 12, _, _, _, _, _⟩) rfl (fun KK hK => ?_) (AllReadyH.cons (o := ⟨some 14, _, _, _, _, _⟩) rfl (fun KK hK => ?_) (AllReadyH.nil))
 ·go_simp
  go_at_call 66
  with_reducible refine (HC66.out _).mono ?_
  rintro ev Z1 ⟨rfl, hb⟩
  have OW1 := Lib.hid (OW0.out.kept hb)
  clear hb
  go_wp2_with fail
  refine hK.out _ _ (⟨OW1.out.c3, OW1.out.c7, OW1.out.c9⟩) (fun hHeld => ?_)
  clear hK KK
  skip
  refine wpAnyH_ready (rs := [4]) (by kernel_rfl) (by simp) ?_
  refine AllReadyH.cons (o := ⟨some 14, _, _, _, _, _⟩) rfl (fun KK hK => ?_) (AllReadyH.nil)
  have xk := OW1.out.c4
  go_simp
  clear xk
  refine hK.out _ _ (⟨OW1.out.c3, OW1.out.c7, OW1.out.c9⟩) (fun hHeld => ?_)
  clear hK KK
  skip
  refine wpAnyH_take (i := 12) (oi := ⟨some 22, _, _, _, _, _⟩) (v := ?_) rfl (by kernel_rfl) (by kernel_rfl) (by kernel_rfl) (fun _ _ _ h => h) (Or.inl ⟨by rfl, ?_⟩) (by assumption) ?_; rotate_left; (intro w hSw; (try dsimp only at hSw); go_simp; (try with_reducible rfl)); (try simp only [Act.put, sA, sB, sC])
  refine wpAnyH_ready (rs := [5]) (by kernel_rfl) (by simp) ?_
  refine AllReadyH.cons (o := ⟨some 15, _, _, _, _, _⟩) rfl (fun KK hK => ?_) (AllReadyH.nil)
  go_simp
  go_at_call 66
  with_reducible refine (HCL.out _ ⟨OW1.out.low, OW1.out.sz⟩).mono ?_
  rintro ev Z3 ⟨cv', rfl, hcl, hb⟩
  obtain ⟨ca', cn', cc', rfl⟩ := hcl.slice
  have OW3 := Lib.hid (OW1.out.kept hb)
  have CL3 := Lib.hid hcl
  clear hb hcl
  go_wp2_with fail
  refine hK.out _ _ (⟨OW3.out.c3, OW3.out.c7, OW3.out.c9⟩) (fun hHeld => ?_)
  clear hK KK
  skip
  refine wpAnyH_ready (rs := [8]) (by kernel_rfl) (by simp) ?_
  refine AllReadyH.cons (o := ⟨some 18, _, _, _, _, _⟩) rfl (fun KK hK => ?_) (AllReadyH.nil)
  go_simp
  go_at_call 67
  with_reducible refine (HC67.out _).mono ?_
  rintro ev Z4 ⟨rfl, hb⟩
  have OW4 := Lib.hid (OW3.out.kept hb)
  have CL4 := Lib.hid (CL3.out.kept hb)
  clear hb
  go_wp2_with fail
  refine hK.out _ _ (⟨OW4.out.c3, OW4.out.c7, OW4.out.c9⟩) (fun hHeld => ?_)
  clear hK KK
  skip
  refine wpAnyH_ready (rs := [11]) (by kernel_rfl) (by simp) ?_
  refine AllReadyH.cons (o := ⟨some 21, _, _, _, _, _⟩) rfl (fun KK hK => ?_) (AllReadyH.nil)
  go_simp
  go_at_call 68
  with_reducible refine (HC68.out _).mono ?_
  rintro ev Z5 ⟨rfl, hb⟩
  have OW5 := Lib.hid (OW4.out.kept hb)
  have CL5 := Lib.hid (CL4.out.kept hb)
  clear hb
  go_wp2_with fail
  refine hK.out _ _ (⟨OW5.out.c3, OW5.out.c7, OW5.out.c9⟩) (fun hHeld => ?_)
  clear hK KK
  skip
  refine wpAnyH_ready (rs := [13]) (by kernel_rfl) (by simp) ?_
  refine AllReadyH.cons (o := ⟨none, _, _, _, _, _⟩) rfl (fun KK hK => ?_) (AllReadyH.nil)
  have xk := OW5.out.c3
  have xf := OW5.out.f3
  go_simp
  clear xk xf
  have OW6 := Lib.hid (OW5.out.s3)
  have CL6 := Lib.hid (CL5.out.set (b := H) (o := 3) (v := .slice none 0 0) OW5.out.lt0)
  refine hK.out _ _ (⟨OW6.out.c3, OW6.out.c7, OW6.out.c9⟩) (fun hHeld => ?_)
  clear hK KK
  skip
  refine wpAnyH_take (i := 14) (oi := ⟨some 23, _, _, _, _, _⟩) (v := ?_) rfl (by kernel_rfl) (by kernel_rfl) (by kernel_rfl) (fun _ _ _ h => h) (Or.inl ⟨by rfl, ?_⟩) (by assumption) ?_; rotate_left; (intro w hSw; (try dsimp only at hSw); go_simp; (try with_reducible rfl)); (try simp only [Act.put, sA, sB, sC])
  refine wpAnyH_ready (rs := [15]) (by kernel_rfl) (by simp) ?_
  refine AllReadyH.cons (o := ⟨none, _, _, _, _, _⟩) rfl (fun KK hK => ?_) (AllReadyH.nil)
  have xk := OW6.out.c4
  have xf := OW6.out.f4
  go_simp
  clear xk xf
  have OW7 := Lib.hid (OW6.out.s4 (cv' := .slice ca' cn' cc'))
  have CL7 := Lib.hid (CL6.out.set (b := H) (o := 4) (v := .slice ca' cn' cc') OW6.out.lt0)
  refine hK.out _ _ (⟨OW7.out.c3, OW7.out.c7, OW7.out.c9⟩) (fun hHeld => ?_)
  clear hK KK
  skip
  refine wpAnyH_take (i := 16) (oi := ⟨some 24, _, _, _, _, _⟩) (v := ?_) rfl (by kernel_rfl) (by kernel_rfl) (by kernel_rfl) (fun _ _ _ h => h) (Or.inl ⟨by rfl, ?_⟩) (by assumption) ?_; rotate_left; (intro w hSw; (try dsimp only at hSw); go_simp; (try with_reducible rfl)); (try simp only [Act.put, sA, sB, sC])
  refine wpAnyH_ready (rs := [17]) (by kernel_rfl) (by simp) ?_
  refine AllReadyH.cons (o := ⟨none, _, _, _, _, _⟩) rfl (fun KK hK => ?_) (AllReadyH.nil)
  have xk := OW7.out.c7
  have xf := OW7.out.f7
  go_simp
  clear xk xf
  have OW8 := Lib.hid (OW7.out.s7)
  have CL8 := Lib.hid (CL7.out.set (b := H) (o := 7) (v := .slice none 0 0) OW7.out.lt0)
  refine hK.out _ _ (⟨OW8.out.c3, OW8.out.c7, OW8.out.c9⟩) (fun hHeld => ?_)
  clear hK KK
  skip
  refine wpAnyH_take (i := 18) (oi := ⟨some 25, _, _, _, _, _⟩) (v := ?_) rfl (by kernel_rfl) (by kernel_rfl) (by kernel_rfl) (fun _ _ _ h => h) (Or.inl ⟨by rfl, ?_⟩) (by assumption) ?_; rotate_left; (intro w hSw; (try dsimp only at hSw); go_simp; (try with_reducible rfl)); (try simp only [Act.put, sA, sB, sC])
  refine wpAnyH_ready (rs := [19]) (by kernel_rfl) (by simp) ?_
  refine AllReadyH.cons (o := ⟨none, _, _, _, _, _⟩) rfl (fun KK hK => ?_) (AllReadyH.nil)
  have xk := OW8.out.c9
  have xf := OW8.out.f9
  go_simp
  clear xk xf
  have OW9 := Lib.hid (OW8.out.s9)
  have CL9 := Lib.hid (CL8.out.set (b := H) (o := 9) (v := .slice none 0 0) OW8.out.lt0)
  refine hK.out _ _ (⟨OW9.out.c3, OW9.out.c7, OW9.out.c9⟩) (fun hHeld => ?_)
  clear hK KK
  skip
  refine wpAnyH_done (by kernel_rfl) ?_ _
  obtain ⟨w3, hw3⟩ : ∃ w3, w3 = ((((Z5.setCell ⟨H, 3, none⟩ (.slice none 0 0)).setCell ⟨H, 4, none⟩ (.slice ca' cn' cc')).setCell ⟨H, 7, none⟩ (.slice none 0 0)).setCell ⟨H, 9, none⟩ (.slice none 0 0)) := ⟨_, rfl⟩
  have OWR : Hid (OwAt r (.slice ca' cn' cc') (.slice ka kn kc) w H w3) := Lib.hid (by rw [hw3]; exact OW9.out)
  have CLR : Hid (ClAt r (H + 2) w3 (.slice ca' cn' cc')) := Lib.hid (by rw [hw3]; exact CL9.out)
  rw [← hw3]
  clear hw3
  have y5 := OWR.out.c5
  have f5 := OWR.out.f5
  go_wp2_with fail
  refine (HC69.out _).mono ?_
  rintro ev w4 ⟨rfl, hb⟩
  have OWWa := Lib.hid (OWR.out.kept hb)
  have CLLa := Lib.hid (CLR.out.kept hb)
  clear hb y5 f5
  have y5 := OWWa.out.c5
  have f5 := OWWa.out.f5
  have y6 := OWWa.out.c6
  go_wp2_with fail
  refine (HC70.out _).mono ?_
  rintro ev w5 ⟨rfl, hb⟩
  have OWWb := Lib.hid (OWWa.out.s5.kept hb)
  have CLLb := Lib.hid ((CLLa.out.set (b := H) (o := 5) (v := .slice none 0 0) OWWa.out.lt0).kept hb)
  clear hb y5 f5 y6
  go_wp2_with fail
  go_loopg [35] 0 (fun _ s35 wq => s35 = .int .i64 0 ∧ wq = w5)
  case atStart => exact ⟨rfl, rfl⟩
  case round =>
   obtain ⟨rfl, rfl⟩ := hrel
   have y6 := OWWb.out.c6
   have f6 := OWWb.out.f6
   have y8 := OWWb.out.c8
   go_wp2_with fail
   refine (HC72.out _).mono ?_
   rintro ev w6 ⟨rfl, hb⟩
   have OWWc := Lib.hid (OWWb.out.s6.kept hb)
   have CLLc := Lib.hid ((CLLb.out.set (b := H) (o := 6) (v := .slice none 0 0) OWWb.out.lt0).kept hb)
   clear hb y6 f6 y8
   go_wp2_with fail
   go_loopg [56] 0 (fun _ s56 wr => s56 = .int .i64 0 ∧ wr = w6)
   case atStart => exact ⟨rfl, rfl⟩
   case round =>
    obtain ⟨rfl, rfl⟩ := hrel
    have y8 := OWWc.out.c8
    have f8 := OWWc.out.f8
    have y12 := OWWc.out.c12
    cases r with
    | leaf kd a i =>
     obtain ⟨-, ekv⟩ := HAT.out
     cases ekv
     go_wp2_with fail
     obtain ⟨w7, hw7⟩ : ∃ w7, w7 = wr.setCell ⟨H, 8, none⟩ (.slice none 0 0) := ⟨_, rfl⟩
     have OWWd : Hid (OwAt (.leaf kd a i) (.slice ca' cn' cc') (.slice none 0 0) w H w7) := Lib.hid (by rw [hw7]; exact OWWc.out.s8)
     have CLLd : Hid (ClAt (.leaf kd a i) (H + 2) w7 (.slice ca' cn' cc')) := Lib.hid (by rw [hw7]; exact CLLc.out.set (b := H) OWWc.out.lt0)
     rw [← hw7]
     clear hw7 y8 f8 y12
     go_loopg [7, 75] 0 (fun _ s7 s75 wr => s7 = .slice none 0 0 ∧ s75 = .int .i64 0 ∧ wr = w7)
     case atStart => exact ⟨rfl, rfl, rfl⟩
     case round =>
      obtain ⟨rfl, rfl, rfl⟩ := hrel
      have y0 := OWWd.out.c0
      have y1 := OWWd.out.c1
      have y2 := OWWd.out.c2
      have y3 := OWWd.out.c3
      have y4 := OWWd.out.c4
      have y5 := OWWd.out.c5
      have y6 := OWWd.out.c6
      have y7 := OWWd.out.c7
      have y8 := OWWd.out.c8
      have y9 := OWWd.out.c9
      have y10 := OWWd.out.c10
      have y11 := OWWd.out.c11
      have y12 := OWWd.out.c12
      obtain ⟨z0, g0, z1, g1, z2, g2, z3, g3, z4, g4, z5, g5, z6, g6, z7, g7, z8, g8, z9, g9, z10, g10, z11, g11, z12, g12⟩ := cf13 OWWd.out.b1
      have f12 := OWWd.out.f12
      go_wp2
      refine bodyPost_ret (results_cell_row rfl _ _ (H + 1) 56 _ (0, 0) _ rfl (setRow13_at OWWd.out.s12.b1) Tryz.underlying56 rfl (by kernel_rfl)) rfl ?_
      exact own_end HOK.out OWWd.out CLLd.out rfl
    | proj cs k =>
     obtain ⟨cb, cc1, kb, kc1, ccv, ckv, -, e2, -, hSk, -, -, -, -, hkk, hon⟩ := HAT.out
     cases e2
     obtain ⟨⟨xa, xn, xc, rfl⟩, ya, yn, yc, rfl⟩ := hon.kids
     go_wp2_with fail
     obtain ⟨w7, hw7⟩ : ∃ w7, w7 = wr.setCell ⟨H, 8, none⟩ (.slice none 0 0) := ⟨_, rfl⟩
     have OWWd : Hid (OwAt (.proj cs k) (.slice ca' cn' cc') (.slice (some ⟨kb, 0, none⟩) 1 kc) w H w7) := Lib.hid (by rw [hw7]; exact OWWc.out.s8)
     have CLLd : Hid (ClAt (.proj cs k) (H + 2) w7 (.slice ca' cn' cc')) := Lib.hid (by rw [hw7]; exact CLLc.out.set (b := H) OWWc.out.lt0)
     rw [← hw7]
     have HKC : Hid (w7.cell? ⟨kb, 0, none⟩ = some (.int .u8 k.kind) ∧ w7.cell? ⟨kb, 1, none⟩ = some (.int .i64 k.ar) ∧ w7.cell? ⟨kb, 2, none⟩ = some (.int .i64 k.id) ∧ w7.cell? ⟨kb, 3, none⟩ = some (.slice none 0 0) ∧ w7.cell? ⟨kb, 4, none⟩ = some (.slice xa xn xc) ∧ w7.cell? ⟨kb, 5, none⟩ = some (.slice none 0 0) ∧ w7.cell? ⟨kb, 6, none⟩ = some (.slice none 0 0) ∧ w7.cell? ⟨kb, 7, none⟩ = some (.slice none 0 0) ∧ w7.cell? ⟨kb, 8, none⟩ = some (.slice none 0 0) ∧ w7.cell? ⟨kb, 9, none⟩ = some (.slice none 0 0) ∧ w7.cell? ⟨kb, 10, none⟩ = some (.int .i64 0) ∧ w7.cell? ⟨kb, 11, none⟩ = some (.int .i64 0) ∧ w7.cell? ⟨kb, 12, none⟩ = some (.slice ya yn yc)) := Lib.hid (hkk.below OWWd.out.low)
     have hb8 : Below w7.heap.size w7 (w7.alloc (.cells #[.int .u8 k.kind, .int .i64 k.ar, .int .i64 k.id, .slice none 0 0, .slice xa xn xc, .slice none 0 0, .slice none 0 0, .slice none 0 0, .slice none 0 0, .slice none 0 0, .int .i64 0, .int .i64 0, .slice ya yn yc] 56)) := (Below.refl _ _).alloc (Nat.le_refl _) _
     have hik := HIND.out k ⟨cs, rfl⟩ _ _ (w7.alloc (.cells #[.int .u8 k.kind, .int .i64 k.ar, .int .i64 k.id, .slice none 0 0, .slice xa xn xc, .slice none 0 0, .slice none 0 0, .slice none 0 0, .slice none 0 0, .slice none 0 0, .int .i64 0, .int .i64 0, .slice ya yn yc] 56)) ((hon.below (OWWd.out.low.trans (hb8.mono OWWd.out.low.size))).wide fun g hg => Nat.lt_of_lt_of_le hg (Nat.le_trans OWWd.out.low.size hb8.size)) HOK.out.1
     rw [show k.agg (.slice xa xn xc) (.slice ya yn yc) = .agg #[.int .u8 k.kind, .int .i64 k.ar, .int .i64 k.id, .slice none 0 0, .slice xa xn xc, .slice none 0 0, .slice none 0 0, .slice none 0 0, .slice none 0 0, .slice none 0 0, .int .i64 0, .int .i64 0, .slice ya yn yc] from rfl] at hik
     have HIK := Lib.hid hik
     have HB8 := Lib.hid hb8
     obtain ⟨i0, hi0, hz0, hz1, hz2⟩ := info_parts info56
     clear hw7 y8 f8 y12 hik hb8 hkk hon hSk
     go_loopg [7, 75] 1 (fun g s7 s75 wr => (g = 1 ∧ s7 = .slice none 0 0 ∧ s75 = .int .i64 0 ∧ wr = w7) ∨ (g = 0 ∧ ∃ a c, s7 = .slice a 1 c ∧ s75 = .int .i64 1 ∧ OwAt (.proj cs k) (.slice ca' cn' cc') (.slice (some ⟨kb, 0, none⟩) 1 kc) w H wr ∧ ClAt (.proj cs k) (H + 2) wr (.slice ca' cn' cc') ∧ KdR (.proj cs k) (H + 2) wr (.slice a 1 c)))
     case atStart => exact .inl ⟨rfl, rfl, rfl, rfl⟩
     case round =>
      rcases hrel with ⟨rfl, rfl, rfl, rfl⟩ | ⟨rfl, a7, c7, rfl, rfl, ho, hc, hk⟩
      ·obtain ⟨z0, z1, z2, z3, z4, z5, z6, z7, z8, z9, z10, z11, z12⟩ := HKC.out
       have sK := World.block_lt_of_cell? wr _ z0
       go_wp2_with fail
       refine HIK.out.mono ?_
       rintro ev w9 ⟨cv2, kv2, rfl, hon2, hb2⟩
       obtain ⟨⟨pa, pn, pc, rfl⟩, qa, qn, qc, rfl⟩ := hon2.kids
       rw [show k.agg (.slice pa pn pc) (.slice qa qn qc) = .agg #[.int .u8 k.kind, .int .i64 k.ar, .int .i64 k.id, .slice none 0 0, .slice pa pn pc, .slice none 0 0, .slice none 0 0, .slice none 0 0, .slice none 0 0, .slice none 0 0, .int .i64 0, .int .i64 0, .slice qa qn qc] from rfl]
       have hb9 := HB8.out.trans (hb2.mono HB8.out.size)
       have OWWe := Lib.hid (OWWd.out.kept hb9)
       have CLLe := Lib.hid (CLLd.out.kept hb9)
       have HON2 := Lib.hid hon2
       have HB9 := Lib.hid hb9
       clear hon2 hb2 hb9 z0 z1 z2 z3 z4 z5 z6 z7 z8 z9 z10 z11 z12 sK
       go_wp2_with (at_builtin; go_must (refine wpList_append_own _ rfl _ _ 54 rfl w9.heap.size 56 i0 _ 13 232 Tryz.underlying54 hi0 hz0 hz1 hz2 rfl (by decide) (.slice none 0 0) 0 [] rfl (World.ownsRow_nil _ _ _ _) ⟨w9.heap.size, 0, none⟩ 1 1 [.int .u8 k.kind, .int .i64 k.ar, .int .i64 k.id, .slice none 0 0, .slice pa pn pc, .slice none 0 0, .slice none 0 0, .slice none 0 0, .slice none 0 0, .slice none 0 0, .int .i64 0, .int .i64 0, .slice qa qn qc] rfl rfl ?c1 ?c2 ?c3 ?c4 ?c5 ?_))
       case c1 =>
        intro j u hj
        rw [add_lit, Nat.zero_add]
        exact cell_of_heap (heap_alloc_new w9 _) (by rw [List.getElem?_toArray]; exact hj)
       case c2 =>
        intro u hu
        simp only [List.mem_cons, List.not_mem_nil, or_false] at hu
        rcases hu with rfl | rfl | rfl | rfl | rfl | rfl | rfl | rfl | rfl | rfl | rfl | rfl | rfl <;> rfl
       case c3 => unfold maxLen; omega
       case c4 => omega
       case c5 => simp
       intro v' w11 hown hgrow hnil
       have hb11 : Below w9.heap.size w9 w11 := ((Below.refl _ _).alloc (Nat.le_refl _) _).grown hgrow (by simp) (fun g hg => by cases hg)
       rcases hown.2 with ⟨rfl, -⟩ | ⟨g, cap, cur, rfl, g1, g2, g3, -, -, -⟩
       ·exact absurd rfl hnil
       have hrc : RCells w11 g k (.slice pa pn pc) (.slice qa qn qc) := ⟨hown.cellAt 0 (by decide), hown.cellAt 1 (by decide), hown.cellAt 2 (by decide), hown.cellAt 3 (by decide), hown.cellAt 4 (by decide), hown.cellAt 5 (by decide), hown.cellAt 6 (by decide), hown.cellAt 7 (by decide), hown.cellAt 8 (by decide), hown.cellAt 9 (by decide), hown.cellAt 10 (by decide), hown.cellAt 11 (by decide), hown.cellAt 12 (by decide)⟩
       have hsz := OWWd.out.sz
       have h9 := HB9.out.size
       have h8 := HB8.out.size
       have HK11 : Hid (KdR (.proj cs k) (H + 2) w11 (.slice (some ⟨g, 0, none⟩) 1 cap)) := Lib.hid ⟨g, cap, _, _, rfl, by omega, lt_of_heap g2, g3, hrc, (HON2.out.below hb11).wide fun q hq => ⟨by omega, Nat.lt_of_lt_of_le hq.2 hb11.size⟩⟩
       have OWWg := Lib.hid (OWWe.out.kept hb11)
       have CLLg := Lib.hid (CLLe.out.kept hb11)
       clear hown hgrow hnil hb11 g1 g2 g3 hrc hsz h9 h8
       go_wp2_with fail
       go_roundg 0
       case measure => omega
       case rel => exact .inr ⟨rfl, some ⟨g, 0, none⟩, cap, rfl, by go_num, OWWg.out, CLLg.out, HK11.out⟩
      ·have OWf := Lib.hid ho
       have CLf := Lib.hid hc
       have HKf := Lib.hid hk
       clear ho hc hk
       have y0 := OWf.out.c0
       have y1 := OWf.out.c1
       have y2 := OWf.out.c2
       have y3 := OWf.out.c3
       have y4 := OWf.out.c4
       have y5 := OWf.out.c5
       have y6 := OWf.out.c6
       have y7 := OWf.out.c7
       have y8 := OWf.out.c8
       have y9 := OWf.out.c9
       have y10 := OWf.out.c10
       have y11 := OWf.out.c11
       have y12 := OWf.out.c12
       obtain ⟨z0, g0, z1, g1, z2, g2, z3, g3, z4, g4, z5, g5, z6, g6, z7, g7, z8, g8, z9, g9, z10, g10, z11, g11, z12, g12⟩ := cf13 OWf.out.b1
       have f12 := OWf.out.f12
       go_wp2
       refine bodyPost_ret (results_cell_row rfl _ _ (H + 1) 56 _ (0, 0) _ rfl (setRow13_at OWf.out.s12.b1) Tryz.underlying56 rfl (by kernel_rfl)) rfl ?_
       exact own_end HOK.out OWf.out CLf.out HKf.out
 ·have xk := OW0.out.c4
  go_simp
  clear xk
  refine hK.out _ _ (⟨OW0.out.c3, OW0.out.c7, OW0.out.c9⟩) (fun hHeld => ?_)
  clear hK KK
  skip
  refine wpAnyH_ready (rs := [2]) (by kernel_rfl) (by simp) ?_
  refine AllReadyH.cons (o := ⟨some 12, _, _, _, _, _⟩) rfl (fun KK hK => ?_) (AllReadyH.nil)
  go_simp
  go_at_call 66
  with_reducible refine (HC66.out _).mono ?_
  rintro ev Z11 ⟨rfl, hb⟩
  have OW11 := Lib.hid (OW0.out.kept hb)
  clear hb
  go_wp2_with fail
  refine hK.out _ _ (⟨OW11.out.c3, OW11.out.c7, OW11.out.c9⟩) (fun hHeld => ?_)
  clear hK KK
  skip
  refine wpAnyH_take (i := 12) (oi := ⟨some 22, _, _, _, _, _⟩) (v := ?_) rfl (by kernel_rfl) (by kernel_rfl) (by kernel_rfl) (fun _ _ _ h => h) (Or.inl ⟨by rfl, ?_⟩) (by assumption) ?_; rotate_left; (intro w hSw; (try dsimp only at hSw); go_simp; (try with_reducible rfl)); (try simp only [Act.put, sA, sB, sC])
  refine wpAnyH_ready (rs := [5]) (by kernel_rfl) (by simp) ?_
  refine AllReadyH.cons (o := ⟨some 15, _, _, _, _, _⟩) rfl (fun KK hK => ?_) (AllReadyH.nil)
  go_simp
  go_at_call 66
  with_reducible refine (HCL.out _ ⟨OW11.out.low, OW11.out.sz⟩).mono ?_
  rintro ev Z12 ⟨cv', rfl, hcl, hb⟩
  obtain ⟨ca', cn', cc', rfl⟩ := hcl.slice
  have OW12 := Lib.hid (OW11.out.kept hb)
  have CL12 := Lib.hid hcl
  clear hb hcl
  go_wp2_with fail
  refine hK.out _ _ (⟨OW12.out.c3, OW12.out.c7, OW12.out.c9⟩) (fun hHeld => ?_)
  clear hK KK
  skip
  refine wpAnyH_ready (rs := [8]) (by kernel_rfl) (by simp) ?_
  refine AllReadyH.cons (o := ⟨some 18, _, _, _, _, _⟩) rfl (fun KK hK => ?_) (AllReadyH.nil)
  go_simp
  go_at_call 67
  with_reducible refine (HC67.out _).mono ?_
  rintro ev Z13 ⟨rfl, hb⟩
  have OW13 := Lib.hid (OW12.out.kept hb)
  have CL13 := Lib.hid (CL12.out.kept hb)
  clear hb
  go_wp2_with fail
  refine hK.out _ _ (⟨OW13.out.c3, OW13.out.c7, OW13.out.c9⟩) (fun hHeld => ?_)
  clear hK KK
  skip
  refine wpAnyH_ready (rs := [11]) (by kernel_rfl) (by simp) ?_
  refine AllReadyH.cons (o := ⟨some 21, _, _, _, _, _⟩) rfl (fun KK hK => ?_) (AllReadyH.nil)
  go_simp
  go_at_call 68
  with_reducible refine (HC68.out _).mono ?_
  rintro ev Z14 ⟨rfl, hb⟩
  have OW14 := Lib.hid (OW13.out.kept hb)
  have CL14 := Lib.hid (CL13.out.kept hb)
  clear hb
  go_wp2_with fail
  refine hK.out _ _ (⟨OW14.out.c3, OW14.out.c7, OW14.out.c9⟩) (fun hHeld => ?_)
  clear hK KK
  skip
  refine wpAnyH_ready (rs := [13]) (by kernel_rfl) (by simp) ?_
  refine AllReadyH.cons (o := ⟨none, _, _, _, _, _⟩) rfl (fun KK hK => ?_) (AllReadyH.nil)
  have xk := OW14.out.c3
  have xf := OW14.out.f3
  go_simp
  clear xk xf
  have OW15 := Lib.hid (OW14.out.s3)
  have CL15 := Lib.hid (CL14.out.set (b := H) (o := 3) (v := .slice none 0 0) OW14.out.lt0)
  refine hK.out _ _ (⟨OW15.out.c3, OW15.out.c7, OW15.out.c9⟩) (fun hHeld => ?_)
  clear hK KK
  skip
  refine wpAnyH_take (i := 14) (oi := ⟨some 23, _, _, _, _, _⟩) (v := ?_) rfl (by kernel_rfl) (by kernel_rfl) (by kernel_rfl) (fun _ _ _ h => h) (Or.inl ⟨by rfl, ?_⟩) (by assumption) ?_; rotate_left; (intro w hSw; (try dsimp only at hSw); go_simp; (try with_reducible rfl)); (try simp only [Act.put, sA, sB, sC])
  refine wpAnyH_ready (rs := [15]) (by kernel_rfl) (by simp) ?_
  refine AllReadyH.cons (o := ⟨none, _, _, _, _, _⟩) rfl (fun KK hK => ?_) (AllReadyH.nil)
  have xk := OW15.out.c4
  have xf := OW15.out.f4
  go_simp
  clear xk xf
  have OW16 := Lib.hid (OW15.out.s4 (cv' := .slice ca' cn' cc'))
  have CL16 := Lib.hid (CL15.out.set (b := H) (o := 4) (v := .slice ca' cn' cc') OW15.out.lt0)
  refine hK.out _ _ (⟨OW16.out.c3, OW16.out.c7, OW16.out.c9⟩) (fun hHeld => ?_)
  clear hK KK
  skip
  refine wpAnyH_take (i := 16) (oi := ⟨some 24, _, _, _, _, _⟩) (v := ?_) rfl (by kernel_rfl) (by kernel_rfl) (by kernel_rfl) (fun _ _ _ h => h) (Or.inl ⟨by rfl, ?_⟩) (by assumption) ?_; rotate_left; (intro w hSw; (try dsimp only at hSw); go_simp; (try with_reducible rfl)); (try simp only [Act.put, sA, sB, sC])
  refine wpAnyH_ready (rs := [17]) (by kernel_rfl) (by simp) ?_
  refine AllReadyH.cons (o := ⟨none, _, _, _, _, _⟩) rfl (fun KK hK => ?_) (AllReadyH.nil)
  have xk := OW16.out.c7
  have xf := OW16.out.f7
  go_simp
  clear xk xf
  have OW17 := Lib.hid (OW16.out.s7)
  have CL17 := Lib.hid (CL16.out.set (b := H) (o := 7) (v := .slice none 0 0) OW16.out.lt0)
  refine hK.out _ _ (⟨OW17.out.c3, OW17.out.c7, OW17.out.c9⟩) (fun hHeld => ?_)
  clear hK KK
  skip
  refine wpAnyH_take (i := 18) (oi := ⟨some 25, _, _, _, _, _⟩) (v := ?_) rfl (by kernel_rfl) (by kernel_rfl) (by kernel_rfl) (fun _ _ _ h => h) (Or.inl ⟨by rfl, ?_⟩) (by assumption) ?_; rotate_left; (intro w hSw; (try dsimp only at hSw); go_simp; (try with_reducible rfl)); (try simp only [Act.put, sA, sB, sC])
  refine wpAnyH_ready (rs := [19]) (by kernel_rfl) (by simp) ?_
  refine AllReadyH.cons (o := ⟨none, _, _, _, _, _⟩) rfl (fun KK hK => ?_) (AllReadyH.nil)
  have xk := OW17.out.c9
  have xf := OW17.out.f9
  go_simp
  clear xk xf
  have OW18 := Lib.hid (OW17.out.s9)
  have CL18 := Lib.hid (CL17.out.set (b := H) (o := 9) (v := .slice none 0 0) OW17.out.lt0)
  refine hK.out _ _ (⟨OW18.out.c3, OW18.out.c7, OW18.out.c9⟩) (fun hHeld => ?_)
  clear hK KK
  skip
  refine wpAnyH_done (by kernel_rfl) ?_ _
  obtain ⟨w3, hw3⟩ : ∃ w3, w3 = ((((Z14.setCell ⟨H, 3, none⟩ (.slice none 0 0)).setCell ⟨H, 4, none⟩ (.slice ca' cn' cc')).setCell ⟨H, 7, none⟩ (.slice none 0 0)).setCell ⟨H, 9, none⟩ (.slice none 0 0)) := ⟨_, rfl⟩
  have OWR : Hid (OwAt r (.slice ca' cn' cc') (.slice ka kn kc) w H w3) := Lib.hid (by rw [hw3]; exact OW18.out)
  have CLR : Hid (ClAt r (H + 2) w3 (.slice ca' cn' cc')) := Lib.hid (by rw [hw3]; exact CL18.out)
  rw [← hw3]
  clear hw3
  have y5 := OWR.out.c5
  have f5 := OWR.out.f5
  go_wp2_with fail
  refine (HC69.out _).mono ?_
  rintro ev w4 ⟨rfl, hb⟩
  have OWWa := Lib.hid (OWR.out.kept hb)
  have CLLa := Lib.hid (CLR.out.kept hb)
  clear hb y5 f5
  have y5 := OWWa.out.c5
  have f5 := OWWa.out.f5
  have y6 := OWWa.out.c6
  go_wp2_with fail
  refine (HC70.out _).mono ?_
  rintro ev w5 ⟨rfl, hb⟩
  have OWWb := Lib.hid (OWWa.out.s5.kept hb)
  have CLLb := Lib.hid ((CLLa.out.set (b := H) (o := 5) (v := .slice none 0 0) OWWa.out.lt0).kept hb)
  clear hb y5 f5 y6
  go_wp2_with fail
  go_loopg [35] 0 (fun _ s35 wq => s35 = .int .i64 0 ∧ wq = w5)
  case atStart => exact ⟨rfl, rfl⟩
  case round =>
   obtain ⟨rfl, rfl⟩ := hrel
   have y6 := OWWb.out.c6
   have f6 := OWWb.out.f6
   have y8 := OWWb.out.c8
   go_wp2_with fail
   refine (HC72.out _).mono ?_
   rintro ev w6 ⟨rfl, hb⟩
   have OWWc := Lib.hid (OWWb.out.s6.kept hb)
   have CLLc := Lib.hid ((CLLb.out.set (b := H) (o := 6) (v := .slice none 0 0) OWWb.out.lt0).kept hb)
   clear hb y6 f6 y8
   go_wp2_with fail
   go_loopg [56] 0 (fun _ s56 wr => s56 = .int .i64 0 ∧ wr = w6)
   case atStart => exact ⟨rfl, rfl⟩
   case round =>
    obtain ⟨rfl, rfl⟩ := hrel
    have y8 := OWWc.out.c8
    have f8 := OWWc.out.f8
    have y12 := OWWc.out.c12
    cases r with
    | leaf kd a i =>
     obtain ⟨-, ekv⟩ := HAT.out
     cases ekv
     go_wp2_with fail
     obtain ⟨w7, hw7⟩ : ∃ w7, w7 = wr.setCell ⟨H, 8, none⟩ (.slice none 0 0) := ⟨_, rfl⟩
     have OWWd : Hid (OwAt (.leaf kd a i) (.slice ca' cn' cc') (.slice none 0 0) w H w7) := Lib.hid (by rw [hw7]; exact OWWc.out.s8)
     have CLLd : Hid (ClAt (.leaf kd a i) (H + 2) w7 (.slice ca' cn' cc')) := Lib.hid (by rw [hw7]; exact CLLc.out.set (b := H) OWWc.out.lt0)
     rw [← hw7]
     clear hw7 y8 f8 y12
     go_loopg [7, 75] 0 (fun _ s7 s75 wr => s7 = .slice none 0 0 ∧ s75 = .int .i64 0 ∧ wr = w7)
     case atStart => exact ⟨rfl, rfl, rfl⟩
     case round =>
      obtain ⟨rfl, rfl, rfl⟩ := hrel
      have y0 := OWWd.out.c0
      have y1 := OWWd.out.c1
      have y2 := OWWd.out.c2
      have y3 := OWWd.out.c3
      have y4 := OWWd.out.c4
      have y5 := OWWd.out.c5
      have y6 := OWWd.out.c6
      have y7 := OWWd.out.c7
      have y8 := OWWd.out.c8
      have y9 := OWWd.out.c9
      have y10 := OWWd.out.c10
      have y11 := OWWd.out.c11
      have y12 := OWWd.out.c12
      obtain ⟨z0, g0, z1, g1, z2, g2, z3, g3, z4, g4, z5, g5, z6, g6, z7, g7, z8, g8, z9, g9, z10, g10, z11, g11, z12, g12⟩ := cf13 OWWd.out.b1
      have f12 := OWWd.out.f12
      go_wp2
      refine bodyPost_ret (results_cell_row rfl _ _ (H + 1) 56 _ (0, 0) _ rfl (setRow13_at OWWd.out.s12.b1) Tryz.underlying56 rfl (by kernel_rfl)) rfl ?_
      exact own_end HOK.out OWWd.out CLLd.out rfl
    | proj cs k =>
     obtain ⟨cb, cc1, kb, kc1, ccv, ckv, -, e2, -, hSk, -, -, -, -, hkk, hon⟩ := HAT.out
     cases e2
     obtain ⟨⟨xa, xn, xc, rfl⟩, ya, yn, yc, rfl⟩ := hon.kids
     go_wp2_with fail
     obtain ⟨w7, hw7⟩ : ∃ w7, w7 = wr.setCell ⟨H, 8, none⟩ (.slice none 0 0) := ⟨_, rfl⟩
     have OWWd : Hid (OwAt (.proj cs k) (.slice ca' cn' cc') (.slice (some ⟨kb, 0, none⟩) 1 kc) w H w7) := Lib.hid (by rw [hw7]; exact OWWc.out.s8)
     have CLLd : Hid (ClAt (.proj cs k) (H + 2) w7 (.slice ca' cn' cc')) := Lib.hid (by rw [hw7]; exact CLLc.out.set (b := H) OWWc.out.lt0)
     rw [← hw7]
     have HKC : Hid (w7.cell? ⟨kb, 0, none⟩ = some (.int .u8 k.kind) ∧ w7.cell? ⟨kb, 1, none⟩ = some (.int .i64 k.ar) ∧ w7.cell? ⟨kb, 2, none⟩ = some (.int .i64 k.id) ∧ w7.cell? ⟨kb, 3, none⟩ = some (.slice none 0 0) ∧ w7.cell? ⟨kb, 4, none⟩ = some (.slice xa xn xc) ∧ w7.cell? ⟨kb, 5, none⟩ = some (.slice none 0 0) ∧ w7.cell? ⟨kb, 6, none⟩ = some (.slice none 0 0) ∧ w7.cell? ⟨kb, 7, none⟩ = some (.slice none 0 0) ∧ w7.cell? ⟨kb, 8, none⟩ = some (.slice none 0 0) ∧ w7.cell? ⟨kb, 9, none⟩ = some (.slice none 0 0) ∧ w7.cell? ⟨kb, 10, none⟩ = some (.int .i64 0) ∧ w7.cell? ⟨kb, 11, none⟩ = some (.int .i64 0) ∧ w7.cell? ⟨kb, 12, none⟩ = some (.slice ya yn yc)) := Lib.hid (hkk.below OWWd.out.low)
     have hb8 : Below w7.heap.size w7 (w7.alloc (.cells #[.int .u8 k.kind, .int .i64 k.ar, .int .i64 k.id, .slice none 0 0, .slice xa xn xc, .slice none 0 0, .slice none 0 0, .slice none 0 0, .slice none 0 0, .slice none 0 0, .int .i64 0, .int .i64 0, .slice ya yn yc] 56)) := (Below.refl _ _).alloc (Nat.le_refl _) _
     have hik := HIND.out k ⟨cs, rfl⟩ _ _ (w7.alloc (.cells #[.int .u8 k.kind, .int .i64 k.ar, .int .i64 k.id, .slice none 0 0, .slice xa xn xc, .slice none 0 0, .slice none 0 0, .slice none 0 0, .slice none 0 0, .slice none 0 0, .int .i64 0, .int .i64 0, .slice ya yn yc] 56)) ((hon.below (OWWd.out.low.trans (hb8.mono OWWd.out.low.size))).wide fun g hg => Nat.lt_of_lt_of_le hg (Nat.le_trans OWWd.out.low.size hb8.size)) HOK.out.1
     rw [show k.agg (.slice xa xn xc) (.slice ya yn yc) = .agg #[.int .u8 k.kind, .int .i64 k.ar, .int .i64 k.id, .slice none 0 0, .slice xa xn xc, .slice none 0 0, .slice none 0 0, .slice none 0 0, .slice none 0 0, .slice none 0 0, .int .i64 0, .int .i64 0, .slice ya yn yc] from rfl] at hik
     have HIK := Lib.hid hik
     have HB8 := Lib.hid hb8
     obtain ⟨i0, hi0, hz0, hz1, hz2⟩ := info_parts info56
     clear hw7 y8 f8 y12 hik hb8 hkk hon hSk
     go_loopg [7, 75] 1 (fun g s7 s75 wr => (g = 1 ∧ s7 = .slice none 0 0 ∧ s75 = .int .i64 0 ∧ wr = w7) ∨ (g = 0 ∧ ∃ a c, s7 = .slice a 1 c ∧ s75 = .int .i64 1 ∧ OwAt (.proj cs k) (.slice ca' cn' cc') (.slice (some ⟨kb, 0, none⟩) 1 kc) w H wr ∧ ClAt (.proj cs k) (H + 2) wr (.slice ca' cn' cc') ∧ KdR (.proj cs k) (H + 2) wr (.slice a 1 c)))
     case atStart => exact .inl ⟨rfl, rfl, rfl, rfl⟩
     case round =>
      rcases hrel with ⟨rfl, rfl, rfl, rfl⟩ | ⟨rfl, a7, c7, rfl, rfl, ho, hc, hk⟩
      ·obtain ⟨z0, z1, z2, z3, z4, z5, z6, z7, z8, z9, z10, z11, z12⟩ := HKC.out
       have sK := World.block_lt_of_cell? wr _ z0
       go_wp2_with fail
       refine HIK.out.mono ?_
       rintro ev w9 ⟨cv2, kv2, rfl, hon2, hb2⟩
       obtain ⟨⟨pa, pn, pc, rfl⟩, qa, qn, qc, rfl⟩ := hon2.kids
       rw [show k.agg (.slice pa pn pc) (.slice qa qn qc) = .agg #[.int .u8 k.kind, .int .i64 k.ar, .int .i64 k.id, .slice none 0 0, .slice pa pn pc, .slice none 0 0, .slice none 0 0, .slice none 0 0, .slice none 0 0, .slice none 0 0, .int .i64 0, .int .i64 0, .slice qa qn qc] from rfl]
       have hb9 := HB8.out.trans (hb2.mono HB8.out.size)
       have OWWe := Lib.hid (OWWd.out.kept hb9)
       have CLLe := Lib.hid (CLLd.out.kept hb9)
       have HON2 := Lib.hid hon2
       have HB9 := Lib.hid hb9
       clear hon2 hb2 hb9 z0 z1 z2 z3 z4 z5 z6 z7 z8 z9 z10 z11 z12 sK
       go_wp2_with (at_builtin; go_must (refine wpList_append_own _ rfl _ _ 54 rfl w9.heap.size 56 i0 _ 13 232 Tryz.underlying54 hi0 hz0 hz1 hz2 rfl (by decide) (.slice none 0 0) 0 [] rfl (World.ownsRow_nil _ _ _ _) ⟨w9.heap.size, 0, none⟩ 1 1 [.int .u8 k.kind, .int .i64 k.ar, .int .i64 k.id, .slice none 0 0, .slice pa pn pc, .slice none 0 0, .slice none 0 0, .slice none 0 0, .slice none 0 0, .slice none 0 0, .int .i64 0, .int .i64 0, .slice qa qn qc] rfl rfl ?c1 ?c2 ?c3 ?c4 ?c5 ?_))
       case c1 =>
        intro j u hj
        rw [add_lit, Nat.zero_add]
        exact cell_of_heap (heap_alloc_new w9 _) (by rw [List.getElem?_toArray]; exact hj)
       case c2 =>
        intro u hu
        simp only [List.mem_cons, List.not_mem_nil, or_false] at hu
        rcases hu with rfl | rfl | rfl | rfl | rfl | rfl | rfl | rfl | rfl | rfl | rfl | rfl | rfl <;> rfl
       case c3 => unfold maxLen; omega
       case c4 => omega
       case c5 => simp
       intro v' w11 hown hgrow hnil
       have hb11 : Below w9.heap.size w9 w11 := ((Below.refl _ _).alloc (Nat.le_refl _) _).grown hgrow (by simp) (fun g hg => by cases hg)
       rcases hown.2 with ⟨rfl, -⟩ | ⟨g, cap, cur, rfl, g1, g2, g3, -, -, -⟩
       ·exact absurd rfl hnil
       have hrc : RCells w11 g k (.slice pa pn pc) (.slice qa qn qc) := ⟨hown.cellAt 0 (by decide), hown.cellAt 1 (by decide), hown.cellAt 2 (by decide), hown.cellAt 3 (by decide), hown.cellAt 4 (by decide), hown.cellAt 5 (by decide), hown.cellAt 6 (by decide), hown.cellAt 7 (by decide), hown.cellAt 8 (by decide), hown.cellAt 9 (by decide), hown.cellAt 10 (by decide), hown.cellAt 11 (by decide), hown.cellAt 12 (by decide)⟩
       have hsz := OWWd.out.sz
       have h9 := HB9.out.size
       have h8 := HB8.out.size
       have HK11 : Hid (KdR (.proj cs k) (H + 2) w11 (.slice (some ⟨g, 0, none⟩) 1 cap)) := Lib.hid ⟨g, cap, _, _, rfl, by omega, lt_of_heap g2, g3, hrc, (HON2.out.below hb11).wide fun q hq => ⟨by omega, Nat.lt_of_lt_of_le hq.2 hb11.size⟩⟩
       have OWWg := Lib.hid (OWWe.out.kept hb11)
       have CLLg := Lib.hid (CLLe.out.kept hb11)
       clear hown hgrow hnil hb11 g1 g2 g3 hrc hsz h9 h8
       go_wp2_with fail
       go_roundg 0
       case measure => omega
       case rel => exact .inr ⟨rfl, some ⟨g, 0, none⟩, cap, rfl, by go_num, OWWg.out, CLLg.out, HK11.out⟩
      ·have OWf := Lib.hid ho
       have CLf := Lib.hid hc
       have HKf := Lib.hid hk
       clear ho hc hk
       have y0 := OWf.out.c0
       have y1 := OWf.out.c1
       have y2 := OWf.out.c2
       have y3 := OWf.out.c3
       have y4 := OWf.out.c4
       have y5 := OWf.out.c5
       have y6 := OWf.out.c6
       have y7 := OWf.out.c7
       have y8 := OWf.out.c8
       have y9 := OWf.out.c9
       have y10 := OWf.out.c10
       have y11 := OWf.out.c11
       have y12 := OWf.out.c12
       obtain ⟨z0, g0, z1, g1, z2, g2, z3, g3, z4, g4, z5, g5, z6, g6, z7, g7, z8, g8, z9, g9, z10, g10, z11, g11, z12, g12⟩ := cf13 OWf.out.b1
       have f12 := OWf.out.f12
       go_wp2
       refine bodyPost_ret (results_cell_row rfl _ _ (H + 1) 56 _ (0, 0) _ rfl (setRow13_at OWf.out.s12.b1) Tryz.underlying56 rfl (by kernel_rfl)) rfl ?_
       exact own_end HOK.out OWf.out CLf.out HKf.out
end Go.Proofs.YtmmhedlagnjbiaaGreatDoor
