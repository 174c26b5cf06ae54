import Derived.Test.YtmmhedlagnjbiaaGreatDoorPo
import Derived.Test.YtmmhedlagnjbiaaGreatDoorPk
import Derived.WalkMore
import Derived.ScopeJumps
/- our texts, shortened by program (pack.py) -/
set_option maxRecDepth 100000
set_option maxHeartbeats 4000000
namespace Go.Proofs.YtmmhedlagnjbiaaGreatDoor
open Go.RowKit Go.Pen
attribute [local go_sem] Oper.semAt_some
structure OptAt (S : Nat → Prop) (r : RT) (cv kv : Value) (w : World) (H : Nat) (W : World) : Prop where
 own : OwAt r cv kv w H W
 on : r.On (fun g => S g ∨ (H + 2 ≤ g ∧ g < W.heap.size)) W cv kv
def KdS (S : Nat → Prop) (H : Nat) (r : RT) (w : World) (kv : Value) : Prop :=
 match r with
 | .leaf _ _ _ => kv = .slice none 0 0
 | .proj _ k => ∃ g cap ccv ckv, kv = .slice (some ⟨g, 0, none⟩) 1 cap ∧ H + 2 ≤ g ∧ g < w.heap.size ∧ 1 ≤ cap ∧ RCells w g k ccv ckv ∧ k.On (fun x => S x ∨ (H + 2 ≤ x ∧ x < w.heap.size)) w ccv ckv
theorem KdS.slice {S : Nat → Prop} {H : Nat} {r : RT} {w : World} {kv : Value} (h : KdS S H r w kv) : ∃ a n c, kv = .slice a n c := by
 cases r with
 | leaf => exact ⟨_, _, _, h⟩
 | proj => obtain ⟨g, cap, ccv, ckv, h1, -⟩ := h; exact ⟨_, _, _, h1⟩
theorem RT.On.kn {S : Nat → Prop} {w : World} {r : RT} {cv : Value} {ka : Option Addr} {kn kc : Nat} (h : r.On S w cv (.slice ka kn kc)) : kn ≤ 1 ∧ (kn = 0 → ∃ kd a i, r = .leaf kd a i) := by
 cases r with
 | leaf kd a i => obtain ⟨-, e⟩ := h; cases e; exact ⟨by omega, fun _ => ⟨_, _, _, rfl⟩⟩
 | proj cs k => obtain ⟨cb, cc, kb, kc', ccv, ckv, -, e, -⟩ := h; cases e; exact ⟨by omega, fun h => by omega⟩
section
variable {S : Nat → Prop} {r : RT} {cv kv : Value} {w : World} {H : Nat} {W : World}
theorem OptAt.kept {W' : World} (h : OptAt S r cv kv w H W) (hb : Below W.heap.size W W') : OptAt S r cv kv w H W' :=
 ⟨h.own.kept hb, (h.on.below hb).wide fun _ hg => hg.elim .inl fun q => .inr ⟨q.1, Nat.lt_of_lt_of_le q.2 hb.size⟩⟩
theorem OptAt.kids {kv' : Value} (h : OptAt S r cv kv w H W) (hS : ∀ g, S g → g < H) (hk : KdS S H r W kv') : OptAt S r cv kv' w H (W.setCell ⟨H, 12, none⟩ kv') := by
 have hs : (W.setCell ⟨H, 12, none⟩ kv').heap.size = W.heap.size := by simp [World.setCell]
 refine ⟨h.own.s12, ?_⟩
 have hon : r.On (fun g => S g ∨ (H + 2 ≤ g ∧ g < W.heap.size)) W cv kv' := by
  have ho := h.on
  cases r with
  | leaf => exact ⟨ho.1, hk⟩
  | proj cs k =>
   obtain ⟨cb, cc, kb, kc, ccv, ckv, e1, -, hSc, -, hcc, -, hl9, hcs, -, -⟩ := ho
   obtain ⟨g, cap, ccv', ckv', e2, g1, g2, g3, g4, g5⟩ := hk
   exact ⟨cb, cc, g, cap, ccv', ckv', e1, e2, hSc, .inr ⟨g1, g2⟩, hcc, g3, hl9, hcs, g4, g5⟩
 refine hon.frame (fun _ hg => by rw [hs]; exact hg) (fun g hg _ => heap_set_ne ?_)
 rcases hg with hg | hg
 ·have := hS g hg; omega
 ·omega
def OptPost (S : Nat → Prop) (r : RT) (w : World) (ev : Ending) (w' : World) : Prop :=
 ∃ cv kv, ev = .returned (r.agg cv kv) ∧ r.On (fun g => S g ∨ (w.heap.size ≤ g ∧ g < w'.heap.size)) w' cv kv ∧ Below w.heap.size w w'
theorem OptAt.fin {v0 v1 v2 v3 v4 v5 v6 v7 v8 v9 v10 v11 v12 : Value} (h : OptAt S r cv kv w H W) (hS : ∀ g, S g → g < H) :
  OptPost S r w (.returned (r.agg cv kv)) (setRow13 W (H + 1) v0 v1 v2 v3 v4 v5 v6 v7 v8 v9 v10 v11 v12) := by
 have hh := h.own.hh
 refine ⟨cv, kv, rfl, h.on.frame (fun g hg => ?_) (fun g hg _ => setRow13_ne ?_), setRow13_below h.own.low (by omega)⟩
 ·rw [setRow13_size]
  rcases hg with hg | hg
  ·exact .inl hg
  ·exact .inr ⟨by omega, hg.2⟩
 ·rcases hg with hg | hg
  ·have := hS g hg; omega
  ·omega
end
def StayAll (r : RT) (o : Addr) : Prop := ∀ f ∈ [96, 97, 98, 99, 100, 101], ∀ (S : Nat → Prop) (cv kv : Value) (w : World), r.On S w cv kv → (∀ g, S g → g < w.heap.size) → Calls Tryz.prog f #[.pointer (some o), r.agg cv kv] w (StayPost r cv kv w)
def OptOk (r r' : RT) (o : Addr) : Prop := ∀ (S : Nat → Prop) (cv kv : Value) (w : World) (_ : r.On S w cv kv) (_ : ∀ g, S g → g < w.heap.size), Calls Tryz.prog 37 #[.pointer (some o), r.agg cv kv] w (OptPost S r' w)
theorem rule_at {w : World} {B : Nat} {o : Addr} {fr : Nat × Nat} (h : w.heap[B]? = some (.cells #[.func (.func 96) #[.pointer (some o)] #[], .func (.func 97) #[.pointer (some o)] #[], .func (.func 98) #[.pointer (some o)] #[], .func (.func 99) #[.pointer (some o)] #[], .func (.func 100) #[.pointer (some o)] #[], .func (.func 101) #[.pointer (some o)] #[]] 125 fr)) {i : Nat} (hi : i < 6) :
  ∃ f, f ∈ [96, 97, 98, 99, 100, 101] ∧ w.cell? ⟨B, i, none⟩ = some (.func (.func f) #[.pointer (some o)] #[]) ∧ (i < 2 → f = 96 + i) ∧ ∀ args w, (callFunc f args).run Tryz.prog w = .ok (.enter f args) w := by
 match i, hi with
 | 0, _ => exact ⟨96, by decide, cell_of_heap h rfl, by first | (intro _; rfl) | (intro h; omega), enters_of Tryz.func96 (by kernel_rfl) rfl⟩
 | 1, _ => exact ⟨97, by decide, cell_of_heap h rfl, by first | (intro _; rfl) | (intro h; omega), enters_of Tryz.func97 (by kernel_rfl) rfl⟩
 | 2, _ => exact ⟨98, by decide, cell_of_heap h rfl, by first | (intro _; rfl) | (intro h; omega), enters_of Tryz.func98 (by kernel_rfl) rfl⟩
 | 3, _ => exact ⟨99, by decide, cell_of_heap h rfl, by first | (intro _; rfl) | (intro h; omega), enters_of Tryz.func99 (by kernel_rfl) rfl⟩
 | 4, _ => exact ⟨100, by decide, cell_of_heap h rfl, by first | (intro _; rfl) | (intro h; omega), enters_of Tryz.func100 (by kernel_rfl) rfl⟩
 | 5, _ => exact ⟨101, by decide, cell_of_heap h rfl, by first | (intro _; rfl) | (intro h; omega), enters_of Tryz.func101 (by kernel_rfl) rfl⟩
theorem jump_goto {l : Nat} {J : Act → World → Prop} {Q : Exit → Act → World → Prop} {a : Act} {w : World} (h : J a w) : Exit.jump l J Q (.goto l) a w := ⟨rfl, h⟩
theorem OptAt.put {S : Nat → Prop} {r r2 : RT} {cv kv c k : Value} {w W : World} {H m : Nat} {o : Obj} (h : OptAt S r cv kv w H W) (hS : ∀ g, S g → g < H) (hm : H + 2 ≤ m) (hW : m ≤ W.heap.size) (hon : r2.On (fun g => (S g ∨ H + 2 ≤ g ∧ g < m) ∨ m ≤ g ∧ g < W.heap.size) W c k) :
  OptAt S r2 c k w H ((setRow13 W H (.int .u8 r2.kind) (.int .i64 r2.ar) (.int .i64 r2.id) (.slice none 0 0) (c) (.slice none 0 0) (.slice none 0 0) (.slice none 0 0) (.slice none 0 0) (.slice none 0 0) (.int .i64 0) (.int .i64 0) (k)).alloc o) := by
 have hh := h.own.hh
 have hs : ((setRow13 W H (.int .u8 r2.kind) (.int .i64 r2.ar) (.int .i64 r2.id) (.slice none 0 0) (c) (.slice none 0 0) (.slice none 0 0) (.slice none 0 0) (.slice none 0 0) (.slice none 0 0) (.int .i64 0) (.int .i64 0) (k)).alloc o).heap.size = W.heap.size + 1 := by rw [World.size_alloc, setRow13_size]
 have hw : W.heap.size = (setRow13 W H (.int .u8 r2.kind) (.int .i64 r2.ar) (.int .i64 r2.id) (.slice none 0 0) (c) (.slice none 0 0) (.slice none 0 0) (.slice none 0 0) (.slice none 0 0) (.slice none 0 0) (.int .i64 0) (.int .i64 0) (k)).heap.size := setRow13_size.symm
 have ha : ∀ g, g < W.heap.size → ((setRow13 W H (.int .u8 r2.kind) (.int .i64 r2.ar) (.int .i64 r2.id) (.slice none 0 0) (c) (.slice none 0 0) (.slice none 0 0) (.slice none 0 0) (.slice none 0 0) (.slice none 0 0) (.int .i64 0) (.int .i64 0) (k)).alloc o).heap[g]? = (setRow13 W H (.int .u8 r2.kind) (.int .i64 r2.ar) (.int .i64 r2.id) (.slice none 0 0) (c) (.slice none 0 0) (.slice none 0 0) (.slice none 0 0) (.slice none 0 0) (.slice none 0 0) (.int .i64 0) (.int .i64 0) (k)).heap[g]? := fun g hg => Below.heap_alloc _ _ _ (by rw [← hw]; exact hg)
 refine ⟨⟨(ha _ (lt_of_heap h.own.b0)).trans (setRow13_at h.own.b0), (ha _ (lt_of_heap h.own.b1)).trans ((setRow13_ne (by omega)).trans h.own.b1), hh, (setRow13_below h.own.low (by omega)).alloc (by rw [← hw]; exact h.own.low.size) _, by rw [hs]; have := h.own.sz; omega⟩, ?_⟩
 refine hon.frame (fun g hg => ?_) (fun g hg hl => (ha g hl).trans (setRow13_ne ?_))
 ·rw [hs]
  rcases hg with (hg | hg) | hg
  ·exact .inl hg
  ·exact .inr ⟨hg.1, by omega⟩
  ·exact .inr ⟨by omega, by omega⟩
 ·rcases hg with (hg | hg) | hg
  ·have := hS g hg; omega
  ·omega
  ·omega
def TwoPost (S : Nat → Prop) (r2 : RT) (w : World) (ev : Ending) (w' : World) : Prop :=
 ∃ cv kv, ev = .returned (.tuple #[r2.agg cv kv, .bool true]) ∧ r2.On (fun g => S g ∨ (w.heap.size ≤ g ∧ g < w'.heap.size)) w' cv kv ∧ Below w.heap.size w w'
theorem of_stay (r : RT) (o : Addr) (hst : StayAll r o) (hkid : ∀ cs k, r = .proj cs k → OptOk k k o) : OptOk r r o := by
 intro S cv kv w hat hS
 obtain ⟨⟨ca, cn, cc, rfl⟩, ka, kn, kc, rfl⟩ := hat.kids
 obtain ⟨H, eH⟩ : ∃ H, H = w.heap.size := ⟨_, rfl⟩
 have HS : Hid (∀ g, S g → g < H) := Lib.hid (by rw [eH]; exact hS)
 have HRU := Lib.hid (fun W => rules_73 o W)
 have ht := two_at (w := w) (a := .cells #[.int .u8 r.kind, .int .i64 r.ar, .int .i64 r.id, .slice none 0 0, .slice ca cn cc, .slice none 0 0, .slice none 0 0, .slice none 0 0, .slice none 0 0, .slice none 0 0, .int .i64 0, .int .i64 0, .slice ka kn kc] 56) (b := .cells #[.int .u8 0, .int .i64 0, .int .i64 0, .slice none 0 0, .slice none 0 0, .slice none 0 0, .slice none 0 0, .slice none 0 0, .slice none 0 0, .slice none 0 0, .int .i64 0, .int .i64 0, .slice none 0 0] 56) (Below.refl _ _)
 have hb0 := two_below w (.cells #[.int .u8 r.kind, .int .i64 r.ar, .int .i64 r.id, .slice none 0 0, .slice ca cn cc, .slice none 0 0, .slice none 0 0, .slice none 0 0, .slice none 0 0, .slice none 0 0, .int .i64 0, .int .i64 0, .slice ka kn kc] 56) (.cells #[.int .u8 0, .int .i64 0, .int .i64 0, .slice none 0 0, .slice none 0 0, .slice none 0 0, .slice none 0 0, .slice none 0 0, .slice none 0 0, .slice none 0 0, .int .i64 0, .int .i64 0, .slice none 0 0] 56)
 rw [← eH] at ht
 have hw0 : OwAt r (.slice ca cn cc) (.slice ka kn kc) w H ((w.alloc (.cells #[.int .u8 r.kind, .int .i64 r.ar, .int .i64 r.id, .slice none 0 0, .slice ca cn cc, .slice none 0 0, .slice none 0 0, .slice none 0 0, .slice none 0 0, .slice none 0 0, .int .i64 0, .int .i64 0, .slice ka kn kc] 56)).alloc (.cells #[.int .u8 0, .int .i64 0, .int .i64 0, .slice none 0 0, .slice none 0 0, .slice none 0 0, .slice none 0 0, .slice none 0 0, .slice none 0 0, .slice none 0 0, .int .i64 0, .int .i64 0, .slice none 0 0] 56)) := ⟨ht.1, ht.2, eH, hb0, by rw [eH]; simp⟩
 have OA : Hid (OptAt S r (.slice ca cn cc) (.slice ka kn kc) w H ((w.alloc (.cells #[.int .u8 r.kind, .int .i64 r.ar, .int .i64 r.id, .slice none 0 0, .slice ca cn cc, .slice none 0 0, .slice none 0 0, .slice none 0 0, .slice none 0 0, .slice none 0 0, .int .i64 0, .int .i64 0, .slice ka kn kc] 56)).alloc (.cells #[.int .u8 0, .int .i64 0, .int .i64 0, .slice none 0 0, .slice none 0 0, .slice none 0 0, .slice none 0 0, .slice none 0 0, .slice none 0 0, .slice none 0 0, .int .i64 0, .int .i64 0, .slice none 0 0] 56))) := Lib.hid ⟨hw0, (hat.below hb0).wide fun _ h => .inl h⟩
 have EH := Lib.hid eH
 rw [show r.agg (.slice ca cn cc) (.slice ka kn kc) = .agg #[.int .u8 r.kind, .int .i64 r.ar, .int .i64 r.id, .slice none 0 0, .slice ca cn cc, .slice none 0 0, .slice none 0 0, .slice none 0 0, .slice none 0 0, .slice none 0 0, .int .i64 0, .int .i64 0, .slice ka kn kc] from rfl]
 clear ht hb0 hw0 eH hat hS
 go_enter Tryz.func37, Tryz.ntmps37
 have HST := Lib.hid hst
 have HKID := Lib.hid hkid
 clear hst hkid
 go_wp2_with fail
 go_step3
 go_wp2_with fail
 rw [← EH.out]
 obtain ⟨W1, hW1⟩ : ∃ W1, W1 = (w.alloc (.cells #[.int .u8 r.kind, .int .i64 r.ar, .int .i64 r.id, .slice none 0 0, .slice ca cn cc, .slice none 0 0, .slice none 0 0, .slice none 0 0, .slice none 0 0, .slice none 0 0, .int .i64 0, .int .i64 0, .slice ka kn kc] 56)).alloc (.cells #[.int .u8 0, .int .i64 0, .int .i64 0, .slice none 0 0, .slice none 0 0, .slice none 0 0, .slice none 0 0, .slice none 0 0, .slice none 0 0, .slice none 0 0, .int .i64 0, .int .i64 0, .slice none 0 0] 56) := ⟨_, rfl⟩
 rw [← hW1] at OA ⊢
 clear hW1
 go_step3
 obtain ⟨i0, hi0, hz0, hz1, hz2⟩ := info_parts info56
 have y12 := OA.out.own.c12
 have sH := lt_of_heap OA.out.own.b0
 go_wp2_with fail
 clear y12 sH
 have hK1 : kn ≤ 1 := OA.out.on.kn.1
 have hK0 : kn = 0 → ∃ kd a i, r = .leaf kd a i := OA.out.on.kn.2
 go_loopg [5, 15] kn (fun g s5 s15 wr => ∃ (z : Int) (u5 : Value), s15 = .int .i64 z ∧ s5 = u5 ∧ ((z = 0 ∧ kn = g ∧ u5 = .slice none 0 0 ∧ wr = W1) ∨ (z = 1 ∧ kn = 1 ∧ g = 0 ∧ OptAt S r (.slice ca cn cc) (.slice ka kn kc) w H wr ∧ KdS S H r wr u5)))
 case atStart => exact ⟨0, _, rfl, rfl, .inl ⟨rfl, rfl, rfl, rfl⟩⟩
 case round =>
  obtain ⟨z, u5, rfl, rfl, hd⟩ := hrel
  by_cases hlt : z < (kn : Int)
  ·rcases hd with ⟨rfl, rfl, rfl, rfl⟩ | ⟨rfl, hk1, -, -, -⟩
   rotate_left
   ·omega
   obtain rfl : kn = 1 := by omega
   cases r with
   | leaf kd a i => exact absurd (OA.out.on.2) (fun h => by cases h)
   | proj cs k =>
    obtain ⟨cb, cc1, kb, kc1, ccv, ckv, -, e2, hSc, hSk, -, -, -, -, hkk, hon⟩ := OA.out.on
    cases e2
    obtain ⟨⟨xa, xn, xc, rfl⟩, ya, yn, yc, rfl⟩ := hon.kids
    have HKC : Hid (wr.cell? ⟨kb, 0, none⟩ = some (.int .u8 k.kind) ∧ wr.cell? ⟨kb, 1, none⟩ = some (.int .i64 k.ar) ∧ wr.cell? ⟨kb, 2, none⟩ = some (.int .i64 k.id) ∧ wr.cell? ⟨kb, 3, none⟩ = some (.slice none 0 0) ∧ wr.cell? ⟨kb, 4, none⟩ = some (.slice xa xn xc) ∧ wr.cell? ⟨kb, 5, none⟩ = some (.slice none 0 0) ∧ wr.cell? ⟨kb, 6, none⟩ = some (.slice none 0 0) ∧ wr.cell? ⟨kb, 7, none⟩ = some (.slice none 0 0) ∧ wr.cell? ⟨kb, 8, none⟩ = some (.slice none 0 0) ∧ wr.cell? ⟨kb, 9, none⟩ = some (.slice none 0 0) ∧ wr.cell? ⟨kb, 10, none⟩ = some (.int .i64 0) ∧ wr.cell? ⟨kb, 11, none⟩ = some (.int .i64 0) ∧ wr.cell? ⟨kb, 12, none⟩ = some (.slice ya yn yc)) := Lib.hid hkk
    have hb8 : Below wr.heap.size wr (wr.alloc (.cells #[.int .u8 k.kind, .int .i64 k.ar, .int .i64 k.id, .slice none 0 0, .slice xa xn xc, .slice none 0 0, .slice none 0 0, .slice none 0 0, .slice none 0 0, .slice none 0 0, .int .i64 0, .int .i64 0, .slice ya yn yc] 56)) := (Below.refl _ _).alloc (Nat.le_refl _) _
    have hsz := OA.out.own.sz
    have hik := HKID.out cs k rfl (fun g => S g ∨ (H + 2 ≤ g ∧ g < wr.heap.size)) _ _ (wr.alloc (.cells #[.int .u8 k.kind, .int .i64 k.ar, .int .i64 k.id, .slice none 0 0, .slice xa xn xc, .slice none 0 0, .slice none 0 0, .slice none 0 0, .slice none 0 0, .slice none 0 0, .int .i64 0, .int .i64 0, .slice ya yn yc] 56)) (hon.below hb8) (fun g hg => Nat.lt_of_lt_of_le (hg.elim (fun h => by have := HS.out g h; omega) And.right) hb8.size)
    rw [show k.agg (.slice xa xn xc) (.slice ya yn yc) = .agg #[.int .u8 k.kind, .int .i64 k.ar, .int .i64 k.id, .slice none 0 0, .slice xa xn xc, .slice none 0 0, .slice none 0 0, .slice none 0 0, .slice none 0 0, .slice none 0 0, .int .i64 0, .int .i64 0, .slice ya yn yc] from rfl] at hik
    have HIK := Lib.hid hik
    have HB8 := Lib.hid hb8
    clear hik hb8 hkk hon hSc hSk hsz
    obtain ⟨z0, z1, z2, z3, z4, z5, z6, z7, z8, z9, z10, z11, z12⟩ := HKC.out
    have sK := World.block_lt_of_cell? wr _ z0
    go_wp2_with fail
    refine HIK.out.mono ?_
    rintro ev w9 ⟨cv2, kv2, rfl, hon2, hb2⟩
    obtain ⟨⟨pa, pn, pc, rfl⟩, qa, qn, qc, rfl⟩ := hon2.kids
    rw [show k.agg (.slice pa pn pc) (.slice qa qn qc) = .agg #[.int .u8 k.kind, .int .i64 k.ar, .int .i64 k.id, .slice none 0 0, .slice pa pn pc, .slice none 0 0, .slice none 0 0, .slice none 0 0, .slice none 0 0, .slice none 0 0, .int .i64 0, .int .i64 0, .slice qa qn qc] from rfl]
    have hb9 := HB8.out.trans (hb2.mono HB8.out.size)
    have OB := Lib.hid (OA.out.kept hb9)
    have HON2 := Lib.hid hon2
    have HB9 := Lib.hid hb9
    clear hon2 hb2 hb9 z0 z1 z2 z3 z4 z5 z6 z7 z8 z9 z10 z11 z12 sK
    go_wp2_with (at_builtin; go_must (refine wpList_append_own _ rfl _ _ 54 rfl w9.heap.size 56 i0 _ 13 232 Tryz.underlying54 hi0 hz0 hz1 hz2 rfl (by decide) (.slice none 0 0) 0 [] rfl (World.ownsRow_nil _ _ _ _) ⟨w9.heap.size, 0, none⟩ 1 1 [.int .u8 k.kind, .int .i64 k.ar, .int .i64 k.id, .slice none 0 0, .slice pa pn pc, .slice none 0 0, .slice none 0 0, .slice none 0 0, .slice none 0 0, .slice none 0 0, .int .i64 0, .int .i64 0, .slice qa qn qc] rfl rfl ?c1 ?c2 ?c3 ?c4 ?c5 ?_))
    case c1 =>
     intro j u hj
     rw [add_lit, Nat.zero_add]
     exact cell_of_heap (heap_alloc_new w9 _) (by rw [List.getElem?_toArray]; exact hj)
    case c2 =>
     intro u hu
     simp only [List.mem_cons, List.not_mem_nil, or_false] at hu
     rcases hu with rfl | rfl | rfl | rfl | rfl | rfl | rfl | rfl | rfl | rfl | rfl | rfl | rfl <;> rfl
    case c3 => unfold maxLen; omega
    case c4 => omega
    case c5 => simp
    intro v' w11 hown hgrow hnil
    have hb11 : Below w9.heap.size w9 w11 := ((Below.refl _ _).alloc (Nat.le_refl _) _).grown hgrow (by simp) (fun g hg => by cases hg)
    rcases hown.2 with ⟨rfl, -⟩ | ⟨g, cap, cur, rfl, g1, g2, g3, -, -, -⟩
    ·exact absurd rfl hnil
    have hrc : RCells w11 g k (.slice pa pn pc) (.slice qa qn qc) := ⟨hown.cellAt 0 (by decide), hown.cellAt 1 (by decide), hown.cellAt 2 (by decide), hown.cellAt 3 (by decide), hown.cellAt 4 (by decide), hown.cellAt 5 (by decide), hown.cellAt 6 (by decide), hown.cellAt 7 (by decide), hown.cellAt 8 (by decide), hown.cellAt 9 (by decide), hown.cellAt 10 (by decide), hown.cellAt 11 (by decide), hown.cellAt 12 (by decide)⟩
    have hsz := OA.out.own.sz
    have h9 := HB9.out.size
    have h8 : wr.heap.size ≤ (wr.alloc (.cells #[.int .u8 k.kind, .int .i64 k.ar, .int .i64 k.id, .slice none 0 0, .slice xa xn xc, .slice none 0 0, .slice none 0 0, .slice none 0 0, .slice none 0 0, .slice none 0 0, .int .i64 0, .int .i64 0, .slice ya yn yc] 56)).heap.size := HB8.out.size
    have HK11 : Hid (KdS S H (.proj cs k) w11 (.slice (some ⟨g, 0, none⟩) 1 cap)) := Lib.hid ⟨g, cap, _, _, rfl, by omega, lt_of_heap g2, g3, hrc, (HON2.out.below hb11).wide fun q hq => by
     have := hb11.size
     rcases hq with (hq | hq) | hq
     ·exact .inl hq
     ·exact .inr ⟨hq.1, by omega⟩
     ·exact .inr ⟨by omega, by omega⟩⟩
    have OC := Lib.hid (OB.out.kept hb11)
    clear hown hgrow hnil hb11 g1 g2 g3 hrc hsz h9 h8
    go_wp2_with fail
    go_roundg 0
    case measure => omega
    case rel => exact ⟨1, _, by go_num, rfl, .inr ⟨rfl, by first | rfl | trivial, by first | rfl | trivial, OC.out, HK11.out⟩⟩
  ·have hex : OptAt S r (.slice ca cn cc) (.slice ka kn kc) w H wr ∧ KdS S H r wr u5 := by
    rcases hd with ⟨rfl, -, rfl, rfl⟩ | ⟨rfl, -, -, h1, h2⟩
    ·obtain ⟨kd, a, i, rfl⟩ := hK0 (by omega)
     exact ⟨OA.out, rfl⟩
    ·exact ⟨h1, h2⟩
   obtain ⟨ga, gn, gc, rfl⟩ := hex.2.slice
   have OD := Lib.hid hex.1
   have KD := Lib.hid hex.2
   have y12 := hex.1.own.c12
   have f12 := hex.1.own.f12
   have hlz : ¬ z < (kn : Int) := hlt
   clear hex hd
   go_wp2_with fail
   clear y12 f12 hlz hlt
   obtain ⟨W3, hW3⟩ : ∃ W3, W3 = wr.setCell ⟨H, 12, none⟩ (.slice ga gn gc) := ⟨_, rfl⟩
   have OE : Hid (OptAt S r (.slice ca cn cc) (.slice ga gn gc) w H W3) := Lib.hid (by rw [hW3]; exact OD.out.kids HS.out KD.out)
   rw [← hW3]
   clear hW3
   refine (HRU.out W3).mono ?_
   rintro ev w5 ⟨rfl, rfl⟩
   obtain ⟨W5, hW5⟩ : ∃ W5, W5 = W3.alloc (.cells #[.func (.func 96) #[.pointer (some o)] #[], .func (.func 97) #[.pointer (some o)] #[], .func (.func 98) #[.pointer (some o)] #[], .func (.func 99) #[.pointer (some o)] #[], .func (.func 100) #[.pointer (some o)] #[], .func (.func 101) #[.pointer (some o)] #[]] 125) := ⟨_, rfl⟩
   obtain ⟨B, eB⟩ : ∃ B, B = W3.heap.size := ⟨_, rfl⟩
   have hr5 : W5.heap[B]? = some (.cells #[.func (.func 96) #[.pointer (some o)] #[], .func (.func 97) #[.pointer (some o)] #[], .func (.func 98) #[.pointer (some o)] #[], .func (.func 99) #[.pointer (some o)] #[], .func (.func 100) #[.pointer (some o)] #[], .func (.func 101) #[.pointer (some o)] #[]] 125 (0, 0)) := by rw [hW5, eB]; exact heap_alloc_new _ _
   have OF : Hid (OptAt S r (.slice ca cn cc) (.slice ga gn gc) w H W5) := Lib.hid (by rw [hW5]; exact OE.out.kept ((Below.refl _ _).alloc (Nat.le_refl _) _))
   rw [← hW5, ← eB]
   have HR5 := Lib.hid hr5
   clear hW5 eB hr5
   go_wp2_with fail
   go_loopg [31] 6 (fun g s31 wr => ∃ i : Nat, i ≤ 6 ∧ g = 6 - i ∧ s31 = .int .i64 i ∧ Below W5.heap.size W5 wr)
   case atStart => exact ⟨0, by omega, rfl, rfl, Below.refl _ _⟩
   case round =>
    obtain ⟨i, hi, rfl, rfl, hbx⟩ := hrel
    have OG := Lib.hid (OF.out.kept hbx)
    have HBX := Lib.hid hbx
    have hrb := (hbx.block _ (lt_of_heap HR5.out)).trans HR5.out
    have HRB := Lib.hid hrb
    clear hbx hrb
    by_cases hlt : i < 6
    ·obtain ⟨f, hf, zf, -, hen⟩ := rule_at HRB.out hlt
     have sB := World.block_lt_of_cell? wr _ zf
     have hcl := HST.out f hf (fun g => S g ∨ (H + 2 ≤ g ∧ g < wr.heap.size)) _ _ wr OG.out.on (fun g hg => hg.elim (fun h => by have := HS.out g h; have := OG.out.own.sz; omega) And.right)
     rw [show r.agg (.slice ca cn cc) (.slice ga gn gc) = .agg #[.int .u8 r.kind, .int .i64 r.ar, .int .i64 r.id, .slice none 0 0, .slice ca cn cc, .slice none 0 0, .slice none 0 0, .slice none 0 0, .slice none 0 0, .slice none 0 0, .int .i64 0, .int .i64 0, .slice ga gn gc] from rfl] at hcl
     have HCL := Lib.hid hcl
     clear hcl
     have y0 := OG.out.own.c0
     have y1 := OG.out.own.c1
     have y2 := OG.out.own.c2
     have y3 := OG.out.own.c3
     have y4 := OG.out.own.c4
     have y5 := OG.out.own.c5
     have y6 := OG.out.own.c6
     have y7 := OG.out.own.c7
     have y8 := OG.out.own.c8
     have y9 := OG.out.own.c9
     have y10 := OG.out.own.c10
     have y11 := OG.out.own.c11
     have y12 := OG.out.own.c12
     go_wp2_with fail
     refine HCL.out.mono ?_
     rintro ev w6 ⟨rfl, hb6⟩
     rw [show r.agg (.slice ca cn cc) (.slice ga gn gc) = .agg #[.int .u8 r.kind, .int .i64 r.ar, .int .i64 r.id, .slice none 0 0, .slice ca cn cc, .slice none 0 0, .slice none 0 0, .slice none 0 0, .slice none 0 0, .slice none 0 0, .int .i64 0, .int .i64 0, .slice ga gn gc] from rfl]
     have HB6 := Lib.hid hb6
     clear hb6 zf sB hen y0 y1 y2 y3 y4 y5 y6 y7 y8 y9 y10 y11 y12
     go_wp2_with fail
     go_roundg (6 - (i + 1))
     case measure => omega
     case rel => exact ⟨i + 1, by omega, rfl, by go_num, HBX.out.trans ((HB6.out.trans (((Below.refl _ _).alloc (Nat.le_refl _) _).mono HB6.out.size)).mono HBX.out.size)⟩
    ·obtain rfl : i = 6 := by omega
     have y0 := OG.out.own.c0
     have y1 := OG.out.own.c1
     have y2 := OG.out.own.c2
     have y3 := OG.out.own.c3
     have y4 := OG.out.own.c4
     have y5 := OG.out.own.c5
     have y6 := OG.out.own.c6
     have y7 := OG.out.own.c7
     have y8 := OG.out.own.c8
     have y9 := OG.out.own.c9
     have y10 := OG.out.own.c10
     have y11 := OG.out.own.c11
     have y12 := OG.out.own.c12
     obtain ⟨z0, g0, z1, g1, z2, g2, z3, g3, z4, g4, z5, g5, z6, g6, z7, g7, z8, g8, z9, g9, z10, g10, z11, g11, z12, g12⟩ := cf13 OG.out.own.b1
     go_wp2_with fail
     try rw [Exit.noGoto_ret]
     try simp only [Exit.jump]
     refine bodyPost_ret (results_cell_row rfl _ _ (H + 1) 56 _ (0, 0) _ rfl (setRow13_at OG.out.own.b1) Tryz.underlying56 rfl (by kernel_rfl)) rfl ?_
     exact OG.out.fin HS.out
theorem of_two (r r2 : RT) (o : Addr) (h96 : ∀ (S : Nat → Prop) (cv kv : Value) (w : World), r.On S w cv kv → (∀ g, S g → g < w.heap.size) → Calls Tryz.prog 96 #[.pointer (some o), r.agg cv kv] w (StayPost r cv kv w))
  (h97 : ∀ (S : Nat → Prop) (cv kv : Value) (w : World), r.On S w cv kv → (∀ g, S g → g < w.heap.size) → Calls Tryz.prog 97 #[.pointer (some o), r.agg cv kv] w (TwoPost S r2 w))
  (hkid : ∀ cs k, r = .proj cs k → OptOk k k o) (hst : StayAll r2 o) (hkid2 : ∀ cs k, r2 = .proj cs k → OptOk k k o) : OptOk r r2 o := by
 intro S cv kv w hat hS
 obtain ⟨⟨ca, cn, cc, rfl⟩, ka, kn, kc, rfl⟩ := hat.kids
 obtain ⟨H, eH⟩ : ∃ H, H = w.heap.size := ⟨_, rfl⟩
 have HS : Hid (∀ g, S g → g < H) := Lib.hid (by rw [eH]; exact hS)
 have HRU := Lib.hid (fun W => rules_73 o W)
 have ht := two_at (w := w) (a := .cells #[.int .u8 r.kind, .int .i64 r.ar, .int .i64 r.id, .slice none 0 0, .slice ca cn cc, .slice none 0 0, .slice none 0 0, .slice none 0 0, .slice none 0 0, .slice none 0 0, .int .i64 0, .int .i64 0, .slice ka kn kc] 56) (b := .cells #[.int .u8 0, .int .i64 0, .int .i64 0, .slice none 0 0, .slice none 0 0, .slice none 0 0, .slice none 0 0, .slice none 0 0, .slice none 0 0, .slice none 0 0, .int .i64 0, .int .i64 0, .slice none 0 0] 56) (Below.refl _ _)
 have hb0 := two_below w (.cells #[.int .u8 r.kind, .int .i64 r.ar, .int .i64 r.id, .slice none 0 0, .slice ca cn cc, .slice none 0 0, .slice none 0 0, .slice none 0 0, .slice none 0 0, .slice none 0 0, .int .i64 0, .int .i64 0, .slice ka kn kc] 56) (.cells #[.int .u8 0, .int .i64 0, .int .i64 0, .slice none 0 0, .slice none 0 0, .slice none 0 0, .slice none 0 0, .slice none 0 0, .slice none 0 0, .slice none 0 0, .int .i64 0, .int .i64 0, .slice none 0 0] 56)
 rw [← eH] at ht
 have hw0 : OwAt r (.slice ca cn cc) (.slice ka kn kc) w H ((w.alloc (.cells #[.int .u8 r.kind, .int .i64 r.ar, .int .i64 r.id, .slice none 0 0, .slice ca cn cc, .slice none 0 0, .slice none 0 0, .slice none 0 0, .slice none 0 0, .slice none 0 0, .int .i64 0, .int .i64 0, .slice ka kn kc] 56)).alloc (.cells #[.int .u8 0, .int .i64 0, .int .i64 0, .slice none 0 0, .slice none 0 0, .slice none 0 0, .slice none 0 0, .slice none 0 0, .slice none 0 0, .slice none 0 0, .int .i64 0, .int .i64 0, .slice none 0 0] 56)) := ⟨ht.1, ht.2, eH, hb0, by rw [eH]; simp⟩
 have OA : Hid (OptAt S r (.slice ca cn cc) (.slice ka kn kc) w H ((w.alloc (.cells #[.int .u8 r.kind, .int .i64 r.ar, .int .i64 r.id, .slice none 0 0, .slice ca cn cc, .slice none 0 0, .slice none 0 0, .slice none 0 0, .slice none 0 0, .slice none 0 0, .int .i64 0, .int .i64 0, .slice ka kn kc] 56)).alloc (.cells #[.int .u8 0, .int .i64 0, .int .i64 0, .slice none 0 0, .slice none 0 0, .slice none 0 0, .slice none 0 0, .slice none 0 0, .slice none 0 0, .slice none 0 0, .int .i64 0, .int .i64 0, .slice none 0 0] 56))) := Lib.hid ⟨hw0, (hat.below hb0).wide fun _ h => .inl h⟩
 have EH := Lib.hid eH
 rw [show r.agg (.slice ca cn cc) (.slice ka kn kc) = .agg #[.int .u8 r.kind, .int .i64 r.ar, .int .i64 r.id, .slice none 0 0, .slice ca cn cc, .slice none 0 0, .slice none 0 0, .slice none 0 0, .slice none 0 0, .slice none 0 0, .int .i64 0, .int .i64 0, .slice ka kn kc] from rfl]
 clear ht hb0 hw0 eH hat hS
 go_enter Tryz.func37, Tryz.ntmps37
 have H96 := Lib.hid h96
 have H97 := Lib.hid h97
 have HKID := Lib.hid hkid
 have HST := Lib.hid hst
 have HKID2 := Lib.hid hkid2
 clear hst hkid h96 h97 hkid2
 go_wp2_with fail
 refine wp_scope_jumps 0 (fun a' w' => ∃ (ca : Option Addr) (cn cc : Nat) (ka : Option Addr) (kn kc : Nat) (u1 u2 u5 u6 u7 u8 u9 u10 u11 u12 u13 u14 u15 u16 u17 u18 u19 u20 u21 u22 u23 u24 u25 u26 u27 u28 u29 u30 u31 u32 u33 u34 u35 u36 u37 u38 u39 u40 u41 u42 u43 u44 : Value), a' = { tmps := #[.pointer (some o), u1, u2, .pointer (some ⟨H, 0, none⟩), .pointer (some ⟨H + 1, 0, none⟩), u5, u6, u7, u8, u9, u10, u11, u12, u13, u14, u15, u16, u17, u18, u19, u20, u21, u22, u23, u24, u25, u26, u27, u28, u29, u30, u31, u32, u33, u34, u35, u36, u37, u38, u39, u40, u41, u42, u43, u44], defers := [] } ∧ OptAt S r2 (.slice ca cn cc) (.slice ka kn kc) w H w') (fun _ _ => 0) rfl ?_ ?_
 ·go_wp2_with fail
  rw [← EH.out]
  obtain ⟨W1, hW1⟩ : ∃ W1, W1 = (w.alloc (.cells #[.int .u8 r.kind, .int .i64 r.ar, .int .i64 r.id, .slice none 0 0, .slice ca cn cc, .slice none 0 0, .slice none 0 0, .slice none 0 0, .slice none 0 0, .slice none 0 0, .int .i64 0, .int .i64 0, .slice ka kn kc] 56)).alloc (.cells #[.int .u8 0, .int .i64 0, .int .i64 0, .slice none 0 0, .slice none 0 0, .slice none 0 0, .slice none 0 0, .slice none 0 0, .slice none 0 0, .slice none 0 0, .int .i64 0, .int .i64 0, .slice none 0 0] 56) := ⟨_, rfl⟩
  rw [← hW1] at OA ⊢
  clear hW1
  go_step3
  obtain ⟨i0, hi0, hz0, hz1, hz2⟩ := info_parts info56
  have y12 := OA.out.own.c12
  have sH := lt_of_heap OA.out.own.b0
  go_wp2_with fail
  clear y12 sH
  have hK1 : kn ≤ 1 := OA.out.on.kn.1
  have hK0 : kn = 0 → ∃ kd a i, r = .leaf kd a i := OA.out.on.kn.2
  go_loopg [5, 15] kn (fun g s5 s15 wr => ∃ (z : Int) (u5 : Value), s15 = .int .i64 z ∧ s5 = u5 ∧ ((z = 0 ∧ kn = g ∧ u5 = .slice none 0 0 ∧ wr = W1) ∨ (z = 1 ∧ kn = 1 ∧ g = 0 ∧ OptAt S r (.slice ca cn cc) (.slice ka kn kc) w H wr ∧ KdS S H r wr u5)))
  case atStart => exact ⟨0, _, rfl, rfl, .inl ⟨rfl, rfl, rfl, rfl⟩⟩
  case round =>
   obtain ⟨z, u5, rfl, rfl, hd⟩ := hrel
   by_cases hlt : z < (kn : Int)
   ·rcases hd with ⟨rfl, rfl, rfl, rfl⟩ | ⟨rfl, hk1, -, -, -⟩
    rotate_left
    ·omega
    obtain rfl : kn = 1 := by omega
    cases r with
    | leaf kd a i => exact absurd (OA.out.on.2) (fun h => by cases h)
    | proj cs k =>
     obtain ⟨cb, cc1, kb, kc1, ccv, ckv, -, e2, hSc, hSk, -, -, -, -, hkk, hon⟩ := OA.out.on
     cases e2
     obtain ⟨⟨xa, xn, xc, rfl⟩, ya, yn, yc, rfl⟩ := hon.kids
     have HKC : Hid (wr.cell? ⟨kb, 0, none⟩ = some (.int .u8 k.kind) ∧ wr.cell? ⟨kb, 1, none⟩ = some (.int .i64 k.ar) ∧ wr.cell? ⟨kb, 2, none⟩ = some (.int .i64 k.id) ∧ wr.cell? ⟨kb, 3, none⟩ = some (.slice none 0 0) ∧ wr.cell? ⟨kb, 4, none⟩ = some (.slice xa xn xc) ∧ wr.cell? ⟨kb, 5, none⟩ = some (.slice none 0 0) ∧ wr.cell? ⟨kb, 6, none⟩ = some (.slice none 0 0) ∧ wr.cell? ⟨kb, 7, none⟩ = some (.slice none 0 0) ∧ wr.cell? ⟨kb, 8, none⟩ = some (.slice none 0 0) ∧ wr.cell? ⟨kb, 9, none⟩ = some (.slice none 0 0) ∧ wr.cell? ⟨kb, 10, none⟩ = some (.int .i64 0) ∧ wr.cell? ⟨kb, 11, none⟩ = some (.int .i64 0) ∧ wr.cell? ⟨kb, 12, none⟩ = some (.slice ya yn yc)) := Lib.hid hkk
     have hb8 : Below wr.heap.size wr (wr.alloc (.cells #[.int .u8 k.kind, .int .i64 k.ar, .int .i64 k.id, .slice none 0 0, .slice xa xn xc, .slice none 0 0, .slice none 0 0, .slice none 0 0, .slice none 0 0, .slice none 0 0, .int .i64 0, .int .i64 0, .slice ya yn yc] 56)) := (Below.refl _ _).alloc (Nat.le_refl _) _
     have hsz := OA.out.own.sz
     have hik := HKID.out cs k rfl (fun g => S g ∨ (H + 2 ≤ g ∧ g < wr.heap.size)) _ _ (wr.alloc (.cells #[.int .u8 k.kind, .int .i64 k.ar, .int .i64 k.id, .slice none 0 0, .slice xa xn xc, .slice none 0 0, .slice none 0 0, .slice none 0 0, .slice none 0 0, .slice none 0 0, .int .i64 0, .int .i64 0, .slice ya yn yc] 56)) (hon.below hb8) (fun g hg => Nat.lt_of_lt_of_le (hg.elim (fun h => by have := HS.out g h; omega) And.right) hb8.size)
     rw [show k.agg (.slice xa xn xc) (.slice ya yn yc) = .agg #[.int .u8 k.kind, .int .i64 k.ar, .int .i64 k.id, .slice none 0 0, .slice xa xn xc, .slice none 0 0, .slice none 0 0, .slice none 0 0, .slice none 0 0, .slice none 0 0, .int .i64 0, .int .i64 0, .slice ya yn yc] from rfl] at hik
     have HIK := Lib.hid hik
     have HB8 := Lib.hid hb8
     clear hik hb8 hkk hon hSc hSk hsz
     obtain ⟨z0, z1, z2, z3, z4, z5, z6, z7, z8, z9, z10, z11, z12⟩ := HKC.out
     have sK := World.block_lt_of_cell? wr _ z0
     go_wp2_with fail
     refine HIK.out.mono ?_
     rintro ev w9 ⟨cv2, kv2, rfl, hon2, hb2⟩
     obtain ⟨⟨pa, pn, pc, rfl⟩, qa, qn, qc, rfl⟩ := hon2.kids
     rw [show k.agg (.slice pa pn pc) (.slice qa qn qc) = .agg #[.int .u8 k.kind, .int .i64 k.ar, .int .i64 k.id, .slice none 0 0, .slice pa pn pc, .slice none 0 0, .slice none 0 0, .slice none 0 0, .slice none 0 0, .slice none 0 0, .int .i64 0, .int .i64 0, .slice qa qn qc] from rfl]
     have hb9 := HB8.out.trans (hb2.mono HB8.out.size)
     have OB := Lib.hid (OA.out.kept hb9)
     have HON2 := Lib.hid hon2
     have HB9 := Lib.hid hb9
     clear hon2 hb2 hb9 z0 z1 z2 z3 z4 z5 z6 z7 z8 z9 z10 z11 z12 sK
     go_wp2_with (at_builtin; go_must (refine wpList_append_own _ rfl _ _ 54 rfl w9.heap.size 56 i0 _ 13 232 Tryz.underlying54 hi0 hz0 hz1 hz2 rfl (by decide) (.slice none 0 0) 0 [] rfl (World.ownsRow_nil _ _ _ _) ⟨w9.heap.size, 0, none⟩ 1 1 [.int .u8 k.kind, .int .i64 k.ar, .int .i64 k.id, .slice none 0 0, .slice pa pn pc, .slice none 0 0, .slice none 0 0, .slice none 0 0, .slice none 0 0, .slice none 0 0, .int .i64 0, .int .i64 0, .slice qa qn qc] rfl rfl ?c1 ?c2 ?c3 ?c4 ?c5 ?_))
     case c1 =>
      intro j u hj
      rw [add_lit, Nat.zero_add]
      exact cell_of_heap (heap_alloc_new w9 _) (by rw [List.getElem?_toArray]; exact hj)
     case c2 =>
      intro u hu
      simp only [List.mem_cons, List.not_mem_nil, or_false] at hu
      rcases hu with rfl | rfl | rfl | rfl | rfl | rfl | rfl | rfl | rfl | rfl | rfl | rfl | rfl <;> rfl
     case c3 => unfold maxLen; omega
     case c4 => omega
     case c5 => simp
     intro v' w11 hown hgrow hnil
     have hb11 : Below w9.heap.size w9 w11 := ((Below.refl _ _).alloc (Nat.le_refl _) _).grown hgrow (by simp) (fun g hg => by cases hg)
     rcases hown.2 with ⟨rfl, -⟩ | ⟨g, cap, cur, rfl, g1, g2, g3, -, -, -⟩
     ·exact absurd rfl hnil
     have hrc : RCells w11 g k (.slice pa pn pc) (.slice qa qn qc) := ⟨hown.cellAt 0 (by decide), hown.cellAt 1 (by decide), hown.cellAt 2 (by decide), hown.cellAt 3 (by decide), hown.cellAt 4 (by decide), hown.cellAt 5 (by decide), hown.cellAt 6 (by decide), hown.cellAt 7 (by decide), hown.cellAt 8 (by decide), hown.cellAt 9 (by decide), hown.cellAt 10 (by decide), hown.cellAt 11 (by decide), hown.cellAt 12 (by decide)⟩
     have hsz := OA.out.own.sz
     have h9 := HB9.out.size
     have h8 : wr.heap.size ≤ (wr.alloc (.cells #[.int .u8 k.kind, .int .i64 k.ar, .int .i64 k.id, .slice none 0 0, .slice xa xn xc, .slice none 0 0, .slice none 0 0, .slice none 0 0, .slice none 0 0, .slice none 0 0, .int .i64 0, .int .i64 0, .slice ya yn yc] 56)).heap.size := HB8.out.size
     have HK11 : Hid (KdS S H (.proj cs k) w11 (.slice (some ⟨g, 0, none⟩) 1 cap)) := Lib.hid ⟨g, cap, _, _, rfl, by omega, lt_of_heap g2, g3, hrc, (HON2.out.below hb11).wide fun q hq => by
      have := hb11.size
      rcases hq with (hq | hq) | hq
      ·exact .inl hq
      ·exact .inr ⟨hq.1, by omega⟩
      ·exact .inr ⟨by omega, by omega⟩⟩
     have OC := Lib.hid (OB.out.kept hb11)
     clear hown hgrow hnil hb11 g1 g2 g3 hrc hsz h9 h8
     go_wp2_with fail
     go_roundg 0
     case measure => omega
     case rel => exact ⟨1, _, by go_num, rfl, .inr ⟨rfl, by first | rfl | trivial, by first | rfl | trivial, OC.out, HK11.out⟩⟩
   ·have hex : OptAt S r (.slice ca cn cc) (.slice ka kn kc) w H wr ∧ KdS S H r wr u5 := by
     rcases hd with ⟨rfl, -, rfl, rfl⟩ | ⟨rfl, -, -, h1, h2⟩
     ·obtain ⟨kd, a, i, rfl⟩ := hK0 (by omega)
      exact ⟨OA.out, rfl⟩
     ·exact ⟨h1, h2⟩
    obtain ⟨ga, gn, gc, rfl⟩ := hex.2.slice
    have OD := Lib.hid hex.1
    have KD := Lib.hid hex.2
    have y12 := hex.1.own.c12
    have f12 := hex.1.own.f12
    have hlz : ¬ z < (kn : Int) := hlt
    clear hex hd
    go_wp2_with fail
    clear y12 f12 hlz hlt
    obtain ⟨W3, hW3⟩ : ∃ W3, W3 = wr.setCell ⟨H, 12, none⟩ (.slice ga gn gc) := ⟨_, rfl⟩
    have OE : Hid (OptAt S r (.slice ca cn cc) (.slice ga gn gc) w H W3) := Lib.hid (by rw [hW3]; exact OD.out.kids HS.out KD.out)
    rw [← hW3]
    clear hW3
    refine (HRU.out W3).mono ?_
    rintro ev w5 ⟨rfl, rfl⟩
    obtain ⟨W5, hW5⟩ : ∃ W5, W5 = W3.alloc (.cells #[.func (.func 96) #[.pointer (some o)] #[], .func (.func 97) #[.pointer (some o)] #[], .func (.func 98) #[.pointer (some o)] #[], .func (.func 99) #[.pointer (some o)] #[], .func (.func 100) #[.pointer (some o)] #[], .func (.func 101) #[.pointer (some o)] #[]] 125) := ⟨_, rfl⟩
    obtain ⟨B, eB⟩ : ∃ B, B = W3.heap.size := ⟨_, rfl⟩
    have hr5 : W5.heap[B]? = some (.cells #[.func (.func 96) #[.pointer (some o)] #[], .func (.func 97) #[.pointer (some o)] #[], .func (.func 98) #[.pointer (some o)] #[], .func (.func 99) #[.pointer (some o)] #[], .func (.func 100) #[.pointer (some o)] #[], .func (.func 101) #[.pointer (some o)] #[]] 125 (0, 0)) := by rw [hW5, eB]; exact heap_alloc_new _ _
    have OF : Hid (OptAt S r (.slice ca cn cc) (.slice ga gn gc) w H W5) := Lib.hid (by rw [hW5]; exact OE.out.kept ((Below.refl _ _).alloc (Nat.le_refl _) _))
    rw [← hW5, ← eB]
    have HR5 := Lib.hid hr5
    clear hW5 eB hr5
    go_wp2_with fail
    go_loopg [31] 1 (fun g s31 wr => ∃ i : Nat, i ≤ 1 ∧ g = 1 - i ∧ s31 = .int .i64 i ∧ Below W5.heap.size W5 wr)
    case atStart => exact ⟨0, by omega, rfl, rfl, Below.refl _ _⟩
    case round =>
     obtain ⟨i, hi, rfl, rfl, hbx⟩ := hrel
     have OG := Lib.hid (OF.out.kept hbx)
     have HBX := Lib.hid hbx
     have hrb := (hbx.block _ (lt_of_heap HR5.out)).trans HR5.out
     have HRB := Lib.hid hrb
     clear hbx hrb
     obtain ⟨f, hf, zf, hff, hen⟩ := rule_at HRB.out (show i < 6 by omega)
     have sB := World.block_lt_of_cell? wr _ zf
     have hff := hff (by omega)
     by_cases hz : i = 0
     ·subst hz
      have hlt : (0 : Nat) < 6 := by omega
      obtain rfl : f = 96 := hff
      have hcl := H96.out (fun g => S g ∨ (H + 2 ≤ g ∧ g < wr.heap.size)) _ _ wr OG.out.on (fun g hg => hg.elim (fun h => by have := HS.out g h; have := OG.out.own.sz; omega) And.right)
      rw [show r.agg (.slice ca cn cc) (.slice ga gn gc) = .agg #[.int .u8 r.kind, .int .i64 r.ar, .int .i64 r.id, .slice none 0 0, .slice ca cn cc, .slice none 0 0, .slice none 0 0, .slice none 0 0, .slice none 0 0, .slice none 0 0, .int .i64 0, .int .i64 0, .slice ga gn gc] from rfl] at hcl
      have HCL := Lib.hid hcl
      clear hcl hf hff
      have y0 := OG.out.own.c0
      have y1 := OG.out.own.c1
      have y2 := OG.out.own.c2
      have y3 := OG.out.own.c3
      have y4 := OG.out.own.c4
      have y5 := OG.out.own.c5
      have y6 := OG.out.own.c6
      have y7 := OG.out.own.c7
      have y8 := OG.out.own.c8
      have y9 := OG.out.own.c9
      have y10 := OG.out.own.c10
      have y11 := OG.out.own.c11
      have y12 := OG.out.own.c12
      go_wp2_with fail
      refine HCL.out.mono ?_
      rintro ev w6 ⟨rfl, hb6⟩
      rw [show r.agg (.slice ca cn cc) (.slice ga gn gc) = .agg #[.int .u8 r.kind, .int .i64 r.ar, .int .i64 r.id, .slice none 0 0, .slice ca cn cc, .slice none 0 0, .slice none 0 0, .slice none 0 0, .slice none 0 0, .slice none 0 0, .int .i64 0, .int .i64 0, .slice ga gn gc] from rfl]
      have HB6 := Lib.hid hb6
      clear hb6 zf sB hen y0 y1 y2 y3 y4 y5 y6 y7 y8 y9 y10 y11 y12
      go_wp2_with fail
      go_roundg 0
      case measure => omega
      case rel => exact ⟨1, by omega, rfl, by go_num, HBX.out.trans ((HB6.out.trans (((Below.refl _ _).alloc (Nat.le_refl _) _).mono HB6.out.size)).mono HBX.out.size)⟩
     ·obtain rfl : i = 1 := by omega
      obtain rfl : f = 97 := hff
      have hlt : (1 : Nat) < 6 := by omega
      have hcl := H97.out (fun g => S g ∨ (H + 2 ≤ g ∧ g < wr.heap.size)) _ _ wr OG.out.on (fun g hg => hg.elim (fun h => by have := HS.out g h; have := OG.out.own.sz; omega) And.right)
      rw [show r.agg (.slice ca cn cc) (.slice ga gn gc) = .agg #[.int .u8 r.kind, .int .i64 r.ar, .int .i64 r.id, .slice none 0 0, .slice ca cn cc, .slice none 0 0, .slice none 0 0, .slice none 0 0, .slice none 0 0, .slice none 0 0, .int .i64 0, .int .i64 0, .slice ga gn gc] from rfl] at hcl
      have HCL := Lib.hid hcl
      clear hcl hf hff
      have y0 := OG.out.own.c0
      have y1 := OG.out.own.c1
      have y2 := OG.out.own.c2
      have y3 := OG.out.own.c3
      have y4 := OG.out.own.c4
      have y5 := OG.out.own.c5
      have y6 := OG.out.own.c6
      have y7 := OG.out.own.c7
      have y8 := OG.out.own.c8
      have y9 := OG.out.own.c9
      have y10 := OG.out.own.c10
      have y11 := OG.out.own.c11
      have y12 := OG.out.own.c12
      go_wp2_with fail
      refine HCL.out.mono ?_
      rintro ev w6 ⟨cv6, kv6, rfl, hon6, hb6⟩
      obtain ⟨⟨pa, pn, pc, rfl⟩, qa, qn, qc, rfl⟩ := hon6.kids
      rw [show r2.agg (.slice pa pn pc) (.slice qa qn qc) = .agg #[.int .u8 r2.kind, .int .i64 r2.ar, .int .i64 r2.id, .slice none 0 0, .slice pa pn pc, .slice none 0 0, .slice none 0 0, .slice none 0 0, .slice none 0 0, .slice none 0 0, .int .i64 0, .int .i64 0, .slice qa qn qc] from rfl]
      have OH := Lib.hid (OG.out.kept hb6)
      have HB6 := Lib.hid hb6
      have HON6 := Lib.hid hon6
      clear hb6 zf sB hen hon6 y0 y1 y2 y3 y4 y5 y6 y7 y8 y9 y10 y11 y12
      have sH := lt_of_heap OH.out.own.b0
      have y0 := OH.out.own.c0
      have f0 := frozen_of_heap (o := 0) OH.out.own.b0
      have y1 := OH.out.own.c1
      have f1 := frozen_of_heap (o := 1) OH.out.own.b0
      have y2 := OH.out.own.c2
      have f2 := frozen_of_heap (o := 2) OH.out.own.b0
      have y3 := OH.out.own.c3
      have f3 := frozen_of_heap (o := 3) OH.out.own.b0
      have y4 := OH.out.own.c4
      have f4 := frozen_of_heap (o := 4) OH.out.own.b0
      have y5 := OH.out.own.c5
      have f5 := frozen_of_heap (o := 5) OH.out.own.b0
      have y6 := OH.out.own.c6
      have f6 := frozen_of_heap (o := 6) OH.out.own.b0
      have y7 := OH.out.own.c7
      have f7 := frozen_of_heap (o := 7) OH.out.own.b0
      have y8 := OH.out.own.c8
      have f8 := frozen_of_heap (o := 8) OH.out.own.b0
      have y9 := OH.out.own.c9
      have f9 := frozen_of_heap (o := 9) OH.out.own.b0
      have y10 := OH.out.own.c10
      have f10 := frozen_of_heap (o := 10) OH.out.own.b0
      have y11 := OH.out.own.c11
      have f11 := frozen_of_heap (o := 11) OH.out.own.b0
      have y12 := OH.out.own.c12
      have f12 := frozen_of_heap (o := 12) OH.out.own.b0
      go_wp2_with fail
      go_step3
      refine @jump_goto 0 (fun a' w' => ∃ (ca : Option Addr) (cn cc : Nat) (ka : Option Addr) (kn kc : Nat) (u1 u2 u5 u6 u7 u8 u9 u10 u11 u12 u13 u14 u15 u16 u17 u18 u19 u20 u21 u22 u23 u24 u25 u26 u27 u28 u29 u30 u31 u32 u33 u34 u35 u36 u37 u38 u39 u40 u41 u42 u43 u44 : Value), a' = { tmps := #[.pointer (some o), u1, u2, .pointer (some ⟨H, 0, none⟩), .pointer (some ⟨H + 1, 0, none⟩), u5, u6, u7, u8, u9, u10, u11, u12, u13, u14, u15, u16, u17, u18, u19, u20, u21, u22, u23, u24, u25, u26, u27, u28, u29, u30, u31, u32, u33, u34, u35, u36, u37, u38, u39, u40, u41, u42, u43, u44], defers := [] } ∧ OptAt S r2 (.slice ca cn cc) (.slice ka kn kc) w H w') (bodyPost Tryz.prog Tryz.f37 (OptPost S r2 w)) _ _ ?_
      iterate 48 apply Exists.intro
      refine ⟨rfl, ?_⟩
      exact OH.out.put HS.out OG.out.own.sz HB6.out.size HON6.out
 ·rintro a' W1 ⟨ca, cn, cc, ka, kn, kc, u1, u2, u5, u6, u7, u8, u9, u10, u11, u12, u13, u14, u15, u16, u17, u18, u19, u20, u21, u22, u23, u24, u25, u26, u27, u28, u29, u30, u31, u32, u33, u34, u35, u36, u37, u38, u39, u40, u41, u42, u43, u44, rfl, oa⟩
  have OA := Lib.hid oa
  have HKID := HKID2
  obtain ⟨r, er⟩ : ∃ r, r = r2 := ⟨_, rfl⟩
  rw [← er] at OA HKID HST ⊢
  clear oa er H96 H97 HKID2
  obtain ⟨i0, hi0, hz0, hz1, hz2⟩ := info_parts info56
  have y12 := OA.out.own.c12
  have sH := lt_of_heap OA.out.own.b0
  go_wp2_with fail
  clear y12 sH
  have hK1 : kn ≤ 1 := OA.out.on.kn.1
  have hK0 : kn = 0 → ∃ kd a i, r = .leaf kd a i := OA.out.on.kn.2
  go_loopg [5, 15] kn (fun g s5 s15 wr => ∃ (z : Int) (u5 : Value), s15 = .int .i64 z ∧ s5 = u5 ∧ ((z = 0 ∧ kn = g ∧ u5 = .slice none 0 0 ∧ wr = W1) ∨ (z = 1 ∧ kn = 1 ∧ g = 0 ∧ OptAt S r (.slice ca cn cc) (.slice ka kn kc) w H wr ∧ KdS S H r wr u5)))
  case atStart => exact ⟨0, _, rfl, rfl, .inl ⟨rfl, rfl, rfl, rfl⟩⟩
  case round =>
   obtain ⟨z, u5, rfl, rfl, hd⟩ := hrel
   by_cases hlt : z < (kn : Int)
   ·rcases hd with ⟨rfl, rfl, rfl, rfl⟩ | ⟨rfl, hk1, -, -, -⟩
    rotate_left
    ·omega
    obtain rfl : kn = 1 := by omega
    cases r with
    | leaf kd a i => exact absurd (OA.out.on.2) (fun h => by cases h)
    | proj cs k =>
     obtain ⟨cb, cc1, kb, kc1, ccv, ckv, -, e2, hSc, hSk, -, -, -, -, hkk, hon⟩ := OA.out.on
     cases e2
     obtain ⟨⟨xa, xn, xc, rfl⟩, ya, yn, yc, rfl⟩ := hon.kids
     have HKC : Hid (wr.cell? ⟨kb, 0, none⟩ = some (.int .u8 k.kind) ∧ wr.cell? ⟨kb, 1, none⟩ = some (.int .i64 k.ar) ∧ wr.cell? ⟨kb, 2, none⟩ = some (.int .i64 k.id) ∧ wr.cell? ⟨kb, 3, none⟩ = some (.slice none 0 0) ∧ wr.cell? ⟨kb, 4, none⟩ = some (.slice xa xn xc) ∧ wr.cell? ⟨kb, 5, none⟩ = some (.slice none 0 0) ∧ wr.cell? ⟨kb, 6, none⟩ = some (.slice none 0 0) ∧ wr.cell? ⟨kb, 7, none⟩ = some (.slice none 0 0) ∧ wr.cell? ⟨kb, 8, none⟩ = some (.slice none 0 0) ∧ wr.cell? ⟨kb, 9, none⟩ = some (.slice none 0 0) ∧ wr.cell? ⟨kb, 10, none⟩ = some (.int .i64 0) ∧ wr.cell? ⟨kb, 11, none⟩ = some (.int .i64 0) ∧ wr.cell? ⟨kb, 12, none⟩ = some (.slice ya yn yc)) := Lib.hid hkk
     have hb8 : Below wr.heap.size wr (wr.alloc (.cells #[.int .u8 k.kind, .int .i64 k.ar, .int .i64 k.id, .slice none 0 0, .slice xa xn xc, .slice none 0 0, .slice none 0 0, .slice none 0 0, .slice none 0 0, .slice none 0 0, .int .i64 0, .int .i64 0, .slice ya yn yc] 56)) := (Below.refl _ _).alloc (Nat.le_refl _) _
     have hsz := OA.out.own.sz
     have hik := HKID.out cs k rfl (fun g => S g ∨ (H + 2 ≤ g ∧ g < wr.heap.size)) _ _ (wr.alloc (.cells #[.int .u8 k.kind, .int .i64 k.ar, .int .i64 k.id, .slice none 0 0, .slice xa xn xc, .slice none 0 0, .slice none 0 0, .slice none 0 0, .slice none 0 0, .slice none 0 0, .int .i64 0, .int .i64 0, .slice ya yn yc] 56)) (hon.below hb8) (fun g hg => Nat.lt_of_lt_of_le (hg.elim (fun h => by have := HS.out g h; omega) And.right) hb8.size)
     rw [show k.agg (.slice xa xn xc) (.slice ya yn yc) = .agg #[.int .u8 k.kind, .int .i64 k.ar, .int .i64 k.id, .slice none 0 0, .slice xa xn xc, .slice none 0 0, .slice none 0 0, .slice none 0 0, .slice none 0 0, .slice none 0 0, .int .i64 0, .int .i64 0, .slice ya yn yc] from rfl] at hik
     have HIK := Lib.hid hik
     have HB8 := Lib.hid hb8
     clear hik hb8 hkk hon hSc hSk hsz
     obtain ⟨z0, z1, z2, z3, z4, z5, z6, z7, z8, z9, z10, z11, z12⟩ := HKC.out
     have sK := World.block_lt_of_cell? wr _ z0
     go_wp2_with fail
     refine HIK.out.mono ?_
     rintro ev w9 ⟨cv2, kv2, rfl, hon2, hb2⟩
     obtain ⟨⟨pa, pn, pc, rfl⟩, qa, qn, qc, rfl⟩ := hon2.kids
     rw [show k.agg (.slice pa pn pc) (.slice qa qn qc) = .agg #[.int .u8 k.kind, .int .i64 k.ar, .int .i64 k.id, .slice none 0 0, .slice pa pn pc, .slice none 0 0, .slice none 0 0, .slice none 0 0, .slice none 0 0, .slice none 0 0, .int .i64 0, .int .i64 0, .slice qa qn qc] from rfl]
     have hb9 := HB8.out.trans (hb2.mono HB8.out.size)
     have OB := Lib.hid (OA.out.kept hb9)
     have HON2 := Lib.hid hon2
     have HB9 := Lib.hid hb9
     clear hon2 hb2 hb9 z0 z1 z2 z3 z4 z5 z6 z7 z8 z9 z10 z11 z12 sK
     go_wp2_with (at_builtin; go_must (refine wpList_append_own _ rfl _ _ 54 rfl w9.heap.size 56 i0 _ 13 232 Tryz.underlying54 hi0 hz0 hz1 hz2 rfl (by decide) (.slice none 0 0) 0 [] rfl (World.ownsRow_nil _ _ _ _) ⟨w9.heap.size, 0, none⟩ 1 1 [.int .u8 k.kind, .int .i64 k.ar, .int .i64 k.id, .slice none 0 0, .slice pa pn pc, .slice none 0 0, .slice none 0 0, .slice none 0 0, .slice none 0 0, .slice none 0 0, .int .i64 0, .int .i64 0, .slice qa qn qc] rfl rfl ?c1 ?c2 ?c3 ?c4 ?c5 ?_))
     case c1 =>
      intro j u hj
      rw [add_lit, Nat.zero_add]
      exact cell_of_heap (heap_alloc_new w9 _) (by rw [List.getElem?_toArray]; exact hj)
     case c2 =>
      intro u hu
      simp only [List.mem_cons, List.not_mem_nil, or_false] at hu
      rcases hu with rfl | rfl | rfl | rfl | rfl | rfl | rfl | rfl | rfl | rfl | rfl | rfl | rfl <;> rfl
     case c3 => unfold maxLen; omega
     case c4 => omega
     case c5 => simp
     intro v' w11 hown hgrow hnil
     have hb11 : Below w9.heap.size w9 w11 := ((Below.refl _ _).alloc (Nat.le_refl _) _).grown hgrow (by simp) (fun g hg => by cases hg)
     rcases hown.2 with ⟨rfl, -⟩ | ⟨g, cap, cur, rfl, g1, g2, g3, -, -, -⟩
     ·exact absurd rfl hnil
     have hrc : RCells w11 g k (.slice pa pn pc) (.slice qa qn qc) := ⟨hown.cellAt 0 (by decide), hown.cellAt 1 (by decide), hown.cellAt 2 (by decide), hown.cellAt 3 (by decide), hown.cellAt 4 (by decide), hown.cellAt 5 (by decide), hown.cellAt 6 (by decide), hown.cellAt 7 (by decide), hown.cellAt 8 (by decide), hown.cellAt 9 (by decide), hown.cellAt 10 (by decide), hown.cellAt 11 (by decide), hown.cellAt 12 (by decide)⟩
     have hsz := OA.out.own.sz
     have h9 := HB9.out.size
     have h8 : wr.heap.size ≤ (wr.alloc (.cells #[.int .u8 k.kind, .int .i64 k.ar, .int .i64 k.id, .slice none 0 0, .slice xa xn xc, .slice none 0 0, .slice none 0 0, .slice none 0 0, .slice none 0 0, .slice none 0 0, .int .i64 0, .int .i64 0, .slice ya yn yc] 56)).heap.size := HB8.out.size
     have HK11 : Hid (KdS S H (.proj cs k) w11 (.slice (some ⟨g, 0, none⟩) 1 cap)) := Lib.hid ⟨g, cap, _, _, rfl, by omega, lt_of_heap g2, g3, hrc, (HON2.out.below hb11).wide fun q hq => by
      have := hb11.size
      rcases hq with (hq | hq) | hq
      ·exact .inl hq
      ·exact .inr ⟨hq.1, by omega⟩
      ·exact .inr ⟨by omega, by omega⟩⟩
     have OC := Lib.hid (OB.out.kept hb11)
     clear hown hgrow hnil hb11 g1 g2 g3 hrc hsz h9 h8
     go_wp2_with fail
     go_roundg 0
     case measure => omega
     case rel => exact ⟨1, _, by go_num, rfl, .inr ⟨rfl, by first | rfl | trivial, by first | rfl | trivial, OC.out, HK11.out⟩⟩
   ·have hex : OptAt S r (.slice ca cn cc) (.slice ka kn kc) w H wr ∧ KdS S H r wr u5 := by
     rcases hd with ⟨rfl, -, rfl, rfl⟩ | ⟨rfl, -, -, h1, h2⟩
     ·obtain ⟨kd, a, i, rfl⟩ := hK0 (by omega)
      exact ⟨OA.out, rfl⟩
     ·exact ⟨h1, h2⟩
    obtain ⟨ga, gn, gc, rfl⟩ := hex.2.slice
    have OD := Lib.hid hex.1
    have KD := Lib.hid hex.2
    have y12 := hex.1.own.c12
    have f12 := hex.1.own.f12
    have hlz : ¬ z < (kn : Int) := hlt
    clear hex hd
    go_wp2_with fail
    clear y12 f12 hlz hlt
    obtain ⟨W3, hW3⟩ : ∃ W3, W3 = wr.setCell ⟨H, 12, none⟩ (.slice ga gn gc) := ⟨_, rfl⟩
    have OE : Hid (OptAt S r (.slice ca cn cc) (.slice ga gn gc) w H W3) := Lib.hid (by rw [hW3]; exact OD.out.kids HS.out KD.out)
    rw [← hW3]
    clear hW3
    refine (HRU.out W3).mono ?_
    rintro ev w5 ⟨rfl, rfl⟩
    obtain ⟨W5, hW5⟩ : ∃ W5, W5 = W3.alloc (.cells #[.func (.func 96) #[.pointer (some o)] #[], .func (.func 97) #[.pointer (some o)] #[], .func (.func 98) #[.pointer (some o)] #[], .func (.func 99) #[.pointer (some o)] #[], .func (.func 100) #[.pointer (some o)] #[], .func (.func 101) #[.pointer (some o)] #[]] 125) := ⟨_, rfl⟩
    obtain ⟨B, eB⟩ : ∃ B, B = W3.heap.size := ⟨_, rfl⟩
    have hr5 : W5.heap[B]? = some (.cells #[.func (.func 96) #[.pointer (some o)] #[], .func (.func 97) #[.pointer (some o)] #[], .func (.func 98) #[.pointer (some o)] #[], .func (.func 99) #[.pointer (some o)] #[], .func (.func 100) #[.pointer (some o)] #[], .func (.func 101) #[.pointer (some o)] #[]] 125 (0, 0)) := by rw [hW5, eB]; exact heap_alloc_new _ _
    have OF : Hid (OptAt S r (.slice ca cn cc) (.slice ga gn gc) w H W5) := Lib.hid (by rw [hW5]; exact OE.out.kept ((Below.refl _ _).alloc (Nat.le_refl _) _))
    rw [← hW5, ← eB]
    have HR5 := Lib.hid hr5
    clear hW5 eB hr5
    go_wp2_with fail
    go_loopg [31] 6 (fun g s31 wr => ∃ i : Nat, i ≤ 6 ∧ g = 6 - i ∧ s31 = .int .i64 i ∧ Below W5.heap.size W5 wr)
    case atStart => exact ⟨0, by omega, rfl, rfl, Below.refl _ _⟩
    case round =>
     obtain ⟨i, hi, rfl, rfl, hbx⟩ := hrel
     have OG := Lib.hid (OF.out.kept hbx)
     have HBX := Lib.hid hbx
     have hrb := (hbx.block _ (lt_of_heap HR5.out)).trans HR5.out
     have HRB := Lib.hid hrb
     clear hbx hrb
     by_cases hlt : i < 6
     ·obtain ⟨f, hf, zf, -, hen⟩ := rule_at HRB.out hlt
      have sB := World.block_lt_of_cell? wr _ zf
      have hcl := HST.out f hf (fun g => S g ∨ (H + 2 ≤ g ∧ g < wr.heap.size)) _ _ wr OG.out.on (fun g hg => hg.elim (fun h => by have := HS.out g h; have := OG.out.own.sz; omega) And.right)
      rw [show r.agg (.slice ca cn cc) (.slice ga gn gc) = .agg #[.int .u8 r.kind, .int .i64 r.ar, .int .i64 r.id, .slice none 0 0, .slice ca cn cc, .slice none 0 0, .slice none 0 0, .slice none 0 0, .slice none 0 0, .slice none 0 0, .int .i64 0, .int .i64 0, .slice ga gn gc] from rfl] at hcl
      have HCL := Lib.hid hcl
      clear hcl
      have y0 := OG.out.own.c0
      have y1 := OG.out.own.c1
      have y2 := OG.out.own.c2
      have y3 := OG.out.own.c3
      have y4 := OG.out.own.c4
      have y5 := OG.out.own.c5
      have y6 := OG.out.own.c6
      have y7 := OG.out.own.c7
      have y8 := OG.out.own.c8
      have y9 := OG.out.own.c9
      have y10 := OG.out.own.c10
      have y11 := OG.out.own.c11
      have y12 := OG.out.own.c12
      go_wp2_with fail
      refine HCL.out.mono ?_
      rintro ev w6 ⟨rfl, hb6⟩
      rw [show r.agg (.slice ca cn cc) (.slice ga gn gc) = .agg #[.int .u8 r.kind, .int .i64 r.ar, .int .i64 r.id, .slice none 0 0, .slice ca cn cc, .slice none 0 0, .slice none 0 0, .slice none 0 0, .slice none 0 0, .slice none 0 0, .int .i64 0, .int .i64 0, .slice ga gn gc] from rfl]
      have HB6 := Lib.hid hb6
      clear hb6 zf sB hen y0 y1 y2 y3 y4 y5 y6 y7 y8 y9 y10 y11 y12
      go_wp2_with fail
      go_roundg (6 - (i + 1))
      case measure => omega
      case rel => exact ⟨i + 1, by omega, rfl, by go_num, HBX.out.trans ((HB6.out.trans (((Below.refl _ _).alloc (Nat.le_refl _) _).mono HB6.out.size)).mono HBX.out.size)⟩
     ·obtain rfl : i = 6 := by omega
      have y0 := OG.out.own.c0
      have y1 := OG.out.own.c1
      have y2 := OG.out.own.c2
      have y3 := OG.out.own.c3
      have y4 := OG.out.own.c4
      have y5 := OG.out.own.c5
      have y6 := OG.out.own.c6
      have y7 := OG.out.own.c7
      have y8 := OG.out.own.c8
      have y9 := OG.out.own.c9
      have y10 := OG.out.own.c10
      have y11 := OG.out.own.c11
      have y12 := OG.out.own.c12
      obtain ⟨z0, g0, z1, g1, z2, g2, z3, g3, z4, g4, z5, g5, z6, g6, z7, g7, z8, g8, z9, g9, z10, g10, z11, g11, z12, g12⟩ := cf13 OG.out.own.b1
      go_wp2_with fail
      try rw [Exit.noGoto_ret]
      try simp only [Exit.jump]
      refine bodyPost_ret (results_cell_row rfl _ _ (H + 1) 56 _ (0, 0) _ rfl (setRow13_at OG.out.own.b1) Tryz.underlying56 rfl (by kernel_rfl)) rfl ?_
      exact OG.out.fin HS.out
end Go.Proofs.YtmmhedlagnjbiaaGreatDoor
