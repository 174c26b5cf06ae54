import Derived.Test.YtmmhedlagnjbiaaGreatDoorH
import Derived.Maps.OwnSet
import Derived.Maps.OwnOps
import Derived.Maps.OwnIn
/- our texts, shortened by program (pack.py) -/
set_option maxRecDepth 100000
set_option maxHeartbeats 4000000
namespace Go.Proofs.YtmmhedlagnjbiaaGreatDoor
open Go.RowKit Go.Pen Go.Shelf
attribute [local go_sem] Oper.semAt_some
inductive RT where
 | leaf (kd a i : Int)
 | proj (cs : List Int) (k : RT)
def RT.kind : RT → Int
 | .leaf kd _ _ => kd
 | .proj _ _ => 5
def RT.ar : RT → Int
 | .leaf _ a _ => a
 | .proj _ _ => 0
def RT.id : RT → Int
 | .leaf _ _ i => i
 | .proj _ _ => 0
def RT.agg (r : RT) (cv kv : Value) : Value := .agg #[.int .u8 r.kind, .int .i64 r.ar, .int .i64 r.id, .slice none 0 0, cv, .slice none 0 0, .slice none 0 0, .slice none 0 0, .slice none 0 0, .slice none 0 0, .int .i64 0, .int .i64 0, kv]
def RT.cells (r : RT) (cv kv : Value) : Array Value := #[.int .u8 r.kind, .int .i64 r.ar, .int .i64 r.id, .slice none 0 0, cv, .slice none 0 0, .slice none 0 0, .slice none 0 0, .slice none 0 0, .slice none 0 0, .int .i64 0, .int .i64 0, kv]
def RCells (w : World) (b : Nat) (r : RT) (cv kv : Value) : Prop := w.cell? ⟨b, 0, none⟩ = some (.int .u8 r.kind) ∧ w.cell? ⟨b, 1, none⟩ = some (.int .i64 r.ar) ∧ w.cell? ⟨b, 2, none⟩ = some (.int .i64 r.id) ∧ w.cell? ⟨b, 3, none⟩ = some (.slice none 0 0) ∧ w.cell? ⟨b, 4, none⟩ = some (cv) ∧ w.cell? ⟨b, 5, none⟩ = some (.slice none 0 0) ∧ w.cell? ⟨b, 6, none⟩ = some (.slice none 0 0) ∧ w.cell? ⟨b, 7, none⟩ = some (.slice none 0 0) ∧ w.cell? ⟨b, 8, none⟩ = some (.slice none 0 0) ∧ w.cell? ⟨b, 9, none⟩ = some (.slice none 0 0) ∧ w.cell? ⟨b, 10, none⟩ = some (.int .i64 0) ∧ w.cell? ⟨b, 11, none⟩ = some (.int .i64 0) ∧ w.cell? ⟨b, 12, none⟩ = some (kv)
def RT.On (S : Nat → Prop) (w : World) : RT → Value → Value → Prop
 | .leaf _ _ _, cv, kv => cv = .slice none 0 0 ∧ kv = .slice none 0 0
 | .proj cs k, cv, kv => ∃ (cb cc kb kc : Nat) (ccv ckv : Value), cv = .slice (some ⟨cb, 0, none⟩) cs.length cc ∧ kv = .slice (some ⟨kb, 0, none⟩) 1 kc ∧ S cb ∧ S kb ∧ cs.length ≤ cc ∧ 1 ≤ kc ∧ cs.length ≤ 100 ∧ (∀ (i : Nat) (c : Int), cs[i]? = some c → w.cell? ⟨cb, i, none⟩ = some (.int .i64 c)) ∧ RCells w kb k ccv ckv ∧ k.On S w ccv ckv
def RT.pre : RT → List RT
 | .leaf kd a i => [.leaf kd a i]
 | .proj cs k => .proj cs k :: k.pre
structure RPart where
 r : RT
 ca : Option Addr
 cn : Nat
 cc : Nat
 ka : Option Addr
 kn : Nat
 kc : Nat
def RPart.encs (p : RPart) : Array Value := #[p.r.agg (.slice p.ca p.cn p.cc) (.slice p.ka p.kn p.kc)]
theorem RCells.kps {S : Nat → Prop} {W W' : World} (h : KpS S W W') {b : Nat} (hb : ¬ S b) {r : RT} {cv kv : Value} (hc : RCells W b r cv kv) : RCells W' b r cv kv := by
 obtain ⟨z0, z1, z2, z3, z4, z5, z6, z7, z8, z9, z10, z11, z12⟩ := hc
 exact ⟨h.cell z0 hb, h.cell z1 hb, h.cell z2 hb, h.cell z3 hb, h.cell z4 hb, h.cell z5 hb, h.cell z6 hb, h.cell z7 hb, h.cell z8 hb, h.cell z9 hb, h.cell z10 hb, h.cell z11 hb, h.cell z12 hb⟩
theorem RT.On.kps {S : Nat → Prop} {W W' : World} (h : KpS S W W') : ∀ {r : RT} {cv kv : Value}, r.On (fun g => ¬ S g) W cv kv → r.On (fun g => ¬ S g) W' cv kv
 | .leaf _ _ _, _, _, hh => hh
 | .proj _ _, _, _, ⟨cb, cc, kb, kc, ccv, ckv, h1, h2, h3, h4, h5, h6, hl, h7, h8, h9⟩ => ⟨cb, cc, kb, kc, ccv, ckv, h1, h2, h3, h4, h5, h6, hl, fun i c hi => h.cell (h7 i c hi) h3, h8.kps h h4, h9.kps h⟩
theorem cell_below {n : Nat} {w w' : World} (hb : Below n w w') {b o : Nat} (hn : b < n) {v : Value} (hc : w.cell? ⟨b, o, none⟩ = some v) : w'.cell? ⟨b, o, none⟩ = some v := cell_keep1 hc fun _ => hb.block b hn
theorem RCells.lt {w : World} {b : Nat} {r : RT} {cv kv : Value} (h : RCells w b r cv kv) : b < w.heap.size := World.block_lt_of_cell? w _ h.1
theorem RCells.below {w w' : World} (hb : Below w.heap.size w w') {b : Nat} {r : RT} {cv kv : Value} (hc : RCells w b r cv kv) : RCells w' b r cv kv := by
 have hl := hc.lt
 obtain ⟨z0, z1, z2, z3, z4, z5, z6, z7, z8, z9, z10, z11, z12⟩ := hc
 exact ⟨cell_below hb hl z0, cell_below hb hl z1, cell_below hb hl z2, cell_below hb hl z3, cell_below hb hl z4, cell_below hb hl z5, cell_below hb hl z6, cell_below hb hl z7, cell_below hb hl z8, cell_below hb hl z9, cell_below hb hl z10, cell_below hb hl z11, cell_below hb hl z12⟩
theorem RT.On.below {S : Nat → Prop} {w w' : World} (hb : Below w.heap.size w w') : ∀ {r : RT} {cv kv : Value}, r.On S w cv kv → r.On S w' cv kv
 | .leaf _ _ _, _, _, hh => hh
 | .proj _ _, _, _, ⟨cb, cc, kb, kc, ccv, ckv, h1, h2, h3, h4, h5, h6, hl, h7, h8, h9⟩ => ⟨cb, cc, kb, kc, ccv, ckv, h1, h2, h3, h4, h5, h6, hl, fun i c hi => cell_below hb (World.block_lt_of_cell? w _ (h7 i c hi)) (h7 i c hi), h8.below hb, h9.below hb⟩
theorem RT.On.wide {S S' : Nat → Prop} {w : World} (hS : ∀ g, S g → S' g) : ∀ {r : RT} {cv kv : Value}, r.On S w cv kv → r.On S' w cv kv
 | .leaf _ _ _, _, _, hh => hh
 | .proj _ _, _, _, ⟨cb, cc, kb, kc, ccv, ckv, h1, h2, h3, h4, h5, h6, hl, h7, h8, h9⟩ => ⟨cb, cc, kb, kc, ccv, ckv, h1, h2, hS _ h3, hS _ h4, h5, h6, hl, h7, h8, h9.wide hS⟩
theorem RT.On.kids {S : Nat → Prop} {w : World} {r : RT} {cv kv : Value} (h : r.On S w cv kv) : (∃ a n c, cv = .slice a n c) ∧ ∃ a n c, kv = .slice a n c := by
 cases r with
 | leaf => obtain ⟨rfl, rfl⟩ := h; exact ⟨⟨_, _, _, rfl⟩, _, _, _, rfl⟩
 | proj => obtain ⟨cb, cc, kb, kc, ccv, ckv, rfl, rfl, -⟩ := h; exact ⟨⟨_, _, _, rfl⟩, _, _, _, rfl⟩
theorem idx_95_nil (F : Fence) (hd : F.depth = none) (n : Nat) (hf : F.fn 95) (hro : F.round = none) (fv : Value) (W : World) :
  CallsIn F n Tryz.prog 95 #[.slice none 0 0, fv] W fun ev W' => ev = .returned (.int .i64 (-1)) ∧ W' = W := by
 have hdd : ∀ k : Nat, (F.depth.isSome = true → 1 ≤ k) := fun k h => by rw [hd] at h; cases h
 refine callsIn_of_wp Tryz.func95 rfl hf ?_ hro
 simp only [Tryz.ntmps95, List.size_toArray, List.length_cons, List.length_nil, Nat.reduceAdd, Nat.reduceSub, Array.replicate_succ, Array.replicate_zero, List.push_toArray, List.append_toArray, List.nil_append, List.cons_append]
 gi_wp2_with fail
 gi_loopw [8] (fun p wr => p = .int .i64 0 ∧ wr = W) (fun _ _ => 0)
 case atStart => exact ⟨rfl, rfl⟩
 case round =>
  obtain ⟨rfl, rfl⟩ := hrel
  gi_wp2_with fail
  go_ret
  exact ⟨rfl, rfl⟩
theorem idx_95_one (F : Fence) (hd : F.depth = none) (n : Nat) (hf : F.fn 95) (h65 : F.fn 65) (hro : F.round = none) (Bw : Nat) (k : RT) (kb kc : Nat) (ccv ckv : Value) (W : World) (hk : RCells W kb k ccv ckv) (Q : Bool → World → Prop)
  (hg : ∀ m, CallsIn F m Tryz.prog 65 #[k.agg ccv ckv, .pointer (some ⟨Bw, 0, none⟩)] W fun ev W' => ∃ b, ev = .returned (.bool (!b)) ∧ Q b W') :
  CallsIn F n Tryz.prog 95 #[.slice (some ⟨kb, 0, none⟩) 1 kc, .func (.func 65) #[] #[.pointer (some ⟨Bw, 0, none⟩)]] W fun ev W' => ∃ b, ev = .returned (.int .i64 (if b then -1 else 0)) ∧ Q b W' := by
 obtain ⟨z0, z1, z2, z3, z4, z5, z6, z7, z8, z9, z10, z11, z12⟩ := hk
 have sB : kb < W.heap.size := World.block_lt_of_cell? W _ z0
 unfold RT.agg at hg
 have HG := Lib.hid hg
 clear hg
 have hdd : ∀ k : Nat, (F.depth.isSome = true → 1 ≤ k) := fun k h => by rw [hd] at h; cases h
 refine callsIn_of_wp Tryz.func95 rfl hf ?_ hro
 simp only [Tryz.ntmps95, List.size_toArray, List.length_cons, List.length_nil, Nat.reduceAdd, Nat.reduceSub, Array.replicate_succ, Array.replicate_zero, List.push_toArray, List.append_toArray, List.nil_append, List.cons_append]
 gi_wp2_with fail
 gi_loopw [8] (fun p wr => (p = .int .i64 0 ∧ wr = W) ∨ (p = .int .i64 1 ∧ Q true wr)) (fun p _ => 1 - (intOf p).toNat)
 case atStart => exact .inl ⟨rfl, rfl⟩
 case round =>
  rcases hrel with ⟨rfl, rfl⟩ | ⟨rfl, hq⟩
  ·gi_wp2_with fail
   refine (HG.out _).mono ?_
   rintro ev W2 ⟨b, rfl, hq⟩
   have HQ := Lib.hid hq
   clear hq z0 z1 z2 z3 z4 z5 z6 z7 z8 z9 z10 z11 z12 sB HG
   cases b
   ·gi_wp2_with fail
    go_ret
    exact ⟨false, rfl, HQ.out⟩
   ·gi_wp2_with fail
    go_roundw
    case rel => exact .inr ⟨by go_num, HQ.out⟩
    case measure => simp [intOf]
  ·have HQ := Lib.hid hq
   clear hq z0 z1 z2 z3 z4 z5 z6 z7 z8 z9 z10 z11 z12 sB HG
   gi_wp2_with fail
   go_ret
   exact ⟨true, rfl, HQ.out⟩
theorem contains_64_nil (F : Fence) (hd : F.depth = none) (n : Nat) (hf : F.fn 64) (h95 : F.fn 95) (hro : F.round = none) (fv : Value) (W : World) :
  CallsIn F n Tryz.prog 64 #[.slice none 0 0, fv] W fun ev W' => ev = .returned (.bool false) ∧ W' = W := by
 have HC := Lib.hid (fun m => idx_95_nil F hd m h95 hro fv W)
 have hdd : ∀ k : Nat, (F.depth.isSome = true → 1 ≤ k) := fun k h => by rw [hd] at h; cases h
 refine callsIn_of_wp Tryz.func64 rfl hf ?_ hro
 simp only [Tryz.ntmps64, List.size_toArray, List.length_cons, List.length_nil, Nat.reduceAdd, Nat.reduceSub, Array.replicate_succ, Array.replicate_zero, List.push_toArray, List.append_toArray, List.nil_append, List.cons_append]
 gi_wp2_with fail
 refine (HC.out _).mono ?_
 rintro ev W2 ⟨rfl, rfl⟩
 gi_wp2_with fail
 go_ret
 exact ⟨rfl, rfl⟩
theorem contains_64_one (F : Fence) (hd : F.depth = none) (n : Nat) (hf : F.fn 64) (h95 : F.fn 95) (h65 : F.fn 65) (hro : F.round = none) (Bw : Nat) (k : RT) (kb kc : Nat) (ccv ckv : Value) (W : World) (hk : RCells W kb k ccv ckv) (Q : Bool → World → Prop)
  (hg : ∀ m, CallsIn F m Tryz.prog 65 #[k.agg ccv ckv, .pointer (some ⟨Bw, 0, none⟩)] W fun ev W' => ∃ b, ev = .returned (.bool (!b)) ∧ Q b W') :
  CallsIn F n Tryz.prog 64 #[.slice (some ⟨kb, 0, none⟩) 1 kc, .func (.func 65) #[] #[.pointer (some ⟨Bw, 0, none⟩)]] W fun ev W' => ∃ b, ev = .returned (.bool (!b)) ∧ Q b W' := by
 have HC := Lib.hid (fun m => idx_95_one F hd m h95 h65 hro Bw k kb kc ccv ckv W hk Q hg)
 clear hk hg
 have hdd : ∀ k : Nat, (F.depth.isSome = true → 1 ≤ k) := fun k h => by rw [hd] at h; cases h
 refine callsIn_of_wp Tryz.func64 rfl hf ?_ hro
 simp only [Tryz.ntmps64, List.size_toArray, List.length_cons, List.length_nil, Nat.reduceAdd, Nat.reduceSub, Array.replicate_succ, Array.replicate_zero, List.push_toArray, List.append_toArray, List.nil_append, List.cons_append]
 gi_wp2_with fail
 refine (HC.out _).mono ?_
 rintro ev W2 ⟨b, rfl, hq⟩
 have HQ := Lib.hid hq
 clear hq
 cases b
 all_goals
  gi_wp2_with fail
  go_ret
  exact ⟨_, rfl, HQ.out⟩
theorem closure_65 (F : Fence) (hd : F.depth = none) (n : Nat) (h65 : F.fn 65) (h63 : F.fn 63) (hro : F.round = none) (Bw By : Nat) (k : RT) (ccv ckv : Value) (W : World) (Q : Bool → World → Prop)
  (hw : W.cell? ⟨Bw, 0, none⟩ = some (.func (.func 63) #[] #[.pointer (some ⟨By, 0, none⟩), .pointer (some ⟨Bw, 0, none⟩)]))
  (hg : ∀ m, CallsIn F m Tryz.prog 63 #[k.agg ccv ckv, .pointer (some ⟨By, 0, none⟩), .pointer (some ⟨Bw, 0, none⟩)] (W.alloc (.cells (k.cells ccv ckv) 56)) fun ev W' => ∃ b, ev = .returned (.bool b) ∧ Q b W') :
  CallsIn F n Tryz.prog 65 #[k.agg ccv ckv, .pointer (some ⟨Bw, 0, none⟩)] W fun ev W' => ∃ b, ev = .returned (.bool (!b)) ∧ Q b W' := by
 have sW : Bw < W.heap.size := World.block_lt_of_cell? W _ hw
 unfold RT.agg RT.cells at hg
 unfold RT.agg
 have HG := Lib.hid hg
 clear hg
 have hdd : ∀ k : Nat, (F.depth.isSome = true → 1 ≤ k) := fun k h => by rw [hd] at h; cases h
 refine callsIn_of_wp Tryz.func65 rfl h65 ?_ hro
 simp only [Tryz.ntmps65, List.size_toArray, List.length_cons, List.length_nil, Nat.reduceAdd, Nat.reduceSub, Array.replicate_succ, Array.replicate_zero, List.push_toArray, List.append_toArray, List.nil_append, List.cons_append]
 gi_wp2_with fail
 refine (HG.out _).mono ?_
 rintro ev W2 ⟨b, rfl, hq⟩
 have HQ := Lib.hid hq
 clear hq
 gi_wp2_with fail
 go_ret
 exact ⟨_, rfl, HQ.out⟩
theorem walk_63 (F : Fence) (hd : F.depth = none) (h63 : F.fn 63) (h64 : F.fn 64) (h65 : F.fn 65) (h95 : F.fn 95) (hro : F.round = none) (l N Bw By : Nat) (S : Nat → Prop) (hBw : ¬ S Bw) (hBy : ¬ S By) (J Jx : List RPart → World → Prop) (hJ : ∀ pre W o, J pre W → J pre (W.alloc o))
  (hY : ∀ m pre x W, J pre W → pre.length < N → YieldAt F m Tryz.prog l (RPart.encs x) W fun e W' => (e = .returned (.bool true) ∧ J (pre ++ [x]) W' ∧ KpS S W W') ∨ (e = .returned (.bool false) ∧ Jx (pre ++ [x]) W')) :
  ∀ (r : RT) (cv kv : Value) (n : Nat) (pre : List RPart) (W : World), r.On (fun g => ¬ S g) W cv kv → (∀ g, W.heap.size ≤ g → ¬ S g) →
   W.cell? ⟨By, 0, none⟩ = some (.func (.yield l) #[] #[]) → W.cell? ⟨Bw, 0, none⟩ = some (.func (.func 63) #[] #[.pointer (some ⟨By, 0, none⟩), .pointer (some ⟨Bw, 0, none⟩)]) → J pre W → pre.length + r.pre.length ≤ N →
   CallsIn F n Tryz.prog 63 #[r.agg cv kv, .pointer (some ⟨By, 0, none⟩), .pointer (some ⟨Bw, 0, none⟩)] W fun ev W' =>
    ∃ b, ev = .returned (.bool b) ∧ ((b = true ∧ ∃ ps, ps.map RPart.r = r.pre ∧ J (pre ++ ps) W' ∧ KpS S W W') ∨ (b = false ∧ ∃ ps, ps.map RPart.r <+: r.pre ∧ Jx (pre ++ ps) W')) := by
 intro r
 induction r with
 | leaf kd a i =>
  rintro cv kv n pre W ⟨rfl, rfl⟩ hfresh c1 c2 hj hN
  obtain ⟨W1, hW1⟩ : ∃ W1, W1 = W.alloc (.cells #[.int .u8 kd, .int .i64 a, .int .i64 i, .slice none 0 0, .slice none 0 0, .slice none 0 0, .slice none 0 0, .slice none 0 0, .slice none 0 0, .slice none 0 0, .int .i64 0, .int .i64 0, .slice none 0 0] 56) := ⟨_, rfl⟩
  have hj1 : J pre W1 := by rw [hW1]; exact hJ _ _ _ hj
  obtain ⟨fn, tmps, assign, body, hy, hR⟩ := hY (n - 1) pre ⟨.leaf kd a i, none, 0, 0, none, 0, 0⟩ W1 hj1 (by simp only [RT.pre, List.length_cons, List.length_nil] at hN; omega)
  simp only [RPart.encs, RT.agg, RT.kind, RT.ar, RT.id] at hy
  have sBy : By < W.heap.size := World.block_lt_of_cell? W _ c1
  have hk01 : KpS S W W1 := by rw [hW1]; exact KpS.alloc _ _ _
  obtain ⟨H, eH⟩ : ∃ H, H = W.heap.size := ⟨_, rfl⟩
  have e1 : W1.cell? ⟨H, 12, none⟩ = some (.slice none 0 0) := by rw [hW1, eH]; exact cell_of_heap (heap_alloc_new _ _) rfl
  have hSH : ¬ S H := hfresh H (by rw [eH]; exact Nat.le_refl _)
  have HC := Lib.hid (fun m W => contains_64_nil F hd m h64 h95 hro (.func (.func 65) #[] #[.pointer (some ⟨Bw, 0, none⟩)]) W)
  have HR := Lib.hid hR
  rw [hW1] at hy
  have HW1 := Lib.hid hW1
  have C1 := c1
  clear hY hJ hfresh hN hR hW1 c2 hj hj1
  unfold RT.agg
  simp only [RT.kind, RT.ar, RT.id]
  have hdd : ∀ k : Nat, (F.depth.isSome = true → 1 ≤ k) := fun k h => by rw [hd] at h; cases h
  refine callsIn_of_wp Tryz.func63 rfl h63 ?_ hro
  simp only [Tryz.ntmps63, List.size_toArray, List.length_cons, List.length_nil, Nat.reduceAdd, Nat.reduceSub, Array.replicate_succ, Array.replicate_zero, List.push_toArray, List.append_toArray, List.nil_append, List.cons_append]
  gi_wp2_with fail
  rw [← HW1.out, ← eH]
  have EH := Lib.hid eH
  clear eH
  refine HR.out.mono ?_
  rintro ev W2 (⟨rfl, hj2, hk2⟩ | ⟨rfl, hx2⟩)
  ·have e1' := hk2.cell e1 hSH
   have HJ2 := Lib.hid hj2
   have HKK := Lib.hid (hk01.trans hk2)
   clear hj2 hk2 hk01 e1 hy HR
   gi_wp2_with fail
   refine (HC.out _ _).mono ?_
   rintro ev W3 ⟨rfl, rfl⟩
   gi_wp2_with fail
   go_ret
   exact ⟨true, rfl, .inl ⟨rfl, [⟨.leaf kd a i, none, 0, 0, none, 0, 0⟩], rfl, HJ2.out, HKK.out⟩⟩
  ·gi_wp2_with fail
   go_ret
   exact ⟨false, rfl, .inr ⟨rfl, [⟨.leaf kd a i, none, 0, 0, none, 0, 0⟩], List.prefix_rfl, hx2⟩⟩
 | proj cs k ih =>
  rintro cv kv n pre W ⟨cb, cc, kb, kc, ccv, ckv, rfl, rfl, hSc, hSk, hcc, hkc, hl9, hcs, hkk, hon⟩ hfresh c1 c2 hj hN
  obtain ⟨W1, hW1⟩ : ∃ W1, W1 = W.alloc (.cells #[.int .u8 5, .int .i64 0, .int .i64 0, .slice none 0 0, .slice (some ⟨cb, 0, none⟩) cs.length cc, .slice none 0 0, .slice none 0 0, .slice none 0 0, .slice none 0 0, .slice none 0 0, .int .i64 0, .int .i64 0, .slice (some ⟨kb, 0, none⟩) 1 kc] 56) := ⟨_, rfl⟩
  have hj1 : J pre W1 := by rw [hW1]; exact hJ _ _ _ hj
  have hN' : pre.length + 1 + k.pre.length ≤ N := by simp only [RT.pre, List.length_cons] at hN; omega
  obtain ⟨fn, tmps, assign, body, hy, hR⟩ := hY (n - 1) pre ⟨.proj cs k, some ⟨cb, 0, none⟩, cs.length, cc, some ⟨kb, 0, none⟩, 1, kc⟩ W1 hj1 (by omega)
  simp only [RPart.encs, RT.agg, RT.kind, RT.ar, RT.id] at hy
  have sBy : By < W.heap.size := World.block_lt_of_cell? W _ c1
  have hk01 : KpS S W W1 := by rw [hW1]; exact KpS.alloc _ _ _
  obtain ⟨H, eH⟩ : ∃ H, H = W.heap.size := ⟨_, rfl⟩
  have e1 : W1.cell? ⟨H, 12, none⟩ = some (.slice (some ⟨kb, 0, none⟩) 1 kc) := by rw [hW1, eH]; exact cell_of_heap (heap_alloc_new _ _) rfl
  have hSH : ¬ S H := hfresh H (by rw [eH]; exact Nat.le_refl _)
  have HC : Hid (∀ m (W' : World), KpS S W W' → J (pre ++ [⟨.proj cs k, some ⟨cb, 0, none⟩, cs.length, cc, some ⟨kb, 0, none⟩, 1, kc⟩]) W' →
    CallsIn F m Tryz.prog 64 #[.slice (some ⟨kb, 0, none⟩) 1 kc, .func (.func 65) #[] #[.pointer (some ⟨Bw, 0, none⟩)]] W' fun ev W'' => ∃ b, ev = .returned (.bool (!b)) ∧ ((b = true ∧ ∃ ps, ps.map RPart.r = (RT.proj cs k).pre ∧ J (pre ++ ps) W'' ∧ KpS S W W'') ∨ (b = false ∧ ∃ ps, ps.map RPart.r <+: (RT.proj cs k).pre ∧ Jx (pre ++ ps) W''))) := Lib.hid fun m W' hk hj' => by
   refine contains_64_one F hd m h64 h95 h65 hro Bw k kb kc ccv ckv W' (hkk.kps hk hSk) _ fun m => ?_
   refine closure_65 F hd m h65 h63 hro Bw By k ccv ckv W' _ (hk.cell c2 hBw) fun m => ?_
   have ka := hk.trans (KpS.alloc S W' (.cells (k.cells ccv ckv) 56))
   refine (ih ccv ckv m _ _ (hon.kps ka) (fun g hg => hfresh g (Nat.le_trans ka.1 hg)) (ka.cell c1 hBy) (ka.cell c2 hBw) (hJ _ _ _ hj') (by simp; omega)).mono ?_
   rintro ev W'' ⟨b, rfl, ⟨rfl, ps, h1, h2, h3⟩ | ⟨rfl, ps, h1, h2⟩⟩
   ·exact ⟨true, rfl, .inl ⟨rfl, ⟨.proj cs k, some ⟨cb, 0, none⟩, cs.length, cc, some ⟨kb, 0, none⟩, 1, kc⟩ :: ps, by rw [List.map_cons, h1]; rfl, by simpa using h2, ka.trans h3⟩⟩
   ·exact ⟨false, rfl, .inr ⟨rfl, ⟨.proj cs k, some ⟨cb, 0, none⟩, cs.length, cc, some ⟨kb, 0, none⟩, 1, kc⟩ :: ps, by rw [List.map_cons]; exact (List.prefix_cons_inj _).2 h1, by simpa using h2⟩⟩
  have HR := Lib.hid hR
  rw [hW1] at hy
  have HW1 := Lib.hid hW1
  clear hY hJ hfresh hN hN' hR hW1 c2 hj hj1 ih hcs hkk hon hSc hSk hcc hkc hl9
  unfold RT.agg
  simp only [RT.kind, RT.ar, RT.id]
  have hdd : ∀ k : Nat, (F.depth.isSome = true → 1 ≤ k) := fun k h => by rw [hd] at h; cases h
  refine callsIn_of_wp Tryz.func63 rfl h63 ?_ hro
  simp only [Tryz.ntmps63, List.size_toArray, List.length_cons, List.length_nil, Nat.reduceAdd, Nat.reduceSub, Array.replicate_succ, Array.replicate_zero, List.push_toArray, List.append_toArray, List.nil_append, List.cons_append]
  gi_wp2_with fail
  rw [← HW1.out, ← eH]
  have EH := Lib.hid eH
  clear eH
  refine HR.out.mono ?_
  rintro ev W2 (⟨rfl, hj2, hk2⟩ | ⟨rfl, hx2⟩)
  ·have e1' := hk2.cell e1 hSH
   have HC2 := fun m => HC.out m W2 (hk01.trans hk2) hj2
   have HC3 := Lib.hid HC2
   clear hj2 hk2 hk01 e1 hy HR HC2 HC
   gi_wp2_with fail
   refine (HC3.out _).mono ?_
   rintro ev W3 ⟨b, rfl, hq⟩
   have HQ := Lib.hid hq
   clear hq HC3
   gi_wp2_with fail
   go_ret
   exact ⟨b, by simp, HQ.out⟩
  ·gi_wp2_with fail
   go_ret
   exact ⟨false, rfl, .inr ⟨rfl, [⟨.proj cs k, some ⟨cb, 0, none⟩, cs.length, cc, some ⟨kb, 0, none⟩, 1, kc⟩], (List.prefix_cons_inj _).2 (List.nil_prefix), hx2⟩⟩
theorem rparts_62 (F : Fence) (hd : F.depth = none) (n : Nat) (h62 : F.fn 62) (h63 : F.fn 63) (h64 : F.fn 64) (h65 : F.fn 65) (h95 : F.fn 95) (hro : F.round = none) (l Be : Nat) (S : Nat → Prop) (r : RT) (cv kv : Value) (J Jx : List RPart → World → Prop) (hJ : ∀ pre W o, J pre W → J pre (W.alloc o))
  (hY : ∀ pre x W, J pre W → pre.length < r.pre.length → YieldAt F (n - 1) Tryz.prog l (RPart.encs x) W fun ev W' => (ev = .returned (.bool true) ∧ J (pre ++ [x]) W' ∧ KpS S W W') ∨ (ev = .returned (.bool false) ∧ Jx (pre ++ [x]) W'))
  (W : World) (hBe : RCells W Be r cv kv) (hfresh : ∀ g, W.heap.size ≤ g → ¬ S g) (hat : r.On (fun g => ¬ S g) W cv kv) (h0 : J [] W) :
  CallsIn F n Tryz.prog 62 #[.func (.yield l) #[] #[], .pointer (some ⟨Be, 0, none⟩)] W fun ev W' => (∃ v, ev = .returned v) ∧ ((∃ ps, ps.map RPart.r = r.pre ∧ J ps W') ∨ (∃ ps, ps.map RPart.r <+: r.pre ∧ Jx ps W')) := by
 obtain ⟨W1, hW1⟩ : ∃ W1, W1 = W.alloc (.cells #[.func (.yield l) #[] #[]] 107) := ⟨_, rfl⟩
 obtain ⟨W2, hW2⟩ : ∃ W2, W2 = W1.alloc (.cells #[.func (.func 63) #[] #[.pointer (some ⟨W.heap.size, 0, none⟩), .pointer (some ⟨W.heap.size + 1, 0, none⟩)]] 107) := ⟨_, rfl⟩
 have hs1 : W1.heap.size = W.heap.size + 1 := by rw [hW1]; simp
 have k1 : KpS S W W1 := by rw [hW1]; exact KpS.alloc _ _ _
 have k2 : KpS S W1 W2 := by rw [hW2]; exact KpS.alloc _ _ _
 have k := k1.trans k2
 have c1 : W2.cell? ⟨W.heap.size, 0, none⟩ = some (.func (.yield l) #[] #[]) := k2.cell (by rw [hW1]; exact cell_of_heap (heap_alloc_new _ _) rfl) (hfresh _ (Nat.le_refl _))
 have c2 : W2.cell? ⟨W.heap.size + 1, 0, none⟩ = some (.func (.func 63) #[] #[.pointer (some ⟨W.heap.size, 0, none⟩), .pointer (some ⟨W.heap.size + 1, 0, none⟩)]) := by
  rw [hW2, ← hs1]; exact cell_of_heap (heap_alloc_new _ _) rfl
 have hj : J [] W2 := by rw [hW2, hW1]; exact hJ _ _ _ (hJ _ _ _ h0)
 have hct := walk_63 F hd h63 h64 h65 h95 hro l r.pre.length (W.heap.size + 1) W.heap.size S (hfresh _ (Nat.le_succ _)) (hfresh _ (Nat.le_refl _)) J Jx hJ (fun m pre x W hj hl => YieldAt.anyDepth hd m (hY pre x W hj hl)) r cv kv (n - 1) [] W2 (hat.kps k) (fun g hg => hfresh g (Nat.le_trans k.1 hg)) c1 c2 hj (by simp)
 obtain ⟨z0, z1, z2, z3, z4, z5, z6, z7, z8, z9, z10, z11, z12⟩ := hBe
 have sB : Be < W.heap.size := World.block_lt_of_cell? W _ z0
 unfold RT.agg at hct
 rw [hW2, hW1] at hct
 have HCT := Lib.hid hct
 clear hct hj c1 c2 k k1 k2 hs1 hW1 hW2 hat hY hJ h0 hfresh
 have hdd : ∀ k : Nat, (F.depth.isSome = true → 1 ≤ k) := fun k h => by rw [hd] at h; cases h
 refine callsIn_of_wp Tryz.func62 rfl h62 ?_ hro
 simp only [Tryz.ntmps62, List.size_toArray, List.length_cons, List.length_nil, Nat.reduceAdd, Nat.reduceSub, Array.replicate_succ, Array.replicate_zero, List.push_toArray, List.append_toArray, List.nil_append, List.cons_append]
 gi_wp2_with fail
 refine HCT.out.mono ?_
 rintro ev W5 ⟨b, rfl, ⟨rfl, ps, hp, hj5, -⟩ | ⟨rfl, ps, hp, hx5⟩⟩
 ·gi_wp2_with fail
  go_end0
  exact ⟨⟨_, rfl⟩, .inl ⟨ps, hp, by simpa using hj5⟩⟩
 ·gi_wp2_with fail
  go_end0
  exact ⟨⟨_, rfl⟩, .inr ⟨ps, hp, by simpa using hx5⟩⟩
theorem rparts_35 (F : Fence) (n : Nat) (h35 : F.fn 35) (hro : F.round = none) (r : RT) (cv kv : Value) (w : World) :
  CallsIn F n Tryz.prog 35 #[r.agg cv kv] w fun ev w' => ev = .returned (.func (.func 62) #[] #[.pointer (some ⟨w.heap.size, 0, none⟩)]) ∧ w' = w.alloc (.cells (r.cells cv kv) 56) := by
 unfold RT.agg RT.cells
 refine callsIn_of_wp Tryz.func35 rfl h35 ?_ hro
 simp only [Tryz.ntmps35, List.size_toArray, List.length_cons, List.length_nil, Nat.reduceAdd, Nat.reduceSub, Array.replicate_succ, Array.replicate_zero, List.push_toArray, List.append_toArray, List.nil_append, List.cons_append]
 gi_wp2_with fail
 go_ret
 exact ⟨rfl, rfl⟩
theorem rparts_stops (F : Fence) (hd : F.depth = none) (n : Nat) (h62 : F.fn 62) (h63 : F.fn 63) (h64 : F.fn 64) (h65 : F.fn 65) (h95 : F.fn 95) (hro : F.round = none) (Be : Nat) (S : Nat → Prop) (r : RT) (cv kv : Value) (w : World)
  (hBe : RCells w Be r cv kv) (hS : ∀ g, S g → g < w.heap.size) (hat : r.On (fun g => ¬ S g) w cv kv) :
  SeqStopsK F n Tryz.prog 62 #[.pointer (some ⟨Be, 0, none⟩)] RPart.encs (KpS S) (fun ps => ps.map RPart.r = r.pre) (fun ps => ps.map RPart.r <+: r.pre) r.pre.length w := fun l J Jx W hW hJ _ hY h0 =>
 rparts_62 F hd n h62 h63 h64 h65 h95 hro l Be S r cv kv J Jx (fun pre W' o hj => hJ pre W' _ none hj (World.grownBy_alloc W' o none) (fun r er => by cases er)) hY W (hBe.below hW) (fun g hg hs => by have := hS g hs; have := hW.size; omega) (hat.below hW) h0
end Go.Proofs.YtmmhedlagnjbiaaGreatDoor
namespace Go.Proofs.YtmmhedlagnjbiaaGreatDoor
open Go.RowKit Go.Pen Go.Shelf
open Go.ChangeMaps (setBlock)
attribute [local go_sem] Oper.semAt_some
def mEnts : List (Int × Int) → Nat → List MapEntry
 | [], _ => []
 | (k, v) :: l, n => ⟨.int .i64 k, .int .i64 v, n⟩ :: mEnts l (n + 1)
def mObj (l : List (Int × Int)) : Obj := .map (mEnts l 0).toArray l.length
def mGet : List (Int × Int) → Int → Option Int
 | [], _ => none
 | (k, v) :: l, x => if x = k then some v else mGet l x
theorem findNow_mEnts (x : Int) : ∀ (l : List (Int × Int)) (n i : Nat), ∃ j, Instr.findNow (.int .i64) (.int .i64 x) (mEnts l n) i = some ((mGet l x).map fun v => (j, .int .i64 v))
 | [], _, _ => ⟨0, rfl⟩
 | (k, v) :: l, n, i => by
  by_cases h : x = k
  ·exact ⟨i, by simp [mEnts, Instr.findNow, Instr.sameNow, mGet, h]⟩
  ·obtain ⟨j, hj⟩ := findNow_mEnts x l (n + 1) (i + 1)
   have hb : (x == k) = false := by simpa using h
   exact ⟨j, by simp [mEnts, Instr.findNow, Instr.sameNow, mGet, h, hj, hb]⟩
theorem mEnts_snoc (k v : Int) : ∀ (l : List (Int × Int)) (n : Nat), mEnts (l ++ [(k, v)]) n = mEnts l n ++ [⟨.int .i64 k, .int .i64 v, n + l.length⟩]
 | [], n => by simp [mEnts]
 | (a, b) :: l, n => by simp [mEnts, mEnts_snoc k v l (n + 1)]; omega
theorem check_run (w : World) (em : Bool) (x : Int) : (Instr.checkKey em 10000 3 (.int .i64 x)).run Tryz.prog w = .ok () w := by
 rw [show (10000 : Nat) = 9999 + 1 from rfl, Instr.checkKey]
 simp [run_underlying (P := Tryz.prog) Tryz.underlying3, Result.andThen]
theorem find_run {w : World} {l : List (Int × Int)} (x : Int) : ∃ j : Nat, (Instr.findKey 3 (.int .i64 x) (mEnts l 0)).run Tryz.prog w = .ok ((mGet l x).map fun v => (j, .int .i64 v)) w := by
 obtain ⟨j, hj⟩ := findNow_mEnts x l 0 0
 exact ⟨j, by simp [Instr.findKey, run_underlying (P := Tryz.prog) Tryz.underlying3, hj, Result.andThen]⟩
theorem zero_int (w : World) : (zeroValue 3).run Tryz.prog w = .ok (.int .i64 0) w := by kernel_rfl
theorem zero_bool (w : World) : (zeroValue 4).run Tryz.prog w = .ok (.bool false) w := by kernel_rfl
theorem lookup_run {w : World} {b : Nat} {l : List (Int × Int)} (hb : w.heap[b]? = some (mObj l)) (x : Int) (c : Bool) :
  (Instr.lookup 99 (.map (some b)) (.int .i64 x) c).run Tryz.prog w = .ok (if c then .tuple #[.int .i64 ((mGet l x).getD 0), .bool (mGet l x).isSome] else .int .i64 ((mGet l x).getD 0)) w := by
 obtain ⟨j, hj⟩ := find_run (w := w) (l := l) x
 cases hg : mGet l x with
 | none =>
  rw [hg] at hj
  simp [Instr.lookup, run_underlying (P := Tryz.prog) Tryz.underlying99, MapKept.run_getObj_map hb, check_run, hj, Result.andThen]
 | some v =>
  rw [hg] at hj
  simp [Instr.lookup, run_underlying (P := Tryz.prog) Tryz.underlying99, MapKept.run_getObj_map hb, check_run, hj, Result.andThen]
theorem lookup_none {t e : TypeId} (ht : Tryz.prog.underlying t = some (.map 3 e)) {w : World} {b c : Nat} {z : Value} (hz : (zeroValue e).run Tryz.prog w = .ok z w) (hb : w.heap[b]? = some (.map #[] c)) (x : Int) (o : Bool) :
  (Instr.lookup t (.map (some b)) (.int .i64 x) o).run Tryz.prog w = .ok (if o then .tuple #[z, .bool false] else z) w := by
 obtain ⟨j, hj⟩ := find_run (w := w) (l := []) x
 have hj' : (Instr.findKey 3 (.int .i64 x) []).run Tryz.prog w = .ok none w := hj
 simp [Instr.lookup, run_underlying ht, MapKept.run_getObj_map hb, check_run, hj', hz, Result.andThen]
theorem update_run {w : World} {b : Nat} {l : List (Int × Int)} (hb : w.heap[b]? = some (mObj l)) {x : Int} (hx : mGet l x = none) (v : Int) :
  (Instr.mapUpdate 99 (.map (some b)) (.int .i64 x) (.int .i64 v)).run Tryz.prog w = .ok () (setBlock w b (mObj (l ++ [(x, v)]))) := by
 obtain ⟨j, hj⟩ := find_run (w := w) (l := l) x
 rw [hx] at hj
 simp [Instr.mapUpdate, run_underlying (P := Tryz.prog) Tryz.underlying99, MapKept.run_getObj_map hb, check_run, hj, MapKept.run_setObj_map _ hb, Result.andThen, mObj, mEnts_snoc, setBlock]
theorem wpListIn_look {F : Fence} {nF : Nat} {w : World} {ops : Array Oper} {rest : List Oper} {o : Oper} {a : Act} {Q : Exit → Act → World → Prop} (hg : o.guard = none) (m x : Operand) (t : TypeId) (c : Bool) (hop : o.op = Op.lookup t m x c)
  {mv kv v : Value} (hm : a.eval m = mv) (hx : a.eval x = kv) (hr : (Instr.lookup t mv kv c).run Tryz.prog w = .ok v w) (hK : wpListIn F nF Tryz.prog ops Q rest (a.put o.dst v) w) : wpListIn F nF Tryz.prog ops Q (o :: rest) a w := by
 refine wpListIn_plain hg fun K' hK' => ?_
 unfold Oper.wpIn
 refine ⟨by simp [Oper.about, hop], ?_⟩
 rw [Oper.semAt_plain F _ _ (by rw [hop]; intro c hc'; cases hc')]
 simp [execOp, hop, hm, hx, hr, Result.andThen]
 exact hK' _ _ hK
theorem wpList_look {w : World} {ops : Array Oper} {rest : List Oper} {o : Oper} {a : Act} {Q : Exit → Act → World → Prop} (hg : o.guard = none) (m x : Operand) (t : TypeId) (c : Bool) (hop : o.op = Op.lookup t m x c)
  {mv kv v : Value} (hm : a.eval m = mv) (hx : a.eval x = kv) (hr : (Instr.lookup t mv kv c).run Tryz.prog w = .ok v w) (hK : wpList Tryz.prog ops Q rest (a.put o.dst v) w) : wpList Tryz.prog ops Q (o :: rest) a w := by
 refine wpList_plain hg fun K' hK' => ?_
 unfold Oper.wp
 simp [execOp, hop, hm, hx, hr, Result.andThen]
 exact hK' _ _ hK
theorem wpListIn_put {F : Fence} {nF : Nat} {w w' : World} {ops : Array Oper} {rest : List Oper} {o : Oper} {a : Act} {Q : Exit → Act → World → Prop} (hg : o.guard = none) (m x v : Operand) (t : TypeId) (hop : o.op = Op.mapUpdate t m x v)
  {mv kv vv : Value} (hm : a.eval m = mv) (hx : a.eval x = kv) (hv : a.eval v = vv) (hr : (Instr.mapUpdate t mv kv vv).run Tryz.prog w = .ok () w') (hK : wpListIn F nF Tryz.prog ops Q rest (a.put o.dst undef) w') : wpListIn F nF Tryz.prog ops Q (o :: rest) a w := by
 refine wpListIn_plain hg fun K' hK' => ?_
 unfold Oper.wpIn
 refine ⟨by simp [Oper.about, hop], ?_⟩
 rw [Oper.semAt_plain F _ _ (by rw [hop]; intro c hc'; cases hc')]
 simp [execOp, hop, hm, hx, hv, hr, Result.andThen]
 exact hK' _ _ hK
def ArFun (w : World) (b m : Nat) (l : List (Int × Int)) : Prop := w.cell? ⟨b, 0, none⟩ = some (.map (some m)) ∧ w.heap[m]? = some (mObj l)
theorem closure_61 (x : Int) (b m : Nat) (l : List (Int × Int)) (w : World) (h : ArFun w b m l) :
  Calls Tryz.prog 61 #[.int .i64 x, .pointer (some ⟨b, 0, none⟩)] w fun ev w' => ev = .returned (.int .i64 ((mGet l x).getD 0)) ∧ w' = w := by
 obtain ⟨h1, h2⟩ := h
 have hr := lookup_run h2 x false
 simp only [Bool.false_eq_true, if_false] at hr
 go_enter Tryz.func61, Tryz.ntmps61
 go_wp2_with (at_lookup; refine wpList_look rfl _ _ _ _ rfl rfl rfl hr ?_)
 go_ret
 exact ⟨rfl, rfl⟩
end Go.Proofs.YtmmhedlagnjbiaaGreatDoor
namespace Go.Proofs.YtmmhedlagnjbiaaGreatDoor
open Go.RowKit Go.Pen Go.Shelf
open Go.ChangeMaps (setBlock)
attribute [local go_sem] Oper.semAt_some
def arStep (l : List (Int × Int)) (x : RT) : List (Int × Int) := if x.kind = 1 ∧ mGet l x.id = none then l ++ [(x.id, x.ar)] else l
def arOf (xs : List RT) : List (Int × Int) := xs.foldl arStep []
theorem arOf_snoc (xs : List RT) (x : RT) : arOf (xs ++ [x]) = arStep (arOf xs) x := by simp [arOf]
theorem setBlock_at {W : World} {b : Nat} {o o' : Obj} (h : W.heap[b]? = some o) : (setBlock W b o').heap[b]? = some o' := by
 obtain ⟨hl, -⟩ := Array.getElem?_eq_some_iff.1 h
 simp [setBlock, hl]
theorem setBlock_ne {W : World} {b g : Nat} {o' : Obj} (h : g ≠ b) : (setBlock W b o').heap[g]? = W.heap[g]? := by
 simp [setBlock, Ne.symm h]
theorem setBlock_size {W : World} {b : Nat} {o' : Obj} : (setBlock W b o').heap.size = W.heap.size := by simp [setBlock]
theorem setBlock_below {w W : World} {b : Nat} {o' : Obj} (h : Below w.heap.size w W) (hb : w.heap.size ≤ b) : Below w.heap.size w (setBlock W b o') :=
 h.grown (row := some b) ⟨rfl, rfl, rfl, by simp [setBlock], fun i _ hi => setBlock_ne (fun e => hi (by rw [e]))⟩ h.size (fun k e => by cases e; exact hb)
theorem ar_put {w W W0 : World} {H : Nat} {pre : List RPart} {x : RPart} (hH : w.heap.size ≤ H + 1) (h0 : H + 1 < W0.heap.size) (i1 : W.heap[H + 1]? = some (mObj (arOf (pre.map RPart.r)))) (i2 : W.heap[H + 1 + 1]? = some (.cells #[.map (some (H + 1))] 99 (0, 0)))
  (i5 : Below w.heap.size w W) (i6 : W0.heap.size ≤ W.heap.size) (hk : x.r.kind = 1) (hg : mGet (arOf (pre.map RPart.r)) x.r.id = none) :
  KeepsFrom W0.heap.size W (setBlock W (H + 1) (mObj (arOf (pre.map RPart.r) ++ [(x.r.id, x.r.ar)]))) ∧ KpS (fun _ => False) W (setBlock W (H + 1) (mObj (arOf (pre.map RPart.r) ++ [(x.r.id, x.r.ar)]))) ∧
   (setBlock W (H + 1) (mObj (arOf (pre.map RPart.r) ++ [(x.r.id, x.r.ar)]))).heap[H + 1]? = some (mObj (arOf ((pre ++ [x]).map RPart.r))) ∧ (setBlock W (H + 1) (mObj (arOf (pre.map RPart.r) ++ [(x.r.id, x.r.ar)]))).heap[H + 1 + 1]? = some (.cells #[.map (some (H + 1))] 99 (0, 0)) ∧
   Below w.heap.size w (setBlock W (H + 1) (mObj (arOf (pre.map RPart.r) ++ [(x.r.id, x.r.ar)]))) ∧ W0.heap.size ≤ (setBlock W (H + 1) (mObj (arOf (pre.map RPart.r) ++ [(x.r.id, x.r.ar)]))).heap.size := by
 refine ⟨⟨by rw [setBlock_size]; exact Nat.le_refl _, fun k o hB hk' _ => by rw [setBlock_ne (by omega)]; exact hk'⟩, ⟨by rw [setBlock_size]; exact Nat.le_refl _, fun g c t f hg' _ => ?_⟩, ?_, ?_, setBlock_below i5 hH, by rw [setBlock_size]; exact i6⟩
 ·rw [setBlock_ne]
  ·exact hg'
  ·rintro rfl
   rw [i1] at hg'
   cases hg'
 ·rw [List.map_append, List.map_singleton, arOf_snoc, arStep, if_pos ⟨hk, hg⟩]
  exact setBlock_at i1
 ·rw [setBlock_ne (by omega)]; exact i2
theorem arities_34 (r : RT) (cv kv : Value) (w : World) (hat : r.On (fun g => g < w.heap.size) w cv kv) :
  Calls Tryz.prog 34 #[r.agg cv kv] w fun ev w' => ∃ b m, ev = .returned (.func (.func 61) #[] #[.pointer (some ⟨b, 0, none⟩)]) ∧ ArFun w' b m (arOf r.pre) ∧ w.heap.size ≤ b ∧ w.heap.size ≤ m ∧ Below w.heap.size w w' := by
 obtain ⟨F, eF⟩ : ∃ F, F = Fence.wide := ⟨_, rfl⟩
 have hd : F.depth = none := by rw [eF]; rfl
 have hF : ∀ f, F.fn f := fun f => by rw [eF]; trivial
 have hro : F.round = none := by rw [eF]; rfl
 obtain ⟨n, hn⟩ : ∃ n : Nat, 4 ≤ n := ⟨4, Nat.le_refl _⟩
 refine (callsIn_wide (n := n)).1 ?_
 rw [← eF]
 clear eF
 have h1 : 1 ≤ n := by omega
 have hdd : ∀ k : Nat, (F.depth.isSome = true → 1 ≤ k) := fun k h => by rw [hd] at h; cases h
 have hp := fun W => rparts_35 F (n - 1) (hF 35) hro r cv kv W
 unfold RT.agg RT.cells at hp
 have HP := Lib.hid hp
 have HAT := Lib.hid hat
 clear hp hat
 have hmm := @run_makeMap Tryz.prog
 unfold RT.agg
 refine callsIn_of_wp_marks Tryz.func34 rfl (hF 34) ?_ hro
 simp only [Tryz.ntmps34, List.size_toArray, List.length_cons, List.length_nil, Nat.reduceAdd, Nat.reduceSub, Array.replicate_succ, Array.replicate_zero, List.push_toArray, List.append_toArray, List.nil_append, List.cons_append]
 gi_wp2_with (gi_at_call 35; refine (HP.out _).mono ?_; rintro ev w' ⟨rfl, rfl⟩)
 obtain ⟨H, eH⟩ : ∃ H, H = w.heap.size := ⟨_, rfl⟩
 obtain ⟨W0, hW0⟩ : ∃ W0, W0 = (((w.alloc (.cells #[.int .u8 r.kind, .int .i64 r.ar, .int .i64 r.id, .slice none 0 0, cv, .slice none 0 0, .slice none 0 0, .slice none 0 0, .slice none 0 0, .slice none 0 0, .int .i64 0, .int .i64 0, kv] 56)).alloc (.map #[] 0)).alloc (.cells #[.map (some (H + 1))] 99)).alloc (.cells #[.int .u8 r.kind, .int .i64 r.ar, .int .i64 r.id, .slice none 0 0, cv, .slice none 0 0, .slice none 0 0, .slice none 0 0, .slice none 0 0, .slice none 0 0, .int .i64 0, .int .i64 0, kv] 56) := ⟨_, rfl⟩
 have hs0 : W0.heap.size = H + 4 := by rw [hW0, eH]; simp
 have hb0 : Below w.heap.size w W0 := by rw [hW0]; exact ((((Below.refl _ _).alloc (Nat.le_refl _) _).alloc (by simp) _).alloc (by simp; omega) _).alloc (by simp; omega) _
 have r1 : W0.heap[H + 1]? = some (mObj []) := by
  rw [hW0, Below.heap_alloc _ _ _ (by simp; omega), Below.heap_alloc _ _ _ (by simp; omega)]
  have h := World.alloc_heap_new (w.alloc (.cells #[.int .u8 r.kind, .int .i64 r.ar, .int .i64 r.id, .slice none 0 0, cv, .slice none 0 0, .slice none 0 0, .slice none 0 0, .slice none 0 0, .slice none 0 0, .int .i64 0, .int .i64 0, kv] 56)) (.map #[] 0)
  rw [World.size_alloc, ← eH] at h
  exact h
 have r2 : W0.heap[H + 1 + 1]? = some (.cells #[.map (some (H + 1))] 99 (0, 0)) := by
  rw [hW0, Below.heap_alloc _ _ _ (by simp; omega)]
  have h := heap_alloc_new ((w.alloc (.cells #[.int .u8 r.kind, .int .i64 r.ar, .int .i64 r.id, .slice none 0 0, cv, .slice none 0 0, .slice none 0 0, .slice none 0 0, .slice none 0 0, .slice none 0 0, .int .i64 0, .int .i64 0, kv] 56)).alloc (.map #[] 0)) (.cells #[.map (some (H + 1))] 99)
  rw [World.size_alloc, World.size_alloc, ← eH] at h
  exact h
 have r3 : W0.heap[H + 1 + 1 + 1]? = some (.cells #[.int .u8 r.kind, .int .i64 r.ar, .int .i64 r.id, .slice none 0 0, cv, .slice none 0 0, .slice none 0 0, .slice none 0 0, .slice none 0 0, .slice none 0 0, .int .i64 0, .int .i64 0, kv] 56 (0, 0)) := by
  rw [hW0]
  have h := heap_alloc_new (((w.alloc (.cells #[.int .u8 r.kind, .int .i64 r.ar, .int .i64 r.id, .slice none 0 0, cv, .slice none 0 0, .slice none 0 0, .slice none 0 0, .slice none 0 0, .slice none 0 0, .int .i64 0, .int .i64 0, kv] 56)).alloc (.map #[] 0)).alloc (.cells #[.map (some (H + 1))] 99)) (.cells #[.int .u8 r.kind, .int .i64 r.ar, .int .i64 r.id, .slice none 0 0, cv, .slice none 0 0, .slice none 0 0, .slice none 0 0, .slice none 0 0, .slice none 0 0, .int .i64 0, .int .i64 0, kv] 56)
  rw [World.size_alloc, World.size_alloc, World.size_alloc, ← eH] at h
  exact h
 rw [← eH, ← hW0]
 have HS0 := Lib.hid hs0
 have HB0 := Lib.hid hb0
 have EH := Lib.hid eH
 have R1 := Lib.hid r1
 have R2 := Lib.hid r2
 have R3 := Lib.hid r3
 clear hW0 hs0 hb0 eH r1 r2 r3
 refine wpIn_rangeFunc_ownH hro h1 (gf := 62) (lb := #[.pointer (some ⟨H + 1 + 1 + 1, 0, none⟩)]) rfl (hF 62) (enters_of Tryz.func62 (by kernel_rfl) rfl)
  (rparts_stops F hd (n - 1) (hF 62) (hF 63) (hF 64) (hF 65) (hF 95) hro (H + 1 + 1 + 1) (fun _ => False) r cv kv W0 ?kc ?sl ?on) (fun h k => h.trans k) ?kb (Below.refl _ _) (fun _ => rfl)
  (fun pre W => W.heap[H + 1]? = some (mObj (arOf (pre.map RPart.r))) ∧ W.heap[H + 1 + 1]? = some (.cells #[.map (some (H + 1))] 99 (0, 0)) ∧ Below w.heap.size w W ∧ W0.heap.size ≤ W.heap.size)
  (fun _ _ _ => False)
  ?oi ?oix ⟨R1.out, R2.out, HB0.out, Nat.le_refl _⟩
  (fun x a' W => ∃ Bx, W0.heap.size ≤ Bx ∧ W.heap[Bx]? = some (.cells #[.int .u8 x.r.kind, .int .i64 x.r.ar, .int .i64 x.r.id, .slice none 0 0, .slice x.ca x.cn x.cc, .slice none 0 0, .slice none 0 0, .slice none 0 0, .slice none 0 0, .slice none 0 0, .int .i64 0, .int .i64 0, .slice x.ka x.kn x.kc] 56 (0, 0)) ∧ a' = { tmps := #[.agg #[.int .u8 r.kind, .int .i64 r.ar, .int .i64 r.id, .slice none 0 0, cv, .slice none 0 0, .slice none 0 0, .slice none 0 0, .slice none 0 0, .slice none 0 0, .int .i64 0, .int .i64 0, kv], .pointer (some ⟨H, 0, none⟩), .nilFunc, .pointer (some ⟨H + 1 + 1, 0, none⟩), .pointer (some ⟨Bx, 0, none⟩), undef, undef, .map (some (H + 1)), .agg #[.int .u8 r.kind, .int .i64 r.ar, .int .i64 r.id, .slice none 0 0, cv, .slice none 0 0, .slice none 0 0, .slice none 0 0, .slice none 0 0, .slice none 0 0, .int .i64 0, .int .i64 0, kv], .func (.func 62) #[] #[.pointer (some ⟨H + 1 + 1 + 1, 0, none⟩)], .agg #[.int .u8 x.r.kind, .int .i64 x.r.ar, .int .i64 x.r.id, .slice none 0 0, .slice x.ca x.cn x.cc, .slice none 0 0, .slice none 0 0, .slice none 0 0, .slice none 0 0, .slice none 0 0, .int .i64 0, .int .i64 0, .slice x.ka x.kn x.kc], undef, undef, undef, undef, undef, undef, undef, undef, undef, undef, undef, undef, undef, undef, undef, undef, undef, undef, undef, undef], defers := [] }) ?ax ?assign ?body ?done ?stop
 case kc =>
  exact ⟨cell_of_heap R3.out rfl, cell_of_heap R3.out rfl, cell_of_heap R3.out rfl, cell_of_heap R3.out rfl, cell_of_heap R3.out rfl, cell_of_heap R3.out rfl, cell_of_heap R3.out rfl, cell_of_heap R3.out rfl, cell_of_heap R3.out rfl, cell_of_heap R3.out rfl, cell_of_heap R3.out rfl, cell_of_heap R3.out rfl, cell_of_heap R3.out rfl⟩
 case sl => exact fun g hg => hg.elim
 case on => exact (HAT.out.below HB0.out).wide fun g hg h => h
 case kb =>
  intro W l' oo oo' _ hl hc _
  exact kps_putObj hl hc
 case oi =>
  intro pre W W' row hI hg hr
  obtain ⟨i1, i2, i5, i6⟩ := hI
  have hs := HS0.out
  have hh := EH.out
  exact ⟨(hg.block _ (lt_of_heap i1) fun er => by have := (hr _ er.symm).1; omega).trans i1, (hg.block _ (lt_of_heap i2) fun er => by have := (hr _ er.symm).1; omega).trans i2, i5.grown hg i5.size fun g er => by (have := (hr g er).1; omega), Nat.le_trans i6 hg.size⟩
 case oix => exact fun c pre W W' row hI _ _ => hI
 case ax =>
  intro x a' _ W W' row hI hg hr
  obtain ⟨Bx, b1, b2, b3⟩ := hI
  refine ⟨Bx, b1, (hg.block _ (lt_of_heap b2) fun er => ?_).trans b2, b3⟩
  obtain ⟨-, o, ho, hc⟩ := hr _ er.symm
  rw [b2] at ho
  cases ho
  cases hc
 case assign =>
  intro l pre x W K hI hK
  unfold RPart.encs RT.agg
  gi_wp2
  obtain ⟨i1, i2, i5, i6⟩ := hI
  exact hK _ _ ((KeepsOthers.alloc _ _).from _) (KpS.alloc _ _ _) ⟨(Below.heap_alloc _ _ _ (lt_of_heap i1)).trans i1, (Below.heap_alloc _ _ _ (lt_of_heap i2)).trans i2, i5.alloc i5.size _, by (rw [World.size_alloc]; omega)⟩ ⟨W.heap.size, i6, heap_alloc_new _ _, rfl⟩
 case body =>
  intro l pre x a' W hl hlr hI hA hlt
  obtain ⟨i1, i2, i5, i6⟩ := hI
  obtain ⟨Bx, b1, b2, rfl⟩ := hA
  have hs := HS0.out
  have hh := EH.out
  have n0 : W.cell? ⟨H + 1 + 1, 0, none⟩ = some (.map (some (H + 1))) := cell_of_heap i2 rfl
  have x0 : W.cell? ⟨Bx, 0, none⟩ = some (.int .u8 x.r.kind) := cell_of_heap b2 rfl
  have x1 : W.cell? ⟨Bx, 1, none⟩ = some (.int .i64 x.r.ar) := cell_of_heap b2 rfl
  have x2 : W.cell? ⟨Bx, 2, none⟩ = some (.int .i64 x.r.id) := cell_of_heap b2 rfl
  have hlk := lookup_run i1 x.r.id true
  have hup := fun h => update_run i1 (x := x.r.id) h x.r.ar
  have hend := ar_put (x := x) (W0 := W0) (by omega) (by omega) i1 i2 i5 i6
  have hkeep : KeepsFrom W0.heap.size W W ∧ KpS (fun _ => False) W W := ⟨KeepsFrom.refl _ _, KpS.refl _ _⟩
  obtain ⟨p, hp⟩ : ∃ p, p = mGet (arOf (pre.map RPart.r)) x.r.id := ⟨_, rfl⟩
  have hcon : x.r.kind = 1 → p = none → False ∨ True := fun _ _ => .inr trivial
  have hend2 : ¬ (x.r.kind = 1 ∧ p = none) → arOf ((pre ++ [x]).map RPart.r) = arOf (pre.map RPart.r) := fun h => by
   rw [List.map_append, List.map_singleton, arOf_snoc, arStep, if_neg (by rw [← hp]; exact h)]
  rw [← hp] at hlk hup hend
  have HUP := Lib.hid hup
  have HEND := Lib.hid hend
  have HEND2 := Lib.hid hend2
  have HKEEP := Lib.hid hkeep
  have I1 := Lib.hid i1
  have I2 := Lib.hid i2
  have I5 := Lib.hid i5
  clear hup hend hend2 hkeep i1 i2 i5 b2 hp hcon hs hh
  simp only [if_true] at hlk
  cases p with
  | none =>
   by_cases hk : x.r.kind = 1
   ·have hu := HUP.out rfl
    have H3 := Lib.hid (HEND.out hk rfl)
    gi_wp2_with (first | (gi_at_lookup; refine wpListIn_look rfl _ _ _ _ rfl rfl rfl hlk ?_) | (gi_at_mapUpdate; refine wpListIn_put rfl _ _ _ _ rfl rfl rfl rfl hu ?_))
    exact H3.out
   ·gi_wp2_with (gi_at_lookup; refine wpListIn_look rfl _ _ _ _ rfl rfl rfl hlk ?_)
    exact ⟨HKEEP.out.1, HKEEP.out.2, by rw [HEND2.out (fun h => hk h.1)]; exact I1.out, I2.out, I5.out, i6⟩
  | some v =>
   gi_wp2_with (gi_at_lookup; refine wpListIn_look rfl _ _ _ _ rfl rfl rfl hlk ?_)
   all_goals exact ⟨HKEEP.out.1, HKEEP.out.2, by rw [HEND2.out (fun h => by cases h.2)]; exact I1.out, I2.out, I5.out, i6⟩
 case done =>
  intro D xs W hD hS hI hK
  obtain ⟨i1, i2, i5, i6⟩ := hI
  rw [hS] at i1
  have hs := HS0.out
  have hh := EH.out
  gi_wp2
  refine ⟨by simp, .inl ⟨_, _, rfl, run_takeDeferred hK, ?_⟩⟩
  refine ⟨_, by simp [results, Tryz.f34, go_sem], H + 1 + 1, H + 1, rfl, ⟨?_, ?_⟩, by omega, by omega, ?_⟩
  ·exact cell_kept (cell_of_heap i2 rfl) (grownBy_putObj' _ D (.deferred none)) (fun r er => by cases er; exact ⟨_, hK, rfl⟩)
  ·have hne : D ≠ H + 1 := by omega
   exact ((grownBy_putObj' W D (.deferred none)).block _ (lt_of_heap i1) (fun e => by cases e; omega)).trans i1
  ·exact i5.trans (belowK_b (w := W0) (by omega) _ D _ _ hD hK rfl rfl)
 case stop => exact fun D c pre W _ _ hI _ => hI.elim
end Go.Proofs.YtmmhedlagnjbiaaGreatDoor
