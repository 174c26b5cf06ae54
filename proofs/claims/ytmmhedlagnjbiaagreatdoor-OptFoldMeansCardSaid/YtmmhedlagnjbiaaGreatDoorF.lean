import Derived.Test.YtmmhedlagnjbiaaGreatDoorBase
import Derived.RangeFuncNested
import Derived.RangeFuncBound
import Derived.RangeFuncCalls
import Derived.RangeFuncLeaves
import Derived.Shelf.Abstract
import Derived.Shelf.RegionOpen
import Derived.OwnWalkIn
import Derived.TacticsInMore
import Derived.LoopNIn
import Derived.LoopIn
import Derived.Laws.EntriesVeiled
/- our texts, shortened by program (pack.py) -/
set_option maxRecDepth 100000
set_option maxHeartbeats 1000000
namespace Go.Proofs.YtmmhedlagnjbiaaGreatDoor
open Go.RowKit Go.Pen Go.Shelf
attribute [local go_sem] Oper.semAt_some
structure Part where
 deep : Nat
 e : ET
 a : Option Addr
 c : Nat
 fit : e.fits
def Part.core (p : Part) : Nat × ET := (p.deep, p.e)
def Part.kv (p : Part) : Value := .slice p.a p.e.kids.length p.c
def Part.encs (p : Part) : Array Value := #[.int .i64 p.deep, p.e.agg p.kv]
def KpS (S : Nat → Prop) (W W' : World) : Prop := W.heap.size ≤ W'.heap.size ∧ ∀ (g : Nat) (c : Array Value) (t : TypeId) (f : Nat × Nat), W.heap[g]? = some (.cells c t f) → ¬ S g → W'.heap[g]? = some (.cells c t f)
theorem KpS.refl (S : Nat → Prop) (W : World) : KpS S W W := ⟨Nat.le_refl _, fun _ _ _ _ h _ => h⟩
theorem KpS.trans {S : Nat → Prop} {A B C : World} (h : KpS S A B) (k : KpS S B C) : KpS S A C := ⟨Nat.le_trans h.1 k.1, fun g c t f hg hn => k.2 g c t f (h.2 g c t f hg hn) hn⟩
theorem KpS.alloc (S : Nat → Prop) (W : World) (o : Obj) : KpS S W (W.alloc o) := ⟨by simp, fun g c t f hg _ => (Below.heap_alloc _ _ _ (lt_of_heap hg)).trans hg⟩
theorem cells_of_cell {w : World} {a : Addr} {v : Value} (h : w.cell? a = some v) : ∃ c t f, w.heap[a.block]? = some (.cells c t f) := by
 unfold World.cell? at h
 split at h <;> simp_all
theorem KpS.cell {S : Nat → Prop} {W W' : World} (h : KpS S W W') {b o : Nat} {v : Value} (hc : W.cell? ⟨b, o, none⟩ = some v) (hb : ¬ S b) : W'.cell? ⟨b, o, none⟩ = some v := by
 obtain ⟨c, t, f, hg⟩ := cells_of_cell hc
 exact cell_keep1 hc fun _ => (h.2 b c t f hg hb).trans hg.symm
theorem ET.On.kps {S : Nat → Prop} {W W' : World} (h : KpS S W W') : ∀ {e : ET} {v : Value}, e.On (fun g => ¬ S g) W v → e.On (fun g => ¬ S g) W' v := by
 intro e
 refine ET.ind (C := fun e => ∀ {v : Value}, e.On (fun g => ¬ S g) W v → e.On (fun g => ¬ S g) W' v) (fun o c d ks ih v hh => ?_) e
 rw [ET.On.iff] at hh ⊢
 obtain ⟨a, cc, hv, hn, hh⟩ := hh
 refine ⟨a, cc, hv, hn, fun hne => ?_⟩
 obtain ⟨b, off, ha, hS, hh⟩ := hh hne
 refine ⟨b, off, ha, hS, ET.Ons.mk fun i k hk => ?_⟩
 obtain ⟨kv, ⟨h0, h1, h2, h3, h4, h5, h6⟩, h7⟩ := hh.get hk
 exact ⟨kv, ⟨h.cell h0 hS, h.cell h1 hS, h.cell h2 hS, h.cell h3 hS, h.cell h4 hS, h.cell h5 hS, h.cell h6 hS⟩, ih k (List.mem_of_getElem? hk) h7⟩
theorem room_of_none {F : Fence} (hd : F.depth = none) (k : Nat) : F.room k := fun d h => by rw [hd] at h; cases h
theorem RoundIn.anyDepth {F : Fence} (hd : F.depth = none) {m m' : Nat} {P : Program} {l : Nat} {f : FuncId} {tmps : Array Value} {assign body : Code} {w : World} {R : Ending → World → Prop}
  (h : RoundIn F m P l f tmps assign body w R) : RoundIn F m' P l f tmps assign body w R := ⟨h.1, fun c cs _ => h.2 c cs (room_of_none hd _)⟩
theorem YieldAt.anyDepth {F : Fence} (hd : F.depth = none) {m : Nat} (m' : Nat) {P : Program} {l : Nat} {args : Array Value} {W : World} {R : Ending → World → Prop} (h : YieldAt F m P l args W R) : YieldAt F m' P l args W R := by
 obtain ⟨fn, tmps, assign, body, hy, hR⟩ := h
 exact ⟨fn, tmps, assign, body, hy, RoundIn.anyDepth hd hR⟩
theorem ET.pres_take {deep : Nat} : ∀ (ks : List ET) (i : Nat) (k : ET), ks[i]? = some k → ET.pres (ks.take (i + 1)) deep = ET.pres (ks.take i) deep ++ k.pre deep
 | [], i, k, h => by simp at h
 | x :: ks, 0, k, h => by simp at h; subst h; simp [ET.pres]
 | x :: ks, i + 1, k, h => by
  have := ET.pres_take (deep := deep) ks i k (by simpa using h)
  simp only [List.take_succ_cons, ET.pres]
  rw [this, List.append_assoc]
theorem ET.pres_pre {deep : Nat} : ∀ (ks : List ET) (i : Nat), ET.pres (ks.take i) deep <+: ET.pres ks deep
 | [], i => by simp [ET.pres]
 | x :: ks, 0 => by simp [ET.pres]
 | x :: ks, i + 1 => by
  simp only [List.take_succ_cons, ET.pres]
  exact (List.prefix_append_right_inj _).2 (ET.pres_pre ks i)
theorem walk_95 (F : Fence) (hd : F.depth = none) (h95 : F.fn 44) (hro : F.round = none) (l N Bw By : Nat) (S : Nat → Prop) (hBw : ¬ S Bw) (hBy : ¬ S By) (J Jx : List Part → World → Prop) (hJ : ∀ pre W o, J pre W → J pre (W.alloc o))
  (hY : ∀ m pre x W, J pre W → pre.length < N → YieldAt F m Tryz.prog l (Part.encs x) W fun e W' => (e = .returned (.bool true) ∧ J (pre ++ [x]) W' ∧ KpS S W W') ∨ (e = .returned (.bool false) ∧ Jx (pre ++ [x]) W')) :
  ∀ (e : ET) (kv : Value) (deep n : Nat) (pre : List Part) (W : World), deep ≤ 61 → e.fits → e.On (fun g => ¬ S g) W kv → (∀ g, W.heap.size ≤ g → ¬ S g) →
   W.cell? ⟨By, 0, none⟩ = some (.func (.yield l) #[] #[]) → W.cell? ⟨Bw, 0, none⟩ = some (.func (.func 44) #[] #[.pointer (some ⟨By, 0, none⟩), .pointer (some ⟨Bw, 0, none⟩)]) → J pre W → pre.length + (e.pre deep).length ≤ N →
   CallsIn F n Tryz.prog 44 #[e.agg kv, .int .i64 deep, .pointer (some ⟨By, 0, none⟩), .pointer (some ⟨Bw, 0, none⟩)] W fun ev W' =>
    (ev = .returned (.bool true) ∧ ∃ ps, ps.map Part.core = e.pre deep ∧ J (pre ++ ps) W' ∧ KpS S W W') ∨ (ev = .returned (.bool false) ∧ ∃ ps, ps.map Part.core <+: e.pre deep ∧ Jx (pre ++ ps) W') := by
 refine ET.ind fun o c d ks ih kv deep n pre W hdp hfit hat hfresh c1 c2 hj hN => ?_
 obtain ⟨a, cc, rfl, -, hks⟩ := ET.On.iff.1 hat
 have hdd : ∀ k : Nat, (F.depth.isSome = true → 1 ≤ k) := fun k h => by rw [hd] at h; cases h
 simp only [ET.kids] at *
 obtain ⟨W1, hW1⟩ : ∃ W1, W1 = W.alloc (.cells #[.int .u8 o, .slice a ks.length cc, .int .i64 c, .int .u8 d.kind, .bool d.bool, .int .i64 d.int, .string d.text] 27) := ⟨_, rfl⟩
 have hj1 : J pre W1 := by rw [hW1]; exact hJ _ _ _ hj
 have hlen : pre.length < N := by simp only [ET.pre, List.length_cons] at hN; omega
 obtain ⟨fn, tmps, assign, body, hy, hR⟩ := hY (n - 1) pre ⟨deep, .mk o c d ks, a, cc, hfit⟩ W1 hj1 hlen
 simp only [Part.encs, Part.kv, ET.agg, ET.op, ET.col, ET.lit, ET.kids] at hy
 have sBy : By < W.heap.size := World.block_lt_of_cell? W _ c1
 have sBw : Bw < W.heap.size := World.block_lt_of_cell? W _ c2
 have IH := Lib.hid ih
 have HY := Lib.hid hY
 have HJ := Lib.hid hJ
 have HKS := Lib.hid hks
 have HF := Lib.hid hfit
 have HFR := Lib.hid hfresh
 have C1 := Lib.hid c1
 have C2 := Lib.hid c2
 have HN := Lib.hid hN
 have HR := Lib.hid hR
 rw [hW1] at hy
 have HW1 := Lib.hid hW1
 clear ih hY hJ hks hfresh hat hN hR hW1 c2 hj hj1
 unfold ET.agg
 simp only [ET.op, ET.col, ET.lit]
 refine callsIn_of_wp Tryz.func44 rfl h95 ?_ hro
 simp only [Tryz.ntmps44, List.size_toArray, List.length_cons, List.length_nil, Nat.reduceAdd, Nat.reduceSub, Array.replicate_succ, Array.replicate_zero, List.push_toArray, List.append_toArray, List.nil_append, List.cons_append]
 gi_wp2_with fail
 obtain ⟨H, eH⟩ : ∃ H, H = W.heap.size := ⟨_, rfl⟩
 have hk01 : KpS S W W1 := by rw [HW1.out]; exact KpS.alloc _ _ _
 have e1 : W1.cell? ⟨H, 1, none⟩ = some (.slice a ks.length cc) := by rw [HW1.out, eH]; exact cell_of_heap (heap_alloc_new _ _) rfl
 have hSH : ¬ S H := HFR.out H (by rw [eH]; exact Nat.le_refl _)
 rw [← HW1.out, ← eH]
 have EH := Lib.hid eH
 clear eH
 refine HR.out.mono ?_
 rintro ev W2 (⟨rfl, hj2, hk2⟩ | ⟨rfl, hx2⟩)
 ·have hkk := hk01.trans hk2
  have e1' := hk2.cell e1 hSH
  have HJ2 := Lib.hid hj2
  have HKK := Lib.hid hkk
  clear hj2 hk2 hk01 hkk e1 hy HR
  by_cases h60 : deep ≤ 60
  ·obtain ⟨K, eK⟩ : ∃ K, K = ks.length := ⟨_, rfl⟩
   have hkl : K ≤ 140737488355328 := by
    have := HF.out
    simp only [ET.fits] at this
    rw [eK]; exact this.2.2.2.1
   rw [← eK] at e1' ⊢
   have EK := Lib.hid eK
   clear eK
   gi_wp2_with fail
   gi_loopw [19] (fun p wr => ∃ (i : Nat) (ps : List Part), i ≤ K ∧ p = .int .i64 i ∧ ps.map Part.core = (deep, ET.mk o c d ks) :: ET.pres (ks.take i) (deep + 1) ∧ J (pre ++ ps) wr ∧ KpS S W wr) (fun p wr => K - (intOf p).toNat)
   case atStart => exact ⟨0, _, Nat.zero_le _, rfl, by simp [Part.core, ET.pres], HJ2.out, HKK.out⟩
   case round =>
    obtain ⟨i, ps, hi, rfl, hps, hjr, hkr⟩ := hrel
    by_cases hlt : i < K
    ·obtain ⟨k, hk⟩ : ∃ k, ks[i]? = some k := ⟨ks[i]'(by rw [← EK.out]; exact hlt), List.getElem?_eq_getElem _⟩
     have hmem := List.mem_of_getElem? hk
     obtain ⟨b, off, rfl, hSb, hats⟩ := HKS.out (fun e => by rw [e] at hk; simp at hk)
     obtain ⟨kv, hkc, hkat⟩ := hats.get hk
     obtain ⟨a', c', rfl⟩ := hkat.slice
     obtain ⟨z0, z1, z2, z3, z4, z5, z6⟩ := hkc
     have z0 := hkr.cell z0 hSb
     have z1 := hkr.cell z1 hSb
     have z2 := hkr.cell z2 hSb
     have z3 := hkr.cell z3 hSb
     have z4 := hkr.cell z4 hSb
     have z5 := hkr.cell z5 hSb
     have z6 := hkr.cell z6 hSb
     have sB : b < wr.heap.size := World.block_lt_of_cell? wr _ z0
     have hw := hkr.cell C2.out hBw
     have sW : Bw < wr.heap.size := World.block_lt_of_cell? wr _ hw
     obtain ⟨W4, hW4⟩ : ∃ W4, W4 = wr.alloc (.cells #[.int .u8 k.op, .slice a' k.kids.length c', .int .i64 k.col, .int .u8 k.lit.kind, .bool k.lit.bool, .int .i64 k.lit.int, .string k.lit.text] 27) := ⟨_, rfl⟩
     have hk4 : KpS S wr W4 := by rw [hW4]; exact KpS.alloc _ _ _
     have hkW4 := hkr.trans hk4
     have hj4 : J (pre ++ ps) W4 := by rw [hW4]; exact HJ.out _ _ _ hjr
     have hpl : ps.length = (ET.pres (ks.take i) (deep + 1)).length + 1 := by have := congrArg List.length hps; simpa using this
     have htk := ET.pres_take (deep := deep + 1) ks i k hk
     have hpp := ET.pres_pre (deep := deep + 1) ks (i + 1)
     have hlen2 : (pre ++ ps).length + (k.pre (deep + 1)).length ≤ N := by
      have h1 := HN.out
      simp only [ET.pre, if_pos h60, List.length_cons] at h1
      have h2 := hpp.length_le
      rw [htk, List.length_append] at h2
      rw [List.length_append, hpl]
      omega
     have hfk : k.fits := by
      have := HF.out
      simp only [ET.fits] at this
      exact ET.fitss_iff.1 this.2.2.2.2 k hmem
     have hct := IH.out k hmem _ (deep + 1) (n - 1) (pre ++ ps) W4 (by omega) hfk (hkat.kps hkW4) (fun g hg => HFR.out g (Nat.le_trans hkW4.1 hg)) (hkW4.cell C1.out hBy) (hkW4.cell C2.out hBw) hj4 hlen2
     unfold ET.agg at hct
     rw [hW4, show ((deep + 1 : Nat) : Int) = (deep : Int) + 1 by omega] at hct
     have HCT := Lib.hid hct
     have HPS := Lib.hid hps
     have HK4 : Hid (KpS S W (wr.alloc (.cells #[.int .u8 k.op, .slice a' k.kids.length c', .int .i64 k.col, .int .u8 k.lit.kind, .bool k.lit.bool, .int .i64 k.lit.int, .string k.lit.text] 27))) := by rw [← hW4]; exact Lib.hid hkW4
     have HTK := Lib.hid htk
     have HPP := Lib.hid hpp
     clear hk hats hkat hjr hkr hW4 hk4 hkW4 hj4 hpl htk hpp hlen2 hfk hct hps
     gi_wp2_with fail
     refine HCT.out.mono ?_
     rintro ev W5 (⟨rfl, ps2, hp2, hj5, hk5⟩ | ⟨rfl, ps2, hp2, hx5⟩)
     ·have HJ5 := Lib.hid hj5
      have HK5 := Lib.hid (HK4.out.trans hk5)
      have HP2 := Lib.hid hp2
      clear hj5 hk5 hp2 HCT HK4 z0 z1 z2 z3 z4 z5 z6 hw
      gi_wp2_with fail
      go_roundw
      case rel =>
       refine ⟨i + 1, ps ++ ps2, by omega, by go_num, ?_, by rw [← List.append_assoc]; exact HJ5.out, HK5.out⟩
       rw [List.map_append, HPS.out, HP2.out, HTK.out]
       rfl
      case measure => simp [intOf]; omega
     ·clear HCT HK4 z0 z1 z2 z3 z4 z5 z6 hw
      gi_wp2_with fail
      go_ret
      refine .inr ⟨rfl, ps ++ ps2, ?_, by rw [← List.append_assoc]; exact hx5⟩
      rw [List.map_append, HPS.out]
      simp only [ET.pre, if_pos h60, List.cons_append]
      refine (List.prefix_cons_inj _).2 (List.IsPrefix.trans ?_ HPP.out)
      rw [HTK.out]
      exact (List.prefix_append_right_inj _).2 hp2
    ·obtain rfl : i = K := by omega
     have HPS := Lib.hid hps
     have HJR := Lib.hid hjr
     have HKR := Lib.hid hkr
     clear hps hjr hkr
     gi_wp2_with fail
     go_ret
     have ht : ks.take i = ks := List.take_of_length_le (by rw [EK.out]; exact Nat.le_refl _)
     refine .inl ⟨rfl, ps, ?_, HJR.out, HKR.out⟩
     rw [HPS.out, ht]
     simp [ET.pre, h60]
  ·gi_wp2_with fail
   go_ret
   refine .inl ⟨rfl, [⟨deep, .mk o c d ks, a, cc, HF.out⟩], ?_, HJ2.out, HKK.out⟩
   simp [Part.core, ET.pre, h60]
 ·gi_wp2_with fail
  go_ret
  refine .inr ⟨rfl, [⟨deep, .mk o c d ks, a, cc, HF.out⟩], ?_, hx2⟩
  simp [Part.core, ET.pre]
end Go.Proofs.YtmmhedlagnjbiaaGreatDoor
namespace Go.Proofs.YtmmhedlagnjbiaaGreatDoor
open Go.RowKit Go.Pen Go.Shelf
attribute [local go_sem] Oper.semAt_some
theorem parts_94 (F : Fence) (hd : F.depth = none) (n : Nat) (h94 : F.fn 43) (h95 : F.fn 44) (hro : F.round = none) (l Be : Nat) (S : Nat → Prop) (e : ET) (a : Option Addr) (cc : Nat) (hfit : e.fits) (J Jx : List Part → World → Prop) (hJ : ∀ pre W o, J pre W → J pre (W.alloc o))
  (hY : ∀ pre x W, J pre W → pre.length < (e.pre 1).length → YieldAt F (n - 1) Tryz.prog l (Part.encs x) W fun ev W' => (ev = .returned (.bool true) ∧ J (pre ++ [x]) W' ∧ KpS S W W') ∨ (ev = .returned (.bool false) ∧ Jx (pre ++ [x]) W'))
  (W : World) (hBe : KidCells W Be 0 e (.slice a e.kids.length cc)) (hfresh : ∀ g, W.heap.size ≤ g → ¬ S g) (hat : e.On (fun g => ¬ S g) W (.slice a e.kids.length cc)) (h0 : J [] W) :
  CallsIn F n Tryz.prog 43 #[.func (.yield l) #[] #[], .pointer (some ⟨Be, 0, none⟩)] W fun ev W' => (∃ v, ev = .returned v) ∧ ((∃ ps, ps.map Part.core = e.pre 1 ∧ J ps W') ∨ (∃ ps, ps.map Part.core <+: e.pre 1 ∧ Jx ps W')) := by
 have hdd : ∀ k : Nat, (F.depth.isSome = true → 1 ≤ k) := fun k h => by rw [hd] at h; cases h
 obtain ⟨W1, hW1⟩ : ∃ W1, W1 = W.alloc (.cells #[.func (.yield l) #[] #[]] 87) := ⟨_, rfl⟩
 obtain ⟨W2, hW2⟩ : ∃ W2, W2 = W1.alloc (.cells #[.func (.func 44) #[] #[.pointer (some ⟨W.heap.size, 0, none⟩), .pointer (some ⟨W.heap.size + 1, 0, none⟩)]] 61) := ⟨_, rfl⟩
 have hs1 : W1.heap.size = W.heap.size + 1 := by rw [hW1]; simp
 have k1 : KpS S W W1 := by rw [hW1]; exact KpS.alloc _ _ _
 have k2 : KpS S W1 W2 := by rw [hW2]; exact KpS.alloc _ _ _
 have k := k1.trans k2
 have c1 : W2.cell? ⟨W.heap.size, 0, none⟩ = some (.func (.yield l) #[] #[]) := k2.cell (by rw [hW1]; exact cell_of_heap (heap_alloc_new _ _) rfl) (hfresh _ (Nat.le_refl _))
 have c2 : W2.cell? ⟨W.heap.size + 1, 0, none⟩ = some (.func (.func 44) #[] #[.pointer (some ⟨W.heap.size, 0, none⟩), .pointer (some ⟨W.heap.size + 1, 0, none⟩)]) := by
  rw [hW2, ← hs1]; exact cell_of_heap (heap_alloc_new _ _) rfl
 have hj : J [] W2 := by rw [hW2, hW1]; exact hJ _ _ _ (hJ _ _ _ h0)
 have hct := walk_95 F hd h95 hro l (e.pre 1).length (W.heap.size + 1) W.heap.size S (hfresh _ (Nat.le_succ _)) (hfresh _ (Nat.le_refl _)) J Jx hJ (fun m pre x W hj hl => YieldAt.anyDepth hd m (hY pre x W hj hl)) e _ 1 (n - 1) [] W2 (by decide) hfit (hat.kps k) (fun g hg => hfresh g (Nat.le_trans k.1 hg)) c1 c2 hj (by simp)
 obtain ⟨z0, z1, z2, z3, z4, z5, z6⟩ := hBe
 have sB : Be < W.heap.size := World.block_lt_of_cell? W _ z0
 unfold ET.agg at hct
 rw [hW2, hW1, show ((1 : Nat) : Int) = 1 from rfl] at hct
 have HCT := Lib.hid hct
 clear hct hj c1 c2 k k1 k2 hs1 hW1 hW2 hat hY hJ h0 hfresh
 refine callsIn_of_wp Tryz.func43 rfl h94 ?_ hro
 simp only [Tryz.ntmps43, List.size_toArray, List.length_cons, List.length_nil, Nat.reduceAdd, Nat.reduceSub, Array.replicate_succ, Array.replicate_zero, List.push_toArray, List.append_toArray, List.nil_append, List.cons_append]
 gi_wp2_with fail
 refine HCT.out.mono ?_
 rintro ev W5 (⟨rfl, ps, hp, hj5, -⟩ | ⟨rfl, ps, hp, hx5⟩)
 ·gi_wp2_with fail
  go_end0
  exact ⟨⟨_, rfl⟩, .inl ⟨ps, hp, by simpa using hj5⟩⟩
 ·gi_wp2_with fail
  go_end0
  exact ⟨⟨_, rfl⟩, .inr ⟨ps, hp, by simpa using hx5⟩⟩
theorem parts_50 (F : Fence) (n : Nat) (h50 : F.fn 27) (hro : F.round = none) (e : ET) (a : Option Addr) (cc : Nat) (w : World) :
  CallsIn F n Tryz.prog 27 #[e.agg (.slice a e.kids.length cc)] w fun ev w' => ev = .returned (.func (.func 43) #[] #[.pointer (some ⟨w.heap.size, 0, none⟩)]) ∧ w' = w.alloc (.cells (e.cells (.slice a e.kids.length cc)).toArray 27) := by
 unfold ET.agg ET.cells
 refine callsIn_of_wp Tryz.func27 rfl h50 ?_ hro
 simp only [Tryz.ntmps27, List.size_toArray, List.length_cons, List.length_nil, Nat.reduceAdd, Nat.reduceSub, Array.replicate_succ, Array.replicate_zero, List.push_toArray, List.append_toArray, List.nil_append, List.cons_append]
 gi_wp2_with fail
 go_ret
 exact ⟨rfl, rfl⟩
theorem parts_stops (F : Fence) (hd : F.depth = none) (n : Nat) (h94 : F.fn 43) (h95 : F.fn 44) (hro : F.round = none) (Be : Nat) (S : Nat → Prop) (e : ET) (a : Option Addr) (cc : Nat) (hfit : e.fits) (w : World)
  (hBe : KidCells w Be 0 e (.slice a e.kids.length cc)) (hS : ∀ g, S g → g < w.heap.size) (hat : e.On (fun g => ¬ S g) w (.slice a e.kids.length cc)) :
  SeqStopsK F n Tryz.prog 43 #[.pointer (some ⟨Be, 0, none⟩)] Part.encs (KpS S) (fun ps => ps.map Part.core = e.pre 1) (fun ps => ps.map Part.core <+: e.pre 1) (e.pre 1).length w := fun l J Jx W hW hJ _ hY h0 =>
 parts_94 F hd n h94 h95 hro l Be S e a cc hfit J Jx (fun pre W' o hj => hJ pre W' _ none hj (World.grownBy_alloc W' o none) (fun r er => by cases er)) hY W (hBe.below hW) (fun g hg hs => by have := hS g hs; have := hW.size; omega) (hat.below hW) h0
end Go.Proofs.YtmmhedlagnjbiaaGreatDoor
