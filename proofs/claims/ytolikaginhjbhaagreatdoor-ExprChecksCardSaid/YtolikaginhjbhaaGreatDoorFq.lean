import Derived.Test.YtolikaginhjbhaaGreatDoorG
/- expr.parts, of parts of which something is known. -/
namespace Go.Proofs.YtolikaginhjbhaaGreatDoor
open Go.RowKit Go.Pen Go.Shelf
attribute [local go_sem] Oper.semAt_some

/-- a part that is handed over -/
structure PartQ (Q : ET → Prop) where
  deep : Nat
  e : ET
  a : Option Addr
  c : Nat
  fit : Q e
def PartQ.core {Q : ET → Prop} (p : PartQ Q) : Nat × ET := (p.deep, p.e)
def PartQ.kv {Q : ET → Prop} (p : PartQ Q) : Value := .slice p.a p.e.kids.length p.c
def PartQ.encs {Q : ET → Prop} (p : PartQ Q) : Array Value := #[.int .i64 p.deep, p.e.agg p.kv]

set_option maxRecDepth 100000 in
set_option maxHeartbeats 1000000 in
theorem walkQ_95 (Q : ET → Prop) (hQ : ∀ e, Q e → e.fits ∧ ∀ k ∈ e.kids, Q k) (F : Fence) (hd : F.depth = none) (h95 : F.fn 95) (hro : F.round = none) (l N Bw By : Nat) (S : Nat → Prop) (hBw : ¬ S Bw) (hBy : ¬ S By) (J Jx : List (PartQ Q) → World → Prop) (hJ : ∀ pre W o, J pre W → J pre (W.alloc o))
    (hY : ∀ m pre x W, J pre W → pre.length < N → YieldAt F m Tryz.prog l (PartQ.encs x) W fun e W' => (e = .returned (.bool true) ∧ J (pre ++ [x]) W' ∧ KpS S W W') ∨ (e = .returned (.bool false) ∧ Jx (pre ++ [x]) W')) :
    ∀ (e : ET) (kv : Value) (deep n : Nat) (pre : List (PartQ Q)) (W : World), deep ≤ 61 → Q e → e.On (fun g => ¬ S g) W kv → (∀ g, W.heap.size ≤ g → ¬ S g) →
      W.cell? ⟨By, 0, none⟩ = some (.func (.yield l) #[] #[]) → W.cell? ⟨Bw, 0, none⟩ = some (.func (.func 95) #[] #[.pointer (some ⟨By, 0, none⟩), .pointer (some ⟨Bw, 0, none⟩)]) → J pre W → pre.length + (e.pre deep).length ≤ N →
      CallsIn F n Tryz.prog 95 #[e.agg kv, .int .i64 deep, .pointer (some ⟨By, 0, none⟩), .pointer (some ⟨Bw, 0, none⟩)] W fun ev W' =>
        (ev = .returned (.bool true) ∧ ∃ ps, ps.map PartQ.core = e.pre deep ∧ J (pre ++ ps) W' ∧ KpS S W W') ∨ (ev = .returned (.bool false) ∧ ∃ ps, ps.map PartQ.core <+: e.pre deep ∧ Jx (pre ++ ps) W') := by
  refine ET.ind fun o c d ks ih kv deep n pre W hdp hfit hat hfresh c1 c2 hj hN => ?_
  obtain ⟨a, cc, rfl, -, hks⟩ := ET.On.iff.1 hat
  have hdd : ∀ k : Nat, (F.depth.isSome = true → 1 ≤ k) := fun k h => by rw [hd] at h; cases h
  simp only [ET.kids] at *
  obtain ⟨W1, hW1⟩ : ∃ W1, W1 = W.alloc (.cells #[.int .u8 o, .slice a ks.length cc, .int .i64 c, .int .u8 d.kind, .bool d.bool, .int .i64 d.int, .string d.text] 27) := ⟨_, rfl⟩
  have hj1 : J pre W1 := by rw [hW1]; exact hJ _ _ _ hj
  have hlen : pre.length < N := by simp only [ET.pre, List.length_cons] at hN; omega
  obtain ⟨fn, tmps, assign, body, hy, hR⟩ := hY (n - 1) pre ⟨deep, .mk o c d ks, a, cc, hfit⟩ W1 hj1 hlen
  simp only [PartQ.encs, PartQ.kv, ET.agg, ET.op, ET.col, ET.lit, ET.kids] at hy
  have sBy : By < W.heap.size := World.block_lt_of_cell? W _ c1
  have sBw : Bw < W.heap.size := World.block_lt_of_cell? W _ c2
  have IH := Lib.hid ih
  have HY := Lib.hid hY
  have HJ := Lib.hid hJ
  have HKS := Lib.hid hks
  have HF := Lib.hid hfit
  have HFR := Lib.hid hfresh
  have C1 := Lib.hid c1
  have C2 := Lib.hid c2
  have HN := Lib.hid hN
  have HR := Lib.hid hR
  rw [hW1] at hy
  have HW1 := Lib.hid hW1
  clear ih hY hJ hks hfresh hat hN hR hW1 c2 hj hj1
  unfold ET.agg
  simp only [ET.op, ET.col, ET.lit]
  refine callsIn_of_wp Tryz.func95 rfl h95 ?_ hro
  simp only [Tryz.ntmps95, List.size_toArray, List.length_cons, List.length_nil, Nat.reduceAdd, Nat.reduceSub, Array.replicate_succ, Array.replicate_zero, List.push_toArray, List.append_toArray, List.nil_append, List.cons_append]
  gi_wp2_with fail
  obtain ⟨H, eH⟩ : ∃ H, H = W.heap.size := ⟨_, rfl⟩
  have hk01 : KpS S W W1 := by rw [HW1.out]; exact KpS.alloc _ _ _
  have e1 : W1.cell? ⟨H, 1, none⟩ = some (.slice a ks.length cc) := by rw [HW1.out, eH]; exact cell_of_heap (heap_alloc_new _ _) rfl
  have hSH : ¬ S H := HFR.out H (by rw [eH]; exact Nat.le_refl _)
  rw [← HW1.out, ← eH]
  have EH := Lib.hid eH
  clear eH
  refine HR.out.mono ?_
  rintro ev W2 (⟨rfl, hj2, hk2⟩ | ⟨rfl, hx2⟩)
  · have hkk := hk01.trans hk2
    have e1' := hk2.cell e1 hSH
    have HJ2 := Lib.hid hj2
    have HKK := Lib.hid hkk
    clear hj2 hk2 hk01 hkk e1 hy HR
    by_cases h60 : deep ≤ 60
    · obtain ⟨K, eK⟩ : ∃ K, K = ks.length := ⟨_, rfl⟩
      have hkl : K ≤ 140737488355328 := by
        have := (hQ _ HF.out).1
        simp only [ET.fits] at this
        rw [eK]; exact this.2.2.2.1
      rw [← eK] at e1' ⊢
      have EK := Lib.hid eK
      clear eK
      gi_wp2_with fail
      gi_loopw [19] (fun p wr => ∃ (i : Nat) (ps : List (PartQ Q)), i ≤ K ∧ p = .int .i64 i ∧ ps.map PartQ.core = (deep, ET.mk o c d ks) :: ET.pres (ks.take i) (deep + 1) ∧ J (pre ++ ps) wr ∧ KpS S W wr) (fun p wr => K - (intOf p).toNat)
      case atStart => exact ⟨0, _, Nat.zero_le _, rfl, by simp [PartQ.core, ET.pres], HJ2.out, HKK.out⟩
      case round =>
        obtain ⟨i, ps, hi, rfl, hps, hjr, hkr⟩ := hrel
        by_cases hlt : i < K
        · obtain ⟨k, hk⟩ : ∃ k, ks[i]? = some k := ⟨ks[i]'(by rw [← EK.out]; exact hlt), List.getElem?_eq_getElem _⟩
          have hmem := List.mem_of_getElem? hk
          obtain ⟨b, off, rfl, hSb, hats⟩ := HKS.out (fun e => by rw [e] at hk; simp at hk)
          obtain ⟨kv, hkc, hkat⟩ := hats.get hk
          obtain ⟨a', c', rfl⟩ := hkat.slice
          obtain ⟨z0, z1, z2, z3, z4, z5, z6⟩ := hkc
          have z0 := hkr.cell z0 hSb
          have z1 := hkr.cell z1 hSb
          have z2 := hkr.cell z2 hSb
          have z3 := hkr.cell z3 hSb
          have z4 := hkr.cell z4 hSb
          have z5 := hkr.cell z5 hSb
          have z6 := hkr.cell z6 hSb
          have sB : b < wr.heap.size := World.block_lt_of_cell? wr _ z0
          have hw := hkr.cell C2.out hBw
          have sW : Bw < wr.heap.size := World.block_lt_of_cell? wr _ hw
          obtain ⟨W4, hW4⟩ : ∃ W4, W4 = wr.alloc (.cells #[.int .u8 k.op, .slice a' k.kids.length c', .int .i64 k.col, .int .u8 k.lit.kind, .bool k.lit.bool, .int .i64 k.lit.int, .string k.lit.text] 27) := ⟨_, rfl⟩
          have hk4 : KpS S wr W4 := by rw [hW4]; exact KpS.alloc _ _ _
          have hkW4 := hkr.trans hk4
          have hj4 : J (pre ++ ps) W4 := by rw [hW4]; exact HJ.out _ _ _ hjr
          have hpl : ps.length = (ET.pres (ks.take i) (deep + 1)).length + 1 := by have := congrArg List.length hps; simpa using this
          have htk := ET.pres_take (deep := deep + 1) ks i k hk
          have hpp := ET.pres_pre (deep := deep + 1) ks (i + 1)
          have hlen2 : (pre ++ ps).length + (k.pre (deep + 1)).length ≤ N := by
            have h1 := HN.out
            simp only [ET.pre, if_pos h60, List.length_cons] at h1
            have h2 := hpp.length_le
            rw [htk, List.length_append] at h2
            rw [List.length_append, hpl]
            omega
          have hfk : Q k := (hQ _ HF.out).2 k hmem
          have hct := IH.out k hmem _ (deep + 1) (n - 1) (pre ++ ps) W4 (by omega) hfk (hkat.kps hkW4) (fun g hg => HFR.out g (Nat.le_trans hkW4.1 hg)) (hkW4.cell C1.out hBy) (hkW4.cell C2.out hBw) hj4 hlen2
          unfold ET.agg at hct
          rw [hW4, show ((deep + 1 : Nat) : Int) = (deep : Int) + 1 by omega] at hct
          have HCT := Lib.hid hct
          have HPS := Lib.hid hps
          have HK4 : Hid (KpS S W (wr.alloc (.cells #[.int .u8 k.op, .slice a' k.kids.length c', .int .i64 k.col, .int .u8 k.lit.kind, .bool k.lit.bool, .int .i64 k.lit.int, .string k.lit.text] 27))) := by rw [← hW4]; exact Lib.hid hkW4
          have HTK := Lib.hid htk
          have HPP := Lib.hid hpp
          clear hk hats hkat hjr hkr hW4 hk4 hkW4 hj4 hpl htk hpp hlen2 hfk hct hps
          gi_wp2_with fail
          refine HCT.out.mono ?_
          rintro ev W5 (⟨rfl, ps2, hp2, hj5, hk5⟩ | ⟨rfl, ps2, hp2, hx5⟩)
          · have HJ5 := Lib.hid hj5
            have HK5 := Lib.hid (HK4.out.trans hk5)
            have HP2 := Lib.hid hp2
            clear hj5 hk5 hp2 HCT HK4 z0 z1 z2 z3 z4 z5 z6 hw
            gi_wp2_with fail
            go_roundw
            case rel =>
              refine ⟨i + 1, ps ++ ps2, by omega, by go_num, ?_, by rw [← List.append_assoc]; exact HJ5.out, HK5.out⟩
              rw [List.map_append, HPS.out, HP2.out, HTK.out]
              rfl
            case measure => simp [intOf]; omega
          · clear HCT HK4 z0 z1 z2 z3 z4 z5 z6 hw
            gi_wp2_with fail
            go_ret
            refine .inr ⟨rfl, ps ++ ps2, ?_, by rw [← List.append_assoc]; exact hx5⟩
            rw [List.map_append, HPS.out]
            simp only [ET.pre, if_pos h60, List.cons_append]
            refine (List.prefix_cons_inj _).2 (List.IsPrefix.trans ?_ HPP.out)
            rw [HTK.out]
            exact (List.prefix_append_right_inj _).2 hp2
        · obtain rfl : i = K := by omega
          have HPS := Lib.hid hps
          have HJR := Lib.hid hjr
          have HKR := Lib.hid hkr
          clear hps hjr hkr
          gi_wp2_with fail
          go_ret
          have ht : ks.take i = ks := List.take_of_length_le (by rw [EK.out]; exact Nat.le_refl _)
          refine .inl ⟨rfl, ps, ?_, HJR.out, HKR.out⟩
          rw [HPS.out, ht]
          simp [ET.pre, h60]
    · gi_wp2_with fail
      go_ret
      refine .inl ⟨rfl, [⟨deep, .mk o c d ks, a, cc, HF.out⟩], ?_, HJ2.out, HKK.out⟩
      simp [PartQ.core, ET.pre, h60]
  · gi_wp2_with fail
    go_ret
    refine .inr ⟨rfl, [⟨deep, .mk o c d ks, a, cc, HF.out⟩], ?_, hx2⟩
    simp [PartQ.core, ET.pre]
set_option maxRecDepth 100000 in
set_option maxHeartbeats 1000000 in
theorem partsQ_94 (Q : ET → Prop) (hQ : ∀ e, Q e → e.fits ∧ ∀ k ∈ e.kids, Q k) (F : Fence) (hd : F.depth = none) (n : Nat) (h94 : F.fn 94) (h95 : F.fn 95) (hro : F.round = none) (l Be : Nat) (S : Nat → Prop) (e : ET) (a : Option Addr) (cc : Nat) (hfit : Q e) (J Jx : List (PartQ Q) → World → Prop) (hJ : ∀ pre W o, J pre W → J pre (W.alloc o))
    (hY : ∀ pre x W, J pre W → pre.length < (e.pre 1).length → YieldAt F (n - 1) Tryz.prog l (PartQ.encs x) W fun ev W' => (ev = .returned (.bool true) ∧ J (pre ++ [x]) W' ∧ KpS S W W') ∨ (ev = .returned (.bool false) ∧ Jx (pre ++ [x]) W'))
    (W : World) (hBe : KidCells W Be 0 e (.slice a e.kids.length cc)) (hfresh : ∀ g, W.heap.size ≤ g → ¬ S g) (hat : e.On (fun g => ¬ S g) W (.slice a e.kids.length cc)) (h0 : J [] W) :
    CallsIn F n Tryz.prog 94 #[.func (.yield l) #[] #[], .pointer (some ⟨Be, 0, none⟩)] W fun ev W' => (∃ v, ev = .returned v) ∧ ((∃ ps, ps.map PartQ.core = e.pre 1 ∧ J ps W') ∨ (∃ ps, ps.map PartQ.core <+: e.pre 1 ∧ Jx ps W')) := by
  have hdd : ∀ k : Nat, (F.depth.isSome = true → 1 ≤ k) := fun k h => by rw [hd] at h; cases h
  obtain ⟨W1, hW1⟩ : ∃ W1, W1 = W.alloc (.cells #[.func (.yield l) #[] #[]] 151) := ⟨_, rfl⟩
  obtain ⟨W2, hW2⟩ : ∃ W2, W2 = W1.alloc (.cells #[.func (.func 95) #[] #[.pointer (some ⟨W.heap.size, 0, none⟩), .pointer (some ⟨W.heap.size + 1, 0, none⟩)]] 86) := ⟨_, rfl⟩
  have hs1 : W1.heap.size = W.heap.size + 1 := by rw [hW1]; simp
  have k1 : KpS S W W1 := by rw [hW1]; exact KpS.alloc _ _ _
  have k2 : KpS S W1 W2 := by rw [hW2]; exact KpS.alloc _ _ _
  have k := k1.trans k2
  have c1 : W2.cell? ⟨W.heap.size, 0, none⟩ = some (.func (.yield l) #[] #[]) := k2.cell (by rw [hW1]; exact cell_of_heap (heap_alloc_new _ _) rfl) (hfresh _ (Nat.le_refl _))
  have c2 : W2.cell? ⟨W.heap.size + 1, 0, none⟩ = some (.func (.func 95) #[] #[.pointer (some ⟨W.heap.size, 0, none⟩), .pointer (some ⟨W.heap.size + 1, 0, none⟩)]) := by
    rw [hW2, ← hs1]; exact cell_of_heap (heap_alloc_new _ _) rfl
  have hj : J [] W2 := by rw [hW2, hW1]; exact hJ _ _ _ (hJ _ _ _ h0)
  have hct := walkQ_95 Q hQ F hd h95 hro l (e.pre 1).length (W.heap.size + 1) W.heap.size S (hfresh _ (Nat.le_succ _)) (hfresh _ (Nat.le_refl _)) J Jx hJ (fun m pre x W hj hl => YieldAt.anyDepth hd m (hY pre x W hj hl)) e _ 1 (n - 1) [] W2 (by decide) hfit (hat.kps k) (fun g hg => hfresh g (Nat.le_trans k.1 hg)) c1 c2 hj (by simp)
  obtain ⟨z0, z1, z2, z3, z4, z5, z6⟩ := hBe
  have sB : Be < W.heap.size := World.block_lt_of_cell? W _ z0
  unfold ET.agg at hct
  rw [hW2, hW1, show ((1 : Nat) : Int) = 1 from rfl] at hct
  have HCT := Lib.hid hct
  clear hct hj c1 c2 k k1 k2 hs1 hW1 hW2 hat hY hJ h0 hfresh
  refine callsIn_of_wp Tryz.func94 rfl h94 ?_ hro
  simp only [Tryz.ntmps94, List.size_toArray, List.length_cons, List.length_nil, Nat.reduceAdd, Nat.reduceSub, Array.replicate_succ, Array.replicate_zero, List.push_toArray, List.append_toArray, List.nil_append, List.cons_append]
  gi_wp2_with fail
  refine HCT.out.mono ?_
  rintro ev W5 (⟨rfl, ps, hp, hj5, -⟩ | ⟨rfl, ps, hp, hx5⟩)
  · gi_wp2_with fail
    go_end0
    exact ⟨⟨_, rfl⟩, .inl ⟨ps, hp, by simpa using hj5⟩⟩
  · gi_wp2_with fail
    go_end0
    exact ⟨⟨_, rfl⟩, .inr ⟨ps, hp, by simpa using hx5⟩⟩

/-- expr.parts hands back a value that tells all parts, in their order; or some of them -/
theorem partsQ_stops (Q : ET → Prop) (hQ : ∀ e, Q e → e.fits ∧ ∀ k ∈ e.kids, Q k) (F : Fence) (hd : F.depth = none) (n : Nat) (h94 : F.fn 94) (h95 : F.fn 95) (hro : F.round = none) (Be : Nat) (S : Nat → Prop) (e : ET) (a : Option Addr) (cc : Nat) (hfit : Q e) (w : World)
    (hBe : KidCells w Be 0 e (.slice a e.kids.length cc)) (hS : ∀ g, S g → g < w.heap.size) (hat : e.On (fun g => ¬ S g) w (.slice a e.kids.length cc)) :
    SeqStopsK F n Tryz.prog 94 #[.pointer (some ⟨Be, 0, none⟩)] (PartQ.encs (Q := Q)) (KpS S) (fun ps => ps.map PartQ.core = e.pre 1) (fun ps => ps.map PartQ.core <+: e.pre 1) (e.pre 1).length w := fun l J Jx W hW hJ _ hY h0 =>
  partsQ_94 Q hQ F hd n h94 h95 hro l Be S e a cc hfit J Jx (fun pre W' o hj => hJ pre W' _ none hj (World.grownBy_alloc W' o none) (fun r er => by cases er)) hY W (hBe.below hW) (fun g hg hs => by have := hS g hs; have := hW.size; omega) (hat.below hW) h0
end Go.Proofs.YtolikaginhjbhaaGreatDoor
