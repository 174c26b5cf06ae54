import Derived.Test.YtmmhedlagnjbiaaGreatDoorOg
import Derived.Test.YtmmhedlagnjbiaaGreatDoorOh
import Derived.Deep.AppendLies
/- our texts, shortened by program (pack.py) -/
set_option maxRecDepth 100000
set_option maxHeartbeats 8000000
namespace Go.Proofs.YtmmhedlagnjbiaaGreatDoor
open Go.RowKit Go.Pen
attribute [local go_sem ↓] Go.wp_at_zero Go.wp_at_succ
attribute [local go_sem] Oper.semAt_some
def LRowC (ks : List ET) (base k : Nat) (v : Value) (wr : World) : Prop :=
 ∃ xs, wr.ownsRow base 27 7 v k xs ∧ (∀ (j : Nat) x, j < k → ks[j]? = some x → ∃ lo hi, base ≤ lo ∧ hi ≤ wr.heap.size ∧ (∀ g, v.ownBlock = some g → g < lo ∨ hi ≤ g) ∧ ElOnC (Btw lo hi) wr xs j x)
theorem lrowC_step {ks : List ET} {base : Nat} {wr w3 w4 w5 : World} {k : Nat} {v v' kv : Value} {x : ET} {xs : List Value} (sb : base ≤ wr.heap.size) (hown : wr.ownsRow base 27 7 v k xs)
  (hel : ∀ (j : Nat) x, j < k → ks[j]? = some x → ∃ lo hi, base ≤ lo ∧ hi ≤ wr.heap.size ∧ (∀ g, v.ownBlock = some g → g < lo ∨ hi ≤ g) ∧ ElOnC (Btw lo hi) wr xs j x) (hx : ks[k]? = some x)
  (h3 : Below wr.heap.size wr w3) (hat : x.OnC (Btw wr.heap.size w3.heap.size) w3 kv) (h4 : Below w3.heap.size w3 w4) (h5 : w5.ownsRow base 27 7 v' (k + 1) (xs ++ x.cells kv)) (hg : w4.grownBy w5 v.ownBlock) (hv' : ∀ g, v'.ownBlock = some g → v.ownBlock = some g ∨ w4.heap.size ≤ g) : LRowC ks base (k + 1) v' w5 := by
 have s3 := h3.size
 have s4 := h4.size
 have s5 := hg.size
 have hl := hown.1
 refine ⟨_, h5, fun j y hj hy => ?_⟩
 by_cases e : j < k
 ·obtain ⟨lo, hi, q1, q2, q3, hel⟩ := hel j y e hy
  refine ⟨lo, hi, q1, by omega, fun g hgv => ?_, (hel.below (h3.trans (h4.mono s3))).frame (fun _ h _ => h) fun g hS hgl => hg.block g hgl fun e => ?_⟩
  ·rcases hv' g hgv with h | h
   ·exact q3 g h
   ·right; omega
  ·have := q3 g e.symm
   have := hS.1
   have := hS.2
   omega
 ·obtain rfl : j = k := by omega
  rw [hx] at hy; cases hy
  refine ⟨wr.heap.size, w3.heap.size, sb, by omega, fun g hgv => ?_, kv, fun t z hz => ?_, (hat.below h4).frame (fun _ h _ => h) fun g hS hgl => hg.block g hgl fun e => ?_⟩
  ·rcases hv' g hgv with h | h
   ·left; exact (hown.lt g h).2
   ·right; omega
  ·rw [List.getElem?_append_right (by omega), show j * 7 + t - xs.length = t by omega]
   exact hz
  ·have := (hown.lt g e.symm).2
   have := hS.1
   omega
theorem lrowC_set {ks : List ET} {base k b o : Nat} {v x : Value} {w : World} (h : LRowC ks base k v w) (hb : b < base) : LRowC ks base k v (w.setCell ⟨b, o, none⟩ x) := by
 obtain ⟨xs, hown, hel⟩ := h
 have hs : (w.setCell ⟨b, o, none⟩ x).heap.size = w.heap.size := by simp [World.setCell]
 refine ⟨xs, ownsRow_frame hown fun g hg => heap_set_ne (by have := (hown.lt g hg).1; omega), fun j y hj hy => ?_⟩
 obtain ⟨lo, hi, q1, q2, q3, hel⟩ := hel j y hj hy
 refine ⟨lo, hi, q1, by rw [hs]; exact q2, q3, ?_⟩
 have := hel.frame (ys := []) (w' := w.setCell ⟨b, o, none⟩ x) (fun _ h _ => h) fun g hS _ => heap_set_ne (by have := hS.1; omega)
 rwa [List.append_nil] at this
def RLp (F : List ET) (o c : Int) (d : Dat) (bx : Array Value) (w : World) (H i : Nat) (sv : Value) (wr : World) : Prop :=
 LRowC F (H + 3) i sv wr ∧ wr.heap[H]? = some (.cells bx 27 (0, 0)) ∧ wr.heap[H + 1]? = some (.cells #[.int .u8 0, .slice none 0 0, .int .i64 0, .int .u8 0, .bool false, .int .i64 0, .string ⟨#[]⟩] 27 (0, 0)) ∧ wr.heap[H + 2]? = some (.cells #[.int .u8 o, sv, .int .i64 c, .int .u8 d.kind, .bool d.bool, .int .i64 d.int, .string d.text] 27 (0, 0)) ∧ Below w.heap.size w wr ∧ H + 3 ≤ wr.heap.size
theorem rf_step {F : List ET} {o c : Int} {d : Dat} {bx : Array Value} {w wr W : World} {H i : Nat} {sv v' : Value} (hl : LRowC F (H + 3) (i + 1) v' W) (hb : Below (H + 3) wr W) (h0 : wr.heap[H]? = some (.cells bx 27 (0, 0))) (h1 : wr.heap[H + 1]? = some (.cells #[.int .u8 0, .slice none 0 0, .int .i64 0, .int .u8 0, .bool false, .int .i64 0, .string ⟨#[]⟩] 27 (0, 0))) (h2 : wr.heap[H + 2]? = some (.cells #[.int .u8 o, sv, .int .i64 c, .int .u8 d.kind, .bool d.bool, .int .i64 d.int, .string d.text] 27 (0, 0))) (hbw : Below w.heap.size w wr) (hsz : H + 3 ≤ wr.heap.size) (eH : H = w.heap.size) :
  RLp F o c d bx w H (i + 1) v' (W.setCell ⟨H + 2, 1, none⟩ v') := by
 refine ⟨lrowC_set hl (by omega), (heap_set_ne (by omega)).trans ((hb.block H (by omega)).trans h0), (heap_set_ne (by omega)).trans ((hb.block (H + 1) (by omega)).trans h1), ?_, (hbw.trans (hb.mono (by omega))).setCell (p := ⟨H + 2, 1, none⟩) (by show w.heap.size ≤ H + 2; omega) _, by have := hb.size; simp [World.setCell]; omega⟩
 have h := heap_set_same (o := 1) (v := v') ((hb.block (H + 2) (by omega)).trans h2)
 simpa using h
theorem rstep_nil (o c : Int) (d : Dat) (S : Nat → Prop) (a : Option Addr) (cc : Nat) (w : World) (hat : (ET.mk o c d []).OnC S w (.slice a 0 cc)) :
  Calls Tryz.prog 32 #[(ET.mk o c d []).agg (.slice a 0 cc)] w (RStepPost (.mk o c d []) S w) := by
 have HON := Lib.hid hat
 clear hat
 unfold ET.agg
 simp only [ET.op, ET.col, ET.lit]
 go_enter Tryz.func32, Tryz.ntmps32
 go_wp2
 refine bodyPost_ret (results_row_tmp rfl _ _ (w.heap.size + 1) 27 _ (0, 0) _ rfl (two_at (Below.refl _ _)).2 Tryz.underlying27 rfl (by kernel_rfl)) rfl ?_
 exact rstep_no (x := .mk o c d []) (kv := .slice a 0 cc) rfl HON.out (two_below _ _ _)
def RFoldedOK (e : ET) : Prop := ∀ (deep : Nat) (kv : Value) (w : World), e.At w kv → e.fits → 1 ≤ deep → e.good okD deep = true → e.size ≤ 4000 →
 Calls Tryz.prog 20 #[e.agg kv] w fun ev w' => ∃ kv', ev = .returned ((e.fold stepR).agg kv') ∧ (e.fold stepR).OnC (Btw w.heap.size w'.heap.size) w' kv' ∧ Below w.heap.size w w'
def RStp (F : ET) (deep : Nat) (w : World) (H g : Nat) (wr : World) : Prop :=
 ∃ (o c : Int) (d : Dat) (ks : List ET) (a : Option Addr) (cc n : Nat), wr.heap[H + 2]? = some (.cells #[.int .u8 o, .slice a ks.length cc, .int .i64 c, .int .u8 d.kind, .bool d.bool, .int .i64 d.int, .string d.text] 27 (0, 0)) ∧ wr.heap[H + 1]? = some (.cells #[.int .u8 0, .slice none 0 0, .int .i64 0, .int .u8 0, .bool false, .int .i64 0, .string ⟨#[]⟩] 27 (0, 0)) ∧ (ET.mk o c d ks).OnC (Btw (H + 3) wr.heap.size) wr (.slice a ks.length cc) ∧
  (ET.mk o c d ks).good okD deep = true ∧ (ET.mk o c d ks).fits ∧ (ET.mk o c d ks).size ≤ 4000 ∧ (ET.mk o c d ks).size ≤ n ∧ loopS stepR n (.mk o c d ks) = F ∧ g = (ET.mk o c d ks).size ∧ Below w.heap.size w wr
theorem rfold_end {x : ET} {w w0 W : World} {H : Nat} {kv v0 v1 v2 v3 v4 v5 v6 : Value} (hon : x.OnC (Btw (H + 3) w0.heap.size) w0 kv) (hb : Below w0.heap.size w0 W) (eH : H = w.heap.size) (hw : Below w.heap.size w W) :
  x.OnC (Btw w.heap.size (setRow7 W (H + 1) v0 v1 v2 v3 v4 v5 v6).heap.size) (setRow7 W (H + 1) v0 v1 v2 v3 v4 v5 v6) kv ∧ Below w.heap.size w (setRow7 W (H + 1) v0 v1 v2 v3 v4 v5 v6) := by
 have hs := hb.size
 refine ⟨hon.frame (fun g hg _ => ?_) (fun g hg hgl => (setRow7_ne ?_).trans (hb.block g hgl)), setRow7_below hw (by omega)⟩
 ·rw [setRow7_size]
  exact ⟨by have := hg.1; omega, by have := hg.2; omega⟩
 ·have := hg.1; omega
theorem rfolded_20 : ∀ e : ET, RFoldedOK e := by
 refine ET.ind fun o c d ks ih deep kv w hat hfit hd1 hg hsz => ?_
 obtain ⟨i0, hi0, hz0, hz1, hz2⟩ := info_parts info27
 obtain ⟨a, cc, rfl, -, hks⟩ := ET.On.iff.1 hat.slt
 simp only [ET.kids] at hks ⊢
 have hx0 : (ET.mk o c d (ks.map (ET.fold stepR))).fits ∧ (ET.mk o c d (ks.map (ET.fold stepR))).good okD deep = true ∧ (ET.mk o c d (ks.map (ET.fold stepR))).size ≤ 4000 := fold_x0 coalOk_R hfit hg hsz
 have hlk := ET.sizes_len ks
 simp only [ET.size] at hsz
 obtain ⟨K, eK⟩ : ∃ K, K = ks.length := ⟨_, rfl⟩
 have hK : K ≤ 4000 := by omega
 have hih := fun (i : Nat) (k : ET) (hk : ks[i]? = some k) (W : World) (kv : Value) (hkat : k.At W kv) =>
  ih k (List.mem_of_getElem? hk) (deep + 1) kv W hkat (by simp only [ET.fits, ET.fitss_iff] at hfit; exact hfit.2.2.2.2 k (List.mem_of_getElem? hk)) (by omega) ((good_inv hg).2.2 k (List.mem_of_getElem? hk)) (by have := ET.sizes_mem (List.mem_of_getElem? hk); omega)
 obtain ⟨F, eF⟩ : ∃ F, F = (ET.mk o c d ks).fold stepR := ⟨_, rfl⟩
 have hF : loopS stepR (1 + ET.sizes (ks.map (ET.fold stepR))) (.mk o c d (ks.map (ET.fold stepR))) = F := by rw [eF]; simp only [ET.fold, ET.folds_map]
 rw [← eF]
 have HIH := Lib.hid hih
 have HF := Lib.hid hF
 have HX0 := Lib.hid hx0
 have HKS := Lib.hid hks
 have EK := Lib.hid eK
 obtain ⟨H, eH⟩ : ∃ H, H = w.heap.size := ⟨_, rfl⟩
 have EH := Lib.hid eH
 rw [show (ET.mk o c d ks).agg (.slice a ks.length cc) = .agg #[.int .u8 o, .slice a ks.length cc, .int .i64 c, .int .u8 d.kind, .bool d.bool, .int .i64 d.int, .string d.text] from rfl, ← eK]
 clear hih hF hx0 eK eH ih hat hfit hg hks hsz hlk eF
 go_enter Tryz.func20, Tryz.ntmps20
 go_wp2_with fail
 obtain ⟨w1, hw1⟩ : ∃ w1, w1 = ((w.alloc (.cells #[.int .u8 o, .slice a K cc, .int .i64 c, .int .u8 d.kind, .bool d.bool, .int .i64 d.int, .string d.text] 27)).alloc (.cells #[.int .u8 0, .slice none 0 0, .int .i64 0, .int .u8 0, .bool false, .int .i64 0, .string ⟨#[]⟩] 27)).alloc (.cells #[.int .u8 o, .slice none 0 0, .int .i64 c, .int .u8 d.kind, .bool d.bool, .int .i64 d.int, .string d.text] 27) := ⟨_, rfl⟩
 have hb1 : Below w.heap.size w w1 := by rw [hw1]; exact three_below _ _ _ _
 have ht := three_at (w := w) (w1 := w1) (a := .cells #[.int .u8 o, .slice a K cc, .int .i64 c, .int .u8 d.kind, .bool d.bool, .int .i64 d.int, .string d.text] 27) (b := .cells #[.int .u8 0, .slice none 0 0, .int .i64 0, .int .u8 0, .bool false, .int .i64 0, .string ⟨#[]⟩] 27) (c := .cells #[.int .u8 o, .slice none 0 0, .int .i64 c, .int .u8 d.kind, .bool d.bool, .int .i64 d.int, .string d.text] 27) (by rw [hw1]; exact Below.refl _ _)
 have hs1 : w1.heap.size = w.heap.size + 3 := by rw [hw1]; simp
 rw [← hw1]
 rw [show w.heap.size + 1 + 1 = w.heap.size + 2 from rfl]
 rw [← EH.out] at ht hs1 ⊢
 have HRL : Hid (RLp (ks.map (ET.fold stepR)) o c d #[.int .u8 o, .slice a K cc, .int .i64 c, .int .u8 d.kind, .bool d.bool, .int .i64 d.int, .string d.text] w H 0 (.slice none 0 0) w1) := Lib.hid ⟨⟨[], World.ownsRow_nil _ _ _ _, fun j x hj => by omega⟩, ht.1, ht.2.1, ht.2.2, hb1, by omega⟩
 clear hw1 hb1 ht hs1
 go_loopg [4] K (fun g s4 wr => ∃ (i : Nat) (sv : Value), i ≤ K ∧ g = K - i ∧ s4 = .int .i64 i ∧ RLp (ks.map (ET.fold stepR)) o c d #[.int .u8 o, .slice a K cc, .int .i64 c, .int .u8 d.kind, .bool d.bool, .int .i64 d.int, .string d.text] w H i sv wr)
 case atStart => exact ⟨0, _, Nat.zero_le _, rfl, rfl, HRL.out⟩
 case round =>
  obtain ⟨i, sv, hi, rfl, rfl, hlr, ht0, ht1, ht2, hbw, hsz⟩ := hrel
  have HT0 := Lib.hid ht0
  have HT1 := Lib.hid ht1
  have HT2 := Lib.hid ht2
  have HBW := Lib.hid hbw
  have HLR := Lib.hid hsz
  have HRO := Lib.hid hlr
  have y1 := cell_of_heap (o := 1) ht0 rfl
  clear ht0 ht1 ht2 hbw hsz hlr
  by_cases hlt : i < K
  ·obtain ⟨k, hk⟩ : ∃ k, ks[i]? = some k := ⟨ks[i]'(by rw [← EK.out]; exact hlt), List.getElem?_eq_getElem _⟩
   obtain ⟨b, off, rfl, ⟨-, hblt⟩, hats⟩ := HKS.out (fun e => by rw [e] at hk; simp at hk)
   obtain ⟨kv, hkc, hkat⟩ := hats.get hk
   obtain ⟨ak, ck, rfl⟩ := hkat.slice
   obtain ⟨xs, hown, hel⟩ := HRO.out
   obtain ⟨x, hx⟩ : ∃ x, x = k.fold stepR := ⟨_, rfl⟩
   have hkf : (ks.map (ET.fold stepR))[i]? = some x := by rw [List.getElem?_map, hk, hx]; rfl
   have hct : Calls Tryz.prog 20 #[k.agg (.slice ak k.kids.length ck)] wr.drew fun ev w' => ∃ kv', ev = .returned (x.agg kv') ∧ x.OnC (Btw wr.heap.size w'.heap.size) w' kv' ∧ Below wr.heap.size wr.drew w' := by
    rw [hx]
    exact HIH.out i k hk wr.drew _ ((hkat.at.below HBW.out).frame (w := wr) (w' := wr.drew) fun _ _ _ => rfl)
   rw [show k.agg (.slice ak k.kids.length ck) = .agg #[.int .u8 k.op, .slice ak k.kids.length ck, .int .i64 k.col, .int .u8 k.lit.kind, .bool k.lit.bool, .int .i64 k.lit.int, .string k.lit.text] from rfl] at hct
   have hH := EH.out
   have hs : ∀ W, Below (H + 3) wr W → W.cell? ⟨H, 1, none⟩ = some (.slice (some ⟨b, off, none⟩) K cc) ∧ W.cell? ⟨b, off + i * 7, none⟩ = some (.int .u8 k.op) ∧ W.cell? ⟨b, off + i * 7 + 1, none⟩ = some (.slice ak k.kids.length ck) ∧ W.cell? ⟨b, off + i * 7 + 2, none⟩ = some (.int .i64 k.col) ∧ W.cell? ⟨b, off + i * 7 + 3, none⟩ = some (.int .u8 k.lit.kind) ∧ W.cell? ⟨b, off + i * 7 + 4, none⟩ = some (.bool k.lit.bool) ∧ W.cell? ⟨b, off + i * 7 + 5, none⟩ = some (.int .i64 k.lit.int) ∧ W.cell? ⟨b, off + i * 7 + 6, none⟩ = some (.string k.lit.text) := fun W hb => by
    have hkw := hkc.below HBW.out
    have hq : ∀ {v : Value} {p : Nat}, wr.cell? ⟨b, p, none⟩ = some v → W.cell? ⟨b, p, none⟩ = some v := fun h => (hb.cell (by show b < H + 3; omega)).trans h
    exact ⟨(hb.cell (p := ⟨H, 1, none⟩) (by show H < H + 3; omega)).trans y1, hq hkw.1, hq hkw.2.1, hq hkw.2.2.1, hq hkw.2.2.2.1, hq hkw.2.2.2.2.1, hq hkw.2.2.2.2.2.1, hq hkw.2.2.2.2.2.2⟩
   have hs2 : ∀ (W : World) (v : Value), Below (H + 3) wr W → (W.setCell ⟨H + 2, 1, none⟩ v).cell? ⟨H, 1, none⟩ = some (.slice (some ⟨b, off, none⟩) K cc) ∧ (W.setCell ⟨H + 2, 1, none⟩ v).cell? ⟨b, off + i * 7, none⟩ = some (.int .u8 k.op) ∧ (W.setCell ⟨H + 2, 1, none⟩ v).cell? ⟨b, off + i * 7 + 1, none⟩ = some (.slice ak k.kids.length ck) ∧ (W.setCell ⟨H + 2, 1, none⟩ v).cell? ⟨b, off + i * 7 + 2, none⟩ = some (.int .i64 k.col) ∧ (W.setCell ⟨H + 2, 1, none⟩ v).cell? ⟨b, off + i * 7 + 3, none⟩ = some (.int .u8 k.lit.kind) ∧ (W.setCell ⟨H + 2, 1, none⟩ v).cell? ⟨b, off + i * 7 + 4, none⟩ = some (.bool k.lit.bool) ∧ (W.setCell ⟨H + 2, 1, none⟩ v).cell? ⟨b, off + i * 7 + 5, none⟩ = some (.int .i64 k.lit.int) ∧ (W.setCell ⟨H + 2, 1, none⟩ v).cell? ⟨b, off + i * 7 + 6, none⟩ = some (.string k.lit.text) := fun W v hb => by
    have h := hs W hb
    have hq : ∀ {u : Value} {g p : Nat}, g ≠ H + 2 → W.cell? ⟨g, p, none⟩ = some u → (W.setCell ⟨H + 2, 1, none⟩ v).cell? ⟨g, p, none⟩ = some u := fun hn h => (cell_set_ne (fun e => hn e.symm)).trans h
    have hb1 : b ≠ H + 2 := by omega
    exact ⟨hq (by omega) h.1, hq hb1 h.2.1, hq hb1 h.2.2.1, hq hb1 h.2.2.2.1, hq hb1 h.2.2.2.2.1, hq hb1 h.2.2.2.2.2.1, hq hb1 h.2.2.2.2.2.2.1, hq hb1 h.2.2.2.2.2.2.2⟩
   have hx1 : ∀ W, Below (H + 3) wr W → W.cell? ⟨H + 2, 1, none⟩ = some sv := fun W hb => cell_of_heap ((hb.block (H + 2) (by omega)).trans HT2.out) rfl
   have hxf : ∀ W, Below (H + 3) wr W → W.frozen? ⟨H + 2, 1, none⟩ = false := fun W hb => frozen_of_heap ((hb.block (H + 2) (by omega)).trans HT2.out)
   obtain ⟨wd, hwd⟩ : ∃ wd, wd = wr.drew := ⟨_, rfl⟩
   have HCB : Below wr.heap.size wr wd := by rw [hwd]; exact Go.Pen.below_drewN (n := 1) (Below.refl _ _)
   rw [← hwd] at hct
   have HCT := Lib.hid hct
   have HS := Lib.hid hs
   have HS2 := Lib.hid hs2
   have HX := Lib.hid hx1
   have HXF := Lib.hid hxf
   have HOW := Lib.hid hown
   have HEL := Lib.hid hel
   have HKF := Lib.hid hkf
   have HWD := Lib.hid HCB
   have CB0 : Hid (Below (H + 3) wr wd) := Lib.hid (HCB.mono HLR.out)
   have HWE := Lib.hid hwd
   have HBO := Lib.hid hblt
   obtain ⟨q0, q1, q2, q3, q4, q5, q6⟩ := hkc.below HBW.out
   clear hct hs hs2 hx1 hxf hown hel hkf HCB hwd hkc hkat hats hk hx hH hblt
   go_upto_region 6 with fail
   refine wp_region_held_drew (S := fun W => W.cell? ⟨H, 1, none⟩ = some (.slice (some ⟨b, off, none⟩) K cc) ∧ W.cell? ⟨b, off + i * 7, none⟩ = some (.int .u8 k.op) ∧ W.cell? ⟨b, off + i * 7 + 1, none⟩ = some (.slice ak k.kids.length ck) ∧ W.cell? ⟨b, off + i * 7 + 2, none⟩ = some (.int .i64 k.col) ∧ W.cell? ⟨b, off + i * 7 + 3, none⟩ = some (.int .u8 k.lit.kind) ∧ W.cell? ⟨b, off + i * 7 + 4, none⟩ = some (.bool k.lit.bool) ∧ W.cell? ⟨b, off + i * 7 + 5, none⟩ = some (.int .i64 k.lit.int) ∧ W.cell? ⟨b, off + i * 7 + 6, none⟩ = some (.string k.lit.text)) (by kernel_rfl) (HS.out wr.drew (by rw [← HWE.out]; exact CB0.out)) (fun hHeld => ?_)
   rw [← HWE.out] at hHeld ⊢
   clear q0 q1 q2 q3 q4 q5 q6 y1
   refine wpAnyH_take (i := 0) (oi := ⟨some 16, _, _, _, _, _⟩) (v := ?_) rfl (by kernel_rfl) (by kernel_rfl) (by kernel_rfl) (fun _ _ _ h => h) (Or.inl ⟨by rfl, ?_⟩) (by assumption) ?_; rotate_left; (intro w hSw; (try dsimp only at hSw); go_simp; (try with_reducible rfl)); (try simp only [Act.put, sA, sB, sC])
   refine wpAnyH_take (i := 2) (oi := ⟨some 18, _, _, _, _, _⟩) (v := ?_) rfl (by kernel_rfl) (by kernel_rfl) (by kernel_rfl) (fun _ _ _ h => h) (Or.inl ⟨by rfl, ?_⟩) (by assumption) ?_; rotate_left; (intro w hSw; (try dsimp only at hSw); go_simp; (try with_reducible rfl)); (try simp only [Act.put, sA, sB, sC])
   refine wpAnyH_take (i := 3) (oi := ⟨some 19, _, _, _, _, _⟩) (v := ?_) rfl (by kernel_rfl) (by kernel_rfl) (by kernel_rfl) (fun _ _ _ h => h) (Or.inl ⟨by rfl, ?_⟩) (by assumption) ?_; rotate_left; (intro w hSw; (try dsimp only at hSw); go_simp; (try with_reducible rfl)); (try simp only [Act.put, sA, sB, sC])
   refine wpAnyH_take (i := 4) (oi := ⟨some 20, _, _, _, _, _⟩) (v := ?_) rfl (by kernel_rfl) (by kernel_rfl) (by kernel_rfl) (fun _ _ _ h => h) (Or.inl ⟨by rfl, ?_⟩) (by assumption) ?_; rotate_left; (intro w hSw; (try dsimp only at hSw); go_simp; (try with_reducible rfl)); (try simp only [Act.put, sA, sB, sC])
   refine wpAnyH_take (i := 5) (oi := ⟨some 21, _, _, _, _, _⟩) (v := ?_) rfl (by kernel_rfl) (by kernel_rfl) (by kernel_rfl) (fun _ _ _ h => h) (Or.inl ⟨by rfl, ?_⟩) (by assumption) ?_; rotate_left; (intro w hSw; (try dsimp only at hSw); go_simp; (try with_reducible rfl)); (try simp only [Act.put, sA, sB, sC])
   refine wpAnyH_take (i := 6) (oi := ⟨some 22, _, _, _, _, _⟩) (v := ?_) rfl (by kernel_rfl) (by kernel_rfl) (by kernel_rfl) (fun _ _ _ h => h) (Or.inl ⟨by rfl, ?_⟩) (by assumption) ?_; rotate_left; (intro w hSw; (try dsimp only at hSw); go_simp; (try with_reducible rfl)); (try simp only [Act.put, sA, sB, sC])
   refine wpAnyH_ready (rs := [1, 7]) (by kernel_rfl) (by simp) ?_
   refine AllReadyH.cons (o := ⟨some 17, _, _, _, _, _⟩) rfl (fun KK hK => ?_) (AllReadyH.cons (o := ⟨some 23, _, _, _, _, _⟩) rfl (fun KK hK => ?_) (AllReadyH.nil))
   ·have xk := HX.out _ CB0.out
    go_simp
    clear xk
    refine hK.out _ _ (HS.out _ CB0.out) (fun hHeld => ?_)
    clear hK KK
    skip
    refine wpAnyH_ready (rs := [7]) (by kernel_rfl) (by simp) ?_
    refine AllReadyH.cons (o := ⟨some 23, _, _, _, _, _⟩) rfl (fun KK hK => ?_) (AllReadyH.nil)
    go_simp
    go_at_call 20
    with_reducible refine HCT.out.mono ?_
    rintro ev Z2 ⟨kv', rfl, hon, hb⟩
    obtain ⟨a3, c3, rfl⟩ := hon.slice
    rw [show x.agg (.slice a3 x.kids.length c3) = .agg #[.int .u8 x.op, .slice a3 x.kids.length c3, .int .i64 x.col, .int .u8 x.lit.kind, .bool x.lit.bool, .int .i64 x.lit.int, .string x.lit.text] from rfl]
    have CB2 := Lib.hid (show Below (H + 3) wr Z2 from CB0.out.trans (hb.mono HLR.out))
    have HON2 := Lib.hid hon
    have HBB2 := Lib.hid (show Below wr.heap.size wr Z2 from HWD.out.trans hb)
    clear hon hb
    go_wp2_with fail
    refine hK.out _ _ (HS.out _ CB2.out) (fun hHeld => ?_)
    clear hK KK
    skip
    refine wpAnyH_ready (rs := [8]) (by kernel_rfl) (by simp) ?_
    refine AllReadyH.cons (o := ⟨some 24, _, _, _, _, _⟩) rfl (fun KK hK => ?_) (AllReadyH.nil)
    go_simp
    have CB3 := Lib.hid (show Below (H + 3) wr (Z2.alloc (.cells #[.int .u8 x.op, .slice a3 x.kids.length c3, .int .i64 x.col, .int .u8 x.lit.kind, .bool x.lit.bool, .int .i64 x.lit.int, .string x.lit.text] 27)) from CB2.out.alloc (Nat.le_trans HLR.out CB2.out.size) _)
    have HOA3 := Lib.hid (show (Z2.alloc (.cells #[.int .u8 x.op, .slice a3 x.kids.length c3, .int .i64 x.col, .int .u8 x.lit.kind, .bool x.lit.bool, .int .i64 x.lit.int, .string x.lit.text] 27)).ownsRow (H + 3) 27 7 sv i xs from (Below.ownsRow' HBB2.out HOW.out).alloc _)
    refine hK.out _ _ (HS.out _ CB3.out) (fun hHeld => ?_)
    clear hK KK
    skip
    refine wpAnyH_ready (rs := [9]) (by kernel_rfl) (by simp) ?_
    refine AllReadyH.cons (o := ⟨some 25, _, _, _, _, _⟩) rfl (fun KK hK => ?_) (AllReadyH.nil)
    refine step_append_lies _ rfl (.tmp 17) (.tmp 24) 22 rfl (H + 3) 27 i0 _ 7 72 Tryz.underlying22 hi0 hz0 hz1 hz2 rfl (by decide) _ i xs (by simp [Act.eval]) HOA3.out ⟨Z2.heap.size, 0, none⟩ 1 1 [.int .u8 x.op, .slice a3 x.kids.length c3, .int .i64 x.col, .int .u8 x.lit.kind, .bool x.lit.bool, .int .i64 x.lit.int, .string x.lit.text] (by simp [Act.eval]) rfl (World.news_of_block (cs := #[.int .u8 x.op, .slice a3 x.kids.length c3, .int .i64 x.col, .int .u8 x.lit.kind, .bool x.lit.bool, .int .i64 x.lit.int, .string x.lit.text]) (heap_alloc_new _ _)) (by intro y hy; simp at hy; rcases hy with rfl | rfl | rfl | rfl | rfl | rfl | rfl <;> rfl) (by decide) (by unfold maxLen; omega) (by omega) (Nat.le_trans HLR.out CB3.out.size) _ rfl ?_
    intro g5 cap5 Z4 hown5 hgrow5 hat5 _
    have HLS4 := Lib.hid (lrowC_step (by exact HLR.out) HOW.out HEL.out HKF.out HBB2.out HON2.out ((Below.refl _ _).alloc (Nat.le_refl _) _) hown5 hgrow5 fun g' hg' => by
     cases hg'
     rcases hat5 with h | h
     ·exact .inl h
     ·exact .inr (Nat.le_of_eq h.symm))
    have CB4 := Lib.hid (show Below (H + 3) wr Z4 from CB3.out.grown hgrow5 (Nat.le_trans HLR.out CB3.out.size) (fun q hq => (HOA3.out.lt q hq).1))
    clear hown5 hgrow5 hat5
    refine hK.out _ _ (HS.out _ CB4.out) (fun hHeld => ?_)
    clear hK KK
    simp only [Act.put, sA, sB, sC]
    refine wpAnyH_take (i := 10) (oi := ⟨some 26, _, _, _, _, _⟩) (v := ?_) rfl (by kernel_rfl) (by kernel_rfl) (by kernel_rfl) (fun _ _ _ h => h) (Or.inl ⟨by rfl, ?_⟩) (by assumption) ?_; rotate_left; (intro w hSw; (try dsimp only at hSw); go_simp; (try with_reducible rfl)); (try simp only [Act.put, sA, sB, sC])
    refine wpAnyH_ready (rs := [11]) (by kernel_rfl) (by simp) ?_
    refine AllReadyH.cons (o := ⟨none, _, _, _, _, _⟩) rfl (fun KK hK => ?_) (AllReadyH.nil)
    have xk := HX.out _ CB4.out
    have xf := HXF.out _ CB4.out
    go_simp
    clear xk xf
    refine hK.out _ _ (HS2.out _ _ CB4.out) (fun hHeld => ?_)
    clear hK KK
    skip
    refine wpAnyH_done (by kernel_rfl) ?_ _
    have HREL := Lib.hid (rf_step HLS4.out CB4.out HT0.out HT1.out HT2.out HBW.out HLR.out EH.out)
    go_wp2
    go_roundg (K - (i + 1))
    case measure => omega
    case rel => exact ⟨i + 1, _, by omega, rfl, by go_num, HREL.out⟩
   ·go_simp
    go_at_call 20
    with_reducible refine HCT.out.mono ?_
    rintro ev Z6 ⟨kv', rfl, hon, hb⟩
    obtain ⟨a3, c3, rfl⟩ := hon.slice
    rw [show x.agg (.slice a3 x.kids.length c3) = .agg #[.int .u8 x.op, .slice a3 x.kids.length c3, .int .i64 x.col, .int .u8 x.lit.kind, .bool x.lit.bool, .int .i64 x.lit.int, .string x.lit.text] from rfl]
    have CB6 := Lib.hid (show Below (H + 3) wr Z6 from CB0.out.trans (hb.mono HLR.out))
    have HON6 := Lib.hid hon
    have HBB6 := Lib.hid (show Below wr.heap.size wr Z6 from HWD.out.trans hb)
    clear hon hb
    go_wp2_with fail
    refine hK.out _ _ (HS.out _ CB6.out) (fun hHeld => ?_)
    clear hK KK
    skip
    refine wpAnyH_ready (rs := [1, 8]) (by kernel_rfl) (by simp) ?_
    refine AllReadyH.cons (o := ⟨some 17, _, _, _, _, _⟩) rfl (fun KK hK => ?_) (AllReadyH.cons (o := ⟨some 24, _, _, _, _, _⟩) rfl (fun KK hK => ?_) (AllReadyH.nil))
    ·have xk := HX.out _ CB6.out
     go_simp
     clear xk
     refine hK.out _ _ (HS.out _ CB6.out) (fun hHeld => ?_)
     clear hK KK
     skip
     refine wpAnyH_ready (rs := [8]) (by kernel_rfl) (by simp) ?_
     refine AllReadyH.cons (o := ⟨some 24, _, _, _, _, _⟩) rfl (fun KK hK => ?_) (AllReadyH.nil)
     go_simp
     have CB8 := Lib.hid (show Below (H + 3) wr (Z6.alloc (.cells #[.int .u8 x.op, .slice a3 x.kids.length c3, .int .i64 x.col, .int .u8 x.lit.kind, .bool x.lit.bool, .int .i64 x.lit.int, .string x.lit.text] 27)) from CB6.out.alloc (Nat.le_trans HLR.out CB6.out.size) _)
     have HOA8 := Lib.hid (show (Z6.alloc (.cells #[.int .u8 x.op, .slice a3 x.kids.length c3, .int .i64 x.col, .int .u8 x.lit.kind, .bool x.lit.bool, .int .i64 x.lit.int, .string x.lit.text] 27)).ownsRow (H + 3) 27 7 sv i xs from (Below.ownsRow' HBB6.out HOW.out).alloc _)
     refine hK.out _ _ (HS.out _ CB8.out) (fun hHeld => ?_)
     clear hK KK
     skip
     refine wpAnyH_ready (rs := [9]) (by kernel_rfl) (by simp) ?_
     refine AllReadyH.cons (o := ⟨some 25, _, _, _, _, _⟩) rfl (fun KK hK => ?_) (AllReadyH.nil)
     refine step_append_lies _ rfl (.tmp 17) (.tmp 24) 22 rfl (H + 3) 27 i0 _ 7 72 Tryz.underlying22 hi0 hz0 hz1 hz2 rfl (by decide) _ i xs (by simp [Act.eval]) HOA8.out ⟨Z6.heap.size, 0, none⟩ 1 1 [.int .u8 x.op, .slice a3 x.kids.length c3, .int .i64 x.col, .int .u8 x.lit.kind, .bool x.lit.bool, .int .i64 x.lit.int, .string x.lit.text] (by simp [Act.eval]) rfl (World.news_of_block (cs := #[.int .u8 x.op, .slice a3 x.kids.length c3, .int .i64 x.col, .int .u8 x.lit.kind, .bool x.lit.bool, .int .i64 x.lit.int, .string x.lit.text]) (heap_alloc_new _ _)) (by intro y hy; simp at hy; rcases hy with rfl | rfl | rfl | rfl | rfl | rfl | rfl <;> rfl) (by decide) (by unfold maxLen; omega) (by omega) (Nat.le_trans HLR.out CB8.out.size) _ rfl ?_
     intro g5 cap5 Z9 hown5 hgrow5 hat5 _
     have HLS9 := Lib.hid (lrowC_step (by exact HLR.out) HOW.out HEL.out HKF.out HBB6.out HON6.out ((Below.refl _ _).alloc (Nat.le_refl _) _) hown5 hgrow5 fun g' hg' => by
      cases hg'
      rcases hat5 with h | h
      ·exact .inl h
      ·exact .inr (Nat.le_of_eq h.symm))
     have CB9 := Lib.hid (show Below (H + 3) wr Z9 from CB8.out.grown hgrow5 (Nat.le_trans HLR.out CB8.out.size) (fun q hq => (HOA8.out.lt q hq).1))
     clear hown5 hgrow5 hat5
     refine hK.out _ _ (HS.out _ CB9.out) (fun hHeld => ?_)
     clear hK KK
     simp only [Act.put, sA, sB, sC]
     refine wpAnyH_take (i := 10) (oi := ⟨some 26, _, _, _, _, _⟩) (v := ?_) rfl (by kernel_rfl) (by kernel_rfl) (by kernel_rfl) (fun _ _ _ h => h) (Or.inl ⟨by rfl, ?_⟩) (by assumption) ?_; rotate_left; (intro w hSw; (try dsimp only at hSw); go_simp; (try with_reducible rfl)); (try simp only [Act.put, sA, sB, sC])
     refine wpAnyH_ready (rs := [11]) (by kernel_rfl) (by simp) ?_
     refine AllReadyH.cons (o := ⟨none, _, _, _, _, _⟩) rfl (fun KK hK => ?_) (AllReadyH.nil)
     have xk := HX.out _ CB9.out
     have xf := HXF.out _ CB9.out
     go_simp
     clear xk xf
     refine hK.out _ _ (HS2.out _ _ CB9.out) (fun hHeld => ?_)
     clear hK KK
     skip
     refine wpAnyH_done (by kernel_rfl) ?_ _
     have HREL := Lib.hid (rf_step HLS9.out CB9.out HT0.out HT1.out HT2.out HBW.out HLR.out EH.out)
     go_wp2
     go_roundg (K - (i + 1))
     case measure => omega
     case rel => exact ⟨i + 1, _, by omega, rfl, by go_num, HREL.out⟩
    ·go_simp
     have CB11 := Lib.hid (show Below (H + 3) wr (Z6.alloc (.cells #[.int .u8 x.op, .slice a3 x.kids.length c3, .int .i64 x.col, .int .u8 x.lit.kind, .bool x.lit.bool, .int .i64 x.lit.int, .string x.lit.text] 27)) from CB6.out.alloc (Nat.le_trans HLR.out CB6.out.size) _)
     have HOA11 := Lib.hid (show (Z6.alloc (.cells #[.int .u8 x.op, .slice a3 x.kids.length c3, .int .i64 x.col, .int .u8 x.lit.kind, .bool x.lit.bool, .int .i64 x.lit.int, .string x.lit.text] 27)).ownsRow (H + 3) 27 7 sv i xs from (Below.ownsRow' HBB6.out HOW.out).alloc _)
     refine hK.out _ _ (HS.out _ CB11.out) (fun hHeld => ?_)
     clear hK KK
     skip
     refine wpAnyH_ready (rs := [1]) (by kernel_rfl) (by simp) ?_
     refine AllReadyH.cons (o := ⟨some 17, _, _, _, _, _⟩) rfl (fun KK hK => ?_) (AllReadyH.nil)
     have xk := HX.out _ CB11.out
     go_simp
     clear xk
     refine hK.out _ _ (HS.out _ CB11.out) (fun hHeld => ?_)
     clear hK KK
     skip
     refine wpAnyH_ready (rs := [9]) (by kernel_rfl) (by simp) ?_
     refine AllReadyH.cons (o := ⟨some 25, _, _, _, _, _⟩) rfl (fun KK hK => ?_) (AllReadyH.nil)
     refine step_append_lies _ rfl (.tmp 17) (.tmp 24) 22 rfl (H + 3) 27 i0 _ 7 72 Tryz.underlying22 hi0 hz0 hz1 hz2 rfl (by decide) _ i xs (by simp [Act.eval]) HOA11.out ⟨Z6.heap.size, 0, none⟩ 1 1 [.int .u8 x.op, .slice a3 x.kids.length c3, .int .i64 x.col, .int .u8 x.lit.kind, .bool x.lit.bool, .int .i64 x.lit.int, .string x.lit.text] (by simp [Act.eval]) rfl (World.news_of_block (cs := #[.int .u8 x.op, .slice a3 x.kids.length c3, .int .i64 x.col, .int .u8 x.lit.kind, .bool x.lit.bool, .int .i64 x.lit.int, .string x.lit.text]) (heap_alloc_new _ _)) (by intro y hy; simp at hy; rcases hy with rfl | rfl | rfl | rfl | rfl | rfl | rfl <;> rfl) (by decide) (by unfold maxLen; omega) (by omega) (Nat.le_trans HLR.out CB11.out.size) _ rfl ?_
     intro g5 cap5 Z13 hown5 hgrow5 hat5 _
     have HLS13 := Lib.hid (lrowC_step (by exact HLR.out) HOW.out HEL.out HKF.out HBB6.out HON6.out ((Below.refl _ _).alloc (Nat.le_refl _) _) hown5 hgrow5 fun g' hg' => by
      cases hg'
      rcases hat5 with h | h
      ·exact .inl h
      ·exact .inr (Nat.le_of_eq h.symm))
     have CB13 := Lib.hid (show Below (H + 3) wr Z13 from CB11.out.grown hgrow5 (Nat.le_trans HLR.out CB11.out.size) (fun q hq => (HOA11.out.lt q hq).1))
     clear hown5 hgrow5 hat5
     refine hK.out _ _ (HS.out _ CB13.out) (fun hHeld => ?_)
     clear hK KK
     simp only [Act.put, sA, sB, sC]
     refine wpAnyH_take (i := 10) (oi := ⟨some 26, _, _, _, _, _⟩) (v := ?_) rfl (by kernel_rfl) (by kernel_rfl) (by kernel_rfl) (fun _ _ _ h => h) (Or.inl ⟨by rfl, ?_⟩) (by assumption) ?_; rotate_left; (intro w hSw; (try dsimp only at hSw); go_simp; (try with_reducible rfl)); (try simp only [Act.put, sA, sB, sC])
     refine wpAnyH_ready (rs := [11]) (by kernel_rfl) (by simp) ?_
     refine AllReadyH.cons (o := ⟨none, _, _, _, _, _⟩) rfl (fun KK hK => ?_) (AllReadyH.nil)
     have xk := HX.out _ CB13.out
     have xf := HXF.out _ CB13.out
     go_simp
     clear xk xf
     refine hK.out _ _ (HS2.out _ _ CB13.out) (fun hHeld => ?_)
     clear hK KK
     skip
     refine wpAnyH_done (by kernel_rfl) ?_ _
     have HREL := Lib.hid (rf_step HLS13.out CB13.out HT0.out HT1.out HT2.out HBW.out HLR.out EH.out)
     go_wp2
     go_roundg (K - (i + 1))
     case measure => omega
     case rel => exact ⟨i + 1, _, by omega, rfl, by go_num, HREL.out⟩
  ·obtain rfl : i = K := by omega
   obtain ⟨xs, hown, hel⟩ := HRO.out
   obtain ⟨sa, sc, rfl⟩ := ownsRow_slice hown
   have hml : (ks.map (ET.fold stepR)).length = i := by rw [List.length_map]; exact EK.out.symm
   have hon : (ET.mk o c d (ks.map (ET.fold stepR))).OnC (fun g => Btw (H + 3) wr.heap.size g ∨ Btw (H + 3) wr.heap.size g) wr (.slice sa i sc) :=
    onC_of_row (by rw [hml]; exact hown) (Nat.le_refl _) (fun j k hk => by
     obtain ⟨lo, hi', q1, q2, -, h⟩ := hel j k (by have := (List.getElem?_eq_some_iff.1 hk).1; omega) hk
     obtain ⟨kv, h1, h2⟩ := h
     exact ⟨kv, h1, h2.wide fun g hg => ⟨Nat.le_trans q1 hg.1, Nat.lt_of_lt_of_le hg.2 q2⟩⟩) o c d
   have HSTP : Hid (RStp F deep w H (ET.mk o c d (ks.map (ET.fold stepR))).size wr) := Lib.hid ⟨o, c, d, ks.map (ET.fold stepR), sa, sc, 1 + ET.sizes (ks.map (ET.fold stepR)), by rw [hml]; exact HT2.out, HT1.out, by rw [hml]; exact hon.wide (fun g hg => hg.elim id id), HX0.out.2.1, HX0.out.1, HX0.out.2.2, Nat.le_refl _, HF.out, rfl, HBW.out⟩
   clear hown hel hml hon HRO HRL HT0 HT1 HT2
   go_wp2_with fail
   clear y1
   go_loopg [6] (ET.mk o c d (ks.map (ET.fold stepR))).size (fun g s6 wr => (∃ q : Value, s6 = q) ∧ RStp F deep w H g wr)
   case atStart => exact ⟨⟨_, rfl⟩, HSTP.out⟩
   case round =>
    clear HBW HLR HSTP
    obtain ⟨-, o', c', d', ks', a', cc', n, hbx, hzr, hon, hgd, hft, hs4, hsn, hlp, rfl, hbw⟩ := hrel
    have hst : Calls Tryz.prog 32 #[(ET.mk o' c' d' ks').agg (.slice a' ks'.length cc')] wr (RStepPost (.mk o' c' d' ks') (Btw (H + 3) wr.heap.size) wr) := by
     by_cases hk0 : ks' = []
     ·subst hk0; exact rstep_nil o' c' d' _ a' cc' wr hon
     ·exact rstep_32 _ o' c' d' ks' a' cc' deep wr hon hft hd1 hgd hs4 hk0
    rw [show (ET.mk o' c' d' ks').agg (.slice a' ks'.length cc') = .agg #[.int .u8 o', .slice a' ks'.length cc', .int .i64 c', .int .u8 d'.kind, .bool d'.bool, .int .i64 d'.int, .string d'.text] from rfl] at hst
    have T0 := Lib.hid hbx
    have T1 := Lib.hid hzr
    have HST := Lib.hid hst
    have HBW := Lib.hid hbw
    have HGD := Lib.hid hgd
    have HFT := Lib.hid hft
    have HLP := Lib.hid hlp
    have HON := Lib.hid hon
    have HS4 := Lib.hid (And.intro hs4 hsn)
    clear hbx hzr hon hgd hft hs4 hsn hlp hbw hst
    obtain ⟨y0, y1, y2, y3, y4, y5, y6⟩ := cs7 T0.out
    go_wp2_with fail
    refine HST.out.mono ?_
    rintro ev w3 ⟨y, kvy, bb, rfl, hbb, hony, hb3⟩
    obtain ⟨oy, cy, dy, ksy⟩ := y
    obtain ⟨ay, ccy, rfl⟩ := hony.slice
    simp only [ET.kids] at hony ⊢
    rw [show (ET.mk oy cy dy ksy).agg (.slice ay ksy.length ccy) = .agg #[.int .u8 oy, .slice ay ksy.length ccy, .int .i64 cy, .int .u8 dy.kind, .bool dy.bool, .int .i64 dy.int, .string dy.text] from rfl]
    obtain ⟨w4, hw4⟩ : ∃ w4, w4 = w3.alloc (.cells #[.int .u8 oy, .slice ay ksy.length ccy, .int .i64 cy, .int .u8 dy.kind, .bool dy.bool, .int .i64 dy.int, .string dy.text] 27) := ⟨_, rfl⟩
    have hb34 : Below w3.heap.size w3 w4 := by rw [hw4]; exact one_below _ _
    have hb4 : Below wr.heap.size wr w4 := hb3.trans (hb34.mono hb3.size)
    have T04 := Lib.hid ((hb4.block _ (lt_of_heap T0.out)).trans T0.out)
    have T14 := Lib.hid ((hb4.block _ (lt_of_heap T1.out)).trans T1.out)
    have HB4 := Lib.hid (HBW.out.trans (hb4.mono HBW.out.size))
    have HBR := Lib.hid hb4
    have hony4 := hony.below hb34
    have ne1 : H + 2 ≠ w3.heap.size := by have := lt_of_heap T0.out; have := hb3.size; omega
    have ne2 : H + 1 ≠ w3.heap.size := by have := lt_of_heap T1.out; have := hb3.size; omega
    have HONY := Lib.hid hony4
    have HBB := Lib.hid hbb
    have HW4 := Lib.hid hw4
    have q0 := cell_of_heap (o := 0) T04.out rfl
    have f0 := frozen_of_heap (o := 0) T04.out
    have z0 := cell_of_heap (o := 0) T14.out rfl
    have g0 := frozen_of_heap (o := 0) T14.out
    have q1 := cell_of_heap (o := 1) T04.out rfl
    have f1 := frozen_of_heap (o := 1) T04.out
    have z1 := cell_of_heap (o := 1) T14.out rfl
    have g1 := frozen_of_heap (o := 1) T14.out
    have q2 := cell_of_heap (o := 2) T04.out rfl
    have f2 := frozen_of_heap (o := 2) T04.out
    have z2 := cell_of_heap (o := 2) T14.out rfl
    have g2 := frozen_of_heap (o := 2) T14.out
    have q3 := cell_of_heap (o := 3) T04.out rfl
    have f3 := frozen_of_heap (o := 3) T04.out
    have z3 := cell_of_heap (o := 3) T14.out rfl
    have g3 := frozen_of_heap (o := 3) T14.out
    have q4 := cell_of_heap (o := 4) T04.out rfl
    have f4 := frozen_of_heap (o := 4) T04.out
    have z4 := cell_of_heap (o := 4) T14.out rfl
    have g4 := frozen_of_heap (o := 4) T14.out
    have q5 := cell_of_heap (o := 5) T04.out rfl
    have f5 := frozen_of_heap (o := 5) T04.out
    have z5 := cell_of_heap (o := 5) T14.out rfl
    have g5 := frozen_of_heap (o := 5) T14.out
    have q6 := cell_of_heap (o := 6) T04.out rfl
    have f6 := frozen_of_heap (o := 6) T04.out
    have z6 := cell_of_heap (o := 6) T14.out rfl
    have g6 := frozen_of_heap (o := 6) T14.out
    rw [hw4] at q0 f0 z0 g0 q1 f1 z1 g1 q2 f2 z2 g2 q3 f3 z3 g3 q4 f4 z4 g4 q5 f5 z5 g5 q6 f6 z6 g6
    clear hony hony4 hbb hb34 hb4 hb3 hw4 y0 y1 y2 y3 y4 y5 y6 HST T0 T1
    cases bb
    ·go_wp2
     rw [← HW4.out]
     refine bodyPost_ret (results_cell_row rfl _ _ (H + 1) 27 _ (0, 0) _ rfl (setRow7_at T14.out) Tryz.underlying27 rfl (by kernel_rfl)) rfl ?_
     obtain ⟨hno, he⟩ : stepR (.mk o' c' d' ks') = none ∧ ET.mk oy cy dy ksy = .mk o' c' d' ks' := by have := HBB.out; rw [if_neg (by decide)] at this; exact this
     clear he
     have hFy : F = .mk o' c' d' ks' := by rw [← HLP.out, loop_none hno]
     subst hFy
     exact ⟨.slice a' ks'.length cc', rfl, rfold_end HON.out HBR.out EH.out HB4.out⟩
    ·have hyes : stepR (.mk o' c' d' ks') = some (.mk oy cy dy ksy) := by have := HBB.out; rw [if_pos rfl] at this; exact this
     have hgy := step_good coalOk_R HGD.out hyes
     have hfy := step_fits coalOk_R HFT.out HGD.out HS4.out.1 hyes
     have hsy := step_size' coalOk_R HGD.out hyes
     obtain ⟨m, rfl⟩ : ∃ m, n = m + 1 := ⟨n - 1, by have := (ET.mk o' c' d' ks').size_pos; have := HS4.out.2; omega⟩
     have hly : loopS stepR m (.mk oy cy dy ksy) = F := by rw [← HLP.out, loop_some hyes]
     have HSY := Lib.hid (show (ET.mk oy cy dy ksy).size ≤ 4000 ∧ (ET.mk oy cy dy ksy).size ≤ m ∧ (ET.mk oy cy dy ksy).size < (ET.mk o' c' d' ks').size by have := HS4.out.1; have := HS4.out.2; omega)
     have HGY := Lib.hid hgy
     have HFY := Lib.hid hfy
     have HLY := Lib.hid hly
     clear hyes hgy hfy hsy hly HBB HLP HGD HFT HS4
     go_wp2_with fail
     rw [← HW4.out]
     have hs2 : RStp F deep w H (ET.mk oy cy dy ksy).size (setRow7 w4 (H + 2) (.int .u8 oy) (.slice ay ksy.length ccy) (.int .i64 cy) (.int .u8 dy.kind) (.bool dy.bool) (.int .i64 dy.int) (.string dy.text)) := by
      have hH := EH.out
      have hsz := HBR.out.size
      refine ⟨oy, cy, dy, ksy, ay, ccy, m, setRow7_at T04.out, (setRow7_ne (by omega)).trans T14.out, HONY.out.frame (fun g hg _ => ⟨hg.1, by rw [setRow7_size]; have := hg.2; omega⟩) (fun g hg _ => setRow7_ne (by have := hg.1; omega)), HGY.out, HFY.out, HSY.out.1, HSY.out.2.1, HLY.out, rfl, setRow7_below HB4.out (by omega)⟩
     have HS2 := Lib.hid hs2
     clear hs2
     go_roundg ((ET.mk oy cy dy ksy).size)
     case measure => exact HSY.out.2.2
     case rel => exact ⟨⟨_, rfl⟩, HS2.out⟩
end Go.Proofs.YtmmhedlagnjbiaaGreatDoor
