import Derived.Test.YtmmhedlagnjbiaaGreatDoorOe
import Derived.Test.YtmmhedlagnjbiaaGreatDoorFm
/- our texts, shortened by program (pack.py) -/
set_option maxRecDepth 100000
set_option maxHeartbeats 4000000
namespace Go.Proofs.YtmmhedlagnjbiaaGreatDoor
open Go.RowKit Go.Pen
attribute [local go_sem ↓] Go.wp_at_zero Go.wp_at_succ
attribute [local go_sem] Oper.semAt_some
theorem step_fits {coal : Int → Int → Dat → List ET → Option ET} (hc : CoalOk coal) {x y : ET} {deep : Nat} (hf : x.fits) (hg : x.good okD deep = true) (hs : x.size ≤ 4000) (h : stepS coal x = some y) : y.fits := by
 obtain ⟨o, c, d, ks⟩ := x
 have hf' := hf
 simp only [ET.fits, ET.fitss_iff] at hf
 obtain ⟨ho, hco, hd, hn, hk⟩ := hf
 rcases stepS_some hc (own_kids (good_inv hg).1) h with ⟨rfl, -⟩ | hm | ⟨l, rfl, -, hl, hz, -⟩
 ·have hv := val_ok [] (by simp) _ deep hf' hg
  simp only [litE, ET.fits, ET.fitss]
  exact ⟨by decide, by decide, hv.1, by simp, trivial⟩
 ·exact hk y hm
 ·simp only [ET.fits, ET.fitss_iff]
  simp only [ET.size] at hs
  have := ET.sizes_len l
  exact ⟨ho, hco, hd, by omega, fun k hk' => hk k (hl k hk')⟩
theorem fold_fits {coal : Int → Int → Dat → List ET → Option ET} (hc : CoalOk coal) : ∀ (e : ET) (deep : Nat), e.fits → e.good okD deep = true → e.size ≤ 4000 → (e.fold (stepS coal)).fits := by
 refine ET.ind fun o c d ks ih deep hf hg hs => ?_
 have hkf : ∀ k ∈ ks, (k.fold (stepS coal)).fits := fun k hk => by
  simp only [ET.fits, ET.fitss_iff] at hf
  have := ET.sizes_mem hk
  simp only [ET.size] at hs
  exact ih k hk (deep + 1) (hf.2.2.2.2 k hk) ((good_inv hg).2.2 k hk) (by omega)
 have hx : (ET.mk o c d (ks.map (ET.fold (stepS coal)))).fits ∧ (ET.mk o c d (ks.map (ET.fold (stepS coal)))).good okD deep = true ∧ (ET.mk o c d (ks.map (ET.fold (stepS coal)))).size ≤ 4000 := by
  refine ⟨?_, map_good hg fun k hk => fold_good hc k _ ((good_inv hg).2.2 k hk), ?_⟩
  ·simp only [ET.fits, ET.fitss_iff] at hf ⊢
   refine ⟨hf.1, hf.2.1, hf.2.2.1, by rw [List.length_map]; exact hf.2.2.2.1, fun k hk => ?_⟩
   obtain ⟨k', hk', rfl⟩ := List.mem_map.1 hk
   exact hkf k' hk'
  ·simp only [ET.size] at hs ⊢
   have := sizes_map_le (F := ET.fold (stepS coal)) (ks := ks) fun k hk => fold_size hc k _ ((good_inv hg).2.2 k hk)
   omega
 simp only [ET.fold, ET.folds_map]
 exact (loop_keeps (P := fun x => x.fits ∧ x.good okD deep = true ∧ x.size ≤ 4000) (fun x y hx hy => ⟨step_fits hc hx.1 hx.2.1 hx.2.2 hy, step_good hc hx.2.1 hy, by have := step_size' hc hx.2.1 hy; have := hx.2.2; omega⟩) _ _ hx).1
theorem step_nokids {x : ET} (h : x.kids = []) : stepP x = none := by
 obtain ⟨o, c, d, ks⟩ := x
 cases h
 rfl
def setO (w : World) (b o : Nat) (v0 v1 v2 v3 v4 v5 v6 : Value) : World := ((((((w.setCell ⟨b, o, none⟩ v0).setCell ⟨b, o + 1, none⟩ v1).setCell ⟨b, o + 2, none⟩ v2).setCell ⟨b, o + 3, none⟩ v3).setCell ⟨b, o + 4, none⟩ v4).setCell ⟨b, o + 5, none⟩ v5).setCell ⟨b, o + 6, none⟩ v6
theorem setO_size {w : World} {b o : Nat} {v0 v1 v2 v3 v4 v5 v6 : Value} : (setO w b o v0 v1 v2 v3 v4 v5 v6).heap.size = w.heap.size := by simp [setO, World.setCell]
theorem setO_ne {w : World} {b o g : Nat} {v0 v1 v2 v3 v4 v5 v6 : Value} (h : g ≠ b) : (setO w b o v0 v1 v2 v3 v4 v5 v6).heap[g]? = w.heap[g]? := by
 simp only [setO, heap_set_ne h]
theorem setO_below {B : Nat} {w w' : World} {b o : Nat} {v0 v1 v2 v3 v4 v5 v6 : Value} (h : Below B w w') (hb : B ≤ b) : Below B w (setO w' b o v0 v1 v2 v3 v4 v5 v6) :=
 ((((((h.setCell (p := ⟨b, o, none⟩) hb _).setCell (p := ⟨b, o + 1, none⟩) hb _).setCell (p := ⟨b, o + 2, none⟩) hb _).setCell (p := ⟨b, o + 3, none⟩) hb _).setCell (p := ⟨b, o + 4, none⟩) hb _).setCell (p := ⟨b, o + 5, none⟩) hb _).setCell (p := ⟨b, o + 6, none⟩) hb _
def Row7 (w : World) (H K i : Nat) (xs : List Value) : Prop := xs.length = i * 7 ∧ ∃ zs : List Value, zs.length = (K - i) * 7 ∧ w.heap[H]? = some (.cells (xs ++ zs).toArray 27 (0, 0))
theorem Row7.lt {w : World} {H K i : Nat} {xs : List Value} (h : Row7 w H K i xs) : H < w.heap.size := by obtain ⟨-, zs, -, h⟩ := h; exact lt_of_heap h
theorem Row7.made {w : World} {B H K : Nat} {ys : List Value} (h : w.ownsRow B 27 7 (.slice (some ⟨H, 0, none⟩) K K) K ys) : Row7 w H K 0 [] := by
 obtain ⟨hl, h⟩ := h
 rcases h with ⟨h, -⟩ | ⟨g, cap, cur, hv, -, hh, -, -, hsz, htk⟩
 ·cases h
 ·cases hv
  exact ⟨rfl, cur.toList, by simp [hsz], by rw [hh]; simp⟩
theorem Row7.at {w : World} {H K i : Nat} {xs : List Value} (h : Row7 w H K i xs) (hi : i < K) {t : Nat} (ht : t < 7) : ∃ v, w.cell? ⟨H, i * 7 + t, none⟩ = some v := by
 obtain ⟨h1, zs, h2, h3⟩ := h
 have hz : t < zs.length := by rw [h2]; have : 1 ≤ K - i := by omega
                               have := Nat.mul_le_mul_right 7 this; omega
 refine ⟨zs[t], cell_of_heap h3 ?_⟩
 simp only [List.getElem?_toArray]
 rw [List.getElem?_append_right (by omega), h1, Nat.add_sub_cancel_left]
 exact List.getElem?_eq_getElem hz
theorem Row7.frozen {w : World} {H K i : Nat} {xs : List Value} (h : Row7 w H K i xs) (o : Nat) : w.frozen? ⟨H, o, none⟩ = false := by
 obtain ⟨-, zs, -, h3⟩ := h
 exact frozen_of_heap h3
theorem list_set7 : ∀ (xs : List Value) (z0 z1 z2 z3 z4 z5 z6 : Value) (zr : List Value) (v0 v1 v2 v3 v4 v5 v6 : Value),
  (((((((xs ++ z0 :: z1 :: z2 :: z3 :: z4 :: z5 :: z6 :: zr).set xs.length v0).set (xs.length + 1) v1).set (xs.length + 2) v2).set (xs.length + 3) v3).set (xs.length + 4) v4).set (xs.length + 5) v5).set (xs.length + 6) v6 = xs ++ v0 :: v1 :: v2 :: v3 :: v4 :: v5 :: v6 :: zr
 | [], _, _, _, _, _, _, _, _, _, _, _, _, _, _, _ => rfl
 | x :: xs, z0, z1, z2, z3, z4, z5, z6, zr, v0, v1, v2, v3, v4, v5, v6 => by
  simp only [List.cons_append, List.length_cons, Nat.add_right_comm _ 1, List.set_cons_succ]
  rw [list_set7 xs]
theorem Row7.put {w : World} {H K i : Nat} {xs : List Value} {v0 v1 v2 v3 v4 v5 v6 : Value} (h : Row7 w H K i xs) (hi : i < K) : Row7 (setO w H (i * 7) v0 v1 v2 v3 v4 v5 v6) H K (i + 1) (xs ++ [v0, v1, v2, v3, v4, v5, v6]) := by
 obtain ⟨h1, zs, h2, h3⟩ := h
 obtain ⟨m, hm⟩ : ∃ m, K - i = m + 1 := ⟨K - i - 1, by omega⟩
 have hm' : K - (i + 1) = m := by omega
 obtain ⟨z0, z1, z2, z3, z4, z5, z6, zr, rfl⟩ : ∃ z0 z1 z2 z3 z4 z5 z6 zr, zs = z0 :: z1 :: z2 :: z3 :: z4 :: z5 :: z6 :: zr := by
  rcases zs with _ | ⟨z0, _ | ⟨z1, _ | ⟨z2, _ | ⟨z3, _ | ⟨z4, _ | ⟨z5, _ | ⟨z6, zr⟩⟩⟩⟩⟩⟩⟩ <;> simp at h2 <;> first | omega | exact ⟨_, _, _, _, _, _, _, _, rfl⟩
 refine ⟨by simp [h1]; omega, zr, by simp at h2; omega, ?_⟩
 have hs := heap_set_same (o := i * 7 + 6) (v := v6) (heap_set_same (o := i * 7 + 5) (v := v5) (heap_set_same (o := i * 7 + 4) (v := v4) (heap_set_same (o := i * 7 + 3) (v := v3) (heap_set_same (o := i * 7 + 2) (v := v2) (heap_set_same (o := i * 7 + 1) (v := v1) (heap_set_same (o := i * 7) (v := v0) h3))))))
 refine hs.trans ?_
 simp only [List.setIfInBounds_toArray]
 rw [← h1, list_set7 xs]
 simp
theorem Row7.frame {w w' : World} {H K i : Nat} {xs : List Value} (h : Row7 w H K i xs) (hb : w'.heap[H]? = w.heap[H]?) : Row7 w' H K i xs := by
 obtain ⟨h1, zs, h2, h3⟩ := h
 exact ⟨h1, zs, h2, hb.trans h3⟩
theorem Row7.owns {w : World} {base H K : Nat} {xs : List Value} (h : Row7 w H K K xs) (hb : base ≤ H) (hK : K ≤ maxLen) : w.ownsRow base 27 7 (.slice (some ⟨H, 0, none⟩) K K) K xs := by
 obtain ⟨h1, zs, h2, h3⟩ := h
 have : zs = [] := List.length_eq_zero_iff.1 (by rw [h2]; omega)
 subst this
 exact ownsRow_mk hb h3 (Nat.le_refl _) hK (by simp [h1]) (by simp only [List.append_nil]; rw [← h1]; exact List.take_length)
def FoldedOK (e : ET) : Prop := ∀ (deep : Nat) (S : Nat → Prop) (kv : Value) (w : World), e.On S w kv → e.fits → 1 ≤ deep → e.good okD deep = true → e.size ≤ 4000 → Lib.Utf8Tabs 0 1 w → ErrTy w → 3 ≤ w.heap.size →
 Calls Tryz.prog 18 #[e.agg kv] w fun ev w' => ∃ kv', ev = .returned ((e.fold stepP).agg kv') ∧ (e.fold stepP).OnC (fun g => S g ∨ Btw w.heap.size w'.heap.size g) w' kv' ∧ Below w.heap.size w w'
def Stp (F : ET) (deep : Nat) (S : Nat → Prop) (w : World) (H g : Nat) (wr : World) : Prop :=
 ∃ (o c : Int) (d : Dat) (ks : List ET) (a : Option Addr) (cc n : Nat), wr.heap[H]? = some (.cells #[.int .u8 o, .slice a ks.length cc, .int .i64 c, .int .u8 d.kind, .bool d.bool, .int .i64 d.int, .string d.text] 27 (0, 0)) ∧ wr.heap[H + 1]? = some (.cells #[.int .u8 0, .slice none 0 0, .int .i64 0, .int .u8 0, .bool false, .int .i64 0, .string ⟨#[]⟩] 27 (0, 0)) ∧ ks ≠ [] ∧ (ET.mk o c d ks).OnC (fun g => (S g ∧ g < w.heap.size) ∨ Btw (H + 2) wr.heap.size g) wr (.slice a ks.length cc) ∧
  (ET.mk o c d ks).good okD deep = true ∧ (ET.mk o c d ks).fits ∧ (ET.mk o c d ks).size ≤ 4000 ∧ (ET.mk o c d ks).size ≤ n ∧ loopS stepP n (.mk o c d ks) = F ∧ g = (ET.mk o c d ks).size ∧ Below w.heap.size w wr
theorem folded_leaf (o c : Int) (d : Dat) (S : Nat → Prop) (kv : Value) (w : World) (hat : (ET.mk o c d []).On S w kv) :
  Calls Tryz.prog 18 #[(ET.mk o c d []).agg kv] w fun ev w' => ∃ kv', ev = .returned ((ET.mk o c d []).agg kv') ∧ (ET.mk o c d []).OnC (fun g => S g ∨ Btw w.heap.size w'.heap.size g) w' kv' ∧ Below w.heap.size w w' := by
 obtain ⟨a, cc, rfl, hz, -⟩ := ET.On.iff.1 hat
 have hlf := fun (W : World) => hat.leaf (S' := fun g => S g ∨ Btw w.heap.size W.heap.size g) (w' := W) rfl
 have HLF := Lib.hid hlf
 clear hlf hat hz
 unfold ET.agg
 simp only [ET.op, ET.col, ET.lit, ET.kids, List.length_nil] at *
 go_enter Tryz.func18, Tryz.ntmps18
 go_wp2
 refine bodyPost_ret (results_cell_row rfl _ _ (w.heap.size + 1) 27 _ (0, 0) _ rfl (two_at (Below.refl _ _)).2 Tryz.underlying27 rfl (by kernel_rfl)) rfl ?_
 exact ⟨_, rfl, HLF.out _, two_below _ _ _⟩
theorem fold_x0 {coal : Int → Int → Dat → List ET → Option ET} (hc : CoalOk coal) {o c : Int} {d : Dat} {ks : List ET} {deep : Nat} (hf : (ET.mk o c d ks).fits) (hg : (ET.mk o c d ks).good okD deep = true) (hs : (ET.mk o c d ks).size ≤ 4000) :
  (ET.mk o c d (ks.map (ET.fold (stepS coal)))).fits ∧ (ET.mk o c d (ks.map (ET.fold (stepS coal)))).good okD deep = true ∧ (ET.mk o c d (ks.map (ET.fold (stepS coal)))).size ≤ 4000 := by
 simp only [ET.size] at hs
 refine ⟨?_, map_good hg fun k hk => fold_good hc k _ ((good_inv hg).2.2 k hk), ?_⟩
 ·simp only [ET.fits, ET.fitss_iff] at hf ⊢
  refine ⟨hf.1, hf.2.1, hf.2.2.1, by rw [List.length_map]; exact hf.2.2.2.1, fun k hk => ?_⟩
  obtain ⟨k', hk', rfl⟩ := List.mem_map.1 hk
  have := ET.sizes_mem hk'
  exact fold_fits hc k' (deep + 1) (hf.2.2.2.2 k' hk') ((good_inv hg).2.2 k' hk') (by omega)
 ·simp only [ET.size]
  have := sizes_map_le (F := ET.fold (stepS coal)) (ks := ks) fun k hk => fold_size hc k _ ((good_inv hg).2.2 k hk)
  omega
def Kds (bx : Array Value) (ks : List ET) (S : Nat → Prop) (w : World) (H K i : Nat) (wr : World) : Prop :=
 ∃ xs, Row7 wr (H + 2) K i xs ∧ (∀ (j : Nat) k, j < i → ks[j]? = some k → ElOnC (fun g => (S g ∧ g < w.heap.size) ∨ Btw (H + 3) wr.heap.size g) wr xs j (k.fold stepP)) ∧ wr.heap[H]? = some (.cells bx 27 (0, 0)) ∧ wr.heap[H + 1]? = some (.cells #[.int .u8 0, .slice none 0 0, .int .i64 0, .int .u8 0, .bool false, .int .i64 0, .string ⟨#[]⟩] 27 (0, 0)) ∧ Below w.heap.size w wr
theorem ElOnC.frame {S S' : Nat → Prop} {w w' : World} {xs ys : List Value} {j : Nat} {k : ET} (h : ElOnC S w xs j k) (hS : ∀ g, S g → g < w.heap.size → S' g) (hf : ∀ g, S g → g < w.heap.size → w'.heap[g]? = w.heap[g]?) : ElOnC S' w' (xs ++ ys) j k := by
 obtain ⟨kv, h1, h2⟩ := h
 exact ⟨kv, fun t x hx => by
  have := h1 t x hx
  rw [List.getElem?_append_left (List.getElem?_eq_some_iff.1 this).1]; exact this, h2.frame hS hf⟩
theorem Kds.step {bx : Array Value} {ks : List ET} {S : Nat → Prop} {w wr W2 W3 : World} {H K i : Nat} {k : ET} {a' : Option Addr} {c' : Nat} (h : Kds bx ks S w H K i wr) (eH : H = w.heap.size) (hi : i < K) (hk : ks[i]? = some k) (hb2 : Below wr.heap.size wr W2) (hb : Below W2.heap.size W2 W3)
  (hon : (k.fold stepP).OnC (fun g => (S g ∧ g < w.heap.size) ∨ Btw W2.heap.size W3.heap.size g) W3 (.slice a' (k.fold stepP).kids.length c')) :
  Kds bx ks S w H K (i + 1) (setO W3 (H + 2) (i * 7) (.int .u8 (k.fold stepP).op) (.slice a' (k.fold stepP).kids.length c') (.int .i64 (k.fold stepP).col) (.int .u8 (k.fold stepP).lit.kind) (.bool (k.fold stepP).lit.bool) (.int .i64 (k.fold stepP).lit.int) (.string (k.fold stepP).lit.text)) := by
 obtain ⟨xs, hr, hel, h0, h1, hbw⟩ := h
 have hlt := hr.lt
 have hs2 := hb2.size
 have hsz := hb.size
 have hb := hb2.trans (hb.mono hs2)
 refine ⟨_, Row7.put (hr.frame (hb.block _ hlt)) hi, fun j y hj hy => ?_, ?_, ?_, setO_below (hbw.trans (hb.mono hbw.size)) (by omega)⟩
 ·rw [setO_size]
  by_cases e : j < i
  ·refine (hel j y e hy).frame (fun g hg _ => ?_) fun g hg hgl => ?_
   ·rcases hg with hg | hg
    ·exact .inl hg
    ·exact .inr ⟨hg.1, by have := hg.2; omega⟩
   ·have hne : g ≠ H + 2 := by
     rcases hg with hg | hg
     ·have := hg.2; omega
     ·have := hg.1; omega
    rw [setO_ne hne]
    exact hb.block g hgl
  ·obtain rfl : j = i := by omega
   rw [hk] at hy; cases hy
   refine ⟨_, fun t x hx => ?_, hon.frame (fun g hg _ => ?_) fun g hg _ => ?_⟩
   ·rw [List.getElem?_append_right (by rw [hr.1]; omega), hr.1, Nat.add_sub_cancel_left]
    exact hx
   ·rcases hg with hg | hg
    ·exact .inl hg
    ·exact .inr ⟨by have := hg.1; omega, hg.2⟩
   ·refine setO_ne ?_
    rcases hg with hg | hg
    ·have := hg.2; omega
    ·have := hg.1; omega
 ·rw [setO_ne (by omega)]
  exact (hb.block _ (lt_of_heap h0)).trans h0
 ·rw [setO_ne (by omega)]
  exact (hb.block _ (lt_of_heap h1)).trans h1
theorem fold_end {x : ET} {S : Nat → Prop} {w w0 W : World} {H : Nat} {kv v0 v1 v2 v3 v4 v5 v6 : Value} (hon : x.OnC (fun g => (S g ∧ g < w.heap.size) ∨ Btw (H + 2) w0.heap.size g) w0 kv) (hb : Below w0.heap.size w0 W) (eH : H = w.heap.size) (hw : Below w.heap.size w W) :
  x.OnC (fun g => S g ∨ Btw w.heap.size (setRow7 W (H + 1) v0 v1 v2 v3 v4 v5 v6).heap.size g) (setRow7 W (H + 1) v0 v1 v2 v3 v4 v5 v6) kv ∧ Below w.heap.size w (setRow7 W (H + 1) v0 v1 v2 v3 v4 v5 v6) := by
 have hs := hb.size
 refine ⟨hon.frame (fun g hg _ => ?_) (fun g hg hgl => (setRow7_ne ?_).trans (hb.block g hgl)), setRow7_below hw (by omega)⟩
 ·rw [setRow7_size]
  rcases hg with hg | hg
  ·exact .inl hg.1
  ·exact .inr ⟨by have := hg.1; omega, by have := hg.2; omega⟩
 ·rcases hg with hg | hg
  ·have := hg.2; omega
  ·have := hg.1; omega
theorem folded_18 : ∀ e : ET, FoldedOK e := by
 refine ET.ind fun o c d ks ih deep S kv w hat hfit hd1 hg hsz hT hE h3 => ?_
 by_cases hnil : ks = []
 ·subst hnil
  have hf : (ET.mk o c d []).fold stepP = .mk o c d [] := by simp [ET.fold, ET.folds, ET.sizes, loopS, stepP_mk]
  rw [hf]
  exact folded_leaf o c d S kv w hat
 obtain ⟨i0, hi0, hz0, hz1, hz2⟩ := info_parts info27
 obtain ⟨a, cc, rfl, -, hks⟩ := ET.On.iff.1 hat.slt
 simp only [ET.kids] at hks ⊢
 obtain ⟨b, off, rfl, hSb, hats⟩ := hks hnil
 have hx0 : (ET.mk o c d (ks.map (ET.fold stepP))).fits ∧ (ET.mk o c d (ks.map (ET.fold stepP))).good okD deep = true ∧ (ET.mk o c d (ks.map (ET.fold stepP))).size ≤ 4000 := fold_x0 coalOk_P hfit hg hsz
 have hlk := ET.sizes_len ks
 simp only [ET.size] at hsz
 obtain ⟨K, eK⟩ : ∃ K, K = ks.length := ⟨_, rfl⟩
 have hK : K ≤ 4000 := by omega
 have hih := fun (i : Nat) (k : ET) (hk : ks[i]? = some k) (W : World) (hb : Below w.heap.size w W) (kv : Value) (hkat : k.On (fun g => S g ∧ g < w.heap.size) w kv) =>
  ih k (List.mem_of_getElem? hk) (deep + 1) _ kv W (hkat.below hb) (by simp only [ET.fits, ET.fitss_iff] at hfit; exact hfit.2.2.2.2 k (List.mem_of_getElem? hk)) (by omega) ((good_inv hg).2.2 k (List.mem_of_getElem? hk)) (by have := ET.sizes_mem (List.mem_of_getElem? hk); omega) (tabs_below hT hb h3) (cell_keep hb hE) (Nat.le_trans h3 hb.size)
 obtain ⟨F, eF⟩ : ∃ F, F = (ET.mk o c d ks).fold stepP := ⟨_, rfl⟩
 have hF : loopS stepP (1 + ET.sizes (ks.map (ET.fold stepP))) (.mk o c d (ks.map (ET.fold stepP))) = F := by rw [eF]; simp only [ET.fold, ET.folds_map]
 rw [← eF]
 have HIH := Lib.hid hih
 have HF := Lib.hid hF
 have HX0 := Lib.hid hx0
 have HATS := Lib.hid hats
 have EK := Lib.hid eK
 have HT := Lib.hid hT
 have HE := Lib.hid hE
 have HNIL := Lib.hid hnil
 obtain ⟨H, eH⟩ : ∃ H, H = w.heap.size := ⟨_, rfl⟩
 have EH := Lib.hid eH
 rw [show (ET.mk o c d ks).agg (.slice (some ⟨b, off, none⟩) ks.length cc) = .agg #[.int .u8 o, .slice (some ⟨b, off, none⟩) ks.length cc, .int .i64 c, .int .u8 d.kind, .bool d.bool, .int .i64 d.int, .string d.text] from rfl, ← eK]
 have hk0 : ((K : Int) == 0) = false := by
  have : K ≠ 0 := fun h => hnil (List.length_eq_zero_iff.1 (by rw [← eK]; exact h))
  simpa using this
 clear hih hF hx0 eK hT hE hnil eH ih hat hfit hg hks hats hsz hlk eF hSb
 go_enter Tryz.func18, Tryz.ntmps18
 go_wp2_with (at_make; refine wpList_make_full _ rfl _ _ 22 rfl w.heap.size 27 i0 _ 7 Tryz.underlying22 hi0 hz0 hz1 .i64 .i64 (K : Int) (K : Int) K rfl rfl rfl rfl (by rw [hz2]; omega) (by unfold maxLen; omega) (by simp; omega) ?_)
 intro w2 ho2 hg2
 have hk2 := Row7.made ho2
 have hb2 : Below w.heap.size w w2 := (two_below w _ _).grown hg2 (by simp; omega) (by intro k hk; cases hk)
 have ht := two_at (w := w) (a := .cells #[.int .u8 o, .slice (some ⟨b, off, none⟩) K cc, .int .i64 c, .int .u8 d.kind, .bool d.bool, .int .i64 d.int, .string d.text] 27) (b := .cells #[.int .u8 0, .slice none 0 0, .int .i64 0, .int .u8 0, .bool false, .int .i64 0, .string ⟨#[]⟩] 27) (Below.refl _ _)
 have hbx := (hg2.block w.heap.size (by simp; omega) (by simp)).trans ht.1
 have hbz := (hg2.block (w.heap.size + 1) (by simp) (by simp)).trans ht.2
 have hsz2 : H + 3 ≤ w2.heap.size := by have := hk2.lt; have := EH.out; omega
 rw [show w.heap.size + 1 + 1 = w.heap.size + 2 from rfl, ← EH.out] at hk2
 rw [show w.heap.size + 1 + 1 = w.heap.size + 2 from rfl, ← EH.out]
 rw [← EH.out] at hbx hbz
 have HKD : Hid (Kds #[.int .u8 o, .slice (some ⟨b, off, none⟩) K cc, .int .i64 c, .int .u8 d.kind, .bool d.bool, .int .i64 d.int, .string d.text] ks S w H K 0 w2) := Lib.hid ⟨[], hk2, (fun j k hj => by omega), hbx, hbz, hb2⟩
 have HSZ2 := Lib.hid hsz2
 have y1 := cell_of_heap (o := 1) hbx rfl
 clear ho2 hg2 hk2 hb2 ht hbx hbz hsz2
 go_wp2_with fail
 clear y1
 go_loopg [20] K (fun g s20 wr => ∃ i : Nat, i ≤ K ∧ g = K - i ∧ s20 = .int .i64 i ∧ Kds #[.int .u8 o, .slice (some ⟨b, off, none⟩) K cc, .int .i64 c, .int .u8 d.kind, .bool d.bool, .int .i64 d.int, .string d.text] ks S w H K i wr)
 case atStart => exact ⟨0, Nat.zero_le _, rfl, rfl, HKD.out⟩
 case round =>
  obtain ⟨i, hi, rfl, rfl, hkd⟩ := hrel
  have HKR := Lib.hid hkd
  clear hkd
  by_cases hlt : i < K
  ·obtain ⟨k, hk⟩ : ∃ k, ks[i]? = some k := ⟨ks[i]'(by rw [← EK.out]; exact hlt), List.getElem?_eq_getElem _⟩
   obtain ⟨kv, hkc, hkat⟩ := HATS.out.get hk
   obtain ⟨xs, hr7, -, hbx, -, hbw⟩ := HKR.out
   obtain ⟨ak, ck, rfl⟩ := hkat.slice
   obtain ⟨k0, k1, k2, k3, k4, k5, k6⟩ := hkc.below hbw
   have hct := fun (W : World) (hb : Below w.heap.size w W) => HIH.out i k hk W hb _ hkat
   rw [show k.agg (.slice ak k.kids.length ck) = .agg #[.int .u8 k.op, .slice ak k.kids.length ck, .int .i64 k.col, .int .u8 k.lit.kind, .bool k.lit.bool, .int .i64 k.lit.int, .string k.lit.text] from rfl] at hct
   have hrl : H + 2 < wr.heap.size := hr7.lt
   obtain ⟨W2, hW2⟩ : ∃ W2, W2 = wr.alloc (.cells #[.int .u8 k.op, .slice ak k.kids.length ck, .int .i64 k.col, .int .u8 k.lit.kind, .bool k.lit.bool, .int .i64 k.lit.int, .string k.lit.text] 27) := ⟨_, rfl⟩
   have hb2 : Below wr.heap.size wr W2 := by rw [hW2]; exact one_below _ _
   have hbw2 : Below w.heap.size w W2 := hbw.trans (hb2.mono hbw.size)
   have HCT := Lib.hid hct
   have HK := Lib.hid hk
   have HW2 := Lib.hid hW2
   have HB2 := Lib.hid hb2
   have HBW2 := Lib.hid hbw2
   have HR7 := Lib.hid hr7
   clear hkc hkat hct hk hW2 hb2 hbw2 hbx hbw hr7
   go_wp2_with fail
   rw [← HW2.out]
   refine (HCT.out W2 HBW2.out).mono ?_
   rintro ev w3 ⟨kv', rfl, hon, hb3⟩
   obtain ⟨a3, c3, rfl⟩ := hon.slice
   have HKS := Lib.hid (HKR.out.step EH.out hlt HK.out HB2.out hb3 hon)
   have HB23 := Lib.hid (HB2.out.trans (hb3.mono HB2.out.size))
   have hr3 : Row7 w3 (H + 2) K i xs := HR7.out.frame (HB23.out.block _ HR7.out.lt)
   obtain ⟨z0, e0⟩ := hr3.at hlt (t := 0) (by decide)
   obtain ⟨z1, e1⟩ := hr3.at hlt (t := 1) (by decide)
   obtain ⟨z2, e2⟩ := hr3.at hlt (t := 2) (by decide)
   obtain ⟨z3, e3⟩ := hr3.at hlt (t := 3) (by decide)
   obtain ⟨z4, e4⟩ := hr3.at hlt (t := 4) (by decide)
   obtain ⟨z5, e5⟩ := hr3.at hlt (t := 5) (by decide)
   obtain ⟨z6, e6⟩ := hr3.at hlt (t := 6) (by decide)
   have g0 := hr3.frozen (i * 7)
   have g1 := hr3.frozen (i * 7 + 1)
   have g2 := hr3.frozen (i * 7 + 2)
   have g3 := hr3.frozen (i * 7 + 3)
   have g4 := hr3.frozen (i * 7 + 4)
   have g5 := hr3.frozen (i * 7 + 5)
   have g6 := hr3.frozen (i * 7 + 6)
   have e0 : w3.cell? ⟨H + 2, i * 7, none⟩ = some z0 := e0
   obtain ⟨o7, ho7⟩ : ∃ o7, i * 7 = o7 := ⟨_, rfl⟩
   rw [ho7] at HKS e0 e1 e2 e3 e4 e5 e6 g0 g1 g2 g3 g4 g5 g6
   obtain ⟨x, hx⟩ : ∃ x, x = k.fold stepP := ⟨_, rfl⟩
   rw [← hx] at HKS ⊢
   rw [show x.agg (.slice a3 x.kids.length c3) = .agg #[.int .u8 x.op, .slice a3 x.kids.length c3, .int .i64 x.col, .int .u8 x.lit.kind, .bool x.lit.bool, .int .i64 x.lit.int, .string x.lit.text] from rfl]
   clear hon hb3 hr3 hx k0 k1 k2 k3 k4 k5 k6 HCT
   go_wp2
   go_roundg (K - (i + 1))
   case measure => omega
   case rel => exact ⟨i + 1, by omega, rfl, by go_num, HKS.out⟩
  ·obtain rfl : i = K := by omega
   obtain ⟨xs, hr7, hel, hbx, hbz, hbw⟩ := HKR.out
   have c1 := cell_of_heap (o := 1) hbx rfl
   have f1 := frozen_of_heap (o := 1) hbx
   have hon : (ET.mk o c d (ks.map (ET.fold stepP))).OnC (fun g => ((S g ∧ g < w.heap.size) ∨ Btw (H + 3) wr.heap.size g) ∨ Btw (H + 2) wr.heap.size g) wr (.slice (some ⟨H + 2, 0, none⟩) i i) :=
    onC_of_row (by rw [List.length_map, ← EK.out]; exact hr7.owns (Nat.le_refl _) (by unfold maxLen; omega)) (Nat.le_refl _) (fun j k hk => by
     rw [List.getElem?_map] at hk
     obtain ⟨k', hk', rfl⟩ := Option.map_eq_some_iff.1 hk
     exact hel j k' (by rw [EK.out]; exact (List.getElem?_eq_some_iff.1 hk').1) hk') o c d
   obtain ⟨W, hW⟩ : ∃ W, W = wr.setCell ⟨H, 1, none⟩ (.slice (some ⟨H + 2, 0, none⟩) i i) := ⟨_, rfl⟩
   have hH := EH.out
   have hszW : W.heap.size = wr.heap.size := by rw [hW]; simp [World.setCell]
   have hml : (ks.map (ET.fold stepP)).length = i := by rw [List.length_map]; exact EK.out.symm
   have HSTP : Hid (Stp F deep S w H (ET.mk o c d (ks.map (ET.fold stepP))).size W) := by
    refine Lib.hid ⟨o, c, d, ks.map (ET.fold stepP), some ⟨H + 2, 0, none⟩, i, 1 + ET.sizes (ks.map (ET.fold stepP)), ?_, ?_, ?_, ?_, HX0.out.2.1, HX0.out.1, HX0.out.2.2, ?_, HF.out, rfl, ?_⟩
    ·rw [hW, hml]
     have h := heap_set_same (o := 1) (v := .slice (some ⟨H + 2, 0, none⟩) i i) hbx
     simpa using h
    ·rw [hW, heap_set_ne (by omega)]; exact hbz
    ·intro h; exact HNIL.out (List.map_eq_nil_iff.1 h)
    ·rw [hml]
     refine hon.frame (fun g hg _ => ?_) fun g hg _ => ?_
     ·rw [hszW]
      rcases hg with (hg | hg) | hg
      ·exact .inl hg
      ·exact .inr ⟨by have := hg.1; omega, hg.2⟩
      ·exact .inr hg
     ·rw [hW]
      refine heap_set_ne ?_
      rcases hg with (hg | hg) | hg
      ·have := hg.2; omega
      ·have := hg.1; omega
      ·have := hg.1; omega
    ·simp only [ET.size]; omega
    ·rw [hW]; exact hbw.setCell (p := ⟨H, 1, none⟩) (by show w.heap.size ≤ H; omega) _
   have HW := Lib.hid hW
   clear hr7 hel hbx hbz hbw hon hW hszW hml hH HKR HKD
   go_wp2_with fail
   rw [← HW.out]
   clear c1 f1 HW
   go_loopg [7] (ET.mk o c d (ks.map (ET.fold stepP))).size (fun g s7 wr => (∃ q : Value, s7 = q) ∧ Stp F deep S w H g wr)
   case atStart => exact ⟨⟨_, rfl⟩, HSTP.out⟩
   case round =>
    obtain ⟨-, o', c', d', ks', a', cc', n, hbx, hzr, hne, hon, hgd, hft, hs4, hsn, hlp, rfl, hbw⟩ := hrel
    have hst := step_30 _ o' c' d' ks' a' cc' deep wr hon hft hd1 hgd hs4 hne (tabs_below HT.out hbw h3) (cell_keep hbw HE.out) (Nat.le_trans h3 hbw.size)
    rw [show (ET.mk o' c' d' ks').agg (.slice a' ks'.length cc') = .agg #[.int .u8 o', .slice a' ks'.length cc', .int .i64 c', .int .u8 d'.kind, .bool d'.bool, .int .i64 d'.int, .string d'.text] from rfl] at hst
    have hrl : H + 1 < wr.heap.size := lt_of_heap hzr
    have HRS := Lib.hid (show H + 2 ≤ wr.heap.size by omega)
    have T0 := Lib.hid hbx
    have T1 := Lib.hid hzr
    have HST := Lib.hid hst
    have HBW := Lib.hid hbw
    have HGD := Lib.hid hgd
    have HFT := Lib.hid hft
    have HLP := Lib.hid hlp
    have HON := Lib.hid hon
    have HS4 := Lib.hid (And.intro hs4 hsn)
    clear hbx hzr hne hon hgd hft hs4 hsn hlp hbw hst
    obtain ⟨y0, y1, y2, y3, y4, y5, y6⟩ := cs7 T0.out
    go_wp2_with fail
    refine HST.out.mono ?_
    rintro ev w3 ⟨y, kvy, bb, rfl, hbb, hony, hb3⟩
    obtain ⟨oy, cy, dy, ksy⟩ := y
    obtain ⟨ay, ccy, rfl⟩ := hony.slice
    simp only [ET.kids] at hony ⊢
    rw [show (ET.mk oy cy dy ksy).agg (.slice ay ksy.length ccy) = .agg #[.int .u8 oy, .slice ay ksy.length ccy, .int .i64 cy, .int .u8 dy.kind, .bool dy.bool, .int .i64 dy.int, .string dy.text] from rfl]
    obtain ⟨w4, hw4⟩ : ∃ w4, w4 = w3.alloc (.cells #[.int .u8 oy, .slice ay ksy.length ccy, .int .i64 cy, .int .u8 dy.kind, .bool dy.bool, .int .i64 dy.int, .string dy.text] 27) := ⟨_, rfl⟩
    have hb34 : Below w3.heap.size w3 w4 := by rw [hw4]; exact one_below _ _
    have hb4 : Below wr.heap.size wr w4 := hb3.trans (hb34.mono hb3.size)
    have T04 := Lib.hid ((hb4.block _ (lt_of_heap T0.out)).trans T0.out)
    have T14 := Lib.hid ((hb4.block _ (lt_of_heap T1.out)).trans T1.out)
    have T24 := Lib.hid (show w4.heap[w3.heap.size]? = some _ by rw [hw4]; exact heap_alloc_new _ _)
    have HB4 := Lib.hid (HBW.out.trans (hb4.mono HBW.out.size))
    have HBR := Lib.hid hb4
    have hony4 := hony.below hb34
    have HSZ := Lib.hid (show w3.heap.size ≤ w4.heap.size from hb34.size)
    have HSZ3 := Lib.hid (show wr.heap.size ≤ w3.heap.size from hb3.size)
    have hh3 : H + 1 < w3.heap.size := by have := hb3.size; omega
    have ne1 : H ≠ w3.heap.size := by omega
    have ne2 : H + 1 ≠ w3.heap.size := by omega
    clear hh3 hrl
    have HONY := Lib.hid hony4
    have HBB := Lib.hid hbb
    have HW4 := Lib.hid hw4
    have q0 := cell_of_heap (o := 0) T04.out rfl
    have f0 := frozen_of_heap (o := 0) T04.out
    have z0 := cell_of_heap (o := 0) T14.out rfl
    have g0 := frozen_of_heap (o := 0) T14.out
    have q1 := cell_of_heap (o := 1) T04.out rfl
    have f1 := frozen_of_heap (o := 1) T04.out
    have z1 := cell_of_heap (o := 1) T14.out rfl
    have g1 := frozen_of_heap (o := 1) T14.out
    have q2 := cell_of_heap (o := 2) T04.out rfl
    have f2 := frozen_of_heap (o := 2) T04.out
    have z2 := cell_of_heap (o := 2) T14.out rfl
    have g2 := frozen_of_heap (o := 2) T14.out
    have q3 := cell_of_heap (o := 3) T04.out rfl
    have f3 := frozen_of_heap (o := 3) T04.out
    have z3 := cell_of_heap (o := 3) T14.out rfl
    have g3 := frozen_of_heap (o := 3) T14.out
    have q4 := cell_of_heap (o := 4) T04.out rfl
    have f4 := frozen_of_heap (o := 4) T04.out
    have z4 := cell_of_heap (o := 4) T14.out rfl
    have g4 := frozen_of_heap (o := 4) T14.out
    have q5 := cell_of_heap (o := 5) T04.out rfl
    have f5 := frozen_of_heap (o := 5) T04.out
    have z5 := cell_of_heap (o := 5) T14.out rfl
    have g5 := frozen_of_heap (o := 5) T14.out
    have q6 := cell_of_heap (o := 6) T04.out rfl
    have f6 := frozen_of_heap (o := 6) T04.out
    have z6 := cell_of_heap (o := 6) T14.out rfl
    have g6 := frozen_of_heap (o := 6) T14.out
    rw [hw4] at q0 f0 z0 g0 q1 f1 z1 g1 q2 f2 z2 g2 q3 f3 z3 g3 q4 f4 z4 g4 q5 f5 z5 g5 q6 f6 z6 g6
    clear hony hony4 hbb hb34 hb4 hb3 hw4 y0 y1 y2 y3 y4 y5 y6 HST T0 T1
    cases bb
    ·go_wp2
     rw [← HW4.out]
     refine bodyPost_ret (results_cell_row rfl _ _ (H + 1) 27 _ (0, 0) _ rfl (setRow7_at T14.out) Tryz.underlying27 rfl (by kernel_rfl)) rfl ?_
     obtain ⟨hno, he⟩ : stepP (.mk o' c' d' ks') = none ∧ ET.mk oy cy dy ksy = .mk o' c' d' ks' := by have := HBB.out; rw [if_neg (by decide)] at this; exact this
     clear he
     have hFy : F = .mk o' c' d' ks' := by rw [← HLP.out, loop_none hno]
     subst hFy
     exact ⟨.slice a' ks'.length cc', rfl, fold_end HON.out HBR.out EH.out HB4.out⟩
    ·have hyes : stepP (.mk o' c' d' ks') = some (.mk oy cy dy ksy) := by have := HBB.out; rw [if_pos rfl] at this; exact this
     have hgy := step_good coalOk_P HGD.out hyes
     have hfy := step_fits coalOk_P HFT.out HGD.out HS4.out.1 hyes
     have hsy := step_size' coalOk_P HGD.out hyes
     obtain ⟨m, rfl⟩ : ∃ m, n = m + 1 := ⟨n - 1, by have := (ET.mk o' c' d' ks').size_pos; have := HS4.out.2; omega⟩
     have hly : loopS stepP m (.mk oy cy dy ksy) = F := by rw [← HLP.out, loop_some hyes]
     have HGY := Lib.hid hgy
     have HFY := Lib.hid hfy
     have HLY := Lib.hid hly
     have HSY := Lib.hid (show (ET.mk oy cy dy ksy).size ≤ 4000 ∧ (ET.mk oy cy dy ksy).size ≤ m ∧ (ET.mk oy cy dy ksy).size < (ET.mk o' c' d' ks').size by have := HS4.out.1; have := HS4.out.2; omega)
     clear hyes hgy hfy hsy hly HBB HLP HGD HFT HS4 HON
     by_cases hy0 : ksy = []
     ·subst hy0
      have hFy : F = .mk oy cy dy [] := by rw [← HLY.out, loop_none (step_nokids rfl)]
      subst hFy
      have x0 := cell_of_heap (o := 0) T24.out rfl
      simp only [List.length_nil] at *
      go_wp2
      rw [← HW4.out]
      refine bodyPost_ret (results_cell_row rfl _ _ (H + 1) 27 _ (0, 0) _ rfl (setRow7_at ((setRow7_ne (show H + 1 ≠ H by omega)).trans T14.out)) Tryz.underlying27 rfl (by kernel_rfl)) rfl ?_
      have hH := EH.out
      exact ⟨_, rfl, HONY.out.on.leaf rfl, setRow7_below (setRow7_below HB4.out (by omega)) (by omega)⟩
     ·have hl0 : ((ksy.length : Int) == 0) = false := by
       have : ksy.length ≠ 0 := fun h => hy0 (List.length_eq_zero_iff.1 h)
       simpa using this
      have HY0 := Lib.hid hy0
      clear hy0
      go_wp2_with fail
      rw [← HW4.out]
      have hs2 : Stp F deep S w H (ET.mk oy cy dy ksy).size (setRow7 w4 H (.int .u8 oy) (.slice ay ksy.length ccy) (.int .i64 cy) (.int .u8 dy.kind) (.bool dy.bool) (.int .i64 dy.int) (.string dy.text)) := by
       have hH := EH.out
       have h33 := HSZ3.out
       have h34 := HSZ.out
       refine ⟨oy, cy, dy, ksy, ay, ccy, m, setRow7_at T04.out, (setRow7_ne (by omega)).trans T14.out, HY0.out, HONY.out.frame (fun g hg _ => ?_) (fun g hg _ => setRow7_ne ?_), HGY.out, HFY.out, HSY.out.1, HSY.out.2.1, HLY.out, rfl, setRow7_below HB4.out (by omega)⟩
       ·rw [setRow7_size]
        rcases hg with (hg | hg) | hg
        ·exact .inl hg
        ·exact .inr ⟨hg.1, by have := hg.2; omega⟩
        ·exact .inr ⟨by have := hg.1; have := HRS.out; omega, by have := hg.2; omega⟩
       ·rcases hg with (hg | hg) | hg
        ·have := hg.2; omega
        ·have := hg.1; omega
        ·have := hg.1; have := HRS.out; omega
      have HS2 := Lib.hid hs2
      clear hs2
      go_roundg ((ET.mk oy cy dy ksy).size)
      case measure => exact HSY.out.2.2
      case rel => exact ⟨⟨_, rfl⟩, HS2.out⟩
end Go.Proofs.YtmmhedlagnjbiaaGreatDoor
