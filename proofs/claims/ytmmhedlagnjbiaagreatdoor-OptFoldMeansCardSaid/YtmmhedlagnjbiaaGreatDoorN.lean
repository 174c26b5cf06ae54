import Derived.Test.YtmmhedlagnjbiaaGreatDoorM
import Derived.Test.YtmmhedlagnjbiaaGreatDoorK
/- our texts, shortened by program (pack.py) -/
set_option maxRecDepth 100000
set_option maxHeartbeats 4000000
namespace Go.Proofs.YtmmhedlagnjbiaaGreatDoor
open Go.RowKit Go.Pen
attribute [local go_sem ↓] Go.wp_at_zero Go.wp_at_succ
attribute [local go_sem] Oper.semAt_some
theorem may_go1 (o c : Int) (d : Dat) (ks : List ET) (a : Option Addr) (cc deep p : Nat) (w : World) (ho : o = 1) (hfit : (ET.mk o c d ks).fits) (hd61 : deep ≤ 61) (hp : p ≤ 4000) (hg : deep ≤ 60 ∧ ET.own okD (.mk o c d ks) = true ∧ p + 1 ≤ 4000)
  (ih : ∀ k ∈ ks, ∀ (kv : Value) (deep p : Nat) (w : World), k.At w kv → k.fits → deep ≤ 61 → p ≤ 4000 → Calls Tryz.prog 31 #[k.agg kv, .int .i64 deep, .int .i64 p] w (MayPost k deep p w))
  (hks : ks ≠ [] → ∃ b o, a = some ⟨b, o, none⟩ ∧ True ∧ ET.Ons (fun _ => True) w ks b o) :
  Calls Tryz.prog 31 #[(ET.mk o c d ks).agg (.slice a ks.length cc), .int .i64 deep, .int .i64 p] w (MayPost (.mk o c d ks) deep p w) := by
 simp only [ET.fits] at hfit
 obtain ⟨⟨ho0, ho1⟩, ⟨hc0, hc1⟩, hdf, hkl, hfs⟩ := hfit
 have HF := Lib.hid (ET.fitss_iff.1 hfs)
 have HKS := Lib.hid hks
 have IH := Lib.hid ih
 have hk := fun W => kids_104 o ks.length W ho0 hkl
 have hdc := fun W => check_105 d W hdf
 unfold Dat.agg at hdc
 have HDC := Lib.hid hdc
 have hi0 := hdf.2.1.1
 have hi1 := hdf.2.1.2
 obtain ⟨K, eK⟩ : ∃ K, K = ks.length := ⟨_, rfl⟩
 rw [← eK] at hkl hk
 have HK := Lib.hid hk
 have EK := Lib.hid eK
 clear hfs hks ih hk hdc hdf
 unfold ET.agg
 simp only [ET.op, ET.col, ET.lit]
 rw [← eK]
 clear eK
 obtain ⟨g1, g2, g3⟩ := hg
 have G2 := Lib.hid g2
 obtain ⟨g4, p1, pn1, p2, p3, pz⟩ := own_mk g2
 rw [← EK.out] at g4
 clear g2
 have d1 : (deep : Int) ≤ 60 := by omega
 have d2 : (p : Int) + 1 ≤ 4000 := by omega
 subst ho
 obtain ⟨c0, c9⟩ := p1 rfl
 obtain ⟨l1, l2, l3, l4⟩ := zero_inv (pz (by decide) (by decide))
 clear p1 pn1 p2 p3 pz
 go_enter Tryz.func31, Tryz.ntmps31
 go_wp2_with (first | (go_at_call 55; refine (HK.out _).mono ?_; rintro ev w9 ⟨rfl, rfl⟩) | (go_at_call 26; refine (HDC.out _).mono ?_; rintro ev w1 ⟨rfl, hb9⟩; have hx := one_at hb9; obtain ⟨c0, c1, c2, c3, c4, c5, c6⟩ := cs7 hx; have HB1 := Lib.hid ((one_below _ _).trans (hb9.mono (by simp))); clear hb9 hx))
 obtain ⟨w1, hw1⟩ : ∃ w1, w1 = w.alloc (.cells #[.int .u8 1, .slice a K cc, .int .i64 c, .int .u8 0, .bool false, .int .i64 0, .string ⟨#[]⟩] 27) := ⟨_, rfl⟩
 have hb1 : Below w.heap.size w w1 := by rw [hw1]; exact one_below _ _
 have c1 : w1.cell? ⟨w.heap.size, 1, none⟩ = some (.slice a K cc) := by rw [hw1]; exact cell_of_heap (heap_alloc_new _ _) rfl
 rw [← hw1]
 have HB1 := Lib.hid hb1
 clear hw1 hb1
 go_loopg [2, 8, 9] K (fun g s2 s8 s9 wr => ∃ i q : Nat, i ≤ K ∧ g = K - i ∧ s2 = .int .i64 q ∧ s8 = .int .i64 i ∧ (q = p + 1 + ET.sizes (ks.take i) ∧ ET.goods okD (ks.take i) (deep + 1) = true ∧ q ≤ 4000) ∧ Below w1.heap.size w1 wr)
 case atStart => exact ⟨0, p + 1, Nat.zero_le _, rfl, rfl, rfl, ⟨by simp [ET.sizes], by simp [ET.goods], g3⟩, Below.refl _ _⟩
 case round =>
  obtain ⟨i, q, hi, rfl, rfl, rfl, ⟨hq, hgs, hq4⟩, hbr⟩ := hrel
  have c1r := cell_keep hbr c1
  have HQ := Lib.hid hq
  have HGS := Lib.hid hgs
  clear hq hgs
  by_cases hlt : i < K
  ·obtain ⟨k, hk⟩ : ∃ k, ks[i]? = some k := ⟨ks[i]'(by rw [← EK.out]; exact hlt), List.getElem?_eq_getElem _⟩
   obtain ⟨b, off, rfl, -, hats⟩ := HKS.out (fun e => by rw [e] at hk; simp at hk)
   obtain ⟨kv, hkc, hkat⟩ := hats.get hk
   obtain ⟨a', c', rfl⟩ := hkat.slice
   have hbw : Below w.heap.size w wr := HB1.out.trans (hbr.mono HB1.out.size)
   obtain ⟨k0, k1, k2, k3, k4, k5, k6⟩ := hkc.below hbw
   have hct := IH.out k (List.mem_of_getElem? hk) _ (deep + 1) q wr (hkat.below hbw) (HF.out k (List.mem_of_getElem? hk)) (by omega) hq4
   unfold ET.agg at hct
   have HCT := Lib.hid hct
   have HBR := Lib.hid hbr
   have HK := Lib.hid hk
   clear hats hkc hkat hbw hct hbr hk
   go_wp2_with fail
   refine HCT.out.mono ?_
   rintro ev w2 ⟨B', m', rfl, hB, hm, hb2⟩
   have HB2 : Hid (Below w1.heap.size w1 w2) := HBR.out.trans (hb2.mono HBR.out.size)
   have HBB := Lib.hid hB
   have HM := Lib.hid hm
   clear k0 k1 k2 k3 k4 k5 k6 hb2 HCT hB hm
   cases B'
   ·go_wp2
    go_ret2
    exact may_no (may_kid HK.out HQ.out HBB.out.symm) (HB1.out.trans (HB2.out.mono HB1.out.size))
   ·obtain rfl := HM.out rfl
    have hsz := ET.sizes_take ks i k HK.out
    have hB := HBB.out
    simp only [MayB, eq_comm (a := true), Bool.and_eq_true, decide_eq_true_eq] at hB
    have HSZ := Lib.hid hsz
    have hle := hB.2
    have HGK := Lib.hid hB.1
    clear hsz hB HM HBB
    go_wp2
    go_roundg (K - (i + 1))
    case measure => omega
    case rel =>
     exact ⟨i + 1, q + k.size, by omega, rfl, rfl, by go_num, ⟨by have := HQ.out; have := HSZ.out; omega, ET.goods_take HK.out HGS.out HGK.out, hle⟩, HB2.out⟩
  ·obtain rfl : i = K := by omega
   have HBR := Lib.hid hbr
   clear hbr
   have hwl : ks.take i = ks := List.take_of_length_le (by rw [EK.out]; exact Nat.le_refl _)
   have hq := HQ.out
   have hgs := HGS.out
   rw [hwl] at hq hgs
   have HQ2 := Lib.hid hq
   have HGS2 := Lib.hid hgs
   clear hq hgs hwl
   go_wp2
   go_ret2
   exact may_yes (may_all g1 G2.out HGS2.out (by have := HQ2.out; omega)) (by have := HQ2.out; simp only [ET.size]; omega) (HB1.out.trans (HBR.out.mono HB1.out.size))
theorem may_go2 (o c : Int) (d : Dat) (ks : List ET) (a : Option Addr) (cc deep p : Nat) (w : World) (ho : o = 2) (hfit : (ET.mk o c d ks).fits) (hd61 : deep ≤ 61) (hp : p ≤ 4000) (hg : deep ≤ 60 ∧ ET.own okD (.mk o c d ks) = true ∧ p + 1 ≤ 4000)
  (ih : ∀ k ∈ ks, ∀ (kv : Value) (deep p : Nat) (w : World), k.At w kv → k.fits → deep ≤ 61 → p ≤ 4000 → Calls Tryz.prog 31 #[k.agg kv, .int .i64 deep, .int .i64 p] w (MayPost k deep p w))
  (hks : ks ≠ [] → ∃ b o, a = some ⟨b, o, none⟩ ∧ True ∧ ET.Ons (fun _ => True) w ks b o) :
  Calls Tryz.prog 31 #[(ET.mk o c d ks).agg (.slice a ks.length cc), .int .i64 deep, .int .i64 p] w (MayPost (.mk o c d ks) deep p w) := by
 simp only [ET.fits] at hfit
 obtain ⟨⟨ho0, ho1⟩, ⟨hc0, hc1⟩, hdf, hkl, hfs⟩ := hfit
 have HF := Lib.hid (ET.fitss_iff.1 hfs)
 have HKS := Lib.hid hks
 have IH := Lib.hid ih
 have hk := fun W => kids_104 o ks.length W ho0 hkl
 have hdc := fun W => check_105 d W hdf
 unfold Dat.agg at hdc
 have HDC := Lib.hid hdc
 have hi0 := hdf.2.1.1
 have hi1 := hdf.2.1.2
 obtain ⟨K, eK⟩ : ∃ K, K = ks.length := ⟨_, rfl⟩
 rw [← eK] at hkl hk
 have HK := Lib.hid hk
 have EK := Lib.hid eK
 clear hfs hks ih hk hdc hdf
 unfold ET.agg
 simp only [ET.op, ET.col, ET.lit]
 rw [← eK]
 clear eK
 obtain ⟨g1, g2, g3⟩ := hg
 have G2 := Lib.hid g2
 obtain ⟨g4, p1, pn1, p2, p3, pz⟩ := own_mk g2
 rw [← EK.out] at g4
 clear g2
 have d1 : (deep : Int) ≤ 60 := by omega
 have d2 : (p : Int) + 1 ≤ 4000 := by omega
 subst ho
 obtain rfl := pn1 (by decide)
 have hok := p2 rfl
 simp only [okD, beq_iff_eq] at hok
 rw [hok] at HDC
 clear p1 pn1 p2 p3 pz hok
 go_enter Tryz.func31, Tryz.ntmps31
 go_wp2_with (first | (go_at_call 55; refine (HK.out _).mono ?_; rintro ev w9 ⟨rfl, rfl⟩) | (go_at_call 26; refine (HDC.out _).mono ?_; rintro ev w1 ⟨rfl, hb9⟩; have hx := one_at hb9; obtain ⟨c0, c1, c2, c3, c4, c5, c6⟩ := cs7 hx; have HB1 := Lib.hid ((one_below _ _).trans (hb9.mono (by simp))); clear hb9 hx))
 go_loopg [2, 8, 9] K (fun g s2 s8 s9 wr => ∃ i q : Nat, i ≤ K ∧ g = K - i ∧ s2 = .int .i64 q ∧ s8 = .int .i64 i ∧ (q = p + 1 + ET.sizes (ks.take i) ∧ ET.goods okD (ks.take i) (deep + 1) = true ∧ q ≤ 4000) ∧ Below w1.heap.size w1 wr)
 case atStart => exact ⟨0, p + 1, Nat.zero_le _, rfl, rfl, rfl, ⟨by simp [ET.sizes], by simp [ET.goods], g3⟩, Below.refl _ _⟩
 case round =>
  obtain ⟨i, q, hi, rfl, rfl, rfl, ⟨hq, hgs, hq4⟩, hbr⟩ := hrel
  have c1r := cell_keep hbr c1
  clear c0 c2 c3 c4 c5 c6
  have HQ := Lib.hid hq
  have HGS := Lib.hid hgs
  clear hq hgs
  by_cases hlt : i < K
  ·obtain ⟨k, hk⟩ : ∃ k, ks[i]? = some k := ⟨ks[i]'(by rw [← EK.out]; exact hlt), List.getElem?_eq_getElem _⟩
   obtain ⟨b, off, rfl, -, hats⟩ := HKS.out (fun e => by rw [e] at hk; simp at hk)
   obtain ⟨kv, hkc, hkat⟩ := hats.get hk
   obtain ⟨a', c', rfl⟩ := hkat.slice
   have hbw : Below w.heap.size w wr := HB1.out.trans (hbr.mono HB1.out.size)
   obtain ⟨k0, k1, k2, k3, k4, k5, k6⟩ := hkc.below hbw
   have hct := IH.out k (List.mem_of_getElem? hk) _ (deep + 1) q wr (hkat.below hbw) (HF.out k (List.mem_of_getElem? hk)) (by omega) hq4
   unfold ET.agg at hct
   have HCT := Lib.hid hct
   have HBR := Lib.hid hbr
   have HK := Lib.hid hk
   clear hats hkc hkat hbw hct hbr hk
   go_wp2_with fail
   refine HCT.out.mono ?_
   rintro ev w2 ⟨B', m', rfl, hB, hm, hb2⟩
   have HB2 : Hid (Below w1.heap.size w1 w2) := HBR.out.trans (hb2.mono HBR.out.size)
   have HBB := Lib.hid hB
   have HM := Lib.hid hm
   clear k0 k1 k2 k3 k4 k5 k6 hb2 HCT hB hm
   cases B'
   ·go_wp2
    go_ret2
    exact may_no (may_kid HK.out HQ.out HBB.out.symm) (HB1.out.trans (HB2.out.mono HB1.out.size))
   ·obtain rfl := HM.out rfl
    have hsz := ET.sizes_take ks i k HK.out
    have hB := HBB.out
    simp only [MayB, eq_comm (a := true), Bool.and_eq_true, decide_eq_true_eq] at hB
    have HSZ := Lib.hid hsz
    have hle := hB.2
    have HGK := Lib.hid hB.1
    clear hsz hB HM HBB
    go_wp2
    go_roundg (K - (i + 1))
    case measure => omega
    case rel =>
     exact ⟨i + 1, q + k.size, by omega, rfl, rfl, by go_num, ⟨by have := HQ.out; have := HSZ.out; omega, ET.goods_take HK.out HGS.out HGK.out, hle⟩, HB2.out⟩
  ·obtain rfl : i = K := by omega
   have HBR := Lib.hid hbr
   clear hbr
   have hwl : ks.take i = ks := List.take_of_length_le (by rw [EK.out]; exact Nat.le_refl _)
   have hq := HQ.out
   have hgs := HGS.out
   rw [hwl] at hq hgs
   have HQ2 := Lib.hid hq
   have HGS2 := Lib.hid hgs
   clear hq hgs hwl
   go_wp2
   go_ret2
   exact may_yes (may_all g1 G2.out HGS2.out (by have := HQ2.out; omega)) (by have := HQ2.out; simp only [ET.size]; omega) (HB1.out.trans (HBR.out.mono HB1.out.size))
theorem may_go3 (o c : Int) (d : Dat) (ks : List ET) (a : Option Addr) (cc deep p : Nat) (w : World) (ho : o = 23) (hfit : (ET.mk o c d ks).fits) (hd61 : deep ≤ 61) (hp : p ≤ 4000) (hg : deep ≤ 60 ∧ ET.own okD (.mk o c d ks) = true ∧ p + 1 ≤ 4000)
  (ih : ∀ k ∈ ks, ∀ (kv : Value) (deep p : Nat) (w : World), k.At w kv → k.fits → deep ≤ 61 → p ≤ 4000 → Calls Tryz.prog 31 #[k.agg kv, .int .i64 deep, .int .i64 p] w (MayPost k deep p w))
  (hks : ks ≠ [] → ∃ b o, a = some ⟨b, o, none⟩ ∧ True ∧ ET.Ons (fun _ => True) w ks b o) :
  Calls Tryz.prog 31 #[(ET.mk o c d ks).agg (.slice a ks.length cc), .int .i64 deep, .int .i64 p] w (MayPost (.mk o c d ks) deep p w) := by
 simp only [ET.fits] at hfit
 obtain ⟨⟨ho0, ho1⟩, ⟨hc0, hc1⟩, hdf, hkl, hfs⟩ := hfit
 have HF := Lib.hid (ET.fitss_iff.1 hfs)
 have HKS := Lib.hid hks
 have IH := Lib.hid ih
 have hk := fun W => kids_104 o ks.length W ho0 hkl
 have hdc := fun W => check_105 d W hdf
 unfold Dat.agg at hdc
 have HDC := Lib.hid hdc
 have hi0 := hdf.2.1.1
 have hi1 := hdf.2.1.2
 obtain ⟨K, eK⟩ : ∃ K, K = ks.length := ⟨_, rfl⟩
 rw [← eK] at hkl hk
 have HK := Lib.hid hk
 have EK := Lib.hid eK
 clear hfs hks ih hk hdc hdf
 unfold ET.agg
 simp only [ET.op, ET.col, ET.lit]
 rw [← eK]
 clear eK
 obtain ⟨g1, g2, g3⟩ := hg
 have G2 := Lib.hid g2
 obtain ⟨g4, p1, pn1, p2, p3, pz⟩ := own_mk g2
 rw [← EK.out] at g4
 clear g2
 have d1 : (deep : Int) ≤ 60 := by omega
 have d2 : (p : Int) + 1 ≤ 4000 := by omega
 subst ho
 obtain rfl := pn1 (by decide)
 obtain ⟨hz, l5, l6⟩ := p3 rfl
 obtain ⟨l1, l2, l4⟩ := fail_inv hz
 have hok : chkD d = 0 := by
  have h := okD_fail (n := d.int)
  rw [← hz] at h
  simpa [okD] using h
 rw [hok, l1, l2, l4] at HDC
 clear p1 pn1 p2 p3 pz hok hz
 go_enter Tryz.func31, Tryz.ntmps31
 go_wp2_with (first | (go_at_call 55; refine (HK.out _).mono ?_; rintro ev w9 ⟨rfl, rfl⟩) | (go_at_call 26; refine (HDC.out _).mono ?_; rintro ev w1 ⟨rfl, hb9⟩; have hx := one_at hb9; obtain ⟨c0, c1, c2, c3, c4, c5, c6⟩ := cs7 hx; have HB1 := Lib.hid ((one_below _ _).trans (hb9.mono (by simp))); clear hb9 hx))
 go_loopg [2, 8, 9] K (fun g s2 s8 s9 wr => ∃ i q : Nat, i ≤ K ∧ g = K - i ∧ s2 = .int .i64 q ∧ s8 = .int .i64 i ∧ (q = p + 1 + ET.sizes (ks.take i) ∧ ET.goods okD (ks.take i) (deep + 1) = true ∧ q ≤ 4000) ∧ Below w1.heap.size w1 wr)
 case atStart => exact ⟨0, p + 1, Nat.zero_le _, rfl, rfl, rfl, ⟨by simp [ET.sizes], by simp [ET.goods], g3⟩, Below.refl _ _⟩
 case round =>
  obtain ⟨i, q, hi, rfl, rfl, rfl, ⟨hq, hgs, hq4⟩, hbr⟩ := hrel
  have c1r := cell_keep hbr c1
  clear c0 c2 c3 c4 c5 c6
  have HQ := Lib.hid hq
  have HGS := Lib.hid hgs
  clear hq hgs
  by_cases hlt : i < K
  ·obtain ⟨k, hk⟩ : ∃ k, ks[i]? = some k := ⟨ks[i]'(by rw [← EK.out]; exact hlt), List.getElem?_eq_getElem _⟩
   obtain ⟨b, off, rfl, -, hats⟩ := HKS.out (fun e => by rw [e] at hk; simp at hk)
   obtain ⟨kv, hkc, hkat⟩ := hats.get hk
   obtain ⟨a', c', rfl⟩ := hkat.slice
   have hbw : Below w.heap.size w wr := HB1.out.trans (hbr.mono HB1.out.size)
   obtain ⟨k0, k1, k2, k3, k4, k5, k6⟩ := hkc.below hbw
   have hct := IH.out k (List.mem_of_getElem? hk) _ (deep + 1) q wr (hkat.below hbw) (HF.out k (List.mem_of_getElem? hk)) (by omega) hq4
   unfold ET.agg at hct
   have HCT := Lib.hid hct
   have HBR := Lib.hid hbr
   have HK := Lib.hid hk
   clear hats hkc hkat hbw hct hbr hk
   go_wp2_with fail
   refine HCT.out.mono ?_
   rintro ev w2 ⟨B', m', rfl, hB, hm, hb2⟩
   have HB2 : Hid (Below w1.heap.size w1 w2) := HBR.out.trans (hb2.mono HBR.out.size)
   have HBB := Lib.hid hB
   have HM := Lib.hid hm
   clear k0 k1 k2 k3 k4 k5 k6 hb2 HCT hB hm
   cases B'
   ·go_wp2
    go_ret2
    exact may_no (may_kid HK.out HQ.out HBB.out.symm) (HB1.out.trans (HB2.out.mono HB1.out.size))
   ·obtain rfl := HM.out rfl
    have hsz := ET.sizes_take ks i k HK.out
    have hB := HBB.out
    simp only [MayB, eq_comm (a := true), Bool.and_eq_true, decide_eq_true_eq] at hB
    have HSZ := Lib.hid hsz
    have hle := hB.2
    have HGK := Lib.hid hB.1
    clear hsz hB HM HBB
    go_wp2
    go_roundg (K - (i + 1))
    case measure => omega
    case rel =>
     exact ⟨i + 1, q + k.size, by omega, rfl, rfl, by go_num, ⟨by have := HQ.out; have := HSZ.out; omega, ET.goods_take HK.out HGS.out HGK.out, hle⟩, HB2.out⟩
  ·obtain rfl : i = K := by omega
   have HBR := Lib.hid hbr
   clear hbr
   have hwl : ks.take i = ks := List.take_of_length_le (by rw [EK.out]; exact Nat.le_refl _)
   have hq := HQ.out
   have hgs := HGS.out
   rw [hwl] at hq hgs
   have HQ2 := Lib.hid hq
   have HGS2 := Lib.hid hgs
   clear hq hgs hwl
   go_wp2
   go_ret2
   exact may_yes (may_all g1 G2.out HGS2.out (by have := HQ2.out; omega)) (by have := HQ2.out; simp only [ET.size]; omega) (HB1.out.trans (HBR.out.mono HB1.out.size))
theorem may_go4 (o c : Int) (d : Dat) (ks : List ET) (a : Option Addr) (cc deep p : Nat) (w : World) (ho : ¬ (o = 1 ∨ o = 2 ∨ o = 23)) (hfit : (ET.mk o c d ks).fits) (hd61 : deep ≤ 61) (hp : p ≤ 4000) (hg : deep ≤ 60 ∧ ET.own okD (.mk o c d ks) = true ∧ p + 1 ≤ 4000)
  (ih : ∀ k ∈ ks, ∀ (kv : Value) (deep p : Nat) (w : World), k.At w kv → k.fits → deep ≤ 61 → p ≤ 4000 → Calls Tryz.prog 31 #[k.agg kv, .int .i64 deep, .int .i64 p] w (MayPost k deep p w))
  (hks : ks ≠ [] → ∃ b o, a = some ⟨b, o, none⟩ ∧ True ∧ ET.Ons (fun _ => True) w ks b o) :
  Calls Tryz.prog 31 #[(ET.mk o c d ks).agg (.slice a ks.length cc), .int .i64 deep, .int .i64 p] w (MayPost (.mk o c d ks) deep p w) := by
 simp only [ET.fits] at hfit
 obtain ⟨⟨ho0, ho1⟩, ⟨hc0, hc1⟩, hdf, hkl, hfs⟩ := hfit
 have HF := Lib.hid (ET.fitss_iff.1 hfs)
 have HKS := Lib.hid hks
 have IH := Lib.hid ih
 have hk := fun W => kids_104 o ks.length W ho0 hkl
 have hdc := fun W => check_105 d W hdf
 unfold Dat.agg at hdc
 have HDC := Lib.hid hdc
 have hi0 := hdf.2.1.1
 have hi1 := hdf.2.1.2
 obtain ⟨K, eK⟩ : ∃ K, K = ks.length := ⟨_, rfl⟩
 rw [← eK] at hkl hk
 have HK := Lib.hid hk
 have EK := Lib.hid eK
 clear hfs hks ih hk hdc hdf
 unfold ET.agg
 simp only [ET.op, ET.col, ET.lit]
 rw [← eK]
 clear eK
 obtain ⟨g1, g2, g3⟩ := hg
 have G2 := Lib.hid g2
 obtain ⟨g4, p1, pn1, p2, p3, pz⟩ := own_mk g2
 rw [← EK.out] at g4
 clear g2
 have d1 : (deep : Int) ≤ 60 := by omega
 have d2 : (p : Int) + 1 ≤ 4000 := by omega
 have o1 : ¬ o = 1 := fun h => ho (.inl h)
 have o2 : ¬ o = 2 := fun h => ho (.inr (.inl h))
 have o3 : ¬ o = 23 := fun h => ho (.inr (.inr h))
 have e1 : (o != 1) = true := by simpa using o1
 have e2 : (o != 2) = true := by simpa using o2
 have e3 : (o != 23) = true := by simpa using o3
 obtain rfl := pn1 o1
 obtain ⟨l1, l2, l3, l4⟩ := zero_inv (pz o2 o3)
 clear p1 pn1 p2 p3 pz ho
 go_enter Tryz.func31, Tryz.ntmps31
 go_wp2_with (first | (go_at_call 55; refine (HK.out _).mono ?_; rintro ev w9 ⟨rfl, rfl⟩) | (go_at_call 26; refine (HDC.out _).mono ?_; rintro ev w1 ⟨rfl, hb9⟩; have hx := one_at hb9; obtain ⟨c0, c1, c2, c3, c4, c5, c6⟩ := cs7 hx; have HB1 := Lib.hid ((one_below _ _).trans (hb9.mono (by simp))); clear hb9 hx))
 obtain ⟨w1, hw1⟩ : ∃ w1, w1 = w.alloc (.cells #[.int .u8 o, .slice a K cc, .int .i64 0, .int .u8 0, .bool false, .int .i64 0, .string ⟨#[]⟩] 27) := ⟨_, rfl⟩
 have hb1 : Below w.heap.size w w1 := by rw [hw1]; exact one_below _ _
 have c1 : w1.cell? ⟨w.heap.size, 1, none⟩ = some (.slice a K cc) := by rw [hw1]; exact cell_of_heap (heap_alloc_new _ _) rfl
 rw [← hw1]
 have HB1 := Lib.hid hb1
 clear hw1 hb1
 go_loopg [2, 8, 9] K (fun g s2 s8 s9 wr => ∃ i q : Nat, i ≤ K ∧ g = K - i ∧ s2 = .int .i64 q ∧ s8 = .int .i64 i ∧ (q = p + 1 + ET.sizes (ks.take i) ∧ ET.goods okD (ks.take i) (deep + 1) = true ∧ q ≤ 4000) ∧ Below w1.heap.size w1 wr)
 case atStart => exact ⟨0, p + 1, Nat.zero_le _, rfl, rfl, rfl, ⟨by simp [ET.sizes], by simp [ET.goods], g3⟩, Below.refl _ _⟩
 case round =>
  obtain ⟨i, q, hi, rfl, rfl, rfl, ⟨hq, hgs, hq4⟩, hbr⟩ := hrel
  have c1r := cell_keep hbr c1
  have HQ := Lib.hid hq
  have HGS := Lib.hid hgs
  clear hq hgs
  by_cases hlt : i < K
  ·obtain ⟨k, hk⟩ : ∃ k, ks[i]? = some k := ⟨ks[i]'(by rw [← EK.out]; exact hlt), List.getElem?_eq_getElem _⟩
   obtain ⟨b, off, rfl, -, hats⟩ := HKS.out (fun e => by rw [e] at hk; simp at hk)
   obtain ⟨kv, hkc, hkat⟩ := hats.get hk
   obtain ⟨a', c', rfl⟩ := hkat.slice
   have hbw : Below w.heap.size w wr := HB1.out.trans (hbr.mono HB1.out.size)
   obtain ⟨k0, k1, k2, k3, k4, k5, k6⟩ := hkc.below hbw
   have hct := IH.out k (List.mem_of_getElem? hk) _ (deep + 1) q wr (hkat.below hbw) (HF.out k (List.mem_of_getElem? hk)) (by omega) hq4
   unfold ET.agg at hct
   have HCT := Lib.hid hct
   have HBR := Lib.hid hbr
   have HK := Lib.hid hk
   clear hats hkc hkat hbw hct hbr hk
   go_wp2_with fail
   refine HCT.out.mono ?_
   rintro ev w2 ⟨B', m', rfl, hB, hm, hb2⟩
   have HB2 : Hid (Below w1.heap.size w1 w2) := HBR.out.trans (hb2.mono HBR.out.size)
   have HBB := Lib.hid hB
   have HM := Lib.hid hm
   clear k0 k1 k2 k3 k4 k5 k6 hb2 HCT hB hm
   cases B'
   ·go_wp2
    go_ret2
    exact may_no (may_kid HK.out HQ.out HBB.out.symm) (HB1.out.trans (HB2.out.mono HB1.out.size))
   ·obtain rfl := HM.out rfl
    have hsz := ET.sizes_take ks i k HK.out
    have hB := HBB.out
    simp only [MayB, eq_comm (a := true), Bool.and_eq_true, decide_eq_true_eq] at hB
    have HSZ := Lib.hid hsz
    have hle := hB.2
    have HGK := Lib.hid hB.1
    clear hsz hB HM HBB
    go_wp2
    go_roundg (K - (i + 1))
    case measure => omega
    case rel =>
     exact ⟨i + 1, q + k.size, by omega, rfl, rfl, by go_num, ⟨by have := HQ.out; have := HSZ.out; omega, ET.goods_take HK.out HGS.out HGK.out, hle⟩, HB2.out⟩
  ·obtain rfl : i = K := by omega
   have HBR := Lib.hid hbr
   clear hbr
   have hwl : ks.take i = ks := List.take_of_length_le (by rw [EK.out]; exact Nat.le_refl _)
   have hq := HQ.out
   have hgs := HGS.out
   rw [hwl] at hq hgs
   have HQ2 := Lib.hid hq
   have HGS2 := Lib.hid hgs
   clear hq hgs hwl
   go_wp2
   go_ret2
   exact may_yes (may_all g1 G2.out HGS2.out (by have := HQ2.out; omega)) (by have := HQ2.out; simp only [ET.size]; omega) (HB1.out.trans (HBR.out.mono HB1.out.size))
theorem may_73 : ∀ (e : ET) (kv : Value) (deep p : Nat) (w : World), e.At w kv → e.fits → deep ≤ 61 → p ≤ 4000 →
  Calls Tryz.prog 31 #[e.agg kv, .int .i64 deep, .int .i64 p] w (MayPost e deep p w) := by
 refine ET.ind fun o c d ks ih kv deep p w hat hfit hd61 hp => ?_
 obtain ⟨a, cc, rfl, -, hks⟩ := ET.On.iff.1 hat
 by_cases hg : deep ≤ 60 ∧ ET.own okD (.mk o c d ks) = true ∧ p + 1 ≤ 4000
 ·by_cases o1 : o = 1
  ·exact may_go1 o c d ks a cc deep p w o1 hfit hd61 hp hg ih hks
  by_cases o2 : o = 2
  ·exact may_go2 o c d ks a cc deep p w o2 hfit hd61 hp hg ih hks
  by_cases o3 : o = 23
  ·exact may_go3 o c d ks a cc deep p w o3 hfit hd61 hp hg ih hks
  ·exact may_go4 o c d ks a cc deep p w (by rintro (h | h | h); exact o1 h; exact o2 h; exact o3 h) hfit hd61 hp hg ih hks
 ·by_cases o1 : o = 1
  ·exact may_no1 o c d ks a cc deep p w o1 hfit hd61 hp hg
  by_cases o2 : o = 2
  ·exact may_no2 o c d ks a cc deep p w o2 hfit hd61 hp hg
  by_cases o3 : o = 23
  ·exact may_no3 o c d ks a cc deep p w o3 hfit hd61 hp hg
  ·exact may_no4 o c d ks a cc deep p w (by rintro (h | h | h); exact o1 h; exact o2 h; exact o3 h) hfit hd61 hp hg
end Go.Proofs.YtmmhedlagnjbiaaGreatDoor
namespace Go.Proofs.YtmmhedlagnjbiaaGreatDoor
open Go.RowKit Go.Pen
attribute [local go_sem] Oper.semAt_some
theorem own_col_nn {c : Int} {d : Dat} {ks : List ET} (h : ET.own okD (.mk 1 c d ks) = true) : 0 ≤ c := ((own_mk h).2.1 rfl).1
theorem results_row_tmp {P : Program} {fn : Func} {p u : Tmp} {ty : TypeId} (h : fn.results = #[.cell p ty, .tmp u]) (tmps : Array Value) (w : World) (g : Nat) (t : TypeId) (cs : Array Value) (fr : Nat × Nat) (d : TypeDesc)
  (hp : tmps.getD p undef = .pointer (some ⟨g, 0, none⟩)) (hg : w.heap[g]? = some (.cells cs t fr))
  (hu : P.underlying ty = some d) (hd : (match d with | .struct _ | .array _ _ => true | _ => false) = true) (hi : (P.info? ty).map (·.size) = some cs.size) :
  (results fn tmps).run P w = .ok (.tuple #[.agg cs, tmps.getD u undef]) w := by
 have hp' : tmps[p]?.getD undef = .pointer (some ⟨g, 0, none⟩) := by simpa using hp
 simp [results, h, hp', asAddr, run_loadVar_row w g t ty cs fr d hg hu hd hi]
theorem two_at {w w1 : World} {a b : Obj} (hb : Below ((w.alloc a).alloc b).heap.size ((w.alloc a).alloc b) w1) : w1.heap[w.heap.size]? = some a ∧ w1.heap[w.heap.size + 1]? = some b := by
 refine ⟨(hb.block _ (by simp <;> omega)).trans ?_, (hb.block _ (by simp <;> omega)).trans ?_⟩
 ·rw [Below.heap_alloc _ _ _ (by simp <;> omega)]
  exact heap_alloc_new w a
 ·have h := heap_alloc_new (w.alloc a) b
  rw [World.size_alloc] at h
  exact h
theorem four_below (w : World) (a b c d : Obj) : Below w.heap.size w ((((w.alloc a).alloc b).alloc c).alloc d) := (three_below w a b c).alloc (by simp <;> omega) _
theorem mayB_may (e : ET) : MayB e 1 0 = e.may okD := by simp [MayB, ET.may]
theorem check_33 (e : ET) (a : Option Addr) (n cc : Nat) (w : World) (hat : e.At w (.slice a n cc)) (hfit : e.fits) :
  Calls Tryz.prog 19 #[e.agg (.slice a n cc)] w fun ev w' => ev = .returned (.int .i64 (if e.may okD then 0 else 30)) ∧ Below w.heap.size w w' := by
 have hm := fun (W : World) (hb : Below w.heap.size w W) => may_73 e _ 1 0 W (hat.below hb) hfit (by decide) (by decide)
 unfold ET.agg at hm
 have HM := Lib.hid hm
 clear hm hat
 unfold ET.agg
 obtain ⟨X, eX⟩ : ∃ X : Int, X = if e.may okD = true then 0 else 30 := ⟨_, rfl⟩
 rw [← eX]
 have EX := Lib.hid eX
 clear eX
 go_enter Tryz.func19, Tryz.ntmps19
 go_wp2_with fail
 refine (HM.out _ (one_below _ _)).mono ?_
 rintro ev w2 ⟨B, m, rfl, hB, -, hb2⟩
 have hB2 : Below w.heap.size w w2 := (one_below _ _).trans (hb2.mono (by simp))
 rw [mayB_may] at hB
 have HB2 := Lib.hid hB2
 have HBB := Lib.hid hB
 clear hB hb2 hB2
 cases B
 ·go_wp2
  go_ret
  have h := EX.out
  rw [← HBB.out] at h
  exact ⟨by rw [h]; rfl, HB2.out⟩
 ·go_wp2
  go_ret
  have h := EX.out
  rw [← HBB.out] at h
  exact ⟨by rw [h]; rfl, HB2.out⟩
theorem far_8 (e : ET) (a : Option Addr) (n cc : Nat) (w : World) (hat : e.At w (.slice a n cc)) (hfit : e.fits) :
  Calls Tryz.prog 5 #[e.agg (.slice a n cc)] w fun ev w' => ev = .returned (.bool (decide (12000 < e.weight))) ∧ Below w.heap.size w w' := by
 have hm := fun (W : World) (hb : Below w.heap.size w W) => parts_39 e _ 0 W (hat.below hb) hfit (by decide)
 unfold ET.agg at hm
 have HM := Lib.hid hm
 clear hm hat
 unfold ET.agg
 obtain ⟨X, eX⟩ : ∃ X : Bool, X = decide (12000 < e.weight) := ⟨_, rfl⟩
 rw [← eX]
 have EX := Lib.hid eX
 clear eX
 go_enter Tryz.func5, Tryz.ntmps5
 go_wp2_with fail
 refine (HM.out _ (one_below _ _)).mono ?_
 rintro ev w2 ⟨m, rfl, ⟨h1, h2, h3⟩, hb2⟩
 have hB2 : Below w.heap.size w w2 := (one_below _ _).trans (hb2.mono (by simp))
 have hq : X = decide ((12000 : Int) < (m : Int)) := by
  rw [EX.out]
  by_cases h : 12000 < e.weight
  ·rw [decide_eq_true h, decide_eq_true (by have := h2 (by omega); omega)]
  ·rw [decide_eq_false h, decide_eq_false (by have := h1 (by omega); omega)]
 subst hq
 clear h1 h2 hb2 EX
 go_wp2
 go_ret
 exact ⟨rfl, hB2⟩
end Go.Proofs.YtmmhedlagnjbiaaGreatDoor
