import Derived.Test.YtmmhedlagnjbiaaGreatDoorGa
import Derived.Test.YtmmhedlagnjbiaaGreatDoorVe
import Derived.Test.YtmmhedlagnjbiaaGreatDoorUd
import Derived.Test.YtmmhedlagnjbiaaGreatDoorGc
import Derived.Test.YtmmhedlagnjbiaaGreatDoorUm
/- our texts, shortened by program (pack.py) -/
set_option maxRecDepth 100000
set_option maxHeartbeats 2000000
namespace Go.Proofs.YtmmhedlagnjbiaaGreatDoor
open Go.RowKit Go.Pen Go.Shelf
attribute [local go_sem] Oper.semAt_some
theorem keepB {W W' : World} {g : Nat} {y : Obj} (h : W.heap[g]? = some y) (hb : Below W.heap.size W W') : W'.heap[g]? = some y := (hb.block _ (lt_of_heap h)).trans h
theorem keepAt' {W : World} {g : Nat} {y : Obj} (h : W.heap[g]? = some y) (A : Obj) : (W.alloc A).heap[g]? = some y := (Below.heap_alloc _ _ _ (lt_of_heap h)).trans h
theorem stepB {w W W' : World} (h : Below w.heap.size w W) (hb : Below W.heap.size W W') : Below w.heap.size w W' := h.trans (hb.mono h.size)
theorem stepA {W W' : World} {A : Obj} (hb : Below (W.alloc A).heap.size (W.alloc A) W') : Below W.heap.size W W' := (one_below _ _).trans (hb.mono (by simp))
end Go.Proofs.YtmmhedlagnjbiaaGreatDoor
namespace Go.Proofs.YtmmhedlagnjbiaaGreatDoor
open Go.RowKit Go.Pen Go.Shelf
attribute [local go_sem ↓] Go.wp_at_zero Go.wp_at_succ
attribute [local go_sem] Oper.semAt_some
def RefOK (r : List Dat) (rv : Value) (w : World) (k : ET) : Prop := ∀ (kv : Value) (W : World), Below w.heap.size w W → k.At W kv → Calls Tryz.prog 25 #[k.agg kv, rv] W (RefPost (k.val r) W)
theorem ref_col (r : List Dat) (ra : Option Addr) (rc : Nat) (c : Int) (d : Dat) (ks : List ET) (a : Option Addr) (cc : Nat) (w : World) (hr : DatsOn (fun _ => True) w r (.slice ra r.length rc)) (h0 : 0 ≤ c) (h1 : c < r.length) :
  Calls Tryz.prog 25 #[(ET.mk 1 c d ks).agg (.slice a ks.length cc), .slice ra r.length rc] w (RefPost ((ET.mk 1 c d ks).val r) w) := by
 obtain ⟨ra', rc', hv, -, hci⟩ := hr
 cases hv
 obtain ⟨b, off, rfl, -, hcs⟩ := hci (List.ne_nil_of_length_pos (by omega))
 obtain ⟨x, hx⟩ : ∃ x, r[c.toNat]? = some x := ⟨r[c.toNat]'(by omega), List.getElem?_eq_getElem _⟩
 obtain ⟨k0, k1, k2, k3⟩ := hcs _ _ hx
 have hval : (ET.mk 1 c d ks).val r = (x, 0) := by
  simp only [ET.val, if_pos, List.getD_eq_getElem?_getD, hx]
  rfl
 rw [hval]
 have xl : b < w.heap.size := World.block_lt_of_cell? w _ k0
 have xc : (c.toNat : Int) = c := by omega
 have q0 := fun (A B : Obj) => cell_keep (two_below w A B) k0
 have q1 := fun (A B : Obj) => cell_keep (two_below w A B) k1
 have q2 := fun (A B : Obj) => cell_keep (two_below w A B) k2
 have q3 := fun (A B : Obj) => cell_keep (two_below w A B) k3
 clear hci hcs hx hval
 unfold ET.agg
 simp only [ET.op, ET.col, ET.lit]
 go_enter Tryz.func25, Tryz.ntmps25
 go_wp2_with fail
 refine bodyPost_ret (results_row_tmp rfl _ _ (w.heap.size + 1) 25 _ (0, 0) _ rfl (two_at (Below.refl _ _)).2 Tryz.underlying25 rfl (by kernel_rfl)) rfl ?_
 exact ⟨rfl, two_below _ _ _⟩
theorem ref_lit (r : List Dat) (rv : Value) (c : Int) (d : Dat) (ks : List ET) (a : Option Addr) (cc : Nat) (w : World) :
  Calls Tryz.prog 25 #[(ET.mk 2 c d ks).agg (.slice a ks.length cc), rv] w (RefPost ((ET.mk 2 c d ks).val r) w) := by
 have hval : (ET.mk 2 c d ks).val r = (d, 0) := by simp [ET.val]
 rw [hval]
 clear hval
 unfold ET.agg
 simp only [ET.op, ET.col, ET.lit]
 go_enter Tryz.func25, Tryz.ntmps25
 go_wp2_with fail
 refine bodyPost_ret (results_row_tmp rfl _ _ (w.heap.size + 1) 25 _ (0, 0) _ rfl (two_at (Below.refl _ _)).2 Tryz.underlying25 rfl (by kernel_rfl)) rfl ?_
 exact ⟨rfl, two_below _ _ _⟩
theorem ref_fail (r : List Dat) (rv : Value) (c : Int) (d : Dat) (ks : List ET) (a : Option Addr) (cc : Nat) (w : World) (h1 : 1 ≤ d.int) (h2 : d.int ≤ 65535) :
  Calls Tryz.prog 25 #[(ET.mk 23 c d ks).agg (.slice a ks.length cc), rv] w (RefPost ((ET.mk 23 c d ks).val r) w) := by
 have hval : (ET.mk 23 c d ks).val r = bad d.int.toNat := by simp [ET.val]
 rw [hval]
 have hev : resI (bad d.int.toNat) = .tuple #[Dat.zero.agg, .int .i64 d.int] := by
  simp only [resI, bad]
  rw [show ((d.int.toNat : Nat) : Int) = d.int by omega]
 have HEV := Lib.hid hev
 clear hval hev
 unfold ET.agg
 simp only [ET.op, ET.col, ET.lit]
 go_enter Tryz.func25, Tryz.ntmps25
 go_wp2_with fail
 go_region
 go_wp2
 refine bodyPost_ret (results_row_tmp rfl _ _ (w.heap.size + 1) 25 _ (0, 0) _ rfl (two_at (Below.refl _ _)).2 Tryz.underlying25 rfl (by kernel_rfl)) rfl ?_
 refine ⟨?_, below_drewN (n := 1) (two_below _ _ _)⟩
 rw [HEV.out]
 rfl
theorem chk_kind {d : Dat} (h : chkD d = 0) : 1 ≤ d.kind ∧ d.kind ≤ 4 := by
 unfold chkD at h
 split at h
 ·cases h
 ·omega
theorem chk_boo {d : Dat} (h : chkD d = 0) (hk : d.kind = 2) : d = boo d.bool := by
 obtain ⟨k, b, n, t⟩ := d
 simp only at hk
 subst hk
 unfold chkD at h
 split at h
 ·cases h
 ·split at h
  ·cases h
  ·next h1 =>
   have hn : n = 0 := by
    by_cases e : n = 0
    ·exact e
    ·exact absurd (.inr (.inl ⟨(by show (2 : Int) ≠ 3; decide), e⟩)) h1
   have ht : t.data.toList = [] := by
    by_cases e : t.data.toList = []
    ·exact e
    ·exact absurd (.inr (.inr ⟨(by show (2 : Int) ≠ 4; decide), e⟩)) h1
   have ht2 : t = ⟨#[]⟩ := by
    cases t with | mk a => cases a with | mk l => simp only at ht; subst ht; rfl
   rw [hn, ht2]
   rfl
theorem truth_bad {v : Res} (h : v.2 ≠ 0) : truth v = (v.2, false, false) := by simp [truth, h]
theorem truth_no {v : Res} (h : v.2 = 0) (h2 : chkD v.1 ≠ 0) : truth v = (31, false, false) := by simp [truth, h, okD, h2]
theorem truth_far {v : Res} (h : v.2 = 0) (h2 : chkD v.1 = 0) (h3 : v.1.kind ≠ 1) (h4 : v.1.kind ≠ 2) : truth v = (31, false, false) := by
 have := chk_kind h2
 have h5 : 2 < v.1.kind := by omega
 simp [truth, h, h5]
theorem truth_one {v : Res} (h : v.2 = 0) (h2 : chkD v.1 = 0) (h3 : v.1.kind = 1) : truth v = (0, v.1.bool, true) := by simp [truth, h, okD, h2, h3]
theorem truth_two {v : Res} (h : v.2 = 0) (h2 : chkD v.1 = 0) (h3 : v.1.kind = 2) : truth v = (0, v.1.bool, false) := by simp [truth, h, okD, h2, h3]
theorem rlogic_90 (stop : Bool) (r : List Dat) (rv : Value) (o c : Int) (d : Dat) (ks : List ET) (a : Option Addr) (cc : Nat) (w : World) (hl : ks.length = 2)
  (hks : ks ≠ [] → ∃ b o, a = some ⟨b, o, none⟩ ∧ True ∧ ET.Ons (fun _ => True) w ks b o) (hev : ∀ k ∈ ks, RefOK r rv w k) (hro : ∀ k ∈ ks, ResOk (k.val r)) :
  Calls Tryz.prog 38 #[(ET.mk o c d ks).agg (.slice a ks.length cc), rv, .bool stop] w (RefPost (logic stop false (ET.vals r ks)) w) := by
 obtain ⟨R, eR⟩ : ∃ R, R = logic stop false (ET.vals r ks) := ⟨_, rfl⟩
 rw [← eR]
 obtain ⟨K, eK⟩ : ∃ K, K = ks.length := ⟨_, rfl⟩
 rw [← eK] at hl ⊢
 have EK := Lib.hid eK
 have ER := Lib.hid eR
 obtain ⟨b, off, rfl, -, hats⟩ := hks (fun e => by rw [e] at eK; simp at eK; omega)
 have HATS := Lib.hid hats
 have HEV := Lib.hid hev
 have HRO := Lib.hid hro
 clear eR eK hks hev hats hro
 unfold ET.agg
 simp only [ET.op, ET.col, ET.lit]
 obtain ⟨w1, hw1⟩ : ∃ w1, w1 = (w.alloc (.cells #[.int .u8 o, .slice (some ⟨b, off, none⟩) K cc, .int .i64 c, .int .u8 d.kind, .bool d.bool, .int .i64 d.int, .string d.text] 27)).alloc (.cells #[.int .u8 0, .bool false, .int .i64 0, .string ⟨#[]⟩] 25) := ⟨_, rfl⟩
 have hb1 : Below w.heap.size w w1 := by rw [hw1]; exact two_below _ _ _
 have ht := two_at (w := w) (w1 := w1) (a := .cells #[.int .u8 o, .slice (some ⟨b, off, none⟩) K cc, .int .i64 c, .int .u8 d.kind, .bool d.bool, .int .i64 d.int, .string d.text] 27) (b := .cells #[.int .u8 0, .bool false, .int .i64 0, .string ⟨#[]⟩] 25) (by rw [hw1]; exact Below.refl _ _)
 have HB1 := Lib.hid hb1
 have T0 := Lib.hid ht.1
 have T1 := Lib.hid ht.2
 have HW1 := Lib.hid hw1
 clear hb1 ht hw1
 have HL2 := Lib.hid hl
 clear hl
 go_enter Tryz.func38, Tryz.ntmps38
 go_wp2_with fail
 rw [← HW1.out]
 go_loopg [8, 9] K (fun g s8 s9 wr => ∃ (i : Nat) (so : Bool), i ≤ K ∧ g = K - i ∧ s9 = .int .i64 i ∧ s8 = .bool so ∧ logic stop so ((ET.vals r ks).drop i) = R ∧ wr.heap[w.heap.size]? = some (.cells #[.int .u8 o, .slice (some ⟨b, off, none⟩) K cc, .int .i64 c, .int .u8 d.kind, .bool d.bool, .int .i64 d.int, .string d.text] 27 (0, 0)) ∧ wr.heap[w.heap.size + 1]? = some (.cells #[.int .u8 0, .bool false, .int .i64 0, .string ⟨#[]⟩] 25 (0, 0)) ∧ Below w.heap.size w wr)
 case atStart => exact ⟨0, false, Nat.zero_le _, rfl, rfl, rfl, by rw [List.drop_zero]; exact ER.out.symm, T0.out, T1.out, HB1.out⟩
 case round =>
  obtain ⟨i, so, hi, rfl, rfl, rfl, hlog, ht0, ht1, hbr⟩ := hrel
  have y1 := cell_of_heap (o := 1) ht0 rfl
  have HT0 := Lib.hid ht0
  have HT1 := Lib.hid ht1
  have HBR := Lib.hid hbr
  by_cases hlt : i < K
  ·have hi2 : i < 2 := by have := HL2.out; omega
   obtain ⟨k, hk⟩ : ∃ k, ks[i]? = some k := ⟨ks[i]'(by rw [← EK.out]; exact hlt), List.getElem?_eq_getElem _⟩
   obtain ⟨kv, hkc, hkat⟩ := HATS.out.get hk
   obtain ⟨a', c', rfl⟩ := hkat.slice
   obtain ⟨k0, k1, k2, k3, k4, k5, k6⟩ := hkc.below hbr
   have hct := HEV.out k (List.mem_of_getElem? hk) _ wr hbr (hkat.below hbr)
   have hfv := (HRO.out k (List.mem_of_getElem? hk)).1
   unfold ET.agg at hct
   rw [vals_at hk] at hlog
   have HCT := Lib.hid hct
   have HLOG := Lib.hid hlog
   clear hkc hkat hct hk hlog hbr ht0 ht1
   go_wp2_with fail
   refine HCT.out.mono ?_
   rintro ev w2 ⟨rfl, hb2⟩
   have HB2 : Hid (Below w.heap.size w w2) := Lib.hid (HBR.out.trans (hb2.mono HBR.out.size))
   have t0 := (hb2.block _ (lt_of_heap HT0.out)).trans HT0.out
   have t2 := (hb2.block _ (lt_of_heap HT1.out)).trans HT1.out
   have T20 := Lib.hid t0
   have T2 := Lib.hid t2
   have KEEP : Hid (∀ (A : Obj) {g : Nat} {y : Obj}, w2.heap[g]? = some y → (w2.alloc A).heap[g]? = some y) := fun A {g} {y} h => (Below.heap_alloc _ _ _ (lt_of_heap h)).trans h
   have hlog := HLOG.out
   simp only [logic] at hlog
   clear hb2 HCT HLOG k0 k1 k2 k3 k4 k5 k6 y1
   generalize k.val r = v at *
   unfold resI Dat.agg
   by_cases en : v.2 = 0
   rotate_left
   ·rw [truth_bad en] at hlog
    simp only at hlog
    rw [if_pos en] at hlog
    have hev : resI R = .tuple #[Dat.zero.agg, .int .i64 v.2] := by rw [← hlog]; rfl
    have HV := Lib.hid hev
    have q : ((v.2 : Int) != 0) = true := by simp; exact en
    have z0 := fun A => cell_of_heap (o := 0) (KEEP.out A t2) rfl
    have g0 := fun A => frozen_of_heap (o := 0) (KEEP.out A t2)
    have z1 := fun A => cell_of_heap (o := 1) (KEEP.out A t2) rfl
    have g1 := fun A => frozen_of_heap (o := 1) (KEEP.out A t2)
    have z2 := fun A => cell_of_heap (o := 2) (KEEP.out A t2) rfl
    have g2 := fun A => frozen_of_heap (o := 2) (KEEP.out A t2)
    have z3 := fun A => cell_of_heap (o := 3) (KEEP.out A t2) rfl
    have g3 := fun A => frozen_of_heap (o := 3) (KEEP.out A t2)
    clear hev hlog en t2 t0 hfv
    go_wp2
    refine bodyPost_ret (results_row_tmp rfl _ _ (w.heap.size + 1) 25 _ (0, 0) _ rfl (setRow4_at (KEEP.out _ T2.out)) Tryz.underlying25 rfl (by kernel_rfl)) rfl ?_
    exact ⟨by rw [HV.out]; rfl, setRow4_below (HB2.out.alloc HB2.out.size _) (by show w.heap.size ≤ w.heap.size + 1; omega)⟩
   ·rw [en]
    have hcw := check_105 v.1 (w2.alloc (.cells #[.int .u8 v.1.kind, .bool v.1.bool, .int .i64 v.1.int, .string v.1.text] 25)) hfv
    unfold Dat.agg at hcw
    by_cases ec : chkD v.1 = 0
    rotate_left
    ·rw [truth_no en ec] at hlog
     simp only at hlog
     rw [if_pos (by decide)] at hlog
     have hev : resI R = .tuple #[Dat.zero.agg, .int .i64 31] := by rw [← hlog]; rfl
     have HV := Lib.hid hev
     have HCW := Lib.hid hcw
     have q : ((chkD v.1 : Int) != 0) = true := by simp; exact ec
     clear hev hlog en t2 t0 hfv hcw ec
     go_wp2_with (go_at_call 26; refine HCW.out.mono ?_; rintro ev w4 ⟨rfl, hb4⟩; have t4 := one_at hb4; obtain ⟨v0, v1, v2, v3⟩ := cs4 t4; have hb4' := (one_below w2 (.cells #[.int .u8 v.1.kind, .bool v.1.bool, .int .i64 v.1.int, .string v.1.text] 25)).trans (hb4.mono (by simp)); have t0 := (hb4'.block _ (lt_of_heap T20.out)).trans T20.out; have t2 := (hb4'.block _ (lt_of_heap T2.out)).trans T2.out; have y1 := cell_of_heap (o := 1) t0 rfl; obtain ⟨z0, g0, z1, g1, z2, g2, z3, g3⟩ := cf4 t2; have T40 := Lib.hid t0; have T42 := Lib.hid t2; have HB4 := Lib.hid (HB2.out.trans (hb4'.mono HB2.out.size)); clear hb4 hb4' t0 t2 t4 HCW)
     refine bodyPost_ret (results_row_tmp rfl _ _ (w.heap.size + 1) 25 _ (0, 0) _ rfl (setRow4_at T42.out) Tryz.underlying25 rfl (by kernel_rfl)) rfl ?_
     exact ⟨by rw [HV.out]; rfl, setRow4_below HB4.out (by show w.heap.size ≤ w.heap.size + 1; omega)⟩
    ·rw [ec] at hcw
     have HCW := Lib.hid hcw
     by_cases e1 : v.1.kind = 1
     ·rw [truth_one en ec e1] at hlog
      simp only at hlog
      rw [if_neg (fun h => h rfl)] at hlog
      have q1 : (v.1.kind != 1) = false := by simp [e1]
      have q2 : (v.1.kind != 2) = true := by simp [e1]
      have q3 : (v.1.kind == 1) = true := by simp [e1]
      have hl2 : logic stop true ((ET.vals r ks).drop (i + 1)) = R := by rw [← hlog]; cases so <;> rfl
      have HL := Lib.hid hl2
      clear hl2 hlog en t2 t0 hfv hcw ec e1
      go_wp2_with (go_at_call 26; refine HCW.out.mono ?_; rintro ev w4 ⟨rfl, hb4⟩; have t4 := one_at hb4; obtain ⟨v0, v1, v2, v3⟩ := cs4 t4; have hb4' := (one_below w2 (.cells #[.int .u8 v.1.kind, .bool v.1.bool, .int .i64 v.1.int, .string v.1.text] 25)).trans (hb4.mono (by simp)); have t0 := (hb4'.block _ (lt_of_heap T20.out)).trans T20.out; have t2 := (hb4'.block _ (lt_of_heap T2.out)).trans T2.out; have y1 := cell_of_heap (o := 1) t0 rfl; obtain ⟨z0, g0, z1, g1, z2, g2, z3, g3⟩ := cf4 t2; have T40 := Lib.hid t0; have T42 := Lib.hid t2; have HB4 := Lib.hid (HB2.out.trans (hb4'.mono HB2.out.size)); clear hb4 hb4' t0 t2 t4 HCW)
      go_roundg (K - (i + 1))
      case measure => omega
      case rel => exact ⟨i + 1, true, by omega, (by first | rfl | trivial), (by first | go_num | trivial), (by first | rfl | trivial), HL.out, T40.out, T42.out, HB4.out⟩
     ·have q1 : (v.1.kind != 1) = true := by simp [e1]
      have q3 : (v.1.kind == 1) = false := by simp [e1]
      by_cases e2 : v.1.kind = 2
      rotate_left
      ·rw [truth_far en ec e1 e2] at hlog
       simp only at hlog
       rw [if_pos (by decide)] at hlog
       have hev : resI R = .tuple #[Dat.zero.agg, .int .i64 31] := by rw [← hlog]; rfl
       have HV := Lib.hid hev
       have q2 : (v.1.kind != 2) = true := by simp [e2]
       clear hev hlog en t2 t0 hfv hcw ec e1 e2
       go_wp2_with (go_at_call 26; refine HCW.out.mono ?_; rintro ev w4 ⟨rfl, hb4⟩; have t4 := one_at hb4; obtain ⟨v0, v1, v2, v3⟩ := cs4 t4; have hb4' := (one_below w2 (.cells #[.int .u8 v.1.kind, .bool v.1.bool, .int .i64 v.1.int, .string v.1.text] 25)).trans (hb4.mono (by simp)); have t0 := (hb4'.block _ (lt_of_heap T20.out)).trans T20.out; have t2 := (hb4'.block _ (lt_of_heap T2.out)).trans T2.out; have y1 := cell_of_heap (o := 1) t0 rfl; obtain ⟨z0, g0, z1, g1, z2, g2, z3, g3⟩ := cf4 t2; have T40 := Lib.hid t0; have T42 := Lib.hid t2; have HB4 := Lib.hid (HB2.out.trans (hb4'.mono HB2.out.size)); clear hb4 hb4' t0 t2 t4 HCW)
       refine bodyPost_ret (results_row_tmp rfl _ _ (w.heap.size + 1) 25 _ (0, 0) _ rfl (setRow4_at T42.out) Tryz.underlying25 rfl (by kernel_rfl)) rfl ?_
       exact ⟨by rw [HV.out]; rfl, setRow4_below HB4.out (by show w.heap.size ≤ w.heap.size + 1; omega)⟩
      ·rw [truth_two en ec e2] at hlog
       simp only at hlog
       rw [if_neg (fun h => h rfl)] at hlog
       have q2 : (v.1.kind != 2) = false := by simp [e2]
       have hboo := chk_boo ec e2
       by_cases es : v.1.bool = stop
       ·rw [if_pos ⟨(by first | rfl | trivial), es⟩] at hlog
        have hev : resI R = .tuple #[v.1.agg, .int .i64 0] := by rw [← hlog, hboo, es]; rfl
        have HV := Lib.hid hev
        have q4 : (v.1.bool == stop) = true := by simp [es]
        clear hev hlog en t2 t0 hfv hcw ec e1 e2 es hboo
        go_wp2_with (go_at_call 26; refine HCW.out.mono ?_; rintro ev w4 ⟨rfl, hb4⟩; have t4 := one_at hb4; obtain ⟨v0, v1, v2, v3⟩ := cs4 t4; have hb4' := (one_below w2 (.cells #[.int .u8 v.1.kind, .bool v.1.bool, .int .i64 v.1.int, .string v.1.text] 25)).trans (hb4.mono (by simp)); have t0 := (hb4'.block _ (lt_of_heap T20.out)).trans T20.out; have t2 := (hb4'.block _ (lt_of_heap T2.out)).trans T2.out; have y1 := cell_of_heap (o := 1) t0 rfl; obtain ⟨z0, g0, z1, g1, z2, g2, z3, g3⟩ := cf4 t2; have T40 := Lib.hid t0; have T42 := Lib.hid t2; have HB4 := Lib.hid (HB2.out.trans (hb4'.mono HB2.out.size)); clear hb4 hb4' t0 t2 t4 HCW)
        refine bodyPost_ret (results_row_tmp rfl _ _ (w.heap.size + 1) 25 _ (0, 0) _ rfl (setRow4_at T42.out) Tryz.underlying25 rfl (by kernel_rfl)) rfl ?_
        exact ⟨by rw [HV.out]; rfl, setRow4_below HB4.out (by show w.heap.size ≤ w.heap.size + 1; omega)⟩
       ·rw [if_neg (fun h => es h.2)] at hlog
        have q4 : (v.1.bool == stop) = false := by simp [es]
        have hl2 : logic stop so ((ET.vals r ks).drop (i + 1)) = R := by rw [← hlog]; cases so <;> rfl
        have HL := Lib.hid hl2
        clear hl2 hlog en t2 t0 hfv hcw ec e1 e2 es hboo
        go_wp2_with (go_at_call 26; refine HCW.out.mono ?_; rintro ev w4 ⟨rfl, hb4⟩; have t4 := one_at hb4; obtain ⟨v0, v1, v2, v3⟩ := cs4 t4; have hb4' := (one_below w2 (.cells #[.int .u8 v.1.kind, .bool v.1.bool, .int .i64 v.1.int, .string v.1.text] 25)).trans (hb4.mono (by simp)); have t0 := (hb4'.block _ (lt_of_heap T20.out)).trans T20.out; have t2 := (hb4'.block _ (lt_of_heap T2.out)).trans T2.out; have y1 := cell_of_heap (o := 1) t0 rfl; obtain ⟨z0, g0, z1, g1, z2, g2, z3, g3⟩ := cf4 t2; have T40 := Lib.hid t0; have T42 := Lib.hid t2; have HB4 := Lib.hid (HB2.out.trans (hb4'.mono HB2.out.size)); clear hb4 hb4' t0 t2 t4 HCW)
        go_roundg (K - (i + 1))
        case measure => omega
        case rel => exact ⟨i + 1, so, by omega, (by first | rfl | trivial), (by first | go_num | trivial), (by first | rfl | trivial), HL.out, T40.out, T42.out, HB4.out⟩
  ·obtain rfl : K = i := by omega
   rw [vals_end (by rw [← EK.out]; exact Nat.le_refl _)] at hlog
   simp only [logic] at hlog
   have hi2 : ¬ K < 2 := by have := HL2.out; omega
   cases so
   ·have HL := Lib.hid hlog
    clear hlog ht0 hbr
    go_wp2_with fail
    refine (rbool_133 _ _).mono ?_
    rintro ev w5 ⟨rfl, hb5⟩
    have t5 := (hb5.block _ (lt_of_heap HT1.out)).trans HT1.out
    have T5 := Lib.hid t5
    have HB5 := Lib.hid (HBR.out.trans (hb5.mono HBR.out.size))
    obtain ⟨z0, g0, z1, g1, z2, g2, z3, g3⟩ := cf4 t5
    clear hb5 t5 ht1
    unfold boo Dat.agg
    go_wp2
    refine bodyPost_ret (results_row_tmp rfl _ _ (w.heap.size + 1) 25 _ (0, 0) _ rfl (setRow4_at T5.out) Tryz.underlying25 rfl (by kernel_rfl)) rfl ?_
    exact ⟨by rw [← HL.out]; rfl, setRow4_below HB5.out (by show w.heap.size ≤ w.heap.size + 1; omega)⟩
   ·have HL := Lib.hid hlog
    clear hlog ht0 hbr
    go_wp2_with fail
    refine (rnull_92 _).mono ?_
    rintro ev w5 ⟨rfl, hb5⟩
    have t5 := (hb5.block _ (lt_of_heap HT1.out)).trans HT1.out
    have T5 := Lib.hid t5
    have HB5 := Lib.hid (HBR.out.trans (hb5.mono HBR.out.size))
    obtain ⟨z0, g0, z1, g1, z2, g2, z3, g3⟩ := cf4 t5
    clear hb5 t5 ht1
    unfold nul Dat.agg
    go_wp2
    refine bodyPost_ret (results_row_tmp rfl _ _ (w.heap.size + 1) 25 _ (0, 0) _ rfl (setRow4_at T5.out) Tryz.underlying25 rfl (by kernel_rfl)) rfl ?_
    exact ⟨by rw [← HL.out]; rfl, setRow4_below HB5.out (by show w.heap.size ≤ w.heap.size + 1; omega)⟩
end Go.Proofs.YtmmhedlagnjbiaaGreatDoor
namespace Go.Proofs.YtmmhedlagnjbiaaGreatDoor
open Go.RowKit Go.Pen Go.Shelf
attribute [local go_sem ↓] Go.wp_at_zero Go.wp_at_succ
attribute [local go_sem] Oper.semAt_some
theorem chk_nb {d : Dat} (h : chkD d = 0) (hk : d.kind ≠ 2) : d.bool = false := by
 unfold chkD at h
 split at h
 ·cases h
 ·split at h
  ·cases h
  ·next h1 =>
   cases hb : d.bool
   ·rfl
   ·exact absurd (.inl ⟨hk, hb⟩) h1
theorem rchoice_91 (r : List Dat) (rv : Value) (o c : Int) (d : Dat) (ks : List ET) (a : Option Addr) (cc : Nat) (w : World) (hl : ks.length ≤ 140737488355328) (hodd : ks.length % 2 = 1)
  (hks : ks ≠ [] → ∃ b o, a = some ⟨b, o, none⟩ ∧ True ∧ ET.Ons (fun _ => True) w ks b o) (hev : ∀ k ∈ ks, RefOK r rv w k) (hro : ∀ k ∈ ks, ResOk (k.val r)) :
  Calls Tryz.prog 39 #[(ET.mk o c d ks).agg (.slice a ks.length cc), rv] w (RefPost (choice (ET.vals r ks)) w) := by
 obtain ⟨R, eR⟩ : ∃ R, R = choice (ET.vals r ks) := ⟨_, rfl⟩
 rw [← eR]
 obtain ⟨K, eK⟩ : ∃ K, K = ks.length := ⟨_, rfl⟩
 rw [← eK] at hl hodd ⊢
 have EK := Lib.hid eK
 have ER := Lib.hid eR
 obtain ⟨b, off, rfl, -, hats⟩ := hks (fun e => by rw [e] at eK; simp at eK; omega)
 have HATS := Lib.hid hats
 have HEV := Lib.hid hev
 have HRO := Lib.hid hro
 clear eR eK hks hev hats hro
 unfold ET.agg
 simp only [ET.op, ET.col, ET.lit]
 obtain ⟨w1, hw1⟩ : ∃ w1, w1 = (w.alloc (.cells #[.int .u8 o, .slice (some ⟨b, off, none⟩) K cc, .int .i64 c, .int .u8 d.kind, .bool d.bool, .int .i64 d.int, .string d.text] 27)).alloc (.cells #[.int .u8 0, .bool false, .int .i64 0, .string ⟨#[]⟩] 25) := ⟨_, rfl⟩
 have hb1 : Below w.heap.size w w1 := by rw [hw1]; exact two_below _ _ _
 have ht := two_at (w := w) (w1 := w1) (a := .cells #[.int .u8 o, .slice (some ⟨b, off, none⟩) K cc, .int .i64 c, .int .u8 d.kind, .bool d.bool, .int .i64 d.int, .string d.text] 27) (b := .cells #[.int .u8 0, .bool false, .int .i64 0, .string ⟨#[]⟩] 25) (by rw [hw1]; exact Below.refl _ _)
 have HB1 := Lib.hid hb1
 have T0 := Lib.hid ht.1
 have T1 := Lib.hid ht.2
 have HW1 := Lib.hid hw1
 clear hb1 ht hw1
 go_enter Tryz.func39, Tryz.ntmps39
 go_wp2_with fail
 rw [← HW1.out]
 go_loopg [7] K (fun g s7 wr => ∃ (i : Nat), i < K ∧ i % 2 = 0 ∧ g = K - i ∧ s7 = .int .i64 i ∧ choice ((ET.vals r ks).drop i) = R ∧ wr.heap[w.heap.size]? = some (.cells #[.int .u8 o, .slice (some ⟨b, off, none⟩) K cc, .int .i64 c, .int .u8 d.kind, .bool d.bool, .int .i64 d.int, .string d.text] 27 (0, 0)) ∧ wr.heap[w.heap.size + 1]? = some (.cells #[.int .u8 0, .bool false, .int .i64 0, .string ⟨#[]⟩] 25 (0, 0)) ∧ Below w.heap.size w wr)
 case atStart => exact ⟨0, by omega, rfl, rfl, rfl, by rw [List.drop_zero]; exact ER.out.symm, T0.out, T1.out, HB1.out⟩
 case round =>
  obtain ⟨i, hi, hev2, rfl, rfl, hlog, ht0, ht1, hbr⟩ := hrel
  have y1 := cell_of_heap (o := 1) ht0 rfl
  have HT0 := Lib.hid ht0
  have HT1 := Lib.hid ht1
  have HBR := Lib.hid hbr
  have hlt : i < K := hi
  obtain ⟨k, hk⟩ : ∃ k, ks[i]? = some k := ⟨ks[i]'(by rw [← EK.out]; exact hlt), List.getElem?_eq_getElem _⟩
  obtain ⟨kv, hkc, hkat⟩ := HATS.out.get hk
  obtain ⟨a', c', rfl⟩ := hkat.slice
  obtain ⟨k0, k1, k2, k3, k4, k5, k6⟩ := hkc.below hbr
  have hct := HEV.out k (List.mem_of_getElem? hk) _ wr hbr (hkat.below hbr)
  have hfv := (HRO.out k (List.mem_of_getElem? hk)).1
  unfold ET.agg at hct
  clear hlt
  by_cases hlt : i + 1 < K
  ·obtain ⟨x, hx⟩ : ∃ x, ks[i + 1]? = some x := ⟨ks[i + 1]'(by rw [← EK.out]; exact hlt), List.getElem?_eq_getElem _⟩
   obtain ⟨xv, hxc, hxat⟩ := HATS.out.get hx
   obtain ⟨ax, cx, rfl⟩ := hxat.slice
   have HXC := Lib.hid hxc
   have hxt := fun (W : World) (hb : Below w.heap.size w W) => HEV.out x (List.mem_of_getElem? hx) _ W hb (hxat.below hb)
   unfold ET.agg at hxt
   rw [vals_at hk, vals_at hx] at hlog
   have HCT := Lib.hid hct
   have HXT := Lib.hid hxt
   have HLOG := Lib.hid hlog
   clear hxc hkc hkat hct hk hlog hbr ht0 ht1 hx hxt hxat
   go_wp2_with fail
   refine HCT.out.mono ?_
   rintro ev w2 ⟨rfl, hb2⟩
   have HB2 : Hid (Below w.heap.size w w2) := Lib.hid (HBR.out.trans (hb2.mono HBR.out.size))
   have t0 := (hb2.block _ (lt_of_heap HT0.out)).trans HT0.out
   have t2 := (hb2.block _ (lt_of_heap HT1.out)).trans HT1.out
   have T20 := Lib.hid t0
   have T2 := Lib.hid t2
   have KEEP : Hid (∀ (A : Obj) {g : Nat} {y : Obj}, w2.heap[g]? = some y → (w2.alloc A).heap[g]? = some y) := fun A {g} {y} h => (Below.heap_alloc _ _ _ (lt_of_heap h)).trans h
   have hlog := HLOG.out
   simp only [choice] at hlog
   clear hb2 HCT HLOG k0 k1 k2 k3 k4 k5 k6 y1
   generalize k.val r = v at *
   unfold resI Dat.agg
   by_cases en : v.2 = 0
   rotate_left
   ·rw [truth_bad en] at hlog
    simp only at hlog
    rw [if_pos en] at hlog
    have hev : resI R = .tuple #[Dat.zero.agg, .int .i64 v.2] := by rw [← hlog]; rfl
    have HV := Lib.hid hev
    have q : ((v.2 : Int) != 0) = true := by simp; exact en
    have z0 := fun A => cell_of_heap (o := 0) (KEEP.out A t2) rfl
    have g0 := fun A => frozen_of_heap (o := 0) (KEEP.out A t2)
    have z1 := fun A => cell_of_heap (o := 1) (KEEP.out A t2) rfl
    have g1 := fun A => frozen_of_heap (o := 1) (KEEP.out A t2)
    have z2 := fun A => cell_of_heap (o := 2) (KEEP.out A t2) rfl
    have g2 := fun A => frozen_of_heap (o := 2) (KEEP.out A t2)
    have z3 := fun A => cell_of_heap (o := 3) (KEEP.out A t2) rfl
    have g3 := fun A => frozen_of_heap (o := 3) (KEEP.out A t2)
    clear hev hlog en t2 t0 hfv
    go_wp2
    refine bodyPost_ret (results_row_tmp rfl _ _ (w.heap.size + 1) 25 _ (0, 0) _ rfl (setRow4_at (KEEP.out _ T2.out)) Tryz.underlying25 rfl (by kernel_rfl)) rfl ?_
    exact ⟨by rw [HV.out]; rfl, setRow4_below (HB2.out.alloc HB2.out.size _) (by show w.heap.size ≤ w.heap.size + 1; omega)⟩
   ·rw [en]
    have hcw := check_105 v.1 (w2.alloc (.cells #[.int .u8 v.1.kind, .bool v.1.bool, .int .i64 v.1.int, .string v.1.text] 25)) hfv
    unfold Dat.agg at hcw
    by_cases ec : chkD v.1 = 0
    rotate_left
    ·rw [truth_no en ec] at hlog
     simp only at hlog
     rw [if_pos (by decide)] at hlog
     have hev : resI R = .tuple #[Dat.zero.agg, .int .i64 31] := by rw [← hlog]; rfl
     have HV := Lib.hid hev
     have HCW := Lib.hid hcw
     have q : ((chkD v.1 : Int) != 0) = true := by simp; exact ec
     clear hev hlog en t2 t0 hfv hcw ec
     go_wp2_with (go_at_call 26; refine HCW.out.mono ?_; rintro ev w4 ⟨rfl, hb4⟩; have t4 := one_at hb4; obtain ⟨v0, v1, v2, v3⟩ := cs4 t4; have hb4' := (one_below w2 (.cells #[.int .u8 v.1.kind, .bool v.1.bool, .int .i64 v.1.int, .string v.1.text] 25)).trans (hb4.mono (by simp)); have t0 := (hb4'.block _ (lt_of_heap T20.out)).trans T20.out; have t2 := (hb4'.block _ (lt_of_heap T2.out)).trans T2.out; have y1 := cell_of_heap (o := 1) t0 rfl; obtain ⟨z0, g0, z1, g1, z2, g2, z3, g3⟩ := cf4 t2; have T40 := Lib.hid t0; have T42 := Lib.hid t2; have HB4 := Lib.hid (HB2.out.trans (hb4'.mono HB2.out.size)); clear hb4 hb4' t0 t2 t4 HCW)
     refine bodyPost_ret (results_row_tmp rfl _ _ (w.heap.size + 1) 25 _ (0, 0) _ rfl (setRow4_at T42.out) Tryz.underlying25 rfl (by kernel_rfl)) rfl ?_
     exact ⟨by rw [HV.out]; rfl, setRow4_below HB4.out (by show w.heap.size ≤ w.heap.size + 1; omega)⟩
    ·rw [ec] at hcw
     have HCW := Lib.hid hcw
     by_cases e1 : v.1.kind = 1
     ·rw [truth_one en ec e1] at hlog
      simp only at hlog
      rw [if_neg (fun h => h rfl)] at hlog
      have q1 : (v.1.kind != 1) = false := by simp [e1]
      have q2 : (v.1.kind != 2) = true := by simp [e1]
      have q3 : (v.1.kind == 1) = true := by simp [e1]
      have hb := chk_nb ec (by rw [e1]; decide)
      rw [hb, if_neg (by decide)] at hlog
      rw [hb] at HCW
      have HL := Lib.hid hlog
      clear hlog en t2 t0 hfv hcw ec e1 HXT HXC
      go_wp2_with (go_at_call 26; refine HCW.out.mono ?_; rintro ev w4 ⟨rfl, hb4⟩; have t4 := one_at hb4; obtain ⟨v0, v1, v2, v3⟩ := cs4 t4; have hb4' := (one_below w2 (.cells #[.int .u8 v.1.kind, .bool false, .int .i64 v.1.int, .string v.1.text] 25)).trans (hb4.mono (by simp)); have t0 := (hb4'.block _ (lt_of_heap T20.out)).trans T20.out; have t2 := (hb4'.block _ (lt_of_heap T2.out)).trans T2.out; have y1 := cell_of_heap (o := 1) t0 rfl; obtain ⟨z0, g0, z1, g1, z2, g2, z3, g3⟩ := cf4 t2; have T40 := Lib.hid t0; have T42 := Lib.hid t2; have HB4 := Lib.hid (HB2.out.trans (hb4'.mono HB2.out.size)); clear hb4 hb4' t0 t2 t4 HCW)
      go_roundg (K - (i + 1 + 1))
      case measure => omega
      case rel => exact ⟨i + 1 + 1, by omega, by omega, rfl, by go_num, HL.out, T40.out, T42.out, HB4.out⟩
     ·have q1 : (v.1.kind != 1) = true := by simp [e1]
      have q3 : (v.1.kind == 1) = false := by simp [e1]
      by_cases e2 : v.1.kind = 2
      rotate_left
      ·rw [truth_far en ec e1 e2] at hlog
       simp only at hlog
       rw [if_pos (by decide)] at hlog
       have hev : resI R = .tuple #[Dat.zero.agg, .int .i64 31] := by rw [← hlog]; rfl
       have HV := Lib.hid hev
       have q2 : (v.1.kind != 2) = true := by simp [e2]
       clear hev hlog en t2 t0 hfv hcw ec e1 e2
       go_wp2_with (go_at_call 26; refine HCW.out.mono ?_; rintro ev w4 ⟨rfl, hb4⟩; have t4 := one_at hb4; obtain ⟨v0, v1, v2, v3⟩ := cs4 t4; have hb4' := (one_below w2 (.cells #[.int .u8 v.1.kind, .bool v.1.bool, .int .i64 v.1.int, .string v.1.text] 25)).trans (hb4.mono (by simp)); have t0 := (hb4'.block _ (lt_of_heap T20.out)).trans T20.out; have t2 := (hb4'.block _ (lt_of_heap T2.out)).trans T2.out; have y1 := cell_of_heap (o := 1) t0 rfl; obtain ⟨z0, g0, z1, g1, z2, g2, z3, g3⟩ := cf4 t2; have T40 := Lib.hid t0; have T42 := Lib.hid t2; have HB4 := Lib.hid (HB2.out.trans (hb4'.mono HB2.out.size)); clear hb4 hb4' t0 t2 t4 HCW)
       refine bodyPost_ret (results_row_tmp rfl _ _ (w.heap.size + 1) 25 _ (0, 0) _ rfl (setRow4_at T42.out) Tryz.underlying25 rfl (by kernel_rfl)) rfl ?_
       exact ⟨by rw [HV.out]; rfl, setRow4_below HB4.out (by show w.heap.size ≤ w.heap.size + 1; omega)⟩
      ·rw [truth_two en ec e2] at hlog
       simp only at hlog
       rw [if_neg (fun h => h rfl)] at hlog
       have q2 : (v.1.kind != 2) = false := by simp [e2]
       cases hbv : v.1.bool
       ·rw [hbv, if_neg (by decide)] at hlog
        rw [hbv] at HCW
        have HL := Lib.hid hlog
        clear hlog en t2 t0 hfv hcw ec e1 e2 HXT HXC
        go_wp2_with (go_at_call 26; refine HCW.out.mono ?_; rintro ev w4 ⟨rfl, hb4⟩; have t4 := one_at hb4; obtain ⟨v0, v1, v2, v3⟩ := cs4 t4; have hb4' := (one_below w2 (.cells #[.int .u8 v.1.kind, .bool false, .int .i64 v.1.int, .string v.1.text] 25)).trans (hb4.mono (by simp)); have t0 := (hb4'.block _ (lt_of_heap T20.out)).trans T20.out; have t2 := (hb4'.block _ (lt_of_heap T2.out)).trans T2.out; have y1 := cell_of_heap (o := 1) t0 rfl; obtain ⟨z0, g0, z1, g1, z2, g2, z3, g3⟩ := cf4 t2; have T40 := Lib.hid t0; have T42 := Lib.hid t2; have HB4 := Lib.hid (HB2.out.trans (hb4'.mono HB2.out.size)); clear hb4 hb4' t0 t2 t4 HCW)
        go_roundg (K - (i + 1 + 1))
        case measure => omega
        case rel => exact ⟨i + 1 + 1, by omega, by omega, rfl, by go_num, HL.out, T40.out, T42.out, HB4.out⟩
       ·rw [hbv, if_pos rfl] at hlog
        rw [hlog] at HXT
        rw [hbv] at HCW
        clear hlog en t2 t0 hfv hcw ec e1 e2
        go_wp2_with (go_at_call 26; refine HCW.out.mono ?_; rintro ev w4 ⟨rfl, hb4⟩; have t4 := one_at hb4; obtain ⟨v0, v1, v2, v3⟩ := cs4 t4; have hb4' := (one_below w2 (.cells #[.int .u8 v.1.kind, .bool true, .int .i64 v.1.int, .string v.1.text] 25)).trans (hb4.mono (by simp)); have t0 := (hb4'.block _ (lt_of_heap T20.out)).trans T20.out; have t2 := (hb4'.block _ (lt_of_heap T2.out)).trans T2.out; have y1 := cell_of_heap (o := 1) t0 rfl; obtain ⟨z0, g0, z1, g1, z2, g2, z3, g3⟩ := cf4 t2; have T40 := Lib.hid t0; have T42 := Lib.hid t2; have HB4 := Lib.hid (HB2.out.trans (hb4'.mono HB2.out.size)); obtain ⟨x0, x1, x2, x3, x4, x5, x6⟩ := HXC.out.below HB4.out; clear hb4 hb4' t0 t2 t4 HCW)
        refine (HXT.out w4 HB4.out).mono ?_
        rintro ev w5 ⟨rfl, hb5⟩
        clear z0 g0 z1 g1 z2 g2 z3 g3
        have t5 := (hb5.block _ (lt_of_heap T42.out)).trans T42.out
        have T5 := Lib.hid t5
        have HB5 := Lib.hid (HB4.out.trans (hb5.mono HB4.out.size))
        obtain ⟨z0, g0, z1, g1, z2, g2, z3, g3⟩ := cf4 t5
        clear hb5 t5 x0 x1 x2 x3 x4 x5 x6 v0 v1 v2 v3
        unfold resI Dat.agg
        go_wp2
        refine bodyPost_ret (results_row_tmp rfl _ _ (w.heap.size + 1) 25 _ (0, 0) _ rfl (setRow4_at T5.out) Tryz.underlying25 rfl (by kernel_rfl)) rfl ?_
        exact ⟨rfl, setRow4_below HB5.out (by show w.heap.size ≤ w.heap.size + 1; omega)⟩
  ·obtain rfl : K = i + 1 := by omega
   rw [vals_at hk, vals_end (by rw [← EK.out]; exact Nat.le_refl _)] at hlog
   simp only [choice] at hlog
   rw [hlog] at hct
   have HXU := Lib.hid hct
   clear hct hlog hkc hkat hk hbr ht0 hfv
   go_wp2_with fail
   refine HXU.out.mono ?_
   rintro ev w3 ⟨rfl, hb3⟩
   have t3 := (hb3.block _ (lt_of_heap HT1.out)).trans HT1.out
   have T3 := Lib.hid t3
   have HB3 := Lib.hid (HBR.out.trans (hb3.mono HBR.out.size))
   obtain ⟨z0, g0, z1, g1, z2, g2, z3, g3⟩ := cf4 t3
   clear hb3 t3 ht1 HXU k0 k1 k2 k3 k4 k5 k6 y1
   unfold resI Dat.agg
   go_wp2
   refine bodyPost_ret (results_row_tmp rfl _ _ (w.heap.size + 1) 25 _ (0, 0) _ rfl (setRow4_at T3.out) Tryz.underlying25 rfl (by kernel_rfl)) rfl ?_
   exact ⟨rfl, setRow4_below HB3.out (by show w.heap.size ≤ w.heap.size + 1; omega)⟩
theorem rcoal (r : List Dat) (rv : Value) (c : Int) (d : Dat) (ks : List ET) (a : Option Addr) (cc : Nat) (w : World) (hl : ks.length ≤ 140737488355328) (hne : 0 < ks.length)
  (hks : ks ≠ [] → ∃ b o, a = some ⟨b, o, none⟩ ∧ True ∧ ET.Ons (fun _ => True) w ks b o) (hev : ∀ k ∈ ks, RefOK r rv w k) (hro : ∀ k ∈ ks, ResOk (k.val r)) :
  Calls Tryz.prog 25 #[(ET.mk 22 c d ks).agg (.slice a ks.length cc), rv] w (RefPost (coal (ET.vals r ks)) w) := by
 obtain ⟨R, eR⟩ : ∃ R, R = coal (ET.vals r ks) := ⟨_, rfl⟩
 rw [← eR]
 obtain ⟨K, eK⟩ : ∃ K, K = ks.length := ⟨_, rfl⟩
 rw [← eK] at hl hne ⊢
 have EK := Lib.hid eK
 have ER := Lib.hid eR
 obtain ⟨b, off, rfl, -, hats⟩ := hks (fun e => by rw [e] at eK; simp at eK; omega)
 have HATS := Lib.hid hats
 have HEV := Lib.hid hev
 have HRO := Lib.hid hro
 clear eR eK hks hev hats hro
 unfold ET.agg
 simp only [ET.op, ET.col, ET.lit]
 obtain ⟨w1, hw1⟩ : ∃ w1, w1 = (w.alloc (.cells #[.int .u8 22, .slice (some ⟨b, off, none⟩) K cc, .int .i64 c, .int .u8 d.kind, .bool d.bool, .int .i64 d.int, .string d.text] 27)).alloc (.cells #[.int .u8 0, .bool false, .int .i64 0, .string ⟨#[]⟩] 25) := ⟨_, rfl⟩
 have hb1 : Below w.heap.size w w1 := by rw [hw1]; exact two_below _ _ _
 have ht := two_at (w := w) (w1 := w1) (a := .cells #[.int .u8 22, .slice (some ⟨b, off, none⟩) K cc, .int .i64 c, .int .u8 d.kind, .bool d.bool, .int .i64 d.int, .string d.text] 27) (b := .cells #[.int .u8 0, .bool false, .int .i64 0, .string ⟨#[]⟩] 25) (by rw [hw1]; exact Below.refl _ _)
 have HB1 := Lib.hid hb1
 have T0 := Lib.hid ht.1
 have T1 := Lib.hid ht.2
 have HW1 := Lib.hid hw1
 clear hb1 ht hw1
 go_enter Tryz.func25, Tryz.ntmps25
 go_wp2_with fail
 rw [← HW1.out]
 go_loopg [6] K (fun g s6 wr => ∃ (i : Nat), i ≤ K ∧ g = K - i ∧ s6 = .int .i64 i ∧ coal ((ET.vals r ks).drop i) = R ∧ wr.heap[w.heap.size]? = some (.cells #[.int .u8 22, .slice (some ⟨b, off, none⟩) K cc, .int .i64 c, .int .u8 d.kind, .bool d.bool, .int .i64 d.int, .string d.text] 27 (0, 0)) ∧ wr.heap[w.heap.size + 1]? = some (.cells #[.int .u8 0, .bool false, .int .i64 0, .string ⟨#[]⟩] 25 (0, 0)) ∧ Below w.heap.size w wr)
 case atStart => exact ⟨0, Nat.zero_le _, rfl, rfl, by rw [List.drop_zero]; exact ER.out.symm, T0.out, T1.out, HB1.out⟩
 case round =>
  obtain ⟨i, hi, rfl, rfl, hlog, ht0, ht1, hbr⟩ := hrel
  have y1 := cell_of_heap (o := 1) ht0 rfl
  have HT0 := Lib.hid ht0
  have HT1 := Lib.hid ht1
  have HBR := Lib.hid hbr
  by_cases hlt : i < K
  ·obtain ⟨k, hk⟩ : ∃ k, ks[i]? = some k := ⟨ks[i]'(by rw [← EK.out]; exact hlt), List.getElem?_eq_getElem _⟩
   obtain ⟨kv, hkc, hkat⟩ := HATS.out.get hk
   obtain ⟨a', c', rfl⟩ := hkat.slice
   obtain ⟨k0, k1, k2, k3, k4, k5, k6⟩ := hkc.below hbr
   have hct := HEV.out k (List.mem_of_getElem? hk) _ wr hbr (hkat.below hbr)
   have hfv := (HRO.out k (List.mem_of_getElem? hk)).1
   unfold ET.agg at hct
   rw [vals_at hk] at hlog
   have HCT := Lib.hid hct
   have HLOG := Lib.hid hlog
   clear hkc hkat hct hk hlog hbr ht0 ht1 hfv
   go_wp2_with fail
   refine HCT.out.mono ?_
   rintro ev w2 ⟨rfl, hb2⟩
   have HB2 : Hid (Below w.heap.size w w2) := Lib.hid (HBR.out.trans (hb2.mono HBR.out.size))
   have t0 := (hb2.block _ (lt_of_heap HT0.out)).trans HT0.out
   have t2 := (hb2.block _ (lt_of_heap HT1.out)).trans HT1.out
   have T20 := Lib.hid t0
   have T2 := Lib.hid t2
   have KEEP : Hid (∀ (A : Obj) {g : Nat} {y : Obj}, w2.heap[g]? = some y → (w2.alloc A).heap[g]? = some y) := fun A {g} {y} h => (Below.heap_alloc _ _ _ (lt_of_heap h)).trans h
   have hlog := HLOG.out
   simp only [coal] at hlog
   clear hb2 HCT HLOG k0 k1 k2 k3 k4 k5 k6 y1
   generalize k.val r = v at *
   unfold resI Dat.agg
   have z0 := fun A => cell_of_heap (o := 0) (KEEP.out A t2) rfl
   have g0 := fun A => frozen_of_heap (o := 0) (KEEP.out A t2)
   have z1 := fun A => cell_of_heap (o := 1) (KEEP.out A t2) rfl
   have g1 := fun A => frozen_of_heap (o := 1) (KEEP.out A t2)
   have z2 := fun A => cell_of_heap (o := 2) (KEEP.out A t2) rfl
   have g2 := fun A => frozen_of_heap (o := 2) (KEEP.out A t2)
   have z3 := fun A => cell_of_heap (o := 3) (KEEP.out A t2) rfl
   have g3 := fun A => frozen_of_heap (o := 3) (KEEP.out A t2)
   by_cases en : v.2 = 0
   rotate_left
   ·rw [if_pos (.inl en)] at hlog
    have hev : resI R = .tuple #[v.1.agg, .int .i64 v.2] := by rw [← hlog]; rfl
    have HV := Lib.hid hev
    have q : ((v.2 : Int) != 0) = true := by simp; exact en
    clear hev hlog en t2 t0
    go_wp2
    refine bodyPost_ret (results_row_tmp rfl _ _ (w.heap.size + 1) 25 _ (0, 0) _ rfl (setRow4_at (KEEP.out _ T2.out)) Tryz.underlying25 rfl (by kernel_rfl)) rfl ?_
    exact ⟨by rw [HV.out]; rfl, setRow4_below (HB2.out.alloc HB2.out.size _) (by show w.heap.size ≤ w.heap.size + 1; omega)⟩
   ·by_cases ek : v.1.kind = 1
    rotate_left
    ·rw [if_pos (.inr ek)] at hlog
     have hev : resI R = .tuple #[v.1.agg, .int .i64 0] := by rw [← hlog]; simp only [resI, en]; rfl
     have HV := Lib.hid hev
     have q : (v.1.kind != 1) = true := by simp [ek]
     rw [en]
     clear hev hlog en ek t2 t0
     go_wp2
     refine bodyPost_ret (results_row_tmp rfl _ _ (w.heap.size + 1) 25 _ (0, 0) _ rfl (setRow4_at (KEEP.out _ T2.out)) Tryz.underlying25 rfl (by kernel_rfl)) rfl ?_
     exact ⟨by rw [HV.out]; rfl, setRow4_below (HB2.out.alloc HB2.out.size _) (by show w.heap.size ≤ w.heap.size + 1; omega)⟩
    ·rw [if_neg (by rintro (h | h); exact h en; exact h ek)] at hlog
     have HL := Lib.hid hlog
     have q : (v.1.kind != 1) = false := by simp [ek]
     rw [en]
     clear hlog en ek t2 t0
     go_wp2
     go_roundg (K - (i + 1))
     case measure => omega
     case rel => exact ⟨i + 1, by omega, rfl, by go_num, HL.out, KEEP.out _ T20.out, KEEP.out _ T2.out, HB2.out.alloc HB2.out.size _⟩
  ·obtain rfl : K = i := by omega
   rw [vals_end (by rw [← EK.out]; exact Nat.le_refl _)] at hlog
   simp only [coal] at hlog
   have HL := Lib.hid hlog
   clear hlog ht0 hbr
   go_wp2_with fail
   refine (rnull_92 _).mono ?_
   rintro ev w5 ⟨rfl, hb5⟩
   have t5 := (hb5.block _ (lt_of_heap HT1.out)).trans HT1.out
   have T5 := Lib.hid t5
   have HB5 := Lib.hid (HBR.out.trans (hb5.mono HBR.out.size))
   obtain ⟨z0, g0, z1, g1, z2, g2, z3, g3⟩ := cf4 t5
   clear hb5 t5 ht1
   unfold nul Dat.agg
   go_wp2
   refine bodyPost_ret (results_row_tmp rfl _ _ (w.heap.size + 1) 25 _ (0, 0) _ rfl (setRow4_at T5.out) Tryz.underlying25 rfl (by kernel_rfl)) rfl ?_
   exact ⟨by rw [← HL.out]; rfl, setRow4_below HB5.out (by show w.heap.size ≤ w.heap.size + 1; omega)⟩
end Go.Proofs.YtmmhedlagnjbiaaGreatDoor
namespace Go.Proofs.YtmmhedlagnjbiaaGreatDoor
open Go.RowKit Go.Pen Go.Shelf
attribute [local go_sem ↓] Go.wp_at_zero Go.wp_at_succ
attribute [local go_sem] Oper.semAt_some
def firstErr (x : Res) : List Res → Res
 | [] => x
 | v :: vs => if v.2 ≠ 0 then bad v.2 else firstErr x vs
theorem vals_take {r : List Dat} {ks : List ET} {i : Nat} {k : ET} (h : ks[i]? = some k) : ((ET.vals r ks).take (i + 1)).map (·.1) = ((ET.vals r ks).take i).map (·.1) ++ [(k.val r).1] := by
 have hv : (ET.vals r ks)[i]? = some (k.val r) := by rw [ET.vals_map, List.getElem?_map, h]; rfl
 rw [List.take_succ_eq_append_getElem (List.getElem?_eq_some_iff.1 hv).1, List.map_append, (List.getElem?_eq_some_iff.1 hv).2]
 rfl
theorem rowCells_snoc (ds : List Dat) (d : Dat) : rowCells (ds ++ [d]) = rowCells ds ++ d.cells := by simp [rowCells]
theorem two_keep {w : World} {A B : Obj} {g : Nat} {y : Obj} (h : w.heap[g]? = some y) : ((w.alloc A).alloc B).heap[g]? = some y :=
 (Below.heap_alloc _ _ _ (by rw [World.size_alloc]; exact Nat.lt_succ_of_lt (lt_of_heap h))).trans ((Below.heap_alloc _ _ _ (lt_of_heap h)).trans h)
theorem rrest (r : List Dat) (rv : Value) (o c : Int) (d : Dat) (ks : List ET) (a : Option Addr) (cc : Nat) (w : World) (ho : ¬ (o = 1 ∨ o = 2 ∨ o = 23 ∨ o = 18 ∨ o = 19 ∨ o = 21 ∨ o = 22)) (hl : ks.length ≤ 2) (hne : 0 < ks.length)
  (hks : ks ≠ [] → ∃ b o, a = some ⟨b, o, none⟩ ∧ True ∧ ET.Ons (fun _ => True) w ks b o) (hev : ∀ k ∈ ks, RefOK r rv w k) (hro : ∀ k ∈ ks, ResOk (k.val r)) (Dn : Res) (hbz : Dn.2 ≠ 0 → Dn.1 = Dat.zero)
  (hdn : ∀ (W : World) (v : Value), RowAt W v ((ET.vals r ks).map (·.1)) → Calls Tryz.prog 41 #[.int .u8 o, v] W (RefPost Dn W)) :
  Calls Tryz.prog 25 #[(ET.mk o c d ks).agg (.slice a ks.length cc), rv] w (RefPost (firstErr (told Dn) (ET.vals r ks)) w) := by
 obtain ⟨R, eR⟩ : ∃ R, R = firstErr (told Dn) (ET.vals r ks) := ⟨_, rfl⟩
 rw [← eR]
 obtain ⟨K, eK⟩ : ∃ K, K = ks.length := ⟨_, rfl⟩
 rw [← eK] at hl hne ⊢
 have EK := Lib.hid eK
 have ER := Lib.hid eR
 obtain ⟨b, off, rfl, -, hats⟩ := hks (fun e => by rw [e] at eK; simp at eK; omega)
 have HATS := Lib.hid hats
 have HEV := Lib.hid hev
 have HRO := Lib.hid hro
 clear eR eK hks hev hats hro
 unfold ET.agg
 simp only [ET.op, ET.col, ET.lit]
 obtain ⟨w1, hw1⟩ : ∃ w1, w1 = (w.alloc (.cells #[.int .u8 o, .slice (some ⟨b, off, none⟩) K cc, .int .i64 c, .int .u8 d.kind, .bool d.bool, .int .i64 d.int, .string d.text] 27)).alloc (.cells #[.int .u8 0, .bool false, .int .i64 0, .string ⟨#[]⟩] 25) := ⟨_, rfl⟩
 have hb1 : Below w.heap.size w w1 := by rw [hw1]; exact two_below _ _ _
 have ht := two_at (w := w) (w1 := w1) (a := .cells #[.int .u8 o, .slice (some ⟨b, off, none⟩) K cc, .int .i64 c, .int .u8 d.kind, .bool d.bool, .int .i64 d.int, .string d.text] 27) (b := .cells #[.int .u8 0, .bool false, .int .i64 0, .string ⟨#[]⟩] 25) (by rw [hw1]; exact Below.refl _ _)
 have HB1 := Lib.hid hb1
 have T0 := Lib.hid ht.1
 have T1 := Lib.hid ht.2
 have HW1 := Lib.hid hw1
 clear hb1 ht hw1
 have o1 : (o == 1) = false := by simp; omega
 have o2 : (o == 2) = false := by simp; omega
 have o3 : (o == 23) = false := by simp; omega
 have o4 : (o == 18) = false := by simp; omega
 have o5 : (o == 19) = false := by simp; omega
 have o6 : (o == 21) = false := by simp; omega
 have o7 : (o == 22) = false := by simp; omega
 obtain ⟨i0, hi0, hz0, hz1, hz2⟩ := info_parts info25
 have HDN := Lib.hid hdn
 have HBZ := Lib.hid hbz
 clear ho hdn hbz
 go_enter Tryz.func25, Tryz.ntmps25
 go_wp2_with fail
 rw [← HW1.out]
 go_loopg [9, 10] K (fun g s9 s10 wr => ∃ (i : Nat), i ≤ K ∧ g = K - i ∧ s10 = .int .i64 i ∧ wr.ownsRow (w.heap.size + 2) 25 4 s9 i (rowCells (((ET.vals r ks).take i).map (·.1))) ∧ firstErr (told Dn) ((ET.vals r ks).drop i) = R ∧ wr.heap[w.heap.size]? = some (.cells #[.int .u8 o, .slice (some ⟨b, off, none⟩) K cc, .int .i64 c, .int .u8 d.kind, .bool d.bool, .int .i64 d.int, .string d.text] 27 (0, 0)) ∧ wr.heap[w.heap.size + 1]? = some (.cells #[.int .u8 0, .bool false, .int .i64 0, .string ⟨#[]⟩] 25 (0, 0)) ∧ Below w.heap.size w wr)
 case atStart => exact ⟨0, Nat.zero_le _, rfl, rfl, World.ownsRow_nil _ _ _ _, by rw [List.drop_zero]; exact ER.out.symm, T0.out, T1.out, HB1.out⟩
 case round =>
  obtain ⟨i, hi, rfl, rfl, hown, hlog, ht0, ht1, hbr⟩ := hrel
  have y0 := cell_of_heap (o := 0) ht0 rfl
  have y1 := cell_of_heap (o := 1) ht0 rfl
  have HT0 := Lib.hid ht0
  have HT1 := Lib.hid ht1
  have HBR := Lib.hid hbr
  have HOW := Lib.hid hown
  by_cases hlt : i < K
  ·obtain ⟨k, hk⟩ : ∃ k, ks[i]? = some k := ⟨ks[i]'(by rw [← EK.out]; exact hlt), List.getElem?_eq_getElem _⟩
   obtain ⟨kv, hkc, hkat⟩ := HATS.out.get hk
   obtain ⟨a', c', rfl⟩ := hkat.slice
   obtain ⟨k0, k1, k2, k3, k4, k5, k6⟩ := hkc.below hbr
   have hct := HEV.out k (List.mem_of_getElem? hk) _ wr hbr (hkat.below hbr)
   have hfv := (HRO.out k (List.mem_of_getElem? hk)).1
   unfold ET.agg at hct
   rw [vals_at hk] at hlog
   have htk := vals_take (r := r) hk
   have HTK := Lib.hid htk
   have HCT := Lib.hid hct
   have HLOG := Lib.hid hlog
   clear hkc hkat hct hk hlog hbr ht0 ht1 hfv htk hown
   go_wp2_with fail
   refine HCT.out.mono ?_
   rintro ev w2 ⟨rfl, hb2⟩
   have HB2 : Hid (Below w.heap.size w w2) := Lib.hid (HBR.out.trans (hb2.mono HBR.out.size))
   have t0 := (hb2.block _ (lt_of_heap HT0.out)).trans HT0.out
   have t2 := (hb2.block _ (lt_of_heap HT1.out)).trans HT1.out
   have T20 := Lib.hid t0
   have T2 := Lib.hid t2
   have KEEP : Hid (∀ (A : Obj) {g : Nat} {y : Obj}, w2.heap[g]? = some y → (w2.alloc A).heap[g]? = some y) := fun A {g} {y} h => (Below.heap_alloc _ _ _ (lt_of_heap h)).trans h
   have HBB := Lib.hid hb2
   have hlog := HLOG.out
   simp only [firstErr] at hlog
   clear hb2 HCT HLOG k0 k1 k2 k3 k4 k5 k6 y1 y0
   generalize k.val r = v at *
   unfold resI Dat.agg
   by_cases en : v.2 = 0
   rotate_left
   ·rw [if_pos en] at hlog
    have hev : resI R = .tuple #[Dat.zero.agg, .int .i64 v.2] := by rw [← hlog]; rfl
    have HV := Lib.hid hev
    have q : ((v.2 : Int) != 0) = true := by simp; exact en
    have z0 := fun A => cell_of_heap (o := 0) (KEEP.out A t2) rfl
    have g0 := fun A => frozen_of_heap (o := 0) (KEEP.out A t2)
    have z1 := fun A => cell_of_heap (o := 1) (KEEP.out A t2) rfl
    have g1 := fun A => frozen_of_heap (o := 1) (KEEP.out A t2)
    have z2 := fun A => cell_of_heap (o := 2) (KEEP.out A t2) rfl
    have g2 := fun A => frozen_of_heap (o := 2) (KEEP.out A t2)
    have z3 := fun A => cell_of_heap (o := 3) (KEEP.out A t2) rfl
    have g3 := fun A => frozen_of_heap (o := 3) (KEEP.out A t2)
    clear hev hlog en t2 t0
    go_wp2
    refine bodyPost_ret (results_row_tmp rfl _ _ (w.heap.size + 1) 25 _ (0, 0) _ rfl (setRow4_at (KEEP.out _ T2.out)) Tryz.underlying25 rfl (by kernel_rfl)) rfl ?_
    exact ⟨by rw [HV.out]; rfl, setRow4_below (HB2.out.alloc HB2.out.size _) (by show w.heap.size ≤ w.heap.size + 1; omega)⟩
   ·rw [if_neg (fun h => h en)] at hlog
    have HL := Lib.hid hlog
    rw [en]
    obtain ⟨XS, hXS⟩ : ∃ XS, XS = rowCells (((ET.vals r ks).take i).map (·.1)) := ⟨_, rfl⟩
    rw [← hXS] at HOW
    have HXS := Lib.hid hXS
    have sz2 : w.heap.size + 2 ≤ w2.heap.size := by have := lt_of_heap t2; omega
    clear hlog en t2 t0 hXS
    go_wp2_with (at_builtin; go_must (refine wpList_append_lies _ rfl _ _ 38 rfl (w.heap.size + 2) 25 i0 _ 4 32 Tryz.underlying38 hi0 hz0 hz1 hz2 rfl (by decide) u9 i XS rfl (((Below.ownsRow' HBB.out HOW.out).alloc _).alloc _) ⟨w2.heap.size + 1, 0, none⟩ 1 1 v.1.cells rfl rfl ?c1 ?c2 (by decide) ?c3 ?c4 ?c5 _ rfl ?_))
    case c1 =>
     intro j u hj
     rw [add_lit, Nat.zero_add]
     have h4 := heap_alloc_new (w2.alloc (.cells #[.int .u8 v.1.kind, .bool v.1.bool, .int .i64 v.1.int, .string v.1.text] 25)) (.cells #[.int .u8 v.1.kind, .bool v.1.bool, .int .i64 v.1.int, .string v.1.text] 25)
     rw [World.size_alloc] at h4
     exact cell_of_heap h4 (by rw [List.getElem?_toArray]; exact hj)
    case c2 => intro u hu; simp [Dat.cells] at hu; rcases hu with rfl | rfl | rfl | rfl <;> rfl
    case c3 => unfold maxLen; omega
    case c4 => omega
    case c5 => simp; omega
    intro g cap w5 hown5 hgrow hat5 _
    have hlt5 := fun (j : Nat) (hj : j < w.heap.size + 2) => hgrow.block j (by simp; omega) (fun e => by have := (HOW.out.lt j e.symm).1; omega)
    have u0 := (hlt5 w.heap.size (by omega)).trans (two_keep T20.out)
    have u1 := (hlt5 (w.heap.size + 1) (by omega)).trans (two_keep T2.out)
    have ub : Below w.heap.size w w5 := ((HB2.out.alloc HB2.out.size _).alloc (by simp; have := HB2.out.size; omega) _).grown hgrow (by simp; have := HB2.out.size; omega) (fun g hg => by have := (HOW.out.lt g hg).1; omega)
    rw [HXS.out, ← rowCells_snoc, ← HTK.out] at hown5
    have U0 := Lib.hid u0
    have U1 := Lib.hid u1
    have UB := Lib.hid ub
    have UO := Lib.hid hown5
    clear hlt5 u0 u1 ub hown5 hgrow hat5
    go_wp2
    go_roundg (K - (i + 1))
    case measure => omega
    case rel => exact ⟨i + 1, by omega, rfl, by go_num, UO.out, HL.out, U0.out, U1.out, UB.out⟩
  ·obtain rfl : K = i := by omega
   rw [vals_end (by rw [← EK.out]; exact Nat.le_refl _)] at hlog
   simp only [firstErr] at hlog
   rw [show ((ET.vals r ks).take K) = ET.vals r ks from List.take_of_length_le (by rw [ET.vals_map, List.length_map, EK.out]; exact Nat.le_refl _)] at hown
   have hrow : RowAt wr u9 ((ET.vals r ks).map (·.1)) := rowAt_of_owns hown
   have hdd := HDN.out wr u9 hrow
   have HDD := Lib.hid hdd
   have HL := Lib.hid hlog
   clear hlog hown hrow hdd ht0 hbr
   go_wp2_with fail
   refine HDD.out.mono ?_
   rintro ev w2 ⟨rfl, hb2⟩
   have HB2 : Hid (Below w.heap.size w w2) := Lib.hid (HBR.out.trans (hb2.mono HBR.out.size))
   have t2 := (hb2.block _ (lt_of_heap HT1.out)).trans HT1.out
   have T2 := Lib.hid t2
   have KEEP : Hid (∀ (A : Obj) {g : Nat} {y : Obj}, w2.heap[g]? = some y → (w2.alloc A).heap[g]? = some y) := fun A {g} {y} h => (Below.heap_alloc _ _ _ (lt_of_heap h)).trans h
   clear hb2 HDD y0 y1 ht1
   unfold resI Dat.agg
   have z0 := fun A => cell_of_heap (o := 0) (KEEP.out A t2) rfl
   have g0 := fun A => frozen_of_heap (o := 0) (KEEP.out A t2)
   have z1 := fun A => cell_of_heap (o := 1) (KEEP.out A t2) rfl
   have g1 := fun A => frozen_of_heap (o := 1) (KEEP.out A t2)
   have z2 := fun A => cell_of_heap (o := 2) (KEEP.out A t2) rfl
   have g2 := fun A => frozen_of_heap (o := 2) (KEEP.out A t2)
   have z3 := fun A => cell_of_heap (o := 3) (KEEP.out A t2) rfl
   have g3 := fun A => frozen_of_heap (o := 3) (KEEP.out A t2)
   clear t2
   by_cases e13 : Dn.2 = 13
   ·have hev : resI R = .tuple #[Dat.zero.agg, .int .i64 31] := by rw [← HL.out]; simp only [told, e13]; rfl
    have HV := Lib.hid hev
    have q : ((Dn.2 : Int) == 13) = true := by rw [e13]; rfl
    clear hev e13
    go_wp2
    refine bodyPost_ret (results_row_tmp rfl _ _ (w.heap.size + 1) 25 _ (0, 0) _ rfl (setRow4_at (KEEP.out _ T2.out)) Tryz.underlying25 rfl (by kernel_rfl)) rfl ?_
    exact ⟨by rw [HV.out]; rfl, setRow4_below (HB2.out.alloc HB2.out.size _) (by show w.heap.size ≤ w.heap.size + 1; omega)⟩
   ·have hev : resI R = .tuple #[Dn.1.agg, .int .i64 Dn.2] := by
     rw [← HL.out]
     by_cases e0 : Dn.2 = 0
     ·simp only [told, e0, if_true, resI]
     ·simp only [told, if_neg e0, if_neg e13, resI, bad, HBZ.out e0]
    have HV := Lib.hid hev
    have q : ((Dn.2 : Int) == 13) = false := by simp; omega
    clear hev e13
    go_wp2
    refine bodyPost_ret (results_row_tmp rfl _ _ (w.heap.size + 1) 25 _ (0, 0) _ rfl (setRow4_at (KEEP.out _ T2.out)) Tryz.underlying25 rfl (by kernel_rfl)) rfl ?_
    exact ⟨by rw [HV.out]; rfl, setRow4_below (HB2.out.alloc HB2.out.size _) (by show w.heap.size ≤ w.heap.size + 1; omega)⟩
end Go.Proofs.YtmmhedlagnjbiaaGreatDoor
namespace Go.Proofs.YtmmhedlagnjbiaaGreatDoor
open Go.RowKit Go.Pen Go.Shelf
attribute [local go_sem] Oper.semAt_some
theorem ref_logic_18 (r : List Dat) (rv : Value) (c : Int) (d : Dat) (ks : List ET) (a : Option Addr) (cc : Nat) (w : World) (hl : ks.length = 2)
  (hks : ks ≠ [] → ∃ b o, a = some ⟨b, o, none⟩ ∧ True ∧ ET.Ons (fun _ => True) w ks b o) (hev : ∀ k ∈ ks, RefOK r rv w k) (hro : ∀ k ∈ ks, ResOk (k.val r)) :
  Calls Tryz.prog 25 #[(ET.mk 18 c d ks).agg (.slice a ks.length cc), rv] w (RefPost ((ET.mk 18 c d ks).val r) w) := by
 obtain ⟨R, eR⟩ : ∃ R, R = (ET.mk 18 c d ks).val r := ⟨_, rfl⟩
 rw [← eR]
 have hcall : ∀ W, Below w.heap.size w W → Calls Tryz.prog 38 #[(ET.mk 18 c d ks).agg (.slice a ks.length cc), rv, .bool false] W (RefPost R W) := fun W hb => by
  rw [eR]
  have h := rlogic_90 false r rv 18 c d ks a cc W hl (fun hne => by
   obtain ⟨b, off, h1, h2, h3⟩ := hks hne
   exact ⟨b, off, h1, h2, ET.Ons.mk fun i k hk => by
    obtain ⟨kv, q1, q2⟩ := h3.get hk
    exact ⟨kv, q1.below hb, q2.below hb⟩⟩) (fun k hk kv W2 hb2 hat => hev k hk kv W2 (hb.trans (hb2.mono hb.size)) hat) hro
  simpa [ET.val] using h
 have HC := Lib.hid hcall
 clear hcall eR hks hev hro
 unfold ET.agg at HC ⊢
 simp only [ET.op, ET.col, ET.lit] at HC ⊢
 obtain ⟨K, eK⟩ : ∃ K, K = ks.length := ⟨_, rfl⟩
 rw [← eK] at HC ⊢
 clear eK
 go_enter Tryz.func25, Tryz.ntmps25
 go_wp2_with fail
 refine (HC.out _ (two_below _ _ _)).mono ?_
 rintro ev w2 ⟨rfl, hb2⟩
 have t2 := (two_at hb2).2
 have T2 := Lib.hid t2
 have HB2 := Lib.hid ((two_below _ _ _).trans (hb2.mono (by simp <;> omega)))
 obtain ⟨z0, g0, z1, g1, z2, g2, z3, g3⟩ := cf4 t2
 clear hb2 t2 HC
 unfold resI Dat.agg
 go_wp2
 refine bodyPost_ret (results_row_tmp rfl _ _ (w.heap.size + 1) 25 _ (0, 0) _ rfl (setRow4_at T2.out) Tryz.underlying25 rfl (by kernel_rfl)) rfl ?_
 exact ⟨rfl, setRow4_below HB2.out (by show w.heap.size ≤ w.heap.size + 1; omega)⟩
theorem ref_logic_19 (r : List Dat) (rv : Value) (c : Int) (d : Dat) (ks : List ET) (a : Option Addr) (cc : Nat) (w : World) (hl : ks.length = 2)
  (hks : ks ≠ [] → ∃ b o, a = some ⟨b, o, none⟩ ∧ True ∧ ET.Ons (fun _ => True) w ks b o) (hev : ∀ k ∈ ks, RefOK r rv w k) (hro : ∀ k ∈ ks, ResOk (k.val r)) :
  Calls Tryz.prog 25 #[(ET.mk 19 c d ks).agg (.slice a ks.length cc), rv] w (RefPost ((ET.mk 19 c d ks).val r) w) := by
 obtain ⟨R, eR⟩ : ∃ R, R = (ET.mk 19 c d ks).val r := ⟨_, rfl⟩
 rw [← eR]
 have hcall : ∀ W, Below w.heap.size w W → Calls Tryz.prog 38 #[(ET.mk 19 c d ks).agg (.slice a ks.length cc), rv, .bool true] W (RefPost R W) := fun W hb => by
  rw [eR]
  have h := rlogic_90 true r rv 19 c d ks a cc W hl (fun hne => by
   obtain ⟨b, off, h1, h2, h3⟩ := hks hne
   exact ⟨b, off, h1, h2, ET.Ons.mk fun i k hk => by
    obtain ⟨kv, q1, q2⟩ := h3.get hk
    exact ⟨kv, q1.below hb, q2.below hb⟩⟩) (fun k hk kv W2 hb2 hat => hev k hk kv W2 (hb.trans (hb2.mono hb.size)) hat) hro
  simpa [ET.val] using h
 have HC := Lib.hid hcall
 clear hcall eR hks hev hro
 unfold ET.agg at HC ⊢
 simp only [ET.op, ET.col, ET.lit] at HC ⊢
 obtain ⟨K, eK⟩ : ∃ K, K = ks.length := ⟨_, rfl⟩
 rw [← eK] at HC ⊢
 clear eK
 go_enter Tryz.func25, Tryz.ntmps25
 go_wp2_with fail
 refine (HC.out _ (two_below _ _ _)).mono ?_
 rintro ev w2 ⟨rfl, hb2⟩
 have t2 := (two_at hb2).2
 have T2 := Lib.hid t2
 have HB2 := Lib.hid ((two_below _ _ _).trans (hb2.mono (by simp <;> omega)))
 obtain ⟨z0, g0, z1, g1, z2, g2, z3, g3⟩ := cf4 t2
 clear hb2 t2 HC
 unfold resI Dat.agg
 go_wp2
 refine bodyPost_ret (results_row_tmp rfl _ _ (w.heap.size + 1) 25 _ (0, 0) _ rfl (setRow4_at T2.out) Tryz.underlying25 rfl (by kernel_rfl)) rfl ?_
 exact ⟨rfl, setRow4_below HB2.out (by show w.heap.size ≤ w.heap.size + 1; omega)⟩
theorem ref_case (r : List Dat) (rv : Value) (c : Int) (d : Dat) (ks : List ET) (a : Option Addr) (cc : Nat) (w : World) (hl : ks.length ≤ 140737488355328) (hodd : ks.length % 2 = 1)
  (hks : ks ≠ [] → ∃ b o, a = some ⟨b, o, none⟩ ∧ True ∧ ET.Ons (fun _ => True) w ks b o) (hev : ∀ k ∈ ks, RefOK r rv w k) (hro : ∀ k ∈ ks, ResOk (k.val r)) :
  Calls Tryz.prog 25 #[(ET.mk 21 c d ks).agg (.slice a ks.length cc), rv] w (RefPost ((ET.mk 21 c d ks).val r) w) := by
 obtain ⟨R, eR⟩ : ∃ R, R = (ET.mk 21 c d ks).val r := ⟨_, rfl⟩
 rw [← eR]
 have hcall : ∀ W, Below w.heap.size w W → Calls Tryz.prog 39 #[(ET.mk 21 c d ks).agg (.slice a ks.length cc), rv] W (RefPost R W) := fun W hb => by
  rw [eR]
  have h := rchoice_91 r rv 21 c d ks a cc W hl hodd (fun hne => by
   obtain ⟨b, off, h1, h2, h3⟩ := hks hne
   exact ⟨b, off, h1, h2, ET.Ons.mk fun i k hk => by
    obtain ⟨kv, q1, q2⟩ := h3.get hk
    exact ⟨kv, q1.below hb, q2.below hb⟩⟩) (fun k hk kv W2 hb2 hat => hev k hk kv W2 (hb.trans (hb2.mono hb.size)) hat) hro
  simpa [ET.val] using h
 have HC := Lib.hid hcall
 clear hcall eR hks hev hro
 unfold ET.agg at HC ⊢
 simp only [ET.op, ET.col, ET.lit] at HC ⊢
 obtain ⟨K, eK⟩ : ∃ K, K = ks.length := ⟨_, rfl⟩
 rw [← eK] at HC ⊢
 clear eK
 go_enter Tryz.func25, Tryz.ntmps25
 go_wp2_with fail
 refine (HC.out _ (two_below _ _ _)).mono ?_
 rintro ev w2 ⟨rfl, hb2⟩
 have t2 := (two_at hb2).2
 have T2 := Lib.hid t2
 have HB2 := Lib.hid ((two_below _ _ _).trans (hb2.mono (by simp <;> omega)))
 obtain ⟨z0, g0, z1, g1, z2, g2, z3, g3⟩ := cf4 t2
 clear hb2 t2 HC
 unfold resI Dat.agg
 go_wp2
 refine bodyPost_ret (results_row_tmp rfl _ _ (w.heap.size + 1) 25 _ (0, 0) _ rfl (setRow4_at T2.out) Tryz.underlying25 rfl (by kernel_rfl)) rfl ?_
 exact ⟨rfl, setRow4_below HB2.out (by show w.heap.size ≤ w.heap.size + 1; omega)⟩
def BZ (v : Res) : Prop := v.2 ≠ 0 → v.1 = Dat.zero
theorem bz_bad (n : Nat) : BZ (bad n) := fun _ => rfl
theorem bz_ok (d : Dat) : BZ (d, 0) := fun h => absurd rfl h
theorem bz_ov (n : Int) : BZ (ov n) := by
 unfold ov
 split
 ·exact bz_ok _
 ·exact bz_bad _
theorem bz_both {k : Int} {a b : Dat} {r : Res} (h : BZ r) : BZ (both k a b r) := by
 unfold both
 split
 ·exact bz_bad _
 ·split
  ·exact bz_ok _
  ·exact h
theorem bz_sole {k : Int} {a : Dat} {r : Res} (h : BZ r) : BZ (sole k a r) := by
 unfold sole
 split
 ·exact bz_bad _
 ·split
  ·exact bz_ok _
  ·exact h
theorem bz_one (o : Int) (a : Dat) : BZ (oneD o a) := by
 unfold oneD
 split
 ·exact bz_sole (bz_ov _)
 ·split
  ·exact bz_sole (bz_ok _)
  ·exact bz_sole (bz_ok _)
theorem bz_comp (o : Int) (a b : Dat) : BZ (compD o a b) := by
 unfold compD
 split
 ·exact bz_bad _
 ·split
  ·exact bz_ok _
  ·split
   ·exact bz_bad _
   ·exact bz_ok _
theorem bz_two (o : Int) (a b : Dat) : BZ (twoD o a b) := by
 unfold twoD
 split
 ·exact bz_both (bz_ov _)
 ·split
  ·exact bz_both (bz_ov _)
  ·split
   ·exact bz_both (bz_ov _)
   ·split
    ·refine bz_both ?_
     split
     ·exact bz_bad _
     ·exact bz_ov _
    ·split
     ·refine bz_both ?_
      split
      ·exact bz_bad _
      ·exact bz_ok _
     ·split
      ·refine bz_both ?_
       split
       ·exact bz_bad _
       ·exact bz_ok _
      ·exact bz_comp _ _ _
theorem bz_told (r : Res) : BZ (told r) := by
 unfold told
 split
 ·next h => intro h2; exact absurd h h2
 ·split
  ·exact bz_bad _
  ·exact bz_bad _
theorem bz_logic (stop : Bool) : ∀ (vs : List Res) (so : Bool), BZ (logic stop so vs)
 | [], so => by
  simp only [logic]
  split
  ·exact bz_ok _
  ·exact bz_ok _
 | v :: vs, so => by
  simp only [logic]
  split
  ·exact bz_bad _
  ·split
   ·exact bz_ok _
   ·exact bz_logic stop vs _
theorem bz_choice : ∀ (n : Nat) (vs : List Res), vs.length ≤ n → (∀ v ∈ vs, BZ v) → BZ (choice vs)
 | _, [], _, _ => by simp only [choice]; exact bz_bad _
 | _, [v], _, h => by simp only [choice]; exact h v (by simp)
 | 0, _ :: _ :: _, h, _ => by simp at h
 | n + 1, c :: v :: vs, hl, h => by
  simp only [choice]
  split
  ·exact bz_bad _
  ·split
   ·exact h v (by simp)
   ·exact bz_choice n vs (by simp at hl; omega) fun x hx => h x (by simp [hx])
theorem bz_coal : ∀ (vs : List Res), (∀ v ∈ vs, BZ v) → BZ (coal vs)
 | [], _ => by simp only [coal]; exact bz_ok _
 | v :: vs, h => by
  simp only [coal]
  split
  ·exact h v (by simp)
  ·exact bz_coal vs fun x hx => h x (by simp [hx])
theorem bz_rest (o : Int) (vs : List Res) : BZ (restV o vs) := by
 rcases vs with _ | ⟨a, _ | ⟨b, t⟩⟩
 ·exact bz_bad _
 ·simp only [restV]
  split
  ·exact bz_bad _
  ·split
   ·exact bz_ok _
   ·exact bz_told _
 ·simp only [restV]
  split
  ·exact bz_bad _
  ·split
   ·exact bz_ok _
   ·split
    ·exact bz_bad _
    ·exact bz_told _
theorem bz_val (r : List Dat) : ∀ e : ET, BZ (e.val r) := by
 refine ET.ind fun o c d ks ih => ?_
 have hvs : ∀ v ∈ ET.vals r ks, BZ v := by
  intro v hv
  rw [ET.vals_map] at hv
  obtain ⟨k, hk, rfl⟩ := List.mem_map.1 hv
  exact ih k hk
 simp only [ET.val]
 split
 ·exact bz_ok _
 ·split
  ·exact bz_ok _
  ·split
   ·exact bz_bad _
   ·split
    ·exact bz_logic _ _ _
    ·split
     ·exact bz_choice _ _ (Nat.le_refl _) hvs
     ·split
      ·exact bz_coal _ hvs
      ·exact bz_rest _ _
theorem evalR_yes {r : List Dat} {e : ET} (h : e.may okD = true ∧ e.within r.length = true) : evalR r e = e.val r := by
 unfold evalR
 rw [if_pos h]
 split
 ·rfl
 ·next h2 =>
  have := bz_val r e h2
  generalize e.val r = v at *
  obtain ⟨d, n⟩ := v
  simp only at this
  rw [this]
  rfl
theorem rest_one (o : Int) (a : Res) : restV o [a] = firstErr (told (if o = 20 then (boo (decide (a.1.kind = 1)), 0) else oneD o a.1)) [a] := by
 by_cases h : a.2 = 0 <;> by_cases h2 : o = 20 <;> simp [restV, firstErr, h, h2, told]
theorem rest_two {o : Int} (a b : Res) (h2 : o ≠ 20) : restV o [a, b] = firstErr (told (twoD o a.1 b.1)) [a, b] := by
 by_cases h : a.2 = 0 <;> simp [restV, firstErr, h, h2]
theorem val_rest {o c : Int} {d : Dat} {ks : List ET} {r : List Dat} (ho : ¬ (o = 1 ∨ o = 2 ∨ o = 23 ∨ o = 18 ∨ o = 19 ∨ o = 21 ∨ o = 22)) : (ET.mk o c d ks).val r = restV o (ET.vals r ks) := by
 simp only [ET.val]
 rw [if_neg (by omega), if_neg (by omega), if_neg (by omega), if_neg (by omega), if_neg (by omega), if_neg (by omega)]
theorem rvalue_all (r : List Dat) (ra : Option Addr) (rc : Nat) (hrf : ∀ d ∈ r, d.fits) : ∀ (e : ET) (deep : Nat) (w : World), e.fits → e.good okD deep = true → e.within r.length = true → DatsOn (fun _ => True) w r (.slice ra r.length rc) → RefOK r (.slice ra r.length rc) w e := by
 refine ET.ind fun o c d ks ih deep w hf hg hw hr kv W hb hat => ?_
 have hg' := hg
 simp only [ET.good, Bool.and_eq_true, decide_eq_true_eq, ET.goods_iff] at hg
 obtain ⟨⟨hown, -⟩, hgs⟩ := hg
 simp only [ET.within, Bool.and_eq_true, ET.withins_iff] at hw
 obtain ⟨hfar, hws⟩ := hw
 simp only [ET.fits, ET.fitss_iff] at hf
 obtain ⟨⟨ho0, ho1⟩, -, -, hlen, hfs⟩ := hf
 have hrW := hr.below hb
 obtain ⟨a, cc, rfl, -, hks⟩ := ET.On.iff.1 hat
 simp only [ET.kids] at hks ⊢
 have ihW : ∀ k ∈ ks, RefOK r (.slice ra r.length rc) W k := fun k hk => ih k hk (deep + 1) W (hfs k hk) (hgs k hk) (hws k hk) hrW
 have hok : ∀ k ∈ ks, ResOk (k.val r) := fun k hk => val_ok r hrf k (deep + 1) (hfs k hk) (hgs k hk)
 have hkids := own_kids hown
 by_cases o1 : o = 1
 ·subst o1
  have hcn := own_col_nn hown
  have hclt : c < r.length := by
   simp at hfar
   exact hfar
  exact ref_col r ra rc c d ks a cc W hrW hcn hclt
 by_cases o2 : o = 2
 ·subst o2
  exact ref_lit r _ c d ks a cc W
 by_cases o23 : o = 23
 ·subst o23
  have h5 := ((own_mk hown).2.2.2.2.1 rfl).2
  exact ref_fail r _ c d ks a cc W h5.1 h5.2
 by_cases o21 : o = 21
 ·subst o21
  have hodd : ks.length % 2 = 1 := by
   simp [kidsOk] at hkids
   omega
  exact ref_case r _ c d ks a cc W hlen hodd hks ihW hok
 by_cases o22 : o = 22
 ·subst o22
  have hne : 0 < ks.length := by
   simp [kidsOk] at hkids
   omega
  have h := rcoal r (.slice ra r.length rc) c d ks a cc W hlen hne hks ihW hok
  rwa [show (ET.mk 22 c d ks).val r = coal (ET.vals r ks) by simp [ET.val]]
 by_cases hone : o = 3 ∨ o = 10 ∨ o = 17 ∨ o = 20
 ·have hl1 : ks.length = 1 := by
   simp only [kidsOk] at hkids
   rw [if_neg (by omega), if_pos hone] at hkids
   simpa using hkids
  obtain ⟨k1, rfl⟩ : ∃ k, ks = [k] := List.length_eq_one_iff.1 hl1
  have r1 := (hok k1 (by simp)).1
  rw [val_rest (by omega), show ET.vals r [k1] = [k1.val r] from rfl, rest_one]
  refine rrest r _ o c d [k1] a cc W (by omega) (by simp) (by simp) hks ihW hok _ ?_ ?_
  ·rcases hone with rfl | rfl | rfl | rfl
   ·show BZ _
    rw [if_neg (by decide)]; exact bz_one _ _
   ·show BZ _
    rw [if_neg (by decide)]; exact bz_one _ _
   ·show BZ _
    rw [if_neg (by decide)]; exact bz_one _ _
   ·show BZ _
    rw [if_pos rfl]; exact bz_ok _
  ·intro W' v hv
   rcases hone with rfl | rfl | rfl | rfl
   ·rw [if_neg (by decide)]; exact done_one _ _ negD (by decide) rneg_134 (fun _ => rfl) _ v W' r1 hv
   ·rw [if_neg (by decide)]; exact done_one _ _ lenD (by decide) rlen_141 (fun _ => rfl) _ v W' r1 hv
   ·rw [if_neg (by decide)]; exact done_one _ _ notD (by decide) rnot_142 (fun _ => rfl) _ v W' r1 hv
   ·rw [if_pos rfl]; exact done_20 _ v W' hv
 ·have hl2 : ks.length = 2 ∧ 0 < o ∧ o < 21 := by
   simp only [kidsOk] at hkids
   rw [if_neg (by omega), if_neg hone, if_neg o21, if_neg o22] at hkids
   simp at hkids
   exact ⟨hkids.2, hkids.1.1, hkids.1.2⟩
  by_cases o18 : o = 18
  ·subst o18
   exact ref_logic_18 r _ c d ks a cc W hl2.1 hks ihW hok
  by_cases o19 : o = 19
  ·subst o19
   exact ref_logic_19 r _ c d ks a cc W hl2.1 hks ihW hok
  obtain ⟨k1, k2, rfl⟩ : ∃ k1 k2, ks = [k1, k2] := len_two hl2.1
  have r1 := (hok k1 (by simp)).1
  have r2 := (hok k2 (by simp)).1
  rw [val_rest (by omega), show ET.vals r [k1, k2] = [k1.val r, k2.val r] from rfl, rest_two _ _ (by omega)]
  refine rrest r _ o c d [k1, k2] a cc W (by omega) (by simp) (by simp) hks ihW hok _ (bz_two _ _ _) ?_
  intro W' v hv
  rcases (show o = 4 ∨ o = 5 ∨ o = 6 ∨ o = 7 ∨ o = 8 ∨ o = 9 ∨ o = 11 ∨ o = 12 ∨ o = 13 ∨ o = 14 ∨ o = 15 ∨ o = 16 by omega) with rfl | rfl | rfl | rfl | rfl | rfl | rfl | rfl | rfl | rfl | rfl | rfl
  ·exact done_two _ _ addD (by decide) radd_135 (fun _ _ => rfl) _ _ v W' r1 r2 hv
  ·exact done_two _ _ subD (by decide) rsub_136 (fun _ _ => rfl) _ _ v W' r1 r2 hv
  ·exact done_two _ _ mulD (by decide) rmul_137 (fun _ _ => rfl) _ _ v W' r1 r2 hv
  ·exact done_two _ _ divD (by decide) rdiv_138 (fun _ _ => rfl) _ _ v W' r1 r2 hv
  ·exact done_two _ _ modD (by decide) rmod_139 (fun _ _ => rfl) _ _ v W' r1 r2 hv
  ·exact done_two _ _ catD (by decide) rcat_140 (fun _ _ => rfl) _ _ v W' r1 r2 hv
  ·exact done_cmp _ (by decide) (by decide) _ _ v W' r1 r2 hv
  ·exact done_cmp _ (by decide) (by decide) _ _ v W' r1 r2 hv
  ·exact done_cmp _ (by decide) (by decide) _ _ v W' r1 r2 hv
  ·exact done_cmp _ (by decide) (by decide) _ _ v W' r1 r2 hv
  ·exact done_cmp _ (by decide) (by decide) _ _ v W' r1 r2 hv
  ·exact done_cmp _ (by decide) (by decide) _ _ v W' r1 r2 hv
end Go.Proofs.YtmmhedlagnjbiaaGreatDoor
namespace Go.Proofs.YtmmhedlagnjbiaaGreatDoor
open Go.RowKit Go.Pen Go.Shelf
attribute [local go_sem ↓] Go.wp_at_zero Go.wp_at_succ
attribute [local go_sem] Oper.semAt_some
theorem reval_13 (r : List Dat) (e : ET) (a : Option Addr) (cc : Nat) (ra : Option Addr) (rc : Nat) (w : World) (hfit : e.fits) (hrf : ∀ d ∈ r, d.fits) (hat : e.At w (.slice a e.kids.length cc)) (hr : DatsOn (fun _ => True) w r (.slice ra r.length rc)) :
  Calls Tryz.prog 12 #[e.agg (.slice a e.kids.length cc), .slice ra r.length rc] w (RefPost (evalR r e) w) := by
 have h33 := fun (W : World) (hb : Below w.heap.size w W) => check_33 e a _ cc W (hat.below hb) hfit
 have hwi := fun W hb => within_44 e _ r.length W (hat.below (w' := W) hb) hfit
 have hce : e.may okD = true → e.within r.length = true → ∀ (W : World) (hb : Below w.heap.size w W), Calls Tryz.prog 25 #[e.agg (.slice a e.kids.length cc), .slice ra r.length rc] W (RefPost (e.val r) W) := fun hm hw W hb =>
  rvalue_all r ra rc hrf e 1 w hfit (by simp only [ET.may, Bool.and_eq_true] at hm; exact hm.1) hw hr _ W hb (hat.below hb)
 have hyes : e.may okD = true ∧ e.within r.length = true → evalR r e = e.val r := evalR_yes
 have hno : ¬ (e.may okD = true ∧ e.within r.length = true) → evalR r e = bad 30 := fun h => by unfold evalR; rw [if_neg h]
 unfold ET.agg at h33 hwi hce
 have H33 := Lib.hid h33
 have HWI := Lib.hid hwi
 clear h33 hwi hat hfit hr
 obtain ⟨R, eR⟩ : ∃ R, R = evalR r e := ⟨_, rfl⟩
 rw [← eR] at hyes hno ⊢
 unfold ET.agg
 by_cases hm : e.may okD = true
 rotate_left
 ·have h := hno (fun h => hm h.1)
  subst h
  rw [if_neg hm] at H33
  clear hm eR hyes hno hce
  go_enter Tryz.func12, Tryz.ntmps12
  go_wp2_with (go_at_call 19; refine (H33.out _ (two_below _ _ _)).mono ?_; rintro ev w1 ⟨rfl, hb1⟩; obtain ⟨t1, t2⟩ := two_at hb1; obtain ⟨y0, y1, y2, y3, y4, y5, y6⟩ := cs7 t1; obtain ⟨z0, g0, z1, g1, z2, g2, z3, g3⟩ := cf4 t2; have T1 := Lib.hid t1; have T2 := Lib.hid t2; have HB1 := Lib.hid ((two_below _ _ _).trans (hb1.mono (by simp <;> omega))); clear hb1 t1 t2)
  refine bodyPost_ret (results_row_tmp rfl _ _ (w.heap.size + 1) 25 _ (0, 0) _ rfl (setRow4_at T2.out) Tryz.underlying25 rfl (by kernel_rfl)) rfl ?_
  exact ⟨rfl, setRow4_below HB1.out (by show w.heap.size ≤ w.heap.size + 1; omega)⟩
 ·rw [if_pos hm] at H33
  by_cases hw : e.within r.length = true
  rotate_left
  ·have h := hno (fun h => hw h.2)
   subst h
   rw [show e.within r.length = false by simpa using hw] at HWI
   clear hm hw eR hyes hno hce
   go_enter Tryz.func12, Tryz.ntmps12
   go_wp2_with (first | (go_at_call 19; refine (H33.out _ (two_below _ _ _)).mono ?_; rintro ev w1 ⟨rfl, hb1⟩; obtain ⟨t1, t2⟩ := two_at hb1; obtain ⟨y0, y1, y2, y3, y4, y5, y6⟩ := cs7 t1; obtain ⟨z0, g0, z1, g1, z2, g2, z3, g3⟩ := cf4 t2; have T1 := Lib.hid t1; have T2 := Lib.hid t2; have HB1 := Lib.hid ((two_below _ _ _).trans (hb1.mono (by simp <;> omega))); clear hb1 t1 t2) | (go_at_call 24; refine (HWI.out _ HB1.out).mono ?_; rintro ev w3 ⟨rfl, hb3⟩; have t1 := (hb3.block _ (lt_of_heap T1.out)).trans T1.out; have t2 := (hb3.block _ (lt_of_heap T2.out)).trans T2.out; obtain ⟨y0, y1, y2, y3, y4, y5, y6⟩ := cs7 t1; obtain ⟨z0, g0, z1, g1, z2, g2, z3, g3⟩ := cf4 t2; have T31 := Lib.hid t1; have T3 := Lib.hid t2; have HB3 := Lib.hid (HB1.out.trans (hb3.mono HB1.out.size)); clear hb3 t1 t2))
   refine bodyPost_ret (results_row_tmp rfl _ _ (w.heap.size + 1) 25 _ (0, 0) _ rfl (setRow4_at T3.out) Tryz.underlying25 rfl (by kernel_rfl)) rfl ?_
   exact ⟨rfl, setRow4_below HB3.out (by show w.heap.size ≤ w.heap.size + 1; omega)⟩
  ·have h := hyes ⟨hm, hw⟩
   have hce := hce hm hw
   rw [← h] at hce
   have HCE := Lib.hid hce
   rw [hw] at HWI
   clear hm hw eR hyes hno hce h
   go_enter Tryz.func12, Tryz.ntmps12
   go_wp2_with (first | (go_at_call 19; refine (H33.out _ (two_below _ _ _)).mono ?_; rintro ev w1 ⟨rfl, hb1⟩; obtain ⟨t1, t2⟩ := two_at hb1; obtain ⟨y0, y1, y2, y3, y4, y5, y6⟩ := cs7 t1; obtain ⟨z0, g0, z1, g1, z2, g2, z3, g3⟩ := cf4 t2; have T1 := Lib.hid t1; have T2 := Lib.hid t2; have HB1 := Lib.hid ((two_below _ _ _).trans (hb1.mono (by simp <;> omega))); clear hb1 t1 t2) | (go_at_call 24; refine (HWI.out _ HB1.out).mono ?_; rintro ev w3 ⟨rfl, hb3⟩; have t1 := (hb3.block _ (lt_of_heap T1.out)).trans T1.out; have t2 := (hb3.block _ (lt_of_heap T2.out)).trans T2.out; obtain ⟨y0, y1, y2, y3, y4, y5, y6⟩ := cs7 t1; obtain ⟨z0, g0, z1, g1, z2, g2, z3, g3⟩ := cf4 t2; have T31 := Lib.hid t1; have T3 := Lib.hid t2; have HB3 := Lib.hid (HB1.out.trans (hb3.mono HB1.out.size)); clear hb3 t1 t2))
   refine (HCE.out _ HB3.out).mono ?_
   rintro ev w5 ⟨rfl, hb5⟩
   clear z0 g0 z1 g1 z2 g2 z3 g3 y0 y1 y2 y3 y4 y5 y6
   have t5 := (hb5.block _ (lt_of_heap T3.out)).trans T3.out
   have T5 := Lib.hid t5
   have HB5 := Lib.hid (HB3.out.trans (hb5.mono HB3.out.size))
   obtain ⟨z0, g0, z1, g1, z2, g2, z3, g3⟩ := cf4 t5
   clear hb5 t5
   unfold resI Dat.agg
   go_wp2
   refine bodyPost_ret (results_row_tmp rfl _ _ (w.heap.size + 1) 25 _ (0, 0) _ rfl (setRow4_at T5.out) Tryz.underlying25 rfl (by kernel_rfl)) rfl ?_
   exact ⟨rfl, setRow4_below HB5.out (by show w.heap.size ≤ w.heap.size + 1; omega)⟩
theorem evalR_le (r : List Dat) (e : ET) (hrf : ∀ d ∈ r, d.fits) (hf : e.fits) : (evalR r e).2 ≤ 65535 := by
 by_cases h : e.may okD = true ∧ e.within r.length = true
 ·rw [evalR_yes h]
  exact (val_ok r hrf e 1 hf (ET.may_good h.1)).2
 ·unfold evalR
  rw [if_neg h]
  show 30 ≤ 65535
  decide
end Go.Proofs.YtmmhedlagnjbiaaGreatDoor
