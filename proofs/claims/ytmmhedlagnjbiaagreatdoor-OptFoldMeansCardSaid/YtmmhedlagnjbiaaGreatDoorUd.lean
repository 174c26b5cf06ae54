import Derived.Test.YtmmhedlagnjbiaaGreatDoorUa
/- our texts, shortened by program (pack.py) -/
set_option maxRecDepth 100000
set_option maxHeartbeats 8000000
namespace Go.Proofs.YtmmhedlagnjbiaaGreatDoor
open Go.RowKit Go.Pen Go.Shelf
attribute [local go_sem] Oper.semAt_some
def TruthPost (v : Res) (w : World) (ev : Ending) (w' : World) : Prop := ev = .returned (.tuple #[.bool (truth v).2.1, .bool (truth v).2.2, errV (truth v).1]) ∧ Below w.heap.size w w'
theorem truth_post {v : Res} {w w' : World} {x : Value} (h : x = .tuple #[.bool (truth v).2.1, .bool (truth v).2.2, errV (truth v).1]) (hb : Below w.heap.size w w') : TruthPost v w (.returned x) w' := ⟨by rw [h], hb⟩
theorem truth_85 (r : List Dat) (rv : Value) (w : World) (k : ET) (ih : EvalOK r rv w k) (hv : ResOk (k.val r)) (hT : Lib.Utf8Tabs 0 1 w) (h11 : 3 ≤ w.heap.size) (kv : Value) (W : World) (hb : Below w.heap.size w W) (hat : k.At W kv) :
  Calls Tryz.prog 108 #[k.agg kv, rv] W (TruthPost (k.val r) W) := by
 have hc := fun (W2 : World) (hb2 : Below W.heap.size W W2) => ih kv W2 (hb.trans (hb2.mono hb.size)) (hat.below hb2)
 generalize k.val r = v at *
 have hck := fun (W2 : World) (hb2 : Below W.heap.size W W2) => check_54 v.1 W2 hv.1 (tabs_below hT (hb.trans (hb2.mono hb.size)) h11) (by have := hb.size; have := hb2.size; omega)
 unfold ET.agg at hc ⊢
 unfold Dat.agg at hck
 have HC := Lib.hid hc
 clear hc ih hat hT hb hv h11
 go_enter Tryz.func108, Tryz.ntmps108
 go_wp2_with fail
 refine (HC.out _ (one_below _ _)).mono ?_
 rintro ev w2 ⟨rfl, hb2⟩
 have HB2 := Lib.hid ((one_below _ _).trans (hb2.mono (by simp)))
 clear hb2 HC
 unfold evT Dat.agg
 by_cases e1 : v.2 = 0
 rotate_left
 ·rw [errV_ne e1]
  have hx : Value.tuple #[.bool (truth v).2.1, .bool (truth v).2.2, errV (truth v).1] = .tuple #[.bool false, .bool false, .iface 159 (.agg #[.int .u16 v.2])] := by
   rw [show truth v = (v.2, false, false) by simp [truth, e1], errV_ne e1]
  have HX := Lib.hid hx
  clear hx hck e1
  go_wp2
  go_ret3
  exact ⟨by rw [HX.out]; rfl, HB2.out.alloc HB2.out.size _⟩
 ·rw [e1, errV_zero]
  have hcw := hck _ (HB2.out.alloc HB2.out.size (.cells #[.int .u8 v.1.kind, .bool v.1.bool, .int .i64 v.1.int, .string v.1.text] 25))
  by_cases ec : chkD v.1 = 0
  rotate_left
  ·have hx : Value.tuple #[.bool (truth v).2.1, .bool (truth v).2.2, errV (truth v).1] = .tuple #[.bool false, .bool false, .iface 159 (.agg #[.int .u16 31])] := by
    rw [show truth v = (31, false, false) by simp [truth, e1, okD, ec]]
    rfl
   have q : ((chkD v.1 : Int) != 0) = true := by simp; exact ec
   have HX := Lib.hid hx
   have HCW := Lib.hid hcw
   clear hx hck hcw e1 ec
   go_wp2_with (go_at_call 29; refine HCW.out.mono ?_; rintro ev w4 ⟨rfl, hb4⟩; have t4 := one_at hb4; obtain ⟨z0, g0, z1, g1, z2, g2, z3, g3⟩ := cf4 t4; have HB4 := Lib.hid ((HB2.out.alloc HB2.out.size _).trans (hb4.mono (HB2.out.alloc HB2.out.size _).size)); clear hb4 t4)
   go_ret3
   exact ⟨by rw [HX.out]; rfl, HB4.out⟩
  ·rw [ec] at hcw
   have HCW := Lib.hid hcw
   by_cases ek : 2 < v.1.kind
   ·have hx : Value.tuple #[.bool (truth v).2.1, .bool (truth v).2.2, errV (truth v).1] = .tuple #[.bool false, .bool false, .iface 159 (.agg #[.int .u16 31])] := by
     rw [show truth v = (31, false, false) by simp [truth, e1, ek]]
     rfl
    have HX := Lib.hid hx
    clear hx hck hcw e1 ec
    go_wp2_with (go_at_call 29; refine HCW.out.mono ?_; rintro ev w4 ⟨rfl, hb4⟩; have t4 := one_at hb4; obtain ⟨z0, g0, z1, g1, z2, g2, z3, g3⟩ := cf4 t4; have HB4 := Lib.hid ((HB2.out.alloc HB2.out.size _).trans (hb4.mono (HB2.out.alloc HB2.out.size _).size)); clear hb4 t4)
    go_ret3
    exact ⟨by rw [HX.out]; rfl, HB4.out⟩
   ·have hx : Value.tuple #[.bool (truth v).2.1, .bool (truth v).2.2, errV (truth v).1] = .tuple #[.bool v.1.bool, .bool (v.1.kind == 1), .nilIface] := by
     rw [show truth v = (0, v.1.bool, decide (v.1.kind = 1)) by simp [truth, e1, okD, ec, ek]]
     rfl
    have HX := Lib.hid hx
    clear hx hck hcw e1 ec
    go_wp2_with (go_at_call 29; refine HCW.out.mono ?_; rintro ev w4 ⟨rfl, hb4⟩; have t4 := one_at hb4; obtain ⟨z0, g0, z1, g1, z2, g2, z3, g3⟩ := cf4 t4; have HB4 := Lib.hid ((HB2.out.alloc HB2.out.size _).trans (hb4.mono (HB2.out.alloc HB2.out.size _).size)); clear hb4 t4)
    go_quiet (fail)
    go_wp2
    go_ret3
    exact ⟨by rw [HX.out]; rfl, Go.Pen.below_drewN HB4.out⟩
theorem vals_at {r : List Dat} {ks : List ET} {i : Nat} {k : ET} (h : ks[i]? = some k) : (ET.vals r ks).drop i = k.val r :: (ET.vals r ks).drop (i + 1) := by
 have hv : (ET.vals r ks)[i]? = some (k.val r) := by rw [ET.vals_map, List.getElem?_map, h]; rfl
 obtain ⟨hl, he⟩ := List.getElem?_eq_some_iff.1 hv
 rw [List.drop_eq_getElem_cons hl, he]
theorem vals_end {r : List Dat} {ks : List ET} {i : Nat} (h : ks.length ≤ i) : (ET.vals r ks).drop i = [] := List.drop_eq_nil_of_le (by rw [ET.vals_map, List.length_map]; exact h)
def TruthOK (r : List Dat) (rv : Value) (w : World) (k : ET) : Prop := ∀ (kv : Value) (W : World), Below w.heap.size w W → k.At W kv → Calls Tryz.prog 108 #[k.agg kv, rv] W (TruthPost (k.val r) W)
theorem eval_logic_18 (r : List Dat) (rv : Value) (c : Int) (d : Dat) (ks : List ET) (a : Option Addr) (cc : Nat) (w : World) (hl : ks.length ≤ 140737488355328)
  (hks : ks ≠ [] → ∃ b o, a = some ⟨b, o, none⟩ ∧ True ∧ ET.Ons (fun _ => True) w ks b o) (htr : ∀ k ∈ ks, TruthOK r rv w k) :
  Calls Tryz.prog 88 #[(ET.mk 18 c d ks).agg (.slice a ks.length cc), rv] w (EvalPost ((ET.mk 18 c d ks).val r) w) := by
 obtain ⟨R, eR⟩ : ∃ R, R = (ET.mk 18 c d ks).val r := ⟨_, rfl⟩
 rw [← eR]
 have hval : (ET.mk 18 c d ks).val r = logic false false (ET.vals r ks) := by simp [ET.val]
 rw [hval] at eR
 obtain ⟨K, eK⟩ : ∃ K, K = ks.length := ⟨_, rfl⟩
 rw [← eK] at hl ⊢
 have EK := Lib.hid eK
 have ER := Lib.hid eR
 have HKS := Lib.hid hks
 have HTR := Lib.hid htr
 clear hval eR eK hks htr
 unfold ET.agg
 simp only [ET.op, ET.col, ET.lit]
 obtain ⟨w1, hw1⟩ : ∃ w1, w1 = (w.alloc (.cells #[.int .u8 18, .slice a K cc, .int .i64 c, .int .u8 d.kind, .bool d.bool, .int .i64 d.int, .string d.text] 27)).alloc (.cells #[.int .u8 0, .bool false, .int .i64 0, .string ⟨#[]⟩] 25) := ⟨_, rfl⟩
 have hb1 : Below w.heap.size w w1 := by rw [hw1]; exact two_below _ _ _
 have ht := two_at (w := w) (w1 := w1) (a := .cells #[.int .u8 18, .slice a K cc, .int .i64 c, .int .u8 d.kind, .bool d.bool, .int .i64 d.int, .string d.text] 27) (b := .cells #[.int .u8 0, .bool false, .int .i64 0, .string ⟨#[]⟩] 25) (by rw [hw1]; exact Below.refl _ _)
 have HB1 := Lib.hid hb1
 have T1 := Lib.hid ht.2
 have HW1 := Lib.hid hw1
 clear hb1 ht hw1
 go_enter Tryz.func88, Tryz.ntmps88
 go_wp2_with fail
 rw [← HW1.out]
 go_loopg [7, 55] K (fun g s7 s55 wr => ∃ (i : Nat) (so : Bool), i ≤ K ∧ g = K - i ∧ s55 = .int .i64 i ∧ s7 = .bool so ∧ logic false so ((ET.vals r ks).drop i) = R ∧ wr.heap[w.heap.size + 1]? = some (.cells #[.int .u8 0, .bool false, .int .i64 0, .string ⟨#[]⟩] 25 (0, 0)) ∧ Below w.heap.size w wr)
 case atStart => exact ⟨0, false, Nat.zero_le _, rfl, rfl, rfl, by rw [List.drop_zero]; exact ER.out.symm, T1.out, HB1.out⟩
 case round =>
  obtain ⟨i, so, hi, rfl, rfl, rfl, hlog, htr, hbr⟩ := hrel
  have HTT := Lib.hid htr
  have HBR := Lib.hid hbr
  by_cases hlt : i < K
  ·obtain ⟨k, hk⟩ : ∃ k, ks[i]? = some k := ⟨ks[i]'(by rw [← EK.out]; exact hlt), List.getElem?_eq_getElem _⟩
   obtain ⟨b, off, rfl, -, hats⟩ := HKS.out (fun e => by rw [e] at hk; simp at hk)
   obtain ⟨kv, hkc, hkat⟩ := hats.get hk
   obtain ⟨a', c', rfl⟩ := hkat.slice
   obtain ⟨k0, k1, k2, k3, k4, k5, k6⟩ := hkc.below hbr
   have hct := fun (W : World) (hb : Below wr.heap.size wr W) => HTR.out k (List.mem_of_getElem? hk) _ W (HBR.out.trans (hb.mono HBR.out.size)) (hkat.below (HBR.out.trans (hb.mono HBR.out.size)))
   unfold ET.agg at hct
   rw [vals_at hk] at hlog
   have HCT := Lib.hid hct
   have HLOG := Lib.hid hlog
   have HK := Lib.hid hk
   clear hats hkc hkat hct hk hlog hbr htr
   go_wp2_with fail
   refine (HCT.out _ (one_below _ _)).mono ?_
   rintro ev w2 ⟨rfl, hb2⟩
   have hb2' : Below wr.heap.size wr w2 := (one_below _ _).trans (hb2.mono (by simp))
   have HB2 : Hid (Below w.heap.size w w2) := Lib.hid (HBR.out.trans (hb2'.mono HBR.out.size))
   have t2 := (hb2'.block _ (lt_of_heap HTT.out)).trans HTT.out
   have T2 := Lib.hid t2
   have hlog := HLOG.out
   simp only [logic] at hlog
   generalize truth (k.val r) = tv at *
   obtain ⟨n, is, nl⟩ := tv
   simp only at hlog
   clear hb2 hb2' HCT HLOG k0 k1 k2 k3 k4 k5 k6
   by_cases en : n = 0
   rotate_left
   ·rw [if_pos en] at hlog
    have hev : evT R = .tuple #[Dat.zero.agg, .iface 159 (.agg #[.int .u16 n])] := by rw [← hlog]; simp only [evT, bad]; rw [errV_ne en]
    have HV := Lib.hid hev
    rw [show errV n = .iface 159 (.agg #[.int .u16 n]) from errV_ne en]
    obtain ⟨z0, g0, z1, g1, z2, g2, z3, g3⟩ := cf4 t2
    clear hev hlog en t2
    go_wp2
    refine bodyPost_ret (results_row_tmp rfl _ _ (w.heap.size + 1) 25 _ (0, 0) _ rfl (setRow4_at T2.out) Tryz.underlying25 rfl (by kernel_rfl)) rfl ?_
    exact ⟨by rw [HV.out]; rfl, setRow4_below HB2.out (by show w.heap.size ≤ w.heap.size + 1; omega)⟩
   ·subst en
    rw [if_neg (fun h => h rfl)] at hlog
    simp only [errV_zero]
    obtain ⟨z0, g0, z1, g1, z2, g2, z3, g3⟩ := cf4 t2
    cases nl
    ·cases is
     ·have hev : evT R = .tuple #[(boo false).agg, .nilIface] := by rw [← hlog]; rfl
      have HV := Lib.hid hev
      clear hev hlog t2
      go_wp2
      refine bodyPost_ret (results_row_tmp rfl _ _ (w.heap.size + 1) 25 _ (0, 0) _ rfl (setRow4_at T2.out) Tryz.underlying25 rfl (by kernel_rfl)) rfl ?_
      exact ⟨by rw [HV.out]; rfl, setRow4_below HB2.out (by show w.heap.size ≤ w.heap.size + 1; omega)⟩
     ·have hl2 : logic false so ((ET.vals r ks).drop (i + 1)) = R := by rw [← hlog]; cases so <;> rfl
      have HL := Lib.hid hl2
      clear hl2 hlog t2 z0 z1 z2 z3 g0 g1 g2 g3
      cases so
      all_goals
       go_wp2
       go_roundg (K - (i + 1))
       case measure => omega
       case rel => exact ⟨i + 1, _, by omega, rfl, by go_num, rfl, HL.out, T2.out, HB2.out⟩
    ·cases is
     ·have hl2 : logic false true ((ET.vals r ks).drop (i + 1)) = R := by rw [← hlog]; cases so <;> rfl
      have HL := Lib.hid hl2
      clear hl2 hlog t2 z0 z1 z2 z3 g0 g1 g2 g3
      cases so
      all_goals
       go_wp2
       go_roundg (K - (i + 1))
       case measure => omega
       case rel => exact ⟨i + 1, _, by omega, rfl, by go_num, rfl, HL.out, T2.out, HB2.out⟩
     ·have hl2 : logic false true ((ET.vals r ks).drop (i + 1)) = R := by rw [← hlog]; cases so <;> rfl
      have HL := Lib.hid hl2
      clear hl2 hlog t2 z0 z1 z2 z3 g0 g1 g2 g3
      cases so
      all_goals
       go_wp2
       go_roundg (K - (i + 1))
       case measure => omega
       case rel => exact ⟨i + 1, _, by omega, rfl, by go_num, rfl, HL.out, T2.out, HB2.out⟩
  ·obtain rfl : K = i := by omega
   rw [vals_end (by rw [← EK.out]; exact Nat.le_refl _)] at hlog
   simp only [logic] at hlog
   obtain ⟨z0, g0, z1, g1, z2, g2, z3, g3⟩ := cf4 htr
   cases so
   ·have hev : evT R = .tuple #[(boo true).agg, .nilIface] := by rw [← hlog]; rfl
    have HV := Lib.hid hev
    clear hev hlog htr hbr
    go_wp2
    refine bodyPost_ret (results_row_tmp rfl _ _ (w.heap.size + 1) 25 _ (0, 0) _ rfl (setRow4_at HTT.out) Tryz.underlying25 rfl (by kernel_rfl)) rfl ?_
    exact ⟨by rw [HV.out]; rfl, setRow4_below HBR.out (by show w.heap.size ≤ w.heap.size + 1; omega)⟩
   ·have hev : evT R = .tuple #[nul.agg, .nilIface] := by rw [← hlog]; rfl
    have HV := Lib.hid hev
    clear hev hlog htr hbr
    go_wp2
    refine bodyPost_ret (results_row_tmp rfl _ _ (w.heap.size + 1) 25 _ (0, 0) _ rfl (setRow4_at HTT.out) Tryz.underlying25 rfl (by kernel_rfl)) rfl ?_
    exact ⟨by rw [HV.out]; rfl, setRow4_below HBR.out (by show w.heap.size ≤ w.heap.size + 1; omega)⟩
theorem eval_logic_19 (r : List Dat) (rv : Value) (c : Int) (d : Dat) (ks : List ET) (a : Option Addr) (cc : Nat) (w : World) (hl : ks.length ≤ 140737488355328)
  (hks : ks ≠ [] → ∃ b o, a = some ⟨b, o, none⟩ ∧ True ∧ ET.Ons (fun _ => True) w ks b o) (htr : ∀ k ∈ ks, TruthOK r rv w k) :
  Calls Tryz.prog 88 #[(ET.mk 19 c d ks).agg (.slice a ks.length cc), rv] w (EvalPost ((ET.mk 19 c d ks).val r) w) := by
 obtain ⟨R, eR⟩ : ∃ R, R = (ET.mk 19 c d ks).val r := ⟨_, rfl⟩
 rw [← eR]
 have hval : (ET.mk 19 c d ks).val r = logic true false (ET.vals r ks) := by simp [ET.val]
 rw [hval] at eR
 obtain ⟨K, eK⟩ : ∃ K, K = ks.length := ⟨_, rfl⟩
 rw [← eK] at hl ⊢
 have EK := Lib.hid eK
 have ER := Lib.hid eR
 have HKS := Lib.hid hks
 have HTR := Lib.hid htr
 clear hval eR eK hks htr
 unfold ET.agg
 simp only [ET.op, ET.col, ET.lit]
 obtain ⟨w1, hw1⟩ : ∃ w1, w1 = (w.alloc (.cells #[.int .u8 19, .slice a K cc, .int .i64 c, .int .u8 d.kind, .bool d.bool, .int .i64 d.int, .string d.text] 27)).alloc (.cells #[.int .u8 0, .bool false, .int .i64 0, .string ⟨#[]⟩] 25) := ⟨_, rfl⟩
 have hb1 : Below w.heap.size w w1 := by rw [hw1]; exact two_below _ _ _
 have ht := two_at (w := w) (w1 := w1) (a := .cells #[.int .u8 19, .slice a K cc, .int .i64 c, .int .u8 d.kind, .bool d.bool, .int .i64 d.int, .string d.text] 27) (b := .cells #[.int .u8 0, .bool false, .int .i64 0, .string ⟨#[]⟩] 25) (by rw [hw1]; exact Below.refl _ _)
 have HB1 := Lib.hid hb1
 have T1 := Lib.hid ht.2
 have HW1 := Lib.hid hw1
 clear hb1 ht hw1
 go_enter Tryz.func88, Tryz.ntmps88
 go_wp2_with fail
 rw [← HW1.out]
 go_loopg [7, 55] K (fun g s7 s55 wr => ∃ (i : Nat) (so : Bool), i ≤ K ∧ g = K - i ∧ s55 = .int .i64 i ∧ s7 = .bool so ∧ logic true so ((ET.vals r ks).drop i) = R ∧ wr.heap[w.heap.size + 1]? = some (.cells #[.int .u8 0, .bool false, .int .i64 0, .string ⟨#[]⟩] 25 (0, 0)) ∧ Below w.heap.size w wr)
 case atStart => exact ⟨0, false, Nat.zero_le _, rfl, rfl, rfl, by rw [List.drop_zero]; exact ER.out.symm, T1.out, HB1.out⟩
 case round =>
  obtain ⟨i, so, hi, rfl, rfl, rfl, hlog, htr, hbr⟩ := hrel
  have HTT := Lib.hid htr
  have HBR := Lib.hid hbr
  by_cases hlt : i < K
  ·obtain ⟨k, hk⟩ : ∃ k, ks[i]? = some k := ⟨ks[i]'(by rw [← EK.out]; exact hlt), List.getElem?_eq_getElem _⟩
   obtain ⟨b, off, rfl, -, hats⟩ := HKS.out (fun e => by rw [e] at hk; simp at hk)
   obtain ⟨kv, hkc, hkat⟩ := hats.get hk
   obtain ⟨a', c', rfl⟩ := hkat.slice
   obtain ⟨k0, k1, k2, k3, k4, k5, k6⟩ := hkc.below hbr
   have hct := fun (W : World) (hb : Below wr.heap.size wr W) => HTR.out k (List.mem_of_getElem? hk) _ W (HBR.out.trans (hb.mono HBR.out.size)) (hkat.below (HBR.out.trans (hb.mono HBR.out.size)))
   unfold ET.agg at hct
   rw [vals_at hk] at hlog
   have HCT := Lib.hid hct
   have HLOG := Lib.hid hlog
   have HK := Lib.hid hk
   clear hats hkc hkat hct hk hlog hbr htr
   go_wp2_with fail
   refine (HCT.out _ (one_below _ _)).mono ?_
   rintro ev w2 ⟨rfl, hb2⟩
   have hb2' : Below wr.heap.size wr w2 := (one_below _ _).trans (hb2.mono (by simp))
   have HB2 : Hid (Below w.heap.size w w2) := Lib.hid (HBR.out.trans (hb2'.mono HBR.out.size))
   have t2 := (hb2'.block _ (lt_of_heap HTT.out)).trans HTT.out
   have T2 := Lib.hid t2
   have hlog := HLOG.out
   simp only [logic] at hlog
   generalize truth (k.val r) = tv at *
   obtain ⟨n, is, nl⟩ := tv
   simp only at hlog
   clear hb2 hb2' HCT HLOG k0 k1 k2 k3 k4 k5 k6
   by_cases en : n = 0
   rotate_left
   ·rw [if_pos en] at hlog
    have hev : evT R = .tuple #[Dat.zero.agg, .iface 159 (.agg #[.int .u16 n])] := by rw [← hlog]; simp only [evT, bad]; rw [errV_ne en]
    have HV := Lib.hid hev
    rw [show errV n = .iface 159 (.agg #[.int .u16 n]) from errV_ne en]
    obtain ⟨z0, g0, z1, g1, z2, g2, z3, g3⟩ := cf4 t2
    clear hev hlog en t2
    go_wp2
    refine bodyPost_ret (results_row_tmp rfl _ _ (w.heap.size + 1) 25 _ (0, 0) _ rfl (setRow4_at T2.out) Tryz.underlying25 rfl (by kernel_rfl)) rfl ?_
    exact ⟨by rw [HV.out]; rfl, setRow4_below HB2.out (by show w.heap.size ≤ w.heap.size + 1; omega)⟩
   ·subst en
    rw [if_neg (fun h => h rfl)] at hlog
    simp only [errV_zero]
    obtain ⟨z0, g0, z1, g1, z2, g2, z3, g3⟩ := cf4 t2
    cases nl
    ·cases is
     ·have hl2 : logic true so ((ET.vals r ks).drop (i + 1)) = R := by rw [← hlog]; cases so <;> rfl
      have HL := Lib.hid hl2
      clear hl2 hlog t2 z0 z1 z2 z3 g0 g1 g2 g3
      cases so
      all_goals
       go_wp2
       go_roundg (K - (i + 1))
       case measure => omega
       case rel => exact ⟨i + 1, _, by omega, rfl, by go_num, rfl, HL.out, T2.out, HB2.out⟩
     ·have hev : evT R = .tuple #[(boo true).agg, .nilIface] := by rw [← hlog]; rfl
      have HV := Lib.hid hev
      clear hev hlog t2
      go_wp2
      refine bodyPost_ret (results_row_tmp rfl _ _ (w.heap.size + 1) 25 _ (0, 0) _ rfl (setRow4_at T2.out) Tryz.underlying25 rfl (by kernel_rfl)) rfl ?_
      exact ⟨by rw [HV.out]; rfl, setRow4_below HB2.out (by show w.heap.size ≤ w.heap.size + 1; omega)⟩
    ·cases is
     ·have hl2 : logic true true ((ET.vals r ks).drop (i + 1)) = R := by rw [← hlog]; cases so <;> rfl
      have HL := Lib.hid hl2
      clear hl2 hlog t2 z0 z1 z2 z3 g0 g1 g2 g3
      cases so
      all_goals
       go_wp2
       go_roundg (K - (i + 1))
       case measure => omega
       case rel => exact ⟨i + 1, _, by omega, rfl, by go_num, rfl, HL.out, T2.out, HB2.out⟩
     ·have hl2 : logic true true ((ET.vals r ks).drop (i + 1)) = R := by rw [← hlog]; cases so <;> rfl
      have HL := Lib.hid hl2
      clear hl2 hlog t2 z0 z1 z2 z3 g0 g1 g2 g3
      cases so
      all_goals
       go_wp2
       go_roundg (K - (i + 1))
       case measure => omega
       case rel => exact ⟨i + 1, _, by omega, rfl, by go_num, rfl, HL.out, T2.out, HB2.out⟩
  ·obtain rfl : K = i := by omega
   rw [vals_end (by rw [← EK.out]; exact Nat.le_refl _)] at hlog
   simp only [logic] at hlog
   obtain ⟨z0, g0, z1, g1, z2, g2, z3, g3⟩ := cf4 htr
   cases so
   ·have hev : evT R = .tuple #[(boo false).agg, .nilIface] := by rw [← hlog]; rfl
    have HV := Lib.hid hev
    clear hev hlog htr hbr
    go_wp2
    refine bodyPost_ret (results_row_tmp rfl _ _ (w.heap.size + 1) 25 _ (0, 0) _ rfl (setRow4_at HTT.out) Tryz.underlying25 rfl (by kernel_rfl)) rfl ?_
    exact ⟨by rw [HV.out]; rfl, setRow4_below HBR.out (by show w.heap.size ≤ w.heap.size + 1; omega)⟩
   ·have hev : evT R = .tuple #[nul.agg, .nilIface] := by rw [← hlog]; rfl
    have HV := Lib.hid hev
    clear hev hlog htr hbr
    go_wp2
    refine bodyPost_ret (results_row_tmp rfl _ _ (w.heap.size + 1) 25 _ (0, 0) _ rfl (setRow4_at HTT.out) Tryz.underlying25 rfl (by kernel_rfl)) rfl ?_
    exact ⟨by rw [HV.out]; rfl, setRow4_below HBR.out (by show w.heap.size ≤ w.heap.size + 1; omega)⟩
theorem eval_case (r : List Dat) (rv : Value) (c : Int) (d : Dat) (ks : List ET) (a : Option Addr) (cc : Nat) (w : World) (hl : ks.length ≤ 140737488355328) (hodd : ks.length % 2 = 1)
  (hks : ks ≠ [] → ∃ b o, a = some ⟨b, o, none⟩ ∧ True ∧ ET.Ons (fun _ => True) w ks b o) (htr : ∀ k ∈ ks, TruthOK r rv w k) (hev : ∀ k ∈ ks, EvalOK r rv w k) :
  Calls Tryz.prog 88 #[(ET.mk 21 c d ks).agg (.slice a ks.length cc), rv] w (EvalPost ((ET.mk 21 c d ks).val r) w) := by
 obtain ⟨R, eR⟩ : ∃ R, R = (ET.mk 21 c d ks).val r := ⟨_, rfl⟩
 rw [← eR]
 have hval : (ET.mk 21 c d ks).val r = choice (ET.vals r ks) := by simp [ET.val]
 rw [hval] at eR
 obtain ⟨K, eK⟩ : ∃ K, K = ks.length := ⟨_, rfl⟩
 rw [← eK] at hl hodd ⊢
 have EK := Lib.hid eK
 have ER := Lib.hid eR
 obtain ⟨b, off, rfl, -, hats⟩ := hks (fun e => by rw [e] at eK; rw [eK] at hodd; simp at hodd)
 have HATS := Lib.hid hats
 have HTR := Lib.hid htr
 have HEV := Lib.hid hev
 clear hval eR eK hks htr hev hats
 unfold ET.agg
 simp only [ET.op, ET.col, ET.lit]
 obtain ⟨w1, hw1⟩ : ∃ w1, w1 = (w.alloc (.cells #[.int .u8 21, .slice (some ⟨b, off, none⟩) K cc, .int .i64 c, .int .u8 d.kind, .bool d.bool, .int .i64 d.int, .string d.text] 27)).alloc (.cells #[.int .u8 0, .bool false, .int .i64 0, .string ⟨#[]⟩] 25) := ⟨_, rfl⟩
 have hb1 : Below w.heap.size w w1 := by rw [hw1]; exact two_below _ _ _
 have ht := two_at (w := w) (w1 := w1) (a := .cells #[.int .u8 21, .slice (some ⟨b, off, none⟩) K cc, .int .i64 c, .int .u8 d.kind, .bool d.bool, .int .i64 d.int, .string d.text] 27) (b := .cells #[.int .u8 0, .bool false, .int .i64 0, .string ⟨#[]⟩] 25) (by rw [hw1]; exact Below.refl _ _)
 have HB1 := Lib.hid hb1
 have T0 := Lib.hid ht.1
 have T1 := Lib.hid ht.2
 have HW1 := Lib.hid hw1
 clear hb1 ht hw1
 go_enter Tryz.func88, Tryz.ntmps88
 go_wp2_with fail
 rw [← HW1.out]
 go_loopg [13] K (fun g s13 wr => ∃ (i : Nat), i < K ∧ i % 2 = 0 ∧ g = K - i ∧ s13 = .int .i64 i ∧ choice ((ET.vals r ks).drop i) = R ∧ wr.heap[w.heap.size]? = some (.cells #[.int .u8 21, .slice (some ⟨b, off, none⟩) K cc, .int .i64 c, .int .u8 d.kind, .bool d.bool, .int .i64 d.int, .string d.text] 27 (0, 0)) ∧ wr.heap[w.heap.size + 1]? = some (.cells #[.int .u8 0, .bool false, .int .i64 0, .string ⟨#[]⟩] 25 (0, 0)) ∧ Below w.heap.size w wr)
 case atStart => exact ⟨0, by omega, rfl, rfl, rfl, by rw [List.drop_zero]; exact ER.out.symm, T0.out, T1.out, HB1.out⟩
 case round =>
  obtain ⟨i, hi, hev2, rfl, rfl, hch, ht0, ht1, hbr⟩ := hrel
  have y1 := cell_of_heap (o := 1) ht0 rfl
  have HT0 := Lib.hid ht0
  have HT1 := Lib.hid ht1
  have HBR := Lib.hid hbr
  obtain ⟨k, hk⟩ : ∃ k, ks[i]? = some k := ⟨ks[i]'(by rw [← EK.out]; exact hi), List.getElem?_eq_getElem _⟩
  obtain ⟨kv, hkc, hkat⟩ := HATS.out.get hk
  obtain ⟨a', c', rfl⟩ := hkat.slice
  obtain ⟨k0, k1, k2, k3, k4, k5, k6⟩ := hkc.below hbr
  by_cases hlt : i + 1 < K
  ·obtain ⟨x, hx⟩ : ∃ x, ks[i + 1]? = some x := ⟨ks[i + 1]'(by rw [← EK.out]; exact hlt), List.getElem?_eq_getElem _⟩
   obtain ⟨xv, hxc, hxat⟩ := HATS.out.get hx
   obtain ⟨ax, cx, rfl⟩ := hxat.slice
   have HXC := Lib.hid hxc
   have hct := HTR.out k (List.mem_of_getElem? hk) _ wr hbr (hkat.below hbr)
   have hxt := fun (W : World) (hb : Below w.heap.size w W) => HEV.out x (List.mem_of_getElem? hx) _ W hb (hxat.below hb)
   unfold ET.agg at hct hxt
   rw [vals_at hk, vals_at hx] at hch
   have HCT := Lib.hid hct
   have HXT := Lib.hid hxt
   have HCH := Lib.hid hch
   clear hxc hkc hkat hct hk hch hbr ht0 ht1 hx hxt hxat
   go_wp2_with fail
   refine HCT.out.mono ?_
   rintro ev w2 ⟨rfl, hb2⟩
   have HB2 : Hid (Below w.heap.size w w2) := Lib.hid (HBR.out.trans (hb2.mono HBR.out.size))
   have t0 := (hb2.block _ (lt_of_heap HT0.out)).trans HT0.out
   have t2 := (hb2.block _ (lt_of_heap HT1.out)).trans HT1.out
   have T20 := Lib.hid t0
   have T2 := Lib.hid t2
   have hch := HCH.out
   simp only [choice] at hch
   generalize truth (k.val r) = tv at *
   obtain ⟨n, is, nl⟩ := tv
   simp only at hch
   clear hb2 HCT HCH k0 k1 k2 k3 k4 k5 k6 y1
   by_cases en : n = 0
   rotate_left
   ·rw [if_pos en] at hch
    have hev : evT R = .tuple #[Dat.zero.agg, .iface 159 (.agg #[.int .u16 n])] := by rw [← hch]; simp only [evT, bad]; rw [errV_ne en]
    have HV := Lib.hid hev
    rw [show errV n = .iface 159 (.agg #[.int .u16 n]) from errV_ne en]
    obtain ⟨z0, g0, z1, g1, z2, g2, z3, g3⟩ := cf4 t2
    clear hev hch en t2 t0 HXT HXC
    go_wp2
    refine bodyPost_ret (results_row_tmp rfl _ _ (w.heap.size + 1) 25 _ (0, 0) _ rfl (setRow4_at T2.out) Tryz.underlying25 rfl (by kernel_rfl)) rfl ?_
    exact ⟨by rw [HV.out]; rfl, setRow4_below HB2.out (by show w.heap.size ≤ w.heap.size + 1; omega)⟩
   ·subst en
    rw [if_neg (fun h => h rfl)] at hch
    simp only [errV_zero]
    have y1 := cell_of_heap (o := 1) t0 rfl
    cases is
    ·rw [if_neg (by decide)] at hch
     have HL := Lib.hid hch
     clear hch t2 t0 HXT HXC
     go_wp2
     go_roundg (K - (i + 1 + 1))
     case measure => omega
     case rel => exact ⟨i + 1 + 1, by omega, by omega, rfl, by go_num, HL.out, T20.out, T2.out, HB2.out⟩
    ·rw [if_pos rfl] at hch
     obtain ⟨x0, x1, x2, x3, x4, x5, x6⟩ := HXC.out.below HB2.out
     have hxt := HXT.out w2 HB2.out
     rw [hch] at hxt
     have HXU := Lib.hid hxt
     clear hxt HXT HXC hch t2 t0
     go_wp2_with fail
     refine HXU.out.mono ?_
     rintro ev w3 ⟨rfl, hb3⟩
     have t3 := (hb3.block _ (lt_of_heap T2.out)).trans T2.out
     have T3 := Lib.hid t3
     have HB3 := Lib.hid (HB2.out.trans (hb3.mono HB2.out.size))
     obtain ⟨z0, g0, z1, g1, z2, g2, z3, g3⟩ := cf4 t3
     clear hb3 t3 HXU x0 x1 x2 x3 x4 x5 x6 y1
     unfold evT Dat.agg
     go_wp2
     refine bodyPost_ret (results_row_tmp rfl _ _ (w.heap.size + 1) 25 _ (0, 0) _ rfl (setRow4_at T3.out) Tryz.underlying25 rfl (by kernel_rfl)) rfl ?_
     exact ⟨rfl, setRow4_below HB3.out (by show w.heap.size ≤ w.heap.size + 1; omega)⟩
  ·obtain rfl : K = i + 1 := by omega
   rw [vals_at hk, vals_end (by rw [← EK.out]; exact Nat.le_refl _)] at hch
   simp only [choice] at hch
   have hxt := HEV.out k (List.mem_of_getElem? hk) _ wr hbr (hkat.below hbr)
   rw [hch] at hxt
   unfold ET.agg at hxt
   have HXU := Lib.hid hxt
   clear hxt hch hkc hkat hk hbr ht0 ht1
   go_wp2_with fail
   refine HXU.out.mono ?_
   rintro ev w3 ⟨rfl, hb3⟩
   have t3 := (hb3.block _ (lt_of_heap HT1.out)).trans HT1.out
   have T3 := Lib.hid t3
   have HB3 := Lib.hid (HBR.out.trans (hb3.mono HBR.out.size))
   obtain ⟨z0, g0, z1, g1, z2, g2, z3, g3⟩ := cf4 t3
   clear hb3 t3 HXU k0 k1 k2 k3 k4 k5 k6 y1
   unfold evT Dat.agg
   go_wp2
   refine bodyPost_ret (results_row_tmp rfl _ _ (w.heap.size + 1) 25 _ (0, 0) _ rfl (setRow4_at T3.out) Tryz.underlying25 rfl (by kernel_rfl)) rfl ?_
   exact ⟨rfl, setRow4_below HB3.out (by show w.heap.size ≤ w.heap.size + 1; omega)⟩
theorem eval_coal (r : List Dat) (rv : Value) (c : Int) (d : Dat) (ks : List ET) (a : Option Addr) (cc : Nat) (w : World) (hl : ks.length ≤ 140737488355328)
  (hks : ks ≠ [] → ∃ b o, a = some ⟨b, o, none⟩ ∧ True ∧ ET.Ons (fun _ => True) w ks b o) (hev : ∀ k ∈ ks, EvalOK r rv w k) :
  Calls Tryz.prog 88 #[(ET.mk 22 c d ks).agg (.slice a ks.length cc), rv] w (EvalPost ((ET.mk 22 c d ks).val r) w) := by
 obtain ⟨R, eR⟩ : ∃ R, R = (ET.mk 22 c d ks).val r := ⟨_, rfl⟩
 rw [← eR]
 have hval : (ET.mk 22 c d ks).val r = coal (ET.vals r ks) := by simp [ET.val]
 rw [hval] at eR
 obtain ⟨K, eK⟩ : ∃ K, K = ks.length := ⟨_, rfl⟩
 rw [← eK] at hl ⊢
 have EK := Lib.hid eK
 have ER := Lib.hid eR
 have HKS := Lib.hid hks
 have HEV := Lib.hid hev
 clear hval eR eK hks hev
 unfold ET.agg
 simp only [ET.op, ET.col, ET.lit]
 obtain ⟨w1, hw1⟩ : ∃ w1, w1 = (w.alloc (.cells #[.int .u8 22, .slice a K cc, .int .i64 c, .int .u8 d.kind, .bool d.bool, .int .i64 d.int, .string d.text] 27)).alloc (.cells #[.int .u8 0, .bool false, .int .i64 0, .string ⟨#[]⟩] 25) := ⟨_, rfl⟩
 have hb1 : Below w.heap.size w w1 := by rw [hw1]; exact two_below _ _ _
 have ht := two_at (w := w) (w1 := w1) (a := .cells #[.int .u8 22, .slice a K cc, .int .i64 c, .int .u8 d.kind, .bool d.bool, .int .i64 d.int, .string d.text] 27) (b := .cells #[.int .u8 0, .bool false, .int .i64 0, .string ⟨#[]⟩] 25) (by rw [hw1]; exact Below.refl _ _)
 have HB1 := Lib.hid hb1
 have T1 := Lib.hid ht.2
 have HW1 := Lib.hid hw1
 clear hb1 ht hw1
 go_enter Tryz.func88, Tryz.ntmps88
 go_wp2_with fail
 rw [← HW1.out]
 go_loopg [142] K (fun g s142 wr => ∃ (i : Nat), i ≤ K ∧ g = K - i ∧ s142 = .int .i64 i ∧ coal ((ET.vals r ks).drop i) = R ∧ wr.heap[w.heap.size + 1]? = some (.cells #[.int .u8 0, .bool false, .int .i64 0, .string ⟨#[]⟩] 25 (0, 0)) ∧ Below w.heap.size w wr)
 case atStart => exact ⟨0, Nat.zero_le _, rfl, rfl, by rw [List.drop_zero]; exact ER.out.symm, T1.out, HB1.out⟩
 case round =>
  obtain ⟨i, hi, rfl, rfl, hco, htr, hbr⟩ := hrel
  have HTT := Lib.hid htr
  have HBR := Lib.hid hbr
  by_cases hlt : i < K
  ·obtain ⟨k, hk⟩ : ∃ k, ks[i]? = some k := ⟨ks[i]'(by rw [← EK.out]; exact hlt), List.getElem?_eq_getElem _⟩
   obtain ⟨b, off, rfl, -, hats⟩ := HKS.out (fun e => by rw [e] at hk; simp at hk)
   obtain ⟨kv, hkc, hkat⟩ := hats.get hk
   obtain ⟨a', c', rfl⟩ := hkat.slice
   obtain ⟨k0, k1, k2, k3, k4, k5, k6⟩ := hkc.below hbr
   have hct := fun (W : World) (hb : Below wr.heap.size wr W) => HEV.out k (List.mem_of_getElem? hk) _ W (HBR.out.trans (hb.mono HBR.out.size)) (hkat.below (HBR.out.trans (hb.mono HBR.out.size)))
   unfold ET.agg at hct
   rw [vals_at hk] at hco
   generalize k.val r = v at *
   have HCT := Lib.hid hct
   have HCO := Lib.hid hco
   have HK := Lib.hid hk
   clear hats hkc hkat hct hk hco hbr htr
   go_wp2_with fail
   refine (HCT.out _ (one_below _ _)).mono ?_
   rintro ev w2 ⟨rfl, hb2⟩
   have hb2' : Below wr.heap.size wr w2 := (one_below _ _).trans (hb2.mono (by simp))
   have HB2 : Hid (Below w.heap.size w w2) := Lib.hid (HBR.out.trans (hb2'.mono HBR.out.size))
   have t2 := (hb2'.block _ (lt_of_heap HTT.out)).trans HTT.out
   have T2 := Lib.hid t2
   have hco := HCO.out
   simp only [coal] at hco
   clear hb2 hb2' HCT HCO k0 k1 k2 k3 k4 k5 k6
   have keep : ∀ (A : Obj) {g : Nat} {y : Obj}, w2.heap[g]? = some y → (w2.alloc A).heap[g]? = some y := fun A g y h => (Below.heap_alloc _ _ _ (lt_of_heap h)).trans h
   have KEEP := Lib.hid @keep
   unfold evT Dat.agg
   by_cases en : v.2 = 0
   rotate_left
   ·rw [if_pos (.inl en)] at hco
    have hevv : evT R = .tuple #[v.1.agg, .iface 159 (.agg #[.int .u16 v.2])] := by rw [← hco]; simp only [evT]; rw [errV_ne en]
    have HV := Lib.hid hevv
    rw [errV_ne en]
    have z0 := fun A => cell_of_heap (o := 0) (keep A t2) rfl
    have g0 := fun A => frozen_of_heap (o := 0) (keep A t2)
    have z1 := fun A => cell_of_heap (o := 1) (keep A t2) rfl
    have g1 := fun A => frozen_of_heap (o := 1) (keep A t2)
    have z2 := fun A => cell_of_heap (o := 2) (keep A t2) rfl
    have g2 := fun A => frozen_of_heap (o := 2) (keep A t2)
    have z3 := fun A => cell_of_heap (o := 3) (keep A t2) rfl
    have g3 := fun A => frozen_of_heap (o := 3) (keep A t2)
    clear hevv hco en t2 keep
    go_wp2
    refine bodyPost_ret (results_row_tmp rfl _ _ (w.heap.size + 1) 25 _ (0, 0) _ rfl (setRow4_at (KEEP.out _ T2.out)) Tryz.underlying25 rfl (by kernel_rfl)) rfl ?_
    exact ⟨by rw [HV.out]; rfl, setRow4_below (HB2.out.alloc HB2.out.size _) (by show w.heap.size ≤ w.heap.size + 1; omega)⟩
   ·by_cases ek : v.1.kind = 1
    rotate_left
    ·rw [if_pos (.inr ek)] at hco
     have hevv : evT R = .tuple #[v.1.agg, .nilIface] := by rw [← hco]; simp only [evT]; rw [en, errV_zero]
     have HV := Lib.hid hevv
     have q : (v.1.kind != 1) = true := by simp [ek]
     rw [en, errV_zero]
     have z0 := fun A => cell_of_heap (o := 0) (keep A t2) rfl
     have g0 := fun A => frozen_of_heap (o := 0) (keep A t2)
     have z1 := fun A => cell_of_heap (o := 1) (keep A t2) rfl
     have g1 := fun A => frozen_of_heap (o := 1) (keep A t2)
     have z2 := fun A => cell_of_heap (o := 2) (keep A t2) rfl
     have g2 := fun A => frozen_of_heap (o := 2) (keep A t2)
     have z3 := fun A => cell_of_heap (o := 3) (keep A t2) rfl
     have g3 := fun A => frozen_of_heap (o := 3) (keep A t2)
     clear hevv hco en ek t2 keep
     go_wp2
     refine bodyPost_ret (results_row_tmp rfl _ _ (w.heap.size + 1) 25 _ (0, 0) _ rfl (setRow4_at (KEEP.out _ T2.out)) Tryz.underlying25 rfl (by kernel_rfl)) rfl ?_
     exact ⟨by rw [HV.out]; rfl, setRow4_below (HB2.out.alloc HB2.out.size _) (by show w.heap.size ≤ w.heap.size + 1; omega)⟩
    ·rw [if_neg (by rintro (h | h); exact h en; exact h ek)] at hco
     have HL := Lib.hid hco
     have q : (v.1.kind != 1) = false := by simp [ek]
     rw [en, errV_zero]
     clear hco en ek t2 keep
     go_wp2
     go_roundg (K - (i + 1))
     case measure => omega
     case rel => exact ⟨i + 1, by omega, rfl, by go_num, HL.out, KEEP.out _ T2.out, HB2.out.alloc HB2.out.size _⟩
  ·obtain rfl : K = i := by omega
   rw [vals_end (by rw [← EK.out]; exact Nat.le_refl _)] at hco
   simp only [coal] at hco
   obtain ⟨z0, g0, z1, g1, z2, g2, z3, g3⟩ := cf4 htr
   have hevv : evT R = .tuple #[nul.agg, .nilIface] := by rw [← hco]; rfl
   have HV := Lib.hid hevv
   clear hevv hco htr hbr
   go_wp2
   refine bodyPost_ret (results_row_tmp rfl _ _ (w.heap.size + 1) 25 _ (0, 0) _ rfl (setRow4_at HTT.out) Tryz.underlying25 rfl (by kernel_rfl)) rfl ?_
   exact ⟨by rw [HV.out]; rfl, setRow4_below HBR.out (by show w.heap.size ≤ w.heap.size + 1; omega)⟩
end Go.Proofs.YtmmhedlagnjbiaaGreatDoor
namespace Go.Proofs.YtmmhedlagnjbiaaGreatDoor
open Go.RowKit Go.Pen Go.Shelf
attribute [local go_sem] Oper.semAt_some
theorem eval_one_gen (o : Int) (G : Nat) (D : Dat → Res) (hp : PlainOp o) (h20 : o ≠ 20) (hG : G = 141 ∨ G = 142 ∨ G = 143)
  (htw : ∀ w, Calls Tryz.prog 110 #[.int .u8 o] w fun ev w' => ev = .returned (.func (.func G) #[] #[]) ∧ Below w.heap.size w w')
  (hcl : ∀ (A : Dat) (W : World), A.fits → Lib.Utf8Tabs 0 1 W → 3 ≤ W.heap.size → Calls Tryz.prog G #[A.agg] W (ResPost (D A) W))
  (hR0 : ∀ A, oneD o A = D A) (r : List Dat) (rv : Value) (c : Int) (d : Dat) (k1 : ET) (a : Option Addr) (cc : Nat) (w : World) (h11 : 3 ≤ w.heap.size)
  (hks : [k1] ≠ [] → ∃ b o, a = some ⟨b, o, none⟩ ∧ True ∧ ET.Ons (fun _ => True) w [k1] b o) (ih1 : EvalOK r rv w k1)
  (hT : Lib.Utf8Tabs 0 1 w) (hf1 : ResOk (k1.val r)) :
  Calls Tryz.prog 88 #[(ET.mk o c d [k1]).agg (.slice a 1 cc), rv] w (EvalPost ((ET.mk o c d [k1]).val r) w) := by
 rw [plain_val hp]
 simp only [ET.vals]
 obtain ⟨b, off, rfl, -, -⟩ := hks (by simp)
 obtain ⟨a1, c1, hk1, hat1⟩ := kid_at hks rfl (i := 0) rfl
 rw [show off + 0 * 7 = off by omega] at hk1
 have hc1 := fun (W : World) (hb : Below w.heap.size w W) => ih1 _ W hb (hat1.below hb)
 have HK1 := Lib.hid hk1
 generalize k1.val r = v1 at *
 unfold ET.agg at hc1
 have HC1 := Lib.hid hc1
 have hfn := fun (W : World) (hb : Below w.heap.size w W) => hcl v1.1 W hf1.1 (tabs_below hT hb h11) (Nat.le_trans h11 hb.size)
 have hnum : (D v1.1).2 ≤ 65535 := by rw [← hR0]; exact (oneD_ok hf1.1).2
 unfold Dat.agg at hfn
 have HTW := Lib.hid htw
 have HFN := Lib.hid hfn
 have HNUM := Lib.hid hnum
 clear htw hfn hnum
 have HG := Lib.hid hG
 have HR0 := Lib.hid hR0
 clear hG hR0 hcl
 have o1 : (o == 1) = false := by simp; exact hp.1
 have o2 : (o == 2) = false := by simp; exact hp.2.1
 have o3 : (o == 23) = false := by simp; exact hp.2.2.1
 have o4 : (o == 18) = false := by simp; exact hp.2.2.2.1
 have o5 : (o == 19) = false := by simp; exact hp.2.2.2.2.1
 have o6 : (o == 21) = false := by simp; exact hp.2.2.2.2.2.1
 have o7 : (o == 22) = false := by simp; exact hp.2.2.2.2.2.2
 have o8 : (o == 20) = false := by simp; exact h20
 have H20 := Lib.hid h20
 clear hp h20
 clear hks ih1 hat1 hc1 hk1 hT hf1
 unfold ET.agg
 simp only [ET.op, ET.col, ET.lit]
 obtain ⟨w1, hw1⟩ : ∃ w1, w1 = (w.alloc (.cells #[.int .u8 o, .slice (some ⟨b, off, none⟩) 1 cc, .int .i64 c, .int .u8 d.kind, .bool d.bool, .int .i64 d.int, .string d.text] 27)).alloc (.cells #[.int .u8 0, .bool false, .int .i64 0, .string ⟨#[]⟩] 25) := ⟨_, rfl⟩
 have hb1 : Below w.heap.size w w1 := by rw [hw1]; exact two_below _ _ _
 have ht := two_at (w := w) (w1 := w1) (a := .cells #[.int .u8 o, .slice (some ⟨b, off, none⟩) 1 cc, .int .i64 c, .int .u8 d.kind, .bool d.bool, .int .i64 d.int, .string d.text] 27) (b := .cells #[.int .u8 0, .bool false, .int .i64 0, .string ⟨#[]⟩] 25) (by rw [hw1]; exact Below.refl _ _)
 obtain ⟨m0, m1, m2, m3, m4, m5, m6⟩ := HK1.out.below hb1
 have HB1 := Lib.hid hb1
 have HT := Lib.hid ht
 have HW1 := Lib.hid hw1
 rw [hw1] at m0 m1 m2 m3 m4 m5 m6
 clear hb1 ht hw1
 go_enter Tryz.func88, Tryz.ntmps88
 go_wp2_with fail
 rw [← HW1.out]
 refine (HC1.out w1 HB1.out).mono ?_
 rintro ev w2 ⟨rfl, hb2⟩
 have hB2 : Below w.heap.size w w2 := HB1.out.trans (hb2.mono HB1.out.size)
 have t0 := (hb2.block _ (lt_of_heap HT.out.1)).trans HT.out.1
 have t1 := (hb2.block _ (lt_of_heap HT.out.2)).trans HT.out.2
 have T0 := Lib.hid t0
 have T1 := Lib.hid t1
 have HB2 := Lib.hid hB2
 clear hb2 hB2 m0 m1 m2 m3 m4 m5 m6 HW1 HT HB1 HC1
 unfold evT Dat.agg
 by_cases e1 : v1.2 = 0
 rotate_left
 ·rw [errV_ne e1]
  have hval : restV o [v1] = bad v1.2 := by simp [restV, e1]
  have HVAL := Lib.hid hval
  have hev : evT (bad v1.2) = .tuple #[Dat.zero.agg, .iface 159 (.agg #[.int .u16 v1.2])] := by simp only [evT, bad]; rw [errV_ne e1]
  have HEV := Lib.hid hev
  clear hval hev e1
  have keep : ∀ (A : Obj) {g : Nat} {y : Obj}, w2.heap[g]? = some y → (w2.alloc A).heap[g]? = some y := fun A g y h => (Below.heap_alloc _ _ _ (lt_of_heap h)).trans h
  have z0 := fun A => cell_of_heap (o := 0) (keep A t1) rfl
  have z1 := fun A => cell_of_heap (o := 1) (keep A t1) rfl
  have z2 := fun A => cell_of_heap (o := 2) (keep A t1) rfl
  have z3 := fun A => cell_of_heap (o := 3) (keep A t1) rfl
  have g0 := fun A => frozen_of_heap (o := 0) (keep A t1)
  have g1 := fun A => frozen_of_heap (o := 1) (keep A t1)
  have g2 := fun A => frozen_of_heap (o := 2) (keep A t1)
  have g3 := fun A => frozen_of_heap (o := 3) (keep A t1)
  have KEEP := Lib.hid @keep
  clear t0 t1 keep
  go_wp2
  refine bodyPost_ret (results_row_tmp rfl _ _ (w.heap.size + 1) 25 _ (0, 0) _ rfl (setRow4_at (KEEP.out _ T1.out)) Tryz.underlying25 rfl (by kernel_rfl)) rfl ?_
  exact ⟨by rw [HVAL.out, HEV.out]; rfl, setRow4_below (HB2.out.alloc HB2.out.size _) (by show w.heap.size ≤ w.heap.size + 1; omega)⟩
 ·rw [e1]
  have hl1 : w.heap.size + 1 < w2.heap.size := lt_of_heap T1.out
  have HL1 := Lib.hid hl1
  clear hl1
  have hB3 := HB2.out.alloc HB2.out.size (.cells #[.int .u8 v1.1.kind, .bool v1.1.bool, .int .i64 v1.1.int, .string v1.1.text] 25)
  obtain ⟨w3, hw3⟩ : ∃ w3, w3 = w2.alloc (.cells #[.int .u8 v1.1.kind, .bool v1.1.bool, .int .i64 v1.1.int, .string v1.1.text] 25) := ⟨_, rfl⟩
  have ta : w3.heap[w2.heap.size]? = some (.cells #[.int .u8 v1.1.kind, .bool v1.1.bool, .int .i64 v1.1.int, .string v1.1.text] 25 (0, 0)) := by rw [hw3]; exact heap_alloc_new _ _
  have t0 := (show w3.heap[w.heap.size]? = w2.heap[w.heap.size]? by rw [hw3]; exact Below.heap_alloc _ _ _ (lt_of_heap T0.out)).trans T0.out
  have t1 := (show w3.heap[w.heap.size + 1]? = w2.heap[w.heap.size + 1]? by rw [hw3]; exact Below.heap_alloc _ _ _ (lt_of_heap T1.out)).trans T1.out
  rw [← hw3] at hB3
  have y0 := cell_of_heap (o := 0) t0 rfl
  have y1 := cell_of_heap (o := 1) t0 rfl
  have hval : restV o [v1] = told (D v1.1) := by
   simp only [restV]
   rw [if_neg (fun h => h e1), if_neg H20.out, HR0.out]
  have HVAL := Lib.hid hval
  obtain ⟨R, eR⟩ : ∃ R, R = D v1.1 := ⟨_, rfl⟩
  rw [← eR] at HFN HVAL HNUM
  have HW3 := Lib.hid hw3
  have HB3 := Lib.hid hB3
  have T13 := Lib.hid t1
  have hs3 : w3.cell? ⟨w.heap.size, 0, none⟩ = some (.int .u8 o) ∧ w3.cell? ⟨w2.heap.size, 0, none⟩ = some (.int .u8 v1.1.kind) ∧ w3.cell? ⟨w2.heap.size, 1, none⟩ = some (.bool v1.1.bool) ∧ w3.cell? ⟨w2.heap.size, 2, none⟩ = some (.int .i64 v1.1.int) ∧ w3.cell? ⟨w2.heap.size, 3, none⟩ = some (.string v1.1.text) := ⟨y0, cell_of_heap ta rfl, cell_of_heap ta rfl, cell_of_heap ta rfl, cell_of_heap ta rfl⟩
  have HS3 := Lib.hid hs3
  have SKEEP : ∀ (w' : World), Below w3.heap.size w3 w' → w'.cell? ⟨w.heap.size, 0, none⟩ = some (.int .u8 o) ∧ w'.cell? ⟨w2.heap.size, 0, none⟩ = some (.int .u8 v1.1.kind) ∧ w'.cell? ⟨w2.heap.size, 1, none⟩ = some (.bool v1.1.bool) ∧ w'.cell? ⟨w2.heap.size, 2, none⟩ = some (.int .i64 v1.1.int) ∧ w'.cell? ⟨w2.heap.size, 3, none⟩ = some (.string v1.1.text) := fun w' hb => ⟨cell_keep hb HS3.out.1, cell_keep hb HS3.out.2.1, cell_keep hb HS3.out.2.2.1, cell_keep hb HS3.out.2.2.2.1, cell_keep hb HS3.out.2.2.2.2⟩
  have HKEEP := Lib.hid SKEEP
  have ne1 : w.heap.size + 1 ≠ w2.heap.size := by have := HL1.out; omega
  have ne3 : w2.heap.size ≠ w.heap.size + 1 := by have := HL1.out; omega
  rw [hw3] at y0 y1
  clear hB3 hw3 ta t0 t1 T0 T1 e1 hval eR hs3 SKEEP
  rw [errV_zero]
  go_wp2_with fail
  rw [← HW3.out]
  clear y0 y1
  obtain ⟨f0, p0, p1, p2, p3⟩ := HS3.out
  rcases HG.out with rfl | rfl | rfl
  all_goals
   go_region_held3 (fun w' => w'.cell? ⟨w.heap.size, 0, none⟩ = some (.int .u8 o) ∧ w'.cell? ⟨w2.heap.size, 0, none⟩ = some (.int .u8 v1.1.kind) ∧ w'.cell? ⟨w2.heap.size, 1, none⟩ = some (.bool v1.1.bool) ∧ w'.cell? ⟨w2.heap.size, 2, none⟩ = some (.int .i64 v1.1.int) ∧ w'.cell? ⟨w2.heap.size, 3, none⟩ = some (.string v1.1.text))
    (first | go_keep | exact HKEEP.out _ hbS.out)
    (first
    | (go_at_call 110; refine (HTW.out _).mono ?_; rintro ev w6 ⟨rfl, hb6⟩; have hbS : Hid (Below w3.heap.size w3 w6) := Lib.hid (by first | exact hb6 | exact below_undrew hb6 | exact below_undrewN hb6); clear hb6)
    | ((first | go_at_call 141 | go_at_call 142 | go_at_call 143); refine (HFN.out _ (by first | exact HB3.out.trans (hbS.out.mono HB3.out.size) | exact Go.Pen.below_drewN (HB3.out.trans (hbS.out.mono HB3.out.size)))).mono ?_; rintro ev w7 ⟨rfl, hb7⟩; have hbS : Hid (Below w3.heap.size w3 w7) := Lib.hid (hbS.out.trans ((show Below w6.heap.size w6 w7 by first | exact hb7 | exact below_undrew hb7 | exact below_undrewN hb7).mono hbS.out.size)); clear hb7; unfold resT Dat.agg)
    | (go_at_call 109; refine (told_86 R.1 R.2 _ HNUM.out).mono ?_; rintro ev w8 ⟨rfl, hb8⟩; have hbS : Hid (Below w3.heap.size w3 w8) := Lib.hid (hbS.out.trans ((show Below w7.heap.size w7 w8 by first | exact hb8 | exact below_undrew hb8 | exact below_undrewN hb8).mono hbS.out.size)); have t8 := (hbS.out.block _ (lt_of_heap T13.out)).trans T13.out; obtain ⟨z0, g0, z1, g1, z2, g2, z3, g3⟩ := cf4 t8; have V18 := Lib.hid t8; clear hb8 t8; unfold evT Dat.agg))
   go_wp2
   refine bodyPost_ret (results_row_tmp rfl _ _ (w.heap.size + 1) 25 _ (0, 0) _ rfl (setRow4_at V18.out) Tryz.underlying25 rfl (by kernel_rfl)) rfl ?_
   exact ⟨by rw [HVAL.out]; rfl, setRow4_below (HB3.out.trans (hbS.out.mono HB3.out.size)) (by show w.heap.size ≤ w.heap.size + 1; omega)⟩
theorem eval_one_20 (r : List Dat) (rv : Value) (c : Int) (d : Dat) (k1 : ET) (a : Option Addr) (cc : Nat) (w : World)
  (hks : [k1] ≠ [] → ∃ b o, a = some ⟨b, o, none⟩ ∧ True ∧ ET.Ons (fun _ => True) w [k1] b o) (ih1 : EvalOK r rv w k1) :
  Calls Tryz.prog 88 #[(ET.mk 20 c d [k1]).agg (.slice a 1 cc), rv] w (EvalPost ((ET.mk 20 c d [k1]).val r) w) := by
 rw [plain_val (by unfold PlainOp; decide)]
 simp only [ET.vals]
 obtain ⟨b, off, rfl, -, -⟩ := hks (by simp)
 obtain ⟨a1, c1, hk1, hat1⟩ := kid_at hks rfl (i := 0) rfl
 rw [show off + 0 * 7 = off by omega] at hk1
 have hc1 := fun (W : World) (hb : Below w.heap.size w W) => ih1 _ W hb (hat1.below hb)
 have HK1 := Lib.hid hk1
 generalize k1.val r = v1 at *
 unfold ET.agg at hc1
 have HC1 := Lib.hid hc1
 clear hks ih1 hat1 hc1 hk1
 unfold ET.agg
 simp only [ET.op, ET.col, ET.lit]
 obtain ⟨w1, hw1⟩ : ∃ w1, w1 = (w.alloc (.cells #[.int .u8 20, .slice (some ⟨b, off, none⟩) 1 cc, .int .i64 c, .int .u8 d.kind, .bool d.bool, .int .i64 d.int, .string d.text] 27)).alloc (.cells #[.int .u8 0, .bool false, .int .i64 0, .string ⟨#[]⟩] 25) := ⟨_, rfl⟩
 have hb1 : Below w.heap.size w w1 := by rw [hw1]; exact two_below _ _ _
 have ht := two_at (w := w) (w1 := w1) (a := .cells #[.int .u8 20, .slice (some ⟨b, off, none⟩) 1 cc, .int .i64 c, .int .u8 d.kind, .bool d.bool, .int .i64 d.int, .string d.text] 27) (b := .cells #[.int .u8 0, .bool false, .int .i64 0, .string ⟨#[]⟩] 25) (by rw [hw1]; exact Below.refl _ _)
 obtain ⟨m0, m1, m2, m3, m4, m5, m6⟩ := HK1.out.below hb1
 have HB1 := Lib.hid hb1
 have HT := Lib.hid ht
 have HW1 := Lib.hid hw1
 rw [hw1] at m0 m1 m2 m3 m4 m5 m6
 clear hb1 ht hw1
 go_enter Tryz.func88, Tryz.ntmps88
 go_wp2_with fail
 rw [← HW1.out]
 refine (HC1.out w1 HB1.out).mono ?_
 rintro ev w2 ⟨rfl, hb2⟩
 have hB2 : Below w.heap.size w w2 := HB1.out.trans (hb2.mono HB1.out.size)
 have t0 := (hb2.block _ (lt_of_heap HT.out.1)).trans HT.out.1
 have t1 := (hb2.block _ (lt_of_heap HT.out.2)).trans HT.out.2
 have T0 := Lib.hid t0
 have T1 := Lib.hid t1
 have HB2 := Lib.hid hB2
 clear hb2 hB2 m0 m1 m2 m3 m4 m5 m6 HW1 HT HB1 HC1
 unfold evT Dat.agg
 by_cases e1 : v1.2 = 0
 rotate_left
 ·rw [errV_ne e1]
  have hval : restV 20 [v1] = bad v1.2 := by simp [restV, e1]
  have HVAL := Lib.hid hval
  have hev : evT (bad v1.2) = .tuple #[Dat.zero.agg, .iface 159 (.agg #[.int .u16 v1.2])] := by simp only [evT, bad]; rw [errV_ne e1]
  have HEV := Lib.hid hev
  clear hval hev e1
  have keep : ∀ (A : Obj) {g : Nat} {y : Obj}, w2.heap[g]? = some y → (w2.alloc A).heap[g]? = some y := fun A g y h => (Below.heap_alloc _ _ _ (lt_of_heap h)).trans h
  have z0 := fun A => cell_of_heap (o := 0) (keep A t1) rfl
  have z1 := fun A => cell_of_heap (o := 1) (keep A t1) rfl
  have z2 := fun A => cell_of_heap (o := 2) (keep A t1) rfl
  have z3 := fun A => cell_of_heap (o := 3) (keep A t1) rfl
  have g0 := fun A => frozen_of_heap (o := 0) (keep A t1)
  have g1 := fun A => frozen_of_heap (o := 1) (keep A t1)
  have g2 := fun A => frozen_of_heap (o := 2) (keep A t1)
  have g3 := fun A => frozen_of_heap (o := 3) (keep A t1)
  have KEEP := Lib.hid @keep
  clear t0 t1 keep
  go_wp2
  refine bodyPost_ret (results_row_tmp rfl _ _ (w.heap.size + 1) 25 _ (0, 0) _ rfl (setRow4_at (KEEP.out _ T1.out)) Tryz.underlying25 rfl (by kernel_rfl)) rfl ?_
  exact ⟨by rw [HVAL.out, HEV.out]; rfl, setRow4_below (HB2.out.alloc HB2.out.size _) (by show w.heap.size ≤ w.heap.size + 1; omega)⟩
 ·rw [e1]
  have hl1 : w.heap.size + 1 < w2.heap.size := lt_of_heap T1.out
  have HL1 := Lib.hid hl1
  clear hl1
  have hB3 := HB2.out.alloc HB2.out.size (.cells #[.int .u8 v1.1.kind, .bool v1.1.bool, .int .i64 v1.1.int, .string v1.1.text] 25)
  obtain ⟨w3, hw3⟩ : ∃ w3, w3 = w2.alloc (.cells #[.int .u8 v1.1.kind, .bool v1.1.bool, .int .i64 v1.1.int, .string v1.1.text] 25) := ⟨_, rfl⟩
  have ta : w3.heap[w2.heap.size]? = some (.cells #[.int .u8 v1.1.kind, .bool v1.1.bool, .int .i64 v1.1.int, .string v1.1.text] 25 (0, 0)) := by rw [hw3]; exact heap_alloc_new _ _
  have t0 := (show w3.heap[w.heap.size]? = w2.heap[w.heap.size]? by rw [hw3]; exact Below.heap_alloc _ _ _ (lt_of_heap T0.out)).trans T0.out
  have t1 := (show w3.heap[w.heap.size + 1]? = w2.heap[w.heap.size + 1]? by rw [hw3]; exact Below.heap_alloc _ _ _ (lt_of_heap T1.out)).trans T1.out
  rw [← hw3] at hB3
  have y0 := cell_of_heap (o := 0) t0 rfl
  have p0 := cell_of_heap (o := 0) ta rfl
  obtain ⟨z0, g0, z1, g1, z2, g2, z3, g3⟩ := cf4 t1
  have hval : evT (restV 20 [v1]) = .tuple #[.agg #[.int .u8 2, .bool (v1.1.kind == 1), .int .i64 0, .string ⟨#[]⟩], .nilIface] := by
   simp only [restV]
   rw [if_neg (fun h => h e1)]
   rfl
  have HVAL := Lib.hid hval
  have HB3 := Lib.hid hB3
  have T13 := Lib.hid t1
  rw [hw3] at y0 p0 z0 z1 z2 z3 g0 g1 g2 g3 T13 HB3
  clear hB3 hw3 ta t0 t1 T0 T1 e1 hval
  rw [errV_zero]
  go_wp2_with fail
  refine bodyPost_ret (results_row_tmp rfl _ _ (w.heap.size + 1) 25 _ (0, 0) _ rfl (setRow4_at T13.out) Tryz.underlying25 rfl (by kernel_rfl)) rfl ?_
  exact ⟨by rw [HVAL.out]; rfl, setRow4_below HB3.out (by show w.heap.size ≤ w.heap.size + 1; omega)⟩
end Go.Proofs.YtmmhedlagnjbiaaGreatDoor
