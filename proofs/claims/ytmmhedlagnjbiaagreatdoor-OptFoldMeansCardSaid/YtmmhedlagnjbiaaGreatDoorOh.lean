import Derived.Test.YtmmhedlagnjbiaaGreatDoorOe
import Derived.Test.YtmmhedlagnjbiaaGreatDoorGb
/- our texts, shortened by program (pack.py) -/
set_option maxRecDepth 100000
set_option maxHeartbeats 4000000
namespace Go.Proofs.YtmmhedlagnjbiaaGreatDoor
open Go.RowKit Go.Pen
attribute [local go_sem ↓] Go.wp_at_zero Go.wp_at_succ
attribute [local go_sem] Oper.semAt_some
theorem stepR_mk (o c : Int) (d : Dat) (ks : List ET) : stepR (.mk o c d ks) = if ks.isEmpty = true then none else if ks.all ET.isLit = true ∧ (ET.val [] (.mk o c d ks)).2 = 0 then some (litE (ET.val [] (.mk o c d ks)).1)
  else if o = 18 ∨ o = 19 then logicS o ks else if o = 21 then caseS o c d ks else if o = 22 then coalR o c d ks else none := rfl
def RStepPost (x : ET) (S : Nat → Prop) (w : World) (ev : Ending) (w' : World) : Prop :=
 ∃ y kv b, ev = .returned (.tuple #[y.agg kv, .bool b]) ∧ (if b = true then stepR x = some y else stepR x = none ∧ y = x) ∧ y.OnC S w' kv ∧ Below w.heap.size w w'
theorem rstep_yes {x y : ET} {S : Nat → Prop} {w w' : World} {kv : Value} (h : stepR x = some y) (hon : y.OnC S w kv) (hb : Below w.heap.size w w') : RStepPost x S w (.returned (.tuple #[y.agg kv, .bool true])) w' :=
 ⟨y, kv, true, rfl, by rw [if_pos rfl]; exact h, hon.below hb, hb⟩
theorem drew_at {w : World} {b : Nat} {x : Obj} (h : w.heap[b]? = some x) : w.drew.heap[b]? = some x := h
theorem rstep_drew {x : ET} {S : Nat → Prop} {w W : World} {ev : Ending} (h : RStepPost x S w ev W) : RStepPost x S w ev W.drew := by
 obtain ⟨y, kv, b, h1, h2, h3, h4⟩ := h
 exact ⟨y, kv, b, h1, h2, h3.frame (w := W) (w' := W.drew) (fun _ h _ => h) (fun _ _ _ => rfl), h4.os, h4.tape, h4.output, h4.size, h4.block⟩
theorem rstep_no {x : ET} {S : Nat → Prop} {w w' : World} {kv : Value} (h : stepR x = none) (hon : x.OnC S w kv) (hb : Below w.heap.size w w') : RStepPost x S w (.returned (.tuple #[x.agg kv, .bool false])) w' :=
 ⟨x, kv, false, rfl, by rw [if_neg (by decide)]; exact ⟨h, rfl⟩, hon.below hb, hb⟩
theorem rstep_lits (S : Nat → Prop) (o c : Int) (d : Dat) (ks : List ET) (a : Option Addr) (cc deep : Nat) (w : World) (hat : (ET.mk o c d ks).OnC S w (.slice a ks.length cc)) (hfit : (ET.mk o c d ks).fits) (hd1 : 1 ≤ deep) (hg : (ET.mk o c d ks).good okD deep = true) (hsz : (ET.mk o c d ks).size ≤ 4000) (hne : ks ≠ []) (hl : ks.all ET.isLit = true) (h0 : ((ET.mk o c d ks).val []).2 = 0) :
  Calls Tryz.prog 32 #[(ET.mk o c d ks).agg (.slice a ks.length cc)] w (RStepPost (.mk o c d ks) S w) := by
 have hn : ks.length ≤ 12000 := by have := ET.sizes_len ks; simp only [ET.size] at hsz; omega
 have hcn := fun (W : World) (hb : Below w.heap.size w W) => literals_56 o c d ks _ W (hat.at.below hb) hn
 have hev := fun (W : World) (hb : Below w.heap.size w W) => reval_13 [] (.mk o c d ks) a cc none 0 W hfit (by simp) (hat.at.below hb) ⟨none, 0, rfl, fun _ => rfl, fun h => absurd rfl h⟩
 have hvv := fun hl => evalR_lits hd1 hg hsz hne hl
 obtain ⟨v, hv⟩ : ∃ v, v = evalR [] (.mk o c d ks) := ⟨_, rfl⟩
 simp only [← hv] at hev hvv
 clear hv
 obtain ⟨K, eK⟩ : ∃ K, K = ks.length := ⟨_, rfl⟩
 have hon := hat
 obtain ⟨a', cc', e1, -, hks⟩ := ET.OnC.iff.1 hat
 cases e1
 obtain ⟨hKc, b, off, rfl, hSb, hats⟩ := hks hne
 simp only [ET.kids] at hKc hats
 rw [← eK] at hKc hn
 have hK0 : 0 < K := by rw [eK]; exact List.length_pos_iff.2 hne
 have hKz : ((K : Int) == 0) = false := by
  have h : ¬ K = 0 := by omega
  simpa using h
 obtain ⟨p, hp⟩ : ∃ p, p = ks.all ET.isLit := ⟨_, rfl⟩
 simp only [← hp] at hcn
 have hst : stepR (.mk o c d ks) = some (litE ((ET.mk o c d ks).val []).1) := by
  rw [stepR_mk, if_neg (by simpa using hne), if_pos ⟨hl, h0⟩]
 have hv1 := (hvv hl).1 h0
 rw [← hv1] at hst h0
 have HST := Lib.hid hst
 rw [hl] at hp
 subst hp
 clear hst hv1
 unfold ET.agg at hev ⊢
 simp only [ET.op, ET.col, ET.lit, ET.kids] at hev ⊢
 simp only [← eK] at hcn hev hon ⊢
 have EK := Lib.hid eK
 have HCN := Lib.hid hcn
 have HEV := Lib.hid hev
 have HVV := Lib.hid hvv
 have HON := Lib.hid hon
 have HATS := Lib.hid hats
 have HG := Lib.hid hg
 have HNE := Lib.hid hne
 clear hat hcn hev hvv hon hats hne eK hfit hks hSb hd1 hsz
 obtain ⟨H, eH⟩ : ∃ H, H = w.heap.size := ⟨_, rfl⟩
 have EH := Lib.hid eH
 obtain ⟨w1, hw1⟩ : ∃ w1, w1 = (w.alloc (.cells #[.int .u8 o, .slice (some ⟨b, off, none⟩) K cc, .int .i64 c, .int .u8 d.kind, .bool d.bool, .int .i64 d.int, .string d.text] 27)).alloc (.cells #[.int .u8 0, .slice none 0 0, .int .i64 0, .int .u8 0, .bool false, .int .i64 0, .string ⟨#[]⟩] 27) := ⟨_, rfl⟩
 have hb1 : Below w.heap.size w w1 := by rw [hw1]; exact two_below _ _ _
 have ht := two_at (w := w) (w1 := w1) (a := .cells #[.int .u8 o, .slice (some ⟨b, off, none⟩) K cc, .int .i64 c, .int .u8 d.kind, .bool d.bool, .int .i64 d.int, .string d.text] 27) (b := .cells #[.int .u8 0, .slice none 0 0, .int .i64 0, .int .u8 0, .bool false, .int .i64 0, .string ⟨#[]⟩] 27) (by rw [hw1]; exact Below.refl _ _)
 rw [← eH] at ht
 have HB1 := Lib.hid hb1
 have T01 := Lib.hid ht.1
 have T11 := Lib.hid ht.2
 have HW1 := Lib.hid hw1
 clear hb1 ht hw1 eH
 go_enter Tryz.func32, Tryz.ntmps32
 go_wp2_with fail
 rw [← HW1.out, ← EH.out]
 refine (HCN.out w1 HB1.out).mono ?_
 rintro ev w2 ⟨rfl, hb2⟩
 have HB2 := Lib.hid (HB1.out.trans (hb2.mono HB1.out.size))
 have T02 := Lib.hid ((hb2.block _ (lt_of_heap T01.out)).trans T01.out)
 have T12 := Lib.hid ((hb2.block _ (lt_of_heap T11.out)).trans T11.out)
 clear hb2 HB1 T01 T11 HW1 HCN
 obtain ⟨y0, y1, y2, y3, y4, y5, y6⟩ := cs7 T02.out
 go_wp2_with fail
 refine (HEV.out w2 HB2.out).mono ?_
 rintro ev w3 ⟨rfl, hb3⟩
 have HB3 := Lib.hid (HB2.out.trans (hb3.mono HB2.out.size))
 have t1 := (hb3.block _ (lt_of_heap T12.out)).trans T12.out
 have T13 := Lib.hid t1
 clear hb3 t1 y0 y1 y2 y3 y4 y5 y6
 unfold resI Dat.agg
 rw [h0]
 obtain ⟨w4, hw4⟩ : ∃ w4, w4 = w3.alloc (.cells #[.int .u8 v.1.kind, .bool v.1.bool, .int .i64 v.1.int, .string v.1.text] 25) := ⟨_, rfl⟩
 have T14 := Lib.hid (show w4.heap[H + 1]? = some _ by rw [hw4]; exact (Below.heap_alloc _ _ _ (lt_of_heap T13.out)).trans T13.out)
 have HB4 : Hid (Below w.heap.size w w4) := Lib.hid (by rw [hw4]; exact HB3.out.alloc HB3.out.size _)
 have hH4 : H + 1 ≠ w3.heap.size := by have := lt_of_heap T13.out; omega
 obtain ⟨z0, g0, z1, g1, z2, g2, z3, g3, z4, g4, z5, g5, z6, g6⟩ := cf7 T14.out
 rw [hw4] at z0 g0 z1 g1 z2 g2 z3 g3 z4 g4 z5 g5 z6 g6
 have HW4 := Lib.hid hw4
 clear hw4
 go_wp2
 rw [← HW4.out]
 refine bodyPost_ret (results_row_tmp rfl _ _ (H + 1) 27 _ (0, 0) _ rfl (setRow7_at T14.out) Tryz.underlying27 rfl (by kernel_rfl)) rfl ?_
 exact rstep_yes (y := litE v.1) (kv := .slice none 0 0) HST.out (onC_nil S _ _ _ _) (setRow7_below HB4.out (by have := EH.out; omega))
theorem rstep_logic (S : Nat → Prop) (o c : Int) (d : Dat) (ks : List ET) (a : Option Addr) (cc deep : Nat) (w : World) (hat : (ET.mk o c d ks).OnC S w (.slice a ks.length cc)) (hfit : (ET.mk o c d ks).fits) (hd1 : 1 ≤ deep) (hg : (ET.mk o c d ks).good okD deep = true) (hsz : (ET.mk o c d ks).size ≤ 4000) (hne : ks ≠ []) (ho : o = 18 ∨ o = 19) (hno : ¬ (ks.all ET.isLit = true ∧ ((ET.mk o c d ks).val []).2 = 0)) :
  Calls Tryz.prog 32 #[(ET.mk o c d ks).agg (.slice a ks.length cc)] w (RStepPost (.mk o c d ks) S w) := by
 have hn : ks.length ≤ 12000 := by have := ET.sizes_len ks; simp only [ET.size] at hsz; omega
 have hcn := fun (W : World) (hb : Below w.heap.size w W) => literals_56 o c d ks _ W (hat.at.below hb) hn
 have hev := fun (W : World) (hb : Below w.heap.size w W) => reval_13 [] (.mk o c d ks) a cc none 0 W hfit (by simp) (hat.at.below hb) ⟨none, 0, rfl, fun _ => rfl, fun h => absurd rfl h⟩
 have hvv := fun hl => evalR_lits hd1 hg hsz hne hl
 obtain ⟨v, hv⟩ : ∃ v, v = evalR [] (.mk o c d ks) := ⟨_, rfl⟩
 simp only [← hv] at hev hvv
 clear hv
 obtain ⟨K, eK⟩ : ∃ K, K = ks.length := ⟨_, rfl⟩
 have hon := hat
 obtain ⟨a', cc', e1, -, hks⟩ := ET.OnC.iff.1 hat
 cases e1
 obtain ⟨hKc, b, off, rfl, hSb, hats⟩ := hks hne
 simp only [ET.kids] at hKc hats
 rw [← eK] at hKc hn
 have hK0 : 0 < K := by rw [eK]; exact List.length_pos_iff.2 hne
 have hKz : ((K : Int) == 0) = false := by
  have h : ¬ K = 0 := by omega
  simpa using h
 obtain ⟨p, hp⟩ : ∃ p, p = ks.all ET.isLit := ⟨_, rfl⟩
 simp only [← hp] at hcn
 have hvn : p = true → v.2 ≠ 0 := fun h => (hvv (by rw [← hp]; exact h)).2 (fun h0 => hno ⟨by rw [← hp]; exact h, h0⟩)
 have HVN := Lib.hid hvn
 clear hvn
 obtain ⟨t, t2, hot⟩ : ∃ t t2, (o = 18 ∧ t = true ∧ t2 = false) ∨ (o = 19 ∧ t = false ∧ t2 = true) := by
  rcases ho with rfl | rfl
  ·exact ⟨true, false, .inl ⟨rfl, rfl, rfl⟩⟩
  ·exact ⟨false, true, .inr ⟨rfl, rfl, rfl⟩⟩
 have hl2 : ks.length = 2 := by
  have := own_kids (good_inv hg).1
  rcases ho with rfl | rfl <;> simpa [kidsOk] using this
 obtain ⟨ka, kb, rfl⟩ := len_two hl2
 have hst : stepR (.mk o c d [ka, kb]) = if ka.tru t = true then some kb else if kb.tru t = true ∨ ka.tru t2 = true then some ka else none := by
  rw [stepR_mk, if_neg (by simp), if_neg hno, if_pos ho]
  rcases hot with ⟨rfl, rfl, rfl⟩ | ⟨rfl, rfl, rfl⟩ <;> simp [logicS, Or.comm]
 have hxa : [ka, kb][0]? = some ka := rfl
 have hxb : [ka, kb][1]? = some kb := rfl
 have hK1 : 1 < K := by rw [eK]; exact Nat.lt_of_lt_of_eq (by decide) hl2.symm
 obtain ⟨kva, hka, hona⟩ := hats.get hxa
 obtain ⟨aa, ca, rfl⟩ := hona.slice
 rw [show off + 0 * 7 = off by omega] at hka
 have HKa := Lib.hid hka
 have HONa := Lib.hid hona
 clear hka hona
 obtain ⟨kvb, hkb, honb⟩ := hats.get hxb
 obtain ⟨ab, cb, rfl⟩ := honb.slice
 rw [show off + 1 * 7 = off + 7 by omega] at hkb
 have HKb := Lib.hid hkb
 have HONb := Lib.hid honb
 clear hkb honb
 have ha1 := fun W => truth_57 ka t aa ka.kids.length ca W
 have ha2 := fun W => truth_57 kb t ab kb.kids.length cb W
 have ha3 := fun W => truth_57 ka t2 aa ka.kids.length ca W
 obtain ⟨q1, e1⟩ : ∃ q, q = ka.tru t := ⟨_, rfl⟩
 obtain ⟨q2, e2⟩ : ∃ q, q = kb.tru t := ⟨_, rfl⟩
 obtain ⟨q3, e3⟩ : ∃ q, q = ka.tru t2 := ⟨_, rfl⟩
 simp only [← e1] at ha1
 simp only [← e2] at ha2
 simp only [← e3] at ha3
 rw [← e1, ← e2, ← e3] at hst
 unfold ET.agg at ha1 ha2 ha3
 have HA1 := Lib.hid ha1
 have HA2 := Lib.hid ha2
 have HA3 := Lib.hid ha3
 have HST := Lib.hid hst
 clear ha1 ha2 ha3 e1 e2 e3 hst hxa hxb hl2 hno ho
 unfold ET.agg at hev ⊢
 simp only [ET.op, ET.col, ET.lit, ET.kids] at hev ⊢
 simp only [← eK] at hcn hev hon ⊢
 have EK := Lib.hid eK
 have HCN := Lib.hid hcn
 have HEV := Lib.hid hev
 have HVV := Lib.hid hvv
 have HON := Lib.hid hon
 have HATS := Lib.hid hats
 have HG := Lib.hid hg
 have HNE := Lib.hid hne
 clear hat hcn hev hvv hon hats hne eK hfit hks hSb hd1 hsz hp
 obtain ⟨H, eH⟩ : ∃ H, H = w.heap.size := ⟨_, rfl⟩
 have EH := Lib.hid eH
 obtain ⟨w1, hw1⟩ : ∃ w1, w1 = (w.alloc (.cells #[.int .u8 o, .slice (some ⟨b, off, none⟩) K cc, .int .i64 c, .int .u8 d.kind, .bool d.bool, .int .i64 d.int, .string d.text] 27)).alloc (.cells #[.int .u8 0, .slice none 0 0, .int .i64 0, .int .u8 0, .bool false, .int .i64 0, .string ⟨#[]⟩] 27) := ⟨_, rfl⟩
 have hb1 : Below w.heap.size w w1 := by rw [hw1]; exact two_below _ _ _
 have ht := two_at (w := w) (w1 := w1) (a := .cells #[.int .u8 o, .slice (some ⟨b, off, none⟩) K cc, .int .i64 c, .int .u8 d.kind, .bool d.bool, .int .i64 d.int, .string d.text] 27) (b := .cells #[.int .u8 0, .slice none 0 0, .int .i64 0, .int .u8 0, .bool false, .int .i64 0, .string ⟨#[]⟩] 27) (by rw [hw1]; exact Below.refl _ _)
 rw [← eH] at ht
 have HB1 := Lib.hid hb1
 have T01 := Lib.hid ht.1
 have T11 := Lib.hid ht.2
 have HW1 := Lib.hid hw1
 clear hb1 ht hw1 eH
 rcases hot with ⟨rfl, rfl, rfl⟩ | ⟨rfl, rfl, rfl⟩
 all_goals
  go_enter Tryz.func32, Tryz.ntmps32
  go_wp2_with fail
  rw [← HW1.out, ← EH.out]
  refine (HCN.out w1 HB1.out).mono ?_
  rintro ev w2 ⟨rfl, hb2⟩
  have HB2 := Lib.hid (HB1.out.trans (hb2.mono HB1.out.size))
  have T02 := Lib.hid ((hb2.block _ (lt_of_heap T01.out)).trans T01.out)
  have T12 := Lib.hid ((hb2.block _ (lt_of_heap T11.out)).trans T11.out)
  clear hb2 HB1 T01 T11 HW1 HCN
  cases p
  case' false =>
   obtain ⟨wq, rfl⟩ : ∃ wq, wq = w2 := ⟨_, rfl⟩
   have T0 := T02
   have T1 := T12
   have HB := HB2
   clear T02 T12 HB2
   have y0 := cell_of_heap (o := 0) T0.out rfl
   have y1 := cell_of_heap (o := 1) T0.out rfl
   obtain ⟨p0, p1, p2, p3, p4, p5, p6⟩ := HKa.out.below HB.out
   go_wp2_with fail
  case' true =>
   obtain ⟨y0, y1, y2, y3, y4, y5, y6⟩ := cs7 T02.out
   go_wp2_with fail
   refine (HEV.out w2 HB2.out).mono ?_
   rintro ev w3 ⟨rfl, hb3⟩
   have HB3 := Lib.hid (HB2.out.trans (hb3.mono HB2.out.size))
   have T03 := Lib.hid ((hb3.block _ (lt_of_heap T02.out)).trans T02.out)
   have T13 := Lib.hid ((hb3.block _ (lt_of_heap T12.out)).trans T12.out)
   clear hb3 y0 y1 y2 y3 y4 y5 y6
   unfold resI Dat.agg
   have hv2 : (v.2 : Int) ≠ 0 := by have := HVN.out (by first | rfl | trivial); omega
   have hv3 : ((v.2 : Int) == 0) = false := by simpa using hv2
   obtain ⟨wq, hwq⟩ : ∃ wq, wq = w3.alloc (.cells #[.int .u8 v.1.kind, .bool v.1.bool, .int .i64 v.1.int, .string v.1.text] 25) := ⟨_, rfl⟩
   have T0 := Lib.hid (show wq.heap[H]? = some _ by rw [hwq]; exact (Below.heap_alloc _ _ _ (lt_of_heap T03.out)).trans T03.out)
   have T1 := Lib.hid (show wq.heap[H + 1]? = some _ by rw [hwq]; exact (Below.heap_alloc _ _ _ (lt_of_heap T13.out)).trans T13.out)
   have HB : Hid (Below w.heap.size w wq) := Lib.hid (by rw [hwq]; exact HB3.out.alloc HB3.out.size _)
   have y0 := cell_of_heap (o := 0) T0.out rfl
   have y1 := cell_of_heap (o := 1) T0.out rfl
   obtain ⟨p0, p1, p2, p3, p4, p5, p6⟩ := HKa.out.below HB.out
   rw [hwq] at y0 y1 p0 p1 p2 p3 p4 p5 p6
   have HWQ := Lib.hid hwq
   clear hwq hv2 HB2 T02 T12 HB3 T03 T13
   go_wp2_with fail
   rw [← HWQ.out]
   clear HWQ hv3
  all_goals
   clear HEV HVN
   refine (HA1.out _).mono ?_
   rintro ev w4 ⟨rfl, hb⟩
   have HBw4 := Lib.hid (HB.out.trans (hb.mono HB.out.size))
   have T0w4 := Lib.hid ((hb.block _ (lt_of_heap T0.out)).trans T0.out)
   have T1w4 := Lib.hid ((hb.block _ (lt_of_heap T1.out)).trans T1.out)
   clear hb y0 y1 p0 p1 p2 p3 p4 p5 p6
   cases q1
   ·have y1 := cell_of_heap (o := 1) T0w4.out rfl
    obtain ⟨p0, p1, p2, p3, p4, p5, p6⟩ := HKb.out.below HBw4.out
    go_wp2_with fail
    refine (HA2.out _).mono ?_
    rintro ev w5 ⟨rfl, hb⟩
    have HBw5 := Lib.hid (HBw4.out.trans (hb.mono HBw4.out.size))
    have T0w5 := Lib.hid ((hb.block _ (lt_of_heap T0w4.out)).trans T0w4.out)
    have T1w5 := Lib.hid ((hb.block _ (lt_of_heap T1w4.out)).trans T1w4.out)
    clear hb y1 p0 p1 p2 p3 p4 p5 p6
    cases q2
    ·have y1 := cell_of_heap (o := 1) T0w5.out rfl
     obtain ⟨p0, p1, p2, p3, p4, p5, p6⟩ := HKa.out.below HBw5.out
     go_wp2_with fail
     refine (HA3.out _).mono ?_
     rintro ev w6 ⟨rfl, hb⟩
     have HBw6 := Lib.hid (HBw5.out.trans (hb.mono HBw5.out.size))
     have T0w6 := Lib.hid ((hb.block _ (lt_of_heap T0w5.out)).trans T0w5.out)
     have T1w6 := Lib.hid ((hb.block _ (lt_of_heap T1w5.out)).trans T1w5.out)
     clear hb y1 p0 p1 p2 p3 p4 p5 p6
     cases q3
     ·obtain ⟨y0, y1, y2, y3, y4, y5, y6⟩ := cs7 T0w6.out
      obtain ⟨z0, g0, z1, g1, z2, g2, z3, g3, z4, g4, z5, g5, z6, g6⟩ := cf7 T1w6.out
      go_wp2
      refine bodyPost_ret (results_row_tmp rfl _ _ (H + 1) 27 _ (0, 0) _ rfl (setRow7_at T1w6.out) Tryz.underlying27 rfl (by kernel_rfl)) rfl ?_
      exact rstep_no (kv := .slice (some ⟨b, off, none⟩) K cc) (by simpa using HST.out) HON.out (setRow7_below HBw6.out (by have := EH.out; omega))
     ·have y1 := cell_of_heap (o := 1) T0w6.out rfl
      obtain ⟨p0, p1, p2, p3, p4, p5, p6⟩ := HKa.out.below HBw6.out
      obtain ⟨z0, g0, z1, g1, z2, g2, z3, g3, z4, g4, z5, g5, z6, g6⟩ := cf7 T1w6.out
      go_wp2
      refine bodyPost_ret (results_row_tmp rfl _ _ (H + 1) 27 _ (0, 0) _ rfl (setRow7_at T1w6.out) Tryz.underlying27 rfl (by kernel_rfl)) rfl ?_
      exact rstep_yes (kv := .slice aa ka.kids.length ca) (by simpa using HST.out) HONa.out (setRow7_below HBw6.out (by have := EH.out; omega))
    ·have y1 := cell_of_heap (o := 1) T0w5.out rfl
     obtain ⟨p0, p1, p2, p3, p4, p5, p6⟩ := HKa.out.below HBw5.out
     obtain ⟨z0, g0, z1, g1, z2, g2, z3, g3, z4, g4, z5, g5, z6, g6⟩ := cf7 T1w5.out
     go_wp2
     refine bodyPost_ret (results_row_tmp rfl _ _ (H + 1) 27 _ (0, 0) _ rfl (setRow7_at T1w5.out) Tryz.underlying27 rfl (by kernel_rfl)) rfl ?_
     exact rstep_yes (kv := .slice aa ka.kids.length ca) (by simpa using HST.out) HONa.out (setRow7_below HBw5.out (by have := EH.out; omega))
   ·have y1 := cell_of_heap (o := 1) T0w4.out rfl
    obtain ⟨p0, p1, p2, p3, p4, p5, p6⟩ := HKb.out.below HBw4.out
    obtain ⟨z0, g0, z1, g1, z2, g2, z3, g3, z4, g4, z5, g5, z6, g6⟩ := cf7 T1w4.out
    go_wp2
    refine bodyPost_ret (results_row_tmp rfl _ _ (H + 1) 27 _ (0, 0) _ rfl (setRow7_at T1w4.out) Tryz.underlying27 rfl (by kernel_rfl)) rfl ?_
    exact rstep_yes (kv := .slice ab kb.kids.length cb) (by simpa using HST.out) HONb.out (setRow7_below HBw4.out (by have := EH.out; omega))
theorem rstep_case (S : Nat → Prop) (o c : Int) (d : Dat) (ks : List ET) (a : Option Addr) (cc deep : Nat) (w : World) (hat : (ET.mk o c d ks).OnC S w (.slice a ks.length cc)) (hfit : (ET.mk o c d ks).fits) (hd1 : 1 ≤ deep) (hg : (ET.mk o c d ks).good okD deep = true) (hsz : (ET.mk o c d ks).size ≤ 4000) (hne : ks ≠ []) (ho : o = 21) (hno : ¬ (ks.all ET.isLit = true ∧ ((ET.mk o c d ks).val []).2 = 0)) :
  Calls Tryz.prog 32 #[(ET.mk o c d ks).agg (.slice a ks.length cc)] w (RStepPost (.mk o c d ks) S w) := by
 have hn : ks.length ≤ 12000 := by have := ET.sizes_len ks; simp only [ET.size] at hsz; omega
 have hcn := fun (W : World) (hb : Below w.heap.size w W) => literals_56 o c d ks _ W (hat.at.below hb) hn
 have hev := fun (W : World) (hb : Below w.heap.size w W) => reval_13 [] (.mk o c d ks) a cc none 0 W hfit (by simp) (hat.at.below hb) ⟨none, 0, rfl, fun _ => rfl, fun h => absurd rfl h⟩
 have hvv := fun hl => evalR_lits hd1 hg hsz hne hl
 obtain ⟨v, hv⟩ : ∃ v, v = evalR [] (.mk o c d ks) := ⟨_, rfl⟩
 simp only [← hv] at hev hvv
 clear hv
 obtain ⟨K, eK⟩ : ∃ K, K = ks.length := ⟨_, rfl⟩
 have hon := hat
 obtain ⟨a', cc', e1, -, hks⟩ := ET.OnC.iff.1 hat
 cases e1
 obtain ⟨hKc, b, off, rfl, hSb, hats⟩ := hks hne
 simp only [ET.kids] at hKc hats
 rw [← eK] at hKc hn
 have hK0 : 0 < K := by rw [eK]; exact List.length_pos_iff.2 hne
 have hKz : ((K : Int) == 0) = false := by
  have h : ¬ K = 0 := by omega
  simpa using h
 obtain ⟨p, hp⟩ : ∃ p, p = ks.all ET.isLit := ⟨_, rfl⟩
 simp only [← hp] at hcn
 have hvn : p = true → v.2 ≠ 0 := fun h => (hvv (by rw [← hp]; exact h)).2 (fun h0 => hno ⟨by rw [← hp]; exact h, h0⟩)
 have HVN := Lib.hid hvn
 clear hvn
 have hl3 : 3 ≤ ks.length := by
  have := own_kids (good_inv hg).1
  rw [ho] at this
  simp [kidsOk] at this
  omega
 obtain ⟨ka, kb, kc, l, rfl⟩ : ∃ ka kb kc l, ks = ka :: kb :: kc :: l := by
  rcases ks with _ | ⟨ka, _ | ⟨kb, _ | ⟨kc, l⟩⟩⟩
  ·simp at hl3
  ·simp at hl3
  ·simp at hl3
  ·exact ⟨ka, kb, kc, l, rfl⟩
 have hc0 : c = 0 := (own_mk (good_inv hg).1).2.2.1 (by omega)
 have hd0 : d = Dat.zero := (own_mk (good_inv hg).1).2.2.2.2.2 (by omega) (by omega)
 obtain ⟨q4, e4⟩ : ∃ q, q = decide (K = 3) := ⟨_, rfl⟩
 have hst : stepR (.mk o c d (ka :: kb :: kc :: l)) = if ka.tru true = true then some kb else if ka.tru false = true ∨ ka.nil = true then (if q4 = true then some kc else some (.mk o 0 Dat.zero (kc :: l))) else none := by
  have h4 : (q4 = true) ↔ l = [] := by
   rw [e4, decide_eq_true_eq, eK]
   simp
  rw [stepR_mk, if_neg (by simp), if_neg hno, if_neg (by omega), if_pos ho, ← hc0, ← hd0]
  simp only [caseS]
  by_cases hl0 : l = []
  ·subst hl0
   simp only [if_pos (h4.2 rfl)]
  ·simp only [if_neg (fun h => hl0 (h4.1 h))]
   cases l with
   | nil => exact absurd rfl hl0
   | cons x t => rfl
 have hk3 : ((K : Int) == 3) = q4 := by rw [e4]; exact decide_eq_decide.2 (by omega)
 have hxa : (ka :: kb :: kc :: l)[0]? = some ka := rfl
 have hxb : (ka :: kb :: kc :: l)[1]? = some kb := rfl
 have hxc : (ka :: kb :: kc :: l)[2]? = some kc := rfl
 have hK1 : 1 < K := by rw [eK]; omega
 have hK2 : 2 < K := by rw [eK]; omega
 have hK3 : 2 ≤ K := by omega
 have hcc : ¬ cc - 2 = 0 := by omega
 have hdr := onC_drop (m := 2) (by omega) (by rw [← eK]; exact hKc) hSb hats o 0 Dat.zero
 rw [← eK, show off + 2 * 7 = off + 14 by omega] at hdr
 have HDR := Lib.hid hdr
 obtain ⟨kva, hka, hona⟩ := hats.get hxa
 obtain ⟨aa, ca, rfl⟩ := hona.slice
 rw [show off + 0 * 7 = off by omega] at hka
 have HKa := Lib.hid hka
 have HONa := Lib.hid hona
 clear hka hona
 obtain ⟨kvb, hkb, honb⟩ := hats.get hxb
 obtain ⟨ab, cb, rfl⟩ := honb.slice
 rw [show off + 1 * 7 = off + 7 by omega] at hkb
 have HKb := Lib.hid hkb
 have HONb := Lib.hid honb
 clear hkb honb
 obtain ⟨kvc, hkc, honc⟩ := hats.get hxc
 obtain ⟨ac, c3, rfl⟩ := honc.slice
 rw [show off + 2 * 7 = off + 14 by omega] at hkc
 have HKc := Lib.hid hkc
 have HONc := Lib.hid honc
 clear hkc honc
 have ha1 := fun W => truth_57 ka true aa ka.kids.length ca W
 have ha2 := fun W => truth_57 ka false aa ka.kids.length ca W
 have ha3 := fun W => null_58 ka aa ka.kids.length ca W
 obtain ⟨q1, e1⟩ : ∃ q, q = ka.tru true := ⟨_, rfl⟩
 obtain ⟨q2, e2⟩ : ∃ q, q = ka.tru false := ⟨_, rfl⟩
 obtain ⟨q3, e3⟩ : ∃ q, q = ka.nil := ⟨_, rfl⟩
 simp only [← e1] at ha1
 simp only [← e2] at ha2
 simp only [← e3] at ha3
 rw [← e1, ← e2, ← e3] at hst
 unfold ET.agg at ha1 ha2 ha3
 have HA1 := Lib.hid ha1
 have HA2 := Lib.hid ha2
 have HA3 := Lib.hid ha3
 have HST := Lib.hid hst
 clear ha1 ha2 ha3 e1 e2 e3 e4 hst hxa hxb hxc hno hdr hl3 hc0 hd0
 unfold ET.agg at hev ⊢
 simp only [ET.op, ET.col, ET.lit, ET.kids] at hev ⊢
 simp only [← eK] at hcn hev hon ⊢
 have EK := Lib.hid eK
 have HCN := Lib.hid hcn
 have HEV := Lib.hid hev
 have HVV := Lib.hid hvv
 have HON := Lib.hid hon
 have HATS := Lib.hid hats
 have HG := Lib.hid hg
 have HNE := Lib.hid hne
 clear hat hcn hev hvv hon hats hne eK hfit hks hSb hd1 hsz hp
 obtain ⟨H, eH⟩ : ∃ H, H = w.heap.size := ⟨_, rfl⟩
 have EH := Lib.hid eH
 obtain ⟨w1, hw1⟩ : ∃ w1, w1 = (w.alloc (.cells #[.int .u8 o, .slice (some ⟨b, off, none⟩) K cc, .int .i64 c, .int .u8 d.kind, .bool d.bool, .int .i64 d.int, .string d.text] 27)).alloc (.cells #[.int .u8 0, .slice none 0 0, .int .i64 0, .int .u8 0, .bool false, .int .i64 0, .string ⟨#[]⟩] 27) := ⟨_, rfl⟩
 have hb1 : Below w.heap.size w w1 := by rw [hw1]; exact two_below _ _ _
 have ht := two_at (w := w) (w1 := w1) (a := .cells #[.int .u8 o, .slice (some ⟨b, off, none⟩) K cc, .int .i64 c, .int .u8 d.kind, .bool d.bool, .int .i64 d.int, .string d.text] 27) (b := .cells #[.int .u8 0, .slice none 0 0, .int .i64 0, .int .u8 0, .bool false, .int .i64 0, .string ⟨#[]⟩] 27) (by rw [hw1]; exact Below.refl _ _)
 rw [← eH] at ht
 have HB1 := Lib.hid hb1
 have T01 := Lib.hid ht.1
 have T11 := Lib.hid ht.2
 have HW1 := Lib.hid hw1
 clear hb1 ht hw1 eH
 subst ho
 go_enter Tryz.func32, Tryz.ntmps32
 go_wp2_with fail
 rw [← HW1.out, ← EH.out]
 refine (HCN.out w1 HB1.out).mono ?_
 rintro ev w2 ⟨rfl, hb2⟩
 have HB2 := Lib.hid (HB1.out.trans (hb2.mono HB1.out.size))
 have T02 := Lib.hid ((hb2.block _ (lt_of_heap T01.out)).trans T01.out)
 have T12 := Lib.hid ((hb2.block _ (lt_of_heap T11.out)).trans T11.out)
 clear hb2 HB1 T01 T11 HW1 HCN
 cases p
 case' false =>
  obtain ⟨wq, rfl⟩ : ∃ wq, wq = w2 := ⟨_, rfl⟩
  have T0 := T02
  have T1 := T12
  have HB := HB2
  clear T02 T12 HB2
  have y0 := cell_of_heap (o := 0) T0.out rfl
  have y1 := cell_of_heap (o := 1) T0.out rfl
  obtain ⟨p0, p1, p2, p3, p4, p5, p6⟩ := HKa.out.below HB.out
  go_wp2_with fail
 case' true =>
  obtain ⟨y0, y1, y2, y3, y4, y5, y6⟩ := cs7 T02.out
  go_wp2_with fail
  refine (HEV.out w2 HB2.out).mono ?_
  rintro ev w3 ⟨rfl, hb3⟩
  have HB3 := Lib.hid (HB2.out.trans (hb3.mono HB2.out.size))
  have T03 := Lib.hid ((hb3.block _ (lt_of_heap T02.out)).trans T02.out)
  have T13 := Lib.hid ((hb3.block _ (lt_of_heap T12.out)).trans T12.out)
  clear hb3 y0 y1 y2 y3 y4 y5 y6
  unfold resI Dat.agg
  have hv2 : (v.2 : Int) ≠ 0 := by have := HVN.out (by first | rfl | trivial); omega
  have hv3 : ((v.2 : Int) == 0) = false := by simpa using hv2
  obtain ⟨wq, hwq⟩ : ∃ wq, wq = w3.alloc (.cells #[.int .u8 v.1.kind, .bool v.1.bool, .int .i64 v.1.int, .string v.1.text] 25) := ⟨_, rfl⟩
  have T0 := Lib.hid (show wq.heap[H]? = some _ by rw [hwq]; exact (Below.heap_alloc _ _ _ (lt_of_heap T03.out)).trans T03.out)
  have T1 := Lib.hid (show wq.heap[H + 1]? = some _ by rw [hwq]; exact (Below.heap_alloc _ _ _ (lt_of_heap T13.out)).trans T13.out)
  have HB : Hid (Below w.heap.size w wq) := Lib.hid (by rw [hwq]; exact HB3.out.alloc HB3.out.size _)
  have y0 := cell_of_heap (o := 0) T0.out rfl
  have y1 := cell_of_heap (o := 1) T0.out rfl
  obtain ⟨p0, p1, p2, p3, p4, p5, p6⟩ := HKa.out.below HB.out
  rw [hwq] at y0 y1 p0 p1 p2 p3 p4 p5 p6
  have HWQ := Lib.hid hwq
  clear hwq hv2 HB2 T02 T12 HB3 T03 T13
  go_wp2_with fail
  rw [← HWQ.out]
  clear HWQ hv3
 all_goals
  clear HEV HVN
  refine (HA1.out _).mono ?_
  rintro ev w4 ⟨rfl, hb⟩
  have HBw4 := Lib.hid (HB.out.trans (hb.mono HB.out.size))
  have T0w4 := Lib.hid ((hb.block _ (lt_of_heap T0.out)).trans T0.out)
  have T1w4 := Lib.hid ((hb.block _ (lt_of_heap T1.out)).trans T1.out)
  clear hb y0 y1 p0 p1 p2 p3 p4 p5 p6
  cases q1
  ·have y1 := cell_of_heap (o := 1) T0w4.out rfl
   obtain ⟨p0, p1, p2, p3, p4, p5, p6⟩ := HKa.out.below HBw4.out
   go_wp2_with fail
   refine (HA2.out _).mono ?_
   rintro ev w5 ⟨rfl, hb⟩
   have HBw5 := Lib.hid (HBw4.out.trans (hb.mono HBw4.out.size))
   have T0w5 := Lib.hid ((hb.block _ (lt_of_heap T0w4.out)).trans T0w4.out)
   have T1w5 := Lib.hid ((hb.block _ (lt_of_heap T1w4.out)).trans T1w4.out)
   clear hb y1 p0 p1 p2 p3 p4 p5 p6
   cases q2
   ·have y1 := cell_of_heap (o := 1) T0w5.out rfl
    obtain ⟨p0, p1, p2, p3, p4, p5, p6⟩ := HKa.out.below HBw5.out
    go_wp2_with fail
    refine (HA3.out _).mono ?_
    rintro ev w6 ⟨rfl, hb⟩
    have HBw6 := Lib.hid (HBw5.out.trans (hb.mono HBw5.out.size))
    have T0w6 := Lib.hid ((hb.block _ (lt_of_heap T0w5.out)).trans T0w5.out)
    have T1w6 := Lib.hid ((hb.block _ (lt_of_heap T1w5.out)).trans T1w5.out)
    clear hb y1 p0 p1 p2 p3 p4 p5 p6
    cases q3
    ·obtain ⟨y0, y1, y2, y3, y4, y5, y6⟩ := cs7 T0w6.out
     obtain ⟨z0, g0, z1, g1, z2, g2, z3, g3, z4, g4, z5, g5, z6, g6⟩ := cf7 T1w6.out
     go_wp2
     refine bodyPost_ret (results_row_tmp rfl _ _ (H + 1) 27 _ (0, 0) _ rfl (setRow7_at T1w6.out) Tryz.underlying27 rfl (by kernel_rfl)) rfl ?_
     exact rstep_no (kv := .slice (some ⟨b, off, none⟩) K cc) (by simpa using HST.out) HON.out (setRow7_below HBw6.out (by have := EH.out; omega))
    ·cases q4
     ·obtain ⟨y0, y1, y2, y3, y4, y5, y6⟩ := cs7 T0w6.out
      obtain ⟨z0, g0, z1, g1, z2, g2, z3, g3, z4, g4, z5, g5, z6, g6⟩ := cf7 T1w6.out
      go_wp2_with fail
      go_region
      all_goals
       go_wp2
       refine bodyPost_ret (results_row_tmp rfl _ _ (H + 1) 27 _ (0, 0) _ rfl (drew_at (setRow7_at T1w6.out)) Tryz.underlying27 rfl (by kernel_rfl)) rfl ?_
       exact rstep_drew (rstep_yes (y := .mk 21 0 Dat.zero (kc :: l)) (kv := .slice (some ⟨b, off + 14, none⟩) (K - 2) (cc - 2)) (by simpa using HST.out) HDR.out (setRow7_below (B := w.heap.size) HBw6.out (by have := EH.out; omega)))
     ·have y1 := cell_of_heap (o := 1) T0w6.out rfl
      obtain ⟨p0, p1, p2, p3, p4, p5, p6⟩ := HKc.out.below HBw6.out
      obtain ⟨z0, g0, z1, g1, z2, g2, z3, g3, z4, g4, z5, g5, z6, g6⟩ := cf7 T1w6.out
      go_wp2
      refine bodyPost_ret (results_row_tmp rfl _ _ (H + 1) 27 _ (0, 0) _ rfl (setRow7_at T1w6.out) Tryz.underlying27 rfl (by kernel_rfl)) rfl ?_
      exact rstep_yes (kv := .slice ac kc.kids.length c3) (by simpa using HST.out) HONc.out (setRow7_below HBw6.out (by have := EH.out; omega))
   ·cases q4
    ·obtain ⟨y0, y1, y2, y3, y4, y5, y6⟩ := cs7 T0w5.out
     obtain ⟨z0, g0, z1, g1, z2, g2, z3, g3, z4, g4, z5, g5, z6, g6⟩ := cf7 T1w5.out
     go_wp2_with fail
     go_region
     all_goals
      go_wp2
      refine bodyPost_ret (results_row_tmp rfl _ _ (H + 1) 27 _ (0, 0) _ rfl (drew_at (setRow7_at T1w5.out)) Tryz.underlying27 rfl (by kernel_rfl)) rfl ?_
      exact rstep_drew (rstep_yes (y := .mk 21 0 Dat.zero (kc :: l)) (kv := .slice (some ⟨b, off + 14, none⟩) (K - 2) (cc - 2)) (by simpa using HST.out) HDR.out (setRow7_below (B := w.heap.size) HBw5.out (by have := EH.out; omega)))
    ·have y1 := cell_of_heap (o := 1) T0w5.out rfl
     obtain ⟨p0, p1, p2, p3, p4, p5, p6⟩ := HKc.out.below HBw5.out
     obtain ⟨z0, g0, z1, g1, z2, g2, z3, g3, z4, g4, z5, g5, z6, g6⟩ := cf7 T1w5.out
     go_wp2
     refine bodyPost_ret (results_row_tmp rfl _ _ (H + 1) 27 _ (0, 0) _ rfl (setRow7_at T1w5.out) Tryz.underlying27 rfl (by kernel_rfl)) rfl ?_
     exact rstep_yes (kv := .slice ac kc.kids.length c3) (by simpa using HST.out) HONc.out (setRow7_below HBw5.out (by have := EH.out; omega))
  ·have y1 := cell_of_heap (o := 1) T0w4.out rfl
   obtain ⟨p0, p1, p2, p3, p4, p5, p6⟩ := HKb.out.below HBw4.out
   obtain ⟨z0, g0, z1, g1, z2, g2, z3, g3, z4, g4, z5, g5, z6, g6⟩ := cf7 T1w4.out
   go_wp2
   refine bodyPost_ret (results_row_tmp rfl _ _ (H + 1) 27 _ (0, 0) _ rfl (setRow7_at T1w4.out) Tryz.underlying27 rfl (by kernel_rfl)) rfl ?_
   exact rstep_yes (kv := .slice ab kb.kids.length cb) (by simpa using HST.out) HONb.out (setRow7_below HBw4.out (by have := EH.out; omega))
theorem rstep_other (S : Nat → Prop) (o c : Int) (d : Dat) (ks : List ET) (a : Option Addr) (cc deep : Nat) (w : World) (hat : (ET.mk o c d ks).OnC S w (.slice a ks.length cc)) (hfit : (ET.mk o c d ks).fits) (hd1 : 1 ≤ deep) (hg : (ET.mk o c d ks).good okD deep = true) (hsz : (ET.mk o c d ks).size ≤ 4000) (hne : ks ≠ []) (ho : ¬ (o = 18 ∨ o = 19) ∧ o ≠ 21 ∧ o ≠ 22) (hno : ¬ (ks.all ET.isLit = true ∧ ((ET.mk o c d ks).val []).2 = 0)) :
  Calls Tryz.prog 32 #[(ET.mk o c d ks).agg (.slice a ks.length cc)] w (RStepPost (.mk o c d ks) S w) := by
 have hn : ks.length ≤ 12000 := by have := ET.sizes_len ks; simp only [ET.size] at hsz; omega
 have hcn := fun (W : World) (hb : Below w.heap.size w W) => literals_56 o c d ks _ W (hat.at.below hb) hn
 have hev := fun (W : World) (hb : Below w.heap.size w W) => reval_13 [] (.mk o c d ks) a cc none 0 W hfit (by simp) (hat.at.below hb) ⟨none, 0, rfl, fun _ => rfl, fun h => absurd rfl h⟩
 have hvv := fun hl => evalR_lits hd1 hg hsz hne hl
 obtain ⟨v, hv⟩ : ∃ v, v = evalR [] (.mk o c d ks) := ⟨_, rfl⟩
 simp only [← hv] at hev hvv
 clear hv
 obtain ⟨K, eK⟩ : ∃ K, K = ks.length := ⟨_, rfl⟩
 have hon := hat
 obtain ⟨a', cc', e1, -, hks⟩ := ET.OnC.iff.1 hat
 cases e1
 obtain ⟨hKc, b, off, rfl, hSb, hats⟩ := hks hne
 simp only [ET.kids] at hKc hats
 rw [← eK] at hKc hn
 have hK0 : 0 < K := by rw [eK]; exact List.length_pos_iff.2 hne
 have hKz : ((K : Int) == 0) = false := by
  have h : ¬ K = 0 := by omega
  simpa using h
 obtain ⟨p, hp⟩ : ∃ p, p = ks.all ET.isLit := ⟨_, rfl⟩
 simp only [← hp] at hcn
 have hvn : p = true → v.2 ≠ 0 := fun h => (hvv (by rw [← hp]; exact h)).2 (fun h0 => hno ⟨by rw [← hp]; exact h, h0⟩)
 have HVN := Lib.hid hvn
 clear hvn
 have hst : stepR (.mk o c d ks) = none := by
  rw [stepR_mk, if_neg (by simpa using hne), if_neg hno, if_neg ho.1, if_neg ho.2.1, if_neg ho.2.2]
 have HST := Lib.hid hst
 have o1 : (o == 18) = false := by simp; omega
 have o2 : (o == 19) = false := by simp; omega
 have o3 : (o == 21) = false := by simp; omega
 have o4 : (o == 22) = false := by simp; omega
 clear hst hno ho
 unfold ET.agg at hev ⊢
 simp only [ET.op, ET.col, ET.lit, ET.kids] at hev ⊢
 simp only [← eK] at hcn hev hon ⊢
 have EK := Lib.hid eK
 have HCN := Lib.hid hcn
 have HEV := Lib.hid hev
 have HVV := Lib.hid hvv
 have HON := Lib.hid hon
 have HATS := Lib.hid hats
 have HG := Lib.hid hg
 have HNE := Lib.hid hne
 clear hat hcn hev hvv hon hats hne eK hfit hks hSb hd1 hsz hp
 obtain ⟨H, eH⟩ : ∃ H, H = w.heap.size := ⟨_, rfl⟩
 have EH := Lib.hid eH
 obtain ⟨w1, hw1⟩ : ∃ w1, w1 = (w.alloc (.cells #[.int .u8 o, .slice (some ⟨b, off, none⟩) K cc, .int .i64 c, .int .u8 d.kind, .bool d.bool, .int .i64 d.int, .string d.text] 27)).alloc (.cells #[.int .u8 0, .slice none 0 0, .int .i64 0, .int .u8 0, .bool false, .int .i64 0, .string ⟨#[]⟩] 27) := ⟨_, rfl⟩
 have hb1 : Below w.heap.size w w1 := by rw [hw1]; exact two_below _ _ _
 have ht := two_at (w := w) (w1 := w1) (a := .cells #[.int .u8 o, .slice (some ⟨b, off, none⟩) K cc, .int .i64 c, .int .u8 d.kind, .bool d.bool, .int .i64 d.int, .string d.text] 27) (b := .cells #[.int .u8 0, .slice none 0 0, .int .i64 0, .int .u8 0, .bool false, .int .i64 0, .string ⟨#[]⟩] 27) (by rw [hw1]; exact Below.refl _ _)
 rw [← eH] at ht
 have HB1 := Lib.hid hb1
 have T01 := Lib.hid ht.1
 have T11 := Lib.hid ht.2
 have HW1 := Lib.hid hw1
 clear hb1 ht hw1 eH
 go_enter Tryz.func32, Tryz.ntmps32
 go_wp2_with fail
 rw [← HW1.out, ← EH.out]
 refine (HCN.out w1 HB1.out).mono ?_
 rintro ev w2 ⟨rfl, hb2⟩
 have HB2 := Lib.hid (HB1.out.trans (hb2.mono HB1.out.size))
 have T02 := Lib.hid ((hb2.block _ (lt_of_heap T01.out)).trans T01.out)
 have T12 := Lib.hid ((hb2.block _ (lt_of_heap T11.out)).trans T11.out)
 clear hb2 HB1 T01 T11 HW1 HCN
 cases p
 case' false =>
  obtain ⟨wq, rfl⟩ : ∃ wq, wq = w2 := ⟨_, rfl⟩
  have T0 := T02
  have T1 := T12
  have HB := HB2
  clear T02 T12 HB2
  obtain ⟨y0, y1, y2, y3, y4, y5, y6⟩ := cs7 T0.out
  obtain ⟨z0, g0, z1, g1, z2, g2, z3, g3, z4, g4, z5, g5, z6, g6⟩ := cf7 T1.out
  go_wp2_with fail
 case' true =>
  obtain ⟨y0, y1, y2, y3, y4, y5, y6⟩ := cs7 T02.out
  go_wp2_with fail
  refine (HEV.out w2 HB2.out).mono ?_
  rintro ev w3 ⟨rfl, hb3⟩
  have HB3 := Lib.hid (HB2.out.trans (hb3.mono HB2.out.size))
  have T03 := Lib.hid ((hb3.block _ (lt_of_heap T02.out)).trans T02.out)
  have T13 := Lib.hid ((hb3.block _ (lt_of_heap T12.out)).trans T12.out)
  clear hb3 y0 y1 y2 y3 y4 y5 y6
  unfold resI Dat.agg
  have hv2 : (v.2 : Int) ≠ 0 := by have := HVN.out (by first | rfl | trivial); omega
  have hv3 : ((v.2 : Int) == 0) = false := by simpa using hv2
  obtain ⟨wq, hwq⟩ : ∃ wq, wq = w3.alloc (.cells #[.int .u8 v.1.kind, .bool v.1.bool, .int .i64 v.1.int, .string v.1.text] 25) := ⟨_, rfl⟩
  have T0 := Lib.hid (show wq.heap[H]? = some _ by rw [hwq]; exact (Below.heap_alloc _ _ _ (lt_of_heap T03.out)).trans T03.out)
  have T1 := Lib.hid (show wq.heap[H + 1]? = some _ by rw [hwq]; exact (Below.heap_alloc _ _ _ (lt_of_heap T13.out)).trans T13.out)
  have HB : Hid (Below w.heap.size w wq) := Lib.hid (by rw [hwq]; exact HB3.out.alloc HB3.out.size _)
  obtain ⟨y0, y1, y2, y3, y4, y5, y6⟩ := cs7 T0.out
  obtain ⟨z0, g0, z1, g1, z2, g2, z3, g3, z4, g4, z5, g5, z6, g6⟩ := cf7 T1.out
  rw [hwq] at y0 y1 y2 y3 y4 y5 y6 z0 g0 z1 g1 z2 g2 z3 g3 z4 g4 z5 g5 z6 g6
  have HWQ := Lib.hid hwq
  clear hwq hv2 HB2 T02 T12 HB3 T03 T13
  go_wp2_with fail
  rw [← HWQ.out]
  clear HWQ hv3
 all_goals
  clear HEV HVN
  refine bodyPost_ret (results_row_tmp rfl _ _ (H + 1) 27 _ (0, 0) _ rfl (setRow7_at T1.out) Tryz.underlying27 rfl (by kernel_rfl)) rfl ?_
  exact rstep_no (kv := .slice (some ⟨b, off, none⟩) K cc) HST.out HON.out (setRow7_below HB.out (by have := EH.out; omega))
theorem rstep_coal (S : Nat → Prop) (o c : Int) (d : Dat) (ks : List ET) (a : Option Addr) (cc deep : Nat) (w : World) (hat : (ET.mk o c d ks).OnC S w (.slice a ks.length cc)) (hfit : (ET.mk o c d ks).fits) (hd1 : 1 ≤ deep) (hg : (ET.mk o c d ks).good okD deep = true) (hsz : (ET.mk o c d ks).size ≤ 4000) (hne : ks ≠ []) (ho : o = 22) (hno : ¬ (ks.all ET.isLit = true ∧ ((ET.mk o c d ks).val []).2 = 0)) :
  Calls Tryz.prog 32 #[(ET.mk o c d ks).agg (.slice a ks.length cc)] w (RStepPost (.mk o c d ks) S w) := by
 have hn : ks.length ≤ 12000 := by have := ET.sizes_len ks; simp only [ET.size] at hsz; omega
 have hcn := fun (W : World) (hb : Below w.heap.size w W) => literals_56 o c d ks _ W (hat.at.below hb) hn
 have hev := fun (W : World) (hb : Below w.heap.size w W) => reval_13 [] (.mk o c d ks) a cc none 0 W hfit (by simp) (hat.at.below hb) ⟨none, 0, rfl, fun _ => rfl, fun h => absurd rfl h⟩
 have hvv := fun hl => evalR_lits hd1 hg hsz hne hl
 obtain ⟨v, hv⟩ : ∃ v, v = evalR [] (.mk o c d ks) := ⟨_, rfl⟩
 simp only [← hv] at hev hvv
 clear hv
 obtain ⟨K, eK⟩ : ∃ K, K = ks.length := ⟨_, rfl⟩
 have hon := hat
 obtain ⟨a', cc', e1, -, hks⟩ := ET.OnC.iff.1 hat
 cases e1
 obtain ⟨hKc, b, off, rfl, hSb, hats⟩ := hks hne
 simp only [ET.kids] at hKc hats
 rw [← eK] at hKc hn
 have hK0 : 0 < K := by rw [eK]; exact List.length_pos_iff.2 hne
 have hKz : ((K : Int) == 0) = false := by
  have h : ¬ K = 0 := by omega
  simpa using h
 obtain ⟨p, hp⟩ : ∃ p, p = ks.all ET.isLit := ⟨_, rfl⟩
 simp only [← hp] at hcn
 have hvn : p = true → v.2 ≠ 0 := fun h => (hvv (by rw [← hp]; exact h)).2 (fun h0 => hno ⟨by rw [← hp]; exact h, h0⟩)
 have HVN := Lib.hid hvn
 clear hvn
 obtain ⟨ka, l, rfl⟩ : ∃ ka l, ks = ka :: l := by
  rcases ks with _ | ⟨ka, l⟩
  ·exact absurd rfl hne
  ·exact ⟨ka, l, rfl⟩
 have hc0 : c = 0 := (own_mk (good_inv hg).1).2.2.1 (by omega)
 have hd0 : d = Dat.zero := (own_mk (good_inv hg).1).2.2.2.2.2 (by omega) (by omega)
 obtain ⟨q0, e0⟩ : ∃ q, q = decide (K = 1) := ⟨_, rfl⟩
 have hk1 : ((K : Int) == 1) = q0 := by rw [e0]; exact decide_eq_decide.2 (by omega)
 have h0 : (q0 = true) ↔ l = [] := by
  rw [e0, decide_eq_true_eq, eK]
  simp
 have hst1 : ∀ i, i + 1 < K → (ka :: l).findIdx ET.full = i → stepR (.mk o c d (ka :: l)) = some (.mk o 0 Dat.zero ((ka :: l).take (i + 1))) := fun i hi hf => by
  rw [stepR_mk, if_neg (by simp), if_neg hno, if_neg (by omega), if_neg (by omega), if_pos ho, ← hc0, ← hd0]
  simp only [coalR, cutS]
  rw [hf, if_pos (by rw [← eK]; exact hi)]
 have hst2 : ¬ (ka :: l).findIdx ET.full + 1 < K → stepR (.mk o c d (ka :: l)) = if q0 = true then some ka else if ka.nil = true then some (.mk o 0 Dat.zero l) else none := fun hf => by
  rw [stepR_mk, if_neg (by simp), if_neg hno, if_neg (by omega), if_neg (by omega), if_pos ho, ← hc0, ← hd0]
  simp only [coalR, cutS]
  rw [if_neg (by rw [← eK]; exact hf)]
  cases l with
  | nil => rw [if_pos (h0.2 rfl)]
  | cons x t => rw [if_neg (fun h => by cases h0.1 h)]
 have HST1 := Lib.hid hst1
 have HST2 := Lib.hid hst2
 have hxa : (ka :: l)[0]? = some ka := rfl
 have hdr := fun (h : 1 < K) => onC_drop (m := 1) (by rw [← eK]; omega) (by rw [← eK]; exact hKc) hSb hats o 0 Dat.zero
 simp only [← eK, show off + 1 * 7 = off + 7 by omega, List.drop_succ_cons, List.drop_zero] at hdr
 have htk := fun (i : Nat) (h : i + 1 < K) => onC_take (m := i + 1) (by rw [← eK]; omega) (by rw [← eK]; exact hKc) hSb hats o 0 Dat.zero
 have HDR := Lib.hid hdr
 have HTK := Lib.hid htk
 obtain ⟨kva, hka, hona⟩ := hats.get hxa
 obtain ⟨aa, ca, rfl⟩ := hona.slice
 rw [show off + 0 * 7 = off by omega] at hka
 have HKa := Lib.hid hka
 have HONa := Lib.hid hona
 clear hka hona
 have ha3 := fun W => null_58 ka aa ka.kids.length ca W
 have hl4 := fun (k : ET) a n cc W => literal_59 k a n cc W
 have hl5 := fun (k : ET) a n cc W => null_58 k a n cc W
 obtain ⟨q3, e3⟩ : ∃ q, q = ka.nil := ⟨_, rfl⟩
 simp only [← e3] at ha3
 have E3 := Lib.hid e3
 unfold ET.agg at ha3 hl4 hl5
 have HA3 := Lib.hid ha3
 have HL4 := Lib.hid hl4
 have HL5 := Lib.hid hl5
 have E0 := Lib.hid e0
 clear ha3 hl4 hl5 e3 hst1 hst2 hxa hno hdr htk e0 h0 hc0 hd0
 unfold ET.agg at hev ⊢
 simp only [ET.op, ET.col, ET.lit, ET.kids] at hev ⊢
 simp only [← eK] at hcn hev hon ⊢
 have EK := Lib.hid eK
 have HCN := Lib.hid hcn
 have HEV := Lib.hid hev
 have HVV := Lib.hid hvv
 have HON := Lib.hid hon
 have HATS := Lib.hid hats
 have HG := Lib.hid hg
 have HNE := Lib.hid hne
 clear hat hcn hev hvv hon hats hne eK hfit hks hSb hd1 hsz hp
 obtain ⟨H, eH⟩ : ∃ H, H = w.heap.size := ⟨_, rfl⟩
 have EH := Lib.hid eH
 obtain ⟨w1, hw1⟩ : ∃ w1, w1 = (w.alloc (.cells #[.int .u8 o, .slice (some ⟨b, off, none⟩) K cc, .int .i64 c, .int .u8 d.kind, .bool d.bool, .int .i64 d.int, .string d.text] 27)).alloc (.cells #[.int .u8 0, .slice none 0 0, .int .i64 0, .int .u8 0, .bool false, .int .i64 0, .string ⟨#[]⟩] 27) := ⟨_, rfl⟩
 have hb1 : Below w.heap.size w w1 := by rw [hw1]; exact two_below _ _ _
 have ht := two_at (w := w) (w1 := w1) (a := .cells #[.int .u8 o, .slice (some ⟨b, off, none⟩) K cc, .int .i64 c, .int .u8 d.kind, .bool d.bool, .int .i64 d.int, .string d.text] 27) (b := .cells #[.int .u8 0, .slice none 0 0, .int .i64 0, .int .u8 0, .bool false, .int .i64 0, .string ⟨#[]⟩] 27) (by rw [hw1]; exact Below.refl _ _)
 rw [← eH] at ht
 have HB1 := Lib.hid hb1
 have T01 := Lib.hid ht.1
 have T11 := Lib.hid ht.2
 have HW1 := Lib.hid hw1
 clear hb1 ht hw1 eH
 subst ho
 go_enter Tryz.func32, Tryz.ntmps32
 go_wp2_with fail
 rw [← HW1.out, ← EH.out]
 refine (HCN.out w1 HB1.out).mono ?_
 rintro ev w2 ⟨rfl, hb2⟩
 have HB2 := Lib.hid (HB1.out.trans (hb2.mono HB1.out.size))
 have T02 := Lib.hid ((hb2.block _ (lt_of_heap T01.out)).trans T01.out)
 have T12 := Lib.hid ((hb2.block _ (lt_of_heap T11.out)).trans T11.out)
 clear hb2 HB1 T01 T11 HW1 HCN
 cases p
 case' false =>
  obtain ⟨wq, rfl⟩ : ∃ wq, wq = w2 := ⟨_, rfl⟩
  have T0 := T02
  have T1 := T12
  have HB := HB2
  clear T02 T12 HB2
  have y0 := cell_of_heap (o := 0) T0.out rfl
  have y1 := cell_of_heap (o := 1) T0.out rfl
  go_wp2_with fail
 case' true =>
  obtain ⟨y0, y1, y2, y3, y4, y5, y6⟩ := cs7 T02.out
  go_wp2_with fail
  refine (HEV.out w2 HB2.out).mono ?_
  rintro ev w3 ⟨rfl, hb3⟩
  have HB3 := Lib.hid (HB2.out.trans (hb3.mono HB2.out.size))
  have T03 := Lib.hid ((hb3.block _ (lt_of_heap T02.out)).trans T02.out)
  have T13 := Lib.hid ((hb3.block _ (lt_of_heap T12.out)).trans T12.out)
  clear hb3 y0 y1 y2 y3 y4 y5 y6
  unfold resI Dat.agg
  have hv2 : (v.2 : Int) ≠ 0 := by have := HVN.out (by first | rfl | trivial); omega
  have hv3 : ((v.2 : Int) == 0) = false := by simpa using hv2
  obtain ⟨wq, hwq⟩ : ∃ wq, wq = w3.alloc (.cells #[.int .u8 v.1.kind, .bool v.1.bool, .int .i64 v.1.int, .string v.1.text] 25) := ⟨_, rfl⟩
  have T0 := Lib.hid (show wq.heap[H]? = some _ by rw [hwq]; exact (Below.heap_alloc _ _ _ (lt_of_heap T03.out)).trans T03.out)
  have T1 := Lib.hid (show wq.heap[H + 1]? = some _ by rw [hwq]; exact (Below.heap_alloc _ _ _ (lt_of_heap T13.out)).trans T13.out)
  have HB : Hid (Below w.heap.size w wq) := Lib.hid (by rw [hwq]; exact HB3.out.alloc HB3.out.size _)
  have y0 := cell_of_heap (o := 0) T0.out rfl
  have y1 := cell_of_heap (o := 1) T0.out rfl
  rw [hwq] at y0 y1
  have HWQ := Lib.hid hwq
  clear hwq hv2 HB2 T02 T12 HB3 T03 T13
  go_wp2_with fail
  rw [← HWQ.out]
  clear HWQ hv3
 all_goals
  clear HEV HVN
  clear y0 y1
  go_loopg [7] K (fun g s7 wr => ∃ i : Nat, i + 1 ≤ K ∧ g = K - i ∧ s7 = .int .i64 i ∧ (∀ (j : Nat) x, j < i → (ka :: l)[j]? = some x → x.full = false) ∧ wr.heap[H]? = some (.cells #[.int .u8 22, .slice (some ⟨b, off, none⟩) K cc, .int .i64 c, .int .u8 d.kind, .bool d.bool, .int .i64 d.int, .string d.text] 27 (0, 0)) ∧ wr.heap[H + 1]? = some (.cells #[.int .u8 0, .slice none 0 0, .int .i64 0, .int .u8 0, .bool false, .int .i64 0, .string ⟨#[]⟩] 27 (0, 0)) ∧ Below w.heap.size w wr)
  case atStart => exact ⟨0, by omega, by omega, rfl, (fun j x hj => by omega), T0.out, T1.out, HB.out⟩
  case round =>
   clear T0 T1 HB
   obtain ⟨i, hi, rfl, rfl, hall, ht0, ht1, hbw⟩ := hrel
   have HALL := Lib.hid hall
   have T0 := Lib.hid ht0
   have T1 := Lib.hid ht1
   have HB := Lib.hid hbw
   clear hall ht0 ht1 hbw
   have hw1 : IntKind.i64.wrap ((i : Int) + 1) = (i : Int) + 1 := IntWalk.i64_in _ (by omega)
   have y1 := cell_of_heap (o := 1) T0.out rfl
   by_cases hlt : i + 1 < K
   ·have hlt2 : (i : Int) + 1 < (K : Int) := by omega
    have hi2 : i < K := by omega
    obtain ⟨k, hk⟩ : ∃ k, (ka :: l)[i]? = some k := ⟨(ka :: l)[i]'(by rw [← EK.out]; omega), List.getElem?_eq_getElem _⟩
    obtain ⟨kv, hkc, hkon⟩ := HATS.out.get hk
    obtain ⟨ak, ck, rfl⟩ := hkon.slice
    have HKk := Lib.hid hkc
    have HK := Lib.hid hk
    clear hkc hkon hk
    obtain ⟨pl, hpl⟩ : ∃ p, p = k.isLit := ⟨_, rfl⟩
    obtain ⟨pn, hpn⟩ : ∃ p, p = k.nil := ⟨_, rfl⟩
    have hfull : k.full = (pl && !pn) := by
     rw [hpl, hpn]; unfold ET.full ET.isLit ET.nil
     cases decide (k.op = 2) <;> cases decide (k.lit.kind = 1) <;> rfl
    have h4 := HL4.out k ak k.kids.length ck
    have h5 := HL5.out k ak k.kids.length ck
    simp only [← hpl] at h4
    simp only [← hpn] at h5
    have H4 := Lib.hid h4
    have H5 := Lib.hid h5
    have HFU := Lib.hid hfull
    clear h4 h5 hpl hpn hfull
    obtain ⟨p0, p1, p2, p3, p4, p5, p6⟩ := HKk.out.below HB.out
    go_wp2_with fail
    refine (H4.out _).mono ?_
    rintro ev w4 ⟨rfl, hb⟩
    have HBw4 := Lib.hid (HB.out.trans (hb.mono HB.out.size))
    have T0w4 := Lib.hid ((hb.block _ (lt_of_heap T0.out)).trans T0.out)
    have T1w4 := Lib.hid ((hb.block _ (lt_of_heap T1.out)).trans T1.out)
    clear hb y1 p0 p1 p2 p3 p4 p5 p6 T0 T1 HB
    cases pl
    ·go_wp2
     go_roundg (K - (i + 1))
     case measure => omega
     case rel => exact ⟨i + 1, by omega, rfl, by go_num, fun j x hj hx => by
      by_cases e : j < i
      ·exact HALL.out j x e hx
      ·obtain rfl : j = i := by omega
       rw [HK.out] at hx; cases hx; rw [HFU.out]; rfl, T0w4.out, T1w4.out, HBw4.out⟩
    ·have y1 := cell_of_heap (o := 1) T0w4.out rfl
     obtain ⟨p0, p1, p2, p3, p4, p5, p6⟩ := HKk.out.below HBw4.out
     go_wp2_with fail
     refine (H5.out _).mono ?_
     rintro ev w5 ⟨rfl, hb⟩
     have HBw5 := Lib.hid (HBw4.out.trans (hb.mono HBw4.out.size))
     have T0w5 := Lib.hid ((hb.block _ (lt_of_heap T0w4.out)).trans T0w4.out)
     have T1w5 := Lib.hid ((hb.block _ (lt_of_heap T1w4.out)).trans T1w4.out)
     clear hb y1 p0 p1 p2 p3 p4 p5 p6 T0w4 T1w4 HBw4
     cases pn
     ·have hfi : (ka :: l).findIdx ET.full = i := by
       have hi3 := (List.getElem?_eq_some_iff.1 HK.out).1
       refine (List.findIdx_eq hi3).2 ⟨?_, fun j hj => HALL.out j _ hj (List.getElem?_eq_getElem _)⟩
       rw [(List.getElem?_eq_some_iff.1 HK.out).2, HFU.out]
       rfl
      have HST := Lib.hid (HST1.out i hlt hfi)
      have HTKI := Lib.hid (HTK.out i hlt)
      obtain ⟨j, hj⟩ : ∃ j, j = i + 1 := ⟨_, rfl⟩
      have hj1 : (i : Int) + 1 = (j : Int) := by omega
      have hj2 : IntKind.i64.wrap ((i : Int) + 1) = (j : Int) := by rw [hj1]; exact IntWalk.i64_in _ (by omega)
      have hjc : j ≤ cc := by omega
      rw [← hj] at HST HTKI
      have HJ := Lib.hid hj
      clear hj hw1
      obtain ⟨y0, y1, y2, y3, y4, y5, y6⟩ := cs7 T0w5.out
      obtain ⟨z0, g0, z1, g1, z2, g2, z3, g3, z4, g4, z5, g5, z6, g6⟩ := cf7 T1w5.out
      go_wp2_with fail
      go_region
      all_goals
       go_wp2
       refine bodyPost_ret (results_row_tmp rfl _ _ (H + 1) 27 _ (0, 0) _ rfl (drew_at (setRow7_at T1w5.out)) Tryz.underlying27 rfl (by kernel_rfl)) rfl ?_
       exact rstep_drew (rstep_yes (y := .mk 22 0 Dat.zero ((ka :: l).take j)) (kv := .slice (some ⟨b, off, none⟩) j cc) HST.out HTKI.out (setRow7_below (B := w.heap.size) HBw5.out (by have := EH.out; omega)))
     ·go_wp2
      go_roundg (K - (i + 1))
      case measure => omega
      case rel => exact ⟨i + 1, by omega, rfl, by go_num, fun j x hj hx => by
       by_cases e : j < i
       ·exact HALL.out j x e hx
       ·obtain rfl : j = i := by omega
        rw [HK.out] at hx; cases hx; rw [HFU.out]; rfl, T0w5.out, T1w5.out, HBw5.out⟩
   ·have hlt2 : ¬ (i : Int) + 1 < (K : Int) := by omega
    have hnf : ¬ (ka :: l).findIdx ET.full + 1 < K := fun h => by
     have hlen : (ka :: l).findIdx ET.full < (ka :: l).length := by rw [← EK.out]; omega
     have h1 := List.findIdx_getElem (p := ET.full) (xs := ka :: l) (w := hlen)
     have h2 := HALL.out ((ka :: l).findIdx ET.full) _ (by omega) (List.getElem?_eq_getElem hlen)
     rw [h2] at h1
     cases h1
    have HST := Lib.hid (HST2.out hnf)
    clear hnf
    obtain ⟨p0, p1, p2, p3, p4, p5, p6⟩ := HKa.out.below HB.out
    obtain ⟨z0, g0, z1, g1, z2, g2, z3, g3, z4, g4, z5, g5, z6, g6⟩ := cf7 T1.out
    cases q0
    ·have hK1 : 1 < K := by
      have h : K ≠ 1 := by simpa using E0.out
      omega
     go_wp2_with fail
     refine (HA3.out _).mono ?_
     rintro ev w5 ⟨rfl, hb⟩
     have HBw5 := Lib.hid (HB.out.trans (hb.mono HB.out.size))
     have T0w5 := Lib.hid ((hb.block _ (lt_of_heap T0.out)).trans T0.out)
     have T1w5 := Lib.hid ((hb.block _ (lt_of_heap T1.out)).trans T1.out)
     clear hb y1 p0 p1 p2 p3 p4 p5 p6 T0 T1 HB z0 g0 z1 g1 z2 g2 z3 g3 z4 g4 z5 g5 z6 g6
     cases q3
     ·have HSN := Lib.hid (show stepR (.mk 22 c d (ka :: l)) = none by rw [HST.out, ← E3.out]; rfl)
      obtain ⟨y0, y1, y2, y3, y4, y5, y6⟩ := cs7 T0w5.out
      obtain ⟨z0, g0, z1, g1, z2, g2, z3, g3, z4, g4, z5, g5, z6, g6⟩ := cf7 T1w5.out
      go_wp2
      refine bodyPost_ret (results_row_tmp rfl _ _ (H + 1) 27 _ (0, 0) _ rfl (setRow7_at T1w5.out) Tryz.underlying27 rfl (by kernel_rfl)) rfl ?_
      exact rstep_no (kv := .slice (some ⟨b, off, none⟩) K cc) HSN.out HON.out (setRow7_below HBw5.out (by have := EH.out; omega))
     ·have HSN := Lib.hid (show stepR (.mk 22 c d (ka :: l)) = some (.mk 22 0 Dat.zero l) by rw [HST.out, ← E3.out]; rfl)
      have HDRI := Lib.hid (HDR.out hK1)
      have hcc : ¬ cc - 1 = 0 := by omega
      have hk0 : 1 ≤ K := by omega
      obtain ⟨y0, y1, y2, y3, y4, y5, y6⟩ := cs7 T0w5.out
      obtain ⟨z0, g0, z1, g1, z2, g2, z3, g3, z4, g4, z5, g5, z6, g6⟩ := cf7 T1w5.out
      go_wp2_with fail
      go_region
      all_goals
       go_wp2
       refine bodyPost_ret (results_row_tmp rfl _ _ (H + 1) 27 _ (0, 0) _ rfl (drew_at (setRow7_at T1w5.out)) Tryz.underlying27 rfl (by kernel_rfl)) rfl ?_
       exact rstep_drew (rstep_yes (y := .mk 22 0 Dat.zero l) (kv := .slice (some ⟨b, off + 7, none⟩) (K - 1) (cc - 1)) HSN.out HDRI.out (setRow7_below (B := w.heap.size) HBw5.out (by have := EH.out; omega)))
    ·have HSN := Lib.hid (show stepR (.mk 22 c d (ka :: l)) = some ka by rw [HST.out]; rfl)
     go_wp2
     refine bodyPost_ret (results_row_tmp rfl _ _ (H + 1) 27 _ (0, 0) _ rfl (setRow7_at T1.out) Tryz.underlying27 rfl (by kernel_rfl)) rfl ?_
     exact rstep_yes (kv := .slice aa ka.kids.length ca) HSN.out HONa.out (setRow7_below HB.out (by have := EH.out; omega))
theorem rstep_32 (S : Nat → Prop) (o c : Int) (d : Dat) (ks : List ET) (a : Option Addr) (cc deep : Nat) (w : World) (hat : (ET.mk o c d ks).OnC S w (.slice a ks.length cc)) (hfit : (ET.mk o c d ks).fits) (hd1 : 1 ≤ deep) (hg : (ET.mk o c d ks).good okD deep = true) (hsz : (ET.mk o c d ks).size ≤ 4000) (hne : ks ≠ []) :
  Calls Tryz.prog 32 #[(ET.mk o c d ks).agg (.slice a ks.length cc)] w (RStepPost (.mk o c d ks) S w) := by
 by_cases hno : ks.all ET.isLit = true ∧ ((ET.mk o c d ks).val []).2 = 0
 ·exact rstep_lits S o c d ks a cc deep w hat hfit hd1 hg hsz hne hno.1 hno.2
 ·by_cases h1 : o = 18 ∨ o = 19
  ·exact rstep_logic S o c d ks a cc deep w hat hfit hd1 hg hsz hne h1 hno
  ·by_cases h2 : o = 21
   ·exact rstep_case S o c d ks a cc deep w hat hfit hd1 hg hsz hne h2 hno
   ·by_cases h3' : o = 22
    ·exact rstep_coal S o c d ks a cc deep w hat hfit hd1 hg hsz hne h3' hno
    ·exact rstep_other S o c d ks a cc deep w hat hfit hd1 hg hsz hne ⟨h1, h2, h3'⟩ hno
end Go.Proofs.YtmmhedlagnjbiaaGreatDoor
