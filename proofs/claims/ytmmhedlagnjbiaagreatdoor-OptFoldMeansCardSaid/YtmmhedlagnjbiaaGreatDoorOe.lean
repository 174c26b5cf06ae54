import Derived.Test.YtmmhedlagnjbiaaGreatDoorOa
import Derived.Test.YtmmhedlagnjbiaaGreatDoorUm
import Derived.Test.YtmmhedlagnjbiaaGreatDoorFm
/- our texts, shortened by program (pack.py) -/
set_option maxRecDepth 100000
set_option maxHeartbeats 4000000
namespace Go.Proofs.YtmmhedlagnjbiaaGreatDoor
open Go.RowKit Go.Pen
attribute [local go_sem] Oper.semAt_some
theorem stepP_mk (o c : Int) (d : Dat) (ks : List ET) : stepP (.mk o c d ks) = if ks.isEmpty = true then none else if ks.all ET.isLit = true ∧ (ET.val [] (.mk o c d ks)).2 = 0 then some (litE (ET.val [] (.mk o c d ks)).1)
  else if o = 18 ∨ o = 19 then logicS o ks else if o = 21 then caseS o c d ks else if o = 22 then coalP o c d ks else none := rfl
theorem evalR_lits {o c : Int} {d : Dat} {ks : List ET} {deep : Nat} (hd1 : 1 ≤ deep) (hg : (ET.mk o c d ks).good okD deep = true) (hsz : (ET.mk o c d ks).size ≤ 4000) (hne : ks ≠ []) (hl : ks.all ET.isLit = true) :
  (((ET.mk o c d ks).val []).2 = 0 → evalR [] (.mk o c d ks) = (ET.mk o c d ks).val []) ∧ (((ET.mk o c d ks).val []).2 ≠ 0 → (evalR [] (.mk o c d ks)).2 ≠ 0) := by
 have hm : (ET.mk o c d ks).may okD = true := by
  simp only [ET.may, Bool.and_eq_true, decide_eq_true_eq]
  exact ⟨good_mono _ _ _ hd1 hg, hsz⟩
 have hw : (ET.mk o c d ks).within (([] : List Dat).length : Nat) = true := by
  obtain ⟨hown, -, hk⟩ := good_inv hg
  refine within_mk (fun e => ?_) fun k hk' => ?_
  ·have := own_kids hown
   rw [e] at this
   simp [kidsOk] at this
   exact absurd this hne
  ·have h2 := List.all_eq_true.1 hl k hk'
   have := lit_of_good (hk k hk') (by simpa [ET.isLit] using h2)
   rw [this.1]
   exact within_litE _ _
 unfold evalR
 rw [if_pos ⟨hm, hw⟩]
 constructor
 ·intro h; rw [if_pos h]
 ·intro h; rw [if_neg h]; exact h
theorem is_tru {k : ET} {deep : Nat} {b : Bool} (hg : k.good okD deep = true) : k.is b = k.tru b := by
 unfold ET.is ET.tru ET.isLit
 by_cases h2 : k.op = 2
 ·have hl := (lit_of_good hg h2).2
  rw [decide_eq_true h2]
  simp only [Bool.true_and]
  by_cases hk : k.lit.kind = 2
  ·rw [decide_eq_true hk, okD_boo_eq hl hk]
   cases k.lit.bool <;> cases b <;> rfl
  ·rw [decide_eq_false hk]
   simp only [Bool.false_and, decide_eq_false_iff_not]
   intro h
   rw [h] at hk
   exact hk rfl
 ·rw [decide_eq_false h2]
  simp
def StepPost (x : ET) (S : Nat → Prop) (w : World) (ev : Ending) (w' : World) : Prop :=
 ∃ y kv b, ev = .returned (.tuple #[y.agg kv, .bool b]) ∧ (if b = true then stepP x = some y else stepP x = none ∧ y = x) ∧ y.OnC (fun g => S g ∨ Btw w.heap.size w'.heap.size g) w' kv ∧ Below w.heap.size w w'
theorem step_yes {x y : ET} {S S' : Nat → Prop} {w w' : World} {kv : Value} (h : stepP x = some y) (hon : y.OnC S' w kv) (hS : ∀ g, S' g → S g) (hb : Below w.heap.size w w') : StepPost x S w (.returned (.tuple #[y.agg kv, .bool true])) w' :=
 ⟨y, kv, true, rfl, by rw [if_pos rfl]; exact h, (hon.wide fun g hg => .inl (hS g hg)).below hb, hb⟩
theorem step_new {x y : ET} {S : Nat → Prop} {w wN w7 : World} {H : Nat} {kv u v0 v1 v2 v3 v4 v5 v6 : Value} (hst : stepP x = some y) (hon : y.OnC (fun g => (S g ∧ g < w.heap.size) ∨ Btw wN.heap.size w7.heap.size g) w7 kv) (eH : H = w.heap.size) (hN : H + 1 < wN.heap.size) (hb : Below w.heap.size w w7) :
  StepPost x S w (.returned (.tuple #[y.agg kv, .bool true])) (setRow7 (w7.setCell ⟨H, 1, none⟩ u) (H + 1) v0 v1 v2 v3 v4 v5 v6) := by
 have hsz : (setRow7 (w7.setCell ⟨H, 1, none⟩ u) (H + 1) v0 v1 v2 v3 v4 v5 v6).heap.size = w7.heap.size := by rw [setRow7_size]; simp [World.setCell]
 refine ⟨y, kv, true, rfl, by rw [if_pos rfl]; exact hst, hon.frame (fun g hg _ => ?_) (fun g hg _ => ?_), setRow7_below (hb.setCell (p := ⟨H, 1, none⟩) (by show w.heap.size ≤ H; omega) _) (by omega)⟩
 ·rcases hg with hg | hg
  ·exact .inl hg.1
  ·exact .inr ⟨by have := hg.1; omega, by rw [hsz]; exact hg.2⟩
 ·have h1 : g ≠ H ∧ g ≠ H + 1 := by
   rcases hg with hg | hg
   ·have := hg.2; omega
   ·have := hg.1; omega
  rw [setRow7_ne h1.2, heap_set_ne h1.1]
theorem step_no {x : ET} {S S' : Nat → Prop} {w w' : World} {kv : Value} (h : stepP x = none) (hon : x.OnC S' w kv) (hS : ∀ g, S' g → S g) (hb : Below w.heap.size w w') : StepPost x S w (.returned (.tuple #[x.agg kv, .bool false])) w' :=
 ⟨x, kv, false, rfl, by rw [if_neg (by decide)]; exact ⟨h, rfl⟩, (hon.wide fun g hg => .inl (hS g hg)).below hb, hb⟩
theorem step_lits (S : Nat → Prop) (o c : Int) (d : Dat) (ks : List ET) (a : Option Addr) (cc deep : Nat) (w : World) (hat : (ET.mk o c d ks).OnC S w (.slice a ks.length cc)) (hfit : (ET.mk o c d ks).fits) (hd1 : 1 ≤ deep) (hg : (ET.mk o c d ks).good okD deep = true) (hsz : (ET.mk o c d ks).size ≤ 4000) (hne : ks ≠ [])
  (hT : Lib.Utf8Tabs 0 1 w) (hE : ErrTy w) (h3 : 3 ≤ w.heap.size) (hl : ks.all ET.isLit = true) (h0 : ((ET.mk o c d ks).val []).2 = 0) :
  Calls Tryz.prog 30 #[(ET.mk o c d ks).agg (.slice a ks.length cc)] w (StepPost (.mk o c d ks) S w) := by
 have hn : ks.length ≤ 12000 := by have := ET.sizes_len ks; simp only [ET.size] at hsz; omega
 have hcn := fun (W : World) (hb : Below w.heap.size w W) => contains_46 47 (.inl rfl) _ step1_47 o c d ks _ W (hat.at.below hb) hn
 have hev := fun (W : World) (hb : Below w.heap.size w W) => eval12_all [] (.mk o c d ks) a cc none 0 W hfit (by simp) (hat.at.below hb) ⟨none, 0, rfl, fun _ => rfl, fun h => absurd rfl h⟩ (tabs_below hT hb h3) (cell_keep hb hE) (Nat.le_trans h3 hb.size)
 have hvv := fun hl => evalR_lits hd1 hg hsz hne hl
 obtain ⟨v, hv⟩ : ∃ v, v = evalR [] (.mk o c d ks) := ⟨_, rfl⟩
 simp only [← hv] at hev hvv
 clear hv
 obtain ⟨K, eK⟩ : ∃ K, K = ks.length := ⟨_, rfl⟩
 have hon := hat.lt
 obtain ⟨a', cc', e1, -, hks⟩ := ET.OnC.iff.1 hat
 cases e1
 obtain ⟨hKc, b, off, rfl, hSb, hats⟩ := hks hne
 simp only [ET.kids] at hKc hats
 rw [← eK] at hKc hn
 have hK0 : 0 < K := by rw [eK]; exact List.length_pos_iff.2 hne
 have hst : stepP (.mk o c d ks) = some (litE ((ET.mk o c d ks).val []).1) := by
  rw [stepP_mk, if_neg (by simpa using hne), if_pos ⟨hl, h0⟩]
 have hv1 := (hvv hl).1 h0
 rw [← hv1] at hst h0
 have HST := Lib.hid hst
 have hany : ks.any (fun k => !k.isLit) = false := by rw [List.any_eq_false]; intro k hk; simp [List.all_eq_true.1 hl k hk]
 rw [hany] at hcn
 clear hst hv1 hany
 unfold ET.agg at hev ⊢
 simp only [ET.op, ET.col, ET.lit, ET.kids] at hev ⊢
 simp only [← eK] at hcn hev hon ⊢
 have EK := Lib.hid eK
 have HCN := Lib.hid hcn
 have HEV := Lib.hid hev
 have HVV := Lib.hid hvv
 have HON := Lib.hid hon
 have HATS := Lib.hid hats
 have HG := Lib.hid hg
 have HNE := Lib.hid hne
 clear hat hcn hev hvv hon hats hne eK hT hE hfit hks hSb hd1 hsz
 obtain ⟨H, eH⟩ : ∃ H, H = w.heap.size := ⟨_, rfl⟩
 have EH := Lib.hid eH
 obtain ⟨w1, hw1⟩ : ∃ w1, w1 = (w.alloc (.cells #[.int .u8 o, .slice (some ⟨b, off, none⟩) K cc, .int .i64 c, .int .u8 d.kind, .bool d.bool, .int .i64 d.int, .string d.text] 27)).alloc (.cells #[.int .u8 0, .slice none 0 0, .int .i64 0, .int .u8 0, .bool false, .int .i64 0, .string ⟨#[]⟩] 27) := ⟨_, rfl⟩
 have hb1 : Below w.heap.size w w1 := by rw [hw1]; exact two_below _ _ _
 have ht := two_at (w := w) (w1 := w1) (a := .cells #[.int .u8 o, .slice (some ⟨b, off, none⟩) K cc, .int .i64 c, .int .u8 d.kind, .bool d.bool, .int .i64 d.int, .string d.text] 27) (b := .cells #[.int .u8 0, .slice none 0 0, .int .i64 0, .int .u8 0, .bool false, .int .i64 0, .string ⟨#[]⟩] 27) (by rw [hw1]; exact Below.refl _ _)
 rw [← eH] at ht
 have HB1 := Lib.hid hb1
 have T01 := Lib.hid ht.1
 have T11 := Lib.hid ht.2
 have HW1 := Lib.hid hw1
 clear hb1 ht hw1 eH
 go_enter Tryz.func30, Tryz.ntmps30
 go_wp2_with fail
 rw [← HW1.out, ← EH.out]
 refine (HCN.out w1 HB1.out).mono ?_
 rintro ev w2 ⟨rfl, hb2⟩
 have HB2 := Lib.hid (HB1.out.trans (hb2.mono HB1.out.size))
 have T02 := Lib.hid ((hb2.block _ (lt_of_heap T01.out)).trans T01.out)
 have T12 := Lib.hid ((hb2.block _ (lt_of_heap T11.out)).trans T11.out)
 clear hb2 HB1 T01 T11 HW1 HCN
 obtain ⟨y0, y1, y2, y3, y4, y5, y6⟩ := cs7 T02.out
 go_wp2_with fail
 refine (HEV.out w2 HB2.out).mono ?_
 rintro ev w3 ⟨rfl, hb3⟩
 have HB3 := Lib.hid (HB2.out.trans (hb3.mono HB2.out.size))
 have t1 := (hb3.block _ (lt_of_heap T12.out)).trans T12.out
 have T13 := Lib.hid t1
 clear hb3 t1 y0 y1 y2 y3 y4 y5 y6
 unfold resT Dat.agg
 rw [h0]
 obtain ⟨w4, hw4⟩ : ∃ w4, w4 = w3.alloc (.cells #[.int .u8 v.1.kind, .bool v.1.bool, .int .i64 v.1.int, .string v.1.text] 25) := ⟨_, rfl⟩
 have T14 := Lib.hid (show w4.heap[H + 1]? = some _ by rw [hw4]; exact (Below.heap_alloc _ _ _ (lt_of_heap T13.out)).trans T13.out)
 have HB4 : Hid (Below w.heap.size w w4) := Lib.hid (by rw [hw4]; exact HB3.out.alloc HB3.out.size _)
 have hH4 : H + 1 ≠ w3.heap.size := by have := lt_of_heap T13.out; omega
 obtain ⟨z0, g0, z1, g1, z2, g2, z3, g3, z4, g4, z5, g5, z6, g6⟩ := cf7 T14.out
 rw [hw4] at z0 g0 z1 g1 z2 g2 z3 g3 z4 g4 z5 g5 z6 g6
 have HW4 := Lib.hid hw4
 clear hw4
 go_wp2
 rw [← HW4.out]
 refine bodyPost_ret (results_row_tmp rfl _ _ (H + 1) 27 _ (0, 0) _ rfl (setRow7_at T14.out) Tryz.underlying27 rfl (by kernel_rfl)) rfl ?_
 exact step_yes (y := litE v.1) (kv := .slice none 0 0) HST.out (onC_nil S _ _ _ _) (fun g h => h) (setRow7_below HB4.out (by have := EH.out; omega))
theorem step_logic (S : Nat → Prop) (o c : Int) (d : Dat) (ks : List ET) (a : Option Addr) (cc deep : Nat) (w : World) (hat : (ET.mk o c d ks).OnC S w (.slice a ks.length cc)) (hfit : (ET.mk o c d ks).fits) (hd1 : 1 ≤ deep) (hg : (ET.mk o c d ks).good okD deep = true) (hsz : (ET.mk o c d ks).size ≤ 4000) (hne : ks ≠ [])
  (hT : Lib.Utf8Tabs 0 1 w) (hE : ErrTy w) (h3 : 3 ≤ w.heap.size) (ho : o = 18 ∨ o = 19) (hno : ¬ (ks.all ET.isLit = true ∧ ((ET.mk o c d ks).val []).2 = 0)) :
  Calls Tryz.prog 30 #[(ET.mk o c d ks).agg (.slice a ks.length cc)] w (StepPost (.mk o c d ks) S w) := by
 have hn : ks.length ≤ 12000 := by have := ET.sizes_len ks; simp only [ET.size] at hsz; omega
 have hcn := fun (W : World) (hb : Below w.heap.size w W) => contains_46 47 (.inl rfl) _ step1_47 o c d ks _ W (hat.at.below hb) hn
 have hev := fun (W : World) (hb : Below w.heap.size w W) => eval12_all [] (.mk o c d ks) a cc none 0 W hfit (by simp) (hat.at.below hb) ⟨none, 0, rfl, fun _ => rfl, fun h => absurd rfl h⟩ (tabs_below hT hb h3) (cell_keep hb hE) (Nat.le_trans h3 hb.size)
 have hvv := fun hl => evalR_lits hd1 hg hsz hne hl
 obtain ⟨v, hv⟩ : ∃ v, v = evalR [] (.mk o c d ks) := ⟨_, rfl⟩
 simp only [← hv] at hev hvv
 clear hv
 obtain ⟨K, eK⟩ : ∃ K, K = ks.length := ⟨_, rfl⟩
 have hon := hat.lt
 obtain ⟨a', cc', e1, -, hks⟩ := ET.OnC.iff.1 hat
 cases e1
 obtain ⟨hKc, b, off, rfl, hSb, hats⟩ := hks hne
 simp only [ET.kids] at hKc hats
 rw [← eK] at hKc hn
 have hK0 : 0 < K := by rw [eK]; exact List.length_pos_iff.2 hne
 obtain ⟨p, hp⟩ : ∃ p, p = ks.all ET.isLit := ⟨_, rfl⟩
 have hany : ks.any (fun k => !k.isLit) = !p := by rw [hp, List.not_all_eq_any_not]
 simp only [hany] at hcn
 have hvn : p = true → v.2 ≠ 0 := fun h => (hvv (by rw [← hp]; exact h)).2 (fun h0 => hno ⟨by rw [← hp]; exact h, h0⟩)
 have HVN := Lib.hid hvn
 clear hany hvn hp
 obtain ⟨t, t2, hot⟩ : ∃ t t2, (o = 18 ∧ t = true ∧ t2 = false) ∨ (o = 19 ∧ t = false ∧ t2 = true) := by
  rcases ho with rfl | rfl
  ·exact ⟨true, false, .inl ⟨rfl, rfl, rfl⟩⟩
  ·exact ⟨false, true, .inr ⟨rfl, rfl, rfl⟩⟩
 have hl2 : ks.length = 2 := by
  have := own_kids (good_inv hg).1
  rcases ho with rfl | rfl <;> simpa [kidsOk] using this
 obtain ⟨ka, kb, rfl⟩ := len_two hl2
 have hga := (good_inv hg).2.2 ka (by simp)
 have hgb := (good_inv hg).2.2 kb (by simp)
 have hst : stepP (.mk o c d [ka, kb]) = if ka.is t = true then some kb else if ka.is t2 = true ∨ kb.is t = true then some ka else none := by
  rw [stepP_mk, if_neg (by simp), if_neg hno, if_pos ho, is_tru hga, is_tru hga, is_tru hgb]
  rcases hot with ⟨rfl, rfl, rfl⟩ | ⟨rfl, rfl, rfl⟩ <;> simp [logicS]
 have hxa : [ka, kb][0]? = some ka := rfl
 have hxb : [ka, kb][1]? = some kb := rfl
 have hK1 : 1 < K := by rw [eK]; exact Nat.lt_of_lt_of_eq (by decide) hl2.symm
 obtain ⟨kva, hka, hona⟩ := hats.get hxa
 obtain ⟨aa, ca, rfl⟩ := hona.slice
 rw [show off + 0 * 7 = off by omega] at hka
 have HKa := Lib.hid hka
 have HONa := Lib.hid hona.lt
 clear hka hona
 obtain ⟨kvb, hkb, honb⟩ := hats.get hxb
 obtain ⟨ab, cb, rfl⟩ := honb.slice
 rw [show off + 1 * 7 = off + 7 by omega] at hkb
 have HKb := Lib.hid hkb
 have HONb := Lib.hid honb.lt
 clear hkb honb
 have ha1 := fun W => is_50 ka t aa ka.kids.length ca W
 have ha2 := fun W => is_50 ka t2 aa ka.kids.length ca W
 have ha3 := fun W => is_50 kb t ab kb.kids.length cb W
 obtain ⟨q1, e1⟩ : ∃ q, q = ka.is t := ⟨_, rfl⟩
 obtain ⟨q2, e2⟩ : ∃ q, q = ka.is t2 := ⟨_, rfl⟩
 obtain ⟨q3, e3⟩ : ∃ q, q = kb.is t := ⟨_, rfl⟩
 simp only [← e1] at ha1
 simp only [← e2] at ha2
 simp only [← e3] at ha3
 rw [← e1, ← e2, ← e3] at hst
 unfold ET.agg at ha1 ha2 ha3
 have HA1 := Lib.hid ha1
 have HA2 := Lib.hid ha2
 have HA3 := Lib.hid ha3
 have HST := Lib.hid hst
 clear ha1 ha2 ha3 e1 e2 e3 hst hxa hxb hga hgb hl2 hno ho
 unfold ET.agg at hev ⊢
 simp only [ET.op, ET.col, ET.lit, ET.kids] at hev ⊢
 simp only [← eK] at hcn hev hon ⊢
 have EK := Lib.hid eK
 have HCN := Lib.hid hcn
 have HEV := Lib.hid hev
 have HVV := Lib.hid hvv
 have HON := Lib.hid hon
 have HATS := Lib.hid hats
 have HG := Lib.hid hg
 have HNE := Lib.hid hne
 clear hat hcn hev hvv hon hats hne eK hT hE hfit hks hSb hd1 hsz
 obtain ⟨H, eH⟩ : ∃ H, H = w.heap.size := ⟨_, rfl⟩
 have EH := Lib.hid eH
 obtain ⟨w1, hw1⟩ : ∃ w1, w1 = (w.alloc (.cells #[.int .u8 o, .slice (some ⟨b, off, none⟩) K cc, .int .i64 c, .int .u8 d.kind, .bool d.bool, .int .i64 d.int, .string d.text] 27)).alloc (.cells #[.int .u8 0, .slice none 0 0, .int .i64 0, .int .u8 0, .bool false, .int .i64 0, .string ⟨#[]⟩] 27) := ⟨_, rfl⟩
 have hb1 : Below w.heap.size w w1 := by rw [hw1]; exact two_below _ _ _
 have ht := two_at (w := w) (w1 := w1) (a := .cells #[.int .u8 o, .slice (some ⟨b, off, none⟩) K cc, .int .i64 c, .int .u8 d.kind, .bool d.bool, .int .i64 d.int, .string d.text] 27) (b := .cells #[.int .u8 0, .slice none 0 0, .int .i64 0, .int .u8 0, .bool false, .int .i64 0, .string ⟨#[]⟩] 27) (by rw [hw1]; exact Below.refl _ _)
 rw [← eH] at ht
 have HB1 := Lib.hid hb1
 have T01 := Lib.hid ht.1
 have T11 := Lib.hid ht.2
 have HW1 := Lib.hid hw1
 clear hb1 ht hw1 eH
 rcases hot with ⟨rfl, rfl, rfl⟩ | ⟨rfl, rfl, rfl⟩
 all_goals
  go_enter Tryz.func30, Tryz.ntmps30
  go_wp2_with fail
  rw [← HW1.out, ← EH.out]
  refine (HCN.out w1 HB1.out).mono ?_
  rintro ev w2 ⟨rfl, hb2⟩
  have HB2 := Lib.hid (HB1.out.trans (hb2.mono HB1.out.size))
  have T02 := Lib.hid ((hb2.block _ (lt_of_heap T01.out)).trans T01.out)
  have T12 := Lib.hid ((hb2.block _ (lt_of_heap T11.out)).trans T11.out)
  clear hb2 HB1 T01 T11 HW1 HCN
  cases p
  case' false =>
   obtain ⟨wq, rfl⟩ : ∃ wq, wq = w2 := ⟨_, rfl⟩
   have T0 := T02
   have T1 := T12
   have HB := HB2
   clear T02 T12 HB2
   have y0 := cell_of_heap (o := 0) T0.out rfl
   have y1 := cell_of_heap (o := 1) T0.out rfl
   obtain ⟨p0, p1, p2, p3, p4, p5, p6⟩ := HKa.out.below HB.out
   go_wp2_with fail
  case' true =>
   obtain ⟨y0, y1, y2, y3, y4, y5, y6⟩ := cs7 T02.out
   go_wp2_with fail
   refine (HEV.out w2 HB2.out).mono ?_
   rintro ev w3 ⟨rfl, hb3⟩
   have HB3 := Lib.hid (HB2.out.trans (hb3.mono HB2.out.size))
   have T03 := Lib.hid ((hb3.block _ (lt_of_heap T02.out)).trans T02.out)
   have T13 := Lib.hid ((hb3.block _ (lt_of_heap T12.out)).trans T12.out)
   clear hb3 y0 y1 y2 y3 y4 y5 y6
   unfold resT Dat.agg
   have hv2 : (v.2 : Int) ≠ 0 := by have := HVN.out (by first | rfl | trivial); omega
   have hv3 : ((v.2 : Int) == 0) = false := by simpa using hv2
   obtain ⟨wq, hwq⟩ : ∃ wq, wq = w3.alloc (.cells #[.int .u8 v.1.kind, .bool v.1.bool, .int .i64 v.1.int, .string v.1.text] 25) := ⟨_, rfl⟩
   have T0 := Lib.hid (show wq.heap[H]? = some _ by rw [hwq]; exact (Below.heap_alloc _ _ _ (lt_of_heap T03.out)).trans T03.out)
   have T1 := Lib.hid (show wq.heap[H + 1]? = some _ by rw [hwq]; exact (Below.heap_alloc _ _ _ (lt_of_heap T13.out)).trans T13.out)
   have HB : Hid (Below w.heap.size w wq) := Lib.hid (by rw [hwq]; exact HB3.out.alloc HB3.out.size _)
   have y0 := cell_of_heap (o := 0) T0.out rfl
   have y1 := cell_of_heap (o := 1) T0.out rfl
   obtain ⟨p0, p1, p2, p3, p4, p5, p6⟩ := HKa.out.below HB.out
   rw [hwq] at y0 y1 p0 p1 p2 p3 p4 p5 p6
   have HWQ := Lib.hid hwq
   clear hwq hv2 HB2 T02 T12 HB3 T03 T13
   go_wp2_with fail
   rw [← HWQ.out]
   clear HWQ hv3
  all_goals
   clear HEV HVN
   refine (HA1.out _).mono ?_
   rintro ev w4 ⟨rfl, hb⟩
   have HBw4 := Lib.hid (HB.out.trans (hb.mono HB.out.size))
   have T0w4 := Lib.hid ((hb.block _ (lt_of_heap T0.out)).trans T0.out)
   have T1w4 := Lib.hid ((hb.block _ (lt_of_heap T1.out)).trans T1.out)
   clear hb y0 y1 p0 p1 p2 p3 p4 p5 p6
   cases q1
   ·have y1 := cell_of_heap (o := 1) T0w4.out rfl
    obtain ⟨p0, p1, p2, p3, p4, p5, p6⟩ := HKa.out.below HBw4.out
    go_wp2_with fail
    refine (HA2.out _).mono ?_
    rintro ev w5 ⟨rfl, hb⟩
    have HBw5 := Lib.hid (HBw4.out.trans (hb.mono HBw4.out.size))
    have T0w5 := Lib.hid ((hb.block _ (lt_of_heap T0w4.out)).trans T0w4.out)
    have T1w5 := Lib.hid ((hb.block _ (lt_of_heap T1w4.out)).trans T1w4.out)
    clear hb y1 p0 p1 p2 p3 p4 p5 p6
    cases q2
    ·have y1 := cell_of_heap (o := 1) T0w5.out rfl
     obtain ⟨p0, p1, p2, p3, p4, p5, p6⟩ := HKb.out.below HBw5.out
     go_wp2_with fail
     refine (HA3.out _).mono ?_
     rintro ev w6 ⟨rfl, hb⟩
     have HBw6 := Lib.hid (HBw5.out.trans (hb.mono HBw5.out.size))
     have T0w6 := Lib.hid ((hb.block _ (lt_of_heap T0w5.out)).trans T0w5.out)
     have T1w6 := Lib.hid ((hb.block _ (lt_of_heap T1w5.out)).trans T1w5.out)
     clear hb y1 p0 p1 p2 p3 p4 p5 p6
     cases q3
     ·obtain ⟨y0, y1, y2, y3, y4, y5, y6⟩ := cs7 T0w6.out
      obtain ⟨z0, g0, z1, g1, z2, g2, z3, g3, z4, g4, z5, g5, z6, g6⟩ := cf7 T1w6.out
      go_wp2
      refine bodyPost_ret (results_row_tmp rfl _ _ (H + 1) 27 _ (0, 0) _ rfl (setRow7_at T1w6.out) Tryz.underlying27 rfl (by kernel_rfl)) rfl ?_
      exact step_no (kv := .slice (some ⟨b, off, none⟩) K cc) (by simpa using HST.out) HON.out (fun _ h => h.1) (setRow7_below HBw6.out (by have := EH.out; omega))
     ·have y1 := cell_of_heap (o := 1) T0w6.out rfl
      obtain ⟨p0, p1, p2, p3, p4, p5, p6⟩ := HKa.out.below HBw6.out
      obtain ⟨z0, g0, z1, g1, z2, g2, z3, g3, z4, g4, z5, g5, z6, g6⟩ := cf7 T1w6.out
      go_wp2
      refine bodyPost_ret (results_row_tmp rfl _ _ (H + 1) 27 _ (0, 0) _ rfl (setRow7_at T1w6.out) Tryz.underlying27 rfl (by kernel_rfl)) rfl ?_
      exact step_yes (kv := .slice aa ka.kids.length ca) (by simpa using HST.out) HONa.out (fun _ h => h.1) (setRow7_below HBw6.out (by have := EH.out; omega))
    ·have y1 := cell_of_heap (o := 1) T0w5.out rfl
     obtain ⟨p0, p1, p2, p3, p4, p5, p6⟩ := HKa.out.below HBw5.out
     obtain ⟨z0, g0, z1, g1, z2, g2, z3, g3, z4, g4, z5, g5, z6, g6⟩ := cf7 T1w5.out
     go_wp2
     refine bodyPost_ret (results_row_tmp rfl _ _ (H + 1) 27 _ (0, 0) _ rfl (setRow7_at T1w5.out) Tryz.underlying27 rfl (by kernel_rfl)) rfl ?_
     exact step_yes (kv := .slice aa ka.kids.length ca) (by simpa using HST.out) HONa.out (fun _ h => h.1) (setRow7_below HBw5.out (by have := EH.out; omega))
   ·have y1 := cell_of_heap (o := 1) T0w4.out rfl
    obtain ⟨p0, p1, p2, p3, p4, p5, p6⟩ := HKb.out.below HBw4.out
    obtain ⟨z0, g0, z1, g1, z2, g2, z3, g3, z4, g4, z5, g5, z6, g6⟩ := cf7 T1w4.out
    go_wp2
    refine bodyPost_ret (results_row_tmp rfl _ _ (H + 1) 27 _ (0, 0) _ rfl (setRow7_at T1w4.out) Tryz.underlying27 rfl (by kernel_rfl)) rfl ?_
    exact step_yes (kv := .slice ab kb.kids.length cb) (by simpa using HST.out) HONb.out (fun _ h => h.1) (setRow7_below HBw4.out (by have := EH.out; omega))
theorem step_case (S : Nat → Prop) (o c : Int) (d : Dat) (ks : List ET) (a : Option Addr) (cc deep : Nat) (w : World) (hat : (ET.mk o c d ks).OnC S w (.slice a ks.length cc)) (hfit : (ET.mk o c d ks).fits) (hd1 : 1 ≤ deep) (hg : (ET.mk o c d ks).good okD deep = true) (hsz : (ET.mk o c d ks).size ≤ 4000) (hne : ks ≠ [])
  (hT : Lib.Utf8Tabs 0 1 w) (hE : ErrTy w) (h3 : 3 ≤ w.heap.size) (ho : o = 21) (hno : ¬ (ks.all ET.isLit = true ∧ ((ET.mk o c d ks).val []).2 = 0)) :
  Calls Tryz.prog 30 #[(ET.mk o c d ks).agg (.slice a ks.length cc)] w (StepPost (.mk o c d ks) S w) := by
 have hn : ks.length ≤ 12000 := by have := ET.sizes_len ks; simp only [ET.size] at hsz; omega
 have hcn := fun (W : World) (hb : Below w.heap.size w W) => contains_46 47 (.inl rfl) _ step1_47 o c d ks _ W (hat.at.below hb) hn
 have hev := fun (W : World) (hb : Below w.heap.size w W) => eval12_all [] (.mk o c d ks) a cc none 0 W hfit (by simp) (hat.at.below hb) ⟨none, 0, rfl, fun _ => rfl, fun h => absurd rfl h⟩ (tabs_below hT hb h3) (cell_keep hb hE) (Nat.le_trans h3 hb.size)
 have hvv := fun hl => evalR_lits hd1 hg hsz hne hl
 obtain ⟨v, hv⟩ : ∃ v, v = evalR [] (.mk o c d ks) := ⟨_, rfl⟩
 simp only [← hv] at hev hvv
 clear hv
 obtain ⟨K, eK⟩ : ∃ K, K = ks.length := ⟨_, rfl⟩
 have hon := hat.lt
 obtain ⟨a', cc', e1, -, hks⟩ := ET.OnC.iff.1 hat
 cases e1
 obtain ⟨hKc, b, off, rfl, hSb, hats⟩ := hks hne
 simp only [ET.kids] at hKc hats
 rw [← eK] at hKc hn
 have hK0 : 0 < K := by rw [eK]; exact List.length_pos_iff.2 hne
 obtain ⟨p, hp⟩ : ∃ p, p = ks.all ET.isLit := ⟨_, rfl⟩
 have hany : ks.any (fun k => !k.isLit) = !p := by rw [hp, List.not_all_eq_any_not]
 simp only [hany] at hcn
 have hvn : p = true → v.2 ≠ 0 := fun h => (hvv (by rw [← hp]; exact h)).2 (fun h0 => hno ⟨by rw [← hp]; exact h, h0⟩)
 have HVN := Lib.hid hvn
 clear hany hvn hp
 have hl3 : 3 ≤ ks.length := by
  have := own_kids (good_inv hg).1
  rw [ho] at this
  simp [kidsOk] at this
  omega
 obtain ⟨ka, kb, kc, l, rfl⟩ : ∃ ka kb kc l, ks = ka :: kb :: kc :: l := by
  rcases ks with _ | ⟨ka, _ | ⟨kb, _ | ⟨kc, l⟩⟩⟩
  ·simp at hl3
  ·simp at hl3
  ·simp at hl3
  ·exact ⟨ka, kb, kc, l, rfl⟩
 have hga := (good_inv hg).2.2 ka (by simp)
 obtain ⟨q4, e4⟩ : ∃ q, q = decide (K = 3) := ⟨_, rfl⟩
 have hst : stepP (.mk o c d (ka :: kb :: kc :: l)) = if ka.is true = true then some kb else if ka.is false = true ∨ ka.nil = true then (if q4 = true then some kc else some (.mk o c d (kc :: l))) else none := by
  have h4 : (q4 = true) ↔ l = [] := by
   rw [e4, decide_eq_true_eq, eK]
   simp
  rw [stepP_mk, if_neg (by simp), if_neg hno, if_neg (by omega), if_pos ho, is_tru hga, is_tru hga]
  simp only [caseS]
  by_cases hl0 : l = []
  ·subst hl0
   simp only [if_pos (h4.2 rfl)]
  ·simp only [if_neg (fun h => hl0 (h4.1 h))]
   cases l with
   | nil => exact absurd rfl hl0
   | cons x t => rfl
 have hk3 : ((K : Int) == 3) = q4 := by rw [e4]; exact decide_eq_decide.2 (by omega)
 have hxa : (ka :: kb :: kc :: l)[0]? = some ka := rfl
 have hxb : (ka :: kb :: kc :: l)[1]? = some kb := rfl
 have hxc : (ka :: kb :: kc :: l)[2]? = some kc := rfl
 have hK1 : 1 < K := by rw [eK]; omega
 have hK2 : 2 < K := by rw [eK]; omega
 have hK3 : 2 ≤ K := by omega
 have hcc : ¬ cc - 2 = 0 := by omega
 have hdr := (onC_drop (m := 2) (by omega) (by rw [← eK]; exact hKc) hSb hats o c d).lt
 have hcl := fun (W : World) (hb : Below w.heap.size w W) => clone_52 _ o c d _ _ W (hdr.below hb) (by simp only [List.length_drop]; omega)
 rw [← eK, show off + 2 * 7 = off + 14 by omega] at hcl
 have HCL := Lib.hid hcl
 obtain ⟨kva, hka, hona⟩ := hats.get hxa
 obtain ⟨aa, ca, rfl⟩ := hona.slice
 rw [show off + 0 * 7 = off by omega] at hka
 have HKa := Lib.hid hka
 have HONa := Lib.hid hona.lt
 clear hka hona
 obtain ⟨kvb, hkb, honb⟩ := hats.get hxb
 obtain ⟨ab, cb, rfl⟩ := honb.slice
 rw [show off + 1 * 7 = off + 7 by omega] at hkb
 have HKb := Lib.hid hkb
 have HONb := Lib.hid honb.lt
 clear hkb honb
 obtain ⟨kvc, hkc, honc⟩ := hats.get hxc
 obtain ⟨ac, c3, rfl⟩ := honc.slice
 rw [show off + 2 * 7 = off + 14 by omega] at hkc
 have HKc := Lib.hid hkc
 have HONc := Lib.hid honc.lt
 clear hkc honc
 have ha1 := fun W => is_50 ka true aa ka.kids.length ca W
 have ha2 := fun W => is_50 ka false aa ka.kids.length ca W
 have ha3 := fun W => null_51 ka aa ka.kids.length ca W
 obtain ⟨q1, e1⟩ : ∃ q, q = ka.is true := ⟨_, rfl⟩
 obtain ⟨q2, e2⟩ : ∃ q, q = ka.is false := ⟨_, rfl⟩
 obtain ⟨q3, e3⟩ : ∃ q, q = ka.nil := ⟨_, rfl⟩
 simp only [← e1] at ha1
 simp only [← e2] at ha2
 simp only [← e3] at ha3
 rw [← e1, ← e2, ← e3] at hst
 unfold ET.agg at ha1 ha2 ha3
 have HA1 := Lib.hid ha1
 have HA2 := Lib.hid ha2
 have HA3 := Lib.hid ha3
 have HST := Lib.hid hst
 clear ha1 ha2 ha3 e1 e2 e3 e4 hst hxa hxb hxc hga hno hcl hdr hl3
 unfold ET.agg at hev ⊢
 simp only [ET.op, ET.col, ET.lit, ET.kids] at hev ⊢
 simp only [← eK] at hcn hev hon ⊢
 have EK := Lib.hid eK
 have HCN := Lib.hid hcn
 have HEV := Lib.hid hev
 have HVV := Lib.hid hvv
 have HON := Lib.hid hon
 have HATS := Lib.hid hats
 have HG := Lib.hid hg
 have HNE := Lib.hid hne
 clear hat hcn hev hvv hon hats hne eK hT hE hfit hks hSb hd1 hsz
 obtain ⟨H, eH⟩ : ∃ H, H = w.heap.size := ⟨_, rfl⟩
 have EH := Lib.hid eH
 obtain ⟨w1, hw1⟩ : ∃ w1, w1 = (w.alloc (.cells #[.int .u8 o, .slice (some ⟨b, off, none⟩) K cc, .int .i64 c, .int .u8 d.kind, .bool d.bool, .int .i64 d.int, .string d.text] 27)).alloc (.cells #[.int .u8 0, .slice none 0 0, .int .i64 0, .int .u8 0, .bool false, .int .i64 0, .string ⟨#[]⟩] 27) := ⟨_, rfl⟩
 have hb1 : Below w.heap.size w w1 := by rw [hw1]; exact two_below _ _ _
 have ht := two_at (w := w) (w1 := w1) (a := .cells #[.int .u8 o, .slice (some ⟨b, off, none⟩) K cc, .int .i64 c, .int .u8 d.kind, .bool d.bool, .int .i64 d.int, .string d.text] 27) (b := .cells #[.int .u8 0, .slice none 0 0, .int .i64 0, .int .u8 0, .bool false, .int .i64 0, .string ⟨#[]⟩] 27) (by rw [hw1]; exact Below.refl _ _)
 rw [← eH] at ht
 have HB1 := Lib.hid hb1
 have T01 := Lib.hid ht.1
 have T11 := Lib.hid ht.2
 have HW1 := Lib.hid hw1
 clear hb1 ht hw1 eH
 subst ho
 go_enter Tryz.func30, Tryz.ntmps30
 go_wp2_with fail
 rw [← HW1.out, ← EH.out]
 refine (HCN.out w1 HB1.out).mono ?_
 rintro ev w2 ⟨rfl, hb2⟩
 have HB2 := Lib.hid (HB1.out.trans (hb2.mono HB1.out.size))
 have T02 := Lib.hid ((hb2.block _ (lt_of_heap T01.out)).trans T01.out)
 have T12 := Lib.hid ((hb2.block _ (lt_of_heap T11.out)).trans T11.out)
 clear hb2 HB1 T01 T11 HW1 HCN
 cases p
 case' false =>
  obtain ⟨wq, rfl⟩ : ∃ wq, wq = w2 := ⟨_, rfl⟩
  have T0 := T02
  have T1 := T12
  have HB := HB2
  clear T02 T12 HB2
  have y0 := cell_of_heap (o := 0) T0.out rfl
  have y1 := cell_of_heap (o := 1) T0.out rfl
  obtain ⟨p0, p1, p2, p3, p4, p5, p6⟩ := HKa.out.below HB.out
  go_wp2_with fail
 case' true =>
  obtain ⟨y0, y1, y2, y3, y4, y5, y6⟩ := cs7 T02.out
  go_wp2_with fail
  refine (HEV.out w2 HB2.out).mono ?_
  rintro ev w3 ⟨rfl, hb3⟩
  have HB3 := Lib.hid (HB2.out.trans (hb3.mono HB2.out.size))
  have T03 := Lib.hid ((hb3.block _ (lt_of_heap T02.out)).trans T02.out)
  have T13 := Lib.hid ((hb3.block _ (lt_of_heap T12.out)).trans T12.out)
  clear hb3 y0 y1 y2 y3 y4 y5 y6
  unfold resT Dat.agg
  have hv2 : (v.2 : Int) ≠ 0 := by have := HVN.out (by first | rfl | trivial); omega
  have hv3 : ((v.2 : Int) == 0) = false := by simpa using hv2
  obtain ⟨wq, hwq⟩ : ∃ wq, wq = w3.alloc (.cells #[.int .u8 v.1.kind, .bool v.1.bool, .int .i64 v.1.int, .string v.1.text] 25) := ⟨_, rfl⟩
  have T0 := Lib.hid (show wq.heap[H]? = some _ by rw [hwq]; exact (Below.heap_alloc _ _ _ (lt_of_heap T03.out)).trans T03.out)
  have T1 := Lib.hid (show wq.heap[H + 1]? = some _ by rw [hwq]; exact (Below.heap_alloc _ _ _ (lt_of_heap T13.out)).trans T13.out)
  have HB : Hid (Below w.heap.size w wq) := Lib.hid (by rw [hwq]; exact HB3.out.alloc HB3.out.size _)
  have y0 := cell_of_heap (o := 0) T0.out rfl
  have y1 := cell_of_heap (o := 1) T0.out rfl
  obtain ⟨p0, p1, p2, p3, p4, p5, p6⟩ := HKa.out.below HB.out
  rw [hwq] at y0 y1 p0 p1 p2 p3 p4 p5 p6
  have HWQ := Lib.hid hwq
  clear hwq hv2 HB2 T02 T12 HB3 T03 T13
  go_wp2_with fail
  rw [← HWQ.out]
  clear HWQ hv3
 all_goals
  clear HEV HVN
  refine (HA1.out _).mono ?_
  rintro ev w4 ⟨rfl, hb⟩
  have HBw4 := Lib.hid (HB.out.trans (hb.mono HB.out.size))
  have T0w4 := Lib.hid ((hb.block _ (lt_of_heap T0.out)).trans T0.out)
  have T1w4 := Lib.hid ((hb.block _ (lt_of_heap T1.out)).trans T1.out)
  clear hb y0 y1 p0 p1 p2 p3 p4 p5 p6
  cases q1
  ·have y1 := cell_of_heap (o := 1) T0w4.out rfl
   obtain ⟨p0, p1, p2, p3, p4, p5, p6⟩ := HKa.out.below HBw4.out
   go_wp2_with fail
   refine (HA2.out _).mono ?_
   rintro ev w5 ⟨rfl, hb⟩
   have HBw5 := Lib.hid (HBw4.out.trans (hb.mono HBw4.out.size))
   have T0w5 := Lib.hid ((hb.block _ (lt_of_heap T0w4.out)).trans T0w4.out)
   have T1w5 := Lib.hid ((hb.block _ (lt_of_heap T1w4.out)).trans T1w4.out)
   clear hb y1 p0 p1 p2 p3 p4 p5 p6
   cases q2
   ·have y1 := cell_of_heap (o := 1) T0w5.out rfl
    obtain ⟨p0, p1, p2, p3, p4, p5, p6⟩ := HKa.out.below HBw5.out
    go_wp2_with fail
    refine (HA3.out _).mono ?_
    rintro ev w6 ⟨rfl, hb⟩
    have HBw6 := Lib.hid (HBw5.out.trans (hb.mono HBw5.out.size))
    have T0w6 := Lib.hid ((hb.block _ (lt_of_heap T0w5.out)).trans T0w5.out)
    have T1w6 := Lib.hid ((hb.block _ (lt_of_heap T1w5.out)).trans T1w5.out)
    clear hb y1 p0 p1 p2 p3 p4 p5 p6
    cases q3
    ·obtain ⟨y0, y1, y2, y3, y4, y5, y6⟩ := cs7 T0w6.out
     obtain ⟨z0, g0, z1, g1, z2, g2, z3, g3, z4, g4, z5, g5, z6, g6⟩ := cf7 T1w6.out
     go_wp2
     refine bodyPost_ret (results_row_tmp rfl _ _ (H + 1) 27 _ (0, 0) _ rfl (setRow7_at T1w6.out) Tryz.underlying27 rfl (by kernel_rfl)) rfl ?_
     exact step_no (kv := .slice (some ⟨b, off, none⟩) K cc) (by simpa using HST.out) HON.out (fun _ h => h.1) (setRow7_below HBw6.out (by have := EH.out; omega))
    ·cases q4
     ·have y1 := cell_of_heap (o := 1) T0w6.out rfl
      go_wp2_with fail
      refine (HCL.out _ HBw6.out).mono ?_
      rintro ev w9 ⟨v', rfl, hon7, hb⟩
      obtain ⟨a7, c7, rfl⟩ := hon7.slice
      have HON7 := Lib.hid hon7
      have HN7 := Lib.hid (lt_of_heap T1w6.out)
      have HBw9 := Lib.hid (HBw6.out.trans (hb.mono HBw6.out.size))
      have T0w9 := Lib.hid ((hb.block _ (lt_of_heap T0w6.out)).trans T0w6.out)
      have T1w9 := Lib.hid ((hb.block _ (lt_of_heap T1w6.out)).trans T1w6.out)
      clear hb hon7 y1
      obtain ⟨y0, y1, y2, y3, y4, y5, y6⟩ := cs7 T0w9.out
      have f1 := frozen_of_heap (o := 1) T0w9.out
      obtain ⟨z0, g0, z1, g1, z2, g2, z3, g3, z4, g4, z5, g5, z6, g6⟩ := cf7 T1w9.out
      go_wp2
      refine bodyPost_ret (results_row_tmp rfl _ _ (H + 1) 27 _ (0, 0) _ rfl (setRow7_at ((heap_set_ne (show H + 1 ≠ H by omega)).trans T1w9.out)) Tryz.underlying27 rfl (by kernel_rfl)) rfl ?_
      exact step_new (by simpa using HST.out) HON7.out EH.out HN7.out HBw9.out
     ·have y1 := cell_of_heap (o := 1) T0w6.out rfl
      obtain ⟨p0, p1, p2, p3, p4, p5, p6⟩ := HKc.out.below HBw6.out
      obtain ⟨z0, g0, z1, g1, z2, g2, z3, g3, z4, g4, z5, g5, z6, g6⟩ := cf7 T1w6.out
      go_wp2
      refine bodyPost_ret (results_row_tmp rfl _ _ (H + 1) 27 _ (0, 0) _ rfl (setRow7_at T1w6.out) Tryz.underlying27 rfl (by kernel_rfl)) rfl ?_
      exact step_yes (kv := .slice ac kc.kids.length c3) (by simpa using HST.out) HONc.out (fun _ h => h.1) (setRow7_below HBw6.out (by have := EH.out; omega))
   ·cases q4
    ·have y1 := cell_of_heap (o := 1) T0w5.out rfl
     go_wp2_with fail
     refine (HCL.out _ HBw5.out).mono ?_
     rintro ev w9 ⟨v', rfl, hon7, hb⟩
     obtain ⟨a7, c7, rfl⟩ := hon7.slice
     have HON7 := Lib.hid hon7
     have HN7 := Lib.hid (lt_of_heap T1w5.out)
     have HBw9 := Lib.hid (HBw5.out.trans (hb.mono HBw5.out.size))
     have T0w9 := Lib.hid ((hb.block _ (lt_of_heap T0w5.out)).trans T0w5.out)
     have T1w9 := Lib.hid ((hb.block _ (lt_of_heap T1w5.out)).trans T1w5.out)
     clear hb hon7 y1
     obtain ⟨y0, y1, y2, y3, y4, y5, y6⟩ := cs7 T0w9.out
     have f1 := frozen_of_heap (o := 1) T0w9.out
     obtain ⟨z0, g0, z1, g1, z2, g2, z3, g3, z4, g4, z5, g5, z6, g6⟩ := cf7 T1w9.out
     go_wp2
     refine bodyPost_ret (results_row_tmp rfl _ _ (H + 1) 27 _ (0, 0) _ rfl (setRow7_at ((heap_set_ne (show H + 1 ≠ H by omega)).trans T1w9.out)) Tryz.underlying27 rfl (by kernel_rfl)) rfl ?_
     exact step_new (by simpa using HST.out) HON7.out EH.out HN7.out HBw9.out
    ·have y1 := cell_of_heap (o := 1) T0w5.out rfl
     obtain ⟨p0, p1, p2, p3, p4, p5, p6⟩ := HKc.out.below HBw5.out
     obtain ⟨z0, g0, z1, g1, z2, g2, z3, g3, z4, g4, z5, g5, z6, g6⟩ := cf7 T1w5.out
     go_wp2
     refine bodyPost_ret (results_row_tmp rfl _ _ (H + 1) 27 _ (0, 0) _ rfl (setRow7_at T1w5.out) Tryz.underlying27 rfl (by kernel_rfl)) rfl ?_
     exact step_yes (kv := .slice ac kc.kids.length c3) (by simpa using HST.out) HONc.out (fun _ h => h.1) (setRow7_below HBw5.out (by have := EH.out; omega))
  ·have y1 := cell_of_heap (o := 1) T0w4.out rfl
   obtain ⟨p0, p1, p2, p3, p4, p5, p6⟩ := HKb.out.below HBw4.out
   obtain ⟨z0, g0, z1, g1, z2, g2, z3, g3, z4, g4, z5, g5, z6, g6⟩ := cf7 T1w4.out
   go_wp2
   refine bodyPost_ret (results_row_tmp rfl _ _ (H + 1) 27 _ (0, 0) _ rfl (setRow7_at T1w4.out) Tryz.underlying27 rfl (by kernel_rfl)) rfl ?_
   exact step_yes (kv := .slice ab kb.kids.length cb) (by simpa using HST.out) HONb.out (fun _ h => h.1) (setRow7_below HBw4.out (by have := EH.out; omega))
theorem step_coal (S : Nat → Prop) (o c : Int) (d : Dat) (ks : List ET) (a : Option Addr) (cc deep : Nat) (w : World) (hat : (ET.mk o c d ks).OnC S w (.slice a ks.length cc)) (hfit : (ET.mk o c d ks).fits) (hd1 : 1 ≤ deep) (hg : (ET.mk o c d ks).good okD deep = true) (hsz : (ET.mk o c d ks).size ≤ 4000) (hne : ks ≠ [])
  (hT : Lib.Utf8Tabs 0 1 w) (hE : ErrTy w) (h3 : 3 ≤ w.heap.size) (ho : o = 22) (hno : ¬ (ks.all ET.isLit = true ∧ ((ET.mk o c d ks).val []).2 = 0)) :
  Calls Tryz.prog 30 #[(ET.mk o c d ks).agg (.slice a ks.length cc)] w (StepPost (.mk o c d ks) S w) := by
 have hn : ks.length ≤ 12000 := by have := ET.sizes_len ks; simp only [ET.size] at hsz; omega
 have hcn := fun (W : World) (hb : Below w.heap.size w W) => contains_46 47 (.inl rfl) _ step1_47 o c d ks _ W (hat.at.below hb) hn
 have hev := fun (W : World) (hb : Below w.heap.size w W) => eval12_all [] (.mk o c d ks) a cc none 0 W hfit (by simp) (hat.at.below hb) ⟨none, 0, rfl, fun _ => rfl, fun h => absurd rfl h⟩ (tabs_below hT hb h3) (cell_keep hb hE) (Nat.le_trans h3 hb.size)
 have hvv := fun hl => evalR_lits hd1 hg hsz hne hl
 obtain ⟨v, hv⟩ : ∃ v, v = evalR [] (.mk o c d ks) := ⟨_, rfl⟩
 simp only [← hv] at hev hvv
 clear hv
 obtain ⟨K, eK⟩ : ∃ K, K = ks.length := ⟨_, rfl⟩
 have hon := hat.lt
 obtain ⟨a', cc', e1, -, hks⟩ := ET.OnC.iff.1 hat
 cases e1
 obtain ⟨hKc, b, off, rfl, hSb, hats⟩ := hks hne
 simp only [ET.kids] at hKc hats
 rw [← eK] at hKc hn
 have hK0 : 0 < K := by rw [eK]; exact List.length_pos_iff.2 hne
 obtain ⟨p, hp⟩ : ∃ p, p = ks.all ET.isLit := ⟨_, rfl⟩
 have hany : ks.any (fun k => !k.isLit) = !p := by rw [hp, List.not_all_eq_any_not]
 simp only [hany] at hcn
 have hvn : p = true → v.2 ≠ 0 := fun h => (hvv (by rw [← hp]; exact h)).2 (fun h0 => hno ⟨by rw [← hp]; exact h, h0⟩)
 have HVN := Lib.hid hvn
 clear hany hvn hp
 obtain ⟨ka, l, rfl⟩ : ∃ ka l, ks = ka :: l := by
  rcases ks with _ | ⟨ka, l⟩
  ·exact absurd rfl hne
  ·exact ⟨ka, l, rfl⟩
 obtain ⟨q0, e0⟩ : ∃ q, q = decide (K = 1) := ⟨_, rfl⟩
 have hk1 : ((K : Int) == 1) = q0 := by rw [e0]; exact decide_eq_decide.2 (by omega)
 obtain ⟨fi, efi⟩ : ∃ fi, fi = (ka :: l).findIdx ET.full := ⟨_, rfl⟩
 have hst : stepP (.mk o c d (ka :: l)) = if q0 = true then some ka else if ka.nil = true then some (.mk o c d l) else if fi + 1 < K then some (.mk o c d ((ka :: l).take (fi + 1))) else none := by
  rw [stepP_mk, if_neg (by simp), if_neg hno, if_neg (by omega), if_neg (by omega), if_pos ho]
  have h0 : (q0 = true) ↔ l = [] := by
   rw [e0, decide_eq_true_eq, eK]
   simp
  cases l with
  | nil => rw [if_pos (h0.2 rfl)]; rfl
  | cons x t => rw [if_neg (fun h => by cases h0.1 h)]; simp only [coalP, cutS]; rw [← efi, eK]
 obtain ⟨R, eR⟩ : ∃ R, R = idxR ET.full (ka :: l) := ⟨_, rfl⟩
 have hR : (fi + 1 < K ∧ R = fi) ∨ (fi + 1 = K ∧ R = fi) ∨ (¬ fi < K ∧ R = -1) := by
  unfold idxR at eR
  rw [← efi, ← eK] at eR
  by_cases h : fi < K
  ·rw [if_pos h] at eR
   by_cases h2 : fi + 1 < K
   ·exact .inl ⟨h2, eR⟩
   ·exact .inr (.inl ⟨by omega, eR⟩)
  ·rw [if_neg h] at eR
   exact .inr (.inr ⟨h, eR⟩)
 have hix := fun (W : World) (hb : Below w.heap.size w W) => index_53 54 (.inr rfl) _ step2_54 o c d (ka :: l) _ W (hat.at.below hb) (by rw [← eK]; exact hn)
 simp only [← eR, ← eK] at hix
 have HIX := Lib.hid hix
 have HR := Lib.hid hR
 have hxa : (ka :: l)[0]? = some ka := rfl
 have hdr := fun (h : 1 < K) => (onC_drop (m := 1) (by rw [← eK]; omega) (by rw [← eK]; exact hKc) hSb hats o c d).lt
 have hcl := fun (h : 1 < K) (W : World) (hb : Below w.heap.size w W) => clone_52 _ o c d _ _ W ((hdr h).below hb) (by simp only [List.length_drop]; omega)
 simp only [← eK, show off + 1 * 7 = off + 7 by omega, List.drop_succ_cons, List.drop_zero] at hcl
 have HCL1 := Lib.hid hcl
 have htk := fun (h : fi + 1 < K) => (onC_take (m := fi + 1) (by rw [← eK]; omega) (by rw [← eK]; exact hKc) hSb hats o c d).lt
 have hct := fun (h : fi + 1 < K) (W : World) (hb : Below w.heap.size w W) => clone_52 _ o c d _ _ W ((htk h).below hb) (by simp only [List.length_take]; omega)
 have HCL2 := Lib.hid hct
 obtain ⟨kva, hka, hona⟩ := hats.get hxa
 obtain ⟨aa, ca, rfl⟩ := hona.slice
 rw [show off + 0 * 7 = off by omega] at hka
 have HKa := Lib.hid hka
 have HONa := Lib.hid hona.lt
 clear hka hona
 have ha3 := fun W => null_51 ka aa ka.kids.length ca W
 obtain ⟨q3, e3⟩ : ∃ q, q = ka.nil := ⟨_, rfl⟩
 simp only [← e3] at ha3
 rw [← e3] at hst
 unfold ET.agg at ha3
 have HA3 := Lib.hid ha3
 have HST := Lib.hid hst
 have E0 := Lib.hid e0
 clear ha3 e3 hst hxa hno hcl hdr htk hct hix hR eR efi e0
 unfold ET.agg at hev ⊢
 simp only [ET.op, ET.col, ET.lit, ET.kids] at hev ⊢
 simp only [← eK] at hcn hev hon ⊢
 have EK := Lib.hid eK
 have HCN := Lib.hid hcn
 have HEV := Lib.hid hev
 have HVV := Lib.hid hvv
 have HON := Lib.hid hon
 have HATS := Lib.hid hats
 have HG := Lib.hid hg
 have HNE := Lib.hid hne
 clear hat hcn hev hvv hon hats hne eK hT hE hfit hks hSb hd1 hsz
 obtain ⟨H, eH⟩ : ∃ H, H = w.heap.size := ⟨_, rfl⟩
 have EH := Lib.hid eH
 obtain ⟨w1, hw1⟩ : ∃ w1, w1 = (w.alloc (.cells #[.int .u8 o, .slice (some ⟨b, off, none⟩) K cc, .int .i64 c, .int .u8 d.kind, .bool d.bool, .int .i64 d.int, .string d.text] 27)).alloc (.cells #[.int .u8 0, .slice none 0 0, .int .i64 0, .int .u8 0, .bool false, .int .i64 0, .string ⟨#[]⟩] 27) := ⟨_, rfl⟩
 have hb1 : Below w.heap.size w w1 := by rw [hw1]; exact two_below _ _ _
 have ht := two_at (w := w) (w1 := w1) (a := .cells #[.int .u8 o, .slice (some ⟨b, off, none⟩) K cc, .int .i64 c, .int .u8 d.kind, .bool d.bool, .int .i64 d.int, .string d.text] 27) (b := .cells #[.int .u8 0, .slice none 0 0, .int .i64 0, .int .u8 0, .bool false, .int .i64 0, .string ⟨#[]⟩] 27) (by rw [hw1]; exact Below.refl _ _)
 rw [← eH] at ht
 have HB1 := Lib.hid hb1
 have T01 := Lib.hid ht.1
 have T11 := Lib.hid ht.2
 have HW1 := Lib.hid hw1
 clear hb1 ht hw1 eH
 subst ho
 cases q0
 all_goals
  go_enter Tryz.func30, Tryz.ntmps30
  go_wp2_with fail
  rw [← HW1.out, ← EH.out]
  refine (HCN.out w1 HB1.out).mono ?_
  rintro ev w2 ⟨rfl, hb2⟩
  have HB2 := Lib.hid (HB1.out.trans (hb2.mono HB1.out.size))
  have T02 := Lib.hid ((hb2.block _ (lt_of_heap T01.out)).trans T01.out)
  have T12 := Lib.hid ((hb2.block _ (lt_of_heap T11.out)).trans T11.out)
  clear hb2 HB1 T01 T11 HW1 HCN
  cases p
  case' false =>
   obtain ⟨wq, rfl⟩ : ∃ wq, wq = w2 := ⟨_, rfl⟩
   have T0 := T02
   have T1 := T12
   have HB := HB2
   clear T02 T12 HB2
   have y0 := cell_of_heap (o := 0) T0.out rfl
   have y1 := cell_of_heap (o := 1) T0.out rfl
   obtain ⟨p0, p1, p2, p3, p4, p5, p6⟩ := HKa.out.below HB.out
   obtain ⟨z0, g0, z1, g1, z2, g2, z3, g3, z4, g4, z5, g5, z6, g6⟩ := cf7 T1.out
   go_wp2_with fail
  case' true =>
   obtain ⟨y0, y1, y2, y3, y4, y5, y6⟩ := cs7 T02.out
   go_wp2_with fail
   refine (HEV.out w2 HB2.out).mono ?_
   rintro ev w3 ⟨rfl, hb3⟩
   have HB3 := Lib.hid (HB2.out.trans (hb3.mono HB2.out.size))
   have T03 := Lib.hid ((hb3.block _ (lt_of_heap T02.out)).trans T02.out)
   have T13 := Lib.hid ((hb3.block _ (lt_of_heap T12.out)).trans T12.out)
   clear hb3 y0 y1 y2 y3 y4 y5 y6
   unfold resT Dat.agg
   have hv2 : (v.2 : Int) ≠ 0 := by have := HVN.out (by first | rfl | trivial); omega
   have hv3 : ((v.2 : Int) == 0) = false := by simpa using hv2
   obtain ⟨wq, hwq⟩ : ∃ wq, wq = w3.alloc (.cells #[.int .u8 v.1.kind, .bool v.1.bool, .int .i64 v.1.int, .string v.1.text] 25) := ⟨_, rfl⟩
   have T0 := Lib.hid (show wq.heap[H]? = some _ by rw [hwq]; exact (Below.heap_alloc _ _ _ (lt_of_heap T03.out)).trans T03.out)
   have T1 := Lib.hid (show wq.heap[H + 1]? = some _ by rw [hwq]; exact (Below.heap_alloc _ _ _ (lt_of_heap T13.out)).trans T13.out)
   have HB : Hid (Below w.heap.size w wq) := Lib.hid (by rw [hwq]; exact HB3.out.alloc HB3.out.size _)
   have y0 := cell_of_heap (o := 0) T0.out rfl
   have y1 := cell_of_heap (o := 1) T0.out rfl
   obtain ⟨p0, p1, p2, p3, p4, p5, p6⟩ := HKa.out.below HB.out
   obtain ⟨z0, g0, z1, g1, z2, g2, z3, g3, z4, g4, z5, g5, z6, g6⟩ := cf7 T1.out
   rw [hwq] at y0 y1 p0 p1 p2 p3 p4 p5 p6 z0 g0 z1 g1 z2 g2 z3 g3 z4 g4 z5 g5 z6 g6
   have HWQ := Lib.hid hwq
   clear hwq hv2 HB2 T02 T12 HB3 T03 T13
   go_wp2_with fail
   rw [← HWQ.out]
   clear HWQ hv3
  all_goals
   clear HEV HVN
   first
   |have hK1 : K = 1 := by simpa using E0.out
    refine bodyPost_ret (results_row_tmp rfl _ _ (H + 1) 27 _ (0, 0) _ rfl (setRow7_at T1.out) Tryz.underlying27 rfl (by kernel_rfl)) rfl ?_
    exact step_yes (kv := .slice aa ka.kids.length ca) (by simpa using HST.out) HONa.out (fun _ h => h.1) (setRow7_below HB.out (by have := EH.out; omega))
   |have hK1 : 1 < K := by
     have h : K ≠ 1 := by simpa using E0.out
     omega
    have HCL := Lib.hid (HCL1.out hK1)
    clear HCL1
    go_wp2_with fail
    refine (HA3.out _).mono ?_
    rintro ev w4 ⟨rfl, hb⟩
    have HBw4 := Lib.hid (HB.out.trans (hb.mono HB.out.size))
    have T0w4 := Lib.hid ((hb.block _ (lt_of_heap T0.out)).trans T0.out)
    have T1w4 := Lib.hid ((hb.block _ (lt_of_heap T1.out)).trans T1.out)
    clear hb y0 y1 p0 p1 p2 p3 p4 p5 p6
    cases q3
    ·clear HCL
     have y1 := cell_of_heap (o := 1) T0w4.out rfl
     go_wp2_with fail
     refine (HIX.out _ HBw4.out).mono ?_
     rintro ev w5 ⟨rfl, hb⟩
     have HBw5 := Lib.hid (HBw4.out.trans (hb.mono HBw4.out.size))
     have T0w5 := Lib.hid ((hb.block _ (lt_of_heap T0w4.out)).trans T0w4.out)
     have T1w5 := Lib.hid ((hb.block _ (lt_of_heap T1w4.out)).trans T1w4.out)
     clear hb y1 HIX
     rcases HR.out with ⟨hr, rfl⟩ | ⟨hr, rfl⟩ | ⟨hr, rfl⟩
     ·have HCL := Lib.hid (HCL2.out hr)
      obtain ⟨j, hj⟩ : ∃ j, j = fi + 1 := ⟨_, rfl⟩
      have hj1 : (fi : Int) + 1 = (j : Int) := by omega
      have hj2 : IntKind.i64.wrap ((fi : Int) + 1) = (j : Int) := by rw [hj1]; exact IntWalk.i64_in _ (by omega)
      have hl1 : (fi : Int) < (K : Int) - 1 := by omega
      have hjc : j ≤ cc := by omega
      have HST2 := Lib.hid (show stepP (.mk 22 c d (ka :: l)) = some (.mk 22 c d ((ka :: l).take j)) by rw [HST.out, hj]; simp [hr])
      simp only [← hj] at HCL
      have HJ := Lib.hid hj
      clear hj hr
      have y1 := cell_of_heap (o := 1) T0w5.out rfl
      go_wp2_with fail
      refine (HCL.out _ HBw5.out).mono ?_
      rintro ev w9 ⟨v', rfl, hon7, hb⟩
      obtain ⟨a7, c7, rfl⟩ := hon7.slice
      have HON7 := Lib.hid hon7
      have HN7 := Lib.hid (lt_of_heap T1w5.out)
      have HBw9 := Lib.hid (HBw5.out.trans (hb.mono HBw5.out.size))
      have T0w9 := Lib.hid ((hb.block _ (lt_of_heap T0w5.out)).trans T0w5.out)
      have T1w9 := Lib.hid ((hb.block _ (lt_of_heap T1w5.out)).trans T1w5.out)
      clear hb hon7 y1
      obtain ⟨y0, y1, y2, y3, y4, y5, y6⟩ := cs7 T0w9.out
      have f1 := frozen_of_heap (o := 1) T0w9.out
      obtain ⟨z0, g0, z1, g1, z2, g2, z3, g3, z4, g4, z5, g5, z6, g6⟩ := cf7 T1w9.out
      go_wp2
      refine bodyPost_ret (results_row_tmp rfl _ _ (H + 1) 27 _ (0, 0) _ rfl (setRow7_at ((heap_set_ne (show H + 1 ≠ H by omega)).trans T1w9.out)) Tryz.underlying27 rfl (by kernel_rfl)) rfl ?_
      exact step_new HST2.out HON7.out EH.out HN7.out HBw9.out
     ·have hl1 : ¬ (fi : Int) < (K : Int) - 1 := by omega
      have HST2 := Lib.hid (show stepP (.mk 22 c d (ka :: l)) = none by rw [HST.out, if_neg (by decide), if_neg (by decide), if_neg (by omega)])
      clear hr
      obtain ⟨y0, y1, y2, y3, y4, y5, y6⟩ := cs7 T0w5.out
      obtain ⟨z0, g0, z1, g1, z2, g2, z3, g3, z4, g4, z5, g5, z6, g6⟩ := cf7 T1w5.out
      go_wp2
      refine bodyPost_ret (results_row_tmp rfl _ _ (H + 1) 27 _ (0, 0) _ rfl (setRow7_at T1w5.out) Tryz.underlying27 rfl (by kernel_rfl)) rfl ?_
      exact step_no (kv := .slice (some ⟨b, off, none⟩) K cc) HST2.out HON.out (fun _ h => h.1) (setRow7_below HBw5.out (by have := EH.out; omega))
     ·have HST2 := Lib.hid (show stepP (.mk 22 c d (ka :: l)) = none by rw [HST.out, if_neg (by decide), if_neg (by decide), if_neg (by omega)])
      clear hr
      obtain ⟨y0, y1, y2, y3, y4, y5, y6⟩ := cs7 T0w5.out
      obtain ⟨z0, g0, z1, g1, z2, g2, z3, g3, z4, g4, z5, g5, z6, g6⟩ := cf7 T1w5.out
      go_wp2
      refine bodyPost_ret (results_row_tmp rfl _ _ (H + 1) 27 _ (0, 0) _ rfl (setRow7_at T1w5.out) Tryz.underlying27 rfl (by kernel_rfl)) rfl ?_
      exact step_no (kv := .slice (some ⟨b, off, none⟩) K cc) HST2.out HON.out (fun _ h => h.1) (setRow7_below HBw5.out (by have := EH.out; omega))
    ·have y1 := cell_of_heap (o := 1) T0w4.out rfl
     have hcc : ¬ cc - 1 = 0 := by omega
     have hk0 : 1 ≤ K := by omega
     go_wp2_with fail
     refine (HCL.out _ HBw4.out).mono ?_
     rintro ev w9 ⟨v', rfl, hon7, hb⟩
     obtain ⟨a7, c7, rfl⟩ := hon7.slice
     have HON7 := Lib.hid hon7
     have HN7 := Lib.hid (lt_of_heap T1w4.out)
     have HBw9 := Lib.hid (HBw4.out.trans (hb.mono HBw4.out.size))
     have T0w9 := Lib.hid ((hb.block _ (lt_of_heap T0w4.out)).trans T0w4.out)
     have T1w9 := Lib.hid ((hb.block _ (lt_of_heap T1w4.out)).trans T1w4.out)
     clear hb hon7 y1
     obtain ⟨y0, y1, y2, y3, y4, y5, y6⟩ := cs7 T0w9.out
     have f1 := frozen_of_heap (o := 1) T0w9.out
     obtain ⟨z0, g0, z1, g1, z2, g2, z3, g3, z4, g4, z5, g5, z6, g6⟩ := cf7 T1w9.out
     go_wp2
     refine bodyPost_ret (results_row_tmp rfl _ _ (H + 1) 27 _ (0, 0) _ rfl (setRow7_at ((heap_set_ne (show H + 1 ≠ H by omega)).trans T1w9.out)) Tryz.underlying27 rfl (by kernel_rfl)) rfl ?_
     exact step_new (by simpa using HST.out) HON7.out EH.out HN7.out HBw9.out
   
theorem step_other (S : Nat → Prop) (o c : Int) (d : Dat) (ks : List ET) (a : Option Addr) (cc deep : Nat) (w : World) (hat : (ET.mk o c d ks).OnC S w (.slice a ks.length cc)) (hfit : (ET.mk o c d ks).fits) (hd1 : 1 ≤ deep) (hg : (ET.mk o c d ks).good okD deep = true) (hsz : (ET.mk o c d ks).size ≤ 4000) (hne : ks ≠ [])
  (hT : Lib.Utf8Tabs 0 1 w) (hE : ErrTy w) (h3 : 3 ≤ w.heap.size) (ho : ¬ (o = 18 ∨ o = 19) ∧ o ≠ 21 ∧ o ≠ 22) (hno : ¬ (ks.all ET.isLit = true ∧ ((ET.mk o c d ks).val []).2 = 0)) :
  Calls Tryz.prog 30 #[(ET.mk o c d ks).agg (.slice a ks.length cc)] w (StepPost (.mk o c d ks) S w) := by
 have hn : ks.length ≤ 12000 := by have := ET.sizes_len ks; simp only [ET.size] at hsz; omega
 have hcn := fun (W : World) (hb : Below w.heap.size w W) => contains_46 47 (.inl rfl) _ step1_47 o c d ks _ W (hat.at.below hb) hn
 have hev := fun (W : World) (hb : Below w.heap.size w W) => eval12_all [] (.mk o c d ks) a cc none 0 W hfit (by simp) (hat.at.below hb) ⟨none, 0, rfl, fun _ => rfl, fun h => absurd rfl h⟩ (tabs_below hT hb h3) (cell_keep hb hE) (Nat.le_trans h3 hb.size)
 have hvv := fun hl => evalR_lits hd1 hg hsz hne hl
 obtain ⟨v, hv⟩ : ∃ v, v = evalR [] (.mk o c d ks) := ⟨_, rfl⟩
 simp only [← hv] at hev hvv
 clear hv
 obtain ⟨K, eK⟩ : ∃ K, K = ks.length := ⟨_, rfl⟩
 have hon := hat.lt
 obtain ⟨a', cc', e1, -, hks⟩ := ET.OnC.iff.1 hat
 cases e1
 obtain ⟨hKc, b, off, rfl, hSb, hats⟩ := hks hne
 simp only [ET.kids] at hKc hats
 rw [← eK] at hKc hn
 have hK0 : 0 < K := by rw [eK]; exact List.length_pos_iff.2 hne
 obtain ⟨p, hp⟩ : ∃ p, p = ks.all ET.isLit := ⟨_, rfl⟩
 have hany : ks.any (fun k => !k.isLit) = !p := by rw [hp, List.not_all_eq_any_not]
 simp only [hany] at hcn
 have hvn : p = true → v.2 ≠ 0 := fun h => (hvv (by rw [← hp]; exact h)).2 (fun h0 => hno ⟨by rw [← hp]; exact h, h0⟩)
 have HVN := Lib.hid hvn
 clear hany hvn hp
 have hst : stepP (.mk o c d ks) = none := by
  rw [stepP_mk, if_neg (by simpa using hne), if_neg hno, if_neg ho.1, if_neg ho.2.1, if_neg ho.2.2]
 have HST := Lib.hid hst
 have o1 : (o == 18) = false := by simp; omega
 have o2 : (o == 19) = false := by simp; omega
 have o3 : (o == 21) = false := by simp; omega
 have o4 : (o == 22) = false := by simp; omega
 clear hst hno ho
 unfold ET.agg at hev ⊢
 simp only [ET.op, ET.col, ET.lit, ET.kids] at hev ⊢
 simp only [← eK] at hcn hev hon ⊢
 have EK := Lib.hid eK
 have HCN := Lib.hid hcn
 have HEV := Lib.hid hev
 have HVV := Lib.hid hvv
 have HON := Lib.hid hon
 have HATS := Lib.hid hats
 have HG := Lib.hid hg
 have HNE := Lib.hid hne
 clear hat hcn hev hvv hon hats hne eK hT hE hfit hks hSb hd1 hsz
 obtain ⟨H, eH⟩ : ∃ H, H = w.heap.size := ⟨_, rfl⟩
 have EH := Lib.hid eH
 obtain ⟨w1, hw1⟩ : ∃ w1, w1 = (w.alloc (.cells #[.int .u8 o, .slice (some ⟨b, off, none⟩) K cc, .int .i64 c, .int .u8 d.kind, .bool d.bool, .int .i64 d.int, .string d.text] 27)).alloc (.cells #[.int .u8 0, .slice none 0 0, .int .i64 0, .int .u8 0, .bool false, .int .i64 0, .string ⟨#[]⟩] 27) := ⟨_, rfl⟩
 have hb1 : Below w.heap.size w w1 := by rw [hw1]; exact two_below _ _ _
 have ht := two_at (w := w) (w1 := w1) (a := .cells #[.int .u8 o, .slice (some ⟨b, off, none⟩) K cc, .int .i64 c, .int .u8 d.kind, .bool d.bool, .int .i64 d.int, .string d.text] 27) (b := .cells #[.int .u8 0, .slice none 0 0, .int .i64 0, .int .u8 0, .bool false, .int .i64 0, .string ⟨#[]⟩] 27) (by rw [hw1]; exact Below.refl _ _)
 rw [← eH] at ht
 have HB1 := Lib.hid hb1
 have T01 := Lib.hid ht.1
 have T11 := Lib.hid ht.2
 have HW1 := Lib.hid hw1
 clear hb1 ht hw1 eH
 go_enter Tryz.func30, Tryz.ntmps30
 go_wp2_with fail
 rw [← HW1.out, ← EH.out]
 refine (HCN.out w1 HB1.out).mono ?_
 rintro ev w2 ⟨rfl, hb2⟩
 have HB2 := Lib.hid (HB1.out.trans (hb2.mono HB1.out.size))
 have T02 := Lib.hid ((hb2.block _ (lt_of_heap T01.out)).trans T01.out)
 have T12 := Lib.hid ((hb2.block _ (lt_of_heap T11.out)).trans T11.out)
 clear hb2 HB1 T01 T11 HW1 HCN
 cases p
 case' false =>
  obtain ⟨wq, rfl⟩ : ∃ wq, wq = w2 := ⟨_, rfl⟩
  have T0 := T02
  have T1 := T12
  have HB := HB2
  clear T02 T12 HB2
  obtain ⟨y0, y1, y2, y3, y4, y5, y6⟩ := cs7 T0.out
  obtain ⟨z0, g0, z1, g1, z2, g2, z3, g3, z4, g4, z5, g5, z6, g6⟩ := cf7 T1.out
  go_wp2_with fail
 case' true =>
  obtain ⟨y0, y1, y2, y3, y4, y5, y6⟩ := cs7 T02.out
  go_wp2_with fail
  refine (HEV.out w2 HB2.out).mono ?_
  rintro ev w3 ⟨rfl, hb3⟩
  have HB3 := Lib.hid (HB2.out.trans (hb3.mono HB2.out.size))
  have T03 := Lib.hid ((hb3.block _ (lt_of_heap T02.out)).trans T02.out)
  have T13 := Lib.hid ((hb3.block _ (lt_of_heap T12.out)).trans T12.out)
  clear hb3 y0 y1 y2 y3 y4 y5 y6
  unfold resT Dat.agg
  have hv2 : (v.2 : Int) ≠ 0 := by have := HVN.out (by first | rfl | trivial); omega
  have hv3 : ((v.2 : Int) == 0) = false := by simpa using hv2
  obtain ⟨wq, hwq⟩ : ∃ wq, wq = w3.alloc (.cells #[.int .u8 v.1.kind, .bool v.1.bool, .int .i64 v.1.int, .string v.1.text] 25) := ⟨_, rfl⟩
  have T0 := Lib.hid (show wq.heap[H]? = some _ by rw [hwq]; exact (Below.heap_alloc _ _ _ (lt_of_heap T03.out)).trans T03.out)
  have T1 := Lib.hid (show wq.heap[H + 1]? = some _ by rw [hwq]; exact (Below.heap_alloc _ _ _ (lt_of_heap T13.out)).trans T13.out)
  have HB : Hid (Below w.heap.size w wq) := Lib.hid (by rw [hwq]; exact HB3.out.alloc HB3.out.size _)
  obtain ⟨y0, y1, y2, y3, y4, y5, y6⟩ := cs7 T0.out
  obtain ⟨z0, g0, z1, g1, z2, g2, z3, g3, z4, g4, z5, g5, z6, g6⟩ := cf7 T1.out
  rw [hwq] at y0 y1 y2 y3 y4 y5 y6 z0 g0 z1 g1 z2 g2 z3 g3 z4 g4 z5 g5 z6 g6
  have HWQ := Lib.hid hwq
  clear hwq hv2 HB2 T02 T12 HB3 T03 T13
  go_wp2_with fail
  rw [← HWQ.out]
  clear HWQ hv3
 all_goals
  clear HEV HVN
  refine bodyPost_ret (results_row_tmp rfl _ _ (H + 1) 27 _ (0, 0) _ rfl (setRow7_at T1.out) Tryz.underlying27 rfl (by kernel_rfl)) rfl ?_
  exact step_no (kv := .slice (some ⟨b, off, none⟩) K cc) HST.out HON.out (fun _ h => h.1) (setRow7_below HB.out (by have := EH.out; omega))
theorem step_30 (S : Nat → Prop) (o c : Int) (d : Dat) (ks : List ET) (a : Option Addr) (cc deep : Nat) (w : World) (hat : (ET.mk o c d ks).OnC S w (.slice a ks.length cc)) (hfit : (ET.mk o c d ks).fits) (hd1 : 1 ≤ deep) (hg : (ET.mk o c d ks).good okD deep = true) (hsz : (ET.mk o c d ks).size ≤ 4000) (hne : ks ≠ [])
  (hT : Lib.Utf8Tabs 0 1 w) (hE : ErrTy w) (h3 : 3 ≤ w.heap.size) :
  Calls Tryz.prog 30 #[(ET.mk o c d ks).agg (.slice a ks.length cc)] w (StepPost (.mk o c d ks) S w) := by
 by_cases hno : ks.all ET.isLit = true ∧ ((ET.mk o c d ks).val []).2 = 0
 ·exact step_lits S o c d ks a cc deep w hat hfit hd1 hg hsz hne hT hE h3 hno.1 hno.2
 ·by_cases h1 : o = 18 ∨ o = 19
  ·exact step_logic S o c d ks a cc deep w hat hfit hd1 hg hsz hne hT hE h3 h1 hno
  ·by_cases h2 : o = 21
   ·exact step_case S o c d ks a cc deep w hat hfit hd1 hg hsz hne hT hE h3 h2 hno
   ·by_cases h3' : o = 22
    ·exact step_coal S o c d ks a cc deep w hat hfit hd1 hg hsz hne hT hE h3 h3' hno
    ·exact step_other S o c d ks a cc deep w hat hfit hd1 hg hsz hne hT hE h3 ⟨h1, h2, h3'⟩ hno
end Go.Proofs.YtmmhedlagnjbiaaGreatDoor
