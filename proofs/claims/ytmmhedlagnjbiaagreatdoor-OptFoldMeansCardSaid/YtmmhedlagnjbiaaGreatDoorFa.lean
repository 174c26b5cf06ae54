import Derived.Test.YtmmhedlagnjbiaaGreatDoorEf
import Derived.Test.YtmmhedlagnjbiaaGreatDoorEa
/- our texts, shortened by program (pack.py) -/
set_option maxRecDepth 100000
set_option maxHeartbeats 8000000
namespace Go.Proofs.YtmmhedlagnjbiaaGreatDoor
open Go.RowKit Go.Pen Go.Shelf
attribute [local go_sem] Oper.semAt_some
def oneD (o : Int) (a : Dat) : Res := if o = 3 then negD a else if o = 10 then lenD a else notD a
def cmpL : List UInt8 → List UInt8 → Int
 | [], [] => 0
 | [], _ :: _ => -1
 | _ :: _, [] => 1
 | a :: l, b :: m => if a < b then -1 else if b < a then 1 else cmpL l m
def cmpD (a b : Dat) : Int :=
 if a.kind = 2 then (if a.bool = b.bool then 0 else if b.bool = true then -1 else 1)
 else if a.kind = 3 then (if a.int < b.int then -1 else if b.int < a.int then 1 else 0)
 else if a.kind = 4 then cmpL a.text.data.toList b.text.data.toList else 0
def relD (o c : Int) : Bool := if o = 11 then c == 0 else if o = 12 then !(c == 0) else if o = 13 then decide (c < 0) else if o = 14 then decide (c ≤ 0) else if o = 15 then decide (0 < c) else decide (0 ≤ c)
def compD (o : Int) (a b : Dat) : Res := if okD a = false ∨ okD b = false then bad 13 else if a.kind = 1 ∨ b.kind = 1 then (nul, 0) else if a.kind ≠ b.kind then bad 13 else (boo (relD o (cmpD a b)), 0)
def twoD (o : Int) (a b : Dat) : Res := if o = 4 then addD a b else if o = 5 then subD a b else if o = 6 then mulD a b else if o = 7 then divD a b else if o = 8 then modD a b else if o = 9 then catD a b else compD o a b
def restV (o : Int) : List Res → Res
 | [] => bad 0
 | a :: t => if a.2 ≠ 0 then bad a.2 else if o = 20 then (boo (decide (a.1.kind = 1)), 0) else match t with
  | [] => told (oneD o a.1)
  | b :: _ => if b.2 ≠ 0 then bad b.2 else told (twoD o a.1 b.1)
mutual
def ET.val (r : List Dat) : ET → Res
 | .mk o c d ks => if o = 1 then (r.getD c.toNat Dat.zero, 0) else if o = 2 then (d, 0) else if o = 23 then bad d.int.toNat
  else if o = 18 ∨ o = 19 then logic (decide (o = 19)) false (ET.vals r ks) else if o = 21 then choice (ET.vals r ks) else if o = 22 then coal (ET.vals r ks) else restV o (ET.vals r ks)
def ET.vals (r : List Dat) : List ET → List Res
 | [] => []
 | k :: ks => k.val r :: ET.vals r ks
end
theorem ET.vals_map (r : List Dat) : ∀ ks : List ET, ET.vals r ks = ks.map (ET.val r)
 | [] => rfl
 | k :: ks => by simp [ET.vals, ET.vals_map r ks]
def EvalPost (v : Res) (w : World) (ev : Ending) (w' : World) : Prop := ev = .returned (evT v) ∧ Below w.heap.size w w'
theorem eval_post {v v' : Res} {w w' : World} (h : v' = v) (hb : Below w.heap.size w w') : EvalPost v w (.returned (evT v')) w' := ⟨by rw [h], hb⟩
def EvalOK (r : List Dat) (rv : Value) (w : World) (k : ET) : Prop := ∀ (kv : Value) (W : World), Below w.heap.size w W → k.At W kv → Calls Tryz.prog 88 #[k.agg kv, rv] W (EvalPost (k.val r) W)
theorem errV_zero : errV 0 = .nilIface := rfl
theorem errV_ne {n : Nat} (h : n ≠ 0) : errV n = .iface 159 (.agg #[.int .u16 n]) := by simp [errV, h]
theorem eval_col (r : List Dat) (ra : Option Addr) (rc : Nat) (c : Int) (d : Dat) (ks : List ET) (a : Option Addr) (cc : Nat) (w : World) (hr : DatsOn (fun _ => True) w r (.slice ra r.length rc)) (h0 : 0 ≤ c) (h1 : c < r.length) :
  Calls Tryz.prog 88 #[(ET.mk 1 c d ks).agg (.slice a ks.length cc), .slice ra r.length rc] w (EvalPost ((ET.mk 1 c d ks).val r) w) := by
 obtain ⟨ra', rc', hv, -, hci⟩ := hr
 cases hv
 obtain ⟨b, off, rfl, -, hcs⟩ := hci (List.ne_nil_of_length_pos (by omega))
 obtain ⟨x, hx⟩ : ∃ x, r[c.toNat]? = some x := ⟨r[c.toNat]'(by omega), List.getElem?_eq_getElem _⟩
 obtain ⟨k0, k1, k2, k3⟩ := hcs _ _ hx
 have hval : (ET.mk 1 c d ks).val r = (x, 0) := by
  simp only [ET.val, if_pos, List.getD_eq_getElem?_getD, hx]
  rfl
 rw [hval]
 have xl : b < w.heap.size := World.block_lt_of_cell? w _ k0
 have xc : (c.toNat : Int) = c := by omega
 have q0 := fun (A B : Obj) => cell_keep (two_below w A B) k0
 have q1 := fun (A B : Obj) => cell_keep (two_below w A B) k1
 have q2 := fun (A B : Obj) => cell_keep (two_below w A B) k2
 have q3 := fun (A B : Obj) => cell_keep (two_below w A B) k3
 clear hci hcs hx hval
 unfold ET.agg
 simp only [ET.op, ET.col, ET.lit]
 go_enter Tryz.func88, Tryz.ntmps88
 go_wp2_with fail
 refine bodyPost_ret (results_row_tmp rfl _ _ (w.heap.size + 1) 25 _ (0, 0) _ rfl (two_at (Below.refl _ _)).2 Tryz.underlying25 rfl (by kernel_rfl)) rfl ?_
 exact ⟨rfl, two_below _ _ _⟩
theorem eval_lit (r : List Dat) (rv : Value) (c : Int) (d : Dat) (ks : List ET) (a : Option Addr) (cc : Nat) (w : World) :
  Calls Tryz.prog 88 #[(ET.mk 2 c d ks).agg (.slice a ks.length cc), rv] w (EvalPost ((ET.mk 2 c d ks).val r) w) := by
 have hval : (ET.mk 2 c d ks).val r = (d, 0) := by simp [ET.val]
 rw [hval]
 clear hval
 unfold ET.agg
 simp only [ET.op, ET.col, ET.lit]
 go_enter Tryz.func88, Tryz.ntmps88
 go_wp2_with fail
 refine bodyPost_ret (results_row_tmp rfl _ _ (w.heap.size + 1) 25 _ (0, 0) _ rfl (two_at (Below.refl _ _)).2 Tryz.underlying25 rfl (by kernel_rfl)) rfl ?_
 exact ⟨rfl, two_below _ _ _⟩
theorem eval_fail (r : List Dat) (rv : Value) (c : Int) (d : Dat) (ks : List ET) (a : Option Addr) (cc : Nat) (w : World) (h1 : 1 ≤ d.int) (h2 : d.int ≤ 65535) :
  Calls Tryz.prog 88 #[(ET.mk 23 c d ks).agg (.slice a ks.length cc), rv] w (EvalPost ((ET.mk 23 c d ks).val r) w) := by
 have hval : (ET.mk 23 c d ks).val r = bad d.int.toNat := by simp [ET.val]
 rw [hval]
 have hev : evT (bad d.int.toNat) = .tuple #[Dat.zero.agg, .iface 159 (.agg #[.int .u16 d.int])] := by
  simp only [evT, bad]
  rw [errV_ne (by omega), show ((d.int.toNat : Nat) : Int) = d.int by omega]
 have HEV := Lib.hid hev
 clear hval hev
 unfold ET.agg
 simp only [ET.op, ET.col, ET.lit]
 go_enter Tryz.func88, Tryz.ntmps88
 go_wp2_with fail
 go_region
 go_wp2
 refine bodyPost_ret (results_row_tmp rfl _ _ (w.heap.size + 1) 25 _ (0, 0) _ rfl (two_at (Below.refl _ _)).2 Tryz.underlying25 rfl (by kernel_rfl)) rfl ?_
 refine ⟨?_, below_drewN (n := 1) (two_below _ _ _)⟩
 rw [HEV.out]
 rfl
end Go.Proofs.YtmmhedlagnjbiaaGreatDoor
namespace Go.Proofs.YtmmhedlagnjbiaaGreatDoor
open Go.RowKit Go.Pen Go.Shelf
attribute [local go_sem] Oper.semAt_some
def PlainOp (o : Int) : Prop := o ≠ 1 ∧ o ≠ 2 ∧ o ≠ 23 ∧ o ≠ 18 ∧ o ≠ 19 ∧ o ≠ 21 ∧ o ≠ 22
theorem plain_val {o c : Int} {d : Dat} {ks : List ET} {r : List Dat} (h : PlainOp o) : (ET.mk o c d ks).val r = restV o (ET.vals r ks) := by
 obtain ⟨h1, h2, h3, h4, h5, h6, h7⟩ := h
 simp only [ET.val, if_neg h1, if_neg h2, if_neg h3, if_neg h6, if_neg h7]
 rw [if_neg (by rintro (h | h); exact h4 h; exact h5 h)]
theorem kid_at {w : World} {ks : List ET} {a : Option Addr} (hks : ks ≠ [] → ∃ b o, a = some ⟨b, o, none⟩ ∧ True ∧ ET.Ons (fun _ => True) w ks b o) {b : Nat} {o : Nat} (ha : a = some ⟨b, o, none⟩) {i : Nat} {k : ET} (hk : ks[i]? = some k) : ∃ a' c', KidCells w b (o + i * 7) k (.slice a' k.kids.length c') ∧ k.At w (.slice a' k.kids.length c') := by
 obtain ⟨b', o', ha', -, hats⟩ := hks (fun e => by rw [e] at hk; simp at hk)
 rw [ha] at ha'
 cases ha'
 obtain ⟨kv, h1, h2⟩ := hats.get hk
 obtain ⟨a', c', rfl⟩ := h2.slice
 exact ⟨a', c', h1, h2⟩
theorem both_num {k : Int} {a b : Dat} {r : Res} (h : r.2 ≤ 65535) : (both k a b r).2 ≤ 65535 := by
 unfold both
 split
 ·exact (by decide : (13 : Nat) ≤ 65535)
 ·split
  ·exact Nat.zero_le _
  ·exact h
theorem ov_num (n : Int) : (ov n).2 ≤ 65535 := by
 unfold ov
 split
 ·exact Nat.zero_le _
 ·exact (by decide : (10 : Nat) ≤ 65535)
theorem div_num (a b : Dat) : (divD a b).2 ≤ 65535 := both_num (by
 split
 ·exact (by decide : (11 : Nat) ≤ 65535)
 ·exact ov_num _)
theorem eval_two_gen (o : Int) (G : Nat) (D : Dat → Dat → Res) (hp : PlainOp o) (h20 : o ≠ 20) (hG : G = 144 ∨ G = 145 ∨ G = 146 ∨ G = 147 ∨ G = 148 ∨ G = 149)
  (htw : ∀ w, Calls Tryz.prog 111 #[.int .u8 o] w fun ev w' => ev = .returned (.func (.func G) #[] #[]) ∧ Below w.heap.size w w')
  (hcl : ∀ (A B : Dat) (W : World), A.fits → B.fits → Lib.Utf8Tabs 0 1 W → 3 ≤ W.heap.size → Calls Tryz.prog G #[A.agg, B.agg] W (ResPost (D A B) W))
  (hR0 : ∀ A B, twoD o A B = D A B) (hN0 : ∀ A B, (D A B).2 ≤ 65535) (r : List Dat) (rv : Value) (c : Int) (d : Dat) (k1 k2 : ET) (a : Option Addr) (cc : Nat) (w : World) (h11 : 3 ≤ w.heap.size)
  (hks : [k1, k2] ≠ [] → ∃ b o, a = some ⟨b, o, none⟩ ∧ True ∧ ET.Ons (fun _ => True) w [k1, k2] b o) (ih1 : EvalOK r rv w k1) (ih2 : EvalOK r rv w k2)
  (hT : Lib.Utf8Tabs 0 1 w) (hf1 : (k1.val r).1.fits) (hf2 : (k2.val r).1.fits) :
  Calls Tryz.prog 88 #[(ET.mk o c d [k1, k2]).agg (.slice a 2 cc), rv] w (EvalPost ((ET.mk o c d [k1, k2]).val r) w) := by
 rw [plain_val hp]
 simp only [ET.vals]
 obtain ⟨b, off, rfl, -, -⟩ := hks (by simp)
 obtain ⟨a1, c1, hk1, hat1⟩ := kid_at hks rfl (i := 0) rfl
 obtain ⟨a2, c2, hk2, hat2⟩ := kid_at hks rfl (i := 1) rfl
 rw [show off + 0 * 7 = off by omega] at hk1
 rw [show off + 1 * 7 = off + 7 by omega] at hk2
 have hc1 := fun (W : World) (hb : Below w.heap.size w W) => ih1 _ W hb (hat1.below hb)
 have hc2 := fun (W : World) (hb : Below w.heap.size w W) => ih2 _ W hb (hat2.below hb)
 have HK1 := Lib.hid hk1
 have HK2 := Lib.hid hk2
 generalize k1.val r = v1 at *
 generalize k2.val r = v2 at *
 unfold ET.agg at hc1 hc2
 have HC1 := Lib.hid hc1
 have HC2 := Lib.hid hc2
 have hfn := fun (W : World) (hb : Below w.heap.size w W) => hcl v1.1 v2.1 W hf1 hf2 (tabs_below hT hb h11) (Nat.le_trans h11 hb.size)
 unfold Dat.agg at hfn
 have HTW := Lib.hid htw
 have HFN := Lib.hid hfn
 have HG := Lib.hid hG
 have HR0 := Lib.hid hR0
 have HN0 := Lib.hid hN0
 clear hG hR0 hN0 hcl
 have o1 : (o == 1) = false := by simp; exact hp.1
 have o2 : (o == 2) = false := by simp; exact hp.2.1
 have o3 : (o == 23) = false := by simp; exact hp.2.2.1
 have o4 : (o == 18) = false := by simp; exact hp.2.2.2.1
 have o5 : (o == 19) = false := by simp; exact hp.2.2.2.2.1
 have o6 : (o == 21) = false := by simp; exact hp.2.2.2.2.2.1
 have o7 : (o == 22) = false := by simp; exact hp.2.2.2.2.2.2
 have o8 : (o == 20) = false := by simp; exact h20
 have H20 := Lib.hid h20
 clear hp h20
 clear hks ih1 ih2 hat1 hat2 hc1 hc2 htw hfn hk1 hk2 hT hf1 hf2
 unfold ET.agg
 simp only [ET.op, ET.col, ET.lit]
 obtain ⟨w1, hw1⟩ : ∃ w1, w1 = (w.alloc (.cells #[.int .u8 o, .slice (some ⟨b, off, none⟩) 2 cc, .int .i64 c, .int .u8 d.kind, .bool d.bool, .int .i64 d.int, .string d.text] 27)).alloc (.cells #[.int .u8 0, .bool false, .int .i64 0, .string ⟨#[]⟩] 25) := ⟨_, rfl⟩
 have hb1 : Below w.heap.size w w1 := by rw [hw1]; exact two_below _ _ _
 have ht := two_at (w := w) (w1 := w1) (a := .cells #[.int .u8 o, .slice (some ⟨b, off, none⟩) 2 cc, .int .i64 c, .int .u8 d.kind, .bool d.bool, .int .i64 d.int, .string d.text] 27) (b := .cells #[.int .u8 0, .bool false, .int .i64 0, .string ⟨#[]⟩] 25) (by rw [hw1]; exact Below.refl _ _)
 obtain ⟨m0, m1, m2, m3, m4, m5, m6⟩ := HK1.out.below hb1
 have HB1 := Lib.hid hb1
 have HT := Lib.hid ht
 have HW1 := Lib.hid hw1
 rw [hw1] at m0 m1 m2 m3 m4 m5 m6
 clear hb1 ht hw1
 go_enter Tryz.func88, Tryz.ntmps88
 go_wp2_with fail
 rw [← HW1.out]
 refine (HC1.out w1 HB1.out).mono ?_
 rintro ev w2 ⟨rfl, hb2⟩
 have hB2 : Below w.heap.size w w2 := HB1.out.trans (hb2.mono HB1.out.size)
 have t0 := (hb2.block _ (lt_of_heap HT.out.1)).trans HT.out.1
 have t1 := (hb2.block _ (lt_of_heap HT.out.2)).trans HT.out.2
 have T0 := Lib.hid t0
 have T1 := Lib.hid t1
 have HB2 := Lib.hid hB2
 clear hb2 hB2 m0 m1 m2 m3 m4 m5 m6 HW1 HT HB1 HC1
 unfold evT Dat.agg
 by_cases e1 : v1.2 = 0
 rotate_left
 ·rw [errV_ne e1]
  have hval : restV o [v1, v2] = bad v1.2 := by simp [restV, e1]
  have HVAL := Lib.hid hval
  have hev : evT (bad v1.2) = .tuple #[Dat.zero.agg, .iface 159 (.agg #[.int .u16 v1.2])] := by simp only [evT, bad]; rw [errV_ne e1]
  have HEV := Lib.hid hev
  clear hval hev e1
  have keep : ∀ (A : Obj) {g : Nat} {y : Obj}, w2.heap[g]? = some y → (w2.alloc A).heap[g]? = some y := fun A g y h => (Below.heap_alloc _ _ _ (lt_of_heap h)).trans h
  have z0 := fun A => cell_of_heap (o := 0) (keep A t1) rfl
  have z1 := fun A => cell_of_heap (o := 1) (keep A t1) rfl
  have z2 := fun A => cell_of_heap (o := 2) (keep A t1) rfl
  have z3 := fun A => cell_of_heap (o := 3) (keep A t1) rfl
  have g0 := fun A => frozen_of_heap (o := 0) (keep A t1)
  have g1 := fun A => frozen_of_heap (o := 1) (keep A t1)
  have g2 := fun A => frozen_of_heap (o := 2) (keep A t1)
  have g3 := fun A => frozen_of_heap (o := 3) (keep A t1)
  have KEEP := Lib.hid @keep
  clear t0 t1 keep
  go_wp2
  refine bodyPost_ret (results_row_tmp rfl _ _ (w.heap.size + 1) 25 _ (0, 0) _ rfl (setRow4_at (KEEP.out _ T1.out)) Tryz.underlying25 rfl (by kernel_rfl)) rfl ?_
  exact ⟨by rw [HVAL.out, HEV.out]; rfl, setRow4_below (HB2.out.alloc HB2.out.size _) (by show w.heap.size ≤ w.heap.size + 1; omega)⟩
 ·rw [e1]
  have hl1 : w.heap.size + 1 < w2.heap.size := lt_of_heap T1.out
  have HL1 := Lib.hid hl1
  clear hl1
  have hB3 := HB2.out.alloc HB2.out.size (.cells #[.int .u8 v1.1.kind, .bool v1.1.bool, .int .i64 v1.1.int, .string v1.1.text] 25)
  obtain ⟨w3, hw3⟩ : ∃ w3, w3 = w2.alloc (.cells #[.int .u8 v1.1.kind, .bool v1.1.bool, .int .i64 v1.1.int, .string v1.1.text] 25) := ⟨_, rfl⟩
  have ta : w3.heap[w2.heap.size]? = some (.cells #[.int .u8 v1.1.kind, .bool v1.1.bool, .int .i64 v1.1.int, .string v1.1.text] 25 (0, 0)) := by rw [hw3]; exact heap_alloc_new _ _
  have t0 := (show w3.heap[w.heap.size]? = w2.heap[w.heap.size]? by rw [hw3]; exact Below.heap_alloc _ _ _ (lt_of_heap T0.out)).trans T0.out
  have t1 := (show w3.heap[w.heap.size + 1]? = w2.heap[w.heap.size + 1]? by rw [hw3]; exact Below.heap_alloc _ _ _ (lt_of_heap T1.out)).trans T1.out
  rw [← hw3] at hB3
  obtain ⟨n0, n1, n2, n3, n4, n5, n6⟩ := HK2.out.below hB3
  have y0 := cell_of_heap (o := 0) t0 rfl
  have y1 := cell_of_heap (o := 1) t0 rfl
  have E1 := Lib.hid e1
  have HB3 := Lib.hid hB3
  have HW3 := Lib.hid hw3
  have TA := Lib.hid ta
  have T03 := Lib.hid t0
  have T13 := Lib.hid t1
  rw [hw3] at n0 n1 n2 n3 n4 n5 n6 y0 y1
  clear hB3 hw3 ta t0 t1 T0 T1 e1
  rw [errV_zero]
  go_wp2_with fail
  rw [← HW3.out]
  refine (HC2.out w3 HB3.out).mono ?_
  rintro ev w4 ⟨rfl, hb4⟩
  have hB4 : Below w.heap.size w w4 := HB3.out.trans (hb4.mono HB3.out.size)
  have ua := (hb4.block _ (lt_of_heap TA.out)).trans TA.out
  have u0 := (hb4.block _ (lt_of_heap T03.out)).trans T03.out
  have u1 := (hb4.block _ (lt_of_heap T13.out)).trans T13.out
  have hl2 : w2.heap.size < w4.heap.size := lt_of_heap ua
  have HL2 := Lib.hid hl2
  clear hl2
  have UA := Lib.hid ua
  have U0 := Lib.hid u0
  have U1 := Lib.hid u1
  have HB4 := Lib.hid hB4
  clear hb4 hB4 n0 n1 n2 n3 n4 n5 n6 y0 y1 HW3 TA T03 T13 HB3 HC2
  unfold evT Dat.agg
  have keep : ∀ (A : Obj) {g : Nat} {y : Obj}, w4.heap[g]? = some y → (w4.alloc A).heap[g]? = some y := fun A g y h => (Below.heap_alloc _ _ _ (lt_of_heap h)).trans h
  have KEEP := Lib.hid @keep
  by_cases e2 : v2.2 = 0
  rotate_left
  ·rw [errV_ne e2]
   have hval : restV o [v1, v2] = bad v2.2 := by simp [restV, E1.out, e2, H20.out]
   have hev : evT (bad v2.2) = .tuple #[Dat.zero.agg, .iface 159 (.agg #[.int .u16 v2.2])] := by simp only [evT, bad]; rw [errV_ne e2]
   have HVAL := Lib.hid hval
   have HEV := Lib.hid hev
   clear hval hev e2
   have z0 := fun A => cell_of_heap (o := 0) (keep A u1) rfl
   have g0 := fun A => frozen_of_heap (o := 0) (keep A u1)
   have z1 := fun A => cell_of_heap (o := 1) (keep A u1) rfl
   have g1 := fun A => frozen_of_heap (o := 1) (keep A u1)
   have z2 := fun A => cell_of_heap (o := 2) (keep A u1) rfl
   have g2 := fun A => frozen_of_heap (o := 2) (keep A u1)
   have z3 := fun A => cell_of_heap (o := 3) (keep A u1) rfl
   have g3 := fun A => frozen_of_heap (o := 3) (keep A u1)
   clear ua u0 u1 keep
   go_wp2
   refine bodyPost_ret (results_row_tmp rfl _ _ (w.heap.size + 1) 25 _ (0, 0) _ rfl (setRow4_at (KEEP.out _ U1.out)) Tryz.underlying25 rfl (by kernel_rfl)) rfl ?_
   exact ⟨by rw [HVAL.out, HEV.out]; rfl, setRow4_below (HB4.out.alloc HB4.out.size _) (by show w.heap.size ≤ w.heap.size + 1; omega)⟩
  ·rw [e2, errV_zero]
   have hval : restV o [v1, v2] = told (twoD o v1.1 v2.1) := by simp [restV, E1.out, e2, H20.out]
   have HVAL := Lib.hid hval
   obtain ⟨w5, hw5⟩ : ∃ w5, w5 = w4.alloc (.cells #[.int .u8 v2.1.kind, .bool v2.1.bool, .int .i64 v2.1.int, .string v2.1.text] 25) := ⟨_, rfl⟩
   have hB5 : Below w.heap.size w w5 := by rw [hw5]; exact HB4.out.alloc HB4.out.size _
   have va : w5.heap[w2.heap.size]? = some (.cells #[.int .u8 v1.1.kind, .bool v1.1.bool, .int .i64 v1.1.int, .string v1.1.text] 25 (0, 0)) := by rw [hw5]; exact keep _ ua
   have vb : w5.heap[w4.heap.size]? = some (.cells #[.int .u8 v2.1.kind, .bool v2.1.bool, .int .i64 v2.1.int, .string v2.1.text] 25 (0, 0)) := by rw [hw5]; exact heap_alloc_new _ _
   have v0 := (show w5.heap[w.heap.size]? = w4.heap[w.heap.size]? by rw [hw5]; exact Below.heap_alloc _ _ _ (lt_of_heap u0)).trans u0
   have v1' := (show w5.heap[w.heap.size + 1]? = w4.heap[w.heap.size + 1]? by rw [hw5]; exact Below.heap_alloc _ _ _ (lt_of_heap u1)).trans u1
   have HW5 := Lib.hid hw5
   have HB5 := Lib.hid hB5
   have VA := Lib.hid va
   have VB := Lib.hid vb
   have V0 := Lib.hid v0
   have V1 := Lib.hid v1'
   have y0 := fun A => cell_of_heap (o := 0) (keep A u0) rfl
   have y1 := fun A => cell_of_heap (o := 1) (keep A u0) rfl
   clear ua u0 u1 keep hval e2 hw5 hB5 va vb v0 v1' UA U0 U1
   go_wp2_with fail
   rw [← HW5.out]
   have hR : twoD o v1.1 v2.1 = D v1.1 v2.1 := HR0.out _ _
   have hnum : (D v1.1 v2.1).2 ≤ 65535 := HN0.out _ _
   obtain ⟨R, eR⟩ : ∃ R, R = D v1.1 v2.1 := ⟨_, rfl⟩
   rw [← eR] at HFN hR hnum
   have HR := Lib.hid hR
   have f0 := cell_of_heap (o := 0) V0.out rfl
   have p0 := cell_of_heap (o := 0) VA.out rfl
   have q0 := cell_of_heap (o := 0) VB.out rfl
   have p1 := cell_of_heap (o := 1) VA.out rfl
   have q1 := cell_of_heap (o := 1) VB.out rfl
   have p2 := cell_of_heap (o := 2) VA.out rfl
   have q2 := cell_of_heap (o := 2) VB.out rfl
   have p3 := cell_of_heap (o := 3) VA.out rfl
   have q3 := cell_of_heap (o := 3) VB.out rfl
   have HNUM := Lib.hid hnum
   clear y0 y1 hR eR HW5 hnum
   have hs5 : w5.cell? ⟨w.heap.size, 0, none⟩ = some (.int .u8 o) ∧ w5.cell? ⟨w2.heap.size, 0, none⟩ = some (.int .u8 v1.1.kind) ∧ w5.cell? ⟨w2.heap.size, 1, none⟩ = some (.bool v1.1.bool) ∧ w5.cell? ⟨w2.heap.size, 2, none⟩ = some (.int .i64 v1.1.int) ∧ w5.cell? ⟨w2.heap.size, 3, none⟩ = some (.string v1.1.text) ∧ w5.cell? ⟨w4.heap.size, 0, none⟩ = some (.int .u8 v2.1.kind) ∧ w5.cell? ⟨w4.heap.size, 1, none⟩ = some (.bool v2.1.bool) ∧ w5.cell? ⟨w4.heap.size, 2, none⟩ = some (.int .i64 v2.1.int) ∧ w5.cell? ⟨w4.heap.size, 3, none⟩ = some (.string v2.1.text) := ⟨f0, p0, p1, p2, p3, q0, q1, q2, q3⟩
   have HS5 := Lib.hid hs5
   have SKEEP : ∀ (w' : World), Below w5.heap.size w5 w' → w'.cell? ⟨w.heap.size, 0, none⟩ = some (.int .u8 o) ∧ w'.cell? ⟨w2.heap.size, 0, none⟩ = some (.int .u8 v1.1.kind) ∧ w'.cell? ⟨w2.heap.size, 1, none⟩ = some (.bool v1.1.bool) ∧ w'.cell? ⟨w2.heap.size, 2, none⟩ = some (.int .i64 v1.1.int) ∧ w'.cell? ⟨w2.heap.size, 3, none⟩ = some (.string v1.1.text) ∧ w'.cell? ⟨w4.heap.size, 0, none⟩ = some (.int .u8 v2.1.kind) ∧ w'.cell? ⟨w4.heap.size, 1, none⟩ = some (.bool v2.1.bool) ∧ w'.cell? ⟨w4.heap.size, 2, none⟩ = some (.int .i64 v2.1.int) ∧ w'.cell? ⟨w4.heap.size, 3, none⟩ = some (.string v2.1.text) := fun w' hb => ⟨cell_keep hb HS5.out.1, cell_keep hb HS5.out.2.1, cell_keep hb HS5.out.2.2.1, cell_keep hb HS5.out.2.2.2.1, cell_keep hb HS5.out.2.2.2.2.1, cell_keep hb HS5.out.2.2.2.2.2.1, cell_keep hb HS5.out.2.2.2.2.2.2.1, cell_keep hb HS5.out.2.2.2.2.2.2.2.1, cell_keep hb HS5.out.2.2.2.2.2.2.2.2⟩
   have HKEEP := Lib.hid SKEEP
   have ne1 : w.heap.size + 1 ≠ w2.heap.size := by have := HL1.out; omega
   have ne2 : w.heap.size + 1 ≠ w4.heap.size := by have := HL1.out; have := HL2.out; omega
   have ne3 : w2.heap.size ≠ w.heap.size + 1 := by have := HL1.out; omega
   have ne4 : w4.heap.size ≠ w.heap.size + 1 := by have := HL1.out; have := HL2.out; omega
   clear hs5 SKEEP
   rcases HG.out with rfl | rfl | rfl | rfl | rfl | rfl
   all_goals
    go_region_held3 (fun w' => w'.cell? ⟨w.heap.size, 0, none⟩ = some (.int .u8 o) ∧ w'.cell? ⟨w2.heap.size, 0, none⟩ = some (.int .u8 v1.1.kind) ∧ w'.cell? ⟨w2.heap.size, 1, none⟩ = some (.bool v1.1.bool) ∧ w'.cell? ⟨w2.heap.size, 2, none⟩ = some (.int .i64 v1.1.int) ∧ w'.cell? ⟨w2.heap.size, 3, none⟩ = some (.string v1.1.text) ∧ w'.cell? ⟨w4.heap.size, 0, none⟩ = some (.int .u8 v2.1.kind) ∧ w'.cell? ⟨w4.heap.size, 1, none⟩ = some (.bool v2.1.bool) ∧ w'.cell? ⟨w4.heap.size, 2, none⟩ = some (.int .i64 v2.1.int) ∧ w'.cell? ⟨w4.heap.size, 3, none⟩ = some (.string v2.1.text))
     (first | go_keep | exact HKEEP.out _ hbS.out)
     (first
     | (go_at_call 111; refine (HTW.out _).mono ?_; rintro ev w6 ⟨rfl, hb6⟩; have hbS : Hid (Below w5.heap.size w5 w6) := Lib.hid (by first | exact hb6 | exact below_undrew hb6 | exact below_undrewN hb6); clear hb6)
     | ((first | go_at_call 144 | go_at_call 145 | go_at_call 146 | go_at_call 147 | go_at_call 148 | go_at_call 149); refine (HFN.out _ (by first | exact HB5.out.trans (hbS.out.mono HB5.out.size) | exact Go.Pen.below_drewN (HB5.out.trans (hbS.out.mono HB5.out.size)))).mono ?_; rintro ev w7 ⟨rfl, hb7⟩; have hbS : Hid (Below w5.heap.size w5 w7) := Lib.hid (hbS.out.trans ((show Below w6.heap.size w6 w7 by first | exact hb7 | exact below_undrew hb7 | exact below_undrewN hb7).mono hbS.out.size)); clear hb7; unfold resT Dat.agg)
     | (go_at_call 109; refine (told_86 R.1 R.2 _ HNUM.out).mono ?_; rintro ev w8 ⟨rfl, hb8⟩; have hbS : Hid (Below w5.heap.size w5 w8) := Lib.hid (hbS.out.trans ((show Below w7.heap.size w7 w8 by first | exact hb8 | exact below_undrew hb8 | exact below_undrewN hb8).mono hbS.out.size)); have t8 := (hbS.out.block _ (lt_of_heap V1.out)).trans V1.out; obtain ⟨z0, g0, z1, g1, z2, g2, z3, g3⟩ := cf4 t8; have V18 := Lib.hid t8; clear hb8 t8; unfold evT Dat.agg))
    go_wp2
    refine bodyPost_ret (results_row_tmp rfl _ _ (w.heap.size + 1) 25 _ (0, 0) _ rfl (setRow4_at V18.out) Tryz.underlying25 rfl (by kernel_rfl)) rfl ?_
    refine ⟨?_, setRow4_below (HB5.out.trans (hbS.out.mono HB5.out.size)) (by show w.heap.size ≤ w.heap.size + 1; omega)⟩
    rw [HVAL.out, HR.out]
    rfl
end Go.Proofs.YtmmhedlagnjbiaaGreatDoor
namespace Go.Proofs.YtmmhedlagnjbiaaGreatDoor
open Go.RowKit Go.Pen Go.Shelf
attribute [local go_sem] Oper.semAt_some
def evalR (r : List Dat) (e : ET) : Res := if e.may okD = true ∧ e.within r.length = true then (if (e.val r).2 = 0 then e.val r else bad (e.val r).2) else bad 30
theorem eval_12 (r : List Dat) (e : ET) (a : Option Addr) (cc : Nat) (ra : Option Addr) (rc : Nat) (w : World) (hfit : e.fits) (hat : e.At w (.slice a e.kids.length cc)) (hT : Lib.Utf8Tabs 0 1 w) (hE : ErrTy w) (h11 : 3 ≤ w.heap.size)
  (hev : e.may okD = true → e.within r.length = true → EvalOK r (.slice ra r.length rc) w e) :
  Calls Tryz.prog 49 #[e.agg (.slice a e.kids.length cc), .slice ra r.length rc] w (ResPost (evalR r e) w) := by
 have hov := fun W hb => over_41 e a cc r.length W hfit (hat.below (w' := W) hb) (tabs_below hT hb h11) (Nat.le_trans h11 hb.size)
 unfold ET.agg at hov
 have HOV := Lib.hid hov
 have HAT := Lib.hid hat
 have HE := Lib.hid hE
 clear hov hat hfit hT hE
 obtain ⟨R, eR⟩ : ∃ R, R = evalR r e := ⟨_, rfl⟩
 rw [← eR]
 unfold evalR at eR
 by_cases hok : e.may okD = true ∧ e.within r.length = true
 rotate_left
 ·rw [if_neg hok] at eR
  subst eR
  have hno : (e.may okD && e.within r.length) = false := by
   cases h1 : e.may okD
   ·rfl
   ·cases h2 : e.within r.length
    ·rfl
    ·exact absurd ⟨h1, h2⟩ hok
  rw [hno] at HOV
  clear hok hno hev
  unfold ET.agg
  go_enter Tryz.func49, Tryz.ntmps49
  go_wp2_with (go_at_call 87; refine (HOV.out _ (two_below _ _ _)).mono ?_; rintro ev w1 ⟨rfl, hb1⟩; obtain ⟨t1, t2⟩ := two_at hb1; obtain ⟨y0, y1, y2, y3, y4, y5, y6⟩ := cs7 t1; obtain ⟨z0, g0, z1, g1, z2, g2, z3, g3⟩ := cf4 t2; have T1 := Lib.hid t1; have T2 := Lib.hid t2; have HB1 := Lib.hid ((two_below _ _ _).trans (hb1.mono (by simp <;> omega))); clear hb1 t1 t2)
  refine bodyPost_ret (results_row_tmp rfl _ _ (w.heap.size + 1) 25 _ (0, 0) _ rfl (setRow4_at T2.out) Tryz.underlying25 rfl (by kernel_rfl)) rfl ?_
  exact ⟨rfl, setRow4_below HB1.out (by show w.heap.size ≤ w.heap.size + 1; omega)⟩
 ·rw [if_pos hok] at eR
  have hce := fun (W : World) (hb : Below w.heap.size w W) => hev hok.1 hok.2 _ W hb (HAT.out.below hb)
  unfold ET.agg at hce
  have HCE := Lib.hid hce
  rw [hok.1, hok.2] at HOV
  simp only [Bool.and_true] at HOV
  clear hok hce hev
  generalize e.val r = v at *
  unfold ET.agg
  by_cases hv : v.2 = 0
  ·rw [if_pos hv] at eR
   subst eR
   have HV := Lib.hid hv
   clear hv
   go_enter Tryz.func49, Tryz.ntmps49
   go_wp2_with (first | (go_at_call 87; refine (HOV.out _ (two_below _ _ _)).mono ?_; rintro ev w1 ⟨rfl, hb1⟩; obtain ⟨t1, t2⟩ := two_at hb1; obtain ⟨y0, y1, y2, y3, y4, y5, y6⟩ := cs7 t1; obtain ⟨z0, g0, z1, g1, z2, g2, z3, g3⟩ := cf4 t2; have T1 := Lib.hid t1; have T2 := Lib.hid t2; have HB1 := Lib.hid ((two_below _ _ _).trans (hb1.mono (by simp <;> omega))); clear hb1 t1 t2) | (go_at_call 88; refine (HCE.out _ HB1.out).mono ?_; rintro ev w3 ⟨rfl, hb3⟩; have t3 := (hb3.block _ (lt_of_heap T2.out)).trans T2.out; have keep : ∀ (A : Obj) {g : Nat} {y : Obj}, w3.heap[g]? = some y → (w3.alloc A).heap[g]? = some y := (fun A g y h => (Below.heap_alloc _ _ _ (lt_of_heap h)).trans h); have z0 := fun A => cell_of_heap (o := 0) (keep A t3) rfl; have g0 := fun A => frozen_of_heap (o := 0) (keep A t3); have z1 := fun A => cell_of_heap (o := 1) (keep A t3) rfl; have g1 := fun A => frozen_of_heap (o := 1) (keep A t3); have z2 := fun A => cell_of_heap (o := 2) (keep A t3) rfl; have g2 := fun A => frozen_of_heap (o := 2) (keep A t3); have z3 := fun A => cell_of_heap (o := 3) (keep A t3) rfl; have g3 := fun A => frozen_of_heap (o := 3) (keep A t3); have T3 := Lib.hid t3; have KEEP := Lib.hid @keep; have HB3 := Lib.hid (HB1.out.trans (hb3.mono HB1.out.size)); unfold evT Dat.agg; rw [HV.out, errV_zero]; clear hb3 t3 keep))
   refine bodyPost_ret (results_row_tmp rfl _ _ (w.heap.size + 1) 25 _ (0, 0) _ rfl (setRow4_at (KEEP.out _ T3.out)) Tryz.underlying25 rfl (by kernel_rfl)) rfl ?_
   refine ⟨?_, setRow4_below (HB3.out.alloc HB3.out.size _) (by show w.heap.size ≤ w.heap.size + 1; omega)⟩
   rw [show resT R = .tuple #[R.1.agg, .int .u16 ((R.2 : Nat) : Int)] from rfl, HV.out]
   rfl
  ·rw [if_neg hv] at eR
   subst eR
   have hev := errV_ne hv
   have HEV := Lib.hid hev
   have hnum := fun (W : World) (hb : Below w.heap.size w W) => number_43 v.2 W hv (cell_keep hb HE.out)
   rw [hev] at hnum
   have HNUM := Lib.hid hnum
   clear hv hev hnum
   go_enter Tryz.func49, Tryz.ntmps49
   go_wp2_with (first | (go_at_call 87; refine (HOV.out _ (two_below _ _ _)).mono ?_; rintro ev w1 ⟨rfl, hb1⟩; obtain ⟨t1, t2⟩ := two_at hb1; obtain ⟨y0, y1, y2, y3, y4, y5, y6⟩ := cs7 t1; obtain ⟨z0, g0, z1, g1, z2, g2, z3, g3⟩ := cf4 t2; have T1 := Lib.hid t1; have T2 := Lib.hid t2; have HB1 := Lib.hid ((two_below _ _ _).trans (hb1.mono (by simp <;> omega))); clear hb1 t1 t2) | (go_at_call 88; refine (HCE.out _ HB1.out).mono ?_; rintro ev w3 ⟨rfl, hb3⟩; have t3 := (hb3.block _ (lt_of_heap T2.out)).trans T2.out; have HB3 := Lib.hid (HB1.out.trans (hb3.mono HB1.out.size)); have T3 := Lib.hid t3; unfold evT Dat.agg; rw [HEV.out]; clear hb3 t3) | (go_at_call 89; refine (HNUM.out _ (HB3.out.alloc HB3.out.size _)).mono ?_; rintro ev w5 ⟨rfl, hb5⟩; have t5 := (hb5.block _ (lt_of_heap ((Below.heap_alloc _ _ _ (lt_of_heap T3.out)).trans T3.out))).trans ((Below.heap_alloc _ _ _ (lt_of_heap T3.out)).trans T3.out); obtain ⟨z0, g0, z1, g1, z2, g2, z3, g3⟩ := cf4 t5; have T5 := Lib.hid t5; have HB5 := Lib.hid ((HB3.out.alloc HB3.out.size _).trans (hb5.mono (HB3.out.alloc HB3.out.size _).size)); clear hb5 t5))
   refine bodyPost_ret (results_row_tmp rfl _ _ (w.heap.size + 1) 25 _ (0, 0) _ rfl (setRow4_at T5.out) Tryz.underlying25 rfl (by kernel_rfl)) rfl ?_
   exact ⟨rfl, setRow4_below HB5.out (by show w.heap.size ≤ w.heap.size + 1; omega)⟩
end Go.Proofs.YtmmhedlagnjbiaaGreatDoor
