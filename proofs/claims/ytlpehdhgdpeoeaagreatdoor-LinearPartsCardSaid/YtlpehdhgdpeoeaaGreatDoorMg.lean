import Derived.Test.YtlpehdhgdpeoeaaGreatDoorMf
import Derived.Test.YtlpehdhgdpeoeaaGreatDoorMo
/- What the chapter's example fixes. -/
namespace Go.Proofs.YtlpehdhgdpeoeaaGreatDoor
open Go.RowKit Go.Pen Go.Shelf
attribute [local go_sem] Oper.semAt_some

def colE (n : Int) : ET := .mk 1 n Dat.zero []
def divE : ET := .mk 7 0 Dat.zero [colE 0, colE 1]
def gtE : ET := .mk 15 0 Dat.zero [colE 0, .mk 2 0 (num 3) []]
theorem size_nil' : (⟨#[]⟩ : ByteArray).size = 0 := rfl
theorem may_divE : divE.may okD = true := by
  simp [divE, colE, ET.may, ET.good, ET.goods, ET.own, ET.size, ET.sizes, kidsOk, ET.op, ET.col, ET.lit, ET.kids]
theorem within_divE : divE.within (2 : Int) = true := by
  simp [divE, colE, ET.within, ET.withins]
theorem fits_divE : divE.fits := by
  simp [divE, colE, ET.fits, ET.fitss, Dat.fits, Dat.zero, size_nil']
theorem okD_num (n : Int) : chkD (num n) = 0 :=
  (chkD_z (by decide) (.inr (by decide)) (.inl rfl) (.inr (by rw [text_nil])) (by rw [show (⟨#[]⟩ : ByteArray).data.toList = [] from rfl, Lib.validD_nil]; rfl)).trans (if_neg (by decide))
theorem isK_num (n : Int) : isK 3 (num n) = true := by
  show ((chkD (num n) == 0) && (decide ((3 : Int) = 3) || decide ((3 : Int) = 1))) = true
  rw [okD_num]
  rfl
theorem div_num2 (x y : Int) : divD (num x) (num y) = if y = 0 then bad 11 else ov (Int.tdiv x y) := by
  show both 3 (num x) (num y) (if y = 0 then bad 11 else ov (Int.tdiv x y)) = _
  unfold both
  rw [isK_num, isK_num, if_neg (by decide), if_neg (by rintro (h | h) <;> exact absurd h (by show ¬ (3 : Int) = 1; decide))]
theorem val_divE (x y : Int) : divE.val [num x, num y] = told (if y = 0 then bad 11 else ov (Int.tdiv x y)) := by
  simp [divE, colE, ET.val, ET.vals, restV, twoD, div_num2]
theorem eval_div : evalR [num 5, num 0] divE = bad 11 := by
  unfold evalR
  rw [if_pos ⟨may_divE, within_divE⟩, val_divE]
  rfl
theorem okD_num' (n : Int) : okD (num n) = true := by simp [okD, okD_num]
theorem may_gtE : gtE.may okD = true := by
  simp [gtE, colE, ET.may, ET.good, ET.goods, ET.own, ET.size, ET.sizes, kidsOk, ET.op, ET.col, ET.lit, ET.kids, okD_num']
theorem within_gtE : gtE.within (2 : Int) = true := by
  simp [gtE, colE, ET.within, ET.withins]
theorem fits_gtE : gtE.fits := by
  simp [gtE, colE, ET.fits, ET.fitss, Dat.fits, Dat.zero, size_nil', num]
theorem comp_gt : compD 15 (num 5) (num 3) = (boo true, 0) := by
  unfold compD
  rw [okD_num', okD_num', if_neg (by decide), if_neg (by decide), if_neg (by decide)]
  rfl
theorem val_gtE : gtE.val [num 5, num 0] = (boo true, 0) := by
  simp [gtE, colE, ET.val, ET.vals, restV, twoD, comp_gt, told]
theorem eval_gt : evalR [num 5, num 0] gtE = (boo true, 0) := by
  unfold evalR
  rw [if_pos ⟨may_gtE, within_gtE⟩, val_gtE]
  rfl
theorem fits_num {x : Int} (h : -9223372036854775808 ≤ x ∧ x ≤ 9223372036854775807) : (num x).fits := ⟨by simp [num], h, by simp [num, size_nil']⟩

set_option maxRecDepth 100000 in
set_option maxHeartbeats 1000000 in
theorem number_21 (n : Int) (w : World) : Calls Tryz.prog 21 #[.int .i64 n] w fun ev w' => ev = .returned (.agg #[.int .u8 2, .slice none 0 0, .int .i64 0, .int .u8 3, .bool false, .int .i64 n, .string ⟨#[]⟩]) ∧ Below w.heap.size w w' := by
  go_enter Tryz.func21, Tryz.ntmps21
  go_wp2_with fail
  refine bodyPost_ret (results_cell_row rfl _ _ w.heap.size 57 _ (0, 0) _ rfl (heap_alloc_new w _) Tryz.underlying57 rfl (by kernel_rfl)) rfl ?_
  exact ⟨rfl, one_below _ _⟩

def u0 : Upd := ⟨[num 5, num 0], 3, [], 2⟩
theorem u0_fits : u0.fits := ⟨fun d hd => by simp [u0] at hd; rcases hd with rfl | rfl <;> exact fits_num (by omega), by decide, by simp [u0], by unfold InR; decide, by decide, by decide⟩
theorem at_divE {w : World} {g : Nat} (h : w.heap[g]? = some (.cells #[.int .u8 1, .slice none 0 0, .int .i64 0, .int .u8 0, .bool false, .int .i64 0, .string ⟨#[]⟩, .int .u8 1, .slice none 0 0, .int .i64 1, .int .u8 0, .bool false, .int .i64 0, .string ⟨#[]⟩] 57 (0, 0))) : divE.At w (.slice (some ⟨g, 0, none⟩) 2 2) := by
  refine ET.On.iff.2 ⟨some ⟨g, 0, none⟩, 2, rfl, (fun h => by cases h), fun _ => ⟨g, 0, rfl, trivial, ET.Ons.mk fun i k hk => ?_⟩⟩
  rcases i with _ | _ | i
  · cases hk
    exact ⟨.slice none 0 0, ⟨cell_of_heap h rfl, cell_of_heap h rfl, cell_of_heap h rfl, cell_of_heap h rfl, cell_of_heap h rfl, cell_of_heap h rfl, cell_of_heap h rfl⟩, on_nil _ _ _ _ _⟩
  · cases hk
    exact ⟨.slice none 0 0, ⟨cell_of_heap h rfl, cell_of_heap h rfl, cell_of_heap h rfl, cell_of_heap h rfl, cell_of_heap h rfl, cell_of_heap h rfl, cell_of_heap h rfl⟩, on_nil _ _ _ _ _⟩
  · simp [divE, ET.kids] at hk
theorem one_divE {w : World} {g q : Nat} (h : w.heap[g]? = some (.cells #[.int .u8 1, .slice none 0 0, .int .i64 0, .int .u8 0, .bool false, .int .i64 0, .string ⟨#[]⟩, .int .u8 1, .slice none 0 0, .int .i64 1, .int .u8 0, .bool false, .int .i64 0, .string ⟨#[]⟩] 57 (0, 0))) (hq : w.heap[q]? = some (.cells #[.int .u8 7, .slice (some ⟨g, 0, none⟩) 2 2, .int .i64 0, .int .u8 0, .bool false, .int .i64 0, .string ⟨#[]⟩] 57 (0, 0))) : ExprsAt w (.slice (some ⟨q, 0, none⟩) 1 1) [divE] := by
  refine ExprsAt.iff.2 ⟨some ⟨q, 0, none⟩, 1, rfl, (fun h => by cases h), fun _ => ⟨q, 0, rfl, trivial, ET.Ons.mk fun i k hk => ?_⟩⟩
  rcases i with _ | i
  · cases hk
    exact ⟨.slice (some ⟨g, 0, none⟩) 2 2, ⟨cell_of_heap hq rfl, cell_of_heap hq rfl, cell_of_heap hq rfl, cell_of_heap hq rfl, cell_of_heap hq rfl, cell_of_heap hq rfl, cell_of_heap hq rfl⟩, at_divE h⟩
  · simp at hk
theorem at_gtE {w : World} {g : Nat} (h : w.heap[g]? = some (.cells #[.int .u8 1, .slice none 0 0, .int .i64 0, .int .u8 0, .bool false, .int .i64 0, .string ⟨#[]⟩, .int .u8 2, .slice none 0 0, .int .i64 0, .int .u8 3, .bool false, .int .i64 3, .string ⟨#[]⟩] 57 (0, 0))) : gtE.At w (.slice (some ⟨g, 0, none⟩) 2 2) := by
  refine ET.On.iff.2 ⟨some ⟨g, 0, none⟩, 2, rfl, (fun h => by cases h), fun _ => ⟨g, 0, rfl, trivial, ET.Ons.mk fun i k hk => ?_⟩⟩
  rcases i with _ | _ | i
  · cases hk
    exact ⟨.slice none 0 0, ⟨cell_of_heap h rfl, cell_of_heap h rfl, cell_of_heap h rfl, cell_of_heap h rfl, cell_of_heap h rfl, cell_of_heap h rfl, cell_of_heap h rfl⟩, on_nil _ _ _ _ _⟩
  · cases hk
    exact ⟨.slice none 0 0, ⟨cell_of_heap h rfl, cell_of_heap h rfl, cell_of_heap h rfl, cell_of_heap h rfl, cell_of_heap h rfl, cell_of_heap h rfl, cell_of_heap h rfl⟩, on_nil _ _ _ _ _⟩
  · simp [gtE, ET.kids] at hk
theorem one_gtE {w : World} {g q : Nat} (h : w.heap[g]? = some (.cells #[.int .u8 1, .slice none 0 0, .int .i64 0, .int .u8 0, .bool false, .int .i64 0, .string ⟨#[]⟩, .int .u8 2, .slice none 0 0, .int .i64 0, .int .u8 3, .bool false, .int .i64 3, .string ⟨#[]⟩] 57 (0, 0))) (hq : w.heap[q]? = some (.cells #[.int .u8 15, .slice (some ⟨g, 0, none⟩) 2 2, .int .i64 0, .int .u8 0, .bool false, .int .i64 0, .string ⟨#[]⟩] 57 (0, 0))) : ExprsAt w (.slice (some ⟨q, 0, none⟩) 1 1) [gtE] := by
  refine ExprsAt.iff.2 ⟨some ⟨q, 0, none⟩, 1, rfl, (fun h => by cases h), fun _ => ⟨q, 0, rfl, trivial, ET.Ons.mk fun i k hk => ?_⟩⟩
  rcases i with _ | i
  · cases hk
    exact ⟨.slice (some ⟨g, 0, none⟩) 2 2, ⟨cell_of_heap hq rfl, cell_of_heap hq rfl, cell_of_heap hq rfl, cell_of_heap hq rfl, cell_of_heap hq rfl, cell_of_heap hq rfl, cell_of_heap hq rfl⟩, at_gtE h⟩
  · simp at hk
theorem ups_one {w : World} {v : Value} {x : Upd} (h : UpsAt w v [x]) : ∃ b o c rv lv, v = .slice (some ⟨b, o, none⟩) 1 c ∧ w.cell? ⟨b, o, none⟩ = some rv ∧ w.cell? ⟨b, o + 2, none⟩ = some lv ∧ w.cell? ⟨b, o + 3, none⟩ = some (.int .i64 x.diff) ∧ RowAt w rv x.row ∧ WordsAt w lv x.loops := by
  obtain ⟨a, c, rfl, -, h⟩ := h
  obtain ⟨b, o, rfl, hg⟩ := h (by simp)
  obtain ⟨rv, lv, p0, p1, p2, p3, hr, hl⟩ := hg 0 x rfl
  simp only [Nat.zero_mul, Nat.add_zero] at p0 p1 p2 p3
  exact ⟨b, o, c, rv, lv, rfl, p0, p2, p3, hr, hl⟩
theorem ups_none {w : World} {v : Value} (h : UpsAt w v []) : ∃ a c, v = .slice a 0 c := by
  obtain ⟨a, c, rfl, -⟩ := h
  exact ⟨a, c, rfl⟩
theorem row_get {w : World} {v : Value} {l : List Dat} {i : Nat} {d : Dat} (h : RowAt w v l) (hd : l[i]? = some d) : ∃ b o c, v = .slice (some ⟨b, o, none⟩) l.length c ∧ w.cell? ⟨b, o + i * 4, none⟩ = some (.int .u8 d.kind) ∧ w.cell? ⟨b, o + i * 4 + 2, none⟩ = some (.int .i64 d.int) := by
  obtain ⟨a, c, rfl, -, h⟩ := h
  obtain ⟨b, o, rfl, -, hg⟩ := h (fun e => by rw [e] at hd; simp at hd)
  obtain ⟨q0, q1, q2, q3⟩ := hg i d hd
  exact ⟨b, o, c, rfl, q0, q2⟩
theorem u0_at {w : World} {g h : Nat} (h1 : w.heap[g]? = some (.cells #[.int .u8 3, .bool false, .int .i64 5, .string ⟨#[]⟩, .int .u8 3, .bool false, .int .i64 0, .string ⟨#[]⟩] 55 (0, 0))) (h2 : w.heap[h]? = some (.cells #[.slice (some ⟨g, 0, none⟩) 2 2, .int .u64 3, .slice none 0 0, .int .i64 2] 51 (0, 0))) : UpsAt w (.slice (some ⟨h, 0, none⟩) 1 1) [u0] := by
  refine ⟨some ⟨h, 0, none⟩, 1, rfl, (fun h => by cases h), fun _ => ⟨h, 0, rfl, fun i x hx => ?_⟩⟩
  rcases i with _ | i
  · cases hx
    exact ⟨_, _, cell_of_heap h2 rfl, cell_of_heap h2 rfl, cell_of_heap h2 rfl, cell_of_heap h2 rfl, dats2 (a := num 5) (b := num 0) h1, ⟨none, 0, rfl, fun _ => rfl, fun h => absurd rfl h⟩⟩
  · simp at hx

set_option maxRecDepth 100000 in
set_option maxHeartbeats 4000000 in
theorem known_7 (w : World) (hT : Lib.Utf8Tabs 1 2 w) (hE : ErrTy w) (h3 : 3 ≤ w.heap.size) :
    Calls Tryz.prog 7 #[] w fun ev w' => ev = .returned (.bool true) ∧ Below w.heap.size w w' := by
  have HT := Lib.hid hT
  have HE := Lib.hid hE
  clear hT hE
  have hfu : ∀ u ∈ [u0], u.fits := fun u hu => by simp at hu; subst hu; exact u0_fits
  have hfd : ∀ e ∈ [divE], e.fits := fun e he => by simp at he; subst he; exact fits_divE
  have hfg : ∀ e ∈ [gtE], e.fits := fun e he => by simp at he; subst he; exact fits_gtE
  have HFU := Lib.hid hfu
  have HFG := Lib.hid hfg
  go_enter Tryz.func7, Tryz.ntmps7
  go_wp2_with fail
  obtain ⟨w1, hw1⟩ : ∃ w1, w1 = (((((w.alloc (.cells #[.int .u8 3, .bool false, .int .i64 5, .string ⟨#[]⟩, .int .u8 3, .bool false, .int .i64 0, .string ⟨#[]⟩] 55)).alloc (.cells #[.slice (some ⟨w.heap.size, 0, none⟩) 2 2, .int .u64 3, .slice none 0 0, .int .i64 2] 51)).alloc (.cells #[.int .u8 1, .slice none 0 0, .int .i64 0, .int .u8 0, .bool false, .int .i64 0, .string ⟨#[]⟩, .int .u8 1, .slice none 0 0, .int .i64 1, .int .u8 0, .bool false, .int .i64 0, .string ⟨#[]⟩] 57)).alloc (.cells #[.int .u8 7, .slice (some ⟨w.heap.size + 1 + 1, 0, none⟩) 2 2, .int .i64 0, .int .u8 0, .bool false, .int .i64 0, .string ⟨#[]⟩] 57)).alloc (.cells #[.int .u8 7, .slice (some ⟨w.heap.size + 1 + 1, 0, none⟩) 2 2, .int .i64 0, .int .u8 0, .bool false, .int .i64 0, .string ⟨#[]⟩] 57)) := ⟨_, rfl⟩
  rw [← hw1]
  obtain ⟨f0, f1, f2, f3, f4, fb, f5⟩ := five_at hw1
  have hu1 := u0_at f0 f1
  have HB1 := Lib.hid fb
  have HM := Lib.hid (map_12 [u0] [divE] (some ⟨w.heap.size + 1, 0, none⟩) 1 _ w1 hu1 (by decide) hfu (one_divE f2 f4) hfd (by decide) (tabs_below HT.out fb h3) (cell_keep fb HE.out) (Nat.le_trans h3 fb.size))
  have HU1 := Lib.hid hu1
  have y3 : w1.cell? ⟨w.heap.size + 1 + 1 + 1, 0, none⟩ = some (.int .u8 7) := cell_of_heap f3 rfl
  clear hw1 f0 f1 f2 f3 f4 fb f5 hu1 hfu hfd hfg y3
  refine HM.out.mono ?_
  rintro ev w2 ⟨a2, b2, rfl, ha2, hb2, hbl2⟩
  have hmk : keepF (mapD [divE]) [u0] = [] := by simp [keepF, mapD, mapE, u0, eval_div, bad]
  have hme : errF (mapD [divE]) [u0] = [⟨[num 11], 3, [], 2⟩] := by simp [errF, mapD, mapE, u0, eval_div, bad, errU]
  rw [hmk] at ha2
  rw [hme] at hb2
  have HB2 := Lib.hid (stepB HB1.out hbl2)
  have HU2 := Lib.hid (HU1.out.below hbl2)
  obtain ⟨aa, ac, rfl⟩ := ups_none ha2
  have HX2 := Lib.hid hb2
  obtain ⟨xb, xo, xc, xr, xl, rfl, -⟩ := ups_one hb2
  clear ha2 hb2 hbl2 hmk hme HM HU1
  go_wp2_with fail
  refine (number_21 _ _).mono ?_
  rintro ev w3 ⟨rfl, hb3⟩
  have HB3 := Lib.hid (stepB HB2.out hb3)
  have HU3 := Lib.hid (HU2.out.below hb3)
  have HX3 := Lib.hid (HX2.out.below hb3)
  clear hb3
  go_wp2_with fail
  obtain ⟨w4, hw4⟩ : ∃ w4, w4 = (w3.alloc (.cells #[.int .u8 1, .slice none 0 0, .int .i64 0, .int .u8 0, .bool false, .int .i64 0, .string ⟨#[]⟩, .int .u8 2, .slice none 0 0, .int .i64 0, .int .u8 3, .bool false, .int .i64 3, .string ⟨#[]⟩] 57)).alloc (.cells #[.int .u8 15, .slice (some ⟨w3.heap.size, 0, none⟩) 2 2, .int .i64 0, .int .u8 0, .bool false, .int .i64 0, .string ⟨#[]⟩] 57) := ⟨_, rfl⟩
  rw [← hw4]
  have g0 : w4.heap[w3.heap.size]? = some (.cells #[.int .u8 1, .slice none 0 0, .int .i64 0, .int .u8 0, .bool false, .int .i64 0, .string ⟨#[]⟩, .int .u8 2, .slice none 0 0, .int .i64 0, .int .u8 3, .bool false, .int .i64 3, .string ⟨#[]⟩] 57 (0, 0)) := by rw [hw4]; exact keepAt' (heap_alloc_new _ _) _
  have g1 : w4.heap[w3.heap.size + 1]? = some (.cells #[.int .u8 15, .slice (some ⟨w3.heap.size, 0, none⟩) 2 2, .int .i64 0, .int .u8 0, .bool false, .int .i64 0, .string ⟨#[]⟩] 57 (0, 0)) := by
    have := heap_alloc_new (w3.alloc (.cells #[.int .u8 1, .slice none 0 0, .int .i64 0, .int .u8 0, .bool false, .int .i64 0, .string ⟨#[]⟩, .int .u8 2, .slice none 0 0, .int .i64 0, .int .u8 3, .bool false, .int .i64 3, .string ⟨#[]⟩] 57)) (.cells #[.int .u8 15, .slice (some ⟨w3.heap.size, 0, none⟩) 2 2, .int .i64 0, .int .u8 0, .bool false, .int .i64 0, .string ⟨#[]⟩] 57)
    rw [World.size_alloc] at this
    rw [hw4]; exact this
  have hb4 : Below w3.heap.size w3 w4 := by rw [hw4]; exact two_below _ _ _
  have hb4' := stepB HB3.out hb4
  have HFL := Lib.hid (filter_9 [u0] [gtE] (some ⟨w.heap.size + 1, 0, none⟩) 1 _ w4 (HU3.out.below hb4) (by decide) HFU.out (one_gtE g0 g1) HFG.out (by decide) (tabs_below HT.out hb4' h3) (cell_keep hb4' HE.out) (Nat.le_trans h3 hb4'.size) (fun u hu => filtR_num (HFU.out u hu).row HFG.out))
  have HB4 := Lib.hid hb4'
  have HU4 := Lib.hid (HU3.out.below hb4)
  have HX4 := Lib.hid (HX3.out.below hb4)
  clear hw4 g0 g1 hb4 hb4'
  refine HFL.out.mono ?_
  rintro ev w5 ⟨a5, b5, rfl, ha5, hb5, hbl5⟩
  have hfk : keepF (filtD [gtE]) [u0] = [u0] := by simp [keepF, filtD, filtR, u0, eval_gt, boo]
  have hfe : errF (filtD [gtE]) [u0] = [] := by simp [errF, filtD, filtR, u0, eval_gt, boo]
  rw [hfk] at ha5
  rw [hfe] at hb5
  have HB5 := Lib.hid (stepB HB4.out hbl5)
  have HU5 := Lib.hid (HU4.out.below hbl5)
  have HX5 := Lib.hid (HX4.out.below hbl5)
  obtain ⟨ba, bc, rfl⟩ := ups_none hb5
  obtain ⟨ca, cc, rfl⟩ := ha5.slice
  clear ha5 hb5 hbl5 hfk hfe HFL
  go_wp2_with fail
  obtain ⟨w6, hw6⟩ : ∃ w6, w6 = w5.alloc (.cells #[.int .i64 1, .int .i64 1, .int .i64 7] 3) := ⟨_, rfl⟩
  rw [← hw6]
  have g0 : w6.heap[w5.heap.size]? = some (.cells #[.int .i64 1, .int .i64 1, .int .i64 7] 3 (0, 0)) := by rw [hw6]; exact heap_alloc_new _ _
  have hb6 : Below w5.heap.size w5 w6 := by rw [hw6]; exact one_below _ _
  have hio : IntsOn (fun _ => True) w6 [1, 1, 7] (.slice (some ⟨w5.heap.size, 0, none⟩) 3 3) := ⟨some ⟨w5.heap.size, 0, none⟩, 3, rfl, (fun h => by cases h), fun _ => ⟨w5.heap.size, 0, rfl, trivial, fun i x hx => by
    rcases i with _ | _ | _ | i
    · cases hx; exact cell_of_heap g0 rfl
    · cases hx; exact cell_of_heap g0 rfl
    · cases hx; exact cell_of_heap g0 rfl
    · simp at hx⟩⟩
  have HPJ := Lib.hid (project_13 [u0] [1, 1, 7] (some ⟨w.heap.size + 1, 0, none⟩) 1 _ w6 (HU5.out.below hb6) (by decide) HFU.out hio (by decide))
  have HB6 := Lib.hid (stepB HB5.out hb6)
  have HU6 := Lib.hid (HU5.out.below hb6)
  have HX6 := Lib.hid (HX5.out.below hb6)
  clear hw6 g0 hb6 hio
  refine HPJ.out.mono ?_
  rintro ev w7 ⟨a7, rfl, ha7, hbl7⟩
  have hpj : allF (projR [1, 1, 7]) [u0] = [⟨[num 0, num 0, nul], 3, [], 2⟩] := by simp [allF, projR, projD, u0]
  rw [hpj] at ha7
  have HB7 := Lib.hid (stepB HB6.out hbl7)
  have HU7 := Lib.hid (HU6.out.below hbl7)
  have HX7 := Lib.hid (HX6.out.below hbl7)
  have HY7 := Lib.hid ha7
  obtain ⟨yb, yo, yc, yr, yl, rfl, -⟩ := ups_one ha7
  clear ha7 hbl7 hpj HPJ
  go_wp2_with fail
  obtain ⟨w8, hw8⟩ : ∃ w8, w8 = w7.alloc (.cells #[.int .u32 0] 33) := ⟨_, rfl⟩
  rw [← hw8]
  have g0 : w8.heap[w7.heap.size]? = some (.cells #[.int .u32 0] 33 (0, 0)) := by rw [hw8]; exact heap_alloc_new _ _
  have hb8 : Below w7.heap.size w7 w8 := by rw [hw8]; exact one_below _ _
  have hwo : WordsAt w8 (.slice (some ⟨w7.heap.size, 0, none⟩) 1 1) [0] := ⟨some ⟨w7.heap.size, 0, none⟩, 1, rfl, (fun h => by cases h), fun _ => ⟨w7.heap.size, 0, rfl, fun i x hx => by
    rcases i with _ | i
    · cases hx; exact cell_of_heap g0 rfl
    · simp at hx⟩⟩
  have HMV := Lib.hid (move_14 [u0] 0 0 [0] (some ⟨w.heap.size + 1, 0, none⟩) 1 _ w8 (HU7.out.below hb8) (by decide) HFU.out hwo (by decide) (by decide) (by unfold U32; decide))
  have HB8 := Lib.hid (stepB HB7.out hb8)
  have HX8 := Lib.hid (HX7.out.below hb8)
  have HY8 := Lib.hid (HY7.out.below hb8)
  clear hw8 g0 hb8 hwo
  refine HMV.out.mono ?_
  rintro ev w9 ⟨a9, rfl, ha9, hbl9⟩
  have hmv : allF (moveR 0 0 [0]) [u0] = [⟨[num 5, num 0], 3, [0], 2⟩] := by simp [allF, moveR, applyT, u0]
  rw [hmv] at ha9
  have HB9 := Lib.hid (stepB HB8.out hbl9)
  have hx9 := HX8.out.below hbl9
  have hy9 := HY8.out.below hbl9
  obtain ⟨zb, zo, zc, zr, zl, rfl, -, z2, -, -, zw⟩ := ups_one ha9
  obtain ⟨xb', xo', xc', xr', xl', ex, x0, -, x3, xrow, -⟩ := ups_one hx9
  cases ex
  obtain ⟨yb', yo', yc', yr', yl', ey, y0, -, -, yrow, -⟩ := ups_one hy9
  cases ey
  obtain ⟨rb, ro, rc, rfl, -, r2⟩ := row_get (i := 0) (d := num 11) xrow rfl
  obtain ⟨sb, so, sc, rfl, s0, -⟩ := row_get (i := 2) (d := nul) yrow rfl
  obtain ⟨za, zd, rfl⟩ := zw.slice
  simp only [Nat.zero_mul, Nat.add_zero, num] at r2
  simp only [Nat.reduceMul, nul] at s0
  simp only [List.length_cons, List.length_nil, Nat.reduceAdd, num] at x0
  simp only [List.length_cons, List.length_nil, Nat.reduceAdd, num, nul] at y0
  simp only [List.length_cons, List.length_nil, Nat.reduceAdd] at z2
  clear ha9 hbl9 hmv HMV hx9 hy9 xrow yrow zw HX8 HY8
  go_wp2_with fail
  go_ret
  exact ⟨rfl, HB9.out⟩
end Go.Proofs.YtlpehdhgdpeoeaaGreatDoor
