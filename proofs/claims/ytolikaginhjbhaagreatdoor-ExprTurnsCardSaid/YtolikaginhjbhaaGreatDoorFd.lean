import Derived.Test.YtolikaginhjbhaaGreatDoorFc
/- What is known: the chapter's example. -/
namespace Go.Proofs.YtolikaginhjbhaaGreatDoor
open Go.RowKit Go.Pen Go.Shelf
attribute [local go_sem] Oper.semAt_some

def colE (n : Int) : ET := .mk 1 n Dat.zero []
def divE : ET := .mk 7 0 Dat.zero [colE 0, colE 1]

theorem may_divE : divE.may okD = true := by
  simp [divE, colE, ET.may, ET.good, ET.goods, ET.own, ET.size, ET.sizes, kidsOk, ET.op, ET.col, ET.lit, ET.kids]
theorem within_divE : divE.within (2 : Int) = true := by
  simp [divE, colE, ET.within, ET.withins]
theorem size_nil : (⟨#[]⟩ : ByteArray).size = 0 := rfl
theorem fits_divE : divE.fits := by
  simp [divE, colE, ET.fits, ET.fitss, Dat.fits, Dat.zero, size_nil]
theorem okD_num (n : Int) : chkD (num n) = 0 :=
  (chkD_z (by decide) (.inr (by decide)) (.inl rfl) (.inr (by rw [text_nil])) (by rw [show (⟨#[]⟩ : ByteArray).data.toList = [] from rfl, Lib.validD_nil]; rfl)).trans (if_neg (by decide))
theorem isK_num (n : Int) : isK 3 (num n) = true := by
  show ((chkD (num n) == 0) && (decide ((3 : Int) = 3) || decide ((3 : Int) = 1))) = true
  rw [okD_num]
  rfl
theorem div_num2 (x y : Int) : divD (num x) (num y) = if y = 0 then bad 11 else ov (Int.tdiv x y) := by
  show both 3 (num x) (num y) (if y = 0 then bad 11 else ov (Int.tdiv x y)) = _
  unfold both
  rw [isK_num, isK_num, if_neg (by decide), if_neg (by rintro (h | h) <;> exact absurd h (by show ¬ (3 : Int) = 1; decide))]
theorem val_divE (x y : Int) : divE.val [num x, num y] = told (if y = 0 then bad 11 else ov (Int.tdiv x y)) := by
  simp [divE, colE, ET.val, ET.vals, restV, twoD, div_num2]
theorem eval_72 : evalR [num 7, num 2] divE = (num 3, 0) := by
  unfold evalR
  rw [if_pos ⟨may_divE, within_divE⟩, val_divE]
  rfl
theorem eval_70 : evalR [num 7, num 0] divE = bad 11 := by
  unfold evalR
  rw [if_pos ⟨may_divE, within_divE⟩, val_divE]
  rfl

theorem fits_num {x : Int} (h : -9223372036854775808 ≤ x ∧ x ≤ 9223372036854775807) : (num x).fits := ⟨by simp [num], h, by simp [num, size_nil]⟩

theorem ok_divE (x y : Int) (hx : -9223372036854775808 ≤ x ∧ x ≤ 9223372036854775807) (hy : -9223372036854775808 ≤ y ∧ y ≤ 9223372036854775807) (ra : Option Addr) (rc : Nat) (w : World) (hr : DatsOn (fun _ => True) w [num x, num y] (.slice ra 2 rc)) (hT : Lib.Utf8Tabs 1 2 w) (h11 : 3 ≤ w.heap.size) : EvalOK [num x, num y] (.slice ra 2 rc) w divE := by
  intro kv W hb hat
  obtain ⟨a, cc, rfl, -, hks⟩ := ET.On.iff.1 hat
  have hcol : ∀ (n : Int), 0 ≤ n → n < 2 → EvalOK [num x, num y] (.slice ra 2 rc) W (colE n) := by
    intro n h0 h1 kv W2 hb2 hat2
    obtain ⟨a2, c2, rfl⟩ := hat2.slice
    exact eval_col [num x, num y] ra rc n Dat.zero [] a2 c2 W2 ((hr.below hb).below hb2) h0 h1
  exact eval_two_7 [num x, num y] (.slice ra 2 rc) 0 Dat.zero (colE 0) (colE 1) a cc W (Nat.le_trans h11 hb.size) hks (hcol 0 (by decide) (by decide)) (hcol 1 (by decide) (by decide)) (tabs_below hT hb h11)
    (by show (num x).fits; exact fits_num hx) (by show (num y).fits; exact fits_num hy)

theorem below_step {w W W' : World} (h : Below w.heap.size w W) (hb : Below W.heap.size W W') : Below w.heap.size w W' := h.trans (hb.mono h.size)
theorem keepAt {W W' : World} {g : Nat} {y : Obj} (h : W.heap[g]? = some y) (hb : Below W.heap.size W W') : W'.heap[g]? = some y := (hb.block _ (lt_of_heap h)).trans h

set_option maxRecDepth 100000 in
set_option maxHeartbeats 400000 in
theorem col_46 (n : Int) (w : World) : Calls Tryz.prog 46 #[.int .i64 n] w fun ev w' => ev = .returned (.agg #[.int .u8 1, .slice none 0 0, .int .i64 n, .int .u8 0, .bool false, .int .i64 0, .string ⟨#[]⟩]) ∧ Below w.heap.size w w' := by
  go_enter Tryz.func46, Tryz.ntmps46
  go_wp2_with fail
  refine bodyPost_ret (results_cell_row rfl _ _ w.heap.size 27 _ (0, 0) _ rfl (heap_alloc_new w _) Tryz.underlying27 rfl (by kernel_rfl)) rfl ?_
  exact ⟨rfl, one_below _ _⟩

set_option maxRecDepth 100000 in
set_option maxHeartbeats 400000 in
theorem op_24 (o : Int) (a : Option Addr) (n c : Nat) (w : World) : Calls Tryz.prog 24 #[.int .u8 o, .slice a n c] w fun ev w' => ev = .returned (.agg #[.int .u8 o, .slice a n c, .int .i64 0, .int .u8 0, .bool false, .int .i64 0, .string ⟨#[]⟩]) ∧ Below w.heap.size w w' := by
  go_enter Tryz.func24, Tryz.ntmps24
  go_wp2_with fail
  refine bodyPost_ret (results_cell_row rfl _ _ w.heap.size 27 _ (0, 0) _ rfl (heap_alloc_new w _) Tryz.underlying27 rfl (by kernel_rfl)) rfl ?_
  exact ⟨rfl, one_below _ _⟩

set_option maxRecDepth 100000 in
set_option maxHeartbeats 400000 in
theorem int_47 (n : Int) (w : World) : Calls Tryz.prog 47 #[.int .i64 n] w fun ev w' => ev = .returned (.agg #[.int .u8 3, .bool false, .int .i64 n, .string ⟨#[]⟩]) ∧ Below w.heap.size w w' := by
  go_enter Tryz.func47, Tryz.ntmps47
  go_wp2_with fail
  refine bodyPost_ret (results_cell_row rfl _ _ w.heap.size 25 _ (0, 0) _ rfl (heap_alloc_new w _) Tryz.underlying25 rfl (by kernel_rfl)) rfl ?_
  exact ⟨rfl, one_below _ _⟩

def ROW14 : Array Value := #[.int .u8 1, .slice none 0 0, .int .i64 0, .int .u8 0, .bool false, .int .i64 0, .string ⟨#[]⟩, .int .u8 1, .slice none 0 0, .int .i64 1, .int .u8 0, .bool false, .int .i64 0, .string ⟨#[]⟩]
theorem at_divE {w : World} {g : Nat} (h : w.heap[g]? = some (.cells ROW14 27 (0, 0))) : divE.At w (.slice (some ⟨g, 0, none⟩) 2 2) := by
  refine ET.On.iff.2 ⟨some ⟨g, 0, none⟩, 2, rfl, (fun h => by cases h), fun _ => ⟨g, 0, rfl, trivial, ET.Ons.mk fun i k hk => ?_⟩⟩
  rcases i with _ | _ | i
  · cases hk
    exact ⟨.slice none 0 0, ⟨cell_of_heap h rfl, cell_of_heap h rfl, cell_of_heap h rfl, cell_of_heap h rfl, cell_of_heap h rfl, cell_of_heap h rfl, cell_of_heap h rfl⟩, on_nil _ _ _ _ _⟩
  · cases hk
    exact ⟨.slice none 0 0, ⟨cell_of_heap h rfl, cell_of_heap h rfl, cell_of_heap h rfl, cell_of_heap h rfl, cell_of_heap h rfl, cell_of_heap h rfl, cell_of_heap h rfl⟩, on_nil _ _ _ _ _⟩
  · simp [divE, ET.kids] at hk

/-- Eval of the example -/
theorem kn_12 (x y : Int) {w W : World} {g : Nat} (R : Res) (rv : Value) (hR : evalR [num x, num y] divE = R) (hrv : resT R = rv) (hx : -9223372036854775808 ≤ x ∧ x ≤ 9223372036854775807) (hy : -9223372036854775808 ≤ y ∧ y ≤ 9223372036854775807) (hb : Below w.heap.size w W) (hg : W.heap[g]? = some (.cells ROW14 27 (0, 0))) (hT : Lib.Utf8Tabs 1 2 w) (hE : ErrTy w) (h11 : 3 ≤ w.heap.size) :
    Calls Tryz.prog 12 #[.agg #[.int .u8 7, .slice (some ⟨g, 0, none⟩) 2 2, .int .i64 0, .int .u8 0, .bool false, .int .i64 0, .string ⟨#[]⟩], .slice (some ⟨W.heap.size, 0, none⟩) 2 2] (W.alloc (.cells #[.int .u8 3, .bool false, .int .i64 x, .string ⟨#[]⟩, .int .u8 3, .bool false, .int .i64 y, .string ⟨#[]⟩] 25)) fun ev w' => ev = .returned rv ∧ Below W.heap.size W w' := by
  subst hrv
  have hb2 : Below w.heap.size w (W.alloc (.cells #[.int .u8 3, .bool false, .int .i64 x, .string ⟨#[]⟩, .int .u8 3, .bool false, .int .i64 y, .string ⟨#[]⟩] 25)) := hb.alloc hb.size _
  have hg2 := keepAt hg (one_below W (.cells #[.int .u8 3, .bool false, .int .i64 x, .string ⟨#[]⟩, .int .u8 3, .bool false, .int .i64 y, .string ⟨#[]⟩] 25))
  have h := eval_12 [num x, num y] divE (some ⟨g, 0, none⟩) 2 (some ⟨W.heap.size, 0, none⟩) 2 (W.alloc (.cells #[.int .u8 3, .bool false, .int .i64 x, .string ⟨#[]⟩, .int .u8 3, .bool false, .int .i64 y, .string ⟨#[]⟩] 25)) fits_divE (at_divE hg2) (tabs_below hT hb2 h11) (cell_keep hb2 hE) (Nat.le_trans h11 hb2.size)
    (fun _ _ => ok_divE x y hx hy _ _ _ (dats2 (a := num x) (b := num y) (heap_alloc_new W _)) (tabs_below hT hb2 h11) (Nat.le_trans h11 hb2.size))
  rw [hR] at h
  exact h.mono fun ev w' hp => ⟨hp.1, (one_below _ _).trans (hp.2.mono (by simp))⟩
end Go.Proofs.YtolikaginhjbhaaGreatDoor
