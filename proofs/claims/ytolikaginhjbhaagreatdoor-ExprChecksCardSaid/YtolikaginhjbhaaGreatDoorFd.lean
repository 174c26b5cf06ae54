import Derived.Test.YtolikaginhjbhaaGreatDoorFc
import Derived.Test.YtolikaginhjbhaaGreatDoorRows
import Derived.ProofKit
import Derived.PinnedBridge
import Derived.Lay
import Derived.Lib.LaidU8T
import Derived.OpenShut
import Derived.ChangeOld
import Derived.Stop.Joined
import Derived.LaidOnce
import Derived.LaidHandle
import Derived.LaidSub
import Derived.SevenTiedAt
/- What is known: the chapter's example. -/
namespace Go.Proofs.YtolikaginhjbhaaGreatDoor
open Go.RowKit Go.Pen Go.Shelf
attribute [local go_sem] Oper.semAt_some

def colE (n : Int) : ET := .mk 1 n Dat.zero []
def divE : ET := .mk 7 0 Dat.zero [colE 0, colE 1]

theorem may_divE : divE.may okD = true := by
  simp [divE, colE, ET.may, ET.good, ET.goods, ET.own, ET.size, ET.sizes, kidsOk, ET.op, ET.col, ET.lit, ET.kids]
theorem within_divE : divE.within (2 : Int) = true := by
  simp [divE, colE, ET.within, ET.withins]
theorem size_nil : (⟨#[]⟩ : ByteArray).size = 0 := rfl
theorem fits_divE : divE.fits := by
  simp [divE, colE, ET.fits, ET.fitss, Dat.fits, Dat.zero, size_nil]
theorem okD_num (n : Int) : chkD (num n) = 0 :=
  (chkD_z (by decide) (.inr (by decide)) (.inl rfl) (.inr (by rw [text_nil])) (by rw [show (⟨#[]⟩ : ByteArray).data.toList = [] from rfl, Lib.validD_nil]; rfl)).trans (if_neg (by decide))
theorem isK_num (n : Int) : isK 3 (num n) = true := by
  show ((chkD (num n) == 0) && (decide ((3 : Int) = 3) || decide ((3 : Int) = 1))) = true
  rw [okD_num]
  rfl
theorem div_num2 (x y : Int) : divD (num x) (num y) = if y = 0 then bad 11 else ov (Int.tdiv x y) := by
  show both 3 (num x) (num y) (if y = 0 then bad 11 else ov (Int.tdiv x y)) = _
  unfold both
  rw [isK_num, isK_num, if_neg (by decide), if_neg (by rintro (h | h) <;> exact absurd h (by show ¬ (3 : Int) = 1; decide))]
theorem val_divE (x y : Int) : divE.val [num x, num y] = told (if y = 0 then bad 11 else ov (Int.tdiv x y)) := by
  simp [divE, colE, ET.val, ET.vals, restV, twoD, div_num2]
theorem eval_72 : evalR [num 7, num 2] divE = (num 3, 0) := by
  unfold evalR
  rw [if_pos ⟨may_divE, within_divE⟩, val_divE]
  rfl
theorem eval_70 : evalR [num 7, num 0] divE = bad 11 := by
  unfold evalR
  rw [if_pos ⟨may_divE, within_divE⟩, val_divE]
  rfl

theorem fits_num {x : Int} (h : -9223372036854775808 ≤ x ∧ x ≤ 9223372036854775807) : (num x).fits := ⟨by simp [num], h, by simp [num, size_nil]⟩

theorem ok_divE (x y : Int) (hx : -9223372036854775808 ≤ x ∧ x ≤ 9223372036854775807) (hy : -9223372036854775808 ≤ y ∧ y ≤ 9223372036854775807) (ra : Option Addr) (rc : Nat) (w : World) (hr : DatsOn (fun _ => True) w [num x, num y] (.slice ra 2 rc)) (hT : Lib.Utf8Tabs 1 2 w) (h11 : 3 ≤ w.heap.size) : EvalOK [num x, num y] (.slice ra 2 rc) w divE := by
  intro kv W hb hat
  obtain ⟨a, cc, rfl, -, hks⟩ := ET.On.iff.1 hat
  have hcol : ∀ (n : Int), 0 ≤ n → n < 2 → EvalOK [num x, num y] (.slice ra 2 rc) W (colE n) := by
    intro n h0 h1 kv W2 hb2 hat2
    obtain ⟨a2, c2, rfl⟩ := hat2.slice
    exact eval_col [num x, num y] ra rc n Dat.zero [] a2 c2 W2 ((hr.below hb).below hb2) h0 h1
  exact eval_two_7 [num x, num y] (.slice ra 2 rc) 0 Dat.zero (colE 0) (colE 1) a cc W (Nat.le_trans h11 hb.size) hks (hcol 0 (by decide) (by decide)) (hcol 1 (by decide) (by decide)) (tabs_below hT hb h11)
    (by show (num x).fits; exact fits_num hx) (by show (num y).fits; exact fits_num hy)

theorem below_step {w W W' : World} (h : Below w.heap.size w W) (hb : Below W.heap.size W W') : Below w.heap.size w W' := h.trans (hb.mono h.size)
theorem keepAt {W W' : World} {g : Nat} {y : Obj} (h : W.heap[g]? = some y) (hb : Below W.heap.size W W') : W'.heap[g]? = some y := (hb.block _ (lt_of_heap h)).trans h

set_option maxRecDepth 100000 in
set_option maxHeartbeats 400000 in
theorem col_46 (n : Int) (w : World) : Calls Tryz.prog 46 #[.int .i64 n] w fun ev w' => ev = .returned (.agg #[.int .u8 1, .slice none 0 0, .int .i64 n, .int .u8 0, .bool false, .int .i64 0, .string ⟨#[]⟩]) ∧ Below w.heap.size w w' := by
  go_enter Tryz.func46, Tryz.ntmps46
  go_wp2_with fail
  refine bodyPost_ret (results_cell_row rfl _ _ w.heap.size 27 _ (0, 0) _ rfl (heap_alloc_new w _) Tryz.underlying27 rfl (by kernel_rfl)) rfl ?_
  exact ⟨rfl, one_below _ _⟩

set_option maxRecDepth 100000 in
set_option maxHeartbeats 400000 in
theorem op_24 (o : Int) (a : Option Addr) (n c : Nat) (w : World) : Calls Tryz.prog 24 #[.int .u8 o, .slice a n c] w fun ev w' => ev = .returned (.agg #[.int .u8 o, .slice a n c, .int .i64 0, .int .u8 0, .bool false, .int .i64 0, .string ⟨#[]⟩]) ∧ Below w.heap.size w w' := by
  go_enter Tryz.func24, Tryz.ntmps24
  go_wp2_with fail
  refine bodyPost_ret (results_cell_row rfl _ _ w.heap.size 27 _ (0, 0) _ rfl (heap_alloc_new w _) Tryz.underlying27 rfl (by kernel_rfl)) rfl ?_
  exact ⟨rfl, one_below _ _⟩

set_option maxRecDepth 100000 in
set_option maxHeartbeats 400000 in
theorem int_47 (n : Int) (w : World) : Calls Tryz.prog 47 #[.int .i64 n] w fun ev w' => ev = .returned (.agg #[.int .u8 3, .bool false, .int .i64 n, .string ⟨#[]⟩]) ∧ Below w.heap.size w w' := by
  go_enter Tryz.func47, Tryz.ntmps47
  go_wp2_with fail
  refine bodyPost_ret (results_cell_row rfl _ _ w.heap.size 25 _ (0, 0) _ rfl (heap_alloc_new w _) Tryz.underlying25 rfl (by kernel_rfl)) rfl ?_
  exact ⟨rfl, one_below _ _⟩

def ROW14 : Array Value := #[.int .u8 1, .slice none 0 0, .int .i64 0, .int .u8 0, .bool false, .int .i64 0, .string ⟨#[]⟩, .int .u8 1, .slice none 0 0, .int .i64 1, .int .u8 0, .bool false, .int .i64 0, .string ⟨#[]⟩]
theorem at_divE {w : World} {g : Nat} (h : w.heap[g]? = some (.cells ROW14 27 (0, 0))) : divE.At w (.slice (some ⟨g, 0, none⟩) 2 2) := by
  refine ET.On.iff.2 ⟨some ⟨g, 0, none⟩, 2, rfl, (fun h => by cases h), fun _ => ⟨g, 0, rfl, trivial, ET.Ons.mk fun i k hk => ?_⟩⟩
  rcases i with _ | _ | i
  · cases hk
    exact ⟨.slice none 0 0, ⟨cell_of_heap h rfl, cell_of_heap h rfl, cell_of_heap h rfl, cell_of_heap h rfl, cell_of_heap h rfl, cell_of_heap h rfl, cell_of_heap h rfl⟩, on_nil _ _ _ _ _⟩
  · cases hk
    exact ⟨.slice none 0 0, ⟨cell_of_heap h rfl, cell_of_heap h rfl, cell_of_heap h rfl, cell_of_heap h rfl, cell_of_heap h rfl, cell_of_heap h rfl, cell_of_heap h rfl⟩, on_nil _ _ _ _ _⟩
  · simp [divE, ET.kids] at hk

/-- Eval of the example -/
theorem kn_12 (x y : Int) {w W : World} {g : Nat} (R : Res) (rv : Value) (hR : evalR [num x, num y] divE = R) (hrv : resT R = rv) (hx : -9223372036854775808 ≤ x ∧ x ≤ 9223372036854775807) (hy : -9223372036854775808 ≤ y ∧ y ≤ 9223372036854775807) (hb : Below w.heap.size w W) (hg : W.heap[g]? = some (.cells ROW14 27 (0, 0))) (hT : Lib.Utf8Tabs 1 2 w) (hE : ErrTy w) (h11 : 3 ≤ w.heap.size) :
    Calls Tryz.prog 12 #[.agg #[.int .u8 7, .slice (some ⟨g, 0, none⟩) 2 2, .int .i64 0, .int .u8 0, .bool false, .int .i64 0, .string ⟨#[]⟩], .slice (some ⟨W.heap.size, 0, none⟩) 2 2] (W.alloc (.cells #[.int .u8 3, .bool false, .int .i64 x, .string ⟨#[]⟩, .int .u8 3, .bool false, .int .i64 y, .string ⟨#[]⟩] 25)) fun ev w' => ev = .returned rv ∧ Below W.heap.size W w' := by
  subst hrv
  have hb2 : Below w.heap.size w (W.alloc (.cells #[.int .u8 3, .bool false, .int .i64 x, .string ⟨#[]⟩, .int .u8 3, .bool false, .int .i64 y, .string ⟨#[]⟩] 25)) := hb.alloc hb.size _
  have hg2 := keepAt hg (one_below W (.cells #[.int .u8 3, .bool false, .int .i64 x, .string ⟨#[]⟩, .int .u8 3, .bool false, .int .i64 y, .string ⟨#[]⟩] 25))
  have h := eval_12 [num x, num y] divE (some ⟨g, 0, none⟩) 2 (some ⟨W.heap.size, 0, none⟩) 2 (W.alloc (.cells #[.int .u8 3, .bool false, .int .i64 x, .string ⟨#[]⟩, .int .u8 3, .bool false, .int .i64 y, .string ⟨#[]⟩] 25)) fits_divE (at_divE hg2) (tabs_below hT hb2 h11) (cell_keep hb2 hE) (Nat.le_trans h11 hb2.size)
    (fun _ _ => ok_divE x y hx hy _ _ _ (dats2 (a := num x) (b := num y) (heap_alloc_new W _)) (tabs_below hT hb2 h11) (Nat.le_trans h11 hb2.size))
  rw [hR] at h
  exact h.mono fun ev w' hp => ⟨hp.1, (one_below _ _).trans (hp.2.mono (by simp))⟩
end Go.Proofs.YtolikaginhjbhaaGreatDoor
/- What is known: the walk. -/
namespace Go.Proofs.YtolikaginhjbhaaGreatDoor
open Go.RowKit Go.Pen Go.Shelf
attribute [local go_sem] Oper.semAt_some

set_option maxRecDepth 100000 in
set_option maxHeartbeats 16000000 in
theorem known_14 (w : World) (hT : Lib.Utf8Tabs 1 2 w) (hE : ErrTy w) (h11 : 3 ≤ w.heap.size) :
    Calls Tryz.prog 14 #[] w fun ev w' => ev = .returned (.bool true) ∧ Below w.heap.size w w' := by
  have HT := Lib.hid hT
  have HE := Lib.hid hE
  have HB : Hid (Below w.heap.size w w) := Lib.hid (Below.refl _ _)
  clear hT hE
  go_enter Tryz.func14, Tryz.ntmps14
  go_wp2_with (first | (go_at_call 46; refine (col_46 _ _).mono ?_; rintro ev w1 ⟨rfl, hb1⟩; (try (have RD := Lib.hid (one_at hb1))); (try (have RD := Lib.hid (keepAt RD.out (by first | exact hb1 | exact (one_below _ _).trans (hb1.mono (by simp)))))); (try (have RG := Lib.hid (keepAt RG.out (by first | exact hb1 | exact (one_below _ _).trans (hb1.mono (by simp)))))); have HB := Lib.hid (below_step HB.out (by first | exact hb1 | exact (one_below _ _).trans (hb1.mono (by simp)))); clear hb1) | (go_at_call 24; refine (op_24 _ _ _ _ _).mono ?_; rintro ev w1 ⟨rfl, hb1⟩; (try (have RD := Lib.hid (keepAt RD.out (by first | exact hb1 | exact (one_below _ _).trans (hb1.mono (by simp)))))); (try (have RG := Lib.hid (keepAt RG.out (by first | exact hb1 | exact (one_below _ _).trans (hb1.mono (by simp)))))); have HB := Lib.hid (below_step HB.out (by first | exact hb1 | exact (one_below _ _).trans (hb1.mono (by simp)))); have RG := Lib.hid (one_at hb1); clear hb1) | (go_at_call 47; refine (int_47 _ _).mono ?_; rintro ev w1 ⟨rfl, hb1⟩; (try (have RD := Lib.hid (keepAt RD.out (by first | exact hb1 | exact (one_below _ _).trans (hb1.mono (by simp)))))); (try (have RG := Lib.hid (keepAt RG.out (by first | exact hb1 | exact (one_below _ _).trans (hb1.mono (by simp)))))); have HB := Lib.hid (below_step HB.out (by first | exact hb1 | exact (one_below _ _).trans (hb1.mono (by simp)))); clear hb1) | (go_at_call 12; refine (kn_12 7 2 (num 3, 0) (.tuple #[.agg #[.int .u8 3, .bool false, .int .i64 3, .string ⟨#[]⟩], .int .u16 0]) eval_72 rfl (by decide) (by decide) HB.out RG.out HT.out HE.out h11).mono ?_; rintro ev w1 ⟨rfl, hb1⟩; have HB := Lib.hid (below_step HB.out hb1); (try (have RD := Lib.hid (keepAt RD.out hb1))); clear hb1) | (go_at_call 12; refine (kn_12 7 0 (bad 11) (.tuple #[.agg #[.int .u8 0, .bool false, .int .i64 0, .string ⟨#[]⟩], .int .u16 11]) eval_70 rfl (by decide) (by decide) HB.out RG.out HT.out HE.out h11).mono ?_; rintro ev w1 ⟨rfl, hb1⟩; have HB := Lib.hid (below_step HB.out hb1); (try (have RD := Lib.hid (keepAt RD.out hb1))); clear hb1))
  have hw1 : Below w.heap.size w w1 := HB.out
  have HW1 := Lib.hid hw1
  have y0 := fun A => cell_of_heap (o := 0) (keepAt RD.out (one_below _ A)) rfl
  have y1 := fun A => cell_of_heap (o := 1) (keepAt RD.out (one_below _ A)) rfl
  have y2 := fun A => cell_of_heap (o := 2) (keepAt RD.out (one_below _ A)) rfl
  have y3 := fun A => cell_of_heap (o := 3) (keepAt RD.out (one_below _ A)) rfl
  clear hw1 RG HT HE HB
  go_region_with (go_at_call 47; refine (int_47 _ _).mono ?_; rintro ev w9 ⟨rfl, hb9⟩; have hb9' : Below w1.heap.size w1 w9 := (by first | exact (one_below _ _).trans (hb9.mono (by simp)) | exact (one_below _ _).trans ((below_undrew hb9).mono (by simp)) | exact (one_below _ _).trans ((below_undrewN hb9).mono (by simp))); have rd9 := keepAt RD.out hb9'; have u0 := cell_of_heap (o := 0) rd9 rfl; have u1 := cell_of_heap (o := 1) rd9 rfl; have u2 := cell_of_heap (o := 2) rd9 rfl; have u3 := cell_of_heap (o := 3) rd9 rfl; have HB9 := Lib.hid (below_step HW1.out hb9'); clear hb9 hb9' rd9)
  all_goals
    go_wp2
    go_ret
    exact ⟨rfl, by first | exact HB9.out | exact Go.Pen.below_drewN (n := 1) HB9.out | exact Go.Pen.below_drewN HB9.out⟩
end Go.Proofs.YtolikaginhjbhaaGreatDoor
/- The frame of this seat's cards: what the listed variables hold. -/
namespace Go.Proofs.YtolikaginhjbhaaGreatDoor
open Go.RowKit Go.Pen Go.ChangeShapes Go.WideShapes

def laid9 : List (String × DataW Unit) := Rows.exprTurnsRow.laid
theorem own : ownKnob Tryz.prog.godebug = none := by kernel_rfl
theorem laidOut : laidOutB Tryz.prog = true := by kernel_rfl
theorem et : Tryz.prog.globalNamed "errors.errorType" = some 0 := by kernel_rfl
theorem rt : (Tryz.prog.cutTypes.find? (·.1 == "internal/reflectlite.rtype")).map (·.2) = some 248 := by kernel_rfl
theorem oneRow : ((List.range 337).filter fun t => Tryz.prog.rowNamed t [101, 114, 114, 111, 114]) = [88] := by kernel_rfl
theorem ntypes : Tryz.prog.types.size = 337 := by kernel_rfl

theorem err_of_laid {W : World} (h : handlesMet Tryz.prog [("errors.errorType", Rows.laid_errors_errorType)] W) : ErrTy W := by
  obtain ⟨name, u, ty, e1, e2, e3, e4, e5⟩ := h _ (List.mem_singleton.2 rfl)
  have en : name = [101, 114, 114, 111, 114] := (Option.some.inj e1).symm
  subst en
  obtain rfl := Option.some.inj (rt.symm.trans e2)
  have hm : ty ∈ (List.range 337).filter fun t => Tryz.prog.rowNamed t [101, 114, 114, 111, 114] := List.mem_filter.2 ⟨List.mem_range.2 (by rw [← ntypes]; exact e3), e4⟩
  rw [oneRow] at hm
  obtain rfl := List.mem_singleton.1 hm
  have hh : typeHandle Tryz.prog 88 = .pointer (some ⟨7, 88, none⟩) := by kernel_rfl
  rw [hh] at e5
  simpa [ErrTy] using World.var?_cell et e5 0

theorem u8x : U8Extra Tryz.prog Tryz.laysValid_ren := ⟨by kernel_rfl, by kernel_rfl, by kernel_rfl, by kernel_rfl, by kernel_rfl, by kernel_rfl, by kernel_rfl⟩

/-- what the condition gives a walk -/
theorem glob_of_laid {W : World} (h : laidMetH Tryz.prog laid9 W) : Lib.Utf8Tabs 1 2 W ∧ ErrTy W ∧ 3 ≤ W.heap.size := by
  have f1 : (laid9.filter fun x => x.2.handleName?.isSome) = [("errors.errorType", Rows.laid_errors_errorType)] := by kernel_rfl
  have f2 : (laid9.filter fun x => x.2.handleName?.isNone) = [("unicode/utf8.acceptRanges", Rows.laid_unicode_utf8_acceptRanges), ("unicode/utf8.first", Rows.laid_unicode_utf8_first)] := by kernel_rfl
  unfold laidMetH at h
  rw [f1, f2] at h
  have h' : laidMet Tryz.prog [("unicode/utf8.acceptRanges", Rows.laid_unicode_utf8_acceptRanges), ("unicode/utf8.first", Rows.laid_unicode_utf8_first)] W ∧ handlesMet Tryz.prog [("errors.errorType", Rows.laid_errors_errorType)] W := h
  have h3 : Lib.VarReads Tryz.prog W "unicode/utf8.first" Rows.laid_unicode_utf8_first := Lib.laidMet.reads h'.1 (by simp)
  have h4 : Lib.VarReads Tryz.prog W "unicode/utf8.acceptRanges" Rows.laid_unicode_utf8_acceptRanges := Lib.laidMet.reads h'.1 (by simp)
  have h5 := h4
  refine ⟨?_, err_of_laid h'.2, ?_⟩
  · have e4 : (Rows.laid_unicode_utf8_acceptRanges : DataW Unit) = Lib.acceptData := by kernel_rfl
    rw [e4] at h4
    have e3 : Rows.laid_unicode_utf8_first = Lib.firstData := Pinned.utf8First_eq
    rw [e3] at h3
    exact utf8Tabs_of_readsT (U8Types.of196 Tryz.laysValid) u8x h3 h4
  · obtain ⟨g, t, cs, fuel, p, hg, -, hv, -⟩ := h5
    obtain rfl := Option.some.inj ((show Tryz.prog.globalNamed "unicode/utf8.acceptRanges" = some 2 by kernel_rfl).symm.trans hg)
    unfold World.var? at hv
    rw [hg] at hv
    simp only [Option.bind_some] at hv
    rcases Nat.lt_or_ge 2 W.heap.size with h' | h'
    · exact h'
    · rw [Array.getElem?_eq_none h'] at hv
      simp at hv
end Go.Proofs.YtolikaginhjbhaaGreatDoor
/- A world that meets the condition of this seat's cards. -/
namespace Go.Proofs.YtolikaginhjbhaaGreatDoor
open Go.RowKit Go.Pen Go.ChangeShapes Go.WideShapes

def data9 : List (String × DataW Unit) := [("unicode/utf8.acceptRanges", Rows.laid_unicode_utf8_acceptRanges), ("unicode/utf8.first", Rows.laid_unicode_utf8_first)]

noncomputable def world0 (os : Os) : World :=
  let w0 := World.holding Tryz.prog os ⟨#[], #[], []⟩
  { w0 with heap := w0.heap.modify 0 fun
      | .cells _ t frozen => .cells #[.iface 248 (.agg #[.pointer (some ⟨7, 88, none⟩)])] t frozen
      | o => o }
noncomputable def laidWorld (os : Os) : World := (world0 os).layVars Tryz.prog data9
theorem laidWorld_os (os : Os) : (laidWorld os).os = os := World.layVars_os _ _ _

theorem laid_lay {P : Program} {w0 : World} {laid : List (String × DataW Unit)} (args : Array Value) (hf : w0.layFits P laid [] = true) (hi : w0.layIfaces P laid (w0.layVars P laid) = true) :
    laidMet P laid ((w0.layVars P laid).forCall (fun _ _ => 0) ⟨#[], args, []⟩).memory := by
  have e1 : (laid.filter fun x => (laid.map (·.1)).contains x.1) = laid := List.filter_eq_self.2 fun x hx => List.contains_iff_mem.2 (List.mem_map.2 ⟨x, hx, rfl⟩)
  have e2 : (laid.filter fun x => !(laid.map (·.1)).contains x.1) = [] := List.filter_eq_nil_iff.2 fun x hx => by rw [List.contains_iff_mem.2 (List.mem_map.2 ⟨x, hx, rfl⟩)]; simp
  have h : laidMet P laid (w0.layVars P laid) := laidMet_layVars (w0 := w0) (laid.map (·.1)) [] (by rw [e1]) (by rw [e1]; exact hf) (by rw [e1]; exact hi) (by rw [e2]; exact LaidIn.none)
  exact h.of_heap (by simp [World.memory, World.forCall, Input.heap])

theorem wit_met (os : Os) (args : Array Value) : laidMetH Tryz.prog laid9 ((laidWorld os).forCall (fun _ _ => 0) ⟨#[], args, []⟩).memory := by
  refine laidMetH_of_parts ?_ (by kernel_rfl)
  have f2 : (laid9.filter fun x => x.2.handleName?.isNone) = data9 := by kernel_rfl
  rw [f2]
  exact laid_lay args (by kernel_rfl) (by kernel_rfl)
theorem wit_shaped (os : Os) (args : Array Value) : ((laidWorld os).forCall (fun _ _ => 0) ⟨#[], args, []⟩).Shaped Tryz.prog :=
  World.shaped_of_ZipB (by kernel_rfl) (by kernel_rfl)
end Go.Proofs.YtolikaginhjbhaaGreatDoor
