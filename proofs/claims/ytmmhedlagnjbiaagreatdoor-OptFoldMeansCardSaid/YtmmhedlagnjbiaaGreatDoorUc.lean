import Derived.Test.YtmmhedlagnjbiaaGreatDoorUa
import Derived.Laws.EntriesVeiled
/- our texts, shortened by program (pack.py) -/
set_option maxRecDepth 100000
set_option maxHeartbeats 4000000
namespace Go.Proofs.YtmmhedlagnjbiaaGreatDoor
open Go.RowKit Go.Pen Go.Shelf
attribute [local go_sem] Oper.semAt_some
theorem cmpL_eq : ∀ (l m : List UInt8), cmpL l m = if Op.bytesLess l m = true then -1 else if (l == m) = true then 0 else 1
 | [], [] => by simp [cmpL, Op.bytesLess]
 | [], _ :: _ => by simp [cmpL, Op.bytesLess]
 | _ :: _, [] => by simp [cmpL, Op.bytesLess]
 | a :: l, b :: m => by
  simp only [cmpL, Op.bytesLess]
  by_cases h1 : a < b
  ·simp [h1]
  ·by_cases h2 : b < a
   ·have h3 : a ≠ b := fun e => by subst e; exact h1 h2
    simp [h1, h2, h3]
   ·have h3 : a = b := UInt8.le_antisymm (UInt8.not_lt.1 h2) (UInt8.not_lt.1 h1)
    subst h3
    simp [h1, cmpL_eq l m]
theorem cmpD_range (a b : Dat) : cmpD a b = -1 ∨ cmpD a b = 0 ∨ cmpD a b = 1 := by
 unfold cmpD
 split
 ·split
  ·simp
  ·split <;> simp
 ·split
  ·split
   ·simp
   ·split <;> simp
  ·split
   ·rw [cmpL_eq]
    split
    ·simp
    ·split <;> simp
   ·simp
theorem nan_215 (x : Int) (w : World) : Calls Tryz.prog 227 #[.int .i64 x] w fun ev w' => ev = .returned (.bool false) ∧ w' = w := by
 have hb : (x != x) = false := by simp
 go_enter Tryz.func227, Tryz.ntmps227
 go_wp2
 go_ret
 exact ⟨rfl, rfl⟩
theorem nan_228 (x : Int) (w : World) : Calls Tryz.prog 228 #[.int .i64 x] w fun ev w' => ev = .returned (.bool false) ∧ w' = w := by
 have hb : (x != x) = false := by simp
 go_enter Tryz.func228, Tryz.ntmps228
 go_wp2
 go_ret
 exact ⟨rfl, rfl⟩
theorem nan_229 (x : ByteArray) (w : World) : Calls Tryz.prog 229 #[.string x] w fun ev w' => ev = .returned (.bool false) ∧ w' = w := by
 have hb : (x.toList == x.toList) = true := by simp
 go_enter Tryz.func229, Tryz.ntmps229
 go_wp2
 go_ret
 exact ⟨rfl, rfl⟩
theorem cmp_223 (x y : Int) (w : World) : Calls Tryz.prog 212 #[.int .i64 x, .int .i64 y] w fun ev w' => ev = .returned (.int .i64 (if x < y then -1 else if y < x then 1 else 0)) ∧ w' = w := by
 by_cases h1 : x < y
 ·rw [if_pos h1]
  go_enter Tryz.func212, Tryz.ntmps212
  go_wp2_with (go_at_call 227; refine (nan_215 _ _).mono ?_; rintro ev w1 ⟨rfl, rfl⟩)
  go_ret
  exact ⟨rfl, rfl⟩
 ·rw [if_neg h1]
  by_cases h2 : y < x
  ·rw [if_pos h2]
   go_enter Tryz.func212, Tryz.ntmps212
   go_wp2_with (go_at_call 227; refine (nan_215 _ _).mono ?_; rintro ev w1 ⟨rfl, rfl⟩)
   go_ret
   exact ⟨rfl, rfl⟩
  ·rw [if_neg h2]
   go_enter Tryz.func212, Tryz.ntmps212
   go_wp2_with (go_at_call 227; refine (nan_215 _ _).mono ?_; rintro ev w1 ⟨rfl, rfl⟩)
   go_ret
   exact ⟨rfl, rfl⟩
theorem cmp_224 (x y : Int) (w : World) : Calls Tryz.prog 213 #[.int .i64 x, .int .i64 y] w fun ev w' => ev = .returned (.int .i64 (if x < y then -1 else if y < x then 1 else 0)) ∧ w' = w := by
 by_cases h1 : x < y
 ·rw [if_pos h1]
  go_enter Tryz.func213, Tryz.ntmps213
  go_wp2_with (go_at_call 228; refine (nan_228 _ _).mono ?_; rintro ev w1 ⟨rfl, rfl⟩)
  go_ret
  exact ⟨rfl, rfl⟩
 ·rw [if_neg h1]
  by_cases h2 : y < x
  ·rw [if_pos h2]
   go_enter Tryz.func213, Tryz.ntmps213
   go_wp2_with (go_at_call 228; refine (nan_228 _ _).mono ?_; rintro ev w1 ⟨rfl, rfl⟩)
   go_ret
   exact ⟨rfl, rfl⟩
  ·rw [if_neg h2]
   go_enter Tryz.func213, Tryz.ntmps213
   go_wp2_with (go_at_call 228; refine (nan_228 _ _).mono ?_; rintro ev w1 ⟨rfl, rfl⟩)
   go_ret
   exact ⟨rfl, rfl⟩
theorem cmp_225 (x y : ByteArray) (w : World) : Calls Tryz.prog 214 #[.string x, .string y] w fun ev w' => ev = .returned (.int .i64 (cmpL x.data.toList y.data.toList)) ∧ w' = w := by
 rw [cmpL_eq, ← Lib.toList_data, ← Lib.toList_data]
 obtain ⟨l, hl⟩ : ∃ l, Op.bytesLess x.toList y.toList = l := ⟨_, rfl⟩
 obtain ⟨e, he⟩ : ∃ e, (x.toList == y.toList) = e := ⟨_, rfl⟩
 rw [hl, he]
 cases l
 ·cases e
  ·rw [if_neg (by decide), if_neg (by decide)]
   go_enter Tryz.func214, Tryz.ntmps214
   go_wp2_with (go_at_call 229; refine (nan_229 _ _).mono ?_; rintro ev w1 ⟨rfl, rfl⟩)
   go_ret
   exact ⟨rfl, rfl⟩
  ·rw [if_neg (by decide), if_pos rfl]
   go_enter Tryz.func214, Tryz.ntmps214
   go_wp2_with (go_at_call 229; refine (nan_229 _ _).mono ?_; rintro ev w1 ⟨rfl, rfl⟩)
   go_ret
   exact ⟨rfl, rfl⟩
 ·rw [if_pos rfl]
  go_enter Tryz.func214, Tryz.ntmps214
  go_wp2_with (go_at_call 229; refine (nan_229 _ _).mono ?_; rintro ev w1 ⟨rfl, rfl⟩)
  go_ret
  exact ⟨rfl, rfl⟩
theorem rank_222 (d : Dat) (w : World) : Calls Tryz.prog 211 #[d.agg] w fun ev w' => ev = .returned (.int .i64 (if d.bool = true then 1 else 0)) ∧ Below w.heap.size w w' := by
 obtain ⟨k, b, n, t⟩ := d
 unfold Dat.agg
 cases b
 ·go_enter Tryz.func211, Tryz.ntmps211
  go_wp2
  go_ret
  exact ⟨rfl, one_below _ _⟩
 ·go_enter Tryz.func211, Tryz.ntmps211
  go_wp2
  go_ret
  exact ⟨rfl, one_below _ _⟩
theorem cmp_bool (a b : Bool) : (if (if a = true then (1 : Int) else 0) < (if b = true then (1 : Int) else 0) then (-1 : Int) else if (if b = true then (1 : Int) else 0) < (if a = true then (1 : Int) else 0) then 1 else 0) = if a = b then 0 else if b = true then -1 else 1 := by
 cases a <;> cases b <;> rfl
theorem cmp_208 (a b : Dat) (w : World) (hk : a.kind = b.kind) : Calls Tryz.prog 206 #[a.agg, b.agg] w fun ev w' => ev = .returned (.int .i64 (cmpD a b)) ∧ Below w.heap.size w w' := by
 have hra := rank_222 a
 have hrb := rank_222 b
 have hbs := cmp_bool a.bool b.bool
 obtain ⟨ra, ea⟩ : ∃ r, (if a.bool = true then (1 : Int) else 0) = r := ⟨_, rfl⟩
 obtain ⟨rb, eb⟩ : ∃ r, (if b.bool = true then (1 : Int) else 0) = r := ⟨_, rfl⟩
 rw [ea] at hra hbs
 rw [eb] at hrb hbs
 unfold Dat.agg at *
 have HRA := Lib.hid hra
 have HRB := Lib.hid hrb
 have HBS := Lib.hid hbs
 obtain ⟨c, hc⟩ : ∃ c, cmpD a b = c := ⟨_, rfl⟩
 rw [hc]
 unfold cmpD at hc
 have qk : (a.kind != b.kind) = false := by simp [hk]
 clear hra hrb hbs
 by_cases h2 : a.kind = 2
 ·rw [if_pos h2] at hc
  have q2 : (a.kind == 2) = true := by simp [h2]
  have hcc : ∀ W, Calls Tryz.prog 212 #[.int .i64 ra, .int .i64 rb] W fun ev w' => ev = .returned (.int .i64 c) ∧ w' = W := fun W => by rw [← hc, ← HBS.out]; exact cmp_223 _ _ W
  have HC := Lib.hid hcc
  clear h2 hc hk hcc ea eb
  obtain ⟨w1, hw1⟩ : ∃ w1, w1 = (w.alloc (.cells #[.int .u8 a.kind, .bool a.bool, .int .i64 a.int, .string a.text] 25)).alloc (.cells #[.int .u8 b.kind, .bool b.bool, .int .i64 b.int, .string b.text] 25) := ⟨_, rfl⟩
  have hb1 : Below w.heap.size w w1 := by rw [hw1]; exact two_below _ _ _
  have ht := two_at (w := w) (w1 := w1) (a := .cells #[.int .u8 a.kind, .bool a.bool, .int .i64 a.int, .string a.text] 25) (b := .cells #[.int .u8 b.kind, .bool b.bool, .int .i64 b.int, .string b.text] 25) (by rw [hw1]; exact Below.refl _ _)
  have hs1 : w1.cell? ⟨w.heap.size, 0, none⟩ = some (.int .u8 a.kind) ∧ w1.cell? ⟨w.heap.size, 1, none⟩ = some (.bool a.bool) ∧ w1.cell? ⟨w.heap.size, 2, none⟩ = some (.int .i64 a.int) ∧ w1.cell? ⟨w.heap.size, 3, none⟩ = some (.string a.text) ∧ w1.cell? ⟨w.heap.size + 1, 0, none⟩ = some (.int .u8 b.kind) ∧ w1.cell? ⟨w.heap.size + 1, 1, none⟩ = some (.bool b.bool) ∧ w1.cell? ⟨w.heap.size + 1, 2, none⟩ = some (.int .i64 b.int) ∧ w1.cell? ⟨w.heap.size + 1, 3, none⟩ = some (.string b.text) := ⟨cell_of_heap ht.1 rfl, cell_of_heap ht.1 rfl, cell_of_heap ht.1 rfl, cell_of_heap ht.1 rfl, cell_of_heap ht.2 rfl, cell_of_heap ht.2 rfl, cell_of_heap ht.2 rfl, cell_of_heap ht.2 rfl⟩
  have hkeep : ∀ (w' : World), Below w1.heap.size w1 w' → w'.cell? ⟨w.heap.size, 0, none⟩ = some (.int .u8 a.kind) ∧ w'.cell? ⟨w.heap.size, 1, none⟩ = some (.bool a.bool) ∧ w'.cell? ⟨w.heap.size, 2, none⟩ = some (.int .i64 a.int) ∧ w'.cell? ⟨w.heap.size, 3, none⟩ = some (.string a.text) ∧ w'.cell? ⟨w.heap.size + 1, 0, none⟩ = some (.int .u8 b.kind) ∧ w'.cell? ⟨w.heap.size + 1, 1, none⟩ = some (.bool b.bool) ∧ w'.cell? ⟨w.heap.size + 1, 2, none⟩ = some (.int .i64 b.int) ∧ w'.cell? ⟨w.heap.size + 1, 3, none⟩ = some (.string b.text) := fun w' hb => ⟨cell_keep hb hs1.1, cell_keep hb hs1.2.1, cell_keep hb hs1.2.2.1, cell_keep hb hs1.2.2.2.1, cell_keep hb hs1.2.2.2.2.1, cell_keep hb hs1.2.2.2.2.2.1, cell_keep hb hs1.2.2.2.2.2.2.1, cell_keep hb hs1.2.2.2.2.2.2.2⟩
  have HW1 := Lib.hid hw1
  have HB1 := Lib.hid hb1
  have S1 := Lib.hid hs1
  have HKEEP := Lib.hid hkeep
  have hen := enters_of Tryz.func211 (by kernel_rfl) rfl
  clear hw1 hb1 ht hs1 hkeep
  go_enter Tryz.func206, Tryz.ntmps206
  go_wp2_with fail
  rw [← HW1.out]
  obtain ⟨s0, s1, s2, s3, s4, s5, s6, s7⟩ := S1.out
  have hbS : Hid (Below w1.heap.size w1 w1) := Lib.hid (Below.refl _ _)
  go_region_held3 (fun w' => w'.cell? ⟨w.heap.size, 0, none⟩ = some (.int .u8 a.kind) ∧ w'.cell? ⟨w.heap.size, 1, none⟩ = some (.bool a.bool) ∧ w'.cell? ⟨w.heap.size, 2, none⟩ = some (.int .i64 a.int) ∧ w'.cell? ⟨w.heap.size, 3, none⟩ = some (.string a.text) ∧ w'.cell? ⟨w.heap.size + 1, 0, none⟩ = some (.int .u8 b.kind) ∧ w'.cell? ⟨w.heap.size + 1, 1, none⟩ = some (.bool b.bool) ∧ w'.cell? ⟨w.heap.size + 1, 2, none⟩ = some (.int .i64 b.int) ∧ w'.cell? ⟨w.heap.size + 1, 3, none⟩ = some (.string b.text))
   (first | go_keep | exact HKEEP.out _ hbS.out)
   (first
   | (go_at_call 212; refine (HC.out _).mono ?_; rintro ev w5 ⟨rfl, rfl⟩)
   | (go_at_call 211; refine (HRA.out _).mono ?_; rintro ev w6 ⟨rfl, hb6⟩; have hbS : Hid (Below w1.heap.size w1 w6) := Lib.hid (hbS.out.trans ((show Below _ _ w6 by first | exact hb6 | exact below_undrew hb6 | exact below_undrewN hb6).mono hbS.out.size)); clear hb6)
   | (go_at_call 211; refine (HRB.out _).mono ?_; rintro ev w6 ⟨rfl, hb6⟩; have hbS : Hid (Below w1.heap.size w1 w6) := Lib.hid (hbS.out.trans ((show Below _ _ w6 by first | exact hb6 | exact below_undrew hb6 | exact below_undrewN hb6).mono hbS.out.size)); clear hb6))
  go_wp2
  go_ret
  exact ⟨rfl, HB1.out.trans (hbS.out.mono HB1.out.size)⟩
 ·have q2 : (a.kind == 2) = false := by simp [h2]
  rw [if_neg h2] at hc
  by_cases h3 : a.kind = 3
  ·rw [if_pos h3] at hc
   have q3 : (a.kind == 3) = true := by simp [h3]
   have hcc : ∀ W, Calls Tryz.prog 213 #[.int .i64 a.int, .int .i64 b.int] W fun ev w' => ev = .returned (.int .i64 c) ∧ w' = W := fun W => by rw [← hc]; exact cmp_224 _ _ W
   have HC := Lib.hid hcc
   clear h2 h3 hc hk hcc
   go_enter Tryz.func206, Tryz.ntmps206
   go_wp2_with (go_at_call 213; refine (HC.out _).mono ?_; rintro ev w5 ⟨rfl, rfl⟩)
   go_ret
   exact ⟨rfl, two_below _ _ _⟩
  ·have q3 : (a.kind == 3) = false := by simp [h3]
   rw [if_neg h3] at hc
   by_cases h4 : a.kind = 4
   ·rw [if_pos h4] at hc
    have q4 : (a.kind == 4) = true := by simp [h4]
    have hcc : ∀ W, Calls Tryz.prog 214 #[.string a.text, .string b.text] W fun ev w' => ev = .returned (.int .i64 c) ∧ w' = W := fun W => by rw [← hc]; exact cmp_225 _ _ W
    have HC := Lib.hid hcc
    clear h2 h3 h4 hc hk hcc
    go_enter Tryz.func206, Tryz.ntmps206
    go_wp2_with (go_at_call 214; refine (HC.out _).mono ?_; rintro ev w5 ⟨rfl, rfl⟩)
    go_ret
    exact ⟨rfl, two_below _ _ _⟩
   ·have q4 : (a.kind == 4) = false := by simp [h4]
    rw [if_neg h4] at hc
    subst hc
    clear h2 h3 h4 hk
    go_enter Tryz.func206, Tryz.ntmps206
    go_wp2_with fail
    go_ret
    exact ⟨rfl, two_below _ _ _⟩
theorem compare_175 (o : Int) (a b : Dat) (w : World) (h1 : 11 ≤ o) (h2 : o ≤ 16) (fa : a.fits) (fb : b.fits) (hT : Lib.Utf8Tabs 0 1 w) (h11 : 3 ≤ w.heap.size) :
  Calls Tryz.prog 192 #[.int .u8 o, a.agg, b.agg] w (ResPost (compD o a b) w) := by
 have hca := fun (W : World) (hb : Below w.heap.size w W) => check_54 a W fa (tabs_below hT hb h11) (Nat.le_trans h11 hb.size)
 have hcb := fun (W : World) (hb : Below w.heap.size w W) => check_54 b W fb (tabs_below hT hb h11) (Nat.le_trans h11 hb.size)
 obtain ⟨X, hX⟩ : ∃ X, compD o a b = X := ⟨_, rfl⟩
 rw [hX]
 unfold compD okD at hX
 have g1 : ¬ o < 11 := by omega
 have g2 : ¬ 16 < o := by omega
 have hcm := cmp_208 a b
 unfold Dat.agg at *
 clear fa fb hT
 by_cases ea : chkD a = 0
 rotate_left
 ·have HCA := Lib.hid hca
  have q : ((chkD a : Int) != 0) = true := by simp; exact ea
  rw [if_pos (.inl (by simpa using ea))] at hX
  subst hX
  clear hca hcb hcm ea h1 h2
  go_enter Tryz.func192, Tryz.ntmps192
  go_wp2_with (first | (go_at_call 29; refine (HCA.out _ (three_below _ _ _ _)).mono ?_; rintro ev w4 ⟨rfl, hb4⟩; obtain ⟨t1, t2, t3⟩ := three_at hb4; obtain ⟨a0, a1, a2, a3⟩ := cs4 t1; obtain ⟨b0, b1, b2, b3⟩ := cs4 t2; obtain ⟨z0, g0, z1, g1, z2, g2, z3, g3⟩ := cf4 t3; have T1 := Lib.hid t1; have T2 := Lib.hid t2; have T3 := Lib.hid t3; have HB4 := Lib.hid ((three_below _ _ _ _).trans (hb4.mono (by simp <;> omega))); clear hb4 t1 t2 t3 HCA))
  refine bodyPost_ret (results_row_tmp rfl _ _ (w.heap.size + 1 + 1) 25 _ (0, 0) _ rfl (setRow4_at T3.out) Tryz.underlying25 rfl (by kernel_rfl)) rfl ?_
  exact ⟨rfl, setRow4_below HB4.out (by show w.heap.size ≤ w.heap.size + 1 + 1; omega)⟩
 ·rw [ea] at hca
  have HCA := Lib.hid hca
  by_cases eb : chkD b = 0
  rotate_left
  ·have HCB := Lib.hid hcb
   have q : ((chkD b : Int) != 0) = true := by simp; exact eb
   rw [if_pos (.inr (by simpa using eb))] at hX
   subst hX
   clear hca hcb hcm ea eb h1 h2
   go_enter Tryz.func192, Tryz.ntmps192
   go_wp2_with (first | (go_at_call 29; refine (HCA.out _ (three_below _ _ _ _)).mono ?_; rintro ev w4 ⟨rfl, hb4⟩; obtain ⟨t1, t2, t3⟩ := three_at hb4; obtain ⟨a0, a1, a2, a3⟩ := cs4 t1; obtain ⟨b0, b1, b2, b3⟩ := cs4 t2; obtain ⟨z0, g0, z1, g1, z2, g2, z3, g3⟩ := cf4 t3; have T1 := Lib.hid t1; have T2 := Lib.hid t2; have T3 := Lib.hid t3; have HB4 := Lib.hid ((three_below _ _ _ _).trans (hb4.mono (by simp <;> omega))); clear hb4 t1 t2 t3 HCA) | (go_at_call 29; refine (HCB.out _ HB4.out).mono ?_; rintro ev w5 ⟨rfl, hb5⟩; clear a0 b0 z0 g0 a1 b1 z1 g1 a2 b2 z2 g2 a3 b3 z3 g3; have t1 := (hb5.block _ (lt_of_heap T1.out)).trans T1.out; have t2 := (hb5.block _ (lt_of_heap T2.out)).trans T2.out; have t3 := (hb5.block _ (lt_of_heap T3.out)).trans T3.out; obtain ⟨a0, a1, a2, a3⟩ := cs4 t1; obtain ⟨b0, b1, b2, b3⟩ := cs4 t2; obtain ⟨z0, g0, z1, g1, z2, g2, z3, g3⟩ := cf4 t3; have T1 := Lib.hid t1; have T2 := Lib.hid t2; have T3 := Lib.hid t3; have HB4 := Lib.hid (HB4.out.trans (hb5.mono HB4.out.size)); clear hb5 t1 t2 t3 HCB))
   refine bodyPost_ret (results_row_tmp rfl _ _ (w.heap.size + 1 + 1) 25 _ (0, 0) _ rfl (setRow4_at T3.out) Tryz.underlying25 rfl (by kernel_rfl)) rfl ?_
   exact ⟨rfl, setRow4_below HB4.out (by show w.heap.size ≤ w.heap.size + 1 + 1; omega)⟩
  ·rw [eb] at hcb
   have HCB := Lib.hid hcb
   rw [ea, eb, if_neg (by simp)] at hX
   clear hca hcb ea eb
   by_cases ka : a.kind = 1
   ·rw [if_pos (.inl ka)] at hX
    subst hX
    have q : (a.kind == 1) = true := by simp [ka]
    clear hcm ka h1 h2
    go_enter Tryz.func192, Tryz.ntmps192
    go_wp2_with (first | (go_at_call 29; refine (HCA.out _ (three_below _ _ _ _)).mono ?_; rintro ev w4 ⟨rfl, hb4⟩; obtain ⟨t1, t2, t3⟩ := three_at hb4; obtain ⟨a0, a1, a2, a3⟩ := cs4 t1; obtain ⟨b0, b1, b2, b3⟩ := cs4 t2; obtain ⟨z0, g0, z1, g1, z2, g2, z3, g3⟩ := cf4 t3; have T1 := Lib.hid t1; have T2 := Lib.hid t2; have T3 := Lib.hid t3; have HB4 := Lib.hid ((three_below _ _ _ _).trans (hb4.mono (by simp <;> omega))); clear hb4 t1 t2 t3 HCA) | (go_at_call 29; refine (HCB.out _ HB4.out).mono ?_; rintro ev w5 ⟨rfl, hb5⟩; clear a0 b0 z0 g0 a1 b1 z1 g1 a2 b2 z2 g2 a3 b3 z3 g3; have t1 := (hb5.block _ (lt_of_heap T1.out)).trans T1.out; have t2 := (hb5.block _ (lt_of_heap T2.out)).trans T2.out; have t3 := (hb5.block _ (lt_of_heap T3.out)).trans T3.out; obtain ⟨a0, a1, a2, a3⟩ := cs4 t1; obtain ⟨b0, b1, b2, b3⟩ := cs4 t2; obtain ⟨z0, g0, z1, g1, z2, g2, z3, g3⟩ := cf4 t3; have T1 := Lib.hid t1; have T2 := Lib.hid t2; have T3 := Lib.hid t3; have HB4 := Lib.hid (HB4.out.trans (hb5.mono HB4.out.size)); clear hb5 t1 t2 t3 HCB) | (go_at_call 205; refine (null_207 _).mono ?_; rintro ev w7 ⟨rfl, hb7⟩; clear a0 b0 z0 g0 a1 b1 z1 g1 a2 b2 z2 g2 a3 b3 z3 g3; have t1 := (hb7.block _ (lt_of_heap T1.out)).trans T1.out; have t2 := (hb7.block _ (lt_of_heap T2.out)).trans T2.out; have t3 := (hb7.block _ (lt_of_heap T3.out)).trans T3.out; obtain ⟨a0, a1, a2, a3⟩ := cs4 t1; obtain ⟨b0, b1, b2, b3⟩ := cs4 t2; obtain ⟨z0, g0, z1, g1, z2, g2, z3, g3⟩ := cf4 t3; have T1 := Lib.hid t1; have T2 := Lib.hid t2; have T3 := Lib.hid t3; have HB4 := Lib.hid (HB4.out.trans (hb7.mono HB4.out.size)); clear hb7 t1 t2 t3; unfold nul Dat.agg))
    refine bodyPost_ret (results_row_tmp rfl _ _ (w.heap.size + 1 + 1) 25 _ (0, 0) _ rfl (setRow4_at T3.out) Tryz.underlying25 rfl (by kernel_rfl)) rfl ?_
    exact ⟨rfl, setRow4_below HB4.out (by show w.heap.size ≤ w.heap.size + 1 + 1; omega)⟩
   ·have q : (a.kind == 1) = false := by simp [ka]
    by_cases kb : b.kind = 1
    ·rw [if_pos (.inr kb)] at hX
     subst hX
     have q' : (b.kind == 1) = true := by simp [kb]
     clear hcm ka kb h1 h2
     go_enter Tryz.func192, Tryz.ntmps192
     go_wp2_with (first | (go_at_call 29; refine (HCA.out _ (three_below _ _ _ _)).mono ?_; rintro ev w4 ⟨rfl, hb4⟩; obtain ⟨t1, t2, t3⟩ := three_at hb4; obtain ⟨a0, a1, a2, a3⟩ := cs4 t1; obtain ⟨b0, b1, b2, b3⟩ := cs4 t2; obtain ⟨z0, g0, z1, g1, z2, g2, z3, g3⟩ := cf4 t3; have T1 := Lib.hid t1; have T2 := Lib.hid t2; have T3 := Lib.hid t3; have HB4 := Lib.hid ((three_below _ _ _ _).trans (hb4.mono (by simp <;> omega))); clear hb4 t1 t2 t3 HCA) | (go_at_call 29; refine (HCB.out _ HB4.out).mono ?_; rintro ev w5 ⟨rfl, hb5⟩; clear a0 b0 z0 g0 a1 b1 z1 g1 a2 b2 z2 g2 a3 b3 z3 g3; have t1 := (hb5.block _ (lt_of_heap T1.out)).trans T1.out; have t2 := (hb5.block _ (lt_of_heap T2.out)).trans T2.out; have t3 := (hb5.block _ (lt_of_heap T3.out)).trans T3.out; obtain ⟨a0, a1, a2, a3⟩ := cs4 t1; obtain ⟨b0, b1, b2, b3⟩ := cs4 t2; obtain ⟨z0, g0, z1, g1, z2, g2, z3, g3⟩ := cf4 t3; have T1 := Lib.hid t1; have T2 := Lib.hid t2; have T3 := Lib.hid t3; have HB4 := Lib.hid (HB4.out.trans (hb5.mono HB4.out.size)); clear hb5 t1 t2 t3 HCB) | (go_at_call 205; refine (null_207 _).mono ?_; rintro ev w7 ⟨rfl, hb7⟩; clear a0 b0 z0 g0 a1 b1 z1 g1 a2 b2 z2 g2 a3 b3 z3 g3; have t1 := (hb7.block _ (lt_of_heap T1.out)).trans T1.out; have t2 := (hb7.block _ (lt_of_heap T2.out)).trans T2.out; have t3 := (hb7.block _ (lt_of_heap T3.out)).trans T3.out; obtain ⟨a0, a1, a2, a3⟩ := cs4 t1; obtain ⟨b0, b1, b2, b3⟩ := cs4 t2; obtain ⟨z0, g0, z1, g1, z2, g2, z3, g3⟩ := cf4 t3; have T1 := Lib.hid t1; have T2 := Lib.hid t2; have T3 := Lib.hid t3; have HB4 := Lib.hid (HB4.out.trans (hb7.mono HB4.out.size)); clear hb7 t1 t2 t3; unfold nul Dat.agg))
     refine bodyPost_ret (results_row_tmp rfl _ _ (w.heap.size + 1 + 1) 25 _ (0, 0) _ rfl (setRow4_at T3.out) Tryz.underlying25 rfl (by kernel_rfl)) rfl ?_
     exact ⟨rfl, setRow4_below HB4.out (by show w.heap.size ≤ w.heap.size + 1 + 1; omega)⟩
    ·have q' : (b.kind == 1) = false := by simp [kb]
     rw [if_neg (by rintro (h | h); exact ka h; exact kb h)] at hX
     by_cases kk : a.kind = b.kind
     rotate_left
     ·rw [if_pos kk] at hX
      subst hX
      have q'' : (a.kind != b.kind) = true := by simp [kk]
      clear hcm ka kb kk h1 h2
      go_enter Tryz.func192, Tryz.ntmps192
      go_wp2_with (first | (go_at_call 29; refine (HCA.out _ (three_below _ _ _ _)).mono ?_; rintro ev w4 ⟨rfl, hb4⟩; obtain ⟨t1, t2, t3⟩ := three_at hb4; obtain ⟨a0, a1, a2, a3⟩ := cs4 t1; obtain ⟨b0, b1, b2, b3⟩ := cs4 t2; obtain ⟨z0, g0, z1, g1, z2, g2, z3, g3⟩ := cf4 t3; have T1 := Lib.hid t1; have T2 := Lib.hid t2; have T3 := Lib.hid t3; have HB4 := Lib.hid ((three_below _ _ _ _).trans (hb4.mono (by simp <;> omega))); clear hb4 t1 t2 t3 HCA) | (go_at_call 29; refine (HCB.out _ HB4.out).mono ?_; rintro ev w5 ⟨rfl, hb5⟩; clear a0 b0 z0 g0 a1 b1 z1 g1 a2 b2 z2 g2 a3 b3 z3 g3; have t1 := (hb5.block _ (lt_of_heap T1.out)).trans T1.out; have t2 := (hb5.block _ (lt_of_heap T2.out)).trans T2.out; have t3 := (hb5.block _ (lt_of_heap T3.out)).trans T3.out; obtain ⟨a0, a1, a2, a3⟩ := cs4 t1; obtain ⟨b0, b1, b2, b3⟩ := cs4 t2; obtain ⟨z0, g0, z1, g1, z2, g2, z3, g3⟩ := cf4 t3; have T1 := Lib.hid t1; have T2 := Lib.hid t2; have T3 := Lib.hid t3; have HB4 := Lib.hid (HB4.out.trans (hb5.mono HB4.out.size)); clear hb5 t1 t2 t3 HCB))
      refine bodyPost_ret (results_row_tmp rfl _ _ (w.heap.size + 1 + 1) 25 _ (0, 0) _ rfl (setRow4_at T3.out) Tryz.underlying25 rfl (by kernel_rfl)) rfl ?_
      exact ⟨rfl, setRow4_below HB4.out (by show w.heap.size ≤ w.heap.size + 1 + 1; omega)⟩
     ·have q'' : (a.kind != b.kind) = false := by simp [kk]
      rw [if_neg (fun h => h kk)] at hX
      have hcm := fun W => hcm W kk
      have hr := cmpD_range a b
      generalize cmpD a b = c at hX hcm hr
      have HCM := Lib.hid hcm
      clear hcm ka kb kk
      rcases (show o = 11 ∨ o = 12 ∨ o = 13 ∨ o = 14 ∨ o = 15 ∨ o = 16 by omega) with rfl | rfl | rfl | rfl | rfl | rfl
      all_goals
       clear h1 h2 g1 g2
       rcases hr with rfl | rfl | rfl
       all_goals
        subst hX
        go_enter Tryz.func192, Tryz.ntmps192
        go_wp2_with (first | (go_at_call 29; refine (HCA.out _ (three_below _ _ _ _)).mono ?_; rintro ev w4 ⟨rfl, hb4⟩; obtain ⟨t1, t2, t3⟩ := three_at hb4; obtain ⟨a0, a1, a2, a3⟩ := cs4 t1; obtain ⟨b0, b1, b2, b3⟩ := cs4 t2; obtain ⟨z0, g0, z1, g1, z2, g2, z3, g3⟩ := cf4 t3; have T1 := Lib.hid t1; have T2 := Lib.hid t2; have T3 := Lib.hid t3; have HB4 := Lib.hid ((three_below _ _ _ _).trans (hb4.mono (by simp <;> omega))); clear hb4 t1 t2 t3 HCA) | (go_at_call 29; refine (HCB.out _ HB4.out).mono ?_; rintro ev w5 ⟨rfl, hb5⟩; clear a0 b0 z0 g0 a1 b1 z1 g1 a2 b2 z2 g2 a3 b3 z3 g3; have t1 := (hb5.block _ (lt_of_heap T1.out)).trans T1.out; have t2 := (hb5.block _ (lt_of_heap T2.out)).trans T2.out; have t3 := (hb5.block _ (lt_of_heap T3.out)).trans T3.out; obtain ⟨a0, a1, a2, a3⟩ := cs4 t1; obtain ⟨b0, b1, b2, b3⟩ := cs4 t2; obtain ⟨z0, g0, z1, g1, z2, g2, z3, g3⟩ := cf4 t3; have T1 := Lib.hid t1; have T2 := Lib.hid t2; have T3 := Lib.hid t3; have HB4 := Lib.hid (HB4.out.trans (hb5.mono HB4.out.size)); clear hb5 t1 t2 t3 HCB) | (go_at_call 206; refine (HCM.out _).mono ?_; rintro ev w6 ⟨rfl, hb6⟩; clear a0 b0 z0 g0 a1 b1 z1 g1 a2 b2 z2 g2 a3 b3 z3 g3; have t1 := (hb6.block _ (lt_of_heap T1.out)).trans T1.out; have t2 := (hb6.block _ (lt_of_heap T2.out)).trans T2.out; have t3 := (hb6.block _ (lt_of_heap T3.out)).trans T3.out; obtain ⟨a0, a1, a2, a3⟩ := cs4 t1; obtain ⟨b0, b1, b2, b3⟩ := cs4 t2; obtain ⟨z0, g0, z1, g1, z2, g2, z3, g3⟩ := cf4 t3; have T1 := Lib.hid t1; have T2 := Lib.hid t2; have T3 := Lib.hid t3; have HB4 := Lib.hid (HB4.out.trans (hb6.mono HB4.out.size)); clear hb6 t1 t2 t3) | (go_at_call 183; refine (boolean_166 _ _).mono ?_; rintro ev w8 ⟨rfl, hb8⟩; clear a0 b0 z0 g0 a1 b1 z1 g1 a2 b2 z2 g2 a3 b3 z3 g3; have t1 := (hb8.block _ (lt_of_heap T1.out)).trans T1.out; have t2 := (hb8.block _ (lt_of_heap T2.out)).trans T2.out; have t3 := (hb8.block _ (lt_of_heap T3.out)).trans T3.out; obtain ⟨a0, a1, a2, a3⟩ := cs4 t1; obtain ⟨b0, b1, b2, b3⟩ := cs4 t2; obtain ⟨z0, g0, z1, g1, z2, g2, z3, g3⟩ := cf4 t3; have T1 := Lib.hid t1; have T2 := Lib.hid t2; have T3 := Lib.hid t3; have HB4 := Lib.hid (HB4.out.trans (hb8.mono HB4.out.size)); clear hb8 t1 t2 t3; unfold boo Dat.agg))
        refine bodyPost_ret (results_row_tmp rfl _ _ (w.heap.size + 1 + 1) 25 _ (0, 0) _ rfl (setRow4_at T3.out) Tryz.underlying25 rfl (by kernel_rfl)) rfl ?_
        exact ⟨rfl, setRow4_below HB4.out (by show w.heap.size ≤ w.heap.size + 1 + 1; omega)⟩
theorem of_127 (o : Int) (a b : Dat) (w : World) (h1 : 11 ≤ o) (h2 : o ≤ 16) (fa : a.fits) (fb : b.fits) (hT : Lib.Utf8Tabs 0 1 w) (h11 : 3 ≤ w.heap.size) :
  Calls Tryz.prog 150 #[.int .u8 o, a.agg, b.agg] w (ResPost (compD o a b) w) := by
 have hca := fun (W : World) (hb : Below w.heap.size w W) => compare_175 o a b W h1 h2 fa fb (tabs_below hT hb h11) (Nat.le_trans h11 hb.size)
 obtain ⟨X, eX⟩ : ∃ X, X = compD o a b := ⟨_, rfl⟩
 rw [← eX] at hca ⊢
 unfold Dat.agg at *
 have HCA := Lib.hid hca
 clear eX hca fa fb hT
 go_enter Tryz.func150, Tryz.ntmps150
 go_wp2_with (go_at_call 192; refine (HCA.out _ (three_below _ _ _ _)).mono ?_; rintro ev w4 ⟨rfl, hb4⟩; obtain ⟨t1, t2, t3⟩ := three_at hb4; obtain ⟨z0, g0, z1, g1, z2, g2, z3, g3⟩ := cf4 t3; have T3 := Lib.hid t3; have HB4 := Lib.hid ((three_below _ _ _ _).trans (hb4.mono (by simp <;> omega))); clear hb4 t1 t2 t3; unfold resT Dat.agg)
 refine bodyPost_ret (results_row_tmp rfl _ _ (w.heap.size + 1 + 1) 25 _ (0, 0) _ rfl (setRow4_at T3.out) Tryz.underlying25 rfl (by kernel_rfl)) rfl ?_
 exact ⟨rfl, setRow4_below HB4.out (by show w.heap.size ≤ w.heap.size + 1 + 1; omega)⟩
theorem two_128 (o : Int) (a b : Dat) (F O : Nat) (w : World) (h1 : 11 ≤ o) (h2 : o ≤ 16) (fa : a.fits) (fb : b.fits) (hT : Lib.Utf8Tabs 0 1 w) (h11 : 3 ≤ w.heap.size)
  (hF : w.heap[F]? = some (.cells #[.func (.func 150) #[] #[]] 193 (0, 0))) (hO : w.heap[O]? = some (.cells #[.int .u8 o] 5 (0, 0))) :
  Calls Tryz.prog 151 #[a.agg, b.agg, .pointer (some ⟨F, 0, none⟩), .pointer (some ⟨O, 0, none⟩)] w (ResPost (compD o a b) w) := by
 have hca := fun (W : World) (hb : Below w.heap.size w W) => of_127 o a b W h1 h2 fa fb (tabs_below hT hb h11) (Nat.le_trans h11 hb.size)
 obtain ⟨X, eX⟩ : ∃ X, X = compD o a b := ⟨_, rfl⟩
 rw [← eX] at hca ⊢
 unfold Dat.agg at *
 have HCA := Lib.hid hca
 have f0 := fun (A B C : Obj) => cell_keep (three_below w A B C) (cell_of_heap (o := 0) hF rfl)
 have o0 := fun (A B C : Obj) => cell_keep (three_below w A B C) (cell_of_heap (o := 0) hO rfl)
 have lf := lt_of_heap hF
 have lo := lt_of_heap hO
 clear eX hca fa fb hT hF hO
 go_enter Tryz.func151, Tryz.ntmps151
 go_wp2_with fail
 refine (HCA.out _ (three_below _ _ _ _)).mono ?_
 rintro ev w4 ⟨rfl, hb4⟩
 obtain ⟨t1, t2, t3⟩ := three_at hb4
 obtain ⟨z0, g0, z1, g1, z2, g2, z3, g3⟩ := cf4 t3
 have T3 := Lib.hid t3
 have HB4 := Lib.hid ((three_below _ _ _ _).trans (hb4.mono (by simp <;> omega)))
 clear hb4 t1 t2 t3
 unfold resT Dat.agg
 go_wp2
 refine bodyPost_ret (results_row_tmp rfl _ _ (w.heap.size + 1 + 1) 25 _ (0, 0) _ rfl (setRow4_at T3.out) Tryz.underlying25 rfl (by kernel_rfl)) rfl ?_
 exact ⟨rfl, setRow4_below HB4.out (by show w.heap.size ≤ w.heap.size + 1 + 1; omega)⟩
end Go.Proofs.YtmmhedlagnjbiaaGreatDoor
