import Derived.Test.YtmmhedlagnjbiaaGreatDoorFa
import Derived.Lib.TrimUEq
import Derived.Lib.RuneCount
/- our texts, shortened by program (pack.py) -/
set_option maxRecDepth 100000
set_option maxHeartbeats 1000000
namespace Go.Proofs.YtmmhedlagnjbiaaGreatDoor
open Go.RowKit Go.Pen Go.Shelf
theorem mul_in {x y : Int} (h0 : y ≠ 0) (hx : -9223372036854775808 ≤ x ∧ x ≤ 9223372036854775807) (h : -9223372036854775808 ≤ x * y ∧ x * y ≤ 9223372036854775807) : wrap64 (Int.tdiv (wrap64 (x * y)) y) = x := by
 have hw : wrap64 (x * y) = x * y := by unfold wrap64; omega
 rw [hw, Int.mul_tdiv_cancel x h0]
 unfold wrap64; omega
theorem mul_out {x y : Int} (h0 : y ≠ 0) (hx : -9223372036854775808 ≤ x ∧ x ≤ 9223372036854775807) (hy : -9223372036854775808 ≤ y ∧ y ≤ 9223372036854775807) (h : ¬ (-9223372036854775808 ≤ x * y ∧ x * y ≤ 9223372036854775807)) (h1 : wrap64 (Int.tdiv (wrap64 (x * y)) y) = x) : y = -1 ∧ x = -9223372036854775808 := by
 by_cases e1 : y = -1
 ·subst e1
  exact ⟨rfl, by omega⟩
 ·exfalso
  have hc : -9223372036854775808 ≤ wrap64 (x * y) ∧ wrap64 (x * y) ≤ 9223372036854775807 := by unfold wrap64; omega
  have hr := tdiv_range hc h0 e1
  have hq : Int.tdiv (wrap64 (x * y)) y = x := by
   refine Eq.trans ?_ h1
   generalize Int.tdiv (wrap64 (x * y)) y = q at hr
   unfold wrap64; omega
  have hm := Int.mul_tdiv_add_tmod (wrap64 (x * y)) y
  rw [hq] at hm
  have ha : (Int.tmod (wrap64 (x * y)) y).natAbs = (wrap64 (x * y)).natAbs % y.natAbs := Int.natAbs_tmod _ _
  have hl : (wrap64 (x * y)).natAbs % y.natAbs < y.natAbs := Nat.mod_lt _ (by omega)
  rw [Int.mul_comm y x] at hm
  generalize Int.tmod (wrap64 (x * y)) y = m at *
  generalize x * y = P at *
  clear hq h1 hr hc
  unfold wrap64 at *
  omega
theorem mul_law {x y : Int} (h0 : y ≠ 0) (hx : -9223372036854775808 ≤ x ∧ x ≤ 9223372036854775807) (hy : -9223372036854775808 ≤ y ∧ y ≤ 9223372036854775807) :
  ((wrap64 (Int.tdiv (wrap64 (x * y)) y) ≠ x ∨ (x = -1 ∧ y = -9223372036854775808)) ∨ (y = -1 ∧ x = -9223372036854775808)) ↔ ¬ (-9223372036854775808 ≤ x * y ∧ x * y ≤ 9223372036854775807) := by
 constructor
 ·rintro ((h | ⟨rfl, rfl⟩) | ⟨rfl, rfl⟩) hin
  ·exact h (mul_in h0 hx hin)
  ·omega
  ·omega
 ·intro h
  by_cases h1 : wrap64 (Int.tdiv (wrap64 (x * y)) y) = x
  ·exact .inr (mul_out h0 hx hy h h1)
  ·exact .inl (.inl h1)
def ResOk (v : Res) : Prop := v.1.fits ∧ v.2 ≤ 65535
theorem zero_fits : Dat.zero.fits := ⟨⟨by decide, by decide⟩, ⟨by decide, by decide⟩, by decide⟩
theorem bad_ok {n : Nat} (h : n ≤ 65535) : ResOk (bad n) := ⟨zero_fits, h⟩
theorem nul_ok : ResOk (nul, 0) := ⟨⟨⟨by decide, by decide⟩, ⟨by decide, by decide⟩, by decide⟩, by decide⟩
theorem boo_ok (b : Bool) : ResOk (boo b, 0) := ⟨⟨⟨by show (0 : Int) ≤ 2; decide, by show (2 : Int) ≤ 255; decide⟩, ⟨by show _ ≤ (0 : Int); decide, by show (0 : Int) ≤ _; decide⟩, by show (0 : Nat) ≤ _; omega⟩, Nat.zero_le _⟩
theorem num_ok {n : Int} (h : -9223372036854775808 ≤ n ∧ n ≤ 9223372036854775807) : ResOk (num n, 0) := ⟨⟨⟨by show (0 : Int) ≤ 3; decide, by show (3 : Int) ≤ 255; decide⟩, h, by show (0 : Nat) ≤ _; omega⟩, Nat.zero_le _⟩
theorem txt_ok {t : ByteArray} (h : t.size ≤ 140737488355328) : ResOk (txt t, 0) := ⟨⟨⟨by show (0 : Int) ≤ 4; decide, by show (4 : Int) ≤ 255; decide⟩, ⟨by show _ ≤ (0 : Int); decide, by show (0 : Int) ≤ _; decide⟩, h⟩, Nat.zero_le _⟩
theorem ov_ok (n : Int) : ResOk (ov n) := by
 unfold ov
 split
 ·next h => exact num_ok h
 ·exact bad_ok (by decide)
theorem both_ok {k : Int} {a b : Dat} {r : Res} (h : ResOk r) : ResOk (both k a b r) := by
 unfold both
 split
 ·exact bad_ok (by decide)
 ·split
  ·exact nul_ok
  ·exact h
theorem sole_ok {k : Int} {a : Dat} {r : Res} (h : ResOk r) : ResOk (sole k a r) := by
 unfold sole
 split
 ·exact bad_ok (by decide)
 ·split
  ·exact nul_ok
  ·exact h
theorem runesN_le : ∀ (n : Nat) (l : List UInt8), runesN n l ≤ n
 | 0, _ => Nat.le_refl _
 | _ + 1, [] => Nat.zero_le _
 | n + 1, c :: cs => by
  have := runesN_le n ((c :: cs).drop (Lib.decodeL (c :: cs)).2)
  simp only [runesN]; omega
theorem tmod_range {x y : Int} (hx : -9223372036854775808 ≤ x ∧ x ≤ 9223372036854775807) : -9223372036854775808 ≤ Int.tmod x y ∧ Int.tmod x y ≤ 9223372036854775807 := by
 have hn : (Int.tmod x y).natAbs = x.natAbs % y.natAbs := Int.natAbs_tmod x y
 have hl := Nat.mod_le x.natAbs y.natAbs
 by_cases h : 0 ≤ x
 ·omega
 ·have h2 : Int.tmod x y ≤ 0 := by
   have := Int.tmod_nonneg y (a := -x) (by omega)
   rw [Int.neg_tmod] at this
   omega
  omega
theorem tdiv_range2 {x y : Int} (hx : -9223372036854775808 ≤ x ∧ x ≤ 9223372036854775807) (h0 : y ≠ 0) (h1 : y ≠ -1) : -9223372036854775808 ≤ Int.tdiv x y ∧ Int.tdiv x y ≤ 9223372036854775807 := tdiv_range hx h0 h1
theorem oneD_ok {o : Int} {a : Dat} (ha : a.fits) : ResOk (oneD o a) := by
 unfold oneD
 split
 ·exact sole_ok (ov_ok _)
 ·split
  ·refine sole_ok (num_ok ?_)
   have h1 := runesN_le a.text.data.toList.length a.text.data.toList
   have h2 : a.text.data.toList.length = a.text.size := by simp
   have h3 := ha.2.2
   unfold runes
   omega
  ·exact sole_ok (boo_ok _)
theorem compD_ok (o : Int) (a b : Dat) : ResOk (compD o a b) := by
 unfold compD
 split
 ·exact bad_ok (by decide)
 ·split
  ·exact nul_ok
  ·split
   ·exact bad_ok (by decide)
   ·exact boo_ok _
theorem twoD_ok {o : Int} {a b : Dat} (ha : a.fits) : ResOk (twoD o a b) := by
 unfold twoD
 split
 ·exact both_ok (ov_ok _)
 ·split
  ·exact both_ok (ov_ok _)
  ·split
   ·exact both_ok (ov_ok _)
   ·split
    ·unfold divD
     refine both_ok ?_
     split
     ·exact bad_ok (by decide)
     ·exact ov_ok _
    ·split
     ·unfold modD
      refine both_ok ?_
      split
      ·exact bad_ok (by decide)
      ·exact num_ok (tmod_range ha.2.1)
     ·split
      ·unfold catD
       refine both_ok ?_
       split
       ·exact bad_ok (by decide)
       ·next h =>
        refine txt_ok ?_
        show (a.text.data.toList ++ b.text.data.toList).toArray.size ≤ _
        rw [List.size_toArray, List.length_append, Array.length_toList, Array.length_toList]
        have h1 : a.text.size = a.text.data.size := rfl
        have h2 : b.text.size = b.text.data.size := rfl
        omega
      ·exact compD_ok _ _ _
theorem told_ok {r : Res} (h : ResOk r) : ResOk (told r) := by
 unfold told
 split
 ·exact h
 ·split
  ·exact bad_ok (by decide)
  ·exact bad_ok h.2
theorem truth_ok {v : Res} (h : ResOk v) : (truth v).1 ≤ 65535 := by
 unfold truth
 split
 ·exact h.2
 ·split
  ·show 31 ≤ 65535; decide
  ·show 0 ≤ 65535; decide
theorem logic_ok (stop : Bool) : ∀ (vs : List Res) (so : Bool), (∀ v ∈ vs, ResOk v) → ResOk (logic stop so vs)
 | [], so, _ => by
  cases so
  ·exact boo_ok _
  ·exact nul_ok
 | v :: vs, so, h => by
  simp only [logic]
  split
  ·exact bad_ok (truth_ok (h v List.mem_cons_self))
  ·split
   ·exact boo_ok _
   ·exact logic_ok stop vs _ fun x hx => h x (List.mem_cons_of_mem _ hx)
theorem choice_ok : ∀ (n : Nat) (vs : List Res), vs.length ≤ n → (∀ v ∈ vs, ResOk v) → ResOk (choice vs)
 | _, [], _, _ => bad_ok (by decide)
 | _, [v], _, h => h v List.mem_cons_self
 | 0, _ :: _ :: _, hn, _ => by simp at hn
 | n + 1, c :: v :: vs, hn, h => by
  simp only [choice]
  split
  ·exact bad_ok (truth_ok (h c List.mem_cons_self))
  ·split
   ·exact h v (List.mem_cons_of_mem _ List.mem_cons_self)
   ·exact choice_ok n vs (by simp at hn; omega) fun x hx => h x (List.mem_cons_of_mem _ (List.mem_cons_of_mem _ hx))
theorem coal_ok : ∀ (vs : List Res), (∀ v ∈ vs, ResOk v) → ResOk (coal vs)
 | [], _ => nul_ok
 | v :: vs, h => by
  simp only [coal]
  split
  ·exact h v List.mem_cons_self
  ·exact coal_ok vs fun x hx => h x (List.mem_cons_of_mem _ hx)
theorem restV_ok {o : Int} {vs : List Res} (h : ∀ v ∈ vs, ResOk v) : ResOk (restV o vs) := by
 cases vs with
 | nil => exact bad_ok (by decide)
 | cons a t =>
  simp only [restV]
  split
  ·exact bad_ok (h a List.mem_cons_self).2
  ·split
   ·exact boo_ok _
   ·cases t with
    | nil => exact told_ok (oneD_ok (h a List.mem_cons_self).1)
    | cons b t =>
     simp only
     split
     ·exact bad_ok (h b (List.mem_cons_of_mem _ List.mem_cons_self)).2
     ·exact told_ok (twoD_ok (h a List.mem_cons_self).1)
theorem val_ok (r : List Dat) (hr : ∀ d ∈ r, d.fits) : ∀ (e : ET) (deep : Nat), e.fits → e.good okD deep = true → ResOk (e.val r) := by
 refine ET.ind fun o c d ks ih deep hf hg => ?_
 simp only [ET.good, Bool.and_eq_true, decide_eq_true_eq, ET.goods_iff] at hg
 obtain ⟨⟨hown, -⟩, hgs⟩ := hg
 simp only [ET.fits, ET.fitss_iff] at hf
 obtain ⟨-, -, hd, -, hfs⟩ := hf
 have hvs : ∀ v ∈ ET.vals r ks, ResOk v := by
  rw [ET.vals_map]
  intro v hv
  obtain ⟨k, hk, rfl⟩ := List.mem_map.1 hv
  exact ih k hk (deep + 1) (hfs k hk) (hgs k hk)
 simp only [ET.val]
 split
 ·refine ⟨?_, Nat.zero_le _⟩
  show (r.getD c.toNat Dat.zero).fits
  rw [List.getD_eq_getElem?_getD]
  cases hx : r[c.toNat]? with
  | none => exact zero_fits
  | some x => exact hr x (List.mem_of_getElem? hx)
 ·split
  ·exact ⟨hd, Nat.zero_le _⟩
  ·split
   ·next h23 =>
    subst h23
    have h5 := ((own_mk hown).2.2.2.2.1 rfl).2
    exact bad_ok (by omega)
   ·split
    ·exact logic_ok _ _ _ hvs
    ·split
     ·exact choice_ok _ _ (Nat.le_refl _) hvs
     ·split
      ·exact coal_ok _ hvs
      ·exact restV_ok hvs
end Go.Proofs.YtmmhedlagnjbiaaGreatDoor
namespace Go.Proofs.YtmmhedlagnjbiaaGreatDoor
open Go.RowKit Go.Pen Go.Shelf
attribute [local go_sem] Oper.semAt_some
theorem cat_173 (a b : Dat) (A B : Nat) (w : World) (ha : BoxAt w A a) (hb : BoxAt w B b) (fa : a.fits) (fb : b.fits) :
  Calls Tryz.prog 190 #[.pointer (some ⟨A, 0, none⟩), .pointer (some ⟨B, 0, none⟩)] w (ResPost (if 1000 < a.text.size + b.text.size then bad 12 else (txt ⟨(a.text.data.toList ++ b.text.data.toList).toArray⟩, 0)) w) := by
 have fa1 := fa.2.1
 have fb1 := fb.2.1
 have la : A < w.heap.size := lt_of_heap ha
 have lb : B < w.heap.size := lt_of_heap hb
 have a2 : w.cell? ⟨A, 2, none⟩ = some (.int .i64 a.int) := cell_of_heap ha rfl
 have b2 : w.cell? ⟨B, 2, none⟩ = some (.int .i64 b.int) := cell_of_heap hb rfl
 have a3 : w.cell? ⟨A, 3, none⟩ = some (.string a.text) := cell_of_heap ha rfl
 have b3 : w.cell? ⟨B, 3, none⟩ = some (.string b.text) := cell_of_heap hb rfl
 have fa3 := fa.2.2
 have fb3 := fb.2.2
 generalize a.text = x at *
 generalize b.text = y at *
 clear ha hb fa fb a2 b2 fa1 fb1
 have hw : wrap64 ((x.size : Int) + (y.size : Int)) = (x.size : Int) + (y.size : Int) := by unfold wrap64; omega
 by_cases h0 : 1000 < x.size + y.size
 ·rw [if_pos h0]
  have q0 : (1000 : Int) < (x.size : Int) + (y.size : Int) := by omega
  go_enter Tryz.func190, Tryz.ntmps190
  go_wp2_with fail
  refine bodyPost_ret (results_row_tmp rfl _ _ w.heap.size 25 _ (0, 0) _ rfl (heap_alloc_new w _) Tryz.underlying25 rfl (by kernel_rfl)) rfl ?_
  exact ⟨rfl, one_below _ _⟩
 ·rw [if_neg h0]
  have q0 : ¬ (1000 : Int) < (x.size : Int) + (y.size : Int) := by omega
  go_enter Tryz.func190, Tryz.ntmps190
  go_wp2_with fail
  refine (text_174 _ _).mono ?_
  rintro ev w5 ⟨rfl, hb5⟩
  have t5 := one_at hb5
  have T5 := Lib.hid t5
  have HB5 := Lib.hid ((one_below _ _).trans (hb5.mono (by simp)))
  obtain ⟨z0, g0, z1, g1, z2, g2, z3, g3⟩ := cf4 t5
  clear hb5 t5
  unfold Dat.agg txt
  go_wp2
  refine bodyPost_ret (results_row_tmp rfl _ _ w.heap.size 25 _ (0, 0) _ rfl (setRow4_at T5.out) Tryz.underlying25 rfl (by kernel_rfl)) rfl ?_
  exact ⟨rfl, setRow4_below HB5.out (Nat.le_refl _)⟩
theorem cat_126 (a b : Dat) (w : World) (fa : a.fits) (fb : b.fits) (hT : Lib.Utf8Tabs 0 1 w) (h11 : 3 ≤ w.heap.size) :
  Calls Tryz.prog 149 #[a.agg, b.agg] w (ResPost (catD a b) w) := by
 have hap : ∀ (W : World), Below w.heap.size w W → W.heap[w.heap.size]? = some (.cells #[.int .u8 a.kind, .bool a.bool, .int .i64 a.int, .string a.text] 25 (0, 0)) → W.heap[w.heap.size + 1]? = some (.cells #[.int .u8 b.kind, .bool b.bool, .int .i64 b.int, .string b.text] 25 (0, 0)) → ∀ g, W.heap[g]? = some (.cells #[.int .u8 a.kind, .bool a.bool, .int .i64 a.int, .string a.text, .int .u8 b.kind, .bool b.bool, .int .i64 b.int, .string b.text] 25 (0, 0)) →
   Calls Tryz.prog 180 #[.int .u8 4, .func (.func 190) #[] #[.pointer (some ⟨w.heap.size, 0, none⟩), .pointer (some ⟨w.heap.size + 1, 0, none⟩)], .slice (some ⟨g, 0, none⟩) 2 2] W (ResPost (catD a b) W) := by
  intro W hb hA hB g hg
  have h := apply_163 4 190 #[.pointer (some ⟨w.heap.size, 0, none⟩), .pointer (some ⟨w.heap.size + 1, 0, none⟩)] [a, b] _ (if 1000 < a.text.size + b.text.size then bad 12 else (txt ⟨(a.text.data.toList ++ b.text.data.toList).toArray⟩, 0)) W (by simp) (by intro d hd; simp at hd; rcases hd with rfl | rfl; exact fa; exact fb) (dats2 hg) (tabs_below hT hb h11) (Nat.le_trans h11 hb.size) (enters_of Tryz.func190 (by kernel_rfl) rfl)
   (fun _ W2 hb2 => cat_173 a b w.heap.size (w.heap.size + 1) W2 ((hb2.block _ (lt_of_heap hA)).trans hA) ((hb2.block _ (lt_of_heap hB)).trans hB) fa fb)
  rw [apR_both] at h
  exact h
 have HAP := Lib.hid hap
 clear hap hT fa fb
 obtain ⟨X, eX⟩ : ∃ X, X = catD a b := ⟨_, rfl⟩
 rw [← eX] at HAP ⊢
 clear eX
 unfold Dat.agg
 go_enter Tryz.func149, Tryz.ntmps149
 go_wp2_with fail
 have h3 := three_at (w := w) (a := .cells #[.int .u8 a.kind, .bool a.bool, .int .i64 a.int, .string a.text] 25) (b := .cells #[.int .u8 b.kind, .bool b.bool, .int .i64 b.int, .string b.text] 25) (c := .cells #[.int .u8 0, .bool false, .int .i64 0, .string ⟨#[]⟩] 25) (Below.refl _ _)
 have h4 := heap_alloc_new (((w.alloc (.cells #[.int .u8 a.kind, .bool a.bool, .int .i64 a.int, .string a.text] 25)).alloc (.cells #[.int .u8 b.kind, .bool b.bool, .int .i64 b.int, .string b.text] 25)).alloc (.cells #[.int .u8 0, .bool false, .int .i64 0, .string ⟨#[]⟩] 25)) (.cells #[.int .u8 a.kind, .bool a.bool, .int .i64 a.int, .string a.text, .int .u8 b.kind, .bool b.bool, .int .i64 b.int, .string b.text] 25)
 rw [World.size_alloc, World.size_alloc, World.size_alloc] at h4
 have hkeep : ∀ {g : Nat} {y : Obj}, (((w.alloc (.cells #[.int .u8 a.kind, .bool a.bool, .int .i64 a.int, .string a.text] 25)).alloc (.cells #[.int .u8 b.kind, .bool b.bool, .int .i64 b.int, .string b.text] 25)).alloc (.cells #[.int .u8 0, .bool false, .int .i64 0, .string ⟨#[]⟩] 25)).heap[g]? = some y → ((((w.alloc (.cells #[.int .u8 a.kind, .bool a.bool, .int .i64 a.int, .string a.text] 25)).alloc (.cells #[.int .u8 b.kind, .bool b.bool, .int .i64 b.int, .string b.text] 25)).alloc (.cells #[.int .u8 0, .bool false, .int .i64 0, .string ⟨#[]⟩] 25)).alloc (.cells #[.int .u8 a.kind, .bool a.bool, .int .i64 a.int, .string a.text, .int .u8 b.kind, .bool b.bool, .int .i64 b.int, .string b.text] 25)).heap[g]? = some y := fun h => (Below.heap_alloc _ _ _ (lt_of_heap h)).trans h
 refine (HAP.out _ (four_below _ _ _ _ _) (hkeep h3.1) (hkeep h3.2.1) _ h4).mono ?_
 rintro ev w5 ⟨rfl, hb5⟩
 have t5 := (hb5.block _ (lt_of_heap (hkeep h3.2.2))).trans (hkeep h3.2.2)
 have T5 := Lib.hid t5
 have HB5 := Lib.hid ((four_below _ _ _ _ _).trans (hb5.mono (by simp <;> omega)))
 obtain ⟨z0, g0, z1, g1, z2, g2, z3, g3⟩ := cf4 t5
 clear hb5 t5 h3 h4 hkeep
 unfold resT Dat.agg
 go_wp2
 refine bodyPost_ret (results_row_tmp rfl _ _ (w.heap.size + 1 + 1) 25 _ (0, 0) _ rfl (setRow4_at T5.out) Tryz.underlying25 rfl (by kernel_rfl)) rfl ?_
 exact ⟨rfl, setRow4_below HB5.out (by show w.heap.size ≤ w.heap.size + 1 + 1; omega)⟩
theorem dats1 {w : World} {g : Nat} {a : Dat} (h : w.heap[g]? = some (.cells #[.int .u8 a.kind, .bool a.bool, .int .i64 a.int, .string a.text] 25 (0, 0))) : DatsOn (fun _ => True) w [a] (.slice (some ⟨g, 0, none⟩) 1 1) := by
 refine ⟨some ⟨g, 0, none⟩, 1, rfl, (fun h => by cases h), fun _ => ⟨g, 0, rfl, trivial, fun i d hd => ?_⟩⟩
 rcases i with _ | i
 ·cases hd; exact ⟨cell_of_heap h rfl, cell_of_heap h rfl, cell_of_heap h rfl, cell_of_heap h rfl⟩
 ·simp at hd
theorem not_165 (a : Dat) (A : Nat) (w : World) (ha : BoxAt w A a) (_ : a.fits) :
  Calls Tryz.prog 182 #[.pointer (some ⟨A, 0, none⟩)] w (ResPost (boo (!a.bool), 0) w) := by
 have la : A < w.heap.size := lt_of_heap ha
 have a1 : w.cell? ⟨A, 1, none⟩ = some (.bool a.bool) := cell_of_heap ha rfl
 generalize a.bool = x at *
 clear ha
 go_enter Tryz.func182, Tryz.ntmps182
 go_wp2_with fail
 refine (boolean_166 _ _).mono ?_
 rintro ev w5 ⟨rfl, hb5⟩
 have t5 := one_at hb5
 have T5 := Lib.hid t5
 have HB5 := Lib.hid ((one_below _ _).trans (hb5.mono (by simp)))
 obtain ⟨z0, g0, z1, g1, z2, g2, z3, g3⟩ := cf4 t5
 clear hb5 t5
 unfold Dat.agg boo
 go_wp2
 refine bodyPost_ret (results_row_tmp rfl _ _ w.heap.size 25 _ (0, 0) _ rfl (setRow4_at T5.out) Tryz.underlying25 rfl (by kernel_rfl)) rfl ?_
 exact ⟨rfl, setRow4_below HB5.out (Nat.le_refl _)⟩
theorem not_120 (a : Dat) (w : World) (fa : a.fits) (hT : Lib.Utf8Tabs 0 1 w) (h11 : 3 ≤ w.heap.size) :
  Calls Tryz.prog 143 #[a.agg] w (ResPost (notD a) w) := by
 have hap : ∀ (W : World), Below w.heap.size w W → W.heap[w.heap.size]? = some (.cells #[.int .u8 a.kind, .bool a.bool, .int .i64 a.int, .string a.text] 25 (0, 0)) → ∀ g, W.heap[g]? = some (.cells #[.int .u8 a.kind, .bool a.bool, .int .i64 a.int, .string a.text] 25 (0, 0)) →
   Calls Tryz.prog 180 #[.int .u8 2, .func (.func 182) #[] #[.pointer (some ⟨w.heap.size, 0, none⟩)], .slice (some ⟨g, 0, none⟩) 1 1] W (ResPost (notD a) W) := by
  intro W hb hA g hg
  have h := apply_163 2 182 #[.pointer (some ⟨w.heap.size, 0, none⟩)] [a] _ (boo (!a.bool), 0) W (by simp) (by intro d hd; simp at hd; rcases hd with rfl; exact fa) (dats1 hg) (tabs_below hT hb h11) (Nat.le_trans h11 hb.size) (enters_of Tryz.func182 (by kernel_rfl) rfl)
   (fun _ W2 hb2 => not_165 a w.heap.size W2 ((hb2.block _ (lt_of_heap hA)).trans hA) fa)
  rw [apR_sole] at h
  exact h
 have HAP := Lib.hid hap
 clear hap hT fa
 obtain ⟨X, eX⟩ : ∃ X, X = notD a := ⟨_, rfl⟩
 rw [← eX] at HAP ⊢
 clear eX
 unfold Dat.agg
 go_enter Tryz.func143, Tryz.ntmps143
 go_wp2_with fail
 have h3 := two_at (w := w) (a := .cells #[.int .u8 a.kind, .bool a.bool, .int .i64 a.int, .string a.text] 25) (b := .cells #[.int .u8 0, .bool false, .int .i64 0, .string ⟨#[]⟩] 25) (Below.refl _ _)
 have h4 := heap_alloc_new ((w.alloc (.cells #[.int .u8 a.kind, .bool a.bool, .int .i64 a.int, .string a.text] 25)).alloc (.cells #[.int .u8 0, .bool false, .int .i64 0, .string ⟨#[]⟩] 25)) (.cells #[.int .u8 a.kind, .bool a.bool, .int .i64 a.int, .string a.text] 25)
 rw [World.size_alloc, World.size_alloc] at h4
 have hkeep : ∀ {g : Nat} {y : Obj}, ((w.alloc (.cells #[.int .u8 a.kind, .bool a.bool, .int .i64 a.int, .string a.text] 25)).alloc (.cells #[.int .u8 0, .bool false, .int .i64 0, .string ⟨#[]⟩] 25)).heap[g]? = some y → (((w.alloc (.cells #[.int .u8 a.kind, .bool a.bool, .int .i64 a.int, .string a.text] 25)).alloc (.cells #[.int .u8 0, .bool false, .int .i64 0, .string ⟨#[]⟩] 25)).alloc (.cells #[.int .u8 a.kind, .bool a.bool, .int .i64 a.int, .string a.text] 25)).heap[g]? = some y := fun h => (Below.heap_alloc _ _ _ (lt_of_heap h)).trans h
 refine (HAP.out _ ((two_below w _ _).alloc (two_below w _ _).size _) (hkeep h3.1) _ h4).mono ?_
 rintro ev w5 ⟨rfl, hb5⟩
 have t5 := (hb5.block _ (lt_of_heap (hkeep h3.2))).trans (hkeep h3.2)
 have T5 := Lib.hid t5
 have HB5 := Lib.hid (((two_below w _ _).alloc (two_below w _ _).size _).trans (hb5.mono (by simp <;> omega)))
 obtain ⟨z0, g0, z1, g1, z2, g2, z3, g3⟩ := cf4 t5
 clear hb5 t5 h3 h4 hkeep
 unfold resT Dat.agg
 go_wp2
 refine bodyPost_ret (results_row_tmp rfl _ _ (w.heap.size + 1) 25 _ (0, 0) _ rfl (setRow4_at T5.out) Tryz.underlying25 rfl (by kernel_rfl)) rfl ?_
 exact ⟨rfl, setRow4_below HB5.out (by show w.heap.size ≤ w.heap.size + 1; omega)⟩
theorem runes_from {s : ByteArray} {p : Nat} (h : p < s.size) : runes (s.data.toList.drop p) = 1 + runes (s.data.toList.drop (p + (Utf8.decode s p).2)) := by
 have hl : p < s.data.toList.length := by simpa using h
 rw [← Lib.decodeL_drop]
 rw [List.drop_eq_getElem_cons hl, runes_step, ← List.drop_eq_getElem_cons hl, List.drop_drop]
theorem runes_end {s : ByteArray} {p : Nat} (h : ¬ p < s.size) : runes (s.data.toList.drop p) = 0 := by
 rw [List.drop_eq_nil_of_le (by simp; omega)]
 rfl
theorem len_164 (a : Dat) (A : Nat) (w : World) (ha : BoxAt w A a) (fa : a.fits) :
  Calls Tryz.prog 181 #[.pointer (some ⟨A, 0, none⟩)] w (ResPost (num (runes a.text.data.toList), 0) w) := by
 have la : A < w.heap.size := lt_of_heap ha
 have a3 : w.cell? ⟨A, 3, none⟩ = some (.string a.text) := cell_of_heap ha rfl
 have fa3 := fa.2.2
 generalize a.text = s at *
 clear ha fa
 obtain ⟨w1, hw1⟩ : ∃ w1, w1 = w.alloc (.cells #[.int .u8 0, .bool false, .int .i64 0, .string ⟨#[]⟩] 25) := ⟨_, rfl⟩
 have hb1 : Below w.heap.size w w1 := by rw [hw1]; exact one_below _ _
 have t1 : w1.heap[w.heap.size]? = some (.cells #[.int .u8 0, .bool false, .int .i64 0, .string ⟨#[]⟩] 25 (0, 0)) := by rw [hw1]; exact heap_alloc_new _ _
 have hsz : w1.heap.size = w.heap.size + 1 := by rw [hw1]; simp
 have HW1 := Lib.hid hw1
 have HB1 := Lib.hid hb1
 have T1 := Lib.hid t1
 clear hw1 hb1 t1
 have hle : runes s.data.toList ≤ s.size := by
  have h := runesN_le s.data.toList.length s.data.toList
  have h2 : s.data.toList.length = s.size := by simp
  unfold runes; omega
 have hip : ∀ p, (w1.iter s p).iterPos (w.heap.size + 1) = p := fun p => by rw [← hsz]; exact World.iterPos_iter w1 s p
 have hkp : ∀ p, (w1.iter s p).heap[w.heap.size]? = some (.cells #[.int .u8 0, .bool false, .int .i64 0, .string ⟨#[]⟩] 25 (0, 0)) := fun p => (Below.heap_alloc w1 _ _ (lt_of_heap T1.out)).trans T1.out
 have hbl : ∀ p, Below w.heap.size w (w1.iter s p) := fun p => HB1.out.alloc HB1.out.size _
 have HLE := Lib.hid hle
 have HIP := Lib.hid hip
 have HKP := Lib.hid hkp
 have HBL := Lib.hid hbl
 have HSZ := Lib.hid hsz
 clear hle hip hkp hbl hsz
 go_enter Tryz.func181, Tryz.ntmps181
 go_wp2_with fail
 rw [← HW1.out]
 go_loopw [3] (fun n w' => ∃ (pos acc : Nat), w' = w1.iter s pos ∧ n = .int .i64 acc ∧ acc + runes (s.data.toList.drop pos) = runes s.data.toList) (fun _ w' => s.size - w'.iterPos (w.heap.size + 1))
 case atStart => exact ⟨0, 0, rfl, rfl, by simp⟩
 case round =>
  obtain ⟨pos, acc, rfl, rfl, hc⟩ := hrel
  have HC := Lib.hid hc
  by_cases hp : pos < s.size
  ·have hnx : ∀ ty, (Instr.next (.pointer (some ⟨w1.heap.size, 0, none⟩)) true ty).run Tryz.prog (w1.iter s pos) = _ := fun ty => run_next_any w1 s pos ty hp
   have hnx2 := hnx
   rw [HSZ.out] at hnx2
   have hacc : acc + 1 ≤ s.size := by
    have h1 := HC.out
    rw [runes_from hp] at h1
    have h2 := HLE.out
    omega
   clear hc
   go_wp2
   go_roundw
   case rel =>
    refine ⟨pos + (Utf8.decode s pos).2, acc + 1, rfl, by go_num, ?_⟩
    rw [← HC.out, runes_from hp]
    omega
   case measure =>
    have h1 := Lib.decode_width_pos s pos hp
    rw [HIP.out, HIP.out]
    omega
  ·have hnx : ∀ ty, (Instr.next (.pointer (some ⟨w1.heap.size, 0, none⟩)) true ty).run Tryz.prog (w1.iter s pos) = _ := fun ty => run_next_end w1 s pos ty hp
   have hnx2 := hnx
   rw [HSZ.out] at hnx2
   rw [runes_end hp, Nat.add_zero] at hc
   subst hc
   go_wp2_with fail
   refine (number_162 _ _).mono ?_
   rintro ev w5 ⟨rfl, hb5⟩
   have t5 := (hb5.block _ (lt_of_heap (HKP.out pos))).trans (HKP.out pos)
   have T5 := Lib.hid t5
   have HB5 := Lib.hid ((HBL.out pos).trans (hb5.mono (HBL.out pos).size))
   obtain ⟨z0, g0, z1, g1, z2, g2, z3, g3⟩ := cf4 t5
   clear hb5 t5
   unfold Dat.agg num
   go_wp2
   refine bodyPost_ret (results_row_tmp rfl _ _ w.heap.size 25 _ (0, 0) _ rfl (setRow4_at T5.out) Tryz.underlying25 rfl (by kernel_rfl)) rfl ?_
   exact ⟨rfl, setRow4_below HB5.out (Nat.le_refl _)⟩
theorem len_119 (a : Dat) (w : World) (fa : a.fits) (hT : Lib.Utf8Tabs 0 1 w) (h11 : 3 ≤ w.heap.size) :
  Calls Tryz.prog 142 #[a.agg] w (ResPost (lenD a) w) := by
 have hap : ∀ (W : World), Below w.heap.size w W → W.heap[w.heap.size]? = some (.cells #[.int .u8 a.kind, .bool a.bool, .int .i64 a.int, .string a.text] 25 (0, 0)) → ∀ g, W.heap[g]? = some (.cells #[.int .u8 a.kind, .bool a.bool, .int .i64 a.int, .string a.text] 25 (0, 0)) →
   Calls Tryz.prog 180 #[.int .u8 4, .func (.func 181) #[] #[.pointer (some ⟨w.heap.size, 0, none⟩)], .slice (some ⟨g, 0, none⟩) 1 1] W (ResPost (lenD a) W) := by
  intro W hb hA g hg
  have h := apply_163 4 181 #[.pointer (some ⟨w.heap.size, 0, none⟩)] [a] _ (num (runes a.text.data.toList), 0) W (by simp) (by intro d hd; simp at hd; rcases hd with rfl; exact fa) (dats1 hg) (tabs_below hT hb h11) (Nat.le_trans h11 hb.size) (enters_of Tryz.func181 (by kernel_rfl) rfl)
   (fun _ W2 hb2 => len_164 a w.heap.size W2 ((hb2.block _ (lt_of_heap hA)).trans hA) fa)
  rw [apR_sole] at h
  exact h
 have HAP := Lib.hid hap
 clear hap hT fa
 obtain ⟨X, eX⟩ : ∃ X, X = lenD a := ⟨_, rfl⟩
 rw [← eX] at HAP ⊢
 clear eX
 unfold Dat.agg
 go_enter Tryz.func142, Tryz.ntmps142
 go_wp2_with fail
 have h3 := two_at (w := w) (a := .cells #[.int .u8 a.kind, .bool a.bool, .int .i64 a.int, .string a.text] 25) (b := .cells #[.int .u8 0, .bool false, .int .i64 0, .string ⟨#[]⟩] 25) (Below.refl _ _)
 have h4 := heap_alloc_new ((w.alloc (.cells #[.int .u8 a.kind, .bool a.bool, .int .i64 a.int, .string a.text] 25)).alloc (.cells #[.int .u8 0, .bool false, .int .i64 0, .string ⟨#[]⟩] 25)) (.cells #[.int .u8 a.kind, .bool a.bool, .int .i64 a.int, .string a.text] 25)
 rw [World.size_alloc, World.size_alloc] at h4
 have hkeep : ∀ {g : Nat} {y : Obj}, ((w.alloc (.cells #[.int .u8 a.kind, .bool a.bool, .int .i64 a.int, .string a.text] 25)).alloc (.cells #[.int .u8 0, .bool false, .int .i64 0, .string ⟨#[]⟩] 25)).heap[g]? = some y → (((w.alloc (.cells #[.int .u8 a.kind, .bool a.bool, .int .i64 a.int, .string a.text] 25)).alloc (.cells #[.int .u8 0, .bool false, .int .i64 0, .string ⟨#[]⟩] 25)).alloc (.cells #[.int .u8 a.kind, .bool a.bool, .int .i64 a.int, .string a.text] 25)).heap[g]? = some y := fun h => (Below.heap_alloc _ _ _ (lt_of_heap h)).trans h
 refine (HAP.out _ ((two_below w _ _).alloc (two_below w _ _).size _) (hkeep h3.1) _ h4).mono ?_
 rintro ev w5 ⟨rfl, hb5⟩
 have t5 := (hb5.block _ (lt_of_heap (hkeep h3.2))).trans (hkeep h3.2)
 have T5 := Lib.hid t5
 have HB5 := Lib.hid (((two_below w _ _).alloc (two_below w _ _).size _).trans (hb5.mono (by simp <;> omega)))
 obtain ⟨z0, g0, z1, g1, z2, g2, z3, g3⟩ := cf4 t5
 clear hb5 t5 h3 h4 hkeep
 unfold resT Dat.agg
 go_wp2
 refine bodyPost_ret (results_row_tmp rfl _ _ (w.heap.size + 1) 25 _ (0, 0) _ rfl (setRow4_at T5.out) Tryz.underlying25 rfl (by kernel_rfl)) rfl ?_
 exact ⟨rfl, setRow4_below HB5.out (by show w.heap.size ≤ w.heap.size + 1; omega)⟩
theorem neg_sub (a : Dat) : subD (num 0) a = negD a := by
 have h1 : isK 3 (num 0) = true := by
  have : okD (num 0) = true := by
   unfold okD chkD
   rfl
  unfold isK
  rw [this]
  rfl
 unfold subD negD both sole
 rw [h1, show (num 0).int - a.int = -a.int from Int.zero_sub _]
 simp [num]
theorem num0_fits : (num 0).fits := (num_ok (by decide)).1
theorem neg_118 (a : Dat) (w : World) (fa : a.fits) (hT : Lib.Utf8Tabs 0 1 w) (h11 : 3 ≤ w.heap.size) :
  Calls Tryz.prog 141 #[a.agg] w (ResPost (negD a) w) := by
 have hsub := fun (W : World) (hb : Below w.heap.size w W) => sub_122 (num 0) a W num0_fits fa (tabs_below hT hb h11) (Nat.le_trans h11 hb.size)
 rw [neg_sub] at hsub
 have HSUB := Lib.hid hsub
 obtain ⟨X, eX⟩ : ∃ X, X = negD a := ⟨_, rfl⟩
 rw [← eX] at HSUB ⊢
 clear eX hsub hT
 unfold Dat.agg at *
 obtain ⟨w1, hw1⟩ : ∃ w1, w1 = (w.alloc (.cells #[.int .u8 a.kind, .bool a.bool, .int .i64 a.int, .string a.text] 25)).alloc (.cells #[.int .u8 0, .bool false, .int .i64 0, .string ⟨#[]⟩] 25) := ⟨_, rfl⟩
 have hb1 : Below w.heap.size w w1 := by rw [hw1]; exact two_below _ _ _
 have ht := two_at (w := w) (w1 := w1) (a := .cells #[.int .u8 a.kind, .bool a.bool, .int .i64 a.int, .string a.text] 25) (b := .cells #[.int .u8 0, .bool false, .int .i64 0, .string ⟨#[]⟩] 25) (by rw [hw1]; exact Below.refl _ _)
 have hs1 : w1.cell? ⟨w.heap.size, 0, none⟩ = some (.int .u8 a.kind) ∧ w1.cell? ⟨w.heap.size, 1, none⟩ = some (.bool a.bool) ∧ w1.cell? ⟨w.heap.size, 2, none⟩ = some (.int .i64 a.int) ∧ w1.cell? ⟨w.heap.size, 3, none⟩ = some (.string a.text) := ⟨cell_of_heap ht.1 rfl, cell_of_heap ht.1 rfl, cell_of_heap ht.1 rfl, cell_of_heap ht.1 rfl⟩
 have hkeep : ∀ (w' : World), Below w1.heap.size w1 w' → w'.cell? ⟨w.heap.size, 0, none⟩ = some (.int .u8 a.kind) ∧ w'.cell? ⟨w.heap.size, 1, none⟩ = some (.bool a.bool) ∧ w'.cell? ⟨w.heap.size, 2, none⟩ = some (.int .i64 a.int) ∧ w'.cell? ⟨w.heap.size, 3, none⟩ = some (.string a.text) := fun w' hb => ⟨cell_keep hb hs1.1, cell_keep hb hs1.2.1, cell_keep hb hs1.2.2.1, cell_keep hb hs1.2.2.2⟩
 have ne1 : w.heap.size ≠ w.heap.size + 1 := by omega
 have HW1 := Lib.hid hw1
 have HB1 := Lib.hid hb1
 have T1 := Lib.hid ht.2
 have S1 := Lib.hid hs1
 have HKEEP := Lib.hid hkeep
 clear hw1 hb1 ht hs1 hkeep
 go_enter Tryz.func141, Tryz.ntmps141
 go_wp2_with fail
 rw [← HW1.out]
 have s0 := S1.out.1
 have s1 := S1.out.2.1
 have s2 := S1.out.2.2.1
 have s3 := S1.out.2.2.2
 go_region_held3 (fun w' => w'.cell? ⟨w.heap.size, 0, none⟩ = some (.int .u8 a.kind) ∧ w'.cell? ⟨w.heap.size, 1, none⟩ = some (.bool a.bool) ∧ w'.cell? ⟨w.heap.size, 2, none⟩ = some (.int .i64 a.int) ∧ w'.cell? ⟨w.heap.size, 3, none⟩ = some (.string a.text))
  (first | go_keep | exact HKEEP.out _ hbS.out)
  (first
  | (go_at_call 179; refine (number_162 _ _).mono ?_; rintro ev w6 ⟨rfl, hb6⟩; have hbS : Hid (Below w1.heap.size w1 w6) := Lib.hid (by first | exact hb6 | exact below_undrew hb6 | exact below_undrewN hb6); clear hb6; unfold Dat.agg num)
  | (go_at_call 145; refine (HSUB.out _ (by first | exact HB1.out.trans (hbS.out.mono HB1.out.size) | exact Go.Pen.below_drewN (HB1.out.trans (hbS.out.mono HB1.out.size)))).mono ?_; rintro ev w5 ⟨rfl, hb5⟩; have hbS : Hid (Below w1.heap.size w1 w5) := Lib.hid (hbS.out.trans ((show Below w6.heap.size w6 w5 by first | exact hb5 | exact below_undrew hb5 | exact below_undrewN hb5).mono hbS.out.size)); have t5 := (hbS.out.block _ (lt_of_heap T1.out)).trans T1.out; obtain ⟨z0, g0, z1, g1, z2, g2, z3, g3⟩ := cf4 t5; have T5 := Lib.hid t5; clear hb5 t5; unfold resT Dat.agg))
 go_wp2
 refine bodyPost_ret (results_row_tmp rfl _ _ (w.heap.size + 1) 25 _ (0, 0) _ rfl (setRow4_at T5.out) Tryz.underlying25 rfl (by kernel_rfl)) rfl ?_
 exact ⟨rfl, setRow4_below (HB1.out.trans (hbS.out.mono HB1.out.size)) (by show w.heap.size ≤ w.heap.size + 1; omega)⟩
end Go.Proofs.YtmmhedlagnjbiaaGreatDoor
