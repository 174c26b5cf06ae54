import Derived.Test.YtmmhedlagnjbiaaGreatDoorUa
import Derived.Test.YtmmhedlagnjbiaaGreatDoorUc
/- our texts, shortened by program (pack.py) -/
set_option maxRecDepth 100000
set_option maxHeartbeats 4000000
namespace Go.Proofs.YtmmhedlagnjbiaaGreatDoor
open Go.RowKit Go.Pen Go.Shelf
attribute [local go_sem ↓] Go.wp_at_zero Go.wp_at_succ
attribute [local go_sem] Oper.semAt_some
def resI (r : Res) : Value := .tuple #[r.1.agg, .int .i64 r.2]
def RefPost (r : Res) (w : World) (ev : Ending) (w' : World) : Prop := ev = .returned (resI r) ∧ Below w.heap.size w w'
theorem rnull_92 (w : World) : Calls Tryz.prog 40 #[] w fun ev w' => ev = .returned (nul).agg ∧ Below w.heap.size w w' := by
 go_enter Tryz.func40, Tryz.ntmps40
 go_wp2_with fail
 refine bodyPost_ret (results_cell_row rfl _ _ w.heap.size 25 _ (0, 0) _ rfl (heap_alloc_new w _) Tryz.underlying25 rfl (by kernel_rfl)) rfl ?_
 exact ⟨rfl, one_below _ _⟩
theorem rint_47 (n : Int) (w : World) : Calls Tryz.prog 106 #[.int .i64 n] w fun ev w' => ev = .returned (num n).agg ∧ Below w.heap.size w w' := by
 go_enter Tryz.func106, Tryz.ntmps106
 go_wp2_with fail
 refine bodyPost_ret (results_cell_row rfl _ _ w.heap.size 25 _ (0, 0) _ rfl (heap_alloc_new w _) Tryz.underlying25 rfl (by kernel_rfl)) rfl ?_
 exact ⟨rfl, one_below _ _⟩
theorem rbool_133 (b : Bool) (w : World) : Calls Tryz.prog 74 #[.bool b] w fun ev w' => ev = .returned (boo b).agg ∧ Below w.heap.size w w' := by
 go_enter Tryz.func74, Tryz.ntmps74
 go_wp2_with fail
 refine bodyPost_ret (results_cell_row rfl _ _ w.heap.size 25 _ (0, 0) _ rfl (heap_alloc_new w _) Tryz.underlying25 rfl (by kernel_rfl)) rfl ?_
 exact ⟨rfl, one_below _ _⟩
theorem rtext_182 (t : ByteArray) (w : World) : Calls Tryz.prog 105 #[.string t] w fun ev w' => ev = .returned (txt t).agg ∧ Below w.heap.size w w' := by
 go_enter Tryz.func105, Tryz.ntmps105
 go_wp2_with fail
 refine bodyPost_ret (results_cell_row rfl _ _ w.heap.size 25 _ (0, 0) _ rfl (heap_alloc_new w _) Tryz.underlying25 rfl (by kernel_rfl)) rfl ?_
 exact ⟨rfl, one_below _ _⟩
theorem over_180 (b : Bool) (w : World) : Calls Tryz.prog 103 #[.bool b] w fun ev w' => ev = .returned (.int .i64 (if b = true then 10 else 0)) ∧ w' = w := by
 cases b
 ·go_enter Tryz.func103, Tryz.ntmps103
  go_wp2
  go_ret
  exact ⟨rfl, rfl⟩
 ·go_enter Tryz.func103, Tryz.ntmps103
  go_wp2
  go_ret
  exact ⟨rfl, rfl⟩
def ofI (k : Int) (l : List Dat) : Int := if l.all (isK k) = true then (if (l.any fun d => decide (d.kind = 1)) = true then 1 else 0) else -1
theorem ofI_bad {k : Int} {l : List Dat} {i : Nat} {d : Dat} (hd : l[i]? = some d) (h : isK k d = false) : ofI k l = -1 := by
 unfold ofI
 rw [if_neg]
 intro ha
 rw [List.all_eq_true] at ha
 rw [ha d (List.mem_of_getElem? hd)] at h
 cases h
def OfIPost (k : Int) (l : List Dat) (w : World) (ev : Ending) (w' : World) : Prop := ev = .returned (.int .i64 (ofI k l)) ∧ Below w.heap.size w w'
theorem ofI_no {k : Int} {l : List Dat} {i : Nat} {d : Dat} {w w' : World} (hd : l[i]? = some d) (h : isK k d = false) (hb : Below w.heap.size w w') : OfIPost k l w (.returned (.int .i64 (-1))) w' := ⟨by rw [ofI_bad hd h], hb⟩
theorem ofI_yes {k : Int} {l : List Dat} {w w' : World} {b : Bool} {n : Int} (h : l.all (isK k) = true) (hb2 : b = l.any fun d => decide (d.kind = 1)) (hn : n = if b = true then 1 else 0) (hb : Below w.heap.size w w') : OfIPost k l w (.returned (.int .i64 n)) w' := by
 refine ⟨?_, hb⟩
 unfold ofI
 rw [if_pos h, hn, hb2]
theorem of_181 (k : Int) (l : List Dat) (v : Value) (w : World) (hl : l.length ≤ 1000000) (hf : ∀ d ∈ l, d.fits) (hv : DatsOn (fun _ => True) w l v) :
  Calls Tryz.prog 104 #[.int .u8 k, v] w (OfIPost k l w) := by
 obtain ⟨a, cc, rfl, -, hks⟩ := hv
 have hck := fun (d : Dat) (hd : d ∈ l) (W : World) => check_105 d W (hf d hd)
 unfold Dat.agg at hck
 have HCK := Lib.hid hck
 have HKS := Lib.hid hks
 obtain ⟨K, eK⟩ : ∃ K, K = l.length := ⟨_, rfl⟩
 rw [← eK] at hl ⊢
 have EK := Lib.hid eK
 clear hck hks eK hf
 go_enter Tryz.func104, Tryz.ntmps104
 go_wp2_with fail
 go_loopg [5, 6] K (fun g s5 s6 wr => ∃ (i : Nat) (b : Bool), i ≤ K ∧ g = K - i ∧ s6 = .int .i64 i ∧ s5 = .int .i64 (if b = true then 1 else 0) ∧ (b = (l.take i).any (fun d => decide (d.kind = 1)) ∧ (l.take i).all (isK k) = true) ∧ Below w.heap.size w wr)
 case atStart => exact ⟨0, false, Nat.zero_le _, rfl, rfl, rfl, ⟨rfl, rfl⟩, Below.refl _ _⟩
 case round =>
  obtain ⟨i, b, hi, rfl, rfl, rfl, ⟨hb, hall⟩, hbr⟩ := hrel
  obtain ⟨bi, ebi⟩ : ∃ n, n = (if b = true then (1 : Int) else 0) := ⟨_, rfl⟩
  rw [← ebi]
  have EBI := Lib.hid ebi
  have HB := Lib.hid hb
  have HALL := Lib.hid hall
  clear hb hall ebi
  by_cases hlt : i < K
  ·obtain ⟨d, hd⟩ : ∃ d, l[i]? = some d := ⟨l[i]'(by rw [← EK.out]; exact hlt), List.getElem?_eq_getElem _⟩
   obtain ⟨bb, off, rfl, -, hcs⟩ := HKS.out (fun e => by rw [e] at hd; simp at hd)
   have hcs := hcs i d hd
   have HCS := Lib.hid hcs
   obtain ⟨k0, k1, k2, k3⟩ := hcs
   have k0 := cell_keep hbr k0
   have k1 := cell_keep hbr k1
   have k2 := cell_keep hbr k2
   have k3 := cell_keep hbr k3
   have hct := HCK.out d (List.mem_of_getElem? hd) wr
   have HCT := Lib.hid hct
   have HBR := Lib.hid hbr
   have HD := Lib.hid hd
   clear hct hbr hd hcs
   by_cases hok : chkD d = 0
   ·have HOK := Lib.hid hok
    rw [hok] at HCT
    clear hok
    cases e1 : (d.kind != k)
    rotate_left
    ·cases e2 : (d.kind != 1)
     rotate_left
     ·have hbad : isK k d = false := by
       have h1 : ¬ d.kind = k := by simpa using e1
       have h2 : ¬ d.kind = 1 := by simpa using e2
       simp [isK, h1, h2]
      have HBAD := Lib.hid hbad
      clear hbad
      go_wp2_with (go_at_call 26; refine HCT.out.mono ?_; rintro ev w3 ⟨rfl, hb3⟩; have HB3 := Lib.hid (HBR.out.trans (hb3.mono HBR.out.size)); clear k0 k1 k2 k3; have k0 := cell_keep HB3.out HCS.out.1; clear hb3)
      go_ret
      exact ofI_no HD.out HBAD.out HB3.out
     ·have h2 : d.kind = 1 := by simpa using e2
      have hgd : isK k d = true := by simp [isK, h2, okD, HOK.out]
      have HGD := Lib.hid hgd
      have e3 : (d.kind == 1) = true := by simpa using h2
      have H2 := Lib.hid h2
      clear hgd h2
      go_wp2_with (go_at_call 26; refine HCT.out.mono ?_; rintro ev w3 ⟨rfl, hb3⟩; have HB3 := Lib.hid (HBR.out.trans (hb3.mono HBR.out.size)); clear k0 k1 k2 k3; have k0 := cell_keep HB3.out HCS.out.1; clear hb3)
      go_roundg (K - (i + 1))
      case measure => omega
      case rel => exact ⟨i + 1, true, by omega, rfl, by go_num, rfl, ⟨by rw [any_take HD.out, ← HB.out]; simp [H2.out], all_take HD.out HALL.out HGD.out⟩, HB3.out⟩
    ·have h1 : d.kind = k := by simpa using e1
     have hgd : isK k d = true := by simp [isK, h1, okD, HOK.out]
     have HGD := Lib.hid hgd
     clear hgd h1
     cases e3 : (d.kind == 1)
     ·have h3 : ¬ d.kind = 1 := by simpa using e3
      have H3 := Lib.hid h3
      clear h3
      go_wp2_with (go_at_call 26; refine HCT.out.mono ?_; rintro ev w3 ⟨rfl, hb3⟩; have HB3 := Lib.hid (HBR.out.trans (hb3.mono HBR.out.size)); clear k0 k1 k2 k3; have k0 := cell_keep HB3.out HCS.out.1; clear hb3)
      go_roundg (K - (i + 1))
      case measure => omega
      case rel => exact ⟨i + 1, b, by omega, rfl, by go_num, by rw [EBI.out], ⟨by rw [any_take HD.out, ← HB.out]; simp [H3.out], all_take HD.out HALL.out HGD.out⟩, HB3.out⟩
     ·have h3 : d.kind = 1 := by simpa using e3
      have H3 := Lib.hid h3
      clear h3
      go_wp2_with (go_at_call 26; refine HCT.out.mono ?_; rintro ev w3 ⟨rfl, hb3⟩; have HB3 := Lib.hid (HBR.out.trans (hb3.mono HBR.out.size)); clear k0 k1 k2 k3; have k0 := cell_keep HB3.out HCS.out.1; clear hb3)
      go_roundg (K - (i + 1))
      case measure => omega
      case rel => exact ⟨i + 1, true, by omega, rfl, by go_num, rfl, ⟨by rw [any_take HD.out, ← HB.out]; simp [H3.out], all_take HD.out HALL.out HGD.out⟩, HB3.out⟩
   ·have hbad : isK k d = false := by simp [isK, okD, hok]
    have HBAD := Lib.hid hbad
    have hne : ((chkD d : Int) != 0) = true := by simp; exact hok
    clear hbad hok
    go_wp2_with (go_at_call 26; refine HCT.out.mono ?_; rintro ev w3 ⟨rfl, hb3⟩; have HB3 := Lib.hid (HBR.out.trans (hb3.mono HBR.out.size)); clear k0 k1 k2 k3; have k0 := cell_keep HB3.out HCS.out.1; clear hb3)
    go_ret
    exact ofI_no HD.out HBAD.out HB3.out
  ·obtain rfl : K = i := by omega
   have HBR := Lib.hid hbr
   clear hbr
   have hwl : l.take K = l := List.take_of_length_le (by rw [EK.out]; exact Nat.le_refl _)
   have hb := HB.out
   have ha := HALL.out
   rw [hwl] at hb ha
   have HB' := Lib.hid hb
   have HA' := Lib.hid ha
   clear hb ha hwl
   go_wp2
   go_ret
   exact ofI_yes HA'.out HB'.out EBI.out HBR.out
def numR (n e : Int) : Res := if e = 0 then (num n, 0) else bad e.toNat
theorem ofI_iff (k : Int) (l : List Dat) (r : Res) : apR k l r = if ofI k l = -1 then bad 13 else if ofI k l = 1 then (nul, 0) else r := by
 unfold apR ofR ofI
 by_cases h : l.all (isK k) = true
 ·rw [if_pos h, if_pos h]
  cases h2 : (l.any fun d => decide (d.kind = 1)) <;> simp
 ·rw [if_neg h, if_neg h]
  simp
theorem ofI_three (k : Int) (l : List Dat) : ofI k l = -1 ∨ ofI k l = 1 ∨ ofI k l = 0 := by
 unfold ofI
 split
 ·split <;> simp
 ·simp
theorem numbers_179 (n e : Int) (l : List Dat) (v : Value) (w : World) (h0 : 0 ≤ e) (hl : l.length ≤ 1000000) (hf : ∀ d ∈ l, d.fits) (hv : DatsOn (fun _ => True) w l v) :
  Calls Tryz.prog 102 #[.int .i64 n, .int .i64 e, v] w (RefPost (apR 3 l (numR n e)) w) := by
 have hof := fun W hb => of_181 3 l v W hl hf (hv.below (w' := W) hb)
 rw [ofI_iff]
 have h3 := ofI_three 3 l
 unfold OfIPost at hof
 generalize ofI 3 l = o at *
 have HOF := Lib.hid hof
 clear hof hf hv
 obtain ⟨X, hX⟩ : ∃ X, (if o = -1 then bad 13 else if o = 1 then (nul, 0) else numR n e) = X := ⟨_, rfl⟩
 rw [hX]
 rcases h3 with rfl | rfl | rfl
 ·rw [if_pos rfl] at hX
  subst hX
  go_enter Tryz.func102, Tryz.ntmps102
  go_wp2_with (go_at_call 104; refine (HOF.out _ (one_below _ _)).mono ?_; rintro ev w3 ⟨rfl, hb3⟩; have t1 := one_at hb3; have HB3 := Lib.hid ((one_below _ _).trans (hb3.mono (by simp))); have T1 := Lib.hid t1; obtain ⟨z0, g0, z1, g1, z2, g2, z3, g3⟩ := cf4 t1; clear hb3 t1)
  refine bodyPost_ret (results_row_tmp rfl _ _ (w.heap.size) 25 _ (0, 0) _ rfl (setRow4_at T1.out) Tryz.underlying25 rfl (by kernel_rfl)) rfl ?_
  exact ⟨rfl, setRow4_below HB3.out (by show w.heap.size ≤ w.heap.size; omega)⟩
 ·rw [if_neg (by decide), if_pos rfl] at hX
  subst hX
  go_enter Tryz.func102, Tryz.ntmps102
  go_wp2_with (first | (go_at_call 104; refine (HOF.out _ (one_below _ _)).mono ?_; rintro ev w3 ⟨rfl, hb3⟩; have t1 := one_at hb3; have HB3 := Lib.hid ((one_below _ _).trans (hb3.mono (by simp))); have T1 := Lib.hid t1; clear hb3 t1) | (go_at_call 40; refine (rnull_92 _).mono ?_; rintro ev w5 ⟨rfl, hb5⟩; have t5 := (hb5.block _ (lt_of_heap T1.out)).trans T1.out; obtain ⟨z0, g0, z1, g1, z2, g2, z3, g3⟩ := cf4 t5; have T1 := Lib.hid t5; have HB3 := Lib.hid (HB3.out.trans (hb5.mono HB3.out.size)); unfold nul Dat.agg; clear hb5 t5))
  refine bodyPost_ret (results_row_tmp rfl _ _ (w.heap.size) 25 _ (0, 0) _ rfl (setRow4_at T1.out) Tryz.underlying25 rfl (by kernel_rfl)) rfl ?_
  exact ⟨rfl, setRow4_below HB3.out (by show w.heap.size ≤ w.heap.size; omega)⟩
 ·rw [if_neg (by decide), if_neg (by decide)] at hX
  by_cases he : e = 0
  ·subst he
   have hX : (num n, 0) = X := by rw [← hX]; rfl
   subst hX
   go_enter Tryz.func102, Tryz.ntmps102
   go_wp2_with (first | (go_at_call 104; refine (HOF.out _ (one_below _ _)).mono ?_; rintro ev w3 ⟨rfl, hb3⟩; have t1 := one_at hb3; have HB3 := Lib.hid ((one_below _ _).trans (hb3.mono (by simp))); have T1 := Lib.hid t1; clear hb3 t1) | (go_at_call 106; refine (rint_47 _ _).mono ?_; rintro ev w5 ⟨rfl, hb5⟩; have t5 := (hb5.block _ (lt_of_heap T1.out)).trans T1.out; obtain ⟨z0, g0, z1, g1, z2, g2, z3, g3⟩ := cf4 t5; have T1 := Lib.hid t5; have HB3 := Lib.hid (HB3.out.trans (hb5.mono HB3.out.size)); unfold num Dat.agg; clear hb5 t5))
   refine bodyPost_ret (results_row_tmp rfl _ _ (w.heap.size) 25 _ (0, 0) _ rfl (setRow4_at T1.out) Tryz.underlying25 rfl (by kernel_rfl)) rfl ?_
   exact ⟨rfl, setRow4_below HB3.out (by show w.heap.size ≤ w.heap.size; omega)⟩
  ·have hR : resI X = .tuple #[Dat.zero.agg, .int .i64 e] := by
    rw [← hX]
    unfold numR
    rw [if_neg he]
    simp only [resI, bad]
    rw [show ((e.toNat : Nat) : Int) = e by omega]
   have HR := Lib.hid hR
   have q : (e != 0) = true := by simp [he]
   clear hX hR h0 he
   go_enter Tryz.func102, Tryz.ntmps102
   go_wp2_with (go_at_call 104; refine (HOF.out _ (one_below _ _)).mono ?_; rintro ev w3 ⟨rfl, hb3⟩; have t1 := one_at hb3; have HB3 := Lib.hid ((one_below _ _).trans (hb3.mono (by simp))); have T1 := Lib.hid t1; obtain ⟨z0, g0, z1, g1, z2, g2, z3, g3⟩ := cf4 t1; clear hb3 t1)
   refine bodyPost_ret (results_row_tmp rfl _ _ (w.heap.size) 25 _ (0, 0) _ rfl (setRow4_at T1.out) Tryz.underlying25 rfl (by kernel_rfl)) rfl ?_
   exact ⟨by rw [HR.out]; rfl, setRow4_below HB3.out (by show w.heap.size ≤ w.heap.size; omega)⟩
end Go.Proofs.YtmmhedlagnjbiaaGreatDoor
namespace Go.Proofs.YtmmhedlagnjbiaaGreatDoor
open Go.RowKit Go.Pen Go.Shelf
attribute [local go_sem ↓] Go.wp_at_zero Go.wp_at_succ
attribute [local go_sem] Oper.semAt_some
theorem rcat_140 (a b : Dat) (w : World) (fa : a.fits) (fb : b.fits) : Calls Tryz.prog 81 #[a.agg, b.agg] w (RefPost (catD a b) w) := by
 have hof := fun (W : World) (g : Nat) (hg : W.heap[g]? = some (.cells #[.int .u8 a.kind, .bool a.bool, .int .i64 a.int, .string a.text, .int .u8 b.kind, .bool b.bool, .int .i64 b.int, .string b.text] 25 (0, 0))) => of_181 4 [a, b] _ W (by simp) (by intro d hd; simp at hd; rcases hd with rfl | rfl; exact fa; exact fb) (dats2 hg)
 have hX : catD a b = if ofI 4 [a, b] = -1 then bad 13 else if ofI 4 [a, b] = 1 then (nul, 0) else if 1000 < a.text.size + b.text.size then bad 12 else (txt ⟨(a.text.data.toList ++ b.text.data.toList).toArray⟩, 0) := by
  rw [← ofI_iff, apR_both]
  rfl
 rw [hX]
 have h3 := ofI_three 4 [a, b]
 unfold OfIPost at hof
 generalize ofI 4 [a, b] = o at *
 have HOF := Lib.hid hof
 have fa3 := fa.2.2
 have fb3 := fb.2.2
 clear hof hX fa fb
 unfold Dat.agg
 rcases h3 with rfl | rfl | rfl
 ·rw [if_pos rfl]
  clear fa3 fb3
  go_enter Tryz.func81, Tryz.ntmps81
  go_wp2_with fail
  have h3 := three_at (w := w) (a := .cells #[.int .u8 a.kind, .bool a.bool, .int .i64 a.int, .string a.text] 25) (b := .cells #[.int .u8 b.kind, .bool b.bool, .int .i64 b.int, .string b.text] 25) (c := .cells #[.int .u8 0, .bool false, .int .i64 0, .string ⟨#[]⟩] 25) (Below.refl _ _)
  have h4 := heap_alloc_new (((w.alloc (.cells #[.int .u8 a.kind, .bool a.bool, .int .i64 a.int, .string a.text] 25)).alloc (.cells #[.int .u8 b.kind, .bool b.bool, .int .i64 b.int, .string b.text] 25)).alloc (.cells #[.int .u8 0, .bool false, .int .i64 0, .string ⟨#[]⟩] 25)) (.cells #[.int .u8 a.kind, .bool a.bool, .int .i64 a.int, .string a.text, .int .u8 b.kind, .bool b.bool, .int .i64 b.int, .string b.text] 25)
  rw [World.size_alloc, World.size_alloc, World.size_alloc] at h4
  have hkeep : ∀ {g : Nat} {y : Obj}, (((w.alloc (.cells #[.int .u8 a.kind, .bool a.bool, .int .i64 a.int, .string a.text] 25)).alloc (.cells #[.int .u8 b.kind, .bool b.bool, .int .i64 b.int, .string b.text] 25)).alloc (.cells #[.int .u8 0, .bool false, .int .i64 0, .string ⟨#[]⟩] 25)).heap[g]? = some y → ((((w.alloc (.cells #[.int .u8 a.kind, .bool a.bool, .int .i64 a.int, .string a.text] 25)).alloc (.cells #[.int .u8 b.kind, .bool b.bool, .int .i64 b.int, .string b.text] 25)).alloc (.cells #[.int .u8 0, .bool false, .int .i64 0, .string ⟨#[]⟩] 25)).alloc (.cells #[.int .u8 a.kind, .bool a.bool, .int .i64 a.int, .string a.text, .int .u8 b.kind, .bool b.bool, .int .i64 b.int, .string b.text] 25)).heap[g]? = some y := fun h => (Below.heap_alloc _ _ _ (lt_of_heap h)).trans h
  refine (HOF.out _ _ h4).mono ?_
  rintro ev w5 ⟨rfl, hb5⟩
  have t5 := (hb5.block _ (lt_of_heap (hkeep h3.2.2))).trans (hkeep h3.2.2)
  have ta := (hb5.block _ (lt_of_heap (hkeep h3.1))).trans (hkeep h3.1)
  have tb := (hb5.block _ (lt_of_heap (hkeep h3.2.1))).trans (hkeep h3.2.1)
  have T5 := Lib.hid t5
  have HB5 := Lib.hid ((four_below _ _ _ _ _).trans (hb5.mono (by simp <;> omega)))
  have a3 := cell_of_heap (o := 3) ta rfl
  have b3 := cell_of_heap (o := 3) tb rfl
  obtain ⟨z0, g0, z1, g1, z2, g2, z3, g3⟩ := cf4 t5
  clear hb5 t5 h3 h4 hkeep ta tb
  go_wp2
  refine bodyPost_ret (results_row_tmp rfl _ _ (w.heap.size + 1 + 1) 25 _ (0, 0) _ rfl (setRow4_at T5.out) Tryz.underlying25 rfl (by kernel_rfl)) rfl ?_
  exact ⟨rfl, setRow4_below HB5.out (by show w.heap.size ≤ w.heap.size + 1 + 1; omega)⟩
 ·rw [if_neg (by decide), if_pos rfl]
  clear fa3 fb3
  go_enter Tryz.func81, Tryz.ntmps81
  go_wp2_with fail
  have h3 := three_at (w := w) (a := .cells #[.int .u8 a.kind, .bool a.bool, .int .i64 a.int, .string a.text] 25) (b := .cells #[.int .u8 b.kind, .bool b.bool, .int .i64 b.int, .string b.text] 25) (c := .cells #[.int .u8 0, .bool false, .int .i64 0, .string ⟨#[]⟩] 25) (Below.refl _ _)
  have h4 := heap_alloc_new (((w.alloc (.cells #[.int .u8 a.kind, .bool a.bool, .int .i64 a.int, .string a.text] 25)).alloc (.cells #[.int .u8 b.kind, .bool b.bool, .int .i64 b.int, .string b.text] 25)).alloc (.cells #[.int .u8 0, .bool false, .int .i64 0, .string ⟨#[]⟩] 25)) (.cells #[.int .u8 a.kind, .bool a.bool, .int .i64 a.int, .string a.text, .int .u8 b.kind, .bool b.bool, .int .i64 b.int, .string b.text] 25)
  rw [World.size_alloc, World.size_alloc, World.size_alloc] at h4
  have hkeep : ∀ {g : Nat} {y : Obj}, (((w.alloc (.cells #[.int .u8 a.kind, .bool a.bool, .int .i64 a.int, .string a.text] 25)).alloc (.cells #[.int .u8 b.kind, .bool b.bool, .int .i64 b.int, .string b.text] 25)).alloc (.cells #[.int .u8 0, .bool false, .int .i64 0, .string ⟨#[]⟩] 25)).heap[g]? = some y → ((((w.alloc (.cells #[.int .u8 a.kind, .bool a.bool, .int .i64 a.int, .string a.text] 25)).alloc (.cells #[.int .u8 b.kind, .bool b.bool, .int .i64 b.int, .string b.text] 25)).alloc (.cells #[.int .u8 0, .bool false, .int .i64 0, .string ⟨#[]⟩] 25)).alloc (.cells #[.int .u8 a.kind, .bool a.bool, .int .i64 a.int, .string a.text, .int .u8 b.kind, .bool b.bool, .int .i64 b.int, .string b.text] 25)).heap[g]? = some y := fun h => (Below.heap_alloc _ _ _ (lt_of_heap h)).trans h
  refine (HOF.out _ _ h4).mono ?_
  rintro ev w5 ⟨rfl, hb5⟩
  have t5 := (hb5.block _ (lt_of_heap (hkeep h3.2.2))).trans (hkeep h3.2.2)
  have ta := (hb5.block _ (lt_of_heap (hkeep h3.1))).trans (hkeep h3.1)
  have tb := (hb5.block _ (lt_of_heap (hkeep h3.2.1))).trans (hkeep h3.2.1)
  have T5 := Lib.hid t5
  have HB5 := Lib.hid ((four_below _ _ _ _ _).trans (hb5.mono (by simp <;> omega)))
  have a3 := cell_of_heap (o := 3) ta rfl
  have b3 := cell_of_heap (o := 3) tb rfl
  obtain ⟨z0, g0, z1, g1, z2, g2, z3, g3⟩ := cf4 t5
  clear hb5 t5 h3 h4 hkeep ta tb
  go_wp2_with fail
  refine (rnull_92 _).mono ?_
  rintro ev w6 ⟨rfl, hb6⟩
  clear z0 g0 z1 g1 z2 g2 z3 g3
  have t5 := (hb6.block _ (lt_of_heap T5.out)).trans T5.out
  have HB5 := Lib.hid (HB5.out.trans (hb6.mono HB5.out.size))
  obtain ⟨z0, g0, z1, g1, z2, g2, z3, g3⟩ := cf4 t5
  have T5 := Lib.hid t5
  clear hb6 t5
  unfold nul Dat.agg
  go_wp2
  refine bodyPost_ret (results_row_tmp rfl _ _ (w.heap.size + 1 + 1) 25 _ (0, 0) _ rfl (setRow4_at T5.out) Tryz.underlying25 rfl (by kernel_rfl)) rfl ?_
  exact ⟨rfl, setRow4_below HB5.out (by show w.heap.size ≤ w.heap.size + 1 + 1; omega)⟩
 ·rw [if_neg (by decide), if_neg (by decide)]
  by_cases h0 : 1000 < a.text.size + b.text.size
  ·rw [if_pos h0]
   have q0 : (1000 : Int) < (a.text.size : Int) + (b.text.size : Int) := by omega
   go_enter Tryz.func81, Tryz.ntmps81
   go_wp2_with fail
   have h3 := three_at (w := w) (a := .cells #[.int .u8 a.kind, .bool a.bool, .int .i64 a.int, .string a.text] 25) (b := .cells #[.int .u8 b.kind, .bool b.bool, .int .i64 b.int, .string b.text] 25) (c := .cells #[.int .u8 0, .bool false, .int .i64 0, .string ⟨#[]⟩] 25) (Below.refl _ _)
   have h4 := heap_alloc_new (((w.alloc (.cells #[.int .u8 a.kind, .bool a.bool, .int .i64 a.int, .string a.text] 25)).alloc (.cells #[.int .u8 b.kind, .bool b.bool, .int .i64 b.int, .string b.text] 25)).alloc (.cells #[.int .u8 0, .bool false, .int .i64 0, .string ⟨#[]⟩] 25)) (.cells #[.int .u8 a.kind, .bool a.bool, .int .i64 a.int, .string a.text, .int .u8 b.kind, .bool b.bool, .int .i64 b.int, .string b.text] 25)
   rw [World.size_alloc, World.size_alloc, World.size_alloc] at h4
   have hkeep : ∀ {g : Nat} {y : Obj}, (((w.alloc (.cells #[.int .u8 a.kind, .bool a.bool, .int .i64 a.int, .string a.text] 25)).alloc (.cells #[.int .u8 b.kind, .bool b.bool, .int .i64 b.int, .string b.text] 25)).alloc (.cells #[.int .u8 0, .bool false, .int .i64 0, .string ⟨#[]⟩] 25)).heap[g]? = some y → ((((w.alloc (.cells #[.int .u8 a.kind, .bool a.bool, .int .i64 a.int, .string a.text] 25)).alloc (.cells #[.int .u8 b.kind, .bool b.bool, .int .i64 b.int, .string b.text] 25)).alloc (.cells #[.int .u8 0, .bool false, .int .i64 0, .string ⟨#[]⟩] 25)).alloc (.cells #[.int .u8 a.kind, .bool a.bool, .int .i64 a.int, .string a.text, .int .u8 b.kind, .bool b.bool, .int .i64 b.int, .string b.text] 25)).heap[g]? = some y := fun h => (Below.heap_alloc _ _ _ (lt_of_heap h)).trans h
   refine (HOF.out _ _ h4).mono ?_
   rintro ev w5 ⟨rfl, hb5⟩
   have t5 := (hb5.block _ (lt_of_heap (hkeep h3.2.2))).trans (hkeep h3.2.2)
   have ta := (hb5.block _ (lt_of_heap (hkeep h3.1))).trans (hkeep h3.1)
   have tb := (hb5.block _ (lt_of_heap (hkeep h3.2.1))).trans (hkeep h3.2.1)
   have T5 := Lib.hid t5
   have HB5 := Lib.hid ((four_below _ _ _ _ _).trans (hb5.mono (by simp <;> omega)))
   have a3 := cell_of_heap (o := 3) ta rfl
   have b3 := cell_of_heap (o := 3) tb rfl
   obtain ⟨z0, g0, z1, g1, z2, g2, z3, g3⟩ := cf4 t5
   clear hb5 t5 h3 h4 hkeep ta tb
   go_wp2
   refine bodyPost_ret (results_row_tmp rfl _ _ (w.heap.size + 1 + 1) 25 _ (0, 0) _ rfl (setRow4_at T5.out) Tryz.underlying25 rfl (by kernel_rfl)) rfl ?_
   exact ⟨rfl, setRow4_below HB5.out (by show w.heap.size ≤ w.heap.size + 1 + 1; omega)⟩
  ·rw [if_neg h0]
   have q0 : ¬ (1000 : Int) < (a.text.size : Int) + (b.text.size : Int) := by omega
   go_enter Tryz.func81, Tryz.ntmps81
   go_wp2_with fail
   have h3 := three_at (w := w) (a := .cells #[.int .u8 a.kind, .bool a.bool, .int .i64 a.int, .string a.text] 25) (b := .cells #[.int .u8 b.kind, .bool b.bool, .int .i64 b.int, .string b.text] 25) (c := .cells #[.int .u8 0, .bool false, .int .i64 0, .string ⟨#[]⟩] 25) (Below.refl _ _)
   have h4 := heap_alloc_new (((w.alloc (.cells #[.int .u8 a.kind, .bool a.bool, .int .i64 a.int, .string a.text] 25)).alloc (.cells #[.int .u8 b.kind, .bool b.bool, .int .i64 b.int, .string b.text] 25)).alloc (.cells #[.int .u8 0, .bool false, .int .i64 0, .string ⟨#[]⟩] 25)) (.cells #[.int .u8 a.kind, .bool a.bool, .int .i64 a.int, .string a.text, .int .u8 b.kind, .bool b.bool, .int .i64 b.int, .string b.text] 25)
   rw [World.size_alloc, World.size_alloc, World.size_alloc] at h4
   have hkeep : ∀ {g : Nat} {y : Obj}, (((w.alloc (.cells #[.int .u8 a.kind, .bool a.bool, .int .i64 a.int, .string a.text] 25)).alloc (.cells #[.int .u8 b.kind, .bool b.bool, .int .i64 b.int, .string b.text] 25)).alloc (.cells #[.int .u8 0, .bool false, .int .i64 0, .string ⟨#[]⟩] 25)).heap[g]? = some y → ((((w.alloc (.cells #[.int .u8 a.kind, .bool a.bool, .int .i64 a.int, .string a.text] 25)).alloc (.cells #[.int .u8 b.kind, .bool b.bool, .int .i64 b.int, .string b.text] 25)).alloc (.cells #[.int .u8 0, .bool false, .int .i64 0, .string ⟨#[]⟩] 25)).alloc (.cells #[.int .u8 a.kind, .bool a.bool, .int .i64 a.int, .string a.text, .int .u8 b.kind, .bool b.bool, .int .i64 b.int, .string b.text] 25)).heap[g]? = some y := fun h => (Below.heap_alloc _ _ _ (lt_of_heap h)).trans h
   refine (HOF.out _ _ h4).mono ?_
   rintro ev w5 ⟨rfl, hb5⟩
   have t5 := (hb5.block _ (lt_of_heap (hkeep h3.2.2))).trans (hkeep h3.2.2)
   have ta := (hb5.block _ (lt_of_heap (hkeep h3.1))).trans (hkeep h3.1)
   have tb := (hb5.block _ (lt_of_heap (hkeep h3.2.1))).trans (hkeep h3.2.1)
   have T5 := Lib.hid t5
   have HB5 := Lib.hid ((four_below _ _ _ _ _).trans (hb5.mono (by simp <;> omega)))
   have a3 := cell_of_heap (o := 3) ta rfl
   have b3 := cell_of_heap (o := 3) tb rfl
   obtain ⟨z0, g0, z1, g1, z2, g2, z3, g3⟩ := cf4 t5
   clear hb5 t5 h3 h4 hkeep ta tb
   go_wp2_with fail
   refine (rtext_182 _ _).mono ?_
   rintro ev w6 ⟨rfl, hb6⟩
   clear z0 g0 z1 g1 z2 g2 z3 g3
   have t5 := (hb6.block _ (lt_of_heap T5.out)).trans T5.out
   have HB5 := Lib.hid (HB5.out.trans (hb6.mono HB5.out.size))
   obtain ⟨z0, g0, z1, g1, z2, g2, z3, g3⟩ := cf4 t5
   have T5 := Lib.hid t5
   clear hb6 t5
   unfold txt Dat.agg
   go_wp2
   refine bodyPost_ret (results_row_tmp rfl _ _ (w.heap.size + 1 + 1) 25 _ (0, 0) _ rfl (setRow4_at T5.out) Tryz.underlying25 rfl (by kernel_rfl)) rfl ?_
   exact ⟨rfl, setRow4_below HB5.out (by show w.heap.size ≤ w.heap.size + 1 + 1; omega)⟩
theorem rnot_142 (a : Dat) (w : World) (fa : a.fits) : Calls Tryz.prog 83 #[a.agg] w (RefPost (notD a) w) := by
 have hof := fun (W : World) (g : Nat) (hg : W.heap[g]? = some (.cells #[.int .u8 a.kind, .bool a.bool, .int .i64 a.int, .string a.text] 25 (0, 0))) => of_181 2 [a] _ W (by simp) (by intro d hd; simp at hd; rcases hd with rfl; exact fa) (dats1 hg)
 have hX : notD a = if ofI 2 [a] = -1 then bad 13 else if ofI 2 [a] = 1 then (nul, 0) else (boo (!a.bool), 0) := by
  rw [← ofI_iff, apR_sole]
  rfl
 rw [hX]
 have h3 := ofI_three 2 [a]
 unfold OfIPost at hof
 generalize ofI 2 [a] = o at *
 have HOF := Lib.hid hof
 have fa3 := fa.2.2
 clear hof hX fa
 unfold Dat.agg
 rcases h3 with rfl | rfl | rfl
 ·rw [if_pos rfl]
  go_enter Tryz.func83, Tryz.ntmps83
  go_wp2_with fail
  have h3 := two_at (w := w) (a := .cells #[.int .u8 a.kind, .bool a.bool, .int .i64 a.int, .string a.text] 25) (b := .cells #[.int .u8 0, .bool false, .int .i64 0, .string ⟨#[]⟩] 25) (Below.refl _ _)
  have h4 := heap_alloc_new ((w.alloc (.cells #[.int .u8 a.kind, .bool a.bool, .int .i64 a.int, .string a.text] 25)).alloc (.cells #[.int .u8 0, .bool false, .int .i64 0, .string ⟨#[]⟩] 25)) (.cells #[.int .u8 a.kind, .bool a.bool, .int .i64 a.int, .string a.text] 25)
  rw [World.size_alloc, World.size_alloc] at h4
  have hkeep : ∀ {g : Nat} {y : Obj}, ((w.alloc (.cells #[.int .u8 a.kind, .bool a.bool, .int .i64 a.int, .string a.text] 25)).alloc (.cells #[.int .u8 0, .bool false, .int .i64 0, .string ⟨#[]⟩] 25)).heap[g]? = some y → (((w.alloc (.cells #[.int .u8 a.kind, .bool a.bool, .int .i64 a.int, .string a.text] 25)).alloc (.cells #[.int .u8 0, .bool false, .int .i64 0, .string ⟨#[]⟩] 25)).alloc (.cells #[.int .u8 a.kind, .bool a.bool, .int .i64 a.int, .string a.text] 25)).heap[g]? = some y := fun h => (Below.heap_alloc _ _ _ (lt_of_heap h)).trans h
  refine (HOF.out _ _ h4).mono ?_
  rintro ev w5 ⟨rfl, hb5⟩
  have t5 := (hb5.block _ (lt_of_heap (hkeep h3.2))).trans (hkeep h3.2)
  have ta := (hb5.block _ (lt_of_heap (hkeep h3.1))).trans (hkeep h3.1)
  have T5 := Lib.hid t5
  have HB5 := Lib.hid ((three_below _ _ _ _).trans (hb5.mono (by simp <;> omega)))
  have a1 := cell_of_heap (o := 1) ta rfl
  have a3 := cell_of_heap (o := 3) ta rfl
  obtain ⟨z0, g0, z1, g1, z2, g2, z3, g3⟩ := cf4 t5
  clear hb5 t5 h3 h4 hkeep ta
  go_wp2
  refine bodyPost_ret (results_row_tmp rfl _ _ (w.heap.size + 1) 25 _ (0, 0) _ rfl (setRow4_at T5.out) Tryz.underlying25 rfl (by kernel_rfl)) rfl ?_
  exact ⟨rfl, setRow4_below HB5.out (by show w.heap.size ≤ w.heap.size + 1; omega)⟩
 ·rw [if_neg (by decide), if_pos rfl]
  go_enter Tryz.func83, Tryz.ntmps83
  go_wp2_with fail
  have h3 := two_at (w := w) (a := .cells #[.int .u8 a.kind, .bool a.bool, .int .i64 a.int, .string a.text] 25) (b := .cells #[.int .u8 0, .bool false, .int .i64 0, .string ⟨#[]⟩] 25) (Below.refl _ _)
  have h4 := heap_alloc_new ((w.alloc (.cells #[.int .u8 a.kind, .bool a.bool, .int .i64 a.int, .string a.text] 25)).alloc (.cells #[.int .u8 0, .bool false, .int .i64 0, .string ⟨#[]⟩] 25)) (.cells #[.int .u8 a.kind, .bool a.bool, .int .i64 a.int, .string a.text] 25)
  rw [World.size_alloc, World.size_alloc] at h4
  have hkeep : ∀ {g : Nat} {y : Obj}, ((w.alloc (.cells #[.int .u8 a.kind, .bool a.bool, .int .i64 a.int, .string a.text] 25)).alloc (.cells #[.int .u8 0, .bool false, .int .i64 0, .string ⟨#[]⟩] 25)).heap[g]? = some y → (((w.alloc (.cells #[.int .u8 a.kind, .bool a.bool, .int .i64 a.int, .string a.text] 25)).alloc (.cells #[.int .u8 0, .bool false, .int .i64 0, .string ⟨#[]⟩] 25)).alloc (.cells #[.int .u8 a.kind, .bool a.bool, .int .i64 a.int, .string a.text] 25)).heap[g]? = some y := fun h => (Below.heap_alloc _ _ _ (lt_of_heap h)).trans h
  refine (HOF.out _ _ h4).mono ?_
  rintro ev w5 ⟨rfl, hb5⟩
  have t5 := (hb5.block _ (lt_of_heap (hkeep h3.2))).trans (hkeep h3.2)
  have ta := (hb5.block _ (lt_of_heap (hkeep h3.1))).trans (hkeep h3.1)
  have T5 := Lib.hid t5
  have HB5 := Lib.hid ((three_below _ _ _ _).trans (hb5.mono (by simp <;> omega)))
  have a1 := cell_of_heap (o := 1) ta rfl
  have a3 := cell_of_heap (o := 3) ta rfl
  obtain ⟨z0, g0, z1, g1, z2, g2, z3, g3⟩ := cf4 t5
  clear hb5 t5 h3 h4 hkeep ta
  go_wp2_with fail
  refine (rnull_92 _).mono ?_
  rintro ev w6 ⟨rfl, hb6⟩
  clear z0 g0 z1 g1 z2 g2 z3 g3
  have t5 := (hb6.block _ (lt_of_heap T5.out)).trans T5.out
  have HB5 := Lib.hid (HB5.out.trans (hb6.mono HB5.out.size))
  obtain ⟨z0, g0, z1, g1, z2, g2, z3, g3⟩ := cf4 t5
  have T5 := Lib.hid t5
  clear hb6 t5
  unfold nul Dat.agg
  go_wp2
  refine bodyPost_ret (results_row_tmp rfl _ _ (w.heap.size + 1) 25 _ (0, 0) _ rfl (setRow4_at T5.out) Tryz.underlying25 rfl (by kernel_rfl)) rfl ?_
  exact ⟨rfl, setRow4_below HB5.out (by show w.heap.size ≤ w.heap.size + 1; omega)⟩
 ·rw [if_neg (by decide), if_neg (by decide)]
  go_enter Tryz.func83, Tryz.ntmps83
  go_wp2_with fail
  have h3 := two_at (w := w) (a := .cells #[.int .u8 a.kind, .bool a.bool, .int .i64 a.int, .string a.text] 25) (b := .cells #[.int .u8 0, .bool false, .int .i64 0, .string ⟨#[]⟩] 25) (Below.refl _ _)
  have h4 := heap_alloc_new ((w.alloc (.cells #[.int .u8 a.kind, .bool a.bool, .int .i64 a.int, .string a.text] 25)).alloc (.cells #[.int .u8 0, .bool false, .int .i64 0, .string ⟨#[]⟩] 25)) (.cells #[.int .u8 a.kind, .bool a.bool, .int .i64 a.int, .string a.text] 25)
  rw [World.size_alloc, World.size_alloc] at h4
  have hkeep : ∀ {g : Nat} {y : Obj}, ((w.alloc (.cells #[.int .u8 a.kind, .bool a.bool, .int .i64 a.int, .string a.text] 25)).alloc (.cells #[.int .u8 0, .bool false, .int .i64 0, .string ⟨#[]⟩] 25)).heap[g]? = some y → (((w.alloc (.cells #[.int .u8 a.kind, .bool a.bool, .int .i64 a.int, .string a.text] 25)).alloc (.cells #[.int .u8 0, .bool false, .int .i64 0, .string ⟨#[]⟩] 25)).alloc (.cells #[.int .u8 a.kind, .bool a.bool, .int .i64 a.int, .string a.text] 25)).heap[g]? = some y := fun h => (Below.heap_alloc _ _ _ (lt_of_heap h)).trans h
  refine (HOF.out _ _ h4).mono ?_
  rintro ev w5 ⟨rfl, hb5⟩
  have t5 := (hb5.block _ (lt_of_heap (hkeep h3.2))).trans (hkeep h3.2)
  have ta := (hb5.block _ (lt_of_heap (hkeep h3.1))).trans (hkeep h3.1)
  have T5 := Lib.hid t5
  have HB5 := Lib.hid ((three_below _ _ _ _).trans (hb5.mono (by simp <;> omega)))
  have a1 := cell_of_heap (o := 1) ta rfl
  have a3 := cell_of_heap (o := 3) ta rfl
  obtain ⟨z0, g0, z1, g1, z2, g2, z3, g3⟩ := cf4 t5
  clear hb5 t5 h3 h4 hkeep ta
  go_wp2_with fail
  refine (rbool_133 _ _).mono ?_
  rintro ev w6 ⟨rfl, hb6⟩
  clear z0 g0 z1 g1 z2 g2 z3 g3
  have t5 := (hb6.block _ (lt_of_heap T5.out)).trans T5.out
  have HB5 := Lib.hid (HB5.out.trans (hb6.mono HB5.out.size))
  obtain ⟨z0, g0, z1, g1, z2, g2, z3, g3⟩ := cf4 t5
  have T5 := Lib.hid t5
  clear hb6 t5
  unfold boo Dat.agg
  go_wp2
  refine bodyPost_ret (results_row_tmp rfl _ _ (w.heap.size + 1) 25 _ (0, 0) _ rfl (setRow4_at T5.out) Tryz.underlying25 rfl (by kernel_rfl)) rfl ?_
  exact ⟨rfl, setRow4_below HB5.out (by show w.heap.size ≤ w.heap.size + 1; omega)⟩
theorem ofI_zero (a : Dat) : ofI 4 [a] = 0 → Lib.validD a.text.data.toList = true := by
 intro h
 unfold ofI at h
 by_cases h1 : [a].all (isK 4) = true
 ·simp [isK, okD] at h1
  have h2 := h1.1
  unfold chkD at h2
  split at h2
  ·cases h2
  ·split at h2
   ·cases h2
   ·split at h2
    ·cases h2
    ·next h3 => simpa using h3
 ·rw [if_neg h1] at h
  exact absurd h (by decide)
theorem rlen_141 (a : Dat) (w : World) (fa : a.fits) : Calls Tryz.prog 82 #[a.agg] w (RefPost (lenD a) w) := by
 have hof := fun (W : World) (g : Nat) (hg : W.heap[g]? = some (.cells #[.int .u8 a.kind, .bool a.bool, .int .i64 a.int, .string a.text] 25 (0, 0))) => of_181 4 [a] _ W (by simp) (by intro d hd; simp at hd; rcases hd with rfl; exact fa) (dats1 hg)
 have hX : lenD a = if ofI 4 [a] = -1 then bad 13 else if ofI 4 [a] = 1 then (nul, 0) else (num (runes a.text.data.toList), 0) := by
  rw [← ofI_iff, apR_sole]
  rfl
 rw [hX]
 have h3 := ofI_three 4 [a]
 have hgd := ofI_zero a
 unfold OfIPost at hof
 generalize ofI 4 [a] = o at *
 have HOF := Lib.hid hof
 have fa3 := fa.2.2
 clear hof hX fa
 unfold Dat.agg
 rcases h3 with rfl | rfl | rfl
 ·rw [if_pos rfl]
  go_enter Tryz.func82, Tryz.ntmps82
  go_wp2_with fail
  have h3 := two_at (w := w) (a := .cells #[.int .u8 a.kind, .bool a.bool, .int .i64 a.int, .string a.text] 25) (b := .cells #[.int .u8 0, .bool false, .int .i64 0, .string ⟨#[]⟩] 25) (Below.refl _ _)
  have h4 := heap_alloc_new ((w.alloc (.cells #[.int .u8 a.kind, .bool a.bool, .int .i64 a.int, .string a.text] 25)).alloc (.cells #[.int .u8 0, .bool false, .int .i64 0, .string ⟨#[]⟩] 25)) (.cells #[.int .u8 a.kind, .bool a.bool, .int .i64 a.int, .string a.text] 25)
  rw [World.size_alloc, World.size_alloc] at h4
  have hkeep : ∀ {g : Nat} {y : Obj}, ((w.alloc (.cells #[.int .u8 a.kind, .bool a.bool, .int .i64 a.int, .string a.text] 25)).alloc (.cells #[.int .u8 0, .bool false, .int .i64 0, .string ⟨#[]⟩] 25)).heap[g]? = some y → (((w.alloc (.cells #[.int .u8 a.kind, .bool a.bool, .int .i64 a.int, .string a.text] 25)).alloc (.cells #[.int .u8 0, .bool false, .int .i64 0, .string ⟨#[]⟩] 25)).alloc (.cells #[.int .u8 a.kind, .bool a.bool, .int .i64 a.int, .string a.text] 25)).heap[g]? = some y := fun h => (Below.heap_alloc _ _ _ (lt_of_heap h)).trans h
  refine (HOF.out _ _ h4).mono ?_
  rintro ev w5 ⟨rfl, hb5⟩
  have t5 := (hb5.block _ (lt_of_heap (hkeep h3.2))).trans (hkeep h3.2)
  have ta := (hb5.block _ (lt_of_heap (hkeep h3.1))).trans (hkeep h3.1)
  have T5 := Lib.hid t5
  have HB5 := Lib.hid ((three_below _ _ _ _).trans (hb5.mono (by simp <;> omega)))
  have a1 := cell_of_heap (o := 1) ta rfl
  have a3 := cell_of_heap (o := 3) ta rfl
  obtain ⟨z0, g0, z1, g1, z2, g2, z3, g3⟩ := cf4 t5
  clear hb5 t5 h3 h4 hkeep ta
  go_wp2
  refine bodyPost_ret (results_row_tmp rfl _ _ (w.heap.size + 1) 25 _ (0, 0) _ rfl (setRow4_at T5.out) Tryz.underlying25 rfl (by kernel_rfl)) rfl ?_
  exact ⟨rfl, setRow4_below HB5.out (by show w.heap.size ≤ w.heap.size + 1; omega)⟩
 ·rw [if_neg (by decide), if_pos rfl]
  go_enter Tryz.func82, Tryz.ntmps82
  go_wp2_with fail
  have h3 := two_at (w := w) (a := .cells #[.int .u8 a.kind, .bool a.bool, .int .i64 a.int, .string a.text] 25) (b := .cells #[.int .u8 0, .bool false, .int .i64 0, .string ⟨#[]⟩] 25) (Below.refl _ _)
  have h4 := heap_alloc_new ((w.alloc (.cells #[.int .u8 a.kind, .bool a.bool, .int .i64 a.int, .string a.text] 25)).alloc (.cells #[.int .u8 0, .bool false, .int .i64 0, .string ⟨#[]⟩] 25)) (.cells #[.int .u8 a.kind, .bool a.bool, .int .i64 a.int, .string a.text] 25)
  rw [World.size_alloc, World.size_alloc] at h4
  have hkeep : ∀ {g : Nat} {y : Obj}, ((w.alloc (.cells #[.int .u8 a.kind, .bool a.bool, .int .i64 a.int, .string a.text] 25)).alloc (.cells #[.int .u8 0, .bool false, .int .i64 0, .string ⟨#[]⟩] 25)).heap[g]? = some y → (((w.alloc (.cells #[.int .u8 a.kind, .bool a.bool, .int .i64 a.int, .string a.text] 25)).alloc (.cells #[.int .u8 0, .bool false, .int .i64 0, .string ⟨#[]⟩] 25)).alloc (.cells #[.int .u8 a.kind, .bool a.bool, .int .i64 a.int, .string a.text] 25)).heap[g]? = some y := fun h => (Below.heap_alloc _ _ _ (lt_of_heap h)).trans h
  refine (HOF.out _ _ h4).mono ?_
  rintro ev w5 ⟨rfl, hb5⟩
  have t5 := (hb5.block _ (lt_of_heap (hkeep h3.2))).trans (hkeep h3.2)
  have ta := (hb5.block _ (lt_of_heap (hkeep h3.1))).trans (hkeep h3.1)
  have T5 := Lib.hid t5
  have HB5 := Lib.hid ((three_below _ _ _ _).trans (hb5.mono (by simp <;> omega)))
  have a1 := cell_of_heap (o := 1) ta rfl
  have a3 := cell_of_heap (o := 3) ta rfl
  obtain ⟨z0, g0, z1, g1, z2, g2, z3, g3⟩ := cf4 t5
  clear hb5 t5 h3 h4 hkeep ta
  go_wp2_with fail
  refine (rnull_92 _).mono ?_
  rintro ev w6 ⟨rfl, hb6⟩
  clear z0 g0 z1 g1 z2 g2 z3 g3
  have t5 := (hb6.block _ (lt_of_heap T5.out)).trans T5.out
  have HB5 := Lib.hid (HB5.out.trans (hb6.mono HB5.out.size))
  obtain ⟨z0, g0, z1, g1, z2, g2, z3, g3⟩ := cf4 t5
  have T5 := Lib.hid t5
  clear hb6 t5
  unfold nul Dat.agg
  go_wp2
  refine bodyPost_ret (results_row_tmp rfl _ _ (w.heap.size + 1) 25 _ (0, 0) _ rfl (setRow4_at T5.out) Tryz.underlying25 rfl (by kernel_rfl)) rfl ?_
  exact ⟨rfl, setRow4_below HB5.out (by show w.heap.size ≤ w.heap.size + 1; omega)⟩
 ·rw [if_neg (by decide), if_neg (by decide)]
  have hv : Lib.validD a.text.data.toList = true := hgd rfl
  have hru := fun (W : World) => runes_149 a.text W fa3
  have HRU := Lib.hid hru
  have HV := Lib.hid hv
  clear hru hv hgd
  go_enter Tryz.func82, Tryz.ntmps82
  go_wp2_with fail
  have h3 := two_at (w := w) (a := .cells #[.int .u8 a.kind, .bool a.bool, .int .i64 a.int, .string a.text] 25) (b := .cells #[.int .u8 0, .bool false, .int .i64 0, .string ⟨#[]⟩] 25) (Below.refl _ _)
  have h4 := heap_alloc_new ((w.alloc (.cells #[.int .u8 a.kind, .bool a.bool, .int .i64 a.int, .string a.text] 25)).alloc (.cells #[.int .u8 0, .bool false, .int .i64 0, .string ⟨#[]⟩] 25)) (.cells #[.int .u8 a.kind, .bool a.bool, .int .i64 a.int, .string a.text] 25)
  rw [World.size_alloc, World.size_alloc] at h4
  have hkeep : ∀ {g : Nat} {y : Obj}, ((w.alloc (.cells #[.int .u8 a.kind, .bool a.bool, .int .i64 a.int, .string a.text] 25)).alloc (.cells #[.int .u8 0, .bool false, .int .i64 0, .string ⟨#[]⟩] 25)).heap[g]? = some y → (((w.alloc (.cells #[.int .u8 a.kind, .bool a.bool, .int .i64 a.int, .string a.text] 25)).alloc (.cells #[.int .u8 0, .bool false, .int .i64 0, .string ⟨#[]⟩] 25)).alloc (.cells #[.int .u8 a.kind, .bool a.bool, .int .i64 a.int, .string a.text] 25)).heap[g]? = some y := fun h => (Below.heap_alloc _ _ _ (lt_of_heap h)).trans h
  refine (HOF.out _ _ h4).mono ?_
  rintro ev w5 ⟨rfl, hb5⟩
  have t5 := (hb5.block _ (lt_of_heap (hkeep h3.2))).trans (hkeep h3.2)
  have ta := (hb5.block _ (lt_of_heap (hkeep h3.1))).trans (hkeep h3.1)
  have T5 := Lib.hid t5
  have HB5 := Lib.hid ((three_below _ _ _ _).trans (hb5.mono (by simp <;> omega)))
  have a1 := cell_of_heap (o := 1) ta rfl
  have a3 := cell_of_heap (o := 3) ta rfl
  obtain ⟨z0, g0, z1, g1, z2, g2, z3, g3⟩ := cf4 t5
  clear hb5 t5 h3 h4 hkeep ta
  go_wp2_with fail
  refine (HRU.out _).mono ?_
  rintro _ w7 ⟨r, rfl, ⟨-, hr⟩, rfl⟩
  obtain rfl := hr HV.out
  go_wp2_with fail
  refine (rint_47 _ _).mono ?_
  rintro ev w6 ⟨rfl, hb6⟩
  clear z0 g0 z1 g1 z2 g2 z3 g3
  have t5 := (hb6.block _ (lt_of_heap T5.out)).trans T5.out
  have HB5 := Lib.hid (HB5.out.trans (hb6.mono HB5.out.size))
  obtain ⟨z0, g0, z1, g1, z2, g2, z3, g3⟩ := cf4 t5
  have T5 := Lib.hid t5
  clear hb6 t5
  unfold num Dat.agg
  go_wp2
  refine bodyPost_ret (results_row_tmp rfl _ _ (w.heap.size + 1) 25 _ (0, 0) _ rfl (setRow4_at T5.out) Tryz.underlying25 rfl (by kernel_rfl)) rfl ?_
  exact ⟨rfl, setRow4_below HB5.out (by show w.heap.size ≤ w.heap.size + 1; omega)⟩
theorem sign_209 (l s : Bool) (w : World) : Calls Tryz.prog 140 #[.bool l, .bool s] w fun ev w' => ev = .returned (.int .i64 (if l = true then -1 else if s = true then 0 else 1)) ∧ w' = w := by
 cases l <;> cases s
 all_goals
  go_enter Tryz.func140, Tryz.ntmps140
  go_wp2
  go_ret
  exact ⟨rfl, rfl⟩
theorem rcmp_183 (a b : Dat) (w : World) (hk : a.kind = b.kind) : Calls Tryz.prog 107 #[a.agg, b.agg] w fun ev w' => ev = .returned (.int .i64 (cmpD a b)) ∧ Below w.heap.size w w' := by
 obtain ⟨c, hc⟩ : ∃ c, cmpD a b = c := ⟨_, rfl⟩
 rw [hc]
 unfold cmpD at hc
 unfold Dat.agg
 have qk : (a.kind != b.kind) = false := by simp [hk]
 by_cases h2 : a.kind = 2
 ·rw [if_pos h2] at hc
  have q2 : (a.kind == 2) = true := by simp [h2]
  clear h2 hk
  generalize a.bool = x at *
  generalize b.bool = y at *
  cases x <;> cases y
  all_goals
   subst hc
   go_enter Tryz.func107, Tryz.ntmps107
   go_wp2_with (go_at_call 140; refine (sign_209 _ _ _).mono ?_; rintro ev w5 ⟨rfl, rfl⟩)
   go_ret
   exact ⟨rfl, two_below _ _ _⟩
 ·have q2 : (a.kind == 2) = false := by simp [h2]
  rw [if_neg h2] at hc
  by_cases h3 : a.kind = 3
  ·rw [if_pos h3] at hc
   have q3 : (a.kind == 3) = true := by simp [h3]
   have hcc : ∀ W, Calls Tryz.prog 140 #[.bool (decide (a.int < b.int)), .bool (a.int == b.int)] W fun ev w' => ev = .returned (.int .i64 c) ∧ w' = W := fun W => (sign_209 _ _ W).mono fun ev w' ⟨h, h'⟩ => ⟨by
    rw [h, ← hc]
    by_cases h1 : a.int < b.int
    ·simp [h1]
    ·by_cases h4 : b.int < a.int
     ·have h5 : ¬ a.int = b.int := by omega
      simp [h1, h4, h5]
     ·have h5 : a.int = b.int := by omega
      simp [h5], h'⟩
   have HC := Lib.hid hcc
   clear h2 h3 hc hk hcc
   go_enter Tryz.func107, Tryz.ntmps107
   go_wp2_with (go_at_call 140; refine (HC.out _).mono ?_; rintro ev w5 ⟨rfl, rfl⟩)
   go_ret
   exact ⟨rfl, two_below _ _ _⟩
  ·have q3 : (a.kind == 3) = false := by simp [h3]
   rw [if_neg h3] at hc
   by_cases h4 : a.kind = 4
   ·rw [if_pos h4] at hc
    have q4 : (a.kind == 4) = true := by simp [h4]
    rw [cmpL_eq, ← Lib.toList_data, ← Lib.toList_data] at hc
    have hcc : ∀ W, Calls Tryz.prog 140 #[.bool (Op.bytesLess a.text.toList b.text.toList), .bool (a.text.toList == b.text.toList)] W fun ev w' => ev = .returned (.int .i64 c) ∧ w' = W := fun W => by rw [← hc]; exact sign_209 _ _ W
    have HC := Lib.hid hcc
    clear h2 h3 h4 hc hk hcc
    go_enter Tryz.func107, Tryz.ntmps107
    go_wp2_with (go_at_call 140; refine (HC.out _).mono ?_; rintro ev w5 ⟨rfl, rfl⟩)
    go_ret
    exact ⟨rfl, two_below _ _ _⟩
   ·have q4 : (a.kind == 4) = false := by simp [h4]
    rw [if_neg h4] at hc
    subst hc
    clear h2 h3 h4 hk
    go_enter Tryz.func107, Tryz.ntmps107
    go_wp2_with fail
    go_ret
    exact ⟨rfl, two_below _ _ _⟩
theorem rcompare_143 (o : Int) (a b : Dat) (w : World) (h1 : 11 ≤ o) (h2 : o ≤ 16) (fa : a.fits) (fb : b.fits) :
  Calls Tryz.prog 84 #[.int .u8 o, a.agg, b.agg] w (RefPost (compD o a b) w) := by
 have hca := fun (W : World) (_ : Below w.heap.size w W) => check_105 a W fa
 have hcb := fun (W : World) (_ : Below w.heap.size w W) => check_105 b W fb
 obtain ⟨X, hX⟩ : ∃ X, compD o a b = X := ⟨_, rfl⟩
 rw [hX]
 unfold compD okD at hX
 have g1 : ¬ o < 11 := by omega
 have g2 : ¬ 16 < o := by omega
 have hcm := rcmp_183 a b
 unfold Dat.agg at *
 clear fa fb
 by_cases ea : chkD a = 0
 rotate_left
 ·have HCA := Lib.hid hca
  have q : ((chkD a : Int) != 0) = true := by simp; exact ea
  rw [if_pos (.inl (by simpa using ea))] at hX
  subst hX
  clear hca hcb hcm ea h1 h2
  go_enter Tryz.func84, Tryz.ntmps84
  go_wp2_with (first | (go_at_call 26; refine (HCA.out _ (three_below _ _ _ _)).mono ?_; rintro ev w4 ⟨rfl, hb4⟩; obtain ⟨t1, t2, t3⟩ := three_at hb4; obtain ⟨a0, a1, a2, a3⟩ := cs4 t1; obtain ⟨b0, b1, b2, b3⟩ := cs4 t2; obtain ⟨z0, g0, z1, g1, z2, g2, z3, g3⟩ := cf4 t3; have T1 := Lib.hid t1; have T2 := Lib.hid t2; have T3 := Lib.hid t3; have HB4 := Lib.hid ((three_below _ _ _ _).trans (hb4.mono (by simp <;> omega))); clear hb4 t1 t2 t3 HCA))
  refine bodyPost_ret (results_row_tmp rfl _ _ (w.heap.size + 1 + 1) 25 _ (0, 0) _ rfl (setRow4_at T3.out) Tryz.underlying25 rfl (by kernel_rfl)) rfl ?_
  exact ⟨rfl, setRow4_below HB4.out (by show w.heap.size ≤ w.heap.size + 1 + 1; omega)⟩
 ·rw [ea] at hca
  have HCA := Lib.hid hca
  by_cases eb : chkD b = 0
  rotate_left
  ·have HCB := Lib.hid hcb
   have q : ((chkD b : Int) != 0) = true := by simp; exact eb
   rw [if_pos (.inr (by simpa using eb))] at hX
   subst hX
   clear hca hcb hcm ea eb h1 h2
   go_enter Tryz.func84, Tryz.ntmps84
   go_wp2_with (first | (go_at_call 26; refine (HCA.out _ (three_below _ _ _ _)).mono ?_; rintro ev w4 ⟨rfl, hb4⟩; obtain ⟨t1, t2, t3⟩ := three_at hb4; obtain ⟨a0, a1, a2, a3⟩ := cs4 t1; obtain ⟨b0, b1, b2, b3⟩ := cs4 t2; obtain ⟨z0, g0, z1, g1, z2, g2, z3, g3⟩ := cf4 t3; have T1 := Lib.hid t1; have T2 := Lib.hid t2; have T3 := Lib.hid t3; have HB4 := Lib.hid ((three_below _ _ _ _).trans (hb4.mono (by simp <;> omega))); clear hb4 t1 t2 t3 HCA) | (go_at_call 26; refine (HCB.out _ HB4.out).mono ?_; rintro ev w5 ⟨rfl, hb5⟩; clear a0 b0 z0 g0 a1 b1 z1 g1 a2 b2 z2 g2 a3 b3 z3 g3; have t1 := (hb5.block _ (lt_of_heap T1.out)).trans T1.out; have t2 := (hb5.block _ (lt_of_heap T2.out)).trans T2.out; have t3 := (hb5.block _ (lt_of_heap T3.out)).trans T3.out; obtain ⟨a0, a1, a2, a3⟩ := cs4 t1; obtain ⟨b0, b1, b2, b3⟩ := cs4 t2; obtain ⟨z0, g0, z1, g1, z2, g2, z3, g3⟩ := cf4 t3; have T1 := Lib.hid t1; have T2 := Lib.hid t2; have T3 := Lib.hid t3; have HB4 := Lib.hid (HB4.out.trans (hb5.mono HB4.out.size)); clear hb5 t1 t2 t3 HCB))
   refine bodyPost_ret (results_row_tmp rfl _ _ (w.heap.size + 1 + 1) 25 _ (0, 0) _ rfl (setRow4_at T3.out) Tryz.underlying25 rfl (by kernel_rfl)) rfl ?_
   exact ⟨rfl, setRow4_below HB4.out (by show w.heap.size ≤ w.heap.size + 1 + 1; omega)⟩
  ·rw [eb] at hcb
   have HCB := Lib.hid hcb
   rw [ea, eb, if_neg (by simp)] at hX
   clear hca hcb ea eb
   by_cases ka : a.kind = 1
   ·rw [if_pos (.inl ka)] at hX
    subst hX
    have q : (a.kind == 1) = true := by simp [ka]
    clear hcm ka h1 h2
    go_enter Tryz.func84, Tryz.ntmps84
    go_wp2_with (first | (go_at_call 26; refine (HCA.out _ (three_below _ _ _ _)).mono ?_; rintro ev w4 ⟨rfl, hb4⟩; obtain ⟨t1, t2, t3⟩ := three_at hb4; obtain ⟨a0, a1, a2, a3⟩ := cs4 t1; obtain ⟨b0, b1, b2, b3⟩ := cs4 t2; obtain ⟨z0, g0, z1, g1, z2, g2, z3, g3⟩ := cf4 t3; have T1 := Lib.hid t1; have T2 := Lib.hid t2; have T3 := Lib.hid t3; have HB4 := Lib.hid ((three_below _ _ _ _).trans (hb4.mono (by simp <;> omega))); clear hb4 t1 t2 t3 HCA) | (go_at_call 26; refine (HCB.out _ HB4.out).mono ?_; rintro ev w5 ⟨rfl, hb5⟩; clear a0 b0 z0 g0 a1 b1 z1 g1 a2 b2 z2 g2 a3 b3 z3 g3; have t1 := (hb5.block _ (lt_of_heap T1.out)).trans T1.out; have t2 := (hb5.block _ (lt_of_heap T2.out)).trans T2.out; have t3 := (hb5.block _ (lt_of_heap T3.out)).trans T3.out; obtain ⟨a0, a1, a2, a3⟩ := cs4 t1; obtain ⟨b0, b1, b2, b3⟩ := cs4 t2; obtain ⟨z0, g0, z1, g1, z2, g2, z3, g3⟩ := cf4 t3; have T1 := Lib.hid t1; have T2 := Lib.hid t2; have T3 := Lib.hid t3; have HB4 := Lib.hid (HB4.out.trans (hb5.mono HB4.out.size)); clear hb5 t1 t2 t3 HCB) | (go_at_call 40; refine (rnull_92 _).mono ?_; rintro ev w7 ⟨rfl, hb7⟩; clear a0 b0 z0 g0 a1 b1 z1 g1 a2 b2 z2 g2 a3 b3 z3 g3; have t1 := (hb7.block _ (lt_of_heap T1.out)).trans T1.out; have t2 := (hb7.block _ (lt_of_heap T2.out)).trans T2.out; have t3 := (hb7.block _ (lt_of_heap T3.out)).trans T3.out; obtain ⟨a0, a1, a2, a3⟩ := cs4 t1; obtain ⟨b0, b1, b2, b3⟩ := cs4 t2; obtain ⟨z0, g0, z1, g1, z2, g2, z3, g3⟩ := cf4 t3; have T1 := Lib.hid t1; have T2 := Lib.hid t2; have T3 := Lib.hid t3; have HB4 := Lib.hid (HB4.out.trans (hb7.mono HB4.out.size)); clear hb7 t1 t2 t3; unfold nul Dat.agg))
    refine bodyPost_ret (results_row_tmp rfl _ _ (w.heap.size + 1 + 1) 25 _ (0, 0) _ rfl (setRow4_at T3.out) Tryz.underlying25 rfl (by kernel_rfl)) rfl ?_
    exact ⟨rfl, setRow4_below HB4.out (by show w.heap.size ≤ w.heap.size + 1 + 1; omega)⟩
   ·have q : (a.kind == 1) = false := by simp [ka]
    by_cases kb : b.kind = 1
    ·rw [if_pos (.inr kb)] at hX
     subst hX
     have q' : (b.kind == 1) = true := by simp [kb]
     clear hcm ka kb h1 h2
     go_enter Tryz.func84, Tryz.ntmps84
     go_wp2_with (first | (go_at_call 26; refine (HCA.out _ (three_below _ _ _ _)).mono ?_; rintro ev w4 ⟨rfl, hb4⟩; obtain ⟨t1, t2, t3⟩ := three_at hb4; obtain ⟨a0, a1, a2, a3⟩ := cs4 t1; obtain ⟨b0, b1, b2, b3⟩ := cs4 t2; obtain ⟨z0, g0, z1, g1, z2, g2, z3, g3⟩ := cf4 t3; have T1 := Lib.hid t1; have T2 := Lib.hid t2; have T3 := Lib.hid t3; have HB4 := Lib.hid ((three_below _ _ _ _).trans (hb4.mono (by simp <;> omega))); clear hb4 t1 t2 t3 HCA) | (go_at_call 26; refine (HCB.out _ HB4.out).mono ?_; rintro ev w5 ⟨rfl, hb5⟩; clear a0 b0 z0 g0 a1 b1 z1 g1 a2 b2 z2 g2 a3 b3 z3 g3; have t1 := (hb5.block _ (lt_of_heap T1.out)).trans T1.out; have t2 := (hb5.block _ (lt_of_heap T2.out)).trans T2.out; have t3 := (hb5.block _ (lt_of_heap T3.out)).trans T3.out; obtain ⟨a0, a1, a2, a3⟩ := cs4 t1; obtain ⟨b0, b1, b2, b3⟩ := cs4 t2; obtain ⟨z0, g0, z1, g1, z2, g2, z3, g3⟩ := cf4 t3; have T1 := Lib.hid t1; have T2 := Lib.hid t2; have T3 := Lib.hid t3; have HB4 := Lib.hid (HB4.out.trans (hb5.mono HB4.out.size)); clear hb5 t1 t2 t3 HCB) | (go_at_call 40; refine (rnull_92 _).mono ?_; rintro ev w7 ⟨rfl, hb7⟩; clear a0 b0 z0 g0 a1 b1 z1 g1 a2 b2 z2 g2 a3 b3 z3 g3; have t1 := (hb7.block _ (lt_of_heap T1.out)).trans T1.out; have t2 := (hb7.block _ (lt_of_heap T2.out)).trans T2.out; have t3 := (hb7.block _ (lt_of_heap T3.out)).trans T3.out; obtain ⟨a0, a1, a2, a3⟩ := cs4 t1; obtain ⟨b0, b1, b2, b3⟩ := cs4 t2; obtain ⟨z0, g0, z1, g1, z2, g2, z3, g3⟩ := cf4 t3; have T1 := Lib.hid t1; have T2 := Lib.hid t2; have T3 := Lib.hid t3; have HB4 := Lib.hid (HB4.out.trans (hb7.mono HB4.out.size)); clear hb7 t1 t2 t3; unfold nul Dat.agg))
     refine bodyPost_ret (results_row_tmp rfl _ _ (w.heap.size + 1 + 1) 25 _ (0, 0) _ rfl (setRow4_at T3.out) Tryz.underlying25 rfl (by kernel_rfl)) rfl ?_
     exact ⟨rfl, setRow4_below HB4.out (by show w.heap.size ≤ w.heap.size + 1 + 1; omega)⟩
    ·have q' : (b.kind == 1) = false := by simp [kb]
     rw [if_neg (by rintro (h | h); exact ka h; exact kb h)] at hX
     by_cases kk : a.kind = b.kind
     rotate_left
     ·rw [if_pos kk] at hX
      subst hX
      have q'' : (a.kind != b.kind) = true := by simp [kk]
      clear hcm ka kb kk h1 h2
      go_enter Tryz.func84, Tryz.ntmps84
      go_wp2_with (first | (go_at_call 26; refine (HCA.out _ (three_below _ _ _ _)).mono ?_; rintro ev w4 ⟨rfl, hb4⟩; obtain ⟨t1, t2, t3⟩ := three_at hb4; obtain ⟨a0, a1, a2, a3⟩ := cs4 t1; obtain ⟨b0, b1, b2, b3⟩ := cs4 t2; obtain ⟨z0, g0, z1, g1, z2, g2, z3, g3⟩ := cf4 t3; have T1 := Lib.hid t1; have T2 := Lib.hid t2; have T3 := Lib.hid t3; have HB4 := Lib.hid ((three_below _ _ _ _).trans (hb4.mono (by simp <;> omega))); clear hb4 t1 t2 t3 HCA) | (go_at_call 26; refine (HCB.out _ HB4.out).mono ?_; rintro ev w5 ⟨rfl, hb5⟩; clear a0 b0 z0 g0 a1 b1 z1 g1 a2 b2 z2 g2 a3 b3 z3 g3; have t1 := (hb5.block _ (lt_of_heap T1.out)).trans T1.out; have t2 := (hb5.block _ (lt_of_heap T2.out)).trans T2.out; have t3 := (hb5.block _ (lt_of_heap T3.out)).trans T3.out; obtain ⟨a0, a1, a2, a3⟩ := cs4 t1; obtain ⟨b0, b1, b2, b3⟩ := cs4 t2; obtain ⟨z0, g0, z1, g1, z2, g2, z3, g3⟩ := cf4 t3; have T1 := Lib.hid t1; have T2 := Lib.hid t2; have T3 := Lib.hid t3; have HB4 := Lib.hid (HB4.out.trans (hb5.mono HB4.out.size)); clear hb5 t1 t2 t3 HCB))
      refine bodyPost_ret (results_row_tmp rfl _ _ (w.heap.size + 1 + 1) 25 _ (0, 0) _ rfl (setRow4_at T3.out) Tryz.underlying25 rfl (by kernel_rfl)) rfl ?_
      exact ⟨rfl, setRow4_below HB4.out (by show w.heap.size ≤ w.heap.size + 1 + 1; omega)⟩
     ·have q'' : (a.kind != b.kind) = false := by simp [kk]
      rw [if_neg (fun h => h kk)] at hX
      have hcm := fun W => hcm W kk
      have hr := cmpD_range a b
      generalize cmpD a b = c at hX hcm hr
      have HCM := Lib.hid hcm
      clear hcm ka kb kk
      rcases (show o = 11 ∨ o = 12 ∨ o = 13 ∨ o = 14 ∨ o = 15 ∨ o = 16 by omega) with rfl | rfl | rfl | rfl | rfl | rfl
      all_goals
       clear h1 h2 g1 g2
       rcases hr with rfl | rfl | rfl
       all_goals
        subst hX
        go_enter Tryz.func84, Tryz.ntmps84
        go_wp2_with (first | (go_at_call 26; refine (HCA.out _ (three_below _ _ _ _)).mono ?_; rintro ev w4 ⟨rfl, hb4⟩; obtain ⟨t1, t2, t3⟩ := three_at hb4; obtain ⟨a0, a1, a2, a3⟩ := cs4 t1; obtain ⟨b0, b1, b2, b3⟩ := cs4 t2; obtain ⟨z0, g0, z1, g1, z2, g2, z3, g3⟩ := cf4 t3; have T1 := Lib.hid t1; have T2 := Lib.hid t2; have T3 := Lib.hid t3; have HB4 := Lib.hid ((three_below _ _ _ _).trans (hb4.mono (by simp <;> omega))); clear hb4 t1 t2 t3 HCA) | (go_at_call 26; refine (HCB.out _ HB4.out).mono ?_; rintro ev w5 ⟨rfl, hb5⟩; clear a0 b0 z0 g0 a1 b1 z1 g1 a2 b2 z2 g2 a3 b3 z3 g3; have t1 := (hb5.block _ (lt_of_heap T1.out)).trans T1.out; have t2 := (hb5.block _ (lt_of_heap T2.out)).trans T2.out; have t3 := (hb5.block _ (lt_of_heap T3.out)).trans T3.out; obtain ⟨a0, a1, a2, a3⟩ := cs4 t1; obtain ⟨b0, b1, b2, b3⟩ := cs4 t2; obtain ⟨z0, g0, z1, g1, z2, g2, z3, g3⟩ := cf4 t3; have T1 := Lib.hid t1; have T2 := Lib.hid t2; have T3 := Lib.hid t3; have HB4 := Lib.hid (HB4.out.trans (hb5.mono HB4.out.size)); clear hb5 t1 t2 t3 HCB) | (go_at_call 107; refine (HCM.out _).mono ?_; rintro ev w6 ⟨rfl, hb6⟩; clear a0 b0 z0 g0 a1 b1 z1 g1 a2 b2 z2 g2 a3 b3 z3 g3; have t1 := (hb6.block _ (lt_of_heap T1.out)).trans T1.out; have t2 := (hb6.block _ (lt_of_heap T2.out)).trans T2.out; have t3 := (hb6.block _ (lt_of_heap T3.out)).trans T3.out; obtain ⟨a0, a1, a2, a3⟩ := cs4 t1; obtain ⟨b0, b1, b2, b3⟩ := cs4 t2; obtain ⟨z0, g0, z1, g1, z2, g2, z3, g3⟩ := cf4 t3; have T1 := Lib.hid t1; have T2 := Lib.hid t2; have T3 := Lib.hid t3; have HB4 := Lib.hid (HB4.out.trans (hb6.mono HB4.out.size)); clear hb6 t1 t2 t3) | (go_at_call 74; refine (rbool_133 _ _).mono ?_; rintro ev w8 ⟨rfl, hb8⟩; have hb8 := (one_below _ _).trans (hb8.mono (by simp)); clear a0 b0 z0 g0 a1 b1 z1 g1 a2 b2 z2 g2 a3 b3 z3 g3; have t1 := (hb8.block _ (lt_of_heap T1.out)).trans T1.out; have t2 := (hb8.block _ (lt_of_heap T2.out)).trans T2.out; have t3 := (hb8.block _ (lt_of_heap T3.out)).trans T3.out; obtain ⟨a0, a1, a2, a3⟩ := cs4 t1; obtain ⟨b0, b1, b2, b3⟩ := cs4 t2; obtain ⟨z0, g0, z1, g1, z2, g2, z3, g3⟩ := cf4 t3; have T1 := Lib.hid t1; have T2 := Lib.hid t2; have T3 := Lib.hid t3; have HB4 := Lib.hid (HB4.out.trans (hb8.mono HB4.out.size)); clear hb8 t1 t2 t3; unfold boo Dat.agg))
        refine bodyPost_ret (results_row_tmp rfl _ _ (w.heap.size + 1 + 1) 25 _ (0, 0) _ rfl (setRow4_at T3.out) Tryz.underlying25 rfl (by kernel_rfl)) rfl ?_
        exact ⟨rfl, setRow4_below HB4.out (by show w.heap.size ≤ w.heap.size + 1 + 1; omega)⟩
end Go.Proofs.YtmmhedlagnjbiaaGreatDoor
