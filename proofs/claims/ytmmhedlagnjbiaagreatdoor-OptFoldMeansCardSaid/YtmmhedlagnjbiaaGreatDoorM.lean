import Derived.Test.YtmmhedlagnjbiaaGreatDoorK
/- our texts, shortened by program (pack.py) -/
set_option maxRecDepth 100000
set_option maxHeartbeats 2000000
namespace Go.Proofs.YtmmhedlagnjbiaaGreatDoor
open Go.RowKit Go.Pen
attribute [local go_sem ↓] Go.wp_at_zero Go.wp_at_succ
attribute [local go_sem] Oper.semAt_some
theorem ET.sizes_take : ∀ (ks : List ET) (i : Nat) (k : ET), ks[i]? = some k → ET.sizes (ks.take (i + 1)) = ET.sizes (ks.take i) + k.size
 | [], i, k, h => by simp at h
 | x :: ks, 0, k, h => by simp at h; subst h; simp [ET.sizes]
 | x :: ks, i + 1, k, h => by
  have := ET.sizes_take ks i k (by simpa using h)
  simp only [List.take_succ_cons, ET.sizes]
  rw [this]; omega
theorem ET.sizes_le : ∀ (ks : List ET) (i : Nat), ET.sizes (ks.take i) ≤ ET.sizes ks
 | [], i => by simp [ET.sizes]
 | x :: ks, 0 => by simp [ET.sizes]
 | x :: ks, i + 1 => by
  have := ET.sizes_le ks i
  simp only [List.take_succ_cons, ET.sizes]; omega
theorem ET.goods_take {ok : Dat → Bool} {deep : Nat} {ks : List ET} {i : Nat} {k : ET} (hk : ks[i]? = some k) (h : ET.goods ok (ks.take i) deep = true) (hg : k.good ok deep = true) : ET.goods ok (ks.take (i + 1)) deep = true := by
 rw [ET.goods_iff] at h ⊢
 intro x hx
 rw [List.take_succ_eq_append_getElem (by exact (List.getElem?_eq_some_iff.1 hk).1)] at hx
 rcases List.mem_append.1 hx with hx | hx
 ·exact h x hx
 ·simp at hx
  rw [(List.getElem?_eq_some_iff.1 hk).2] at hx
  subst hx; exact hg
def MayB (e : ET) (deep p : Nat) : Bool := e.good okD deep && decide (p + e.size ≤ 4000)
theorem may_bad {o c : Int} {d : Dat} {ks : List ET} {deep p : Nat} (h : ¬ (deep ≤ 60 ∧ ET.own okD (.mk o c d ks) = true ∧ p + 1 ≤ 4000)) : MayB (.mk o c d ks) deep p = false := by
 cases hb : MayB (.mk o c d ks) deep p
 ·rfl
 ·simp only [MayB, ET.good, Bool.and_eq_true, decide_eq_true_eq] at hb
  simp only [ET.size] at hb
  exact absurd ⟨hb.1.1.2, hb.1.1.1, by omega⟩ h
theorem may_kid {o c : Int} {d : Dat} {ks : List ET} {deep p i q : Nat} {k : ET} (hk : ks[i]? = some k) (hq : q = p + 1 + ET.sizes (ks.take i)) (h : MayB k (deep + 1) q = false) : MayB (.mk o c d ks) deep p = false := by
 cases hb : MayB (.mk o c d ks) deep p
 ·rfl
 ·simp only [MayB, ET.good, Bool.and_eq_true, decide_eq_true_eq] at hb
  simp only [ET.size] at hb
  have h1 := (ET.goods_iff _ _ _).1 hb.1.2 k (List.mem_of_getElem? hk)
  have h2 := ET.sizes_take ks i k hk
  have h3 := ET.sizes_le ks (i + 1)
  have h4 : MayB k (deep + 1) q = true := by
   simp only [MayB, h1, Bool.true_and, decide_eq_true_eq]
   omega
  rw [h] at h4; cases h4
theorem may_all {o c : Int} {d : Dat} {ks : List ET} {deep p : Nat} (h1 : deep ≤ 60) (h2 : ET.own okD (.mk o c d ks) = true) (h3 : ET.goods okD ks (deep + 1) = true) (h4 : p + 1 + ET.sizes ks ≤ 4000) : MayB (.mk o c d ks) deep p = true := by
 simp only [MayB, ET.good, h1, h2, h3, Bool.and_eq_true, decide_eq_true_eq, true_and]
 simp only [ET.size]
 omega
theorem okD_fail {n : Int} : okD ⟨3, false, n, ⟨#[]⟩⟩ = true := by
 have h : chkD ⟨3, false, n, ⟨#[]⟩⟩ = 0 := (chkD_z (by decide) (.inr (by decide)) (.inl rfl) (.inr (by rw [text_nil])) (by rw [show (⟨#[]⟩ : ByteArray).data.toList = [] from rfl, Lib.validD_nil]; rfl)).trans (if_neg (by decide))
 simp [okD, h]
theorem fail_of_ok {d : Dat} (h : okD d = true) (hk : d.kind = 3) : ¬ d.bool = true ∧ d.text.toList = [] := by
 simp only [okD, beq_iff_eq] at h
 constructor
 ·intro hb
  have := chkD_13 (d := d) (.inr (.inl ⟨by omega, hb⟩))
  omega
 ·by_cases ht : d.text.toList = []
  ·exact ht
  ·have := chkD_13 (d := d) (.inr (.inr (.inr (.inl ⟨by omega, ht⟩))))
   omega
theorem one_at {w w1 : World} {a : Obj} (hb : Below (w.alloc a).heap.size (w.alloc a) w1) : w1.heap[w.heap.size]? = some a := (hb.block _ (by simp)).trans (heap_alloc_new w a)
theorem own_col' {K : Nat} {c : Int} {d : Dat} {ks : List ET} (hK : K = ks.length) (hk : kidsOk 1 K = true) (c0 : 0 ≤ c) (c9 : c ≤ 9999) (l1 : d.kind = 0) (l2 : ¬ d.bool = true) (l3 : d.int = 0) (l4 : d.text.toList = []) : ET.own okD (.mk 1 c d ks) = true := own_col (e := .mk 1 c d ks) rfl (by subst hK; exact hk) c0 c9 l1 l2 l3 l4
theorem own_lit' {K : Nat} {d : Dat} {ks : List ET} (hK : K = ks.length) (hk : kidsOk 2 K = true) (l : chkD d = 0) : ET.own okD (.mk 2 0 d ks) = true := own_lit (e := .mk 2 0 d ks) rfl (by subst hK; exact hk) rfl (by simp [okD, ET.lit, l])
theorem nz_of {A : Prop} {c : Int} (h : A ∧ (c != 0) = false) : c = 0 := by simpa using h.2
theorem own_lit2 {K : Nat} {c : Int} {d : Dat} {ks : List ET} (hK : K = ks.length) (hk : kidsOk 2 K = true) (c0 : c = 0) (l : (chkD d : Int) = 0) : ET.own okD (.mk 2 c d ks) = true := by subst c0; exact own_lit' hK hk (by omega)
theorem own_fail' {K : Nat} {d : Dat} {ks : List ET} (hK : K = ks.length) (hk : kidsOk 23 K = true) (l : chkD d = 0) (l1 : d.kind = 3) (n1 : 1 ≤ d.int) (n2 : d.int ≤ 65535) : ET.own okD (.mk 23 0 d ks) = true :=
 have h := fail_of_ok (d := d) (by simp [okD, l]) l1
 own_fail (e := .mk 23 0 d ks) rfl (by subst hK; exact hk) rfl l1 h.1 h.2 n1 n2
theorem own_fail2 {K : Nat} {c : Int} {d : Dat} {ks : List ET} (hK : K = ks.length) (hk : kidsOk 23 K = true) (c0 : c = 0) (l : (chkD d : Int) = 0) (l1 : d.kind = 3) (n1 : 1 ≤ d.int) (n2 : d.int ≤ 65535) : ET.own okD (.mk 23 c d ks) = true := by subst c0; exact own_fail' hK hk (by omega) l1 n1 n2
theorem own_other' {K : Nat} {o : Int} {d : Dat} {ks : List ET} (hK : K = ks.length) (o1 : ¬ o = 1) (o2 : ¬ o = 2) (o3 : ¬ o = 23) (hk : kidsOk o K = true) (l1 : d.kind = 0) (l2 : ¬ d.bool = true) (l3 : d.int = 0) (l4 : d.text.toList = []) : ET.own okD (.mk o 0 d ks) = true := own_other (e := .mk o 0 d ks) o1 o2 o3 (by subst hK; exact hk) rfl l1 l2 l3 l4
theorem own_other2 {K : Nat} {o c : Int} {d : Dat} {ks : List ET} (hK : K = ks.length) (o1 : ¬ o = 1) (o2 : ¬ o = 2) (o3 : ¬ o = 23) (hk : kidsOk o K = true) (c0 : c = 0) (l1 : d.kind = 0) (l2 : ¬ d.bool = true) (l3 : d.int = 0) (l4 : d.text.toList = []) : ET.own okD (.mk o c d ks) = true := by subst c0; exact own_other' hK o1 o2 o3 hk l1 l2 l3 l4
def MayPost (e : ET) (deep p : Nat) (w : World) (ev : Ending) (w' : World) : Prop := ∃ (B : Bool) (m : Int), ev = .returned (.tuple #[.bool B, .int .i64 m]) ∧ B = MayB e deep p ∧ (B = true → m = ((p + e.size : Nat) : Int)) ∧ Below w.heap.size w w'
theorem may_no {e : ET} {deep p : Nat} {w w' : World} {m : Int} (h : MayB e deep p = false) (hb : Below w.heap.size w w') : MayPost e deep p w (.returned (.tuple #[.bool false, .int .i64 m])) w' := ⟨false, m, rfl, h.symm, (fun h => by cases h), hb⟩
theorem may_yes {e : ET} {deep p : Nat} {w w' : World} {m : Int} (h : MayB e deep p = true) (hm : m = ((p + e.size : Nat) : Int)) (hb : Below w.heap.size w w') : MayPost e deep p w (.returned (.tuple #[.bool true, .int .i64 m])) w' := ⟨true, m, rfl, h.symm, fun _ => hm, hb⟩
theorem may_no1 (o c : Int) (d : Dat) (ks : List ET) (a : Option Addr) (cc deep p : Nat) (w : World) (ho : o = 1) (hfit : (ET.mk o c d ks).fits) (hd61 : deep ≤ 61) (hp : p ≤ 4000) (hg : ¬ (deep ≤ 60 ∧ ET.own okD (.mk o c d ks) = true ∧ p + 1 ≤ 4000)) :
  Calls Tryz.prog 31 #[(ET.mk o c d ks).agg (.slice a ks.length cc), .int .i64 deep, .int .i64 p] w (MayPost (.mk o c d ks) deep p w) := by
 simp only [ET.fits] at hfit
 obtain ⟨⟨ho0, ho1⟩, ⟨hc0, hc1⟩, hdf, hkl, -⟩ := hfit
 have hk := fun W => kids_104 o ks.length W ho0 hkl
 have hdc := fun W => check_105 d W hdf
 unfold Dat.agg at hdc
 have HDC := Lib.hid hdc
 have hi0 := hdf.2.1.1
 have hi1 := hdf.2.1.2
 obtain ⟨K, eK⟩ : ∃ K, K = ks.length := ⟨_, rfl⟩
 rw [← eK] at hkl hk
 have HK := Lib.hid hk
 have EK := Lib.hid eK
 clear hk hdc hdf
 unfold ET.agg
 simp only [ET.op, ET.col, ET.lit]
 rw [← eK]
 clear eK
 have hbad := may_bad hg
 have HBAD := Lib.hid hbad
 have HG := Lib.hid hg
 clear hbad hg
 subst ho
 go_enter Tryz.func31, Tryz.ntmps31
 go_wp2_with (first | (go_at_call 55; refine (HK.out _).mono ?_; rintro ev w9 ⟨rfl, rfl⟩) | (go_at_call 26; refine (HDC.out _).mono ?_; rintro ev w9 ⟨rfl, hb9⟩; have hx := one_at hb9; obtain ⟨c0, c1, c2, c3, c4, c5, c6⟩ := cs7 hx; have HB9 := Lib.hid ((one_below _ _).trans (hb9.mono (by simp))); clear hb9 hx))
 all_goals (first | (go_ret2; exact may_no HBAD.out (by first | exact one_below _ _ | exact HB9.out)) | exact absurd ⟨by omega, own_col' EK.out (by assumption) (by assumption) (by assumption) (by assumption) (by assumption) (by assumption) (by assumption), by omega⟩ HG.out)
theorem may_no2 (o c : Int) (d : Dat) (ks : List ET) (a : Option Addr) (cc deep p : Nat) (w : World) (ho : o = 2) (hfit : (ET.mk o c d ks).fits) (hd61 : deep ≤ 61) (hp : p ≤ 4000) (hg : ¬ (deep ≤ 60 ∧ ET.own okD (.mk o c d ks) = true ∧ p + 1 ≤ 4000)) :
  Calls Tryz.prog 31 #[(ET.mk o c d ks).agg (.slice a ks.length cc), .int .i64 deep, .int .i64 p] w (MayPost (.mk o c d ks) deep p w) := by
 simp only [ET.fits] at hfit
 obtain ⟨⟨ho0, ho1⟩, ⟨hc0, hc1⟩, hdf, hkl, -⟩ := hfit
 have hk := fun W => kids_104 o ks.length W ho0 hkl
 have hdc := fun W => check_105 d W hdf
 unfold Dat.agg at hdc
 have HDC := Lib.hid hdc
 have hi0 := hdf.2.1.1
 have hi1 := hdf.2.1.2
 obtain ⟨K, eK⟩ : ∃ K, K = ks.length := ⟨_, rfl⟩
 rw [← eK] at hkl hk
 have HK := Lib.hid hk
 have EK := Lib.hid eK
 clear hk hdc hdf
 unfold ET.agg
 simp only [ET.op, ET.col, ET.lit]
 rw [← eK]
 clear eK
 have hbad := may_bad hg
 have HBAD := Lib.hid hbad
 have HG := Lib.hid hg
 clear hbad hg
 subst ho
 go_enter Tryz.func31, Tryz.ntmps31
 go_wp2_with (first | (go_at_call 55; refine (HK.out _).mono ?_; rintro ev w9 ⟨rfl, rfl⟩) | (go_at_call 26; refine (HDC.out _).mono ?_; rintro ev w9 ⟨rfl, hb9⟩; have hx := one_at hb9; obtain ⟨c0, c1, c2, c3, c4, c5, c6⟩ := cs7 hx; have HB9 := Lib.hid ((one_below _ _).trans (hb9.mono (by simp))); clear hb9 hx))
 all_goals (first | (go_ret2; exact may_no HBAD.out (by first | exact one_below _ _ | exact HB9.out)) | exact absurd ⟨by omega, own_lit2 EK.out (by assumption) (nz_of (by assumption)) (by omega), by omega⟩ HG.out)
theorem may_no3 (o c : Int) (d : Dat) (ks : List ET) (a : Option Addr) (cc deep p : Nat) (w : World) (ho : o = 23) (hfit : (ET.mk o c d ks).fits) (hd61 : deep ≤ 61) (hp : p ≤ 4000) (hg : ¬ (deep ≤ 60 ∧ ET.own okD (.mk o c d ks) = true ∧ p + 1 ≤ 4000)) :
  Calls Tryz.prog 31 #[(ET.mk o c d ks).agg (.slice a ks.length cc), .int .i64 deep, .int .i64 p] w (MayPost (.mk o c d ks) deep p w) := by
 simp only [ET.fits] at hfit
 obtain ⟨⟨ho0, ho1⟩, ⟨hc0, hc1⟩, hdf, hkl, -⟩ := hfit
 have hk := fun W => kids_104 o ks.length W ho0 hkl
 have hdc := fun W => check_105 d W hdf
 unfold Dat.agg at hdc
 have HDC := Lib.hid hdc
 have hi0 := hdf.2.1.1
 have hi1 := hdf.2.1.2
 obtain ⟨K, eK⟩ : ∃ K, K = ks.length := ⟨_, rfl⟩
 rw [← eK] at hkl hk
 have HK := Lib.hid hk
 have EK := Lib.hid eK
 clear hk hdc hdf
 unfold ET.agg
 simp only [ET.op, ET.col, ET.lit]
 rw [← eK]
 clear eK
 have hbad := may_bad hg
 have HBAD := Lib.hid hbad
 have HG := Lib.hid hg
 clear hbad hg
 subst ho
 go_enter Tryz.func31, Tryz.ntmps31
 go_wp2_with (first | (go_at_call 55; refine (HK.out _).mono ?_; rintro ev w9 ⟨rfl, rfl⟩) | (go_at_call 26; refine (HDC.out _).mono ?_; rintro ev w9 ⟨rfl, hb9⟩; have hx := one_at hb9; obtain ⟨c0, c1, c2, c3, c4, c5, c6⟩ := cs7 hx; have HB9 := Lib.hid ((one_below _ _).trans (hb9.mono (by simp))); clear hb9 hx))
 all_goals (first | (go_ret2; exact may_no HBAD.out (by first | exact one_below _ _ | exact HB9.out)) | exact absurd ⟨by omega, own_fail2 EK.out (by assumption) (nz_of (by assumption)) (by omega) (by assumption) (by omega) (by omega), by omega⟩ HG.out)
theorem may_no4 (o c : Int) (d : Dat) (ks : List ET) (a : Option Addr) (cc deep p : Nat) (w : World) (ho : ¬ (o = 1 ∨ o = 2 ∨ o = 23)) (hfit : (ET.mk o c d ks).fits) (hd61 : deep ≤ 61) (hp : p ≤ 4000) (hg : ¬ (deep ≤ 60 ∧ ET.own okD (.mk o c d ks) = true ∧ p + 1 ≤ 4000)) :
  Calls Tryz.prog 31 #[(ET.mk o c d ks).agg (.slice a ks.length cc), .int .i64 deep, .int .i64 p] w (MayPost (.mk o c d ks) deep p w) := by
 simp only [ET.fits] at hfit
 obtain ⟨⟨ho0, ho1⟩, ⟨hc0, hc1⟩, hdf, hkl, -⟩ := hfit
 have hk := fun W => kids_104 o ks.length W ho0 hkl
 have hdc := fun W => check_105 d W hdf
 unfold Dat.agg at hdc
 have HDC := Lib.hid hdc
 have hi0 := hdf.2.1.1
 have hi1 := hdf.2.1.2
 obtain ⟨K, eK⟩ : ∃ K, K = ks.length := ⟨_, rfl⟩
 rw [← eK] at hkl hk
 have HK := Lib.hid hk
 have EK := Lib.hid eK
 clear hk hdc hdf
 unfold ET.agg
 simp only [ET.op, ET.col, ET.lit]
 rw [← eK]
 clear eK
 have hbad := may_bad hg
 have HBAD := Lib.hid hbad
 have HG := Lib.hid hg
 clear hbad hg
 have o1 : ¬ o = 1 := fun h => ho (.inl h)
 have o2 : ¬ o = 2 := fun h => ho (.inr (.inl h))
 have o3 : ¬ o = 23 := fun h => ho (.inr (.inr h))
 have e1 : (o != 1) = true := by simpa using o1
 have e2 : (o != 2) = true := by simpa using o2
 have e3 : (o != 23) = true := by simpa using o3
 clear ho
 go_enter Tryz.func31, Tryz.ntmps31
 go_wp2_with (first | (go_at_call 55; refine (HK.out _).mono ?_; rintro ev w9 ⟨rfl, rfl⟩) | (go_at_call 26; refine (HDC.out _).mono ?_; rintro ev w9 ⟨rfl, hb9⟩; have hx := one_at hb9; obtain ⟨c0, c1, c2, c3, c4, c5, c6⟩ := cs7 hx; have HB9 := Lib.hid ((one_below _ _).trans (hb9.mono (by simp))); clear hb9 hx))
 all_goals (first | (go_ret2; exact may_no HBAD.out (by first | exact one_below _ _ | exact HB9.out)) | exact absurd ⟨by omega, own_other2 EK.out o1 o2 o3 (by assumption) (nz_of (by assumption)) (by assumption) (by assumption) (by assumption) (by assumption), by omega⟩ HG.out)
end Go.Proofs.YtmmhedlagnjbiaaGreatDoor
