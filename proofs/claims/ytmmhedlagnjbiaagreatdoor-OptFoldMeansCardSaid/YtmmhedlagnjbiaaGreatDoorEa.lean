import Derived.Test.YtmmhedlagnjbiaaGreatDoorN
/- our texts, shortened by program (pack.py) -/
set_option maxRecDepth 100000
set_option maxHeartbeats 1000000
namespace Go.Proofs.YtmmhedlagnjbiaaGreatDoor
open Go.RowKit Go.Pen Go.Shelf
attribute [local go_sem ↓] Go.wp_at_zero Go.wp_at_succ
attribute [local go_sem] Oper.semAt_some
def DatsOn (S : Nat → Prop) (w : World) (l : List Dat) (v : Value) : Prop :=
 ∃ a c, v = .slice a l.length c ∧ (a = none → c = 0) ∧ (l ≠ [] → ∃ b o, a = some ⟨b, o, none⟩ ∧ S b ∧ ∀ i d, l[i]? = some d →
  w.cell? ⟨b, o + i * 4, none⟩ = some (.int .u8 d.kind) ∧ w.cell? ⟨b, o + i * 4 + 1, none⟩ = some (.bool d.bool) ∧ w.cell? ⟨b, o + i * 4 + 2, none⟩ = some (.int .i64 d.int) ∧ w.cell? ⟨b, o + i * 4 + 3, none⟩ = some (.string d.text))
theorem DatsOn.below {S : Nat → Prop} {w w' : World} {l : List Dat} {v : Value} (h : DatsOn S w l v) (hb : Below w.heap.size w w') : DatsOn S w' l v := by
 obtain ⟨a, c, hv, hn, h⟩ := h
 refine ⟨a, c, hv, hn, fun hne => ?_⟩
 obtain ⟨b, o, ha, hS, hc⟩ := h hne
 exact ⟨b, o, ha, hS, fun i d hd => by
  obtain ⟨h0, h1, h2, h3⟩ := hc i d hd
  exact ⟨cell_keep hb h0, cell_keep hb h1, cell_keep hb h2, cell_keep hb h3⟩⟩
theorem null_207 (w : World) : Calls Tryz.prog 205 #[] w fun ev w' => ev = .returned nul.agg ∧ Below w.heap.size w w' := by
 go_enter Tryz.func205, Tryz.ntmps205
 go_wp2_with fail
 refine bodyPost_ret (results_cell_row rfl _ _ w.heap.size 25 _ (0, 0) _ rfl (heap_alloc_new w _) Tryz.underlying25 rfl (by kernel_rfl)) rfl ?_
 exact ⟨rfl, one_below _ _⟩
theorem number_162 (n : Int) (w : World) : Calls Tryz.prog 179 #[.int .i64 n] w fun ev w' => ev = .returned (num n).agg ∧ Below w.heap.size w w' := by
 go_enter Tryz.func179, Tryz.ntmps179
 go_wp2_with fail
 refine bodyPost_ret (results_cell_row rfl _ _ w.heap.size 25 _ (0, 0) _ rfl (heap_alloc_new w _) Tryz.underlying25 rfl (by kernel_rfl)) rfl ?_
 exact ⟨rfl, one_below _ _⟩
theorem boolean_166 (b : Bool) (w : World) : Calls Tryz.prog 183 #[.bool b] w fun ev w' => ev = .returned (boo b).agg ∧ Below w.heap.size w w' := by
 go_enter Tryz.func183, Tryz.ntmps183
 go_wp2_with fail
 refine bodyPost_ret (results_cell_row rfl _ _ w.heap.size 25 _ (0, 0) _ rfl (heap_alloc_new w _) Tryz.underlying25 rfl (by kernel_rfl)) rfl ?_
 exact ⟨rfl, one_below _ _⟩
theorem text_174 (t : ByteArray) (w : World) : Calls Tryz.prog 191 #[.string t] w fun ev w' => ev = .returned (txt t).agg ∧ Below w.heap.size w w' := by
 go_enter Tryz.func191, Tryz.ntmps191
 go_wp2_with fail
 refine bodyPost_ret (results_cell_row rfl _ _ w.heap.size 25 _ (0, 0) _ rfl (heap_alloc_new w _) Tryz.underlying25 rfl (by kernel_rfl)) rfl ?_
 exact ⟨rfl, one_below _ _⟩
def setRow4 (w : World) (b : Nat) (v0 v1 v2 v3 : Value) : World := (((w.setCell ⟨b, 0, none⟩ v0).setCell ⟨b, 1, none⟩ v1).setCell ⟨b, 2, none⟩ v2).setCell ⟨b, 3, none⟩ v3
theorem setRow4_at {w : World} {b : Nat} {c0 c1 c2 c3 v0 v1 v2 v3 : Value} {t : TypeId} {f : Nat × Nat} (h : w.heap[b]? = some (.cells #[c0, c1, c2, c3] t f)) : (setRow4 w b v0 v1 v2 v3).heap[b]? = some (.cells #[v0, v1, v2, v3] t f) := by
 have h := heap_set_same (o := 3) (v := v3) (heap_set_same (o := 2) (v := v2) (heap_set_same (o := 1) (v := v1) (heap_set_same (o := 0) (v := v0) h)))
 simpa [setRow4] using h
theorem setRow4_ne {w : World} {b g : Nat} {v0 v1 v2 v3 : Value} (h : g ≠ b) : (setRow4 w b v0 v1 v2 v3).heap[g]? = w.heap[g]? := by
 simp only [setRow4, heap_set_ne h]
theorem setRow4_below {B : Nat} {w w' : World} {b : Nat} {v0 v1 v2 v3 : Value} (h : Below B w w') (hb : B ≤ b) : Below B w (setRow4 w' b v0 v1 v2 v3) :=
 (((h.setCell (p := ⟨b, 0, none⟩) hb _).setCell (p := ⟨b, 1, none⟩) hb _).setCell (p := ⟨b, 2, none⟩) hb _).setCell (p := ⟨b, 3, none⟩) hb _
def resT (r : Res) : Value := .tuple #[r.1.agg, .int .u16 r.2]
theorem whole_168 (n : Int) (b : Bool) (w : World) : Calls Tryz.prog 185 #[.int .i64 n, .bool b] w fun ev w' => ev = .returned (resT (if b then bad 10 else (num n, 0))) ∧ Below w.heap.size w w' := by
 cases b
 ·go_enter Tryz.func185, Tryz.ntmps185
  go_wp2_with (go_at_call 179; refine (number_162 n _).mono ?_; rintro ev w1 ⟨rfl, hb1⟩; have t1 := one_at hb1; unfold Dat.agg num; obtain ⟨z0, g0, z1, g1, z2, g2, z3, g3⟩ := cf4 t1; have T1 := Lib.hid t1; have HB1 := Lib.hid ((one_below _ _).trans (hb1.mono (by simp))); clear t1 hb1)
  refine bodyPost_ret (results_row_tmp rfl _ _ w.heap.size 25 _ (0, 0) _ rfl (setRow4_at T1.out) Tryz.underlying25 rfl (by kernel_rfl)) rfl ?_
  exact ⟨rfl, setRow4_below HB1.out (Nat.le_refl _)⟩
 ·go_enter Tryz.func185, Tryz.ntmps185
  go_wp2_with fail
  refine bodyPost_ret (results_row_tmp rfl _ _ w.heap.size 25 _ (0, 0) _ rfl (heap_alloc_new w _) Tryz.underlying25 rfl (by kernel_rfl)) rfl ?_
  exact ⟨rfl, one_below _ _⟩
end Go.Proofs.YtmmhedlagnjbiaaGreatDoor
namespace Go.Proofs.YtmmhedlagnjbiaaGreatDoor
open Go.RowKit Go.Pen Go.Shelf
attribute [local go_sem ↓] Go.wp_at_zero Go.wp_at_succ
attribute [local go_sem] Oper.semAt_some
def ofR (k : Int) (l : List Dat) : Bool × Nat := if l.all (isK k) then (l.any fun d => decide (d.kind = 1), 0) else (false, 13)
theorem ofR_bad {k : Int} {l : List Dat} {i : Nat} {d : Dat} (hd : l[i]? = some d) (h : isK k d = false) : ofR k l = (false, 13) := by
 unfold ofR
 rw [if_neg]
 intro ha
 rw [List.all_eq_true] at ha
 rw [ha d (List.mem_of_getElem? hd)] at h
 cases h
theorem all_take {p : Dat → Bool} {l : List Dat} {i : Nat} {d : Dat} (hd : l[i]? = some d) (h : (l.take i).all p = true) (hp : p d = true) : (l.take (i + 1)).all p = true := by
 rw [List.take_succ_eq_append_getElem (List.getElem?_eq_some_iff.1 hd).1, List.all_append, h, (List.getElem?_eq_some_iff.1 hd).2]
 simp [hp]
theorem any_take {p : Dat → Bool} {l : List Dat} {i : Nat} {d : Dat} (hd : l[i]? = some d) : (l.take (i + 1)).any p = ((l.take i).any p || p d) := by
 rw [List.take_succ_eq_append_getElem (List.getElem?_eq_some_iff.1 hd).1, List.any_append, (List.getElem?_eq_some_iff.1 hd).2]
 simp
def OfPost (k : Int) (l : List Dat) (w : World) (ev : Ending) (w' : World) : Prop := ev = .returned (.tuple #[.bool (ofR k l).1, .int .u16 (ofR k l).2]) ∧ Below w.heap.size w w'
theorem of_bad {k : Int} {l : List Dat} {i : Nat} {d : Dat} {w w' : World} (hd : l[i]? = some d) (h : isK k d = false) (hb : Below w.heap.size w w') : OfPost k l w (.returned (.tuple #[.bool false, .int .u16 13])) w' := by
 refine ⟨?_, hb⟩
 rw [ofR_bad hd h]; rfl
theorem of_good {k : Int} {l : List Dat} {w w' : World} {b : Bool} (h : l.all (isK k) = true) (hb2 : b = l.any fun d => decide (d.kind = 1)) (hb : Below w.heap.size w w') : OfPost k l w (.returned (.tuple #[.bool b, .int .u16 0])) w' := by
 refine ⟨?_, hb⟩
 rw [hb2]
 unfold ofR
 rw [if_pos h]
 rfl
theorem of_206 (k : Int) (l : List Dat) (v : Value) (w : World) (hl : l.length ≤ 1000000) (hf : ∀ d ∈ l, d.fits) (hv : DatsOn (fun _ => True) w l v) (hT : Lib.Utf8Tabs 0 1 w) (h11 : 3 ≤ w.heap.size) :
  Calls Tryz.prog 204 #[.int .u8 k, v] w (OfPost k l w) := by
 obtain ⟨a, cc, rfl, -, hks⟩ := hv
 have hck := fun (d : Dat) (hd : d ∈ l) (W : World) (hb : Below w.heap.size w W) => check_54 d W (hf d hd) (tabs_below hT hb h11) (Nat.le_trans h11 hb.size)
 unfold Dat.agg at hck
 have HCK := Lib.hid hck
 have HKS := Lib.hid hks
 obtain ⟨K, eK⟩ : ∃ K, K = l.length := ⟨_, rfl⟩
 rw [← eK] at hl ⊢
 have EK := Lib.hid eK
 clear hck hks eK hT hf
 go_enter Tryz.func204, Tryz.ntmps204
 go_wp2_with fail
 go_loopg [4, 10] K (fun g s4 s10 wr => ∃ (i : Nat) (b : Bool), i ≤ K ∧ g = K - i ∧ s10 = .int .i64 i ∧ s4 = .bool b ∧ (b = (l.take i).any (fun d => decide (d.kind = 1)) ∧ (l.take i).all (isK k) = true) ∧ Below w.heap.size w wr)
 case atStart => exact ⟨0, false, Nat.zero_le _, rfl, rfl, rfl, ⟨rfl, rfl⟩, Below.refl _ _⟩
 case round =>
  obtain ⟨i, b, hi, rfl, rfl, rfl, ⟨hb, hall⟩, hbr⟩ := hrel
  have HB := Lib.hid hb
  have HALL := Lib.hid hall
  clear hb hall
  by_cases hlt : i < K
  ·obtain ⟨d, hd⟩ : ∃ d, l[i]? = some d := ⟨l[i]'(by rw [← EK.out]; exact hlt), List.getElem?_eq_getElem _⟩
   obtain ⟨bb, off, rfl, -, hcs⟩ := HKS.out (fun e => by rw [e] at hd; simp at hd)
   obtain ⟨k0, k1, k2, k3⟩ := hcs i d hd
   have k0 := cell_keep hbr k0
   have k1 := cell_keep hbr k1
   have k2 := cell_keep hbr k2
   have k3 := cell_keep hbr k3
   have hct := fun W hb => HCK.out d (List.mem_of_getElem? hd) W hb
   have HCT := Lib.hid hct
   have HBR := Lib.hid hbr
   have HD := Lib.hid hd
   clear hcs hct hbr hd
   by_cases hok : chkD d = 0
   ·have HOK := Lib.hid hok
    rw [hok] at HCT
    clear hok
    cases e1 : (d.kind != k)
    rotate_left
    ·cases e2 : (d.kind != 1)
     rotate_left
     ·have hbad : isK k d = false := by
       have h1 : ¬ d.kind = k := by simpa using e1
       have h2 : ¬ d.kind = 1 := by simpa using e2
       simp [isK, h1, h2]
      have HBAD := Lib.hid hbad
      clear hbad
      go_wp2_with (go_at_call 29; refine (HCT.out _ (HBR.out.alloc HBR.out.size _)).mono ?_; rintro ev w3 ⟨rfl, hb3⟩; have t1 := one_at hb3; obtain ⟨y0, y1, y2, y3⟩ := cs4 t1; have HB3 := Lib.hid ((one_below _ _).trans (hb3.mono (by simp))); clear hb3 t1)
      go_ret2
      exact of_bad HD.out HBAD.out (HBR.out.trans (HB3.out.mono HBR.out.size))
     ·have h2 : d.kind = 1 := by simpa using e2
      have hgd : isK k d = true := by simp [isK, h2, okD, HOK.out]
      have HGD := Lib.hid hgd
      have e3 : (d.kind == 1) = true := by simpa using h2
      have H2 := Lib.hid h2
      clear hgd h2
      cases b
      all_goals
       go_wp2_with (go_at_call 29; refine (HCT.out _ (HBR.out.alloc HBR.out.size _)).mono ?_; rintro ev w3 ⟨rfl, hb3⟩; have t1 := one_at hb3; obtain ⟨y0, y1, y2, y3⟩ := cs4 t1; have HB3 := Lib.hid ((one_below _ _).trans (hb3.mono (by simp))); clear hb3 t1)
       go_roundg (K - (i + 1))
       case measure => omega
       case rel => exact ⟨i + 1, _, by omega, rfl, by go_num, rfl, ⟨by rw [any_take HD.out, ← HB.out]; simp [H2.out], all_take HD.out HALL.out HGD.out⟩, HBR.out.trans (HB3.out.mono HBR.out.size)⟩
    ·have h1 : d.kind = k := by simpa using e1
     have hgd : isK k d = true := by simp [isK, h1, okD, HOK.out]
     have HGD := Lib.hid hgd
     clear hgd h1
     obtain ⟨q, hq⟩ : ∃ q, (d.kind == 1) = q := ⟨_, rfl⟩
     have hqq : decide (d.kind = 1) = q := by rw [← hq]; by_cases h : d.kind = 1 <;> simp [h]
     have HQ := Lib.hid hqq
     clear hqq
     cases b
     all_goals
      go_wp2_with (go_at_call 29; refine (HCT.out _ (HBR.out.alloc HBR.out.size _)).mono ?_; rintro ev w3 ⟨rfl, hb3⟩; have t1 := one_at hb3; obtain ⟨y0, y1, y2, y3⟩ := cs4 t1; have HB3 := Lib.hid ((one_below _ _).trans (hb3.mono (by simp))); clear hb3 t1)
      go_roundg (K - (i + 1))
      case measure => omega
      case rel => exact ⟨i + 1, _, by omega, rfl, by go_num, rfl, ⟨by rw [any_take HD.out, ← HB.out, HQ.out]; simp, all_take HD.out HALL.out HGD.out⟩, HBR.out.trans (HB3.out.mono HBR.out.size)⟩
   ·have hbad : isK k d = false := by simp [isK, okD, hok]
    have HBAD := Lib.hid hbad
    have hne : ((chkD d : Int) != 0) = true := by simp; exact hok
    clear hbad hok
    go_wp2_with (go_at_call 29; refine (HCT.out _ (HBR.out.alloc HBR.out.size _)).mono ?_; rintro ev w3 ⟨rfl, hb3⟩; have t1 := one_at hb3; obtain ⟨y0, y1, y2, y3⟩ := cs4 t1; have HB3 := Lib.hid ((one_below _ _).trans (hb3.mono (by simp))); clear hb3 t1)
    go_ret2
    exact of_bad HD.out HBAD.out (HBR.out.trans (HB3.out.mono HBR.out.size))
  ·obtain rfl : K = i := by omega
   have HBR := Lib.hid hbr
   clear hbr
   have hwl : l.take K = l := List.take_of_length_le (by rw [EK.out]; exact Nat.le_refl _)
   have hb := HB.out
   have ha := HALL.out
   rw [hwl] at hb ha
   have HB' := Lib.hid hb
   have HA' := Lib.hid ha
   clear hb ha hwl
   go_wp2
   go_ret2
   exact of_good HA'.out HB'.out HBR.out
end Go.Proofs.YtmmhedlagnjbiaaGreatDoor
namespace Go.Proofs.YtmmhedlagnjbiaaGreatDoor
open Go.RowKit Go.Pen Go.Shelf
attribute [local go_sem] Oper.semAt_some
def apR (k : Int) (l : List Dat) (r : Res) : Res := if (ofR k l).2 ≠ 0 then bad 13 else if (ofR k l).1 = true then (nul, 0) else r
def ResPost (r : Res) (w : World) (ev : Ending) (w' : World) : Prop := ev = .returned (resT r) ∧ Below w.heap.size w w'
theorem ofR_num (k : Int) (l : List Dat) : (ofR k l).2 = 0 ∨ (ofR k l).2 = 13 := by
 unfold ofR
 split
 ·exact .inl rfl
 ·exact .inr rfl
theorem apply_163 (k : Int) (g : FuncId) (bound : Array Value) (l : List Dat) (v : Value) (r : Res) (w : World) (hl : l.length ≤ 1000000) (hf : ∀ d ∈ l, d.fits) (hv : DatsOn (fun _ => True) w l v) (hT : Lib.Utf8Tabs 0 1 w) (h11 : 3 ≤ w.heap.size)
  (hen : ∀ args w, (callFunc g args).run Tryz.prog w = .ok (.enter g args) w)
  (hdo : (ofR k l) = (false, 0) → ∀ W, Below w.heap.size w W → Calls Tryz.prog g bound W (ResPost r W)) :
  Calls Tryz.prog 180 #[.int .u8 k, .func (.func g) #[] bound, v] w (ResPost (apR k l r) w) := by
 have hof := fun W hb => of_206 k l v W hl hf (hv.below (w' := W) hb) (tabs_below hT hb h11) (Nat.le_trans h11 hb.size)
 have HOF := Lib.hid hof
 clear hof hf hv hT
 obtain ⟨R, eR⟩ : ∃ R, R = apR k l r := ⟨_, rfl⟩
 rw [← eR]
 unfold apR at eR
 unfold OfPost at HOF
 have hnum := ofR_num k l
 generalize ofR k l = p at eR hnum HOF hdo
 obtain ⟨s, e⟩ := p
 simp only at eR hnum HOF hdo
 rcases hnum with rfl | rfl
 ·cases s
  ·rw [if_neg (by decide), if_neg (by decide)] at eR
   subst eR
   have HDO := Lib.hid (hdo rfl)
   clear hdo
   go_enter Tryz.func180, Tryz.ntmps180
   go_wp2_with (go_at_call 204; refine (HOF.out _ (one_below _ _)).mono ?_; rintro ev w3 ⟨rfl, hb3⟩; have t1 := one_at hb3; have HB3 := Lib.hid ((one_below _ _).trans (hb3.mono (by simp))); have T1 := Lib.hid t1; clear hb3 t1)
   refine (HDO.out w3 HB3.out).mono ?_
   rintro ev w5 ⟨rfl, hb5⟩
   have t5 := (hb5.block _ (lt_of_heap T1.out)).trans T1.out
   have T5 := Lib.hid t5
   have HB5 := Lib.hid (HB3.out.trans (hb5.mono HB3.out.size))
   obtain ⟨z0, g0, z1, g1, z2, g2, z3, g3⟩ := cf4 t5
   clear hb5 t5
   unfold resT Dat.agg
   go_wp2
   refine bodyPost_ret (results_row_tmp rfl _ _ w.heap.size 25 _ (0, 0) _ rfl (setRow4_at T5.out) Tryz.underlying25 rfl (by kernel_rfl)) rfl ?_
   exact ⟨rfl, setRow4_below HB5.out (Nat.le_refl _)⟩
  ·rw [if_neg (by decide), if_pos rfl] at eR
   subst eR
   clear hdo
   go_enter Tryz.func180, Tryz.ntmps180
   go_wp2_with (first | (go_at_call 204; refine (HOF.out _ (one_below _ _)).mono ?_; rintro ev w3 ⟨rfl, hb3⟩; have t1 := one_at hb3; have HB3 := Lib.hid ((one_below _ _).trans (hb3.mono (by simp))); have T1 := Lib.hid t1; clear hb3 t1) | (go_at_call 205; refine (null_207 _).mono ?_; rintro ev w5 ⟨rfl, hb5⟩; have t5 := (hb5.block _ (lt_of_heap T1.out)).trans T1.out; obtain ⟨z0, g0, z1, g1, z2, g2, z3, g3⟩ := cf4 t5; have T5 := Lib.hid t5; have HB5 := Lib.hid (HB3.out.trans (hb5.mono HB3.out.size)); unfold nul Dat.agg; clear hb5 t5))
   refine bodyPost_ret (results_row_tmp rfl _ _ w.heap.size 25 _ (0, 0) _ rfl (setRow4_at T5.out) Tryz.underlying25 rfl (by kernel_rfl)) rfl ?_
   exact ⟨rfl, setRow4_below HB5.out (Nat.le_refl _)⟩
 ·rw [if_pos (by decide)] at eR
  subst eR
  clear hdo
  go_enter Tryz.func180, Tryz.ntmps180
  go_wp2_with (go_at_call 204; refine (HOF.out _ (one_below _ _)).mono ?_; rintro ev w3 ⟨rfl, hb3⟩; have t1 := one_at hb3; have HB3 := Lib.hid ((one_below _ _).trans (hb3.mono (by simp))); have T1 := Lib.hid t1; obtain ⟨z0, g0, z1, g1, z2, g2, z3, g3⟩ := cf4 t1; clear hb3 t1)
  refine bodyPost_ret (results_row_tmp rfl _ _ w.heap.size 25 _ (0, 0) _ rfl (setRow4_at T1.out) Tryz.underlying25 rfl (by kernel_rfl)) rfl ?_
  exact ⟨rfl, setRow4_below HB3.out (Nat.le_refl _)⟩
end Go.Proofs.YtmmhedlagnjbiaaGreatDoor
namespace Go.Proofs.YtmmhedlagnjbiaaGreatDoor
open Go.RowKit Go.Pen Go.Shelf
attribute [local go_sem] Oper.semAt_some
def BoxAt (w : World) (b : Nat) (d : Dat) : Prop := w.heap[b]? = some (.cells #[.int .u8 d.kind, .bool d.bool, .int .i64 d.int, .string d.text] 25 (0, 0))
theorem add_law {x y : Int} (hx : -9223372036854775808 ≤ x ∧ x ≤ 9223372036854775807) (hy : -9223372036854775808 ≤ y ∧ y ≤ 9223372036854775807) : (if (!decide (x < wrap64 (x + y)) == decide (0 < y)) = true then bad 10 else (num (wrap64 (x + y)), 0)) = ov (x + y) := by
 unfold ov
 rcases (show (-9223372036854775808 ≤ x + y ∧ x + y ≤ 9223372036854775807) ∨ 9223372036854775807 < x + y ∨ x + y < -9223372036854775808 by omega) with h | h | h
 ·have hw : wrap64 (x + y) = x + y := by unfold wrap64; omega
  have hq : (!decide (x < x + y) == decide (0 < y)) = false := by
   by_cases h : 0 < y
   ·have h2 : x < x + y := by omega
    simp [h, h2]
   ·have h2 : ¬ x < x + y := by omega
    simp [h, h2]
  rw [hw, hq, if_neg (by decide), if_pos h]
 ·have hw : wrap64 (x + y) = x + y - 18446744073709551616 := by unfold wrap64; omega
  have hq : (!decide (x < x + y - 18446744073709551616) == decide (0 < y)) = true := by
   have h1 : 0 < y := by omega
   have h2 : ¬ x < x + y - 18446744073709551616 := by omega
   simp [h1, h2]
  rw [hw, hq, if_pos rfl, if_neg (by rintro ⟨-, h2⟩; omega)]
 ·have hw : wrap64 (x + y) = x + y + 18446744073709551616 := by unfold wrap64; omega
  have hq : (!decide (x < x + y + 18446744073709551616) == decide (0 < y)) = true := by
   have h1 : ¬ 0 < y := by omega
   have h2 : x < x + y + 18446744073709551616 := by omega
   simp [h1, h2]
  rw [hw, hq, if_pos rfl, if_neg (by rintro ⟨h2, -⟩; omega)]
theorem sub_law {x y : Int} (hx : -9223372036854775808 ≤ x ∧ x ≤ 9223372036854775807) (hy : -9223372036854775808 ≤ y ∧ y ≤ 9223372036854775807) : (if (!decide (wrap64 (x - y) < x) == decide (0 < y)) = true then bad 10 else (num (wrap64 (x - y)), 0)) = ov (x - y) := by
 unfold ov
 rcases (show (-9223372036854775808 ≤ x - y ∧ x - y ≤ 9223372036854775807) ∨ 9223372036854775807 < x - y ∨ x - y < -9223372036854775808 by omega) with h | h | h
 ·have hw : wrap64 (x - y) = x - y := by unfold wrap64; omega
  have hq : (!decide (x - y < x) == decide (0 < y)) = false := by
   by_cases h : 0 < y
   ·have h2 : x - y < x := by omega
    simp [h, h2]
   ·have h2 : ¬ x - y < x := by omega
    simp [h, h2]
  rw [hw, hq, if_neg (by decide), if_pos h]
 ·have hw : wrap64 (x - y) = x - y - 18446744073709551616 := by unfold wrap64; omega
  have hq : (!decide (x - y - 18446744073709551616 < x) == decide (0 < y)) = true := by
   have h1 : ¬ 0 < y := by omega
   have h2 : x - y - 18446744073709551616 < x := by omega
   simp [h1, h2]
  rw [hw, hq, if_pos rfl, if_neg (by rintro ⟨-, h2⟩; omega)]
 ·have hw : wrap64 (x - y) = x - y + 18446744073709551616 := by unfold wrap64; omega
  have hq : (!decide (x - y + 18446744073709551616 < x) == decide (0 < y)) = true := by
   have h1 : 0 < y := by omega
   have h2 : ¬ x - y + 18446744073709551616 < x := by omega
   simp [h1, h2]
  rw [hw, hq, if_pos rfl, if_neg (by rintro ⟨h2, -⟩; omega)]
theorem add_167 (a b : Dat) (A B : Nat) (w : World) (ha : BoxAt w A a) (hb : BoxAt w B b) (fa : a.fits) (fb : b.fits) :
  Calls Tryz.prog 184 #[.pointer (some ⟨A, 0, none⟩), .pointer (some ⟨B, 0, none⟩)] w (ResPost (ov (a.int + b.int)) w) := by
 have fa1 := fa.2.1
 have fb1 := fb.2.1
 have la : A < w.heap.size := lt_of_heap ha
 have lb : B < w.heap.size := lt_of_heap hb
 have a2 : w.cell? ⟨A, 2, none⟩ = some (.int .i64 a.int) := cell_of_heap ha rfl
 have b2 : w.cell? ⟨B, 2, none⟩ = some (.int .i64 b.int) := cell_of_heap hb rfl
 have law := add_law fa1 fb1
 generalize a.int = x at *
 generalize b.int = y at *
 clear ha hb fa fb fa1 fb1
 obtain ⟨R, eR⟩ : ∃ R, R = ov (x + y) := ⟨_, rfl⟩
 rw [← eR] at law ⊢
 have LAW := Lib.hid law
 clear eR law
 go_enter Tryz.func184, Tryz.ntmps184
 go_wp2_with fail
 refine (whole_168 _ _ _).mono ?_
 rw [LAW.out]
 rintro ev w5 ⟨rfl, hb5⟩
 have t5 := one_at hb5
 have T5 := Lib.hid t5
 have HB5 := Lib.hid ((one_below _ _).trans (hb5.mono (by simp)))
 obtain ⟨z0, g0, z1, g1, z2, g2, z3, g3⟩ := cf4 t5
 clear hb5 t5
 unfold resT Dat.agg
 go_wp2
 refine bodyPost_ret (results_row_tmp rfl _ _ w.heap.size 25 _ (0, 0) _ rfl (setRow4_at T5.out) Tryz.underlying25 rfl (by kernel_rfl)) rfl ?_
 exact ⟨rfl, setRow4_below HB5.out (Nat.le_refl _)⟩
theorem sub_169 (a b : Dat) (A B : Nat) (w : World) (ha : BoxAt w A a) (hb : BoxAt w B b) (fa : a.fits) (fb : b.fits) :
  Calls Tryz.prog 186 #[.pointer (some ⟨A, 0, none⟩), .pointer (some ⟨B, 0, none⟩)] w (ResPost (ov (a.int - b.int)) w) := by
 have fa1 := fa.2.1
 have fb1 := fb.2.1
 have la : A < w.heap.size := lt_of_heap ha
 have lb : B < w.heap.size := lt_of_heap hb
 have a2 : w.cell? ⟨A, 2, none⟩ = some (.int .i64 a.int) := cell_of_heap ha rfl
 have b2 : w.cell? ⟨B, 2, none⟩ = some (.int .i64 b.int) := cell_of_heap hb rfl
 have law := sub_law fa1 fb1
 generalize a.int = x at *
 generalize b.int = y at *
 clear ha hb fa fb fa1 fb1
 obtain ⟨R, eR⟩ : ∃ R, R = ov (x - y) := ⟨_, rfl⟩
 rw [← eR] at law ⊢
 have LAW := Lib.hid law
 clear eR law
 go_enter Tryz.func186, Tryz.ntmps186
 go_wp2_with fail
 refine (whole_168 _ _ _).mono ?_
 rw [LAW.out]
 rintro ev w5 ⟨rfl, hb5⟩
 have t5 := one_at hb5
 have T5 := Lib.hid t5
 have HB5 := Lib.hid ((one_below _ _).trans (hb5.mono (by simp)))
 obtain ⟨z0, g0, z1, g1, z2, g2, z3, g3⟩ := cf4 t5
 clear hb5 t5
 unfold resT Dat.agg
 go_wp2
 refine bodyPost_ret (results_row_tmp rfl _ _ w.heap.size 25 _ (0, 0) _ rfl (setRow4_at T5.out) Tryz.underlying25 rfl (by kernel_rfl)) rfl ?_
 exact ⟨rfl, setRow4_below HB5.out (Nat.le_refl _)⟩
theorem neg_law {x : Int} (hx : -9223372036854775808 ≤ x ∧ x ≤ 9223372036854775807) : (if (x == -9223372036854775808) = true then bad 10 else (num (wrap64 (-x)), 0)) = ov (-x) := by
 unfold ov
 by_cases h : x = -9223372036854775808
 ·subst h
  rfl
 ·have hw : wrap64 (-x) = -x := by unfold wrap64; omega
  rw [hw, if_neg (by simpa using h), if_pos (by omega)]
theorem tdiv_range {x y : Int} (hx : -9223372036854775808 ≤ x ∧ x ≤ 9223372036854775807) (h0 : y ≠ 0) (h1 : y ≠ -1) : -9223372036854775808 ≤ Int.tdiv x y ∧ Int.tdiv x y ≤ 9223372036854775807 := by
 have hn : (Int.tdiv x y).natAbs = x.natAbs / y.natAbs := Int.natAbs_tdiv x y
 rcases (show y = 1 ∨ 2 ≤ y.natAbs by omega) with rfl | h
 ·rw [Int.tdiv_one]; exact hx
 ·have : x.natAbs / y.natAbs ≤ x.natAbs / 2 := Nat.div_le_div_left h (by decide)
  omega
theorem div_171 (a b : Dat) (A B : Nat) (w : World) (ha : BoxAt w A a) (hb : BoxAt w B b) (fa : a.fits) (fb : b.fits) :
  Calls Tryz.prog 188 #[.pointer (some ⟨B, 0, none⟩), .pointer (some ⟨A, 0, none⟩)] w (ResPost (if b.int = 0 then bad 11 else ov (Int.tdiv a.int b.int)) w) := by
 have fa1 := fa.2.1
 have fb1 := fb.2.1
 have la : A < w.heap.size := lt_of_heap ha
 have lb : B < w.heap.size := lt_of_heap hb
 have a2 : w.cell? ⟨A, 2, none⟩ = some (.int .i64 a.int) := cell_of_heap ha rfl
 have b2 : w.cell? ⟨B, 2, none⟩ = some (.int .i64 b.int) := cell_of_heap hb rfl
 generalize a.int = x at *
 generalize b.int = y at *
 clear ha hb fa fb
 by_cases h0 : y = 0
 ·subst h0
  rw [if_pos rfl]
  go_enter Tryz.func188, Tryz.ntmps188
  go_wp2_with fail
  refine bodyPost_ret (results_row_tmp rfl _ _ w.heap.size 25 _ (0, 0) _ rfl (heap_alloc_new w _) Tryz.underlying25 rfl (by kernel_rfl)) rfl ?_
  exact ⟨rfl, one_below _ _⟩
 ·have q0 : (y == 0) = false := by simpa using h0
  rw [if_neg h0]
  by_cases h1 : y = -1
  ·subst h1
   rw [show Int.tdiv x (-1) = -x by rw [Int.tdiv_neg, Int.tdiv_one]]
   have law := neg_law fa1
   obtain ⟨R, eR⟩ : ∃ R, R = ov (-x) := ⟨_, rfl⟩
   rw [← eR] at law ⊢
   have LAW := Lib.hid law
   clear eR law fa1 fb1
   go_enter Tryz.func188, Tryz.ntmps188
   go_wp2_with fail
   refine (whole_168 _ _ _).mono ?_
   rw [LAW.out]
   rintro ev w5 ⟨rfl, hb5⟩
   have t5 := one_at hb5
   have T5 := Lib.hid t5
   have HB5 := Lib.hid ((one_below _ _).trans (hb5.mono (by simp)))
   obtain ⟨z0, g0, z1, g1, z2, g2, z3, g3⟩ := cf4 t5
   clear hb5 t5
   unfold resT Dat.agg
   go_wp2
   refine bodyPost_ret (results_row_tmp rfl _ _ w.heap.size 25 _ (0, 0) _ rfl (setRow4_at T5.out) Tryz.underlying25 rfl (by kernel_rfl)) rfl ?_
   exact ⟨rfl, setRow4_below HB5.out (Nat.le_refl _)⟩
  ·have q1 : (y == -1) = false := by simpa using h1
   have hr := tdiv_range fa1 h0 h1
   have hov : ov (Int.tdiv x y) = (num (Int.tdiv x y), 0) := by unfold ov; rw [if_pos hr]
   rw [hov]
   have hw : wrap64 (Int.tdiv x y) = Int.tdiv x y := by unfold wrap64; omega
   clear fa1 fb1 hov
   go_enter Tryz.func188, Tryz.ntmps188
   go_wp2_with fail
   refine (number_162 _ _).mono ?_
   rintro ev w5 ⟨rfl, hb5⟩
   have t5 := one_at hb5
   have T5 := Lib.hid t5
   have HB5 := Lib.hid ((one_below _ _).trans (hb5.mono (by simp)))
   obtain ⟨z0, g0, z1, g1, z2, g2, z3, g3⟩ := cf4 t5
   clear hb5 t5
   unfold Dat.agg num
   go_wp2
   refine bodyPost_ret (results_row_tmp rfl _ _ w.heap.size 25 _ (0, 0) _ rfl (setRow4_at T5.out) Tryz.underlying25 rfl (by kernel_rfl)) rfl ?_
   exact ⟨rfl, setRow4_below HB5.out (Nat.le_refl _)⟩
theorem mod_172 (a b : Dat) (A B : Nat) (w : World) (ha : BoxAt w A a) (hb : BoxAt w B b) (fa : a.fits) (fb : b.fits) :
  Calls Tryz.prog 189 #[.pointer (some ⟨B, 0, none⟩), .pointer (some ⟨A, 0, none⟩)] w (ResPost (if b.int = 0 then bad 11 else (num (Int.tmod a.int b.int), 0)) w) := by
 have fa1 := fa.2.1
 have fb1 := fb.2.1
 have la : A < w.heap.size := lt_of_heap ha
 have lb : B < w.heap.size := lt_of_heap hb
 have a2 : w.cell? ⟨A, 2, none⟩ = some (.int .i64 a.int) := cell_of_heap ha rfl
 have b2 : w.cell? ⟨B, 2, none⟩ = some (.int .i64 b.int) := cell_of_heap hb rfl
 generalize a.int = x at *
 generalize b.int = y at *
 clear ha hb fa fb
 by_cases h0 : y = 0
 ·subst h0
  rw [if_pos rfl]
  go_enter Tryz.func189, Tryz.ntmps189
  go_wp2_with fail
  refine bodyPost_ret (results_row_tmp rfl _ _ w.heap.size 25 _ (0, 0) _ rfl (heap_alloc_new w _) Tryz.underlying25 rfl (by kernel_rfl)) rfl ?_
  exact ⟨rfl, one_below _ _⟩
 ·have q0 : (y == 0) = false := by simpa using h0
  rw [if_neg h0]
  by_cases h1 : y = -1
  ·subst h1
   rw [show Int.tmod x (-1) = 0 by rw [Int.tmod_neg, Int.tmod_one]]
   clear fa1 fb1
   go_enter Tryz.func189, Tryz.ntmps189
   go_wp2_with fail
   refine (number_162 _ _).mono ?_
   rintro ev w5 ⟨rfl, hb5⟩
   have t5 := one_at hb5
   have T5 := Lib.hid t5
   have HB5 := Lib.hid ((one_below _ _).trans (hb5.mono (by simp)))
   obtain ⟨z0, g0, z1, g1, z2, g2, z3, g3⟩ := cf4 t5
   clear hb5 t5
   unfold Dat.agg num
   go_wp2
   refine bodyPost_ret (results_row_tmp rfl _ _ w.heap.size 25 _ (0, 0) _ rfl (setRow4_at T5.out) Tryz.underlying25 rfl (by kernel_rfl)) rfl ?_
   exact ⟨rfl, setRow4_below HB5.out (Nat.le_refl _)⟩
  ·have q1 : (y == -1) = false := by simpa using h1
   clear fa1 fb1
   go_enter Tryz.func189, Tryz.ntmps189
   go_wp2_with fail
   refine (number_162 _ _).mono ?_
   rintro ev w5 ⟨rfl, hb5⟩
   have t5 := one_at hb5
   have T5 := Lib.hid t5
   have HB5 := Lib.hid ((one_below _ _).trans (hb5.mono (by simp)))
   obtain ⟨z0, g0, z1, g1, z2, g2, z3, g3⟩ := cf4 t5
   clear hb5 t5
   unfold Dat.agg num
   go_wp2
   refine bodyPost_ret (results_row_tmp rfl _ _ w.heap.size 25 _ (0, 0) _ rfl (setRow4_at T5.out) Tryz.underlying25 rfl (by kernel_rfl)) rfl ?_
   exact ⟨rfl, setRow4_below HB5.out (Nat.le_refl _)⟩
end Go.Proofs.YtmmhedlagnjbiaaGreatDoor
namespace Go.Proofs.YtmmhedlagnjbiaaGreatDoor
open Go.RowKit Go.Pen Go.Shelf
attribute [local go_sem] Oper.semAt_some
theorem apR_both (k : Int) (a b : Dat) (r : Res) : apR k [a, b] r = both k a b r := by
 unfold apR both ofR
 cases h1 : isK k a
 ·simp [h1]
 ·cases h2 : isK k b
  ·simp [h1, h2]
  ·by_cases e1 : a.kind = 1
   ·simp [h1, h2, e1]
   ·by_cases e2 : b.kind = 1
    ·simp [h1, h2, e1, e2]
    ·simp [h1, h2, e1, e2]
theorem apR_sole (k : Int) (a : Dat) (r : Res) : apR k [a] r = sole k a r := by
 unfold apR sole ofR
 cases h1 : isK k a
 ·simp [h1]
 ·by_cases e1 : a.kind = 1
  ·simp [h1, e1]
  ·simp [h1, e1]
theorem dats2 {w : World} {g : Nat} {a b : Dat} (h : w.heap[g]? = some (.cells #[.int .u8 a.kind, .bool a.bool, .int .i64 a.int, .string a.text, .int .u8 b.kind, .bool b.bool, .int .i64 b.int, .string b.text] 25 (0, 0))) : DatsOn (fun _ => True) w [a, b] (.slice (some ⟨g, 0, none⟩) 2 2) := by
 refine ⟨some ⟨g, 0, none⟩, 2, rfl, (fun h => by cases h), fun _ => ⟨g, 0, rfl, trivial, fun i d hd => ?_⟩⟩
 rcases i with _ | _ | i
 ·cases hd; exact ⟨cell_of_heap h rfl, cell_of_heap h rfl, cell_of_heap h rfl, cell_of_heap h rfl⟩
 ·cases hd; exact ⟨cell_of_heap h rfl, cell_of_heap h rfl, cell_of_heap h rfl, cell_of_heap h rfl⟩
 ·simp at hd
theorem div_124 (a b : Dat) (w : World) (fa : a.fits) (fb : b.fits) (hT : Lib.Utf8Tabs 0 1 w) (h11 : 3 ≤ w.heap.size) :
  Calls Tryz.prog 147 #[a.agg, b.agg] w (ResPost (divD a b) w) := by
 have hap : ∀ (W : World), Below w.heap.size w W → W.heap[w.heap.size]? = some (.cells #[.int .u8 a.kind, .bool a.bool, .int .i64 a.int, .string a.text] 25 (0, 0)) → W.heap[w.heap.size + 1]? = some (.cells #[.int .u8 b.kind, .bool b.bool, .int .i64 b.int, .string b.text] 25 (0, 0)) → ∀ g, W.heap[g]? = some (.cells #[.int .u8 a.kind, .bool a.bool, .int .i64 a.int, .string a.text, .int .u8 b.kind, .bool b.bool, .int .i64 b.int, .string b.text] 25 (0, 0)) →
   Calls Tryz.prog 180 #[.int .u8 3, .func (.func 188) #[] #[.pointer (some ⟨w.heap.size + 1, 0, none⟩), .pointer (some ⟨w.heap.size, 0, none⟩)], .slice (some ⟨g, 0, none⟩) 2 2] W (ResPost (divD a b) W) := by
  intro W hb hA hB g hg
  have h := apply_163 3 188 #[.pointer (some ⟨w.heap.size + 1, 0, none⟩), .pointer (some ⟨w.heap.size, 0, none⟩)] [a, b] _ (if b.int = 0 then bad 11 else ov (Int.tdiv a.int b.int)) W (by simp) (by intro d hd; simp at hd; rcases hd with rfl | rfl; exact fa; exact fb) (dats2 hg) (tabs_below hT hb h11) (Nat.le_trans h11 hb.size) (enters_of Tryz.func188 (by kernel_rfl) rfl)
   (fun _ W2 hb2 => div_171 a b w.heap.size (w.heap.size + 1) W2 ((hb2.block _ (lt_of_heap hA)).trans hA) ((hb2.block _ (lt_of_heap hB)).trans hB) fa fb)
  rw [apR_both] at h
  exact h
 have HAP := Lib.hid hap
 clear hap hT fa fb
 obtain ⟨X, eX⟩ : ∃ X, X = divD a b := ⟨_, rfl⟩
 rw [← eX] at HAP ⊢
 clear eX
 unfold Dat.agg
 go_enter Tryz.func147, Tryz.ntmps147
 go_wp2_with fail
 have h3 := three_at (w := w) (a := .cells #[.int .u8 a.kind, .bool a.bool, .int .i64 a.int, .string a.text] 25) (b := .cells #[.int .u8 b.kind, .bool b.bool, .int .i64 b.int, .string b.text] 25) (c := .cells #[.int .u8 0, .bool false, .int .i64 0, .string ⟨#[]⟩] 25) (Below.refl _ _)
 have h4 := heap_alloc_new (((w.alloc (.cells #[.int .u8 a.kind, .bool a.bool, .int .i64 a.int, .string a.text] 25)).alloc (.cells #[.int .u8 b.kind, .bool b.bool, .int .i64 b.int, .string b.text] 25)).alloc (.cells #[.int .u8 0, .bool false, .int .i64 0, .string ⟨#[]⟩] 25)) (.cells #[.int .u8 a.kind, .bool a.bool, .int .i64 a.int, .string a.text, .int .u8 b.kind, .bool b.bool, .int .i64 b.int, .string b.text] 25)
 rw [World.size_alloc, World.size_alloc, World.size_alloc] at h4
 have hkeep : ∀ {g : Nat} {y : Obj}, (((w.alloc (.cells #[.int .u8 a.kind, .bool a.bool, .int .i64 a.int, .string a.text] 25)).alloc (.cells #[.int .u8 b.kind, .bool b.bool, .int .i64 b.int, .string b.text] 25)).alloc (.cells #[.int .u8 0, .bool false, .int .i64 0, .string ⟨#[]⟩] 25)).heap[g]? = some y → ((((w.alloc (.cells #[.int .u8 a.kind, .bool a.bool, .int .i64 a.int, .string a.text] 25)).alloc (.cells #[.int .u8 b.kind, .bool b.bool, .int .i64 b.int, .string b.text] 25)).alloc (.cells #[.int .u8 0, .bool false, .int .i64 0, .string ⟨#[]⟩] 25)).alloc (.cells #[.int .u8 a.kind, .bool a.bool, .int .i64 a.int, .string a.text, .int .u8 b.kind, .bool b.bool, .int .i64 b.int, .string b.text] 25)).heap[g]? = some y := fun h => (Below.heap_alloc _ _ _ (lt_of_heap h)).trans h
 refine (HAP.out _ (four_below _ _ _ _ _) (hkeep h3.1) (hkeep h3.2.1) _ h4).mono ?_
 rintro ev w5 ⟨rfl, hb5⟩
 have t5 := (hb5.block _ (lt_of_heap (hkeep h3.2.2))).trans (hkeep h3.2.2)
 have T5 := Lib.hid t5
 have HB5 := Lib.hid ((four_below _ _ _ _ _).trans (hb5.mono (by simp <;> omega)))
 obtain ⟨z0, g0, z1, g1, z2, g2, z3, g3⟩ := cf4 t5
 clear hb5 t5 h3 h4 hkeep
 unfold resT Dat.agg
 go_wp2
 refine bodyPost_ret (results_row_tmp rfl _ _ (w.heap.size + 1 + 1) 25 _ (0, 0) _ rfl (setRow4_at T5.out) Tryz.underlying25 rfl (by kernel_rfl)) rfl ?_
 exact ⟨rfl, setRow4_below HB5.out (by show w.heap.size ≤ w.heap.size + 1 + 1; omega)⟩
theorem add_121 (a b : Dat) (w : World) (fa : a.fits) (fb : b.fits) (hT : Lib.Utf8Tabs 0 1 w) (h11 : 3 ≤ w.heap.size) :
  Calls Tryz.prog 144 #[a.agg, b.agg] w (ResPost (addD a b) w) := by
 have hap : ∀ (W : World), Below w.heap.size w W → W.heap[w.heap.size]? = some (.cells #[.int .u8 a.kind, .bool a.bool, .int .i64 a.int, .string a.text] 25 (0, 0)) → W.heap[w.heap.size + 1]? = some (.cells #[.int .u8 b.kind, .bool b.bool, .int .i64 b.int, .string b.text] 25 (0, 0)) → ∀ g, W.heap[g]? = some (.cells #[.int .u8 a.kind, .bool a.bool, .int .i64 a.int, .string a.text, .int .u8 b.kind, .bool b.bool, .int .i64 b.int, .string b.text] 25 (0, 0)) →
   Calls Tryz.prog 180 #[.int .u8 3, .func (.func 184) #[] #[.pointer (some ⟨w.heap.size, 0, none⟩), .pointer (some ⟨w.heap.size + 1, 0, none⟩)], .slice (some ⟨g, 0, none⟩) 2 2] W (ResPost (addD a b) W) := by
  intro W hb hA hB g hg
  have h := apply_163 3 184 #[.pointer (some ⟨w.heap.size, 0, none⟩), .pointer (some ⟨w.heap.size + 1, 0, none⟩)] [a, b] _ (ov (a.int + b.int)) W (by simp) (by intro d hd; simp at hd; rcases hd with rfl | rfl; exact fa; exact fb) (dats2 hg) (tabs_below hT hb h11) (Nat.le_trans h11 hb.size) (enters_of Tryz.func184 (by kernel_rfl) rfl)
   (fun _ W2 hb2 => add_167 a b w.heap.size (w.heap.size + 1) W2 ((hb2.block _ (lt_of_heap hA)).trans hA) ((hb2.block _ (lt_of_heap hB)).trans hB) fa fb)
  rw [apR_both] at h
  exact h
 have HAP := Lib.hid hap
 clear hap hT fa fb
 obtain ⟨X, eX⟩ : ∃ X, X = addD a b := ⟨_, rfl⟩
 rw [← eX] at HAP ⊢
 clear eX
 unfold Dat.agg
 go_enter Tryz.func144, Tryz.ntmps144
 go_wp2_with fail
 have h3 := three_at (w := w) (a := .cells #[.int .u8 a.kind, .bool a.bool, .int .i64 a.int, .string a.text] 25) (b := .cells #[.int .u8 b.kind, .bool b.bool, .int .i64 b.int, .string b.text] 25) (c := .cells #[.int .u8 0, .bool false, .int .i64 0, .string ⟨#[]⟩] 25) (Below.refl _ _)
 have h4 := heap_alloc_new (((w.alloc (.cells #[.int .u8 a.kind, .bool a.bool, .int .i64 a.int, .string a.text] 25)).alloc (.cells #[.int .u8 b.kind, .bool b.bool, .int .i64 b.int, .string b.text] 25)).alloc (.cells #[.int .u8 0, .bool false, .int .i64 0, .string ⟨#[]⟩] 25)) (.cells #[.int .u8 a.kind, .bool a.bool, .int .i64 a.int, .string a.text, .int .u8 b.kind, .bool b.bool, .int .i64 b.int, .string b.text] 25)
 rw [World.size_alloc, World.size_alloc, World.size_alloc] at h4
 have hkeep : ∀ {g : Nat} {y : Obj}, (((w.alloc (.cells #[.int .u8 a.kind, .bool a.bool, .int .i64 a.int, .string a.text] 25)).alloc (.cells #[.int .u8 b.kind, .bool b.bool, .int .i64 b.int, .string b.text] 25)).alloc (.cells #[.int .u8 0, .bool false, .int .i64 0, .string ⟨#[]⟩] 25)).heap[g]? = some y → ((((w.alloc (.cells #[.int .u8 a.kind, .bool a.bool, .int .i64 a.int, .string a.text] 25)).alloc (.cells #[.int .u8 b.kind, .bool b.bool, .int .i64 b.int, .string b.text] 25)).alloc (.cells #[.int .u8 0, .bool false, .int .i64 0, .string ⟨#[]⟩] 25)).alloc (.cells #[.int .u8 a.kind, .bool a.bool, .int .i64 a.int, .string a.text, .int .u8 b.kind, .bool b.bool, .int .i64 b.int, .string b.text] 25)).heap[g]? = some y := fun h => (Below.heap_alloc _ _ _ (lt_of_heap h)).trans h
 refine (HAP.out _ (four_below _ _ _ _ _) (hkeep h3.1) (hkeep h3.2.1) _ h4).mono ?_
 rintro ev w5 ⟨rfl, hb5⟩
 have t5 := (hb5.block _ (lt_of_heap (hkeep h3.2.2))).trans (hkeep h3.2.2)
 have T5 := Lib.hid t5
 have HB5 := Lib.hid ((four_below _ _ _ _ _).trans (hb5.mono (by simp <;> omega)))
 obtain ⟨z0, g0, z1, g1, z2, g2, z3, g3⟩ := cf4 t5
 clear hb5 t5 h3 h4 hkeep
 unfold resT Dat.agg
 go_wp2
 refine bodyPost_ret (results_row_tmp rfl _ _ (w.heap.size + 1 + 1) 25 _ (0, 0) _ rfl (setRow4_at T5.out) Tryz.underlying25 rfl (by kernel_rfl)) rfl ?_
 exact ⟨rfl, setRow4_below HB5.out (by show w.heap.size ≤ w.heap.size + 1 + 1; omega)⟩
theorem sub_122 (a b : Dat) (w : World) (fa : a.fits) (fb : b.fits) (hT : Lib.Utf8Tabs 0 1 w) (h11 : 3 ≤ w.heap.size) :
  Calls Tryz.prog 145 #[a.agg, b.agg] w (ResPost (subD a b) w) := by
 have hap : ∀ (W : World), Below w.heap.size w W → W.heap[w.heap.size]? = some (.cells #[.int .u8 a.kind, .bool a.bool, .int .i64 a.int, .string a.text] 25 (0, 0)) → W.heap[w.heap.size + 1]? = some (.cells #[.int .u8 b.kind, .bool b.bool, .int .i64 b.int, .string b.text] 25 (0, 0)) → ∀ g, W.heap[g]? = some (.cells #[.int .u8 a.kind, .bool a.bool, .int .i64 a.int, .string a.text, .int .u8 b.kind, .bool b.bool, .int .i64 b.int, .string b.text] 25 (0, 0)) →
   Calls Tryz.prog 180 #[.int .u8 3, .func (.func 186) #[] #[.pointer (some ⟨w.heap.size, 0, none⟩), .pointer (some ⟨w.heap.size + 1, 0, none⟩)], .slice (some ⟨g, 0, none⟩) 2 2] W (ResPost (subD a b) W) := by
  intro W hb hA hB g hg
  have h := apply_163 3 186 #[.pointer (some ⟨w.heap.size, 0, none⟩), .pointer (some ⟨w.heap.size + 1, 0, none⟩)] [a, b] _ (ov (a.int - b.int)) W (by simp) (by intro d hd; simp at hd; rcases hd with rfl | rfl; exact fa; exact fb) (dats2 hg) (tabs_below hT hb h11) (Nat.le_trans h11 hb.size) (enters_of Tryz.func186 (by kernel_rfl) rfl)
   (fun _ W2 hb2 => sub_169 a b w.heap.size (w.heap.size + 1) W2 ((hb2.block _ (lt_of_heap hA)).trans hA) ((hb2.block _ (lt_of_heap hB)).trans hB) fa fb)
  rw [apR_both] at h
  exact h
 have HAP := Lib.hid hap
 clear hap hT fa fb
 obtain ⟨X, eX⟩ : ∃ X, X = subD a b := ⟨_, rfl⟩
 rw [← eX] at HAP ⊢
 clear eX
 unfold Dat.agg
 go_enter Tryz.func145, Tryz.ntmps145
 go_wp2_with fail
 have h3 := three_at (w := w) (a := .cells #[.int .u8 a.kind, .bool a.bool, .int .i64 a.int, .string a.text] 25) (b := .cells #[.int .u8 b.kind, .bool b.bool, .int .i64 b.int, .string b.text] 25) (c := .cells #[.int .u8 0, .bool false, .int .i64 0, .string ⟨#[]⟩] 25) (Below.refl _ _)
 have h4 := heap_alloc_new (((w.alloc (.cells #[.int .u8 a.kind, .bool a.bool, .int .i64 a.int, .string a.text] 25)).alloc (.cells #[.int .u8 b.kind, .bool b.bool, .int .i64 b.int, .string b.text] 25)).alloc (.cells #[.int .u8 0, .bool false, .int .i64 0, .string ⟨#[]⟩] 25)) (.cells #[.int .u8 a.kind, .bool a.bool, .int .i64 a.int, .string a.text, .int .u8 b.kind, .bool b.bool, .int .i64 b.int, .string b.text] 25)
 rw [World.size_alloc, World.size_alloc, World.size_alloc] at h4
 have hkeep : ∀ {g : Nat} {y : Obj}, (((w.alloc (.cells #[.int .u8 a.kind, .bool a.bool, .int .i64 a.int, .string a.text] 25)).alloc (.cells #[.int .u8 b.kind, .bool b.bool, .int .i64 b.int, .string b.text] 25)).alloc (.cells #[.int .u8 0, .bool false, .int .i64 0, .string ⟨#[]⟩] 25)).heap[g]? = some y → ((((w.alloc (.cells #[.int .u8 a.kind, .bool a.bool, .int .i64 a.int, .string a.text] 25)).alloc (.cells #[.int .u8 b.kind, .bool b.bool, .int .i64 b.int, .string b.text] 25)).alloc (.cells #[.int .u8 0, .bool false, .int .i64 0, .string ⟨#[]⟩] 25)).alloc (.cells #[.int .u8 a.kind, .bool a.bool, .int .i64 a.int, .string a.text, .int .u8 b.kind, .bool b.bool, .int .i64 b.int, .string b.text] 25)).heap[g]? = some y := fun h => (Below.heap_alloc _ _ _ (lt_of_heap h)).trans h
 refine (HAP.out _ (four_below _ _ _ _ _) (hkeep h3.1) (hkeep h3.2.1) _ h4).mono ?_
 rintro ev w5 ⟨rfl, hb5⟩
 have t5 := (hb5.block _ (lt_of_heap (hkeep h3.2.2))).trans (hkeep h3.2.2)
 have T5 := Lib.hid t5
 have HB5 := Lib.hid ((four_below _ _ _ _ _).trans (hb5.mono (by simp <;> omega)))
 obtain ⟨z0, g0, z1, g1, z2, g2, z3, g3⟩ := cf4 t5
 clear hb5 t5 h3 h4 hkeep
 unfold resT Dat.agg
 go_wp2
 refine bodyPost_ret (results_row_tmp rfl _ _ (w.heap.size + 1 + 1) 25 _ (0, 0) _ rfl (setRow4_at T5.out) Tryz.underlying25 rfl (by kernel_rfl)) rfl ?_
 exact ⟨rfl, setRow4_below HB5.out (by show w.heap.size ≤ w.heap.size + 1 + 1; omega)⟩
theorem mod_125 (a b : Dat) (w : World) (fa : a.fits) (fb : b.fits) (hT : Lib.Utf8Tabs 0 1 w) (h11 : 3 ≤ w.heap.size) :
  Calls Tryz.prog 148 #[a.agg, b.agg] w (ResPost (modD a b) w) := by
 have hap : ∀ (W : World), Below w.heap.size w W → W.heap[w.heap.size]? = some (.cells #[.int .u8 a.kind, .bool a.bool, .int .i64 a.int, .string a.text] 25 (0, 0)) → W.heap[w.heap.size + 1]? = some (.cells #[.int .u8 b.kind, .bool b.bool, .int .i64 b.int, .string b.text] 25 (0, 0)) → ∀ g, W.heap[g]? = some (.cells #[.int .u8 a.kind, .bool a.bool, .int .i64 a.int, .string a.text, .int .u8 b.kind, .bool b.bool, .int .i64 b.int, .string b.text] 25 (0, 0)) →
   Calls Tryz.prog 180 #[.int .u8 3, .func (.func 189) #[] #[.pointer (some ⟨w.heap.size + 1, 0, none⟩), .pointer (some ⟨w.heap.size, 0, none⟩)], .slice (some ⟨g, 0, none⟩) 2 2] W (ResPost (modD a b) W) := by
  intro W hb hA hB g hg
  have h := apply_163 3 189 #[.pointer (some ⟨w.heap.size + 1, 0, none⟩), .pointer (some ⟨w.heap.size, 0, none⟩)] [a, b] _ (if b.int = 0 then bad 11 else (num (Int.tmod a.int b.int), 0)) W (by simp) (by intro d hd; simp at hd; rcases hd with rfl | rfl; exact fa; exact fb) (dats2 hg) (tabs_below hT hb h11) (Nat.le_trans h11 hb.size) (enters_of Tryz.func189 (by kernel_rfl) rfl)
   (fun _ W2 hb2 => mod_172 a b w.heap.size (w.heap.size + 1) W2 ((hb2.block _ (lt_of_heap hA)).trans hA) ((hb2.block _ (lt_of_heap hB)).trans hB) fa fb)
  rw [apR_both] at h
  exact h
 have HAP := Lib.hid hap
 clear hap hT fa fb
 obtain ⟨X, eX⟩ : ∃ X, X = modD a b := ⟨_, rfl⟩
 rw [← eX] at HAP ⊢
 clear eX
 unfold Dat.agg
 go_enter Tryz.func148, Tryz.ntmps148
 go_wp2_with fail
 have h3 := three_at (w := w) (a := .cells #[.int .u8 a.kind, .bool a.bool, .int .i64 a.int, .string a.text] 25) (b := .cells #[.int .u8 b.kind, .bool b.bool, .int .i64 b.int, .string b.text] 25) (c := .cells #[.int .u8 0, .bool false, .int .i64 0, .string ⟨#[]⟩] 25) (Below.refl _ _)
 have h4 := heap_alloc_new (((w.alloc (.cells #[.int .u8 a.kind, .bool a.bool, .int .i64 a.int, .string a.text] 25)).alloc (.cells #[.int .u8 b.kind, .bool b.bool, .int .i64 b.int, .string b.text] 25)).alloc (.cells #[.int .u8 0, .bool false, .int .i64 0, .string ⟨#[]⟩] 25)) (.cells #[.int .u8 a.kind, .bool a.bool, .int .i64 a.int, .string a.text, .int .u8 b.kind, .bool b.bool, .int .i64 b.int, .string b.text] 25)
 rw [World.size_alloc, World.size_alloc, World.size_alloc] at h4
 have hkeep : ∀ {g : Nat} {y : Obj}, (((w.alloc (.cells #[.int .u8 a.kind, .bool a.bool, .int .i64 a.int, .string a.text] 25)).alloc (.cells #[.int .u8 b.kind, .bool b.bool, .int .i64 b.int, .string b.text] 25)).alloc (.cells #[.int .u8 0, .bool false, .int .i64 0, .string ⟨#[]⟩] 25)).heap[g]? = some y → ((((w.alloc (.cells #[.int .u8 a.kind, .bool a.bool, .int .i64 a.int, .string a.text] 25)).alloc (.cells #[.int .u8 b.kind, .bool b.bool, .int .i64 b.int, .string b.text] 25)).alloc (.cells #[.int .u8 0, .bool false, .int .i64 0, .string ⟨#[]⟩] 25)).alloc (.cells #[.int .u8 a.kind, .bool a.bool, .int .i64 a.int, .string a.text, .int .u8 b.kind, .bool b.bool, .int .i64 b.int, .string b.text] 25)).heap[g]? = some y := fun h => (Below.heap_alloc _ _ _ (lt_of_heap h)).trans h
 refine (HAP.out _ (four_below _ _ _ _ _) (hkeep h3.1) (hkeep h3.2.1) _ h4).mono ?_
 rintro ev w5 ⟨rfl, hb5⟩
 have t5 := (hb5.block _ (lt_of_heap (hkeep h3.2.2))).trans (hkeep h3.2.2)
 have T5 := Lib.hid t5
 have HB5 := Lib.hid ((four_below _ _ _ _ _).trans (hb5.mono (by simp <;> omega)))
 obtain ⟨z0, g0, z1, g1, z2, g2, z3, g3⟩ := cf4 t5
 clear hb5 t5 h3 h4 hkeep
 unfold resT Dat.agg
 go_wp2
 refine bodyPost_ret (results_row_tmp rfl _ _ (w.heap.size + 1 + 1) 25 _ (0, 0) _ rfl (setRow4_at T5.out) Tryz.underlying25 rfl (by kernel_rfl)) rfl ?_
 exact ⟨rfl, setRow4_below HB5.out (by show w.heap.size ≤ w.heap.size + 1 + 1; omega)⟩
end Go.Proofs.YtmmhedlagnjbiaaGreatDoor
