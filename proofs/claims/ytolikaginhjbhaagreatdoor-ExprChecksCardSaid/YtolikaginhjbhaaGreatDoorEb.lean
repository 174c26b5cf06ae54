import Derived.Test.YtolikaginhjbhaaGreatDoorEa
/- datum.of. -/
namespace Go.Proofs.YtolikaginhjbhaaGreatDoor
open Go.RowKit Go.Pen Go.Shelf
attribute [local go_sem ↓] Go.wp_at_zero Go.wp_at_succ
attribute [local go_sem] Oper.semAt_some

/-- are all of a kind, or null; is one null? -/
def ofR (k : Int) (l : List Dat) : Bool × Nat := if l.all (isK k) then (l.any fun d => decide (d.kind = 1), 0) else (false, 13)
theorem ofR_bad {k : Int} {l : List Dat} {i : Nat} {d : Dat} (hd : l[i]? = some d) (h : isK k d = false) : ofR k l = (false, 13) := by
  unfold ofR
  rw [if_neg]
  intro ha
  rw [List.all_eq_true] at ha
  rw [ha d (List.mem_of_getElem? hd)] at h
  cases h
theorem all_take {p : Dat → Bool} {l : List Dat} {i : Nat} {d : Dat} (hd : l[i]? = some d) (h : (l.take i).all p = true) (hp : p d = true) : (l.take (i + 1)).all p = true := by
  rw [List.take_succ_eq_append_getElem (List.getElem?_eq_some_iff.1 hd).1, List.all_append, h, (List.getElem?_eq_some_iff.1 hd).2]
  simp [hp]
theorem any_take {p : Dat → Bool} {l : List Dat} {i : Nat} {d : Dat} (hd : l[i]? = some d) : (l.take (i + 1)).any p = ((l.take i).any p || p d) := by
  rw [List.take_succ_eq_append_getElem (List.getElem?_eq_some_iff.1 hd).1, List.any_append, (List.getElem?_eq_some_iff.1 hd).2]
  simp

def OfPost (k : Int) (l : List Dat) (w : World) (ev : Ending) (w' : World) : Prop := ev = .returned (.tuple #[.bool (ofR k l).1, .int .u16 (ofR k l).2]) ∧ Below w.heap.size w w'
theorem of_bad {k : Int} {l : List Dat} {i : Nat} {d : Dat} {w w' : World} (hd : l[i]? = some d) (h : isK k d = false) (hb : Below w.heap.size w w') : OfPost k l w (.returned (.tuple #[.bool false, .int .u16 13])) w' := by
  refine ⟨?_, hb⟩
  rw [ofR_bad hd h]; rfl
theorem of_good {k : Int} {l : List Dat} {w w' : World} {b : Bool} (h : l.all (isK k) = true) (hb2 : b = l.any fun d => decide (d.kind = 1)) (hb : Below w.heap.size w w') : OfPost k l w (.returned (.tuple #[.bool b, .int .u16 0])) w' := by
  refine ⟨?_, hb⟩
  rw [hb2]
  unfold ofR
  rw [if_pos h]
  rfl

set_option maxRecDepth 100000 in
set_option maxHeartbeats 1000000 in
theorem of_206 (k : Int) (l : List Dat) (v : Value) (w : World) (hl : l.length ≤ 1000000) (hf : ∀ d ∈ l, d.fits) (hv : DatsOn (fun _ => True) w l v) (hT : Lib.Utf8Tabs 1 2 w) (h11 : 3 ≤ w.heap.size) :
    Calls Tryz.prog 206 #[.int .u8 k, v] w (OfPost k l w) := by
  obtain ⟨a, cc, rfl, -, hks⟩ := hv
  have hck := fun (d : Dat) (hd : d ∈ l) (W : World) (hb : Below w.heap.size w W) => check_54 d W (hf d hd) (tabs_below hT hb h11) (Nat.le_trans h11 hb.size)
  unfold Dat.agg at hck
  have HCK := Lib.hid hck
  have HKS := Lib.hid hks
  obtain ⟨K, eK⟩ : ∃ K, K = l.length := ⟨_, rfl⟩
  rw [← eK] at hl ⊢
  have EK := Lib.hid eK
  clear hck hks eK hT hf
  go_enter Tryz.func206, Tryz.ntmps206
  go_wp2_with fail
  go_loopg [4, 10] K (fun g s4 s10 wr => ∃ (i : Nat) (b : Bool), i ≤ K ∧ g = K - i ∧ s10 = .int .i64 i ∧ s4 = .bool b ∧ (b = (l.take i).any (fun d => decide (d.kind = 1)) ∧ (l.take i).all (isK k) = true) ∧ Below w.heap.size w wr)
  case atStart => exact ⟨0, false, Nat.zero_le _, rfl, rfl, rfl, ⟨rfl, rfl⟩, Below.refl _ _⟩
  case round =>
    obtain ⟨i, b, hi, rfl, rfl, rfl, ⟨hb, hall⟩, hbr⟩ := hrel
    have HB := Lib.hid hb
    have HALL := Lib.hid hall
    clear hb hall
    by_cases hlt : i < K
    · obtain ⟨d, hd⟩ : ∃ d, l[i]? = some d := ⟨l[i]'(by rw [← EK.out]; exact hlt), List.getElem?_eq_getElem _⟩
      obtain ⟨bb, off, rfl, -, hcs⟩ := HKS.out (fun e => by rw [e] at hd; simp at hd)
      obtain ⟨k0, k1, k2, k3⟩ := hcs i d hd
      have k0 := cell_keep hbr k0
      have k1 := cell_keep hbr k1
      have k2 := cell_keep hbr k2
      have k3 := cell_keep hbr k3
      have hct := fun W hb => HCK.out d (List.mem_of_getElem? hd) W hb
      have HCT := Lib.hid hct
      have HBR := Lib.hid hbr
      have HD := Lib.hid hd
      clear hcs hct hbr hd
      by_cases hok : chkD d = 0
      · have HOK := Lib.hid hok
        rw [hok] at HCT
        clear hok
        cases e1 : (d.kind != k)
        rotate_left
        · cases e2 : (d.kind != 1)
          rotate_left
          · have hbad : isK k d = false := by
              have h1 : ¬ d.kind = k := by simpa using e1
              have h2 : ¬ d.kind = 1 := by simpa using e2
              simp [isK, h1, h2]
            have HBAD := Lib.hid hbad
            clear hbad
            go_wp2_with (go_at_call 54; refine (HCT.out _ (HBR.out.alloc HBR.out.size _)).mono ?_; rintro ev w3 ⟨rfl, hb3⟩; have t1 := one_at hb3; have y0 := cell_of_heap (o := 0) t1 rfl; have y1 := cell_of_heap (o := 1) t1 rfl; have y2 := cell_of_heap (o := 2) t1 rfl; have y3 := cell_of_heap (o := 3) t1 rfl; have HB3 := Lib.hid ((one_below _ _).trans (hb3.mono (by simp))); clear hb3 t1)
            go_ret2
            exact of_bad HD.out HBAD.out (HBR.out.trans (HB3.out.mono HBR.out.size))
          · have h2 : d.kind = 1 := by simpa using e2
            have hgd : isK k d = true := by simp [isK, h2, okD, HOK.out]
            have HGD := Lib.hid hgd
            have e3 : (d.kind == 1) = true := by simpa using h2
            have H2 := Lib.hid h2
            clear hgd h2
            cases b
            all_goals
              go_wp2_with (go_at_call 54; refine (HCT.out _ (HBR.out.alloc HBR.out.size _)).mono ?_; rintro ev w3 ⟨rfl, hb3⟩; have t1 := one_at hb3; have y0 := cell_of_heap (o := 0) t1 rfl; have y1 := cell_of_heap (o := 1) t1 rfl; have y2 := cell_of_heap (o := 2) t1 rfl; have y3 := cell_of_heap (o := 3) t1 rfl; have HB3 := Lib.hid ((one_below _ _).trans (hb3.mono (by simp))); clear hb3 t1)
              go_roundg (K - (i + 1))
              case measure => omega
              case rel => exact ⟨i + 1, _, by omega, rfl, by go_num, rfl, ⟨by rw [any_take HD.out, ← HB.out]; simp [H2.out], all_take HD.out HALL.out HGD.out⟩, HBR.out.trans (HB3.out.mono HBR.out.size)⟩
        · have h1 : d.kind = k := by simpa using e1
          have hgd : isK k d = true := by simp [isK, h1, okD, HOK.out]
          have HGD := Lib.hid hgd
          clear hgd h1
          obtain ⟨q, hq⟩ : ∃ q, (d.kind == 1) = q := ⟨_, rfl⟩
          have hqq : decide (d.kind = 1) = q := by rw [← hq]; by_cases h : d.kind = 1 <;> simp [h]
          have HQ := Lib.hid hqq
          clear hqq
          cases b
          all_goals
            go_wp2_with (go_at_call 54; refine (HCT.out _ (HBR.out.alloc HBR.out.size _)).mono ?_; rintro ev w3 ⟨rfl, hb3⟩; have t1 := one_at hb3; have y0 := cell_of_heap (o := 0) t1 rfl; have y1 := cell_of_heap (o := 1) t1 rfl; have y2 := cell_of_heap (o := 2) t1 rfl; have y3 := cell_of_heap (o := 3) t1 rfl; have HB3 := Lib.hid ((one_below _ _).trans (hb3.mono (by simp))); clear hb3 t1)
            go_roundg (K - (i + 1))
            case measure => omega
            case rel => exact ⟨i + 1, _, by omega, rfl, by go_num, rfl, ⟨by rw [any_take HD.out, ← HB.out, HQ.out]; simp, all_take HD.out HALL.out HGD.out⟩, HBR.out.trans (HB3.out.mono HBR.out.size)⟩
      · have hbad : isK k d = false := by simp [isK, okD, hok]
        have HBAD := Lib.hid hbad
        have hne : ((chkD d : Int) != 0) = true := by simp; exact hok
        clear hbad hok
        go_wp2_with (go_at_call 54; refine (HCT.out _ (HBR.out.alloc HBR.out.size _)).mono ?_; rintro ev w3 ⟨rfl, hb3⟩; have t1 := one_at hb3; have y0 := cell_of_heap (o := 0) t1 rfl; have y1 := cell_of_heap (o := 1) t1 rfl; have y2 := cell_of_heap (o := 2) t1 rfl; have y3 := cell_of_heap (o := 3) t1 rfl; have HB3 := Lib.hid ((one_below _ _).trans (hb3.mono (by simp))); clear hb3 t1)
        go_ret2
        exact of_bad HD.out HBAD.out (HBR.out.trans (HB3.out.mono HBR.out.size))
    · obtain rfl : K = i := by omega
      have HBR := Lib.hid hbr
      clear hbr
      have hwl : l.take K = l := List.take_of_length_le (by rw [EK.out]; exact Nat.le_refl _)
      have hb := HB.out
      have ha := HALL.out
      rw [hwl] at hb ha
      have HB' := Lib.hid hb
      have HA' := Lib.hid ha
      clear hb ha hwl
      go_wp2
      go_ret2
      exact of_good HA'.out HB'.out HBR.out
end Go.Proofs.YtolikaginhjbhaaGreatDoor
