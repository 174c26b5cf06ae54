import Derived.Test.YtlpehdhgdpeoeaaGreatDoorLg
/- The reference's check of a row; valid. -/
namespace Go.Proofs.YtlpehdhgdpeoeaaGreatDoor
open Go.RowKit Go.Pen Go.Shelf
attribute [local go_sem] Oper.semAt_some

/-- may a row be? -/
def rowOk (r : List Dat) : Bool := decide (r.length ≤ 32) && r.all okD

set_option maxRecDepth 100000 in
set_option maxHeartbeats 1000000 in
theorem check_22 (r : List Dat) (v : Value) (w : World) (hr : RowAt w v r) (hrf : ∀ d ∈ r, d.fits) :
    Calls Tryz.prog 22 #[v] w fun e w' => ∃ c : Nat, e = .returned (.int .i64 c) ∧ (c = 0 ↔ rowOk r = true) ∧ Below w.heap.size w w' := by
  obtain ⟨a, cc, rfl, -, hri⟩ := hr
  obtain ⟨K, eK⟩ : ∃ K, K = r.length := ⟨_, rfl⟩
  rw [← eK]
  have EK := Lib.hid eK
  have HRI := Lib.hid hri
  have HRF := Lib.hid hrf
  clear hri eK hrf
  go_enter Tryz.func22, Tryz.ntmps22
  by_cases h32 : 32 < K
  · go_wp2_with fail
    go_ret
    refine ⟨20, rfl, ?_, Below.refl _ _⟩
    have := EK.out
    simp only [rowOk, Bool.and_eq_true, decide_eq_true_eq]
    constructor
    · intro h; cases h
    · intro h; omega
  go_wp2_with fail
  go_loopg [3] K (fun g s3 wr => ∃ i : Nat, i ≤ K ∧ g = K - i ∧ s3 = .int .i64 i ∧ (r.take i).all okD = true ∧ Below w.heap.size w wr)
  case atStart => exact ⟨0, Nat.zero_le _, rfl, rfl, rfl, Below.refl _ _⟩
  case round =>
    obtain ⟨i, hi, hgi, rfl, hall, hbr⟩ := hrel
    have HALL := Lib.hid hall
    have HBR := Lib.hid hbr
    clear hall
    by_cases hlt : i < K
    · obtain ⟨d, hx⟩ : ∃ d, r[i]? = some d := ⟨r[i]'(by rw [← EK.out]; exact hlt), List.getElem?_eq_getElem _⟩
      obtain ⟨b, off, rfl, -, hrs⟩ := HRI.out (fun e => by rw [e] at hx; simp at hx)
      obtain ⟨q0, q1, q2, q3⟩ := hrs _ _ hx
      have q0 := cell_keep hbr q0
      have q1 := cell_keep hbr q1
      have q2 := cell_keep hbr q2
      have q3 := cell_keep hbr q3
      have hck := check_105 d wr (HRF.out d (List.mem_of_getElem? hx))
      unfold Dat.agg at hck
      have HCK := Lib.hid hck
      have HX := Lib.hid hx
      clear hrs hx hck hbr
      obtain ⟨C, eC⟩ : ∃ C, C = chkD d := ⟨_, rfl⟩
      rw [← eC] at HCK
      have EC := Lib.hid eC
      clear eC
      by_cases hC : C = 0
      · subst hC
        go_wp2_with (go_at_call 42; refine HCK.out.mono ?_; rintro e w5 ⟨rfl, hb5⟩)
        go_roundg (K - (i + 1))
        case measure => omega
        case rel => exact ⟨i + 1, by omega, rfl, by go_num, by rw [List.take_add_one, HX.out]; simp only [List.all_append, HALL.out]; simp [okD, ← EC.out], HBR.out.trans (hb5.mono HBR.out.size)⟩
      · have hC2 : ((C : Int) == 0) = false := by simp; omega
        go_wp2_with (go_at_call 42; refine HCK.out.mono ?_; rintro e w5 ⟨rfl, hb5⟩)
        go_ret
        refine ⟨C, rfl, ?_, HBR.out.trans (hb5.mono HBR.out.size)⟩
        constructor
        · intro h; exact absurd h hC
        · intro h
          simp only [rowOk, Bool.and_eq_true, List.all_eq_true] at h
          have := h.2 d (List.mem_of_getElem? HX.out)
          simp only [okD, beq_iff_eq] at this
          exact absurd (EC.out.trans this) hC
    · go_wp2_with fail
      go_ret
      refine ⟨0, rfl, ?_, HBR.out⟩
      have h1 := HALL.out
      rw [show i = r.length by have := EK.out; omega, List.take_length] at h1
      have := EK.out
      simp [rowOk, h1]
      omega
/-- may all rows be? -/
def validU (us : List Upd) : Bool := us.all fun u => rowOk u.row
set_option maxRecDepth 100000 in
set_option maxHeartbeats 1000000 in
theorem valid_8 (us : List Upd) (v : Value) (w : World) (h : UpsAt w v us) (fus : ∀ x ∈ us, x.fits) (hn : us.length ≤ 1000000) :
    Calls Tryz.prog 8 #[v] w fun e w' => e = .returned (.bool (validU us)) ∧ Below w.heap.size w w' := by
  obtain ⟨a, cc, rfl, -, hat⟩ := h
  obtain ⟨K, eK⟩ : ∃ K, K = us.length := ⟨_, rfl⟩
  rw [← eK] at hn ⊢
  have EK := Lib.hid eK
  have HAT := Lib.hid hat
  have FUS := Lib.hid fus
  clear hat eK fus
  go_enter Tryz.func8, Tryz.ntmps8
  go_wp2_with fail
  go_loopg [3] K (fun g s3 wr => ∃ i : Nat, i ≤ K ∧ g = K - i ∧ s3 = .int .i64 i ∧ validU (us.take i) = true ∧ Below w.heap.size w wr)
  case atStart => exact ⟨0, Nat.zero_le _, rfl, rfl, rfl, Below.refl _ _⟩
  case round =>
    obtain ⟨i, hi, hgi, rfl, hall, hbr⟩ := hrel
    have HALL := Lib.hid hall
    have HBR := Lib.hid hbr
    clear hall
    by_cases hlt : i < K
    · obtain ⟨x, hx⟩ : ∃ x, us[i]? = some x := ⟨us[i]'(by rw [← EK.out]; exact hlt), List.getElem?_eq_getElem _⟩
      obtain ⟨b, o, rfl, hg⟩ := HAT.out (fun e => by rw [e] at hx; simp at hx)
      obtain ⟨xrv, xlv, p0, p1, p2, p3, hxr, hxl⟩ := hg i x hx
      have p0 := cell_keep hbr p0
      have hck := check_22 x.row xrv wr (hxr.below hbr) (FUS.out x (List.mem_of_getElem? hx)).row
      have HCK := Lib.hid hck
      have HX := Lib.hid hx
      clear hg hx hck hbr p1 p2 p3 hxr hxl
      go_wp2_with (go_at_call 22; refine HCK.out.mono ?_; rintro e w5 ⟨C, rfl, hC, hb5⟩)
      · go_ret
        refine ⟨?_, HBR.out.trans (hb5.mono HBR.out.size)⟩
        have hc : C ≠ 0 := by rename_i h; simp at h; omega
        have hv : validU us = false := by
          have hr : rowOk x.row = false := by
            rcases hq : rowOk x.row with _ | _
            · rfl
            · exact absurd (hC.2 hq) hc
          rw [validU, List.all_eq_false]
          exact ⟨x, List.mem_of_getElem? HX.out, by simp [hr]⟩
        rw [hv]; rfl
      · have hc : C = 0 := by
          have h := ‹((C : Int) != 0) = false›
          simp at h
          omega
        go_roundg (K - (i + 1))
        case measure => omega
        case rel =>
          exact ⟨i + 1, by omega, rfl, by go_num, by unfold validU; rw [List.take_add_one, HX.out]; have := HALL.out; unfold validU at this; simp only [List.all_append, this]; simp [hC.1 hc], HBR.out.trans (hb5.mono HBR.out.size)⟩
    · go_wp2_with fail
      go_ret
      have h1 := HALL.out
      rw [show i = us.length by have := EK.out; omega, List.take_length] at h1
      exact ⟨by rw [h1]; rfl, HBR.out⟩
set_option maxRecDepth 100000 in
set_option maxHeartbeats 1000000 in
theorem mass_20 : ∀ (e : ET) (kv : Value) (n : Nat) (w : World), e.At w kv → e.fits → n ≤ 300 →
    Calls Tryz.prog 20 #[e.agg kv, .int .i64 n] w fun ev w' => ∃ m : Nat, ev = .returned (.int .i64 m) ∧ (n + 1 ≤ m ∧ m ≤ 200000000000000000) ∧ Below w.heap.size w w' := by
  refine ET.ind fun o c d ks ih kv n w hat hfit hn => ?_
  obtain ⟨a, cc, rfl, -, hks⟩ := ET.On.iff.1 hat
  simp only [ET.fits, Dat.fits] at hfit
  obtain ⟨-, -, ⟨-, -, ht⟩, hkl, hfs⟩ := hfit
  have HF := Lib.hid (ET.fitss_iff.1 hfs)
  have HKS := Lib.hid hks
  have IH := Lib.hid ih
  obtain ⟨K, eK⟩ : ∃ K, K = ks.length := ⟨_, rfl⟩
  rw [← eK] at hkl
  obtain ⟨q, eq⟩ : ∃ q, q = d.text.size / 64 := ⟨_, rfl⟩
  have hq2 : q ≤ 3000000000000 := by omega
  have EK := Lib.hid eK
  have EQ := Lib.hid eq
  clear hfs hks ih hat
  unfold ET.agg
  simp only [ET.op, ET.col, ET.lit, ET.kids]
  rw [← eK]
  clear eK eq
  go_enter Tryz.func20, Tryz.ntmps20
  go_wp2_with fail
  obtain ⟨w1, hw1⟩ : ∃ w1, w1 = w.alloc (.cells #[.int .u8 o, .slice a K cc, .int .i64 c, .int .u8 d.kind, .bool d.bool, .int .i64 d.int, .string d.text] 57) := ⟨_, rfl⟩
  obtain ⟨H, eH⟩ : ∃ H, H = w.heap.size := ⟨_, rfl⟩
  have hb1 : Below w.heap.size w w1 := by rw [hw1]; exact (Below.refl _ _).alloc (Nat.le_refl _) _
  have c1 : w1.cell? ⟨H, 1, none⟩ = some (.slice a K cc) := by rw [hw1, eH]; exact cell_of_heap (heap_alloc_new _ _) rfl
  rw [← hw1, ← eH]
  have HB1 := Lib.hid hb1
  clear hw1 hb1 eH
  go_loopg [1, 5] K (fun g s1 s5 wr => ∃ i m : Nat, i ≤ K ∧ g = K - i ∧ s1 = .int .i64 m ∧ s5 = .int .i64 i ∧ (n + 1 ≤ m ∧ m ≤ 200000000000000000) ∧ Below w1.heap.size w1 wr)
  case atStart => exact ⟨0, n + (1 + q), Nat.zero_le _, by omega, congrArg (Value.int .i64) (by have := EQ.out; omega), rfl, by omega, Below.refl _ _⟩
  case round =>
    obtain ⟨i, m, hi, hgi, rfl, rfl, ⟨h1, h3⟩, hbr⟩ := hrel
    have c1r := cell_keep hbr c1
    by_cases hlt : i < K
    · by_cases hm : m ≤ 300
      · obtain ⟨k, hk⟩ : ∃ k, ks[i]? = some k := ⟨ks[i]'(by rw [← EK.out]; exact hlt), List.getElem?_eq_getElem _⟩
        obtain ⟨b, off, rfl, -, hats⟩ := HKS.out (fun e => by simp only [ET.kids] at e; rw [e] at hk; simp at hk)
        obtain ⟨kv, hkc, hkat⟩ := hats.get hk
        obtain ⟨a', c', rfl⟩ := hkat.slice
        have hbw : Below w.heap.size w wr := HB1.out.trans (hbr.mono HB1.out.size)
        obtain ⟨k0, k1, k2, k3, k4, k5, k6⟩ := hkc.below hbw
        have hct := IH.out k (List.mem_of_getElem? hk) _ m wr (hkat.below hbw) (HF.out k (List.mem_of_getElem? hk)) hm
        unfold ET.agg at hct
        have HCT := Lib.hid hct
        have HBR := Lib.hid hbr
        clear hats hkc hkat hbw hct hbr hk
        go_wp2_with fail
        refine HCT.out.mono ?_
        rintro ev w2 ⟨m2, rfl, ⟨y1, y2⟩, hb2⟩
        have HB2 : Hid (Below w1.heap.size w1 w2) := HBR.out.trans (hb2.mono HBR.out.size)
        clear k0 k1 k2 k3 k4 k5 k6 hb2 HCT
        go_wp2
        go_roundg (K - (i + 1))
        case measure => omega
        case rel => exact ⟨i + 1, m2, by omega, rfl, rfl, by go_num, by omega, HB2.out⟩
      · have HBR := Lib.hid hbr
        clear hbr
        go_wp2
        go_ret
        exact ⟨m, rfl, by omega, HB1.out.trans (HBR.out.mono HB1.out.size)⟩
    · have HBR := Lib.hid hbr
      clear hbr
      go_wp2
      go_ret
      exact ⟨m, rfl, by omega, HB1.out.trans (HBR.out.mono HB1.out.size)⟩
end Go.Proofs.YtlpehdhgdpeoeaaGreatDoor
