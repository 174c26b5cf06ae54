import Derived.Test.YtolikaginhjbhaaGreatDoorL
/- The reference's within. -/
namespace Go.Proofs.YtolikaginhjbhaaGreatDoor
open Go.RowKit Go.Pen
attribute [local go_sem ↓] Go.wp_at_zero Go.wp_at_succ
attribute [local go_sem] Oper.semAt_some

theorem ET.withins_take {n : Int} {ks : List ET} {i : Nat} {k : ET} (hk : ks[i]? = some k) (h : ET.withins n (ks.take i) = true) (hg : k.within n = true) : ET.withins n (ks.take (i + 1)) = true := by
  rw [ET.withins_iff] at h ⊢
  intro x hx
  rw [List.take_succ_eq_append_getElem (by exact (List.getElem?_eq_some_iff.1 hk).1)] at hx
  rcases List.mem_append.1 hx with hx | hx
  · exact h x hx
  · simp at hx
    rw [(List.getElem?_eq_some_iff.1 hk).2] at hx
    subst hx; exact hg

def WiPost (b : Bool) (w : World) (ev : Ending) (w' : World) : Prop := ev = .returned (.bool b) ∧ Below w.heap.size w w'
theorem wi_mk {b c : Bool} {w w' : World} (h : c = b) (hb : Below w.heap.size w w') : WiPost b w (.returned (.bool c)) w' := ⟨by rw [h], hb⟩
theorem wi_kid {o c n : Int} {d : Dat} {ks : List ET} {k : ET} {i : Nat} (hk : ks[i]? = some k) (h : k.within n = false) : false = (ET.mk o c d ks).within n := by
  cases hw : (ET.mk o c d ks).within n
  · rfl
  · simp only [ET.within, Bool.and_eq_true, ET.withins_iff] at hw
    rw [hw.2 k (List.mem_of_getElem? hk)] at h
    cases h
theorem wi_far {o c n : Int} {d : Dat} {ks : List ET} (h1 : o = 1) (h2 : n ≤ c) : false = (ET.mk o c d ks).within n := by
  simp [ET.within, h1, h2]
theorem wi_all {o c n : Int} {d : Dat} {ks : List ET} (h : ¬ (o = 1 ∧ n ≤ c)) (hk : ET.withins n ks = true) : true = (ET.mk o c d ks).within n := by
  have h2 : (decide (o = 1) && decide (n ≤ c)) = false := by
    rw [Bool.and_eq_false_iff, decide_eq_false_iff_not, decide_eq_false_iff_not]
    by_cases h1 : o = 1
    · exact .inr fun h3 => h ⟨h1, h3⟩
    · exact .inl h1
  simp only [ET.within, hk, h2]
  rfl

set_option maxRecDepth 100000 in
set_option maxHeartbeats 400000 in
theorem within_44 : ∀ (e : ET) (kv : Value) (n : Int) (w : World), e.At w kv → e.fits →
    Calls Tryz.prog 44 #[e.agg kv, .int .i64 n] w (WiPost (e.within n) w) := by
  refine ET.ind fun o c d ks ih kv n w hat hfit => ?_
  obtain ⟨a, cc, rfl, -, hks⟩ := ET.On.iff.1 hat
  simp only [ET.fits] at hfit
  obtain ⟨⟨ho0, ho1⟩, ⟨hc0, hc1⟩, -, hkl, hfs⟩ := hfit
  have HF := Lib.hid (ET.fitss_iff.1 hfs)
  have HKS := Lib.hid hks
  have IH := Lib.hid ih
  obtain ⟨K, eK⟩ : ∃ K, K = ks.length := ⟨_, rfl⟩
  rw [← eK] at hkl
  have EK := Lib.hid eK
  clear hfs hks ih hat
  unfold ET.agg
  simp only [ET.op, ET.col, ET.lit, ET.kids]
  rw [← eK]
  clear eK
  obtain ⟨R, eR⟩ : ∃ R, R = (ET.mk o c d ks).within n := ⟨_, rfl⟩
  rw [← eR]
  have ER := Lib.hid eR
  clear eR
  by_cases hfar : o = 1 ∧ n ≤ c
  · obtain ⟨rfl, h2⟩ := hfar
    obtain rfl : R = false := ER.out.trans (wi_far rfl h2).symm
    go_enter Tryz.func44, Tryz.ntmps44
    go_wp2_with fail
    go_ret
    exact wi_mk rfl (one_below _ _)
  · have HFAR := Lib.hid hfar
    have hno : (o == 1) = false ∨ (o == 1) = true ∧ c < n := by
      by_cases h1 : o = 1
      · exact .inr ⟨by simpa using h1, by omega⟩
      · exact .inl (by simpa using h1)
    clear hfar
    rcases hno with hno | ⟨hno, hlt⟩
    all_goals
      go_enter Tryz.func44, Tryz.ntmps44
      go_wp2_with fail
      obtain ⟨w1, hw1⟩ : ∃ w1, w1 = w.alloc (.cells #[.int .u8 o, .slice a K cc, .int .i64 c, .int .u8 d.kind, .bool d.bool, .int .i64 d.int, .string d.text] 27) := ⟨_, rfl⟩
      have hb1 : Below w.heap.size w w1 := by rw [hw1]; exact one_below _ _
      have c1 : w1.cell? ⟨w.heap.size, 1, none⟩ = some (.slice a K cc) := by rw [hw1]; exact cell_of_heap (heap_alloc_new _ _) rfl
      rw [← hw1]
      have HB1 := Lib.hid hb1
      clear hw1 hb1
      go_loopg [5] K (fun g s5 wr => ∃ i : Nat, i ≤ K ∧ g = K - i ∧ s5 = .int .i64 i ∧ ET.withins n (ks.take i) = true ∧ Below w1.heap.size w1 wr)
      case atStart => exact ⟨0, Nat.zero_le _, rfl, rfl, rfl, Below.refl _ _⟩
      case round =>
        obtain ⟨i, hi, rfl, rfl, hws, hbr⟩ := hrel
        have c1r := cell_keep hbr c1
        have HWS := Lib.hid hws
        clear hws
        by_cases hlt : i < K
        · obtain ⟨k, hk⟩ : ∃ k, ks[i]? = some k := ⟨ks[i]'(by rw [← EK.out]; exact hlt), List.getElem?_eq_getElem _⟩
          obtain ⟨b, off, rfl, -, hats⟩ := HKS.out (fun e => by simp only [ET.kids] at e; rw [e] at hk; simp at hk)
          obtain ⟨kv, hkc, hkat⟩ := hats.get hk
          obtain ⟨a', c', rfl⟩ := hkat.slice
          have hbw : Below w.heap.size w wr := HB1.out.trans (hbr.mono HB1.out.size)
          obtain ⟨k0, k1, k2, k3, k4, k5, k6⟩ := hkc.below hbw
          have hct := IH.out k (List.mem_of_getElem? hk) _ n wr (hkat.below hbw) (HF.out k (List.mem_of_getElem? hk))
          unfold ET.agg at hct
          have HCT := Lib.hid hct
          have HBR := Lib.hid hbr
          have HK := Lib.hid hk
          clear hats hkc hkat hbw hct hbr hk
          go_wp2_with fail
          refine HCT.out.mono ?_
          rintro ev w2 ⟨rfl, hb2⟩
          have HB2 : Hid (Below w1.heap.size w1 w2) := HBR.out.trans (hb2.mono HBR.out.size)
          clear k0 k1 k2 k3 k4 k5 k6 hb2 HCT
          cases hkw : k.within n
          · obtain rfl : R = false := ER.out.trans (wi_kid HK.out hkw).symm
            clear hkw
            go_wp2
            go_ret
            exact wi_mk rfl (HB1.out.trans (HB2.out.mono HB1.out.size))
          · have HKW := Lib.hid hkw
            clear hkw
            go_wp2
            go_roundg (K - (i + 1))
            case measure => omega
            case rel => exact ⟨i + 1, by omega, rfl, by go_num, ET.withins_take HK.out HWS.out HKW.out, HB2.out⟩
        · obtain rfl : i = K := by omega
          have HBR := Lib.hid hbr
          have hwl : ks.take i = ks := List.take_of_length_le (by rw [EK.out]; exact Nat.le_refl _)
          have hws := HWS.out
          rw [hwl] at hws
          obtain rfl : R = true := ER.out.trans (wi_all HFAR.out hws).symm
          clear hws hwl hbr
          go_wp2
          go_ret
          exact wi_mk rfl (HB1.out.trans (HBR.out.mono HB1.out.size))
end Go.Proofs.YtolikaginhjbhaaGreatDoor
