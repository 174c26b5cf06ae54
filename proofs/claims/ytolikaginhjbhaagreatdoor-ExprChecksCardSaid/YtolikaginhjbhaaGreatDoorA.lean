import Derived.Test.YtolikaginhjbhaaGreatDoorMem
import Derived.Lib.Hide
import Derived.Deep.RegionHeld3
import Derived.Deep.DrawnRows
import Derived.Deep.LoopGhost
/- penstockref03.parts: how much there is to look at. -/
namespace Go.Proofs.YtolikaginhjbhaaGreatDoor
open Go.RowKit Go.Pen
attribute [local go_sem ↓] Go.wp_at_zero Go.wp_at_succ

/-- the weight of the first k -/
theorem ET.weights_take : ∀ (ks : List ET) (i : Nat) (k : ET), ks[i]? = some k → ET.weights (ks.take (i + 1)) = ET.weights (ks.take i) + k.weight
  | [], i, k, h => by simp at h
  | x :: ks, 0, k, h => by simp at h; subst h; simp [ET.weights]
  | x :: ks, i + 1, k, h => by
    have := ET.weights_take ks i k (by simpa using h)
    simp only [List.take_succ_cons, ET.weights]
    rw [this]; omega

theorem ET.weights_le : ∀ (ks : List ET) (i : Nat), ET.weights (ks.take i) ≤ ET.weights ks
  | [], i => by simp [ET.weights]
  | x :: ks, 0 => by simp [ET.weights]
  | x :: ks, i + 1 => by
    have := ET.weights_le ks i
    simp only [List.take_succ_cons, ET.weights]; omega

set_option maxRecDepth 100000 in
set_option maxHeartbeats 400000 in
theorem parts_39 : ∀ (e : ET) (kv : Value) (n : Nat) (w : World), e.At w kv → e.fits → n ≤ 12000 →
    Calls Tryz.prog 39 #[e.agg kv, .int .i64 n] w fun ev w' => ∃ m : Nat, ev = .returned (.int .i64 m) ∧ ((n + e.weight ≤ 12000 → m = n + e.weight) ∧ (12000 < n + e.weight → 12000 < m) ∧ m ≤ 200000000000000000) ∧ Below w.heap.size w w' := by
  refine ET.ind fun o c d ks ih kv n w hat hfit hn => ?_
  obtain ⟨a, cc, rfl, -, hks⟩ := ET.On.iff.1 hat
  simp only [ET.fits, Dat.fits] at hfit
  obtain ⟨-, -, ⟨-, -, ht⟩, hkl, hfs⟩ := hfit
  have HF := Lib.hid (ET.fitss_iff.1 hfs)
  have HKS := Lib.hid hks
  have IH := Lib.hid ih
  obtain ⟨K, eK⟩ : ∃ K, K = ks.length := ⟨_, rfl⟩
  rw [← eK] at hkl
  obtain ⟨q, eq⟩ : ∃ q, q = d.text.size / 64 := ⟨_, rfl⟩
  have hq2 : q ≤ 3000000000000 := by omega
  have EK := Lib.hid eK
  have EQ := Lib.hid eq
  clear hfs hks ih hat
  unfold ET.agg
  simp only [ET.op, ET.col, ET.lit, ET.kids]
  rw [← eK]
  clear eK eq
  go_enter Tryz.func39, Tryz.ntmps39
  go_wp2_with fail
  obtain ⟨w1, hw1⟩ : ∃ w1, w1 = w.alloc (.cells #[.int .u8 o, .slice a K cc, .int .i64 c, .int .u8 d.kind, .bool d.bool, .int .i64 d.int, .string d.text] 27) := ⟨_, rfl⟩
  obtain ⟨H, eH⟩ : ∃ H, H = w.heap.size := ⟨_, rfl⟩
  have hb1 : Below w.heap.size w w1 := by rw [hw1]; exact (Below.refl _ _).alloc (Nat.le_refl _) _
  have c1 : w1.cell? ⟨H, 1, none⟩ = some (.slice a K cc) := by rw [hw1, eH]; exact cell_of_heap (heap_alloc_new _ _) rfl
  rw [← hw1, ← eH]
  have HB1 := Lib.hid hb1
  clear hw1 hb1 eH
  go_loopg [1, 5] K (fun g s1 s5 wr => ∃ i m : Nat, i ≤ K ∧ g = K - i ∧ s1 = .int .i64 m ∧ s5 = .int .i64 i ∧ ((n + 1 + q + ET.weights (ks.take i) ≤ 12000 → m = n + 1 + q + ET.weights (ks.take i)) ∧ (12000 < n + 1 + q + ET.weights (ks.take i) → 12000 < m) ∧ m ≤ 200000000000000000) ∧ Below w1.heap.size w1 wr)
  case atStart => exact ⟨0, n + (1 + q), Nat.zero_le _, by omega, congrArg (Value.int .i64) (by have := EQ.out; omega), rfl, ⟨fun _ => by simp [ET.weights]; omega, fun h => by simp [ET.weights] at h; omega, by omega⟩, Below.refl _ _⟩
  case round =>
    obtain ⟨i, m, hi, rfl, rfl, rfl, ⟨h1, h2, h3⟩, hbr⟩ := hrel
    have c1r := cell_keep hbr c1
    by_cases hlt : i < K
    · by_cases hm : m ≤ 12000
      · obtain ⟨k, hk⟩ : ∃ k, ks[i]? = some k := ⟨ks[i]'(by rw [← EK.out]; exact hlt), List.getElem?_eq_getElem _⟩
        obtain ⟨b, off, rfl, -, hats⟩ := HKS.out (fun e => by simp only [ET.kids] at e; rw [e] at hk; simp at hk)
        obtain ⟨kv, hkc, hkat⟩ := hats.get hk
        obtain ⟨a', c', rfl⟩ := hkat.slice
        have hbw : Below w.heap.size w wr := HB1.out.trans (hbr.mono HB1.out.size)
        obtain ⟨k0, k1, k2, k3, k4, k5, k6⟩ := hkc.below hbw
        have hct := IH.out k (List.mem_of_getElem? hk) _ m wr (hkat.below hbw) (HF.out k (List.mem_of_getElem? hk)) hm
        unfold ET.agg at hct
        have HCT := Lib.hid hct
        have HBR := Lib.hid hbr
        have HK := Lib.hid hk
        have H1 := Lib.hid h1
        have H2 := Lib.hid h2
        clear hats hkc hkat hbw hct hbr hk h1 h2
        go_wp2_with fail
        refine HCT.out.mono ?_
        rintro ev w2 ⟨m2, rfl, ⟨y1, y2, y3⟩, hb2⟩
        have HB2 : Hid (Below w1.heap.size w1 w2) := HBR.out.trans (hb2.mono HBR.out.size)
        have hwt := ET.weights_take ks i k HK.out
        clear k0 k1 k2 k3 k4 k5 k6 hb2 HCT
        go_wp2
        go_roundg (K - (i + 1))
        case measure => omega
        case rel =>
          have q1 := H1.out
          have q2 := H2.out
          exact ⟨i + 1, m2, by omega, rfl, rfl, by go_num, ⟨fun h => by rw [hwt] at h ⊢; omega, fun h => by rw [hwt] at h; omega, y3⟩, HB2.out⟩
      · have HBR := Lib.hid hbr
        have hwl := ET.weights_le ks i
        clear hbr
        go_wp2
        go_ret
        refine ⟨m, rfl, ⟨fun h => ?_, fun _ => by omega, h3⟩, HB1.out.trans (HBR.out.mono HB1.out.size)⟩
        simp only [ET.weight] at h
        have := EQ.out
        omega
    · obtain rfl : i = K := by omega
      have HBR := Lib.hid hbr
      have hwl : ks.take i = ks := List.take_of_length_le (by rw [EK.out]; exact Nat.le_refl _)
      rw [hwl] at h1 h2
      clear hbr
      go_wp2
      go_ret
      exact ⟨m, rfl, ⟨fun h => by have := EQ.out; simp only [ET.weight] at h ⊢; omega, fun h => by have := EQ.out; simp only [ET.weight] at h; omega, h3⟩, HB1.out.trans (HBR.out.mono HB1.out.size)⟩
end Go.Proofs.YtolikaginhjbhaaGreatDoor
