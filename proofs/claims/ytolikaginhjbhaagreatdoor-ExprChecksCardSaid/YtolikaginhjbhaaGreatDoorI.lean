import Derived.Test.YtolikaginhjbhaaGreatDoorH
import Derived.Test.YtolikaginhjbhaaGreatDoorV
import Derived.Test.YtolikaginhjbhaaGreatDoorShelfV
/- datum.Check. -/
namespace Go.Proofs.YtolikaginhjbhaaGreatDoor
open Go.RowKit Go.Pen
attribute [local go_sem] Oper.semAt_some

/-- a datum as a value -/
def Dat.agg (d : Dat) : Value := .agg #[.int .u8 d.kind, .bool d.bool, .int .i64 d.int, .string d.text]

theorem tabs_below {B : Nat} {w w' : World} (h : Lib.Utf8Tabs 1 2 w) (hb : Below B w w') (hB : 3 ≤ B) : Lib.Utf8Tabs 1 2 w' :=
  ⟨fun c hc => (hb.cell (p := ⟨1, c, none⟩) (by show 1 < B; omega)).trans (h.1 c hc), fun i hi => ⟨(hb.cell (p := ⟨2, 2 * i, none⟩) (by show 2 < B; omega)).trans (h.2 i hi).1, (hb.cell (p := ⟨2, 2 * i + 1, none⟩) (by show 2 < B; omega)).trans (h.2 i hi).2⟩⟩

theorem text_nil {t : ByteArray} : t.toList = [] ↔ t.data.toList = [] := by rw [ByteArray.toList_eq]

/-- the number, read off -/
theorem chkD_13 {d : Dat} (h : (d.kind < 1 ∨ 4 < d.kind) ∨ (d.kind ≠ 2 ∧ d.bool = true) ∨ (d.kind ≠ 3 ∧ d.int ≠ 0) ∨ (d.kind ≠ 4 ∧ ¬ d.text.toList = []) ∨ Lib.validD d.text.data.toList = false) : chkD d = 13 := by
  simp only [text_nil] at h
  unfold chkD
  rcases h with h | h | h | h | h
  · rw [if_pos h]
  · split
    · rfl
    · rw [if_pos (.inl h)]
  · split
    · rfl
    · rw [if_pos (.inr (.inl h))]
  · split
    · rfl
    · rw [if_pos (.inr (.inr h))]
  · split
    · rfl
    · split
      · rfl
      · simp

theorem chkD_12 {d : Dat} (h0 : 1 ≤ d.kind ∧ d.kind ≤ 4) (h1 : ¬ (d.kind ≠ 2 ∧ d.bool = true)) (h2 : ¬ (d.kind ≠ 3 ∧ d.int ≠ 0)) (h3 : ¬ (d.kind ≠ 4 ∧ ¬ d.text.toList = [])) (h4 : Lib.validD d.text.data.toList = true) : chkD d = if 1000 < d.text.size then 12 else 0 := by
  simp only [text_nil] at h3
  unfold chkD
  rw [if_neg (by omega), if_neg (by rintro (h | h | h); exact h1 h; exact h2 h; exact h3 h), if_neg (by rw [h4]; decide)]

theorem two_below (w : World) (a b : Obj) : Below w.heap.size w ((w.alloc a).alloc b) := ((Below.refl _ _).alloc (Nat.le_refl _) _).alloc (by simp) _

theorem chkD_b {k : Int} {b : Bool} {n : Int} {t : ByteArray} (hk : k ≠ 2) (h : b = true) : chkD ⟨k, b, n, t⟩ = 13 := chkD_13 (.inr (.inl ⟨hk, h⟩))
theorem chkD_n {k : Int} {b : Bool} {n : Int} {t : ByteArray} (hk : k ≠ 3) (h : ¬ n = 0) : chkD ⟨k, b, n, t⟩ = 13 := chkD_13 (.inr (.inr (.inl ⟨hk, h⟩)))
theorem chkD_t {k : Int} {b : Bool} {n : Int} {t : ByteArray} (hk : k ≠ 4) (h : ¬ t.toList = []) : chkD ⟨k, b, n, t⟩ = 13 := chkD_13 (.inr (.inr (.inr (.inl ⟨hk, h⟩))))
theorem chkD_v {k : Int} {b : Bool} {n : Int} {t : ByteArray} (hv : (!Lib.validD t.data.toList) = true) : chkD ⟨k, b, n, t⟩ = 13 := chkD_13 (.inr (.inr (.inr (.inr (by simpa using hv)))))
theorem chkD_z {k : Int} {b : Bool} {n : Int} {t : ByteArray} (h0 : 1 ≤ k ∧ k ≤ 4) (h1 : k = 2 ∨ ¬ b = true) (h2 : k = 3 ∨ n = 0) (h3 : k = 4 ∨ t.toList = []) (hv : (!Lib.validD t.data.toList) = false) : chkD ⟨k, b, n, t⟩ = if 1000 < t.size then 12 else 0 := by
  refine chkD_12 h0 ?_ ?_ ?_ (by simpa using hv)
  · rintro ⟨g1, g2⟩; rcases h1 with h | h
    · exact g1 h
    · exact h g2
  · rintro ⟨g1, g2⟩; rcases h2 with h | h
    · exact g1 h
    · exact g2 h
  · rintro ⟨g1, g2⟩; rcases h3 with h | h
    · exact g1 h
    · exact g2 h
theorem chkD_z12 {k : Int} {b : Bool} {n : Int} {t : ByteArray} (h0 : 1 ≤ k ∧ k ≤ 4) (h1 : k = 2 ∨ ¬ b = true) (h2 : k = 3 ∨ n = 0) (h3 : k = 4 ∨ t.toList = []) (hv : (!Lib.validD t.data.toList) = false) (hz : (1000 : Int) < (t.size : Int)) : chkD ⟨k, b, n, t⟩ = 12 := (chkD_z h0 h1 h2 h3 hv).trans (if_pos (by omega))
theorem chkD_z0 {k : Int} {b : Bool} {n : Int} {t : ByteArray} (h0 : 1 ≤ k ∧ k ≤ 4) (h1 : k = 2 ∨ ¬ b = true) (h2 : k = 3 ∨ n = 0) (h3 : k = 4 ∨ t.toList = []) (hv : (!Lib.validD t.data.toList) = false) (hz : (t.size : Int) ≤ 1000) : chkD ⟨k, b, n, t⟩ = 0 := (chkD_z h0 h1 h2 h3 hv).trans (if_neg (by omega))

theorem chk_fin {d : Dat} {m c B : Nat} {w W : World} (h : chkD d = m) (h2 : chkD d = c) (h3 : Below B w W) : Ending.returned (.int .u16 (m : Int)) = Ending.returned (.int .u16 (c : Int)) ∧ Below B w W := ⟨by rw [h.symm.trans h2], h3⟩

set_option maxRecDepth 100000 in
set_option maxHeartbeats 1000000 in
theorem check_54 (d : Dat) (w : World) (hf : d.fits) (hT : Lib.Utf8Tabs 1 2 w) (h11 : 3 ≤ w.heap.size) :
    Calls Tryz.prog 54 #[d.agg] w fun e w' => e = .returned (.int .u16 (chkD d)) ∧ Below w.heap.size w w' := by
  obtain ⟨k, b, n, t⟩ := d
  obtain ⟨c, hc⟩ : ∃ c, chkD ⟨k, b, n, t⟩ = c := ⟨_, rfl⟩
  rw [hc]
  have HC := Lib.hid hc
  have HT := Lib.hid hT
  have hk0 := hf.1.1
  have hk1 := hf.1.2
  have hn0 := hf.2.1.1
  have hn1 := hf.2.1.2
  have hts : t.size ≤ 9223372036854775807 := Nat.le_trans hf.2.2 (by decide)
  clear hT hf hc
  simp only at hk0 hk1 hn0 hn1
  have val := fun (W : World) (hb : Below w.heap.size w W) => Tryz.utf8_ValidString t W hts (tabs_below HT.out hb h11)
  have VAL := Lib.hid val
  clear val
  unfold Dat.agg
  simp only
  rcases (show (k = 1 ∨ k = 2 ∨ k = 3 ∨ k = 4) ∨ (k < 1 ∨ 4 < k) by omega) with (rfl | rfl | rfl | rfl) | hbad
  rotate_left 4
  · have q1 : (k == 1) = false := by simp; omega
    have q2 : (k == 2) = false := by simp; omega
    have q3 : (k == 3) = false := by simp; omega
    have q4 : (k == 4) = false := by simp; omega
    have hc : chkD ⟨k, b, n, t⟩ = 13 := chkD_13 (.inl hbad)
    obtain rfl := hc.symm.trans HC.out
    clear hc hbad HC
    go_enter Tryz.func54, Tryz.ntmps54
    go_wp2_with fail
    go_ret
    exact ⟨rfl, two_below _ _ _⟩
  all_goals
    go_enter Tryz.func54, Tryz.ntmps54
    go_wp2_with (go_at_call 96; refine (VAL.out _ (two_below _ _ _)).mono ?_; rintro _ w2 ⟨rfl, hb2⟩; have c3 := (hb2.cell (p := ⟨w.heap.size, 3, none⟩) (by simp; omega)).trans (cell_of_heap ((Below.heap_alloc _ _ _ (by simp)).trans (heap_alloc_new w _)) rfl); have HB := Lib.hid ((two_below w _ _).trans (hb2.mono (by simp; omega))); clear hb2)
    all_goals
      go_ret
      first
        | exact chk_fin (chkD_b (by decide) (by assumption)) HC.out (two_below _ _ _)
        | exact chk_fin (chkD_n (by decide) (by assumption)) HC.out (two_below _ _ _)
        | exact chk_fin (chkD_t (by decide) (by assumption)) HC.out (two_below _ _ _)
        | exact chk_fin (chkD_v (by assumption)) HC.out (HB.out)
        | exact chk_fin (chkD_z12 (by decide) (by first | exact .inl rfl | exact .inr (by assumption)) (by first | exact .inl rfl | exact .inr (by assumption)) (by first | exact .inl rfl | exact .inr (by assumption)) (by assumption) (by assumption)) HC.out (HB.out)
        | exact chk_fin (chkD_z0 (by decide) (by first | exact .inl rfl | exact .inr (by assumption)) (by first | exact .inl rfl | exact .inr (by assumption)) (by first | exact .inl rfl | exact .inr (by assumption)) (by assumption) (by assumption)) HC.out (HB.out)
end Go.Proofs.YtolikaginhjbhaaGreatDoor
