/- WholeTime 17, WholeUpdates 18. -/
import Derived.Test.YtpoilgeffpedoaaPc
namespace Go.Proofs.Ytpoilgeffpedoaa
open Go.RowKit Go.Pen
attribute [local go_sem ↓] Go.wp_at_zero Go.wp_at_succ

theorem LentW.frame {w w' : World} {lo g : Nat} {xs : List Int} (h : LentW w lo g xs) (hb : Below w.heap.size w w') : LentW w' lo g xs := Below.ownsRow' hb h
theorem LentR.frame {w w' : World} {lo g : Nat} {xs : List Dat} (h : LentR w lo g xs) (hb : Below w.heap.size w w') : LentR w' lo g xs := Below.ownsRow' hb h

set_option maxRecDepth 100000 in
set_option maxHeartbeats 2000000 in
theorem whole_17 (ep : Int) (lo g : Nat) (a : Option Addr) (c : Nat) (xs : List Int) (w : World) (hx : LentW w lo g xs) (hv : WordsAt w (.slice a xs.length c) xs) (hn : xs.length ≤ 1000000) :
    Calls Try.prog 17 #[.agg #[.int .u64 ep, .slice (some ⟨g, 0, none⟩) xs.length (xs.length + 2)], .agg #[.int .u64 ep, .slice a xs.length c]] w fun e w' => e = .returned (.bool true) ∧ Below w.heap.size w w' := by
  have HX := Lib.hid hx
  have HV := Lib.hid hv
  clear hx hv
  go_enter Try.func17, Try.ntmps17
  go_wp2_with fail
  obtain ⟨w1, hw1⟩ : ∃ w1, w1 = (w.alloc (.cells #[.int .u64 ep, .slice (some ⟨g, 0, none⟩) xs.length (xs.length + 2)] 28)).alloc (.cells #[.int .u64 ep, .slice a xs.length c] 28) := ⟨_, rfl⟩
  have hb : Below w.heap.size w w1 := by rw [hw1]; exact ((Below.refl _ _).alloc (Nat.le_refl _) _).alloc (by simp) _
  rw [← hw1]
  refine (whole_36 lo g _ xs _ (HX.out.frame hb) (HV.out.below hb) hn).mono ?_
  rintro e w2 ⟨rfl, nq, rfl⟩
  have HB := Lib.hid hb
  clear hw1 hb
  go_wp2
  go_ret
  exact ⟨rfl, below_drewN HB.out _⟩

theorem LentUps.below {w w' : World} {lo g : Nat} {us : List Upd} (h : LentUps w lo g us) (hb : Below w.heap.size w w') : LentUps w' lo g us := by
  obtain ⟨xs, h1, h2, h3⟩ := h
  exact ⟨xs, Below.ownsRow' hb h1, h2, fun j u hu => (h3 j u hu).frame fun g cur t hc _ => hb.block g (lt_of_heap hc)⟩

theorem LentUps.cells {w : World} {lo g : Nat} {us : List Upd} (h : LentUps w lo g us) {k : Nat} {u : Upd} (hu : us[k]? = some u) : ∃ rb lb, w.cell? ⟨g, k * 4, none⟩ = some (.slice (some ⟨rb, 0, none⟩) u.row.length (u.row.length + 2)) ∧ w.cell? ⟨g, k * 4 + 1, none⟩ = some (.int .u64 u.epoch) ∧
    w.cell? ⟨g, k * 4 + 2, none⟩ = some (.slice (some ⟨lb, 0, none⟩) u.loops.length (u.loops.length + 2)) ∧ w.cell? ⟨g, k * 4 + 3, none⟩ = some (.int .i64 u.diff) ∧ LentR w lo rb u.row ∧ LentW w lo lb u.loops := by
  obtain ⟨xs, h1, h2, h3⟩ := h
  obtain ⟨rb, lb, a0, a1, a2, a3, hr, hl⟩ := h3 k u hu
  have hc := (ownsRow_heap h1).2.2.2
  have hk := (List.getElem?_eq_some_iff.1 hu).1
  have at' : ∀ j x, j < 4 → xs[4 * k + j]? = some x → w.cell? ⟨g, k * 4 + j, none⟩ = some x := fun j x hj hx => hc _ _ (by rw [List.getElem?_append_left (by omega), show k * 4 + j = 4 * k + j by omega]; exact hx)
  exact ⟨rb, lb, at' 0 _ (by omega) a0, at' 1 _ (by omega) a1, at' 2 _ (by omega) a2, at' 3 _ (by omega) a3, hr, hl⟩

theorem LentUps.tail {w : World} {lo g : Nat} {us : List Upd} (h : LentUps w lo g us) : w.cell? ⟨g, us.length * 4 + 3, none⟩ = some (.int .i64 91) := by
  obtain ⟨xs, h1, h2, h3⟩ := h
  refine (ownsRow_heap h1).2.2.2 _ _ ?_
  rw [List.getElem?_append_right (by omega), show us.length * 4 + 3 - xs.length = 3 by omega]; rfl

set_option maxRecDepth 100000 in
set_option maxHeartbeats 4000000 in
theorem whole_18 (lo g : Nat) (v : Value) (us : List Upd) (w : World) (hx : LentUps w lo g us) (hv : UpsAt w v us) (hn : us.length ≤ 1000000) (hk : ∀ u ∈ us, u.row.length ≤ 1000000 ∧ u.loops.length ≤ 1000000) :
    Calls Try.prog 18 #[.slice (some ⟨g, 0, none⟩) us.length (us.length + 1), v] w fun e w' => e = .returned (.bool true) ∧ Below w.heap.size w w' := by
  have hw1 : IntKind.i64.wrap ((us.length : Int) + 1) = (us.length : Int) + 1 := IntWalk.i64_in _ (by omega)
  have t3 := hx.tail
  obtain ⟨a, c, rfl⟩ := hv.slice
  have HX := Lib.hid hx
  have HV := Lib.hid hv
  have HK := Lib.hid hk
  obtain ⟨n, en⟩ : ∃ n, n = us.length := ⟨_, rfl⟩
  rw [← en] at hn hw1 t3 ⊢
  have EN := Lib.hid en
  clear hx hv hk en
  have b1 : (0 : Int) ≤ (n : Int) := by omega
  go_enter Try.func18, Try.ntmps18
  go_wp2_with fail
  go_loopw [5] (fun i wr => ∃ k : Nat, k ≤ n ∧ i = .int .i64 k ∧ Below w.heap.size w wr) (fun i _ => n - (intOf i).toNat)
  case atStart => exact ⟨0, Nat.zero_le _, rfl, Below.refl _ _⟩
  case round =>
    obtain ⟨k, hkn, rfl, hbw⟩ := hrel
    by_cases hlt : k < n
    · have hne : us ≠ [] := by intro e; have := EN.out; rw [e] at this; simp at this; omega
      obtain ⟨_, _, hv2, -, g2⟩ := HV.out.below hbw
      obtain ⟨b2, o2, e2, g2⟩ := g2 hne
      rw [e2] at hv2
      simp only [Value.slice.injEq] at hv2
      obtain ⟨rfl, z2, z2'⟩ := hv2
      clear z2 z2'
      obtain ⟨u, hu⟩ : ∃ u, us[k]? = some u := ⟨us[k]'(by rw [← EN.out]; exact hlt), List.getElem?_eq_getElem _⟩
      obtain ⟨rb, lb, p0, p1, p2, p3, hr1, hl1⟩ := (HX.out.below hbw).cells hu
      obtain ⟨rv2, lv2, q0, q1, q2, q3, hr2, hl2⟩ := g2 k u hu
      obtain ⟨kr, kl⟩ := HK.out u (List.mem_of_getElem? hu)
      obtain ⟨ra2, rc2, rfl⟩ := hr2.slice
      obtain ⟨la2, lc2, rfl⟩ := hl2.slice
      have HR1 := Lib.hid hr1
      have HR2 := Lib.hid hr2
      have HL1 := Lib.hid hl1
      have HL2 := Lib.hid hl2
      have HBW := Lib.hid hbw
      have hbne : (u.diff != u.diff) = false := by simp
      clear g2 hu hne hr1 hr2 hl1 hl2 hbw t3
      go_wp2
      go_region_held3 (fun w' => w'.cell? ⟨g, k * 4, none⟩ = some (.slice (some ⟨rb, 0, none⟩) u.row.length (u.row.length + 2)) ∧ w'.cell? ⟨g, k * 4 + 1, none⟩ = some (.int .u64 u.epoch) ∧ w'.cell? ⟨g, k * 4 + 2, none⟩ = some (.slice (some ⟨lb, 0, none⟩) u.loops.length (u.loops.length + 2)) ∧ w'.cell? ⟨g, k * 4 + 3, none⟩ = some (.int .i64 u.diff) ∧ w'.cell? ⟨b2, o2 + k * 4, none⟩ = some (.slice ra2 u.row.length rc2) ∧ w'.cell? ⟨b2, o2 + k * 4 + 1, none⟩ = some (.int .u64 u.epoch) ∧ w'.cell? ⟨b2, o2 + k * 4 + 2, none⟩ = some (.slice la2 u.loops.length lc2) ∧ w'.cell? ⟨b2, o2 + k * 4 + 3, none⟩ = some (.int .i64 u.diff))
        (first | with_reducible exact HS5.out | with_reducible exact HS4.out | exact ⟨p0, p1, p2, p3, q0, q1, q2, q3⟩)
        (first | (go_at_call 37; refine (whole_37 lo rb _ u.row _ (by exact HR1.out.frame (drew_below' _ 1)) (by exact HR2.out.below (drew_below' _ 1)) kr).mono ?_; rintro e w4 ⟨rfl, nq4, rfl⟩; have HS4 := Lib.hid (And.intro p0 (And.intro p1 (And.intro p2 (And.intro p3 (And.intro q0 (And.intro q1 (And.intro q2 q3)))))))) | (go_at_call 17; refine (whole_17 u.epoch lo lb la2 lc2 u.loops _ (by exact HL1.out.frame (drew_below' _ _)) (by exact HL2.out.below (drew_below' _ _)) kl).mono ?_; rintro e w5 ⟨rfl, hb5⟩; have HS5 := Lib.hid (And.intro (cell_keep hb5 p0) (And.intro (cell_keep hb5 p1) (And.intro (cell_keep hb5 p2) (And.intro (cell_keep hb5 p3) (And.intro (cell_keep hb5 q0) (And.intro (cell_keep hb5 q1) (And.intro (cell_keep hb5 q2) (cell_keep hb5 q3))))))))))
      have hb5' : Below w.heap.size w w5 := HBW.out.trans ((below_undrewN hb5).mono HBW.out.size)
      have HB5 := Lib.hid hb5'
      clear hb5 hb5'
      go_wp2
      go_roundw
      case rel => exact ⟨k + 1, hlt, by go_num, HB5.out⟩
      case measure => simp [intOf]; omega
    · obtain rfl : k = n := by omega
      go_wp2
      go_ret
      exact ⟨rfl, hbw⟩
end Go.Proofs.Ytpoilgeffpedoaa
