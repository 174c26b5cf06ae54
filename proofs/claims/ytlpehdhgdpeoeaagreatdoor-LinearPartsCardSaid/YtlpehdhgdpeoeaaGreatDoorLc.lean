import Derived.Test.YtlpehdhgdpeoeaaGreatDoorLa
import Derived.Test.YtlpehdhgdpeoeaaGreatDoorGc
import Derived.Deep.RegionHeld3
import Derived.Deep.AppendLies
/- Updates in memory; whether they are the same. -/
namespace Go.Proofs.YtlpehdhgdpeoeaaGreatDoor
open Go.RowKit Go.Pen
attribute [local go_sem ↓] Go.wp_at_zero Go.wp_at_succ

/-- what a slice of words reads as -/
def WordsAt (w : World) (v : Value) (xs : List Int) : Prop :=
  ∃ a c, v = .slice a xs.length c ∧ (a = none → c = 0) ∧ (xs ≠ [] → ∃ b o, a = some ⟨b, o, none⟩ ∧ ∀ i x, xs[i]? = some x → w.cell? ⟨b, o + i, none⟩ = some (.int .u32 x))
/-- four cells that hold an update -/
def UpCells (w : World) (b o : Nat) (u : Upd) : Prop :=
  ∃ rv lv, w.cell? ⟨b, o, none⟩ = some rv ∧ w.cell? ⟨b, o + 1, none⟩ = some (.int .u64 u.epoch) ∧ w.cell? ⟨b, o + 2, none⟩ = some lv ∧ w.cell? ⟨b, o + 3, none⟩ = some (.int .i64 u.diff) ∧ RowAt w rv u.row ∧ WordsAt w lv u.loops
/-- what a slice of updates reads as -/
def UpsAt (w : World) (v : Value) (us : List Upd) : Prop :=
  ∃ a c, v = .slice a us.length c ∧ (a = none → c = 0) ∧ (us ≠ [] → ∃ b o, a = some ⟨b, o, none⟩ ∧ ∀ i u, us[i]? = some u → UpCells w b (o + i * 4) u)
/-- values that hold updates, four each -/
structure Els (w : World) (xs : List Value) (us : List Upd) : Prop where
  len : xs.length = us.length * 4
  el : ∀ i u, us[i]? = some u → ∃ rv lv, xs[i * 4]? = some rv ∧ xs[i * 4 + 1]? = some (.int .u64 u.epoch) ∧ xs[i * 4 + 2]? = some lv ∧ xs[i * 4 + 3]? = some (.int .i64 u.diff) ∧ RowAt w rv u.row ∧ WordsAt w lv u.loops
/-- an update as a value -/
def upV (rv lv : Value) (u : Upd) : Array Value := #[rv, .int .u64 u.epoch, lv, .int .i64 u.diff]

theorem WordsAt.below {w w' : World} {v : Value} {xs : List Int} (h : WordsAt w v xs) (hb : Below w.heap.size w w') : WordsAt w' v xs := by
  obtain ⟨a, c, rfl, hz, h⟩ := h
  refine ⟨a, c, rfl, hz, fun hne => ?_⟩
  obtain ⟨b, o, rfl, g⟩ := h hne
  exact ⟨b, o, rfl, fun i x hx => cell_keep hb (g i x hx)⟩
theorem UpCells.below {w w' : World} {b o : Nat} {u : Upd} (h : UpCells w b o u) (hb : Below w.heap.size w w') : UpCells w' b o u := by
  obtain ⟨rv, lv, q0, q1, q2, q3, hr, hl⟩ := h
  exact ⟨rv, lv, cell_keep hb q0, cell_keep hb q1, cell_keep hb q2, cell_keep hb q3, hr.below hb, hl.below hb⟩
theorem UpsAt.below {w w' : World} {v : Value} {us : List Upd} (h : UpsAt w v us) (hb : Below w.heap.size w w') : UpsAt w' v us := by
  obtain ⟨a, c, rfl, hz, h⟩ := h
  refine ⟨a, c, rfl, hz, fun hne => ?_⟩
  obtain ⟨b, o, rfl, g⟩ := h hne
  exact ⟨b, o, rfl, fun i x hx => (g i x hx).below hb⟩
theorem Els.below {w w' : World} {xs : List Value} {us : List Upd} (h : Els w xs us) (hb : Below w.heap.size w w') : Els w' xs us := ⟨h.len, fun i u hu => by
  obtain ⟨rv, lv, q0, q1, q2, q3, hr, hl⟩ := h.el i u hu
  exact ⟨rv, lv, q0, q1, q2, q3, hr.below hb, hl.below hb⟩⟩
theorem WordsAt.slice {w : World} {v : Value} {xs : List Int} (h : WordsAt w v xs) : ∃ a c, v = .slice a xs.length c := by obtain ⟨a, c, rfl, _⟩ := h; exact ⟨a, c, rfl⟩
theorem rowAt_slice {w : World} {v : Value} {xs : List Dat} (h : RowAt w v xs) : ∃ a c, v = .slice a xs.length c := by obtain ⟨a, c, rfl, _⟩ := h; exact ⟨a, c, rfl⟩
theorem UpsAt.slice {w : World} {v : Value} {xs : List Upd} (h : UpsAt w v xs) : ∃ a c, v = .slice a xs.length c := by obtain ⟨a, c, rfl, _⟩ := h; exact ⟨a, c, rfl⟩
theorem UpsAt.nil {w : World} : UpsAt w (.slice none 0 0) [] := ⟨none, 0, rfl, fun _ => rfl, fun h => absurd rfl h⟩
theorem Els.nil {w : World} : Els w [] [] := ⟨rfl, fun i u h => by simp at h⟩
theorem Els.one {w : World} {rv lv : Value} {u : Upd} (hr : RowAt w rv u.row) (hl : WordsAt w lv u.loops) : Els w [rv, .int .u64 u.epoch, lv, .int .i64 u.diff] [u] := ⟨rfl, fun i x hx => by
  rcases i with _ | i
  · cases hx; exact ⟨rv, lv, rfl, rfl, rfl, rfl, hr, hl⟩
  · simp at hx⟩
theorem Els.append {w : World} {xs ys : List Value} {us vs : List Upd} (h : Els w xs us) (k : Els w ys vs) : Els w (xs ++ ys) (us ++ vs) := ⟨by rw [List.length_append, List.length_append, h.len, k.len]; omega, fun i u hu => by
  have hl := h.len
  by_cases hi : i < us.length
  · rw [List.getElem?_append_left hi] at hu
    obtain ⟨rv, lv, q0, q1, q2, q3, hr⟩ := h.el i u hu
    refine ⟨rv, lv, ?_, ?_, ?_, ?_, hr⟩ <;> rw [List.getElem?_append_left (by omega)] <;> assumption
  · rw [List.getElem?_append_right (by omega)] at hu
    obtain ⟨rv, lv, q0, q1, q2, q3, hr⟩ := k.el _ u hu
    refine ⟨rv, lv, ?_, ?_, ?_, ?_, hr⟩ <;> rw [List.getElem?_append_right (by omega)]
    · rw [show i * 4 - xs.length = (i - us.length) * 4 by omega]; exact q0
    · rw [show i * 4 + 1 - xs.length = (i - us.length) * 4 + 1 by omega]; exact q1
    · rw [show i * 4 + 2 - xs.length = (i - us.length) * 4 + 2 by omega]; exact q2
    · rw [show i * 4 + 3 - xs.length = (i - us.length) * 4 + 3 by omega]; exact q3⟩
theorem Els.take {w : World} {xs : List Value} {us : List Upd} (h : Els w xs us) {k : Nat} (hk : k ≤ us.length) : Els w (xs.take (k * 4)) (us.take k) := ⟨by have := h.len; rw [List.length_take, List.length_take]; omega, fun i u hu => by
  rw [List.getElem?_take] at hu
  split at hu
  · next hi =>
    obtain ⟨rv, lv, q0, q1, q2, q3, hr⟩ := h.el i u hu
    refine ⟨rv, lv, ?_, ?_, ?_, ?_, hr⟩ <;> rw [List.getElem?_take_of_lt (by omega)] <;> assumption
  · cases hu⟩
theorem Els.drop {w : World} {xs : List Value} {us : List Upd} (h : Els w xs us) (k : Nat) : Els w (xs.drop (k * 4)) (us.drop k) := ⟨by have := h.len; rw [List.length_drop, List.length_drop]; omega, fun i u hu => by
  rw [List.getElem?_drop] at hu
  obtain ⟨rv, lv, q0, q1, q2, q3, hr⟩ := h.el (k + i) u hu
  refine ⟨rv, lv, ?_, ?_, ?_, ?_, hr⟩ <;> rw [List.getElem?_drop]
  · rw [show k * 4 + i * 4 = (k + i) * 4 by omega]; exact q0
  · rw [show k * 4 + (i * 4 + 1) = (k + i) * 4 + 1 by omega]; exact q1
  · rw [show k * 4 + (i * 4 + 2) = (k + i) * 4 + 2 by omega]; exact q2
  · rw [show k * 4 + (i * 4 + 3) = (k + i) * 4 + 3 by omega]; exact q3⟩
theorem Els.set {w : World} {xs : List Value} {us : List Upd} (h : Els w xs us) {k : Nat} {u : Upd} (hu : us[k]? = some u) (n : Int) : Els w (xs.set (k * 4 + 3) (.int .i64 n)) (us.set k { u with diff := n }) := ⟨by rw [List.length_set, List.length_set]; exact h.len, fun i x hx => by
  have hl := h.len
  have hk := (List.getElem?_eq_some_iff.1 hu).1
  by_cases e : k = i
  · subst e
    rw [List.getElem?_set_self hk] at hx
    cases hx
    obtain ⟨rv, lv, q0, q1, q2, q3, hr⟩ := h.el k u hu
    refine ⟨rv, lv, ?_, ?_, ?_, ?_, hr⟩
    · rw [List.getElem?_set_ne (by omega)]; exact q0
    · rw [List.getElem?_set_ne (by omega)]; exact q1
    · rw [List.getElem?_set_ne (by omega)]; exact q2
    · rw [List.getElem?_set_self (by omega)]
  · rw [List.getElem?_set_ne e] at hx
    obtain ⟨rv, lv, q0, q1, q2, q3, hr⟩ := h.el i x hx
    refine ⟨rv, lv, ?_, ?_, ?_, ?_, hr⟩ <;> rw [List.getElem?_set_ne (by omega)] <;> assumption⟩
/-- what is read, as values -/
theorem UpsAt.els {w : World} {v : Value} {us : List Upd} (h : UpsAt w v us) : ∃ a c xs, v = .slice a us.length c ∧ Els w xs us ∧ (∀ ad, a = some ad → ∀ j x, xs[j]? = some x → w.cell? (ad.add j) = some x) ∧ (a = none → c = 0 ∧ us = []) := by
  obtain ⟨a, c, rfl, hz, h⟩ := h
  by_cases hne : us = []
  · subst hne
    exact ⟨a, c, [], rfl, Els.nil, fun ad _ j x hx => by simp at hx, fun e => ⟨hz e, rfl⟩⟩
  · obtain ⟨b, o, rfl, g⟩ := h hne
    have hcell : ∀ j, j < us.length * 4 → ∃ x, w.cell? ⟨b, o + j, none⟩ = some x := fun j hj => by
      have hi : j / 4 < us.length := by omega
      obtain ⟨rv, lv, q0, q1, q2, q3, -⟩ := g (j / 4) us[j / 4] (List.getElem?_eq_getElem hi)
      have : j % 4 = 0 ∨ j % 4 = 1 ∨ j % 4 = 2 ∨ j % 4 = 3 := by omega
      rcases this with e | e | e | e
      · exact ⟨_, by rw [show o + j = o + j / 4 * 4 by omega]; exact q0⟩
      · exact ⟨_, by rw [show o + j = o + j / 4 * 4 + 1 by omega]; exact q1⟩
      · exact ⟨_, by rw [show o + j = o + j / 4 * 4 + 2 by omega]; exact q2⟩
      · exact ⟨_, by rw [show o + j = o + j / 4 * 4 + 3 by omega]; exact q3⟩
    have hget : ∀ j x, j < us.length * 4 → w.cell? ⟨b, o + j, none⟩ = some x → ((List.range (us.length * 4)).map fun j => (w.cell? ⟨b, o + j, none⟩).getD undef)[j]? = some x := fun j x hj hx => by
      rw [List.getElem?_map, List.getElem?_range hj]
      simp [hx]
    refine ⟨_, c, (List.range (us.length * 4)).map fun j => (w.cell? ⟨b, o + j, none⟩).getD undef, rfl, ⟨by simp, fun i u hu => ?_⟩, fun ad e j x hx => ?_, fun e => by cases e⟩
    · have hi := (List.getElem?_eq_some_iff.1 hu).1
      obtain ⟨rv, lv, q0, q1, q2, q3, hr, hl⟩ := g i u hu
      exact ⟨rv, lv, hget _ _ (by omega) q0, hget _ _ (by omega) q1, hget _ _ (by omega) q2, hget _ _ (by omega) q3, hr, hl⟩
    · cases e
      have hj := (List.getElem?_eq_some_iff.1 hx).1
      simp at hj
      obtain ⟨y, hy⟩ := hcell j hj
      rw [hget j y hj hy] at hx
      cases hx
      rw [add_lit]
      exact hy
theorem Els.at {w : World} {base n : Nat} {v : Value} {xs : List Value} {us : List Upd} (h : Els w xs us) (ho : w.ownsRow base 51 4 v n xs) : n = us.length ∧ UpsAt w v us := by
  have hl := h.len
  have hn := ho.1
  obtain rfl : n = us.length := by omega
  obtain ⟨a, c, rfl⟩ := ownsRow_slice ho
  refine ⟨rfl, a, c, rfl, owns_nil ho, fun hne => ?_⟩
  obtain ⟨g, cap, hv, _, _⟩ := ho.form (List.length_pos_iff.2 hne)
  simp only [Value.slice.injEq] at hv
  obtain ⟨rfl, _, rfl⟩ := hv
  refine ⟨g, 0, rfl, fun i u hu => ?_⟩
  have hc := (ownsRow_heap ho).2.2.2
  obtain ⟨rv, lv, q0, q1, q2, q3, hr, hw⟩ := h.el i u hu
  rw [Nat.zero_add]
  exact ⟨rv, lv, hc _ _ q0, hc _ _ q1, hc _ _ q2, hc _ _ q3, hr, hw⟩

set_option maxRecDepth 100000 in
set_option maxHeartbeats 1000000 in
theorem sameWords_48 (v1 v2 : Value) (xs : List Int) (w : World) (h1 : WordsAt w v1 xs) (h2 : WordsAt w v2 xs) (hn : xs.length ≤ 1073741824) :
    Calls Tryz.prog 48 #[v1, v2] w fun e w' => e = .returned (.bool true) ∧ ∃ k, w' = w.drewN k := by
  obtain ⟨a1, c1, rfl, -, h1⟩ := h1
  obtain ⟨a2, c2, rfl, -, h2⟩ := h2
  obtain ⟨n, en⟩ : ∃ n, n = xs.length := ⟨_, rfl⟩
  rw [← en] at hn ⊢
  have H1 := Lib.hid h1
  have H2 := Lib.hid h2
  have EN := Lib.hid en
  clear h1 h2 en
  go_enter Tryz.func48, Tryz.ntmps48
  go_wp2
  go_loopw [5] (fun i wr => ∃ k : Nat, k ≤ n ∧ i = .int .i64 k ∧ ∃ q, wr = w.drewN q) (fun i _ => n - (intOf i).toNat)
  case atStart => exact ⟨0, Nat.zero_le _, rfl, 0, rfl⟩
  case round =>
    obtain ⟨k, hk, rfl, q, rfl⟩ := hrel
    by_cases hlt : k < n
    · have hne : xs ≠ [] := by intro e; rw [EN.out, e] at hlt; simp at hlt
      obtain ⟨b1, o1, rfl, g1⟩ := H1.out hne
      obtain ⟨b2, o2, rfl, g2⟩ := H2.out hne
      obtain ⟨x, hx⟩ : ∃ x, xs[k]? = some x := ⟨xs[k]'(by rw [← EN.out]; exact hlt), List.getElem?_eq_getElem _⟩
      have e1 := g1 k x hx
      have e2 := g2 k x hx
      have hb : (x != x) = false := by simp
      clear g1 g2 hx hne
      go_wp2
      go_quiet (fail)
      go_wp2
      go_roundw
      case rel => exact ⟨k + 1, hlt, by go_num, _, rfl⟩
      case measure => simp [intOf]; omega
    · go_wp2
      go_ret
      exact ⟨rfl, _, rfl⟩

theorem drew_below' (w : World) (n : Nat) : Below w.heap.size w (w.drewN n) := Go.Pen.below_drewN (Below.refl _ _)

set_option maxRecDepth 100000 in
set_option maxHeartbeats 1000000 in
theorem sameTime_27 (e : Int) (a1 a2 : Option Addr) (c1 c2 : Nat) (xs : List Int) (w : World) (h1 : WordsAt w (.slice a1 xs.length c1) xs) (h2 : WordsAt w (.slice a2 xs.length c2) xs) (hn : xs.length ≤ 1073741824) :
    Calls Tryz.prog 27 #[.agg #[.int .u64 e, .slice a1 xs.length c1], .agg #[.int .u64 e, .slice a2 xs.length c2]] w fun e w' => e = .returned (.bool true) ∧ Below w.heap.size w w' := by
  have H1 := Lib.hid h1
  have H2 := Lib.hid h2
  clear h1 h2
  go_enter Tryz.func27, Tryz.ntmps27
  go_wp2_with fail
  obtain ⟨w1, hw1⟩ : ∃ w1, w1 = (w.alloc (.cells #[.int .u64 e, .slice a1 xs.length c1] 46)).alloc (.cells #[.int .u64 e, .slice a2 xs.length c2] 46) := ⟨_, rfl⟩
  have hb : Below w.heap.size w w1 := by rw [hw1]; exact ((Below.refl _ _).alloc (Nat.le_refl _) _).alloc (by simp) _
  rw [← hw1]
  refine (sameWords_48 _ _ xs _ (H1.out.below hb) (H2.out.below hb) hn).mono ?_
  rintro e w2 ⟨rfl, nq, rfl⟩
  have HB := Lib.hid hb
  clear hw1 hb
  go_wp2
  go_ret
  exact ⟨rfl, Go.Pen.below_drewN HB.out⟩
set_option maxRecDepth 100000 in
set_option maxHeartbeats 2000000 in
theorem sameUpdates_10 (v1 v2 : Value) (us : List Upd) (w : World) (h1 : UpsAt w v1 us) (h2 : UpsAt w v2 us) (hn : us.length ≤ 1073741824) (hk : ∀ u ∈ us, u.row.length ≤ 1073741824 ∧ u.loops.length ≤ 1073741824) :
    Calls Tryz.prog 10 #[v1, v2] w fun e w' => e = .returned (.bool true) ∧ Below w.heap.size w w' := by
  have H1 := Lib.hid h1
  have H2 := Lib.hid h2
  obtain ⟨a1, c1, rfl⟩ := h1.slice
  obtain ⟨a2, c2, rfl⟩ := h2.slice
  obtain ⟨n, en⟩ : ∃ n, n = us.length := ⟨_, rfl⟩
  rw [← en] at hn
  have HK := Lib.hid hk
  have EN := Lib.hid en
  clear h1 h2 hk
  rw [← en] at H1 H2 ⊢
  clear en
  go_enter Tryz.func10, Tryz.ntmps10
  go_wp2
  go_loopw [5] (fun i wr => ∃ k : Nat, k ≤ n ∧ i = .int .i64 k ∧ Below w.heap.size w wr) (fun i _ => n - (intOf i).toNat)
  case atStart => exact ⟨0, Nat.zero_le _, rfl, Below.refl _ _⟩
  case round =>
    obtain ⟨k, hkn, rfl, hbw⟩ := hrel
    by_cases hlt : k < n
    · have hne : us ≠ [] := by intro e; have := EN.out; rw [e] at this; simp at this; omega
      obtain ⟨_, _, hv1, -, g1⟩ := H1.out.below hbw
      obtain ⟨_, _, hv2, -, g2⟩ := H2.out.below hbw
      obtain ⟨b1, o1, e1, g1⟩ := g1 hne
      obtain ⟨b2, o2, e2, g2⟩ := g2 hne
      rw [e1] at hv1
      rw [e2] at hv2
      simp only [Value.slice.injEq] at hv1 hv2
      obtain ⟨rfl, z1, z1'⟩ := hv1
      obtain ⟨rfl, z2, z2'⟩ := hv2
      clear z1 z1' z2 z2'
      obtain ⟨u, hu⟩ : ∃ u, us[k]? = some u := ⟨us[k]'(by rw [← EN.out]; exact hlt), List.getElem?_eq_getElem _⟩
      obtain ⟨rv1, lv1, p0, p1, p2, p3, hr1, hl1⟩ := g1 k u hu
      obtain ⟨rv2, lv2, q0, q1, q2, q3, hr2, hl2⟩ := g2 k u hu
      obtain ⟨kr, kl⟩ := HK.out u (List.mem_of_getElem? hu)
      obtain ⟨ra1, rc1, rfl⟩ := hr1.slice
      obtain ⟨ra2, rc2, rfl⟩ := hr2.slice
      obtain ⟨la1, lc1, rfl⟩ := hl1.slice
      obtain ⟨la2, lc2, rfl⟩ := hl2.slice
      have HR1 := Lib.hid hr1
      have HR2 := Lib.hid hr2
      have HL1 := Lib.hid hl1
      have HL2 := Lib.hid hl2
      have HBW := Lib.hid hbw
      have hbne : (u.diff != u.diff) = false := by simp
      clear g1 g2 hu hne hr1 hr2 hl1 hl2 hbw
      go_wp2
      go_region_held3 (fun w' => w'.cell? ⟨b1, o1 + k * 4, none⟩ = some (.slice ra1 u.row.length rc1) ∧ w'.cell? ⟨b1, o1 + k * 4 + 1, none⟩ = some (.int .u64 u.epoch) ∧ w'.cell? ⟨b1, o1 + k * 4 + 2, none⟩ = some (.slice la1 u.loops.length lc1) ∧ w'.cell? ⟨b1, o1 + k * 4 + 3, none⟩ = some (.int .i64 u.diff) ∧ w'.cell? ⟨b2, o2 + k * 4, none⟩ = some (.slice ra2 u.row.length rc2) ∧ w'.cell? ⟨b2, o2 + k * 4 + 1, none⟩ = some (.int .u64 u.epoch) ∧ w'.cell? ⟨b2, o2 + k * 4 + 2, none⟩ = some (.slice la2 u.loops.length lc2) ∧ w'.cell? ⟨b2, o2 + k * 4 + 3, none⟩ = some (.int .i64 u.diff))
        (first | with_reducible exact HS5.out | with_reducible exact HS4.out | exact ⟨p0, p1, p2, p3, q0, q1, q2, q3⟩)
        (first | (go_at_call 26; refine (same_49 _ _ u.row _ (by exact HR1.out.below (drew_below' _ 1)) (by exact HR2.out.below (drew_below' _ 1)) kr).mono ?_; rintro e w4 ⟨rfl, nq4, rfl⟩; have HS4 := Lib.hid (And.intro p0 (And.intro p1 (And.intro p2 (And.intro p3 (And.intro q0 (And.intro q1 (And.intro q2 q3)))))))) | (go_at_call 27; refine (sameTime_27 u.epoch la1 la2 lc1 lc2 u.loops _ (by exact HL1.out.below (drew_below' _ _)) (by exact HL2.out.below (drew_below' _ _)) kl).mono ?_; rintro e w5 ⟨rfl, hb5⟩; have HS5 := Lib.hid (And.intro (cell_keep hb5 p0) (And.intro (cell_keep hb5 p1) (And.intro (cell_keep hb5 p2) (And.intro (cell_keep hb5 p3) (And.intro (cell_keep hb5 q0) (And.intro (cell_keep hb5 q1) (And.intro (cell_keep hb5 q2) (cell_keep hb5 q3))))))))))
      have hb5' : Below w.heap.size w w5 := HBW.out.trans ((below_undrewN hb5).mono HBW.out.size)
      have HB5 := Lib.hid hb5'
      clear hb5 hb5'
      go_wp2
      go_roundw
      case rel => exact ⟨k + 1, hlt, by go_num, HB5.out⟩
      case measure => simp [intOf]; omega
    · go_wp2
      go_ret
      exact ⟨rfl, hbw⟩

end Go.Proofs.YtlpehdhgdpeoeaaGreatDoor
