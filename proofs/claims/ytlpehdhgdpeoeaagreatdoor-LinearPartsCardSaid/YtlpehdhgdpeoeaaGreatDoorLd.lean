import Derived.Test.YtlpehdhgdpeoeaaGreatDoorLc
import Derived.Test.YtlpehdhgdpeoeaaGreatDoorUc
/- The references' orders of data, rows, times, updates. -/
namespace Go.Proofs.YtlpehdhgdpeoeaaGreatDoor
open Go.RowKit Go.Pen Go.Shelf
attribute [local go_sem] Oper.semAt_some

set_option maxRecDepth 100000 in
set_option maxHeartbeats 2000000 in
theorem sign_108 (l s : Bool) (w : World) : Calls Tryz.prog 108 #[.bool l, .bool s] w fun ev w' => ev = .returned (.int .i64 (if l = true then -1 else if s = true then 0 else 1)) ∧ w' = w := by
  cases l <;> cases s
  all_goals
    go_enter Tryz.func108, Tryz.ntmps108
    go_wp2
    go_ret
    exact ⟨rfl, rfl⟩

set_option maxRecDepth 100000 in
set_option maxHeartbeats 2000000 in
theorem rcmp_88 (a b : Dat) (w : World) (hk : a.kind = b.kind) : Calls Tryz.prog 88 #[a.agg, b.agg] w fun ev w' => ev = .returned (.int .i64 (cmpD a b)) ∧ Below w.heap.size w w' := by
  obtain ⟨c, hc⟩ : ∃ c, cmpD a b = c := ⟨_, rfl⟩
  rw [hc]
  unfold cmpD at hc
  unfold Dat.agg
  have qk : (a.kind != b.kind) = false := by simp [hk]
  by_cases h2 : a.kind = 2
  · rw [if_pos h2] at hc
    have q2 : (a.kind == 2) = true := by simp [h2]
    clear h2 hk
    generalize a.bool = x at *
    generalize b.bool = y at *
    cases x <;> cases y
    all_goals
      subst hc
      go_enter Tryz.func88, Tryz.ntmps88
      go_wp2_with (go_at_call 108; refine (sign_108 _ _ _).mono ?_; rintro ev w5 ⟨rfl, rfl⟩)
      go_ret
      exact ⟨rfl, two_below _ _ _⟩
  · have q2 : (a.kind == 2) = false := by simp [h2]
    rw [if_neg h2] at hc
    by_cases h3 : a.kind = 3
    · rw [if_pos h3] at hc
      have q3 : (a.kind == 3) = true := by simp [h3]
      have hcc : ∀ W, Calls Tryz.prog 108 #[.bool (decide (a.int < b.int)), .bool (a.int == b.int)] W fun ev w' => ev = .returned (.int .i64 c) ∧ w' = W := fun W => (sign_108 _ _ W).mono fun ev w' ⟨h, h'⟩ => ⟨by
        rw [h, ← hc]
        by_cases h1 : a.int < b.int
        · simp [h1]
        · by_cases h4 : b.int < a.int
          · have h5 : ¬ a.int = b.int := by omega
            simp [h1, h4, h5]
          · have h5 : a.int = b.int := by omega
            simp [h5], h'⟩
      have HC := Lib.hid hcc
      clear h2 h3 hc hk hcc
      go_enter Tryz.func88, Tryz.ntmps88
      go_wp2_with (go_at_call 108; refine (HC.out _).mono ?_; rintro ev w5 ⟨rfl, rfl⟩)
      go_ret
      exact ⟨rfl, two_below _ _ _⟩
    · have q3 : (a.kind == 3) = false := by simp [h3]
      rw [if_neg h3] at hc
      by_cases h4 : a.kind = 4
      · rw [if_pos h4] at hc
        have q4 : (a.kind == 4) = true := by simp [h4]
        rw [cmpL_eq, ← Lib.toList_data, ← Lib.toList_data] at hc
        have hcc : ∀ W, Calls Tryz.prog 108 #[.bool (Op.bytesLess a.text.toList b.text.toList), .bool (a.text.toList == b.text.toList)] W fun ev w' => ev = .returned (.int .i64 c) ∧ w' = W := fun W => by rw [← hc]; exact sign_108 _ _ W
        have HC := Lib.hid hcc
        clear h2 h3 h4 hc hk hcc
        go_enter Tryz.func88, Tryz.ntmps88
        go_wp2_with (go_at_call 108; refine (HC.out _).mono ?_; rintro ev w5 ⟨rfl, rfl⟩)
        go_ret
        exact ⟨rfl, two_below _ _ _⟩
      · have q4 : (a.kind == 4) = false := by simp [h4]
        rw [if_neg h4] at hc
        subst hc
        clear h2 h3 h4 hk
        go_enter Tryz.func88, Tryz.ntmps88
        go_wp2_with fail
        go_ret
        exact ⟨rfl, two_below _ _ _⟩

set_option maxRecDepth 100000 in
set_option maxHeartbeats 2000000 in
theorem cmpDat_88 (a b : Dat) (w : World) : Calls Tryz.prog 88 #[a.agg, b.agg] w fun ev w' => ev = .returned (.int .i64 (cmpF a b)) ∧ Below w.heap.size w w' := by
  by_cases hk : a.kind = b.kind
  · unfold cmpF
    rw [if_pos hk]
    exact rcmp_88 a b w hk
  · have hcc : ∀ W, Calls Tryz.prog 108 #[.bool (decide (a.kind < b.kind)), .bool false] W fun ev w' => ev = .returned (.int .i64 (cmpF a b)) ∧ w' = W := fun W => (sign_108 _ _ W).mono fun ev w' ⟨h, h'⟩ => ⟨by
      rw [h]
      unfold cmpF
      rw [if_neg hk]
      by_cases h1 : a.kind < b.kind
      · simp [h1]
      · simp [h1], h'⟩
    have HC := Lib.hid hcc
    have qk : (a.kind != b.kind) = true := by simp [hk]
    obtain ⟨c, hc⟩ : ∃ c, cmpF a b = c := ⟨_, rfl⟩
    rw [hc] at HC ⊢
    clear hk hcc hc
    unfold Dat.agg
    go_enter Tryz.func88, Tryz.ntmps88
    go_wp2_with (go_at_call 108; refine (HC.out _).mono ?_; rintro ev w5 ⟨rfl, rfl⟩)
    go_ret
    exact ⟨rfl, two_below _ _ _⟩

theorem lexL_drop {α : Type} {c : α → α → Int} {xs ys : List α} {i : Nat} {x y : α} (hx : xs[i]? = some x) (hy : ys[i]? = some y) : lexL c (xs.drop i) (ys.drop i) = if c x y = 0 then lexL c (xs.drop (i + 1)) (ys.drop (i + 1)) else c x y := by
  have h1 := (List.getElem?_eq_some_iff.1 hx)
  have h2 := (List.getElem?_eq_some_iff.1 hy)
  obtain ⟨l1, rfl⟩ := h1
  obtain ⟨l2, rfl⟩ := h2
  rw [List.drop_eq_getElem_cons l1, List.drop_eq_getElem_cons l2]
  rfl
theorem lexL_end {α : Type} {c : α → α → Int} {xs ys : List α} {i : Nat} (h : xs.length ≤ i ∨ ys.length ≤ i) (h1 : i ≤ xs.length) (h2 : i ≤ ys.length) : lexL c (xs.drop i) (ys.drop i) = if xs.length < ys.length then -1 else if ys.length < xs.length then 1 else 0 := by
  by_cases e1 : xs.length ≤ i
  · rw [List.drop_eq_nil_of_le e1]
    by_cases e2 : ys.length ≤ i
    · rw [List.drop_eq_nil_of_le e2, if_neg (by omega), if_neg (by omega)]; rfl
    · obtain ⟨y, l, hl⟩ : ∃ y l, ys.drop i = y :: l := ⟨ys[i]'(by omega), ys.drop (i + 1), List.drop_eq_getElem_cons (by omega)⟩
      rw [hl, if_pos (by omega)]; rfl
  · have e2 : ys.length ≤ i := by omega
    obtain ⟨x, l, hl⟩ : ∃ x l, xs.drop i = x :: l := ⟨xs[i]'(by omega), xs.drop (i + 1), List.drop_eq_getElem_cons (by omega)⟩
    rw [List.drop_eq_nil_of_le e2, hl, if_neg (by omega), if_pos (by omega)]; rfl

set_option maxRecDepth 100000 in
set_option maxHeartbeats 2000000 in
theorem cmpRow_65 (v1 v2 : Value) (xs ys : List Dat) (w : World) (h1 : RowAt w v1 xs) (h2 : RowAt w v2 ys) (hn : xs.length ≤ 1073741824) (hm : ys.length ≤ 1073741824) :
    Calls Tryz.prog 65 #[v1, v2] w fun ev w' => ev = .returned (.int .i64 (cmpR xs ys)) ∧ Below w.heap.size w w' := by
  obtain ⟨a1, c1, rfl, -, g1⟩ := h1
  obtain ⟨a2, c2, rfl, -, g2⟩ := h2
  obtain ⟨R, eR⟩ : ∃ R, R = cmpR xs ys := ⟨_, rfl⟩
  rw [← eR]
  have ER := Lib.hid eR
  obtain ⟨n, en⟩ : ∃ n, n = xs.length := ⟨_, rfl⟩
  obtain ⟨m, em⟩ : ∃ m, m = ys.length := ⟨_, rfl⟩
  rw [← en] at hn ⊢
  rw [← em] at hm ⊢
  have G1 := Lib.hid g1
  have G2 := Lib.hid g2
  have EN := Lib.hid en
  have EM := Lib.hid em
  clear g1 g2 en em eR
  go_enter Tryz.func65, Tryz.ntmps65
  go_wp2
  go_loopg [5] n (fun g s5 wr => ∃ i : Nat, i ≤ n ∧ i ≤ m ∧ g = n - i ∧ s5 = .int .i64 i ∧ R = lexL cmpF (xs.drop i) (ys.drop i) ∧ Below w.heap.size w wr)
  case atStart => exact ⟨0, Nat.zero_le _, Nat.zero_le _, rfl, rfl, ER.out, Below.refl _ _⟩
  case round =>
    obtain ⟨i, hi, hj, rfl, rfl, hr, hbw⟩ := hrel
    have HBW := Lib.hid hbw
    have HRR := Lib.hid hr
    clear hr
    by_cases hin : i < n
    · by_cases hjm : i < m
      · obtain ⟨x, hx⟩ : ∃ x, xs[i]? = some x := ⟨xs[i]'(by rw [← EN.out]; exact hin), List.getElem?_eq_getElem _⟩
        obtain ⟨y, hy⟩ : ∃ y, ys[i]? = some y := ⟨ys[i]'(by rw [← EM.out]; exact hjm), List.getElem?_eq_getElem _⟩
        obtain ⟨b1, o1, rfl, -, g1⟩ := G1.out (fun e => by rw [e] at hx; simp at hx)
        obtain ⟨b2, o2, rfl, -, g2⟩ := G2.out (fun e => by rw [e] at hy; simp at hy)
        obtain ⟨p0, p1, p2, p3⟩ := g1 i x hx
        obtain ⟨q0, q1, q2, q3⟩ := g2 i y hy
        have p0 := cell_keep hbw p0
        have p1 := cell_keep hbw p1
        have p2 := cell_keep hbw p2
        have p3 := cell_keep hbw p3
        have q0 := cell_keep hbw q0
        have q1 := cell_keep hbw q1
        have q2 := cell_keep hbw q2
        have q3 := cell_keep hbw q3
        have hs := HRR.out
        rw [lexL_drop hx hy] at hs
        have HS := Lib.hid hs
        have hcc := fun (W : World) => cmpDat_88 x y W
        unfold Dat.agg at hcc
        obtain ⟨c, hc⟩ : ∃ c, c = cmpF x y := ⟨_, rfl⟩
        rw [← hc] at hcc HS
        have HC := Lib.hid hcc
        clear g1 g2 hx hy hbw hs hcc hc
        go_wp2
        go_region_held3 (fun w' => w'.cell? ⟨b1, o1 + i * 4, none⟩ = some (.int .u8 x.kind) ∧ w'.cell? ⟨b1, o1 + i * 4 + 1, none⟩ = some (.bool x.bool) ∧ w'.cell? ⟨b1, o1 + i * 4 + 2, none⟩ = some (.int .i64 x.int) ∧ w'.cell? ⟨b1, o1 + i * 4 + 3, none⟩ = some (.string x.text) ∧ w'.cell? ⟨b2, o2 + i * 4, none⟩ = some (.int .u8 y.kind) ∧ w'.cell? ⟨b2, o2 + i * 4 + 1, none⟩ = some (.bool y.bool) ∧ w'.cell? ⟨b2, o2 + i * 4 + 2, none⟩ = some (.int .i64 y.int) ∧ w'.cell? ⟨b2, o2 + i * 4 + 3, none⟩ = some (.string y.text))
          (first | with_reducible exact HS5.out | exact ⟨p0, p1, p2, p3, q0, q1, q2, q3⟩)
          (first | (go_at_call 88; refine (HC.out _).mono ?_; rintro e w5 ⟨rfl, hb5⟩; have HS5 := Lib.hid (And.intro (cell_keep hb5 p0) (And.intro (cell_keep hb5 p1) (And.intro (cell_keep hb5 p2) (And.intro (cell_keep hb5 p3) (And.intro (cell_keep hb5 q0) (And.intro (cell_keep hb5 q1) (And.intro (cell_keep hb5 q2) (cell_keep hb5 q3))))))))))
        have hb5' : Below w.heap.size w w5 := HBW.out.trans ((below_undrewN hb5).mono HBW.out.size)
        have HB5 := Lib.hid hb5'
        clear hb5 hb5' p0 p1 p2 p3 q0 q1 q2 q3
        by_cases h0 : c = 0
        · subst h0
          have hs := HS.out
          rw [if_pos rfl] at hs
          have HRS := Lib.hid hs
          clear hs
          go_wp2
          go_roundg (n - (i + 1))
          case measure => omega
          case rel => exact ⟨i + 1, hin, hjm, rfl, by go_num, HRS.out, HB5.out⟩
        · have hs := HS.out
          rw [if_neg h0] at hs
          subst hs
          have q : (R != 0) = true := by simpa using h0
          clear h0
          go_wp2
          go_ret
          exact ⟨rfl, HB5.out⟩
      · have hend : R = if n < m then -1 else if m < n then 1 else 0 := by
          rw [HRR.out, lexL_end (.inr (by rw [← EM.out]; omega)) (by rw [← EN.out]; omega) (by rw [← EM.out]; omega), ← EN.out, ← EM.out]
        rw [if_neg (by omega), if_pos (by omega)] at hend
        subst hend
        clear hbw
        go_wp2
        go_ret
        exact ⟨rfl, HBW.out⟩
    · have hend : R = if n < m then -1 else if m < n then 1 else 0 := by
        rw [HRR.out, lexL_end (.inl (by rw [← EN.out]; omega)) (by rw [← EN.out]; omega) (by rw [← EM.out]; omega), ← EN.out, ← EM.out]
      clear hbw
      by_cases hlt : n < m
      · rw [if_pos hlt] at hend
        subst hend
        go_wp2
        go_ret
        exact ⟨rfl, HBW.out⟩
      · rw [if_neg hlt, if_neg (by omega)] at hend
        subst hend
        have : n = m := by omega
        subst this
        go_wp2
        go_ret
        exact ⟨rfl, HBW.out⟩

theorem sign_89 (a b : Int) (w : World) : Calls Tryz.prog 89 #[.int .u64 a, .int .u64 b] w fun ev w' => ev = .returned (.int .i64 (cmpI a b)) ∧ w' = w := by
  unfold cmpI
  by_cases h1 : a < b
  · rw [if_pos h1]
    go_enter Tryz.func89, Tryz.ntmps89
    go_wp2
    go_ret
    exact ⟨rfl, rfl⟩
  · rw [if_neg h1]
    by_cases h2 : a = b
    · subst h2
      rw [if_pos rfl]
      go_enter Tryz.func89, Tryz.ntmps89
      go_wp2
      go_ret
      exact ⟨rfl, rfl⟩
    · rw [if_neg h2]
      have h3 : b < a := by omega
      go_enter Tryz.func89, Tryz.ntmps89
      go_wp2
      go_ret
      exact ⟨rfl, rfl⟩
end Go.Proofs.YtlpehdhgdpeoeaaGreatDoor
