import Derived.Test.YtlpehdhgdpeoeaaGreatDoorLd
/- The references' order of times, of updates. -/
namespace Go.Proofs.YtlpehdhgdpeoeaaGreatDoor
open Go.RowKit Go.Pen Go.Shelf
attribute [local go_sem] Oper.semAt_some

/-- an update such as memory holds -/
structure Upd.fits (u : Upd) : Prop where
  row : ∀ d ∈ u.row, d.fits
  ep : 0 ≤ u.epoch ∧ u.epoch ≤ 18446744073709551615
  lo : ∀ x ∈ u.loops, 0 ≤ x ∧ x ≤ 4294967295
  diff : InR u.diff
  lr : u.row.length ≤ 1073741824
  ll : u.loops.length ≤ 1073741824
theorem cmpT_eq (u v : Upd) : cmpT u v = if cmpI u.loops.length v.loops.length = 0 then (if cmpI u.epoch v.epoch = 0 then lexL cmpI u.loops v.loops else cmpI u.epoch v.epoch) else cmpI u.loops.length v.loops.length := rfl
theorem cmpK_eq2 (u v : Upd) : cmpK u v = if cmpR u.row v.row = 0 then cmpT u v else cmpR u.row v.row := rfl

set_option maxRecDepth 100000 in
set_option maxHeartbeats 2000000 in
theorem cmpTime_66 (u v : Upd) (v1 v2 : Value) (w : World) (h1 : WordsAt w v1 u.loops) (h2 : WordsAt w v2 v.loops) (fu : u.fits) (fv : v.fits) :
    Calls Tryz.prog 66 #[.agg #[.int .u64 u.epoch, v1], .agg #[.int .u64 v.epoch, v2]] w fun ev w' => ev = .returned (.int .i64 (cmpT u v)) ∧ Below w.heap.size w w' := by
  obtain ⟨a1, c1, rfl, -, g1⟩ := h1
  obtain ⟨a2, c2, rfl, -, g2⟩ := h2
  obtain ⟨R, eR⟩ : ∃ R, R = cmpT u v := ⟨_, rfl⟩
  rw [← eR]
  rw [cmpT_eq] at eR
  obtain ⟨xs, exs⟩ : ∃ xs, xs = u.loops := ⟨_, rfl⟩
  obtain ⟨ys, eys⟩ : ∃ ys, ys = v.loops := ⟨_, rfl⟩
  have hlx := fu.ll
  have hly := fv.ll
  have hfx := fu.lo
  have hfy := fv.lo
  rw [← exs] at g1 hlx hfx eR ⊢
  rw [← eys] at g2 hly hfy eR ⊢
  obtain ⟨n, en⟩ : ∃ n, n = xs.length := ⟨_, rfl⟩
  obtain ⟨m, em⟩ : ∃ m, m = ys.length := ⟨_, rfl⟩
  rw [← en] at hlx eR ⊢
  rw [← em] at hly eR ⊢
  obtain ⟨C1, eC1⟩ : ∃ C, C = cmpI n m := ⟨_, rfl⟩
  obtain ⟨C2, eC2⟩ : ∃ C, C = cmpI u.epoch v.epoch := ⟨_, rfl⟩
  have hs1 := fun W => sign_89 n m W
  have hs2 := fun W => sign_89 u.epoch v.epoch W
  rw [← eC1] at eR hs1
  rw [← eC2] at eR hs2
  have hnm : C1 = 0 → n = m := fun h => by have := cmpI_eq (eC1.symm.trans h); omega
  have G1 := Lib.hid g1
  have G2 := Lib.hid g2
  have EN := Lib.hid en
  have EM := Lib.hid em
  have ER := Lib.hid eR
  have FX := Lib.hid hfx
  have FY := Lib.hid hfy
  have HS1 := Lib.hid hs1
  have HS2 := Lib.hid hs2
  have HNM := Lib.hid hnm
  clear g1 g2 en em eR hfx hfy hs1 hs2 exs eys fu fv eC1 eC2 hnm
  generalize u.epoch = e1 at *
  generalize v.epoch = e2 at *
  have cn : IntKind.u64.wrap (n : Int) = n := by show (n : Int) % _ = n; simp [IntKind.bits]; omega
  have cm : IntKind.u64.wrap (m : Int) = m := by show (m : Int) % _ = m; simp [IntKind.bits]; omega
  go_enter Tryz.func66, Tryz.ntmps66
  go_wp2_with fail
  obtain ⟨w1, hw1⟩ : ∃ w1, w1 = (w.alloc (.cells #[.int .u64 e1, .slice a1 n c1] 46)).alloc (.cells #[.int .u64 e2, .slice a2 m c2] 46) := ⟨_, rfl⟩
  have hb1 : Below w.heap.size w w1 := by rw [hw1]; exact two_below _ _ _
  have ht := two_at (w := w) (w1 := w1) (a := .cells #[.int .u64 e1, .slice a1 n c1] 46) (b := .cells #[.int .u64 e2, .slice a2 m c2] 46) (by rw [hw1]; exact Below.refl _ _)
  have y0 : w1.cell? ⟨w.heap.size, 0, none⟩ = some (.int .u64 e1) := cell_of_heap ht.1 rfl
  have y1 : w1.cell? ⟨w.heap.size, 1, none⟩ = some (.slice a1 n c1) := cell_of_heap ht.1 rfl
  have z0 : w1.cell? ⟨w.heap.size + 1, 0, none⟩ = some (.int .u64 e2) := cell_of_heap ht.2 rfl
  have z1 : w1.cell? ⟨w.heap.size + 1, 1, none⟩ = some (.slice a2 m c2) := cell_of_heap ht.2 rfl
  rw [← hw1]
  have HB1 := Lib.hid hb1
  have Y1 := Lib.hid y1
  have Z1 := Lib.hid z1
  clear hw1 hb1 ht
  refine (HS1.out _).mono ?_
  rintro ev w2 ⟨rfl, rfl⟩
  by_cases h0 : C1 = 0
  · have hst : (C2 ≠ 0 ∧ R = C2) ∨ (C2 = 0 ∧ n = m ∧ R = lexL cmpI (xs.drop 0) (ys.drop 0)) := by
      have h := ER.out
      rw [if_pos h0] at h
      by_cases h1 : C2 = 0
      · rw [if_pos h1] at h; exact .inr ⟨h1, HNM.out h0, h⟩
      · rw [if_neg h1] at h; exact .inl ⟨h1, h⟩
    have HST := Lib.hid hst
    subst h0
    clear hst
    go_wp2_with (go_at_call 89; refine (HS2.out _).mono ?_; rintro ev w3 ⟨rfl, rfl⟩)
    generalize w3 = w1 at *
    go_loopg [5, 6] n (fun g s5 s6 wr => ∃ (i : Nat) (c : Int), i ≤ n ∧ g = n - i ∧ s6 = .int .i64 i ∧ s5 = .int .i64 c ∧ ((c ≠ 0 ∧ R = c) ∨ (c = 0 ∧ n = m ∧ R = lexL cmpI (xs.drop i) (ys.drop i))) ∧ ∃ q, wr = w1.drewN q)
    case atStart => exact ⟨0, C2, Nat.zero_le _, rfl, rfl, rfl, HST.out, 0, rfl⟩
    case round =>
      obtain ⟨i, c, hi, rfl, rfl, rfl, hr, hwq⟩ := hrel
      have k1 : wr.cell? ⟨w.heap.size, 1, none⟩ = some (.slice a1 n c1) := by obtain ⟨q, rfl⟩ := hwq; exact Y1.out
      have k2 : wr.cell? ⟨w.heap.size + 1, 1, none⟩ = some (.slice a2 m c2) := by obtain ⟨q, rfl⟩ := hwq; exact Z1.out
      have HBR : Hid (Below w.heap.size w wr) := by obtain ⟨q, rfl⟩ := hwq; exact Lib.hid (Go.Pen.below_drewN HB1.out)
      have HWQ := Lib.hid hwq
      clear hwq y0 y1 z0 z1
      by_cases hc : c = 0
      · subst hc
        obtain ⟨hnm, hr2⟩ : n = m ∧ R = lexL cmpI (xs.drop i) (ys.drop i) := by
          rcases hr with h | h
          · exact absurd rfl h.1
          · exact h.2
        clear hr
        subst hnm
        have HRR := Lib.hid hr2
        clear hr2
        by_cases hin : i < n
        · obtain ⟨x, hx⟩ : ∃ x, xs[i]? = some x := ⟨xs[i]'(by rw [← EN.out]; exact hin), List.getElem?_eq_getElem _⟩
          obtain ⟨y, hy⟩ : ∃ y, ys[i]? = some y := ⟨ys[i]'(by rw [← EM.out]; exact hin), List.getElem?_eq_getElem _⟩
          obtain ⟨b1, o1, rfl, g1⟩ := G1.out (fun e => by rw [e] at hx; simp at hx)
          obtain ⟨b2, o2, rfl, g2⟩ := G2.out (fun e => by rw [e] at hy; simp at hy)
          have p0 := cell_keep HBR.out (g1 i x hx)
          have q0 := cell_keep HBR.out (g2 i y hy)
          have fx := FX.out x (List.mem_of_getElem? hx)
          have fy := FY.out y (List.mem_of_getElem? hy)
          have wx : IntKind.u64.wrap x = x := IntWalk.u64_in _ (by omega)
          have wy : IntKind.u64.wrap y = y := IntWalk.u64_in _ (by omega)
          have hs := HRR.out
          rw [lexL_drop hx hy] at hs
          obtain ⟨c, hc⟩ : ∃ c, c = cmpI x y := ⟨_, rfl⟩
          have hsg := fun W => sign_89 x y W
          rw [← hc] at hs hsg
          have HS := Lib.hid hs
          have HSG := Lib.hid hsg
          clear g1 g2 hx hy hs hsg hc fx fy
          go_wp2
          go_quiet ((go_at_call 89; exact Calls.quiet_of_same (HSG.out _)))
          go_wp2
          go_roundg (n - (i + 1))
          case measure => omega
          case rel =>
            refine ⟨i + 1, c, hin, by first | rfl | trivial, by go_num, by first | rfl | trivial, ?_, by obtain ⟨q, e⟩ := HWQ.out; rw [e]; exact ⟨q + _, by simp [World.drewN, Nat.add_assoc]; rfl⟩⟩
            have hs := HS.out
            by_cases h0 : c = 0
            · rw [if_pos h0] at hs; exact .inr ⟨h0, by first | rfl | trivial, hs⟩
            · rw [if_neg h0] at hs; exact .inl ⟨h0, hs⟩
        · have hend := HRR.out
          rw [lexL_end (.inl (by rw [← EN.out]; omega)) (by rw [← EN.out]; omega) (by rw [← EM.out]; omega), ← EN.out, ← EM.out, if_neg (by omega), if_neg (by omega)] at hend
          subst hend
          go_wp2
          go_ret
          exact ⟨rfl, HBR.out⟩
      · obtain rfl : R = c := by
          rcases hr with h | h
          · exact h.2
          · exact absurd h.1 hc
        have q : (R == 0) = false := by simpa using hc
        clear hr hc
        by_cases hin : i < n
        · go_wp2
          go_ret
          exact ⟨rfl, HBR.out⟩
        · go_wp2
          go_ret
          exact ⟨rfl, HBR.out⟩
  · have hst : (C1 ≠ 0 ∧ R = C1) ∨ (C1 = 0 ∧ n = m ∧ R = lexL cmpI (xs.drop 0) (ys.drop 0)) := by
      have h := ER.out
      rw [if_neg h0] at h
      exact .inl ⟨h0, h⟩
    have HST := Lib.hid hst
    have q0 : (C1 == 0) = false := by simpa using h0
    clear hst h0
    go_wp2_with fail
    generalize w2 = w1 at *
    go_loopg [5, 6] n (fun g s5 s6 wr => ∃ (i : Nat) (c : Int), i ≤ n ∧ g = n - i ∧ s6 = .int .i64 i ∧ s5 = .int .i64 c ∧ ((c ≠ 0 ∧ R = c) ∨ (c = 0 ∧ n = m ∧ R = lexL cmpI (xs.drop i) (ys.drop i))) ∧ ∃ q, wr = w1.drewN q)
    case atStart => exact ⟨0, C1, Nat.zero_le _, rfl, rfl, rfl, HST.out, 0, rfl⟩
    case round =>
      obtain ⟨i, c, hi, rfl, rfl, rfl, hr, hwq⟩ := hrel
      have k1 : wr.cell? ⟨w.heap.size, 1, none⟩ = some (.slice a1 n c1) := by obtain ⟨q, rfl⟩ := hwq; exact Y1.out
      have k2 : wr.cell? ⟨w.heap.size + 1, 1, none⟩ = some (.slice a2 m c2) := by obtain ⟨q, rfl⟩ := hwq; exact Z1.out
      have HBR : Hid (Below w.heap.size w wr) := by obtain ⟨q, rfl⟩ := hwq; exact Lib.hid (Go.Pen.below_drewN HB1.out)
      have HWQ := Lib.hid hwq
      clear hwq y0 y1 z0 z1
      by_cases hc : c = 0
      · subst hc
        obtain ⟨hnm, hr2⟩ : n = m ∧ R = lexL cmpI (xs.drop i) (ys.drop i) := by
          rcases hr with h | h
          · exact absurd rfl h.1
          · exact h.2
        clear hr
        subst hnm
        have HRR := Lib.hid hr2
        clear hr2
        by_cases hin : i < n
        · obtain ⟨x, hx⟩ : ∃ x, xs[i]? = some x := ⟨xs[i]'(by rw [← EN.out]; exact hin), List.getElem?_eq_getElem _⟩
          obtain ⟨y, hy⟩ : ∃ y, ys[i]? = some y := ⟨ys[i]'(by rw [← EM.out]; exact hin), List.getElem?_eq_getElem _⟩
          obtain ⟨b1, o1, rfl, g1⟩ := G1.out (fun e => by rw [e] at hx; simp at hx)
          obtain ⟨b2, o2, rfl, g2⟩ := G2.out (fun e => by rw [e] at hy; simp at hy)
          have p0 := cell_keep HBR.out (g1 i x hx)
          have q0 := cell_keep HBR.out (g2 i y hy)
          have fx := FX.out x (List.mem_of_getElem? hx)
          have fy := FY.out y (List.mem_of_getElem? hy)
          have wx : IntKind.u64.wrap x = x := IntWalk.u64_in _ (by omega)
          have wy : IntKind.u64.wrap y = y := IntWalk.u64_in _ (by omega)
          have hs := HRR.out
          rw [lexL_drop hx hy] at hs
          obtain ⟨c, hc⟩ : ∃ c, c = cmpI x y := ⟨_, rfl⟩
          have hsg := fun W => sign_89 x y W
          rw [← hc] at hs hsg
          have HS := Lib.hid hs
          have HSG := Lib.hid hsg
          clear g1 g2 hx hy hs hsg hc fx fy
          go_wp2
          go_quiet ((go_at_call 89; exact Calls.quiet_of_same (HSG.out _)))
          go_wp2
          go_roundg (n - (i + 1))
          case measure => omega
          case rel =>
            refine ⟨i + 1, c, hin, by first | rfl | trivial, by go_num, by first | rfl | trivial, ?_, by obtain ⟨q, e⟩ := HWQ.out; rw [e]; exact ⟨q + _, by simp [World.drewN, Nat.add_assoc]; rfl⟩⟩
            have hs := HS.out
            by_cases h0 : c = 0
            · rw [if_pos h0] at hs; exact .inr ⟨h0, by first | rfl | trivial, hs⟩
            · rw [if_neg h0] at hs; exact .inl ⟨h0, hs⟩
        · have hend := HRR.out
          rw [lexL_end (.inl (by rw [← EN.out]; omega)) (by rw [← EN.out]; omega) (by rw [← EM.out]; omega), ← EN.out, ← EM.out, if_neg (by omega), if_neg (by omega)] at hend
          subst hend
          go_wp2
          go_ret
          exact ⟨rfl, HBR.out⟩
      · obtain rfl : R = c := by
          rcases hr with h | h
          · exact h.2
          · exact absurd h.1 hc
        have q : (R == 0) = false := by simpa using hc
        clear hr hc
        by_cases hin : i < n
        · go_wp2
          go_ret
          exact ⟨rfl, HBR.out⟩
        · go_wp2
          go_ret
          exact ⟨rfl, HBR.out⟩
set_option maxRecDepth 100000 in
set_option maxHeartbeats 2000000 in
theorem cmp_49 (u v : Upd) (r1 l1 r2 l2 : Value) (w : World) (hr1 : RowAt w r1 u.row) (hl1 : WordsAt w l1 u.loops) (hr2 : RowAt w r2 v.row) (hl2 : WordsAt w l2 v.loops) (fu : u.fits) (fv : v.fits) :
    Calls Tryz.prog 49 #[.agg (upV r1 l1 u), .agg (upV r2 l2 v)] w fun ev w' => ev = .returned (.int .i64 (cmpK u v)) ∧ Below w.heap.size w w' := by
  have hcr := fun (W : World) (hb : Below w.heap.size w W) => cmpRow_65 r1 r2 u.row v.row W (hr1.below hb) (hr2.below hb) fu.lr fv.lr
  have hct := fun (W : World) (hb : Below w.heap.size w W) => cmpTime_66 u v l1 l2 W (hl1.below hb) (hl2.below hb) fu fv
  obtain ⟨ra1, rc1, rfl⟩ := rowAt_slice hr1
  obtain ⟨ra2, rc2, rfl⟩ := rowAt_slice hr2
  obtain ⟨la1, lc1, rfl⟩ := hl1.slice
  obtain ⟨la2, lc2, rfl⟩ := hl2.slice
  obtain ⟨R, eR⟩ : ∃ R, R = cmpK u v := ⟨_, rfl⟩
  rw [← eR]
  rw [cmpK_eq2] at eR
  obtain ⟨C1, eC1⟩ : ∃ C, C = cmpR u.row v.row := ⟨_, rfl⟩
  obtain ⟨C2, eC2⟩ : ∃ C, C = cmpT u v := ⟨_, rfl⟩
  rw [← eC1] at eR hcr
  rw [← eC2] at eR hct
  have HCR := Lib.hid hcr
  have HCT := Lib.hid hct
  have ER := Lib.hid eR
  clear hcr hct hr1 hr2 hl1 hl2 fu fv eR eC1 eC2
  unfold upV
  generalize u.epoch = e1 at *
  generalize v.epoch = e2 at *
  generalize u.diff = d1 at *
  generalize v.diff = d2 at *
  go_enter Tryz.func49, Tryz.ntmps49
  go_wp2_with fail
  refine (HCR.out _ (two_below _ _ _)).mono ?_
  rintro ev w1 ⟨rfl, hb1⟩
  have ht := two_at hb1
  have y1 : w1.cell? ⟨w.heap.size, 1, none⟩ = some (.int .u64 e1) := cell_of_heap ht.1 rfl
  have y2 : w1.cell? ⟨w.heap.size, 2, none⟩ = some (.slice la1 u.loops.length lc1) := cell_of_heap ht.1 rfl
  have z1 : w1.cell? ⟨w.heap.size + 1, 1, none⟩ = some (.int .u64 e2) := cell_of_heap ht.2 rfl
  have z2 : w1.cell? ⟨w.heap.size + 1, 2, none⟩ = some (.slice la2 v.loops.length lc2) := cell_of_heap ht.2 rfl
  have HB1 := Lib.hid ((two_below w _ _).trans (hb1.mono (by simp; omega)))
  clear hb1 ht
  by_cases h0 : C1 = 0
  · obtain rfl : R = C2 := by rw [ER.out, if_pos h0]
    subst h0
    go_wp2_with fail
    refine (HCT.out _ HB1.out).mono ?_
    rintro ev w2 ⟨rfl, hb2⟩
    have HB2 := Lib.hid (HB1.out.trans (hb2.mono HB1.out.size))
    clear hb2
    go_wp2
    go_ret
    exact ⟨rfl, HB2.out⟩
  · obtain rfl : R = C1 := by rw [ER.out, if_neg h0]
    have q0 : (R == 0) = false := by simpa using h0
    go_wp2
    go_ret
    exact ⟨rfl, HB1.out⟩
end Go.Proofs.YtlpehdhgdpeoeaaGreatDoor
