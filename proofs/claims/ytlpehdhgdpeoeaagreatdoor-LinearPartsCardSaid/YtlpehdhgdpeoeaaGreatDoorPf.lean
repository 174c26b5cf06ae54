import Derived.Test.YtlpehdhgdpeoeaaGreatDoorPa
import Derived.Deep.AppendLies
/- SameCounteds. -/
namespace Go.Proofs.YtlpehdhgdpeoeaaGreatDoor
open Go.RowKit Go.Pen Go.Shelf
attribute [local go_sem ↓] Go.wp_at_zero Go.wp_at_succ

set_option maxRecDepth 100000 in
set_option maxHeartbeats 2000000 in
theorem sameCts_18 (v1 v2 : Value) (us : List Upd) (w : World) (h1 : CtsAt w v1 us) (h2 : CtsAt w v2 us) (hn : us.length ≤ 1073741824) (hk : ∀ u ∈ us, u.row.length ≤ 1073741824) :
    Calls Tryz.prog 18 #[v1, v2] w fun e w' => e = .returned (.bool true) ∧ Below w.heap.size w w' := by
  have H1 := Lib.hid h1
  have H2 := Lib.hid h2
  obtain ⟨a1, c1, rfl⟩ := h1.slice
  obtain ⟨a2, c2, rfl⟩ := h2.slice
  obtain ⟨n, en⟩ : ∃ n, n = us.length := ⟨_, rfl⟩
  rw [← en] at hn
  have HK := Lib.hid hk
  have EN := Lib.hid en
  clear h1 h2 hk
  rw [← en] at H1 H2 ⊢
  clear en
  go_enter Tryz.func18, Tryz.ntmps18
  go_wp2
  go_loopw [5] (fun i wr => ∃ k : Nat, k ≤ n ∧ i = .int .i64 k ∧ Below w.heap.size w wr) (fun i _ => n - (intOf i).toNat)
  case atStart => exact ⟨0, Nat.zero_le _, rfl, Below.refl _ _⟩
  case round =>
    obtain ⟨k, hkn, rfl, hbw⟩ := hrel
    by_cases hlt : k < n
    · have hne : us ≠ [] := by intro e; have := EN.out; rw [e] at this; simp at this; omega
      obtain ⟨_, _, hv1, -, g1⟩ := H1.out.below hbw
      obtain ⟨_, _, hv2, -, g2⟩ := H2.out.below hbw
      obtain ⟨b1, o1, e1, g1⟩ := g1 hne
      obtain ⟨b2, o2, e2, g2⟩ := g2 hne
      rw [e1] at hv1
      rw [e2] at hv2
      simp only [Value.slice.injEq] at hv1 hv2
      obtain ⟨rfl, z1, z1'⟩ := hv1
      obtain ⟨rfl, z2, z2'⟩ := hv2
      clear z1 z1' z2 z2'
      obtain ⟨u, hu⟩ : ∃ u, us[k]? = some u := ⟨us[k]'(by rw [← EN.out]; exact hlt), List.getElem?_eq_getElem _⟩
      obtain ⟨rv1, p0, p1, hr1⟩ := g1 k u hu
      obtain ⟨rv2, q0, q1, hr2⟩ := g2 k u hu
      have kr := HK.out u (List.mem_of_getElem? hu)
      obtain ⟨ra1, rc1, rfl⟩ := hr1.slice
      obtain ⟨ra2, rc2, rfl⟩ := hr2.slice
      have HR1 := Lib.hid hr1
      have HR2 := Lib.hid hr2
      have HBW := Lib.hid hbw
      have hbne : (u.diff != u.diff) = false := by simp
      clear g1 g2 hu hne hr1 hr2 hbw
      go_wp2
      go_region_held3 (fun w' => w'.cell? ⟨b1, o1 + k * 2, none⟩ = some (.slice ra1 u.row.length rc1) ∧ w'.cell? ⟨b1, o1 + k * 2 + 1, none⟩ = some (.int .i64 u.diff) ∧ w'.cell? ⟨b2, o2 + k * 2, none⟩ = some (.slice ra2 u.row.length rc2) ∧ w'.cell? ⟨b2, o2 + k * 2 + 1, none⟩ = some (.int .i64 u.diff))
        (first | with_reducible exact HS4.out | exact ⟨p0, p1, q0, q1⟩)
        (first | (go_at_call 26; refine (same_49 _ _ u.row _ (by exact HR1.out.below (drew_below' _ 1)) (by exact HR2.out.below (drew_below' _ 1)) kr).mono ?_; rintro e w4 ⟨rfl, nq4, rfl⟩; have HS4 := Lib.hid (And.intro p0 (And.intro p1 (And.intro q0 q1)))))
      go_wp2
      go_roundw
      case rel => exact ⟨k + 1, hlt, by go_num, Go.Pen.below_drewN HBW.out⟩
      case measure => simp [intOf]; omega
    · go_wp2
      go_ret
      exact ⟨rfl, hbw⟩
end Go.Proofs.YtlpehdhgdpeoeaaGreatDoor
/- The reference's Add. -/
namespace Go.Proofs.YtlpehdhgdpeoeaaGreatDoor
open Go.RowKit Go.Pen Go.Shelf
attribute [local go_sem] Oper.semAt_some

/-- how many stand below a row -/
def cutC (u : Upd) (l : List Upd) : Nat := (l.takeWhile fun x => decide (cmpR x.row u.row < 0)).length
/-- a row more -/
def addC (l : List Upd) (u : Upd) : List Upd :=
  match l[cutC u l]? with
  | some x => if cmpR x.row u.row = 0 then l.take (cutC u l) ++ [{ x with diff := wrap64 (x.diff + u.diff) }] ++ l.drop (cutC u l + 1) else l.take (cutC u l) ++ [u] ++ l.drop (cutC u l)
  | none => l.take (cutC u l) ++ [u] ++ l.drop (cutC u l)
theorem cutC_of {u : Upd} : ∀ {l : List Upd} {k : Nat}, k ≤ l.length → (∀ j x, j < k → l[j]? = some x → cmpR x.row u.row < 0) → (∀ x, l[k]? = some x → ¬ cmpR x.row u.row < 0) → cutC u l = k
  | [], k, hk, _, _ => by simp at hk; subst hk; rfl
  | y :: l, 0, _, _, h => by
    have := h y rfl
    unfold cutC
    rw [List.takeWhile_cons_of_neg (by simpa using this)]
    rfl
  | y :: l, k + 1, hk, h1, h2 => by
    have hy := h1 0 y (by omega) rfl
    have ih := cutC_of (u := u) (l := l) (k := k) (by simpa using hk) (fun j x hj hx => h1 (j + 1) x (by omega) (by simpa using hx)) (fun x hx => h2 x (by simpa using hx))
    unfold cutC at ih ⊢
    rw [List.takeWhile_cons_of_pos (by simpa using hy), List.length_cons, ih]

theorem cells_drop2 {w W : World} {b o k : Nat} {xs : List Value} (hb : Below w.heap.size w W) (h : ∀ ad, (some ⟨b, o, none⟩ : Option Addr) = some ad → ∀ j x, xs[j]? = some x → w.cell? (ad.add j) = some x) : ∀ (j : Nat) (y : Value), (xs.drop (k * 2))[j]? = some y → W.cell? ((⟨b, o + k * 2, none⟩ : Addr).add j) = some y := fun j y hy => by
  rw [List.getElem?_drop] at hy
  have h2 := cell_keep hb (h _ rfl _ y hy)
  rw [add_lit] at h2 ⊢
  rw [← Nat.add_assoc] at h2
  exact h2

set_option maxRecDepth 100000 in
set_option maxHeartbeats 4000000 in
theorem add_55 (us : List Upd) (u : Upd) (v rv : Value) (w : World) (h : CtsAt w v us) (hr : RowAt w rv u.row) (fus : ∀ x ∈ us, x.row.length ≤ 1073741824) (fu : u.row.length ≤ 1073741824) (hn : us.length ≤ 1000000) (hcc : ∀ a n c, v = .slice a n c → n ≤ c) :
    Calls Tryz.prog 55 #[v, rv, .int .i64 u.diff] w fun ev w' => ∃ v', ev = .returned v' ∧ CtsAt w' v' (addC us u) ∧ (∀ a n c, v' = .slice a n c → n ≤ c) ∧ Below w.heap.size w w' := by
  obtain ⟨i0, hi0, hz0, hz1, hz2⟩ := info_parts info77
  obtain ⟨a, c, xs, hv, hels, hcell, hnil⟩ := h.els
  obtain ⟨a', c', hv', hz', hat⟩ := h
  obtain ⟨rfl, rfl⟩ : a = a' ∧ c = c' := by rw [hv] at hv'; simp at hv'; exact hv'
  subst hv
  have hnc := hcc _ _ _ rfl
  clear hcc
  obtain ⟨ra, rc, rfl⟩ := rowAt_slice hr
  obtain ⟨rn, ern⟩ : ∃ rn, rn = u.row.length := ⟨_, rfl⟩
  rw [← ern] at hr fu ⊢
  obtain ⟨n, en⟩ : ∃ n, n = us.length := ⟨_, rfl⟩
  rw [← en] at hn hnc ⊢
  have EN := Lib.hid en
  have HELS := Lib.hid hels
  have HCELL := Lib.hid hcell
  have HNIL := Lib.hid hnil
  have HAT := Lib.hid hat
  have HRU := Lib.hid hr
  have FUS := Lib.hid fus
  have ERN := Lib.hid ern
  clear en hels hcell hnil hat hr fus hv' hz' ern
  go_enter Tryz.func55, Tryz.ntmps55
  go_wp2_with fail
  go_loopg [7] n (fun g s7 wr => ∃ k : Nat, k ≤ n ∧ g = n - k ∧ s7 = .int .i64 k ∧ (∀ j x, j < k → us[j]? = some x → cmpR x.row u.row < 0) ∧ Below w.heap.size w wr)
  case atStart => exact ⟨0, Nat.zero_le _, rfl, rfl, (fun j x hj => by omega), Below.refl _ _⟩
  case round =>
    obtain ⟨K, hk, hgk, rfl, hlow, hbr⟩ := hrel
    have HLOW := Lib.hid hlow
    have HBR := Lib.hid hbr
    clear hlow hbr
    by_cases hlt : K < n
    · obtain ⟨x, hx⟩ : ∃ x, us[K]? = some x := ⟨us[K]'(by rw [← EN.out]; exact hlt), List.getElem?_eq_getElem _⟩
      obtain ⟨b, o, rfl, hg⟩ := HAT.out (fun e => by rw [e] at hx; simp at hx)
      obtain ⟨xrv, p0, p1, hxr⟩ := hg K x hx
      obtain ⟨xa, xc, rfl⟩ := rowAt_slice hxr
      obtain ⟨xn, exn⟩ : ∃ xn, xn = x.row.length := ⟨_, rfl⟩
      have hxl := FUS.out x (List.mem_of_getElem? hx)
      rw [← exn] at hxr
      obtain ⟨C, eC⟩ : ∃ C, C = cmpR x.row u.row := ⟨_, rfl⟩
      have hcm : ∀ W, Below w.heap.size w W → Calls Tryz.prog 65 #[.slice xa xn xc, .slice ra rn rc] W fun ev w' => ev = .returned (.int .i64 C) ∧ Below W.heap.size W w' := fun W hb => by
        rw [eC]
        exact cmpRow_65 _ _ x.row u.row W (hxr.below hb) (HRU.out.below hb) hxl (by rw [← ERN.out]; exact fu)
      have HCM := Lib.hid hcm
      have q0 := cell_keep HBR.out p0
      rw [← exn] at p0 q0
      have P0 := Lib.hid p0
      have P1 := Lib.hid p1
      have HRX := Lib.hid hxr
      have HX := Lib.hid hx
      have EC := Lib.hid eC
      have EXN := Lib.hid exn
      clear hg hxr hx eC hcm p0 p1 exn hxl
      by_cases hC : C < 0
      · go_wp2_with fail
        refine (HCM.out _ HBR.out).mono ?_
        rintro e w5 ⟨rfl, hb5⟩
        have HB5 := Lib.hid (stepB HBR.out hb5)
        clear hb5 q0
        go_wp2_with fail
        go_roundg (n - (K + 1))
        case measure => omega
        case rel => exact ⟨K + 1, by omega, rfl, by go_num, (fun j y hj hy => by
          rcases Nat.lt_or_ge j K with h | h
          · exact HLOW.out j y h hy
          · have : j = K := by omega
            subst this
            rw [HX.out] at hy
            cases hy
            rw [← EC.out]; exact hC), HB5.out⟩
      · have HCUT := Lib.hid (cutC_of (u := u) (l := us) (k := K) (by rw [← EN.out]; exact hk) HLOW.out (fun y hy => by rw [HX.out] at hy; cases hy; rw [← EC.out]; exact hC))
        by_cases hC0 : C = 0
        · have HADD := Lib.hid (show addC us u = us.take K ++ [{ x with diff := wrap64 (x.diff + u.diff) }] ++ us.drop (K + 1) by unfold addC; rw [HCUT.out, HX.out]; simp only []; rw [if_pos (by rw [← EC.out]; exact hC0)])
          go_wp2_with fail
          refine (HCM.out _ HBR.out).mono ?_
          rintro e w5 ⟨rfl, hb5⟩
          have HB5 := Lib.hid (stepB HBR.out hb5)
          clear hb5 q0
          go_wp2_with (at_builtin; go_must (refine wpList_append_any _ rfl _ _ 42 rfl w.heap.size 77 i0 _ 2 32 Tryz.underlying42 hi0 hz0 hz1 hz2 rfl (by decide) (.slice none 0 0) 0 [] rfl (World.ownsRow_nil _ _ _ _) _ _ _ (xs.take (K * 2)) rfl (fun e => ⟨by have := (HNIL.out e).2; have := EN.out; simp_all, (HNIL.out e).1⟩) (by rw [List.length_take, HELS.out.len]; have := EN.out; omega) (fun ad e j y hy => cell_keep HB5.out (HCELL.out ad e j y (by rw [List.getElem?_take] at hy; split at hy; exact hy; cases hy))) (fun y hy => HELS.out.ones y (mem_take' hy)) (by unfold maxLen; omega) (by omega) HB5.out.size ?_))
          intro v7 w7 hown7 hgrow7
          obtain ⟨oa7, oc7, rfl⟩ := ownsRow_slice hown7
          have HB7 := Lib.hid (HB5.out.grown hgrow7 HB5.out.size (fun g hg => by cases hg))
          have HO7 := Lib.hid (show w7.ownsRow w.heap.size 77 2 (.slice oa7 K oc7) K (xs.take (K * 2)) by simpa using hown7)
          have hs7 := HB7.out.size
          clear hown7 hgrow7
          have p0 := cell_keep HB7.out P0.out
          go_wp2_with fail
          refine (HCM.out _ HB7.out).mono ?_
          rintro e wz ⟨rfl, hbz⟩
          replace HO7 := Lib.hid (Below.ownsRow' hbz HO7.out)
          replace HB7 := Lib.hid (stepB HB7.out hbz)
          obtain ⟨w7, rfl⟩ : ∃ w7, w7 = wz := ⟨_, rfl⟩
          have hs7 := HB7.out.size
          clear hbz p0
          have HSD := Lib.hid (show ∀ W, Below w.heap.size w W → W.cell? ⟨b, o + K * 2, none⟩ = some (.slice xa xn xc) ∧ W.cell? ⟨b, o + K * 2 + 1, none⟩ = some (.int .i64 x.diff) from fun W hb => ⟨cell_keep hb P0.out, cell_keep hb P1.out⟩)
          have CBD := Lib.hid (show Below w.heap.size w w7.drew from Go.Pen.below_drewN (n := 1) HB7.out)
          have hwr : IntKind.i64.wrap (x.diff + u.diff) = wrap64 (x.diff + u.diff) := by rw [IntKind.wrap_i64]; unfold wrap64; omega
          go_upto_region 7 with fail
          refine wp_region_held_drew (S := fun W => W.cell? ⟨b, o + K * 2, none⟩ = some (.slice xa xn xc) ∧ W.cell? ⟨b, o + K * 2 + 1, none⟩ = some (.int .i64 x.diff)) (by kernel_rfl) (HSD.out _ CBD.out) (fun hHeld => ?_)
          obtain ⟨wd, hwd⟩ : ∃ wd, wd = w7.drew := ⟨_, rfl⟩
          rw [← hwd] at CBD hHeld ⊢
          have CBA := Lib.hid (show Below w.heap.size w (wd.alloc (.cells #[.slice xa xn xc, .int .i64 (wrap64 (x.diff + u.diff))] 77)) from CBD.out.alloc CBD.out.size _)
          have HOA := Lib.hid (show (wd.alloc (.cells #[.slice xa xn xc, .int .i64 (wrap64 (x.diff + u.diff))] 77)).ownsRow w.heap.size 77 2 (.slice oa7 K oc7) K (xs.take (K * 2)) by rw [hwd]; exact World.ownsRow.alloc (w := w7.drew) HO7.out _)
          clear hwd
          refine wpAnyH_take (i := 0) (oi := ⟨some 44, _, _, _, _, _⟩) (v := ?_) rfl (by kernel_rfl) (by kernel_rfl) (by kernel_rfl) (fun _ _ _ h => h) (Or.inl ⟨by rfl, ?_⟩) (by assumption) ?_; rotate_left; (intro w hSw; (try dsimp only at hSw); go_simp; (try with_reducible rfl)); (try simp only [Act.put, List.setIfInBounds_toArray, List.set_cons_zero, List.set_cons_succ])
          refine wpAnyH_take (i := 1) (oi := ⟨some 45, _, _, _, _, _⟩) (v := ?_) rfl (by kernel_rfl) (by kernel_rfl) (by kernel_rfl) (fun _ _ _ h => h) (Or.inl ⟨by rfl, ?_⟩) (by assumption) ?_; rotate_left; (intro w hSw; (try dsimp only at hSw); go_simp; (try with_reducible rfl)); (try simp only [Act.put, List.setIfInBounds_toArray, List.set_cons_zero, List.set_cons_succ])
          refine wpAnyH_take (i := 2) (oi := ⟨some 46, _, _, _, _, _⟩) (v := ?_) rfl (by kernel_rfl) (by kernel_rfl) (by kernel_rfl) (fun _ _ _ h => h) (Or.inl ⟨by rfl, ?_⟩) (by assumption) ?_; rotate_left; (intro w hSw; (try dsimp only at hSw); go_simp; (try with_reducible rfl)); (try simp only [Act.put, List.setIfInBounds_toArray, List.set_cons_zero, List.set_cons_succ])
          refine wpAnyH_take (i := 3) (oi := ⟨some 47, _, _, _, _, _⟩) (v := ?_) rfl (by kernel_rfl) (by kernel_rfl) (by kernel_rfl) (fun _ _ _ h => h) (Or.inl ⟨by rfl, ?_⟩) (by assumption) ?_; rotate_left; (intro w hSw; (try dsimp only at hSw); go_simp; (try with_reducible rfl)); (try simp only [Act.put, List.setIfInBounds_toArray, List.set_cons_zero, List.set_cons_succ])
          refine wpAnyH_take (i := 4) (oi := ⟨some 48, _, _, _, _, _⟩) (v := ?_) rfl (by kernel_rfl) (by kernel_rfl) (by kernel_rfl) (fun _ _ _ h => h) (Or.inl ⟨by rfl, ?_⟩) (by assumption) ?_; rotate_left; (intro w hSw; (try dsimp only at hSw); go_simp; (try with_reducible rfl)); (try simp only [Act.put, List.setIfInBounds_toArray, List.set_cons_zero, List.set_cons_succ])
          refine wpAnyH_take (i := 5) (oi := ⟨some 49, _, _, _, _, _⟩) (v := ?_) rfl (by kernel_rfl) (by kernel_rfl) (by kernel_rfl) (fun _ _ _ h => h) (Or.inl ⟨by rfl, ?_⟩) (by assumption) ?_; rotate_left; (intro w hSw; (try dsimp only at hSw); go_simp; (try with_reducible rfl)); (try simp only [Act.put, List.setIfInBounds_toArray, List.set_cons_zero, List.set_cons_succ])
          refine wpAnyH_take (i := 6) (oi := ⟨some 50, _, _, _, _, _⟩) (v := ?_) rfl (by kernel_rfl) (by kernel_rfl) (by kernel_rfl) (fun _ _ _ h => h) (Or.inl ⟨by rfl, ?_⟩) (by assumption) ?_; rotate_left; (intro w hSw; (try dsimp only at hSw); go_simp; (try with_reducible rfl)); (try simp only [Act.put, List.setIfInBounds_toArray, List.set_cons_zero, List.set_cons_succ])
          refine wpAnyH_take (i := 7) (oi := ⟨some 51, _, _, _, _, _⟩) (v := ?_) rfl (by kernel_rfl) (by kernel_rfl) (by kernel_rfl) (fun _ _ _ h => h) (Or.inl ⟨by rfl, ?_⟩) (by assumption) ?_; rotate_left; (intro w hSw; (try dsimp only at hSw); go_simp; (try with_reducible rfl)); (try simp only [Act.put, List.setIfInBounds_toArray, List.set_cons_zero, List.set_cons_succ])
          refine wpAnyH_take (i := 8) (oi := ⟨some 52, _, _, _, _, _⟩) (v := ?_) rfl (by kernel_rfl) (by kernel_rfl) (by kernel_rfl) (fun _ _ _ h => h) (Or.inl ⟨by rfl, ?_⟩) (by assumption) ?_; rotate_left; (intro w hSw; (try dsimp only at hSw); go_simp; (try with_reducible rfl)); (try simp only [Act.put, List.setIfInBounds_toArray, List.set_cons_zero, List.set_cons_succ])
          refine wpAnyH_take (i := 9) (oi := ⟨some 53, _, _, _, _, _⟩) (v := ?_) rfl (by kernel_rfl) (by kernel_rfl) (by kernel_rfl) (fun _ _ _ h => h) (Or.inl ⟨by rfl, ?_⟩) (by assumption) ?_; rotate_left; (intro w hSw; (try dsimp only at hSw); go_simp; (try with_reducible rfl)); (try simp only [Act.put, List.setIfInBounds_toArray, List.set_cons_zero, List.set_cons_succ])
          refine wpAnyH_take (i := 10) (oi := ⟨some 54, _, _, _, _, _⟩) (v := ?_) rfl (by kernel_rfl) (by kernel_rfl) (by kernel_rfl) (fun _ _ _ h => h) (Or.inl ⟨by rfl, ?_⟩) (by assumption) ?_; rotate_left; (intro w hSw; (try dsimp only at hSw); go_simp; (try with_reducible rfl)); (try simp only [Act.put, List.setIfInBounds_toArray, List.set_cons_zero, List.set_cons_succ])
          refine wpAnyH_take (i := 11) (oi := ⟨some 55, _, _, _, _, _⟩) (v := ?_) rfl (by kernel_rfl) (by kernel_rfl) (by kernel_rfl) (fun _ _ _ h => h) (Or.inl ⟨by rfl, ?_⟩) (by assumption) ?_; rotate_left; (intro w hSw; (try dsimp only at hSw); go_simp; (try with_reducible rfl)); (try simp only [Act.put, List.setIfInBounds_toArray, List.set_cons_zero, List.set_cons_succ])
          refine wpAnyH_take (i := 12) (oi := ⟨some 56, _, _, _, _, _⟩) (v := ?_) rfl (by kernel_rfl) (by kernel_rfl) (by kernel_rfl) (fun _ _ _ h => h) (Or.inl ⟨by rfl, ?_⟩) (by assumption) ?_; rotate_left; (intro w hSw; (try dsimp only at hSw); go_simp; (try with_reducible rfl)); (try simp only [Act.put, List.setIfInBounds_toArray, List.set_cons_zero, List.set_cons_succ])
          refine wpAnyH_take (i := 13) (oi := ⟨some 57, _, _, _, _, _⟩) (v := ?_) rfl (by kernel_rfl) (by kernel_rfl) (by kernel_rfl) (fun _ _ _ h => h) (Or.inl ⟨by rfl, ?_⟩) (by assumption) ?_; rotate_left; (intro w hSw; (try dsimp only at hSw); go_simp; (try with_reducible rfl)); (try simp only [Act.put, List.setIfInBounds_toArray, List.set_cons_zero, List.set_cons_succ])
          refine wpAnyH_ready (rs := [14]) (by kernel_rfl) (by simp) ?_
          refine AllReadyH.cons (o := ⟨some 58, _, _, _, _, _⟩) rfl (fun KK hK => ?_) (AllReadyH.nil)
          go_simp
          refine hK.out _ _ (HSD.out _ CBA.out) (fun hHeld => ?_)
          clear hK KK
          skip
          refine wpAnyH_ready (rs := [15]) (by kernel_rfl) (by simp) ?_
          refine AllReadyH.cons (o := ⟨some 59, _, _, _, _, _⟩) rfl (fun KK hK => ?_) (AllReadyH.nil)
          refine step_append_lies _ rfl (.tmp 44) (.tmp 58) 42 rfl w.heap.size 77 i0 _ 2 32 Tryz.underlying42 hi0 hz0 hz1 hz2 rfl (by decide) _ K (xs.take (K * 2)) (by simp [Act.eval]) HOA.out ⟨wd.heap.size, 0, none⟩ 1 1 [.slice xa xn xc, .int .i64 (wrap64 (x.diff + u.diff))] (by simp [Act.eval]) rfl (World.news_of_block (cs := #[.slice xa xn xc, .int .i64 (wrap64 (x.diff + u.diff))]) (heap_alloc_new _ _)) (by intro y hy; simp at hy; rcases hy with rfl | rfl <;> rfl) (by decide) (by unfold maxLen; omega) (by omega) CBA.out.size _ rfl ?_
          intro g8 oc8 w8 hown8 hgrow8 _ _
          obtain ⟨oa8, hoa8⟩ : ∃ oa8, oa8 = some (⟨g8, 0, none⟩ : Addr) := ⟨_, rfl⟩
          rw [← hoa8] at hown8 ⊢
          have HB8 := Lib.hid (CBA.out.grown hgrow8 CBA.out.size (fun q hq => (HOA.out.lt q hq).1))
          have HO8 := Lib.hid hown8
          have hs8 := HB8.out.size
          clear hown8 hgrow8 hoa8
          refine hK.out _ _ (HSD.out _ HB8.out) (fun hHeld => ?_)
          clear hK KK
          simp only [Act.put, List.setIfInBounds_toArray, List.set_cons_zero, List.set_cons_succ]
          refine wpAnyH_take (i := 16) (oi := ⟨some 8, _, _, _, _, _⟩) (v := ?_) rfl (by kernel_rfl) (by kernel_rfl) (by kernel_rfl) (fun _ _ _ h => h) (Or.inl ⟨by rfl, ?_⟩) (by assumption) ?_; rotate_left; (intro w hSw; (try dsimp only at hSw); go_simp; (try with_reducible rfl)); (try simp only [Act.put, List.setIfInBounds_toArray, List.set_cons_zero, List.set_cons_succ])
          refine wpAnyH_done (by kernel_rfl) ?_ _
          have hels8 : Els2 w8 (xs.take (K * 2) ++ [.slice xa xn xc, .int .i64 (wrap64 (x.diff + u.diff))]) (us.take K ++ [{ x with diff := wrap64 (x.diff + u.diff) }]) := ((HELS.out.below HB8.out).take (k := K) (by have := EN.out; omega)).append (Els2.one (u := { x with diff := wrap64 (x.diff + u.diff) }) (HRX.out.below HB8.out))
          have HELS8 := Lib.hid hels8
          clear hels8
          by_cases hlast : n - (K + 1) = 0
          · have hend : us.drop (K + 1) = [] := List.drop_eq_nil_of_le (by have := EN.out; omega)
            have HEND := Lib.hid (show CtsAt w8 (.slice oa8 (K + 1) oc8) (addC us u) by rw [HADD.out, hend, List.append_nil]; exact (HELS8.out.at HO8.out).2)
            clear hend
            by_cases hcK : c - (K + 1) = 0
            all_goals
              go_wp2_with (at_builtin; go_must (refine wpList_append_zero rfl _ _ 42 rfl w.heap.size 77 i0 2 Tryz.underlying42 hi0 _ (K + 1) _ rfl HO8.out _ _ _ rfl (by first | rfl | exact hlast | omega) ?_))
              go_ret
              exact ⟨_, rfl, HEND.out, owns_cap HO8.out, HB8.out⟩
          · have hcK : ¬ (c - (K + 1) = 0) := by omega
            have hm0 : 0 < n - (K + 1) := by omega
            have hend : ∀ W v, W.ownsRow w.heap.size 77 2 v (K + 1 + (n - (K + 1))) (xs.take (K * 2) ++ [.slice xa xn xc, .int .i64 (wrap64 (x.diff + u.diff))] ++ xs.drop ((K + 1) * 2)) → Below w.heap.size w W → CtsAt W v (addC us u) := fun W v ho HB => by
              have HB := Lib.hid HB
              have he := (((HELS.out.below HB.out).take (k := K) (by have := EN.out; omega)).append (Els2.one (u := { x with diff := wrap64 (x.diff + u.diff) }) (HRX.out.below HB.out))).append ((HELS.out.drop (K + 1)).below HB.out)
              rw [HADD.out]
              exact (he.at ho).2
            have HEND := Lib.hid hend
            clear hend
            have HCD := Lib.hid (cells_drop2 (k := (K + 1)) HB8.out HCELL.out)
            go_wp2_with (at_builtin; go_must (refine wpList_append_lies _ rfl _ _ 42 rfl w.heap.size 77 i0 _ 2 32 Tryz.underlying42 hi0 hz0 hz1 hz2 rfl (by decide) _ (K + 1) _ rfl HO8.out ⟨b, o + (K + 1) * 2, none⟩ (n - (K + 1)) _ (xs.drop ((K + 1) * 2)) rfl (by rw [List.length_drop, HELS.out.len]; have := EN.out; omega) HCD.out (fun y hy => HELS.out.ones y (List.mem_of_mem_drop hy)) hm0 (by unfold maxLen; omega) (by omega) hs8 _ rfl ?_))
            intro g9 cap9 w9 hown9 hgrow9 _ _
            have HB9 := Lib.hid (HB8.out.grown hgrow9 hs8 (fun g hg => (HO8.out.lt g hg).1))
            have HO9 := Lib.hid hown9
            clear hown9 hgrow9
            go_wp2_with fail
            go_ret
            exact ⟨.slice (some ⟨g9, 0, none⟩) (K + 1 + (n - (K + 1))) cap9, rfl, HEND.out _ _ (by have := HO9.out; simp only [List.append_assoc, List.cons_append, List.nil_append] at this ⊢; exact this) HB9.out, owns_cap HO9.out, HB9.out⟩
        · have HADD := Lib.hid (show addC us u = us.take K ++ [u] ++ us.drop K by unfold addC; rw [HCUT.out, HX.out]; simp only []; rw [if_neg (by rw [← EC.out]; exact hC0)])
          go_wp2_with fail
          refine (HCM.out _ HBR.out).mono ?_
          rintro e w5 ⟨rfl, hb5⟩
          have HB5 := Lib.hid (stepB HBR.out hb5)
          clear hb5 q0
          go_wp2_with (at_builtin; go_must (refine wpList_append_any _ rfl _ _ 42 rfl w.heap.size 77 i0 _ 2 32 Tryz.underlying42 hi0 hz0 hz1 hz2 rfl (by decide) (.slice none 0 0) 0 [] rfl (World.ownsRow_nil _ _ _ _) _ _ _ (xs.take (K * 2)) rfl (fun e => ⟨by have := (HNIL.out e).2; have := EN.out; simp_all, (HNIL.out e).1⟩) (by rw [List.length_take, HELS.out.len]; have := EN.out; omega) (fun ad e j y hy => cell_keep HB5.out (HCELL.out ad e j y (by rw [List.getElem?_take] at hy; split at hy; exact hy; cases hy))) (fun y hy => HELS.out.ones y (mem_take' hy)) (by unfold maxLen; omega) (by omega) HB5.out.size ?_))
          intro v7 w7 hown7 hgrow7
          obtain ⟨oa7, oc7, rfl⟩ := ownsRow_slice hown7
          have HB7 := Lib.hid (HB5.out.grown hgrow7 HB5.out.size (fun g hg => by cases hg))
          have HO7 := Lib.hid (show w7.ownsRow w.heap.size 77 2 (.slice oa7 K oc7) K (xs.take (K * 2)) by simpa using hown7)
          have hs7 := HB7.out.size
          clear hown7 hgrow7
          have p0 := cell_keep HB7.out P0.out
          go_wp2_with fail
          refine (HCM.out _ HB7.out).mono ?_
          rintro e wz ⟨rfl, hbz⟩
          replace HO7 := Lib.hid (Below.ownsRow' hbz HO7.out)
          replace HB7 := Lib.hid (stepB HB7.out hbz)
          obtain ⟨w7, rfl⟩ : ∃ w7, w7 = wz := ⟨_, rfl⟩
          have hs7 := HB7.out.size
          clear hbz p0
          go_wp2_with (at_builtin; go_must (refine wpList_append_own _ rfl _ _ 42 rfl w.heap.size 77 i0 _ 2 32 Tryz.underlying42 hi0 hz0 hz1 hz2 rfl (by decide) _ K (xs.take (K * 2)) rfl (HO7.out.alloc _) ⟨w7.heap.size, 0, none⟩ 1 1 [.slice ra rn rc, .int .i64 u.diff] rfl rfl (World.news_of_block (cs := #[.slice ra rn rc, .int .i64 u.diff]) (heap_alloc_new _ _)) (by intro y hy; simp at hy; rcases hy with rfl | rfl <;> rfl) (by unfold maxLen; omega) (by omega) (by simp <;> omega) ?_))
          intro v8 w8 hown8 hgrow8 _
          obtain ⟨oa8, oc8, rfl⟩ := ownsRow_slice hown8
          have HB8 := Lib.hid ((HB7.out.alloc HB7.out.size (.cells #[.slice ra rn rc, .int .i64 u.diff] 77)).grown hgrow8 (by have := HB7.out.size; simp <;> omega) (fun q hq => (HO7.out.lt q hq).1))
          have HO8 := Lib.hid hown8
          have hs8 := HB8.out.size
          clear hown8 hgrow8
          have hels8 : Els2 w8 (xs.take (K * 2) ++ [.slice ra rn rc, .int .i64 u.diff]) (us.take K ++ [u]) := ((HELS.out.below HB8.out).take (k := K) (by have := EN.out; omega)).append (Els2.one (u := u) (HRU.out.below HB8.out))
          have HELS8 := Lib.hid hels8
          clear hels8
          by_cases hlast : n - K = 0
          · have hend : us.drop K = [] := List.drop_eq_nil_of_le (by have := EN.out; omega)
            have HEND := Lib.hid (show CtsAt w8 (.slice oa8 (K + 1) oc8) (addC us u) by rw [HADD.out, hend, List.append_nil]; exact (HELS8.out.at HO8.out).2)
            clear hend
            by_cases hcK : c - K = 0
            all_goals
              go_wp2_with (at_builtin; go_must (refine wpList_append_zero rfl _ _ 42 rfl w.heap.size 77 i0 2 Tryz.underlying42 hi0 _ (K + 1) _ rfl HO8.out _ _ _ rfl (by first | rfl | exact hlast | omega) ?_))
              go_ret
              exact ⟨_, rfl, HEND.out, owns_cap HO8.out, HB8.out⟩
          · have hcK : ¬ (c - K = 0) := by omega
            have hm0 : 0 < n - K := by omega
            have hend : ∀ W v, W.ownsRow w.heap.size 77 2 v (K + 1 + (n - K)) (xs.take (K * 2) ++ [.slice ra rn rc, .int .i64 u.diff] ++ xs.drop (K * 2)) → Below w.heap.size w W → CtsAt W v (addC us u) := fun W v ho HB => by
              have HB := Lib.hid HB
              have he := (((HELS.out.below HB.out).take (k := K) (by have := EN.out; omega)).append (Els2.one (u := u) (HRU.out.below HB.out))).append ((HELS.out.drop K).below HB.out)
              rw [HADD.out]
              exact (he.at ho).2
            have HEND := Lib.hid hend
            clear hend
            have HCD := Lib.hid (cells_drop2 (k := K) HB8.out HCELL.out)
            go_wp2_with (at_builtin; go_must (refine wpList_append_lies _ rfl _ _ 42 rfl w.heap.size 77 i0 _ 2 32 Tryz.underlying42 hi0 hz0 hz1 hz2 rfl (by decide) _ (K + 1) _ rfl HO8.out ⟨b, o + K * 2, none⟩ (n - K) _ (xs.drop (K * 2)) rfl (by rw [List.length_drop, HELS.out.len]; have := EN.out; omega) HCD.out (fun y hy => HELS.out.ones y (List.mem_of_mem_drop hy)) hm0 (by unfold maxLen; omega) (by omega) hs8 _ rfl ?_))
            intro g9 cap9 w9 hown9 hgrow9 _ _
            have HB9 := Lib.hid (HB8.out.grown hgrow9 hs8 (fun g hg => (HO8.out.lt g hg).1))
            have HO9 := Lib.hid hown9
            clear hown9 hgrow9
            go_wp2_with fail
            go_ret
            exact ⟨.slice (some ⟨g9, 0, none⟩) (K + 1 + (n - K)) cap9, rfl, HEND.out _ _ (by have := HO9.out; simp only [List.append_assoc, List.cons_append, List.nil_append] at this ⊢; exact this) HB9.out, owns_cap HO9.out, HB9.out⟩
    · have HCUT := Lib.hid (cutC_of (u := u) (l := us) (k := K) (by rw [← EN.out]; exact hk) HLOW.out (fun y hy => by rw [List.getElem?_eq_none (by have := EN.out; omega)] at hy; cases hy))
      have HADD := Lib.hid (show addC us u = us.take K ++ [u] ++ us.drop K by unfold addC; rw [HCUT.out, List.getElem?_eq_none (by have := EN.out; omega)])
      obtain ⟨w5, rfl⟩ : ∃ w5, w5 = wr := ⟨_, rfl⟩
      have HB5 := HBR
      go_wp2_with (at_builtin; go_must (refine wpList_append_any _ rfl _ _ 42 rfl w.heap.size 77 i0 _ 2 32 Tryz.underlying42 hi0 hz0 hz1 hz2 rfl (by decide) (.slice none 0 0) 0 [] rfl (World.ownsRow_nil _ _ _ _) _ _ _ (xs.take (K * 2)) rfl (fun e => ⟨by have := (HNIL.out e).2; have := EN.out; simp_all, (HNIL.out e).1⟩) (by rw [List.length_take, HELS.out.len]; have := EN.out; omega) (fun ad e j y hy => cell_keep HB5.out (HCELL.out ad e j y (by rw [List.getElem?_take] at hy; split at hy; exact hy; cases hy))) (fun y hy => HELS.out.ones y (mem_take' hy)) (by unfold maxLen; omega) (by omega) HB5.out.size ?_))
      intro v7 w7 hown7 hgrow7
      obtain ⟨oa7, oc7, rfl⟩ := ownsRow_slice hown7
      have HB7 := Lib.hid (HB5.out.grown hgrow7 HB5.out.size (fun g hg => by cases hg))
      have HO7 := Lib.hid (show w7.ownsRow w.heap.size 77 2 (.slice oa7 K oc7) K (xs.take (K * 2)) by simpa using hown7)
      have hs7 := HB7.out.size
      clear hown7 hgrow7
      go_wp2_with (at_builtin; go_must (refine wpList_append_own _ rfl _ _ 42 rfl w.heap.size 77 i0 _ 2 32 Tryz.underlying42 hi0 hz0 hz1 hz2 rfl (by decide) _ K (xs.take (K * 2)) rfl (HO7.out.alloc _) ⟨w7.heap.size, 0, none⟩ 1 1 [.slice ra rn rc, .int .i64 u.diff] rfl rfl (World.news_of_block (cs := #[.slice ra rn rc, .int .i64 u.diff]) (heap_alloc_new _ _)) (by intro y hy; simp at hy; rcases hy with rfl | rfl <;> rfl) (by unfold maxLen; omega) (by omega) (by simp <;> omega) ?_))
      intro v8 w8 hown8 hgrow8 _
      obtain ⟨oa8, oc8, rfl⟩ := ownsRow_slice hown8
      have HB8 := Lib.hid ((HB7.out.alloc HB7.out.size (.cells #[.slice ra rn rc, .int .i64 u.diff] 77)).grown hgrow8 (by have := HB7.out.size; simp <;> omega) (fun q hq => (HO7.out.lt q hq).1))
      have HO8 := Lib.hid hown8
      have hs8 := HB8.out.size
      clear hown8 hgrow8
      have hels8 : Els2 w8 (xs.take (K * 2) ++ [.slice ra rn rc, .int .i64 u.diff]) (us.take K ++ [u]) := ((HELS.out.below HB8.out).take (k := K) (by have := EN.out; omega)).append (Els2.one (u := u) (HRU.out.below HB8.out))
      have HELS8 := Lib.hid hels8
      clear hels8
      have hlast : n - K = 0 := by omega
      have hend : us.drop K = [] := List.drop_eq_nil_of_le (by have := EN.out; omega)
      have HEND := Lib.hid (show CtsAt w8 (.slice oa8 (K + 1) oc8) (addC us u) by rw [HADD.out, hend, List.append_nil]; exact (HELS8.out.at HO8.out).2)
      clear hend
      by_cases hcK : c - K = 0
      all_goals
        go_wp2_with (at_builtin; go_must (refine wpList_append_zero rfl _ _ 42 rfl w.heap.size 77 i0 2 Tryz.underlying42 hi0 _ (K + 1) _ rfl HO8.out _ _ _ rfl (by first | rfl | exact hlast | omega) ?_))
        go_ret
        exact ⟨_, rfl, HEND.out, owns_cap HO8.out, HB8.out⟩
end Go.Proofs.YtlpehdhgdpeoeaaGreatDoor
