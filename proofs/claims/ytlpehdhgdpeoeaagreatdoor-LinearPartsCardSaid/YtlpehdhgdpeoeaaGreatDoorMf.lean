import Derived.Test.YtlpehdhgdpeoeaaGreatDoorMd
import Derived.Test.YtlpehdhgdpeoeaaGreatDoorMb
import Derived.Test.YtlpehdhgdpeoeaaGreatDoorMc
/- linear.Map, Project, Negate. -/
namespace Go.Proofs.YtlpehdhgdpeoeaaGreatDoor
open Go.RowKit Go.Pen Go.Shelf
attribute [local go_sem] Oper.semAt_some

theorem eval_fits {r : List Dat} (hr : ∀ d ∈ r, d.fits) {e : ET} (he : e.fits) : (evalR r e).1.fits := by
  unfold evalR
  split
  · next h =>
    have hg := h.1
    simp only [ET.may, Bool.and_eq_true] at hg
    split
    · exact (val_ok r hr e _ he hg.1).1
    · exact zero_fits
  · exact zero_fits
theorem mapE_num {r : List Dat} (hr : ∀ d ∈ r, d.fits) : ∀ {es : List ET}, (∀ e ∈ es, e.fits) → mapE r es ≤ 65535
  | [], _ => by simp [mapE]
  | e :: es, h => by
    unfold mapE
    split
    · exact evalR_num hr (h e (by simp))
    · exact mapE_num hr fun x hx => h x (by simp [hx])
theorem mapE_zero {r : List Dat} : ∀ {es : List ET}, mapE r es = 0 → ∀ e ∈ es, (evalR r e).2 = 0
  | [], _, _, he => by cases he
  | e :: es, h, x, hx => by
    unfold mapE at h
    split at h
    · next h0 => exact absurd h h0
    · next h0 =>
      rcases List.mem_cons.1 hx with rfl | hx
      · simpa using h0
      · exact mapE_zero h x hx
/-- what Map does to an update -/
def mapD (es : List ET) : Does := fun u => if mapE u.row es = 0 then ({ u with row := mapV u.row es }, true, 0) else (u, false, mapE u.row es)

set_option maxRecDepth 100000 in
set_option maxHeartbeats 1000000 in
theorem map_12 (us : List Upd) (es : List ET) (a : Option Addr) (uc : Nat) (ev : Value) (w : World) (hus : UpsAt w (.slice a us.length uc) us) (hn : us.length ≤ 300) (fus : ∀ u ∈ us, u.fits) (hes : ExprsAt w ev es) (fes : ∀ e ∈ es, e.fits) (hel : es.length ≤ 1073741824)
    (hT : Lib.Utf8Tabs 1 2 w) (hE : ErrTy w) (h3 : 3 ≤ w.heap.size) :
    Calls Tryz.prog 12 #[.slice a us.length uc, ev] w fun e w' => ∃ ov ew, e = .returned (.tuple #[ov, ew]) ∧ UpsAt w' ov (keepF (mapD es) us) ∧ UpsAt w' ew (errF (mapD es) us) ∧ Below w.heap.size w w' := by
  obtain ⟨ea, ec, eev, -, -⟩ := ExprsAt.iff.1 hes
  subst eev
  obtain ⟨w1, hw1⟩ : ∃ w1, w1 = w.alloc (.cells #[.slice ea es.length ec] 23) := ⟨_, rfl⟩
  have hb1 : Below w.heap.size w w1 := by rw [hw1]; exact one_below _ _
  have hs1 : w1.heap.size = w.heap.size + 1 := by rw [hw1]; simp
  have hy1 : w1.heap[w.heap.size]? = some (.cells #[.slice ea es.length ec] 23 (0, 0)) := by rw [hw1]; exact heap_alloc_new _ _
  have hk := kept_23m (mapD es) us a uc w1 w1.heap.size w.heap.size rfl (hus.below hb1) hn fus (fun u p rv lv outs errs W hu he hps hJ hp hut => by
    have hbw : Below w1.heap.size w1 W := hJ.1.below
    have hbb : Below w.heap.size w W := hb1.trans (hbw.mono (by omega))
    obtain ⟨ra, rc, erv, -, -⟩ := id hut.row
    subst erv
    have hnum : (mapD es u).2.2 ≤ 65535 := by
      unfold mapD
      split
      · exact Nat.zero_le _
      · exact mapE_num (fus u hu).row fes
    refine kept1_44m w1 w1.heap.size w.heap.size _ _ outs errs p (mapD es u).1 (mapD es u).2.1 (mapD es u).2.2 W hJ hps (by omega) hnum ?_
    refine (map1_29 u.row es p w.heap.size ra rc u.epoch lv u.diff _ W hp hut.rowAt (fus u hu).row (fus u hu).lr ((hbw.block _ (by omega)).trans hy1) (hes.below hbb) fes hel (tabs_below hT hbb h3) (cell_keep hbb hE) (Nat.le_trans h3 hbb.size)).mono ?_
    rintro e W' (⟨h0, rv', rfl, hp', ht', hb', hk'⟩ | ⟨h0, rfl, hb⟩)
    · unfold mapD
      simp only [if_pos h0]
      exact ⟨rv', lv, rfl, hp', ⟨ht', (hut.kt hk').loops⟩, hb', hk'⟩
    · unfold mapD
      simp only [if_neg h0]
      exact ⟨_, lv, (by first | rfl | trivial), keepB hp hb, hut.kt (Kt.of_below hb), But.of_below hb, Kt.of_below hb⟩)
  rw [hw1] at hk
  have HK := Lib.hid hk
  clear hk hw1 hb1 hs1 hy1
  go_enter Tryz.func12, Tryz.ntmps12
  go_wp2_with (go_at_call 23; refine HK.out.mono ?_; rintro e w5 ⟨ov, ew, rfl, ho, hew, hb5⟩)
  go_ret2
  exact ⟨ov, ew, rfl, ho, hew, (one_below _ _).trans (hb5.mono (by simp))⟩

set_option maxRecDepth 100000 in
set_option maxHeartbeats 1000000 in
theorem project_13 (us : List Upd) (cs : List Int) (a : Option Addr) (uc : Nat) (cv : Value) (w : World) (hus : UpsAt w (.slice a us.length uc) us) (hn : us.length ≤ 300) (fus : ∀ u ∈ us, u.fits) (hc : IntsOn (fun _ => True) w cs cv) (hcl : cs.length ≤ 1073741824) :
    Calls Tryz.prog 13 #[.slice a us.length uc, cv] w fun e w' => ∃ ov, e = .returned ov ∧ UpsAt w' ov (allF (projR cs) us) ∧ Below w.heap.size w w' := by
  obtain ⟨ca, cc, ecv, -, -⟩ := id hc
  subst ecv
  obtain ⟨w1, hw1⟩ : ∃ w1, w1 = w.alloc (.cells #[.slice ca cs.length cc] 32) := ⟨_, rfl⟩
  have hb1 : Below w.heap.size w w1 := by rw [hw1]; exact one_below _ _
  have hs1 : w1.heap.size = w.heap.size + 1 := by rw [hw1]; simp
  have hy1 : w1.heap[w.heap.size]? = some (.cells #[.slice ca cs.length cc] 32 (0, 0)) := by rw [hw1]; exact heap_alloc_new _ _
  have hk := all_32 (projR cs) 33 #[.pointer (some ⟨w.heap.size, 0, none⟩)] (enters_of Tryz.func33 (by kernel_rfl) rfl) us a uc w1 w1.heap.size rfl (hus.below hb1) hn fus (fun u p rv lv outs W hu hps hJ hp hut => by
    have hbw : Below w1.heap.size w1 W := hJ.1
    have hbb : Below w.heap.size w W := hb1.trans (hbw.mono (by omega))
    obtain ⟨ra, rc, erv, -, -⟩ := id hut.row
    subst erv
    refine (project1_33 u.row cs p w.heap.size ra rc u.epoch lv u.diff _ W hp hut.rowAt (fus u hu).lr ((hbw.block _ (by omega)).trans hy1) (hc.below hbb) hcl).mono ?_
    rintro e W' ⟨rv', rfl, hp', ht', hb', hk'⟩
    exact ⟨rv', lv, rfl, hp', ⟨ht', (hut.kt hk').loops⟩, hb', hk'⟩)
  rw [hw1] at hk
  have HK := Lib.hid hk
  clear hk hw1 hb1 hs1 hy1
  go_enter Tryz.func13, Tryz.ntmps13
  go_wp2_with (go_at_call 32; refine HK.out.mono ?_; rintro e w5 ⟨ov, rfl, ho, hb5⟩)
  go_ret
  exact ⟨ov, rfl, ho, (one_below _ _).trans (hb5.mono (by simp))⟩

set_option maxRecDepth 100000 in
set_option maxHeartbeats 1000000 in
theorem negate_15 (us : List Upd) (a : Option Addr) (uc : Nat) (w : World) (hus : UpsAt w (.slice a us.length uc) us) (hn : us.length ≤ 300) (fus : ∀ u ∈ us, u.fits) :
    Calls Tryz.prog 15 #[.slice a us.length uc] w fun e w' => ∃ ov, e = .returned ov ∧ UpsAt w' ov (allF negR us) ∧ Below w.heap.size w w' := by
  have hk := all_32 negR 36 #[] (enters_of Tryz.func36 (by kernel_rfl) rfl) us a uc w w.heap.size rfl hus hn fus (fun u p rv lv outs W hu hps hJ hp hut => by
    refine (negate1_36 rv lv u p W hp).mono ?_
    rintro e W' ⟨rfl, rfl⟩
    have hp2 : (W.setCell ⟨p, 3, none⟩ (.int .i64 (wrap64 (-u.diff)))).heap[p]? = some (.cells (upV rv lv (negR u).1) 51 (0, 0)) := by rw [heap_set_same hp]; rfl
    have hne : ∀ k, k ≠ p → (W.setCell ⟨p, 3, none⟩ (.int .i64 (wrap64 (-u.diff)))).heap[k]? = W.heap[k]? := fun k hk => heap_set_ne hk
    have hs : (W.setCell ⟨p, 3, none⟩ (.int .i64 (wrap64 (-u.diff)))).heap.size = W.heap.size := by simp [World.setCell]
    have hkt : Kt W (W.setCell ⟨p, 3, none⟩ (.int .i64 (wrap64 (-u.diff)))) := Kt.but hp (by decide) (by omega) fun k _ hk => hne k hk
    exact ⟨rv, lv, rfl, hp2, ⟨(hut.kt hkt).row, (hut.kt hkt).loops⟩, ⟨rfl, rfl, rfl, by omega, fun k _ hk => hne k hk⟩, hkt⟩)
  have HK := Lib.hid hk
  clear hk
  go_enter Tryz.func15, Tryz.ntmps15
  go_wp2_with (go_at_call 32; refine HK.out.mono ?_; rintro e w5 ⟨ov, rfl, ho, hb5⟩)
  go_ret
  exact ⟨ov, rfl, ho, hb5⟩
end Go.Proofs.YtlpehdhgdpeoeaaGreatDoor
