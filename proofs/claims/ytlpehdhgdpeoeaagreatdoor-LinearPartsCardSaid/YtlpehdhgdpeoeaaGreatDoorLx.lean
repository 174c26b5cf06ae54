import Derived.Test.YtlpehdhgdpeoeaaGreatDoorLw
/- kept at Map's closure. -/
namespace Go.Proofs.YtlpehdhgdpeoeaaGreatDoor
open Go.RowKit Go.Pen Go.Shelf
attribute [local go_sem] Oper.semAt_some

set_option maxRecDepth 100000 in
set_option maxHeartbeats 1000000 in
theorem kept1_44m (w : World) (s Y : Nat) (lv clos : Value) (outs errs : List Upd) (p : Nat) (u' : Upd) (kb : Bool) (n : Nat) (W : World) (hJ : JK w s (.func (.func 29) #[] #[.pointer (some ⟨Y, 0, none⟩)]) lv clos outs errs (· = p) W) (hps : s + 5 ≤ p) (hlen : errs.length ≤ 1000000) (hn : n ≤ 65535)
    (hdo : Calls Tryz.prog 29 #[.pointer (some ⟨p, 0, none⟩), .pointer (some ⟨Y, 0, none⟩)] W fun e W' => ∃ rv' lv', e = .returned (.tuple #[.bool kb, .int .u16 n]) ∧ W'.heap[p]? = some (.cells (upV rv' lv' u') 51 (0, 0)) ∧ UpT W' rv' lv' u' ∧ But p W W' ∧ Kt W W') :
    Calls Tryz.prog 44 #[.pointer (some ⟨p, 0, none⟩), .pointer (some ⟨s, 0, none⟩), .pointer (some ⟨s + 2, 0, none⟩)] W fun e W' => ∃ rv' lv', e = .returned (.bool (kb && n == 0)) ∧ W'.heap[p]? = some (.cells (upV rv' lv' u') 51 (0, 0)) ∧ UpT W' rv' lv' u' ∧
      JK w s (.func (.func 29) #[] #[.pointer (some ⟨Y, 0, none⟩)]) lv clos outs (if n = 0 then errs else errs ++ [errU u' n]) (· = p) W' ∧ Kt W W' := by
  obtain ⟨i0, hi0, hz0, hz1, hz2⟩ := info_parts info51
  have HJ := Lib.hid hJ
  have y0 := cell_of_heap (o := 0) hJ.1.b0 rfl
  have HDO := Lib.hid hdo
  clear hJ hdo
  go_enter Tryz.func44, Tryz.ntmps44
  by_cases hn0 : n = 0
  · subst hn0
    go_wp2_with (go_at_call 29; refine HDO.out.mono ?_; rintro e w1 ⟨rv1, lv1, rfl, hp1, hu1, hb1, hk1⟩)
    all_goals (go_ret; exact ⟨rfl, rv1, lv1, hp1, hu1, HJ.out.but rfl hps hb1 hk1, hk1⟩)
  · have hn1 : ((n : Int) != 0) = true := by simp; omega
    go_upto_region 5 with (go_at_call 29; refine HDO.out.mono ?_; rintro e w1 ⟨rv1, lv1, rfl, hp1, hu1, hb1, hk1⟩; have HU1 := Lib.hid hu1; have HP1 := Lib.hid hp1; have HB1 := Lib.hid hb1; have HK1 := Lib.hid hk1; obtain ⟨ra, rc, rfl, -, -⟩ := hu1.row; obtain ⟨la, lc, rfl, -, -⟩ := hu1.loops; obtain ⟨rn, ern⟩ : ∃ rn, rn = u'.row.length := ⟨_, rfl⟩; obtain ⟨ln, eln⟩ : ∃ ln, ln = u'.loops.length := ⟨_, rfl⟩; rw [← ern, ← eln] at hp1 HP1 HU1; have q0 : w1.cell? ⟨p, 0, none⟩ = some (.slice ra rn rc) := cell_of_heap hp1 rfl; have q1 : w1.cell? ⟨p, 1, none⟩ = some (.int .u64 u'.epoch) := cell_of_heap hp1 rfl; have q2 : w1.cell? ⟨p, 2, none⟩ = some (.slice la ln lc) := cell_of_heap hp1 rfl; have q3 : w1.cell? ⟨p, 3, none⟩ = some (.int .i64 u'.diff) := cell_of_heap hp1 rfl; clear ern eln hu1 hp1 hb1 hk1)
    obtain ⟨F, eF⟩ : ∃ F, F = w1.heap.size := ⟨_, rfl⟩
    obtain ⟨w2, hw2⟩ : ∃ w2, w2 = (w1.alloc (.cells #[.slice (some ⟨F + 1, 0, none⟩) 1 1, .int .u64 u'.epoch, .slice la ln lc, .int .i64 u'.diff] 51)).alloc (.cells #[.int .u8 3, .bool false, .int .i64 n, .string ⟨#[]⟩] 55) := ⟨_, rfl⟩
    have hb2 : Below w1.heap.size w1 w2 := by rw [hw2]; exact two_below _ _ _
    have hF : w2.heap[F]? = some (.cells #[.slice (some ⟨F + 1, 0, none⟩) 1 1, .int .u64 u'.epoch, .slice la ln lc, .int .i64 u'.diff] 51 (0, 0)) := by rw [hw2, eF]; exact keepAt' (heap_alloc_new _ _) _
    have hD : w2.heap[F + 1]? = some (.cells #[.int .u8 3, .bool false, .int .i64 n, .string ⟨#[]⟩] 55 (0, 0)) := by rw [hw2, eF]; have := heap_alloc_new (w1.alloc (.cells #[.slice (some ⟨w1.heap.size + 1, 0, none⟩) 1 1, .int .u64 u'.epoch, .slice la ln lc, .int .i64 u'.diff] 51)) (.cells #[.int .u8 3, .bool false, .int .i64 n, .string ⟨#[]⟩] 55); rw [World.size_alloc] at this; exact this
    rw [← eF, ← hw2]
    have hk2 := Kt.of_below hb2
    have hj2 := (HJ.out.but rfl hps HB1.out HK1.out).but rfl hps (But.of_below hb2) hk2
    have hu2 : UpT w2 (.slice (some ⟨F + 1, 0, none⟩) 1 1) (.slice la ln lc) (errU u' n) := ⟨⟨_, _, rfl, ⟨(fun h => by cases h), Nat.le_refl _⟩, fun _ => ⟨_, _, rfl, hD, fun j u hu => by
      simp only [errU, rowCells, List.flatMap_cons, List.flatMap_nil, Dat.cells, num, List.append_nil] at hu
      simpa using hu⟩⟩, (HU1.out.kt hk2).loops⟩
    have HP2 := Lib.hid (keepB HP1.out hb2)
    have HK2 := Lib.hid (HK1.out.trans hk2)
    have HU2 := Lib.hid hu2
    have HV2 := Lib.hid (HU1.out.kt hk2)
    obtain ⟨⟨bl, b0, b3, b4⟩, ov, xs, ev, ys, h1, h2, h3, h4, h5, h6, h7, h8⟩ := hj2
    have x0 : w2.cell? ⟨F, 0, none⟩ = some (.slice (some ⟨F + 1, 0, none⟩) 1 1) := cell_of_heap hF rfl
    have x1 : w2.cell? ⟨F, 1, none⟩ = some (.int .u64 u'.epoch) := cell_of_heap hF rfl
    have x2 : w2.cell? ⟨F, 2, none⟩ = some (.slice la ln lc) := cell_of_heap hF rfl
    have x3 : w2.cell? ⟨F, 3, none⟩ = some (.int .i64 u'.diff) := cell_of_heap hF rfl
    have x4 : w2.cell? ⟨s + 2, 0, none⟩ = some ev := cell_of_heap h2 rfl
    obtain ⟨ea, ec, rfl⟩ := ownsRow_slice h4
    have hs2 := lt_of_heap b4
    have HBX := Lib.hid (Box.mk bl b0 b3 b4)
    have H1 := Lib.hid h1
    have H2 := Lib.hid h2
    have H3 := Lib.hid h3
    have H4 := Lib.hid h4
    have H5 := Lib.hid h5
    have H6 := Lib.hid h6
    have H7 := Lib.hid h7
    have H8 := Lib.hid h8
    have hpF : p ≠ s + 2 := by omega
    clear hw2 hF hD hb2 hk2 hu2 bl b0 b3 b4 h1 h2 h3 h4 h5 h6 h7 h8 q0 q1 q2 q3 HP1 HK1 HU1 HB1 eF y0 HDO
    go_wp2_with (at_builtin; go_must (refine wpList_append_lies _ rfl _ _ 22 rfl (s + 5) 51 i0 _ 4 64 Tryz.underlying22 hi0 hz0 hz1 hz2 rfl (by decide) _ errs.length ys rfl (H4.out.alloc _) ⟨w2.heap.size, 0, none⟩ 1 1 [.slice (some ⟨F + 1, 0, none⟩) 1 1, .int .u64 u'.epoch, .slice la ln lc, .int .i64 u'.diff] rfl rfl ?c1 ?c2 (by decide) ?c3 ?c4 ?c5 _ rfl ?_))
    case c2 => exact ⟨rfl, rfl, rfl, rfl⟩
    case c3 => unfold maxLen; omega
    case c4 => omega
    case c5 => omega
    intro g cap w3 hown3 hgrow3 hat3 hlt3
    obtain ⟨w2a, hw2a⟩ : ∃ w2a, w2a = w2.alloc (.cells #[.slice (some ⟨F + 1, 0, none⟩) 1 1, .int .u64 u'.epoch, .slice la ln lc, .int .i64 u'.diff] 51) := ⟨_, rfl⟩
    rw [← hw2a] at hgrow3
    have hba : Below w2.heap.size w2 w2a := by rw [hw2a]; exact one_below _ _
    have hsa : w2a.heap.size = w2.heap.size + 1 := by rw [hw2a]; simp
    have hob : ∀ k, (Value.slice ea errs.length ec).ownBlock = some k → s + 5 ≤ k ∧ k < w2.heap.size := fun k hk => H4.out.lt k hk
    have hg5 : s + 5 ≤ g := by rcases hat3 with h | h <;> first | exact (hob g h).1 | omega
    have hold : ∀ k y, w2.heap[k]? = some y → (Value.slice ea errs.length ec).ownBlock ≠ some k → w3.heap[k]? = some y := fun k y hk hne => (hgrow3.block k (by have := lt_of_heap hk; omega) (Ne.symm hne)).trans (keepB hk hba)
    have hne : ∀ k, k < s + 5 → (Value.slice ea errs.length ec).ownBlock ≠ some k := fun k hk e => by have := (hob k e).1; omega
    have e2 := hold _ _ H2.out (hne _ (by omega))
    have z2 := cell_of_heap (o := 0) e2 rfl
    have g2 := frozen_of_heap (o := 0) e2
    have hk3 : Kt w2 w3 := (Kt.of_below hba).trans (Kt.grown (by rw [hw2a]; exact H4.out.alloc _) hgrow3)
    have hb3 : Below s w w3 := (HBX.out.below.trans ((hba.mono (by omega)))).grown hgrow3 (by omega) (fun k hk => by have := (hob k hk).1; omega)
    have hfin : JK w s (.func (.func 29) #[] #[.pointer (some ⟨Y, 0, none⟩)]) lv clos outs (errs ++ [errU u' n]) (· = p) (w3.setCell ⟨s + 2, 0, none⟩ (.slice (some ⟨g, 0, none⟩) (errs.length + 1) cap)) ∧ Kt W (w3.setCell ⟨s + 2, 0, none⟩ (.slice (some ⟨g, 0, none⟩) (errs.length + 1) cap)) ∧ (w3.setCell ⟨s + 2, 0, none⟩ (.slice (some ⟨g, 0, none⟩) (errs.length + 1) cap)).heap[p]? = some (.cells (upV (.slice ra rn rc) (.slice la ln lc) u') 51 (0, 0)) ∧ UpT (w3.setCell ⟨s + 2, 0, none⟩ (.slice (some ⟨g, 0, none⟩) (errs.length + 1) cap)) (.slice ra rn rc) (.slice la ln lc) u' := by
      obtain ⟨w4, hw4⟩ : ∃ w4, w4 = w3.setCell ⟨s + 2, 0, none⟩ (.slice (some ⟨g, 0, none⟩) (errs.length + 1) cap) := ⟨_, rfl⟩
      rw [← hw4]
      have hs4 : w4.heap.size = w3.heap.size := by rw [hw4]; simp [World.setCell]
      have h34 : ∀ k, k ≠ s + 2 → w4.heap[k]? = w3.heap[k]? := fun k hk => by rw [hw4]; exact heap_set_ne hk
      have hk4 : Kt w3 w4 := Kt.but e2 (by decide) (by omega) fun k _ hk => h34 k hk
      have hu4 := hk3.trans hk4
      have hp4 : w4.heap[p]? = some (.cells (upV (.slice ra rn rc) (.slice la ln lc) u') 51 (0, 0)) := (h34 p (by omega)).trans (hold _ _ HP2.out (fun e => (H6.out p e) rfl))
      have h24 : w4.heap[s + 2]? = some (.cells #[.slice (some ⟨g, 0, none⟩) (errs.length + 1) cap] 22 (0, 0)) := by rw [hw4, heap_set_same e2]; rfl
      have hgo : ∀ k, ov.ownBlock = some k → (Value.slice ea errs.length ec).ownBlock ≠ some k := fun k hk => (H5.out k hk).2
      refine ⟨⟨⟨by rw [hw4]; exact hb3.setCell (p := ⟨s + 2, 0, none⟩) (by show s ≤ s + 2; omega) _, (h34 _ (by omega)).trans (hold _ _ HBX.out.b0 (hne _ (by omega))), (h34 _ (by omega)).trans (hold _ _ HBX.out.b3 (hne _ (by omega))), (h34 _ (by omega)).trans (hold _ _ HBX.out.b4 (hne _ (by omega)))⟩, ov, xs, _, _, (h34 _ (by omega)).trans (hold _ _ H1.out (hne _ (by omega))), h24, ?_, ?_, ?_, ?_, H7.out.kt hu4, H8.out.kt hu4 |>.snoc (HU2.out.kt hu4)⟩, HK2.out.trans hu4, hp4, HV2.out.kt hu4⟩
      · refine owns_same H3.out fun k hk => ?_
        obtain ⟨hl1, hl2⟩ := H3.out.lt k hk
        rw [h34 k (by omega), hgrow3.block k (by omega) (Ne.symm (hgo k hk)), hba.block k hl2]
      · rw [List.length_append]
        exact owns_same hown3 fun k hk => h34 k (by simp [Value.ownBlock] at hk; omega)
      · intro k hk
        refine ⟨(H5.out k hk).1, ?_⟩
        have hl := (H3.out.lt k hk).2
        intro e
        simp [Value.ownBlock] at e
        subst e
        rcases hat3 with h | h
        · exact hgo g hk h
        · omega
      · intro k hk e
        simp [Value.ownBlock] at hk
        subst hk
        have hl := lt_of_heap HP2.out
        rcases hat3 with h | h
        · exact H6.out g h e
        · subst e; omega
    have HFIN := Lib.hid hfin
    clear hfin hown3 hgrow3 hat3 hlt3 hw2a hba hsa hob hg5 hold hne hk3 hb3 e2
    have hnn : (n == 0) = false := by simp [hn0]
    rcases kb with _ | _
    all_goals
      go_wp2_with fail
      go_ret
      exact ⟨by first | rfl | (simp; omega), _, _, HFIN.out.2.2.1, HFIN.out.2.2.2, HFIN.out.1, HFIN.out.2.1⟩

set_option maxRecDepth 100000 in
set_option maxHeartbeats 1000000 in
theorem each1_57m (D : Does) (us : List Upd) (a : Option Addr) (uc : Nat) (w : World) (s Y : Nat) (hs : s = w.heap.size) (hus : UpsAt w (.slice a us.length uc) us) (hn : us.length ≤ 300) (fus : ∀ u ∈ us, u.fits)
    (hdo : ∀ (u : Upd) (p : Nat) (rv lv : Value) (outs errs : List Upd) (W : World), u ∈ us → errs.length ≤ 300 → s + 5 ≤ p → JK w s (.func (.func 29) #[] #[.pointer (some ⟨Y, 0, none⟩)]) (.slice a us.length uc) (.func (.func 44) #[] #[.pointer (some ⟨s, 0, none⟩), .pointer (some ⟨s + 2, 0, none⟩)]) outs errs (· = p) W → W.heap[p]? = some (.cells (upV rv lv u) 51 (0, 0)) → UpT W rv lv u →
      Calls Tryz.prog 44 #[.pointer (some ⟨p, 0, none⟩), .pointer (some ⟨s, 0, none⟩), .pointer (some ⟨s + 2, 0, none⟩)] W fun e W' => ∃ rv' lv', e = .returned (.bool ((D u).2.1 && (D u).2.2 == 0)) ∧ W'.heap[p]? = some (.cells (upV rv' lv' (D u).1) 51 (0, 0)) ∧ UpT W' rv' lv' (D u).1 ∧
        JK w s (.func (.func 29) #[] #[.pointer (some ⟨Y, 0, none⟩)]) (.slice a us.length uc) (.func (.func 44) #[] #[.pointer (some ⟨s, 0, none⟩), .pointer (some ⟨s + 2, 0, none⟩)]) outs (if (D u).2.2 = 0 then errs else errs ++ [errU (D u).1 (D u).2.2]) (· = p) W' ∧ Kt W W') (n : Nat) :
    SeqIx Fence.wide n Tryz.prog 57 #[.pointer (some ⟨s + 3, 0, none⟩), .pointer (some ⟨s + 4, 0, none⟩)] (fun x : Value => #[x]) us.length
      (fun i W => JK w s (.func (.func 29) #[] #[.pointer (some ⟨Y, 0, none⟩)]) (.slice a us.length uc) (.func (.func 44) #[] #[.pointer (some ⟨s, 0, none⟩), .pointer (some ⟨s + 2, 0, none⟩)]) (keepF D (us.take i)) (errF D (us.take i)) (fun _ => False) W)
      (fun i x W => ∃ u u' rv lv, us[i]? = some u ∧ (D u) = (u', true, 0) ∧ x = .agg (upV rv lv u') ∧ UpT W rv lv u' ∧ JK w s (.func (.func 29) #[] #[.pointer (some ⟨Y, 0, none⟩)]) (.slice a us.length uc) (.func (.func 44) #[] #[.pointer (some ⟨s, 0, none⟩), .pointer (some ⟨s + 2, 0, none⟩)]) (keepF D (us.take i)) (errF D (us.take i)) (fun _ => False) W) (s + 5) := by
  intro l R W hR hl h0 hr0 hY
  obtain ⟨K, eK⟩ : ∃ K, K = us.length := ⟨_, rfl⟩
  have HUS := Lib.hid hus
  have HSS := Lib.hid hs
  clear hs
  have HDO := Lib.hid hdo
  have HRR := Lib.hid hR
  have HYY := Lib.hid hY
  have H0 := Lib.hid h0
  have HR0 := Lib.hid hr0
  have FUS := Lib.hid fus
  have EK := Lib.hid eK
  have hK : K ≤ 300 := by omega
  have y3 := cell_of_heap (o := 0) h0.1.b3 rfl
  rw [← eK] at y3
  clear hdo hR hY h0 hr0 hus fus eK
  have hF : ∀ f, Fence.wide.fn f := fun _ => trivial
  have hdd : Fence.wide.depth = none := rfl
  have hro : Fence.wide.round = none := rfl
  refine callsIn_of_wp Tryz.func57 rfl trivial ?_ rfl
  simp only [Tryz.ntmps57, List.size_toArray, List.length_cons, List.length_nil, Nat.reduceAdd, Nat.reduceSub, Array.replicate_succ, Array.replicate_zero, List.push_toArray, List.append_toArray, List.nil_append, List.cons_append]
  gi_wp2_with fail
  gi_loopw [8] (fun q wr => ∃ i : Nat, i ≤ K ∧ q = .int .i64 i ∧ JK w s (.func (.func 29) #[] #[.pointer (some ⟨Y, 0, none⟩)]) (.slice a us.length uc) (.func (.func 44) #[] #[.pointer (some ⟨s, 0, none⟩), .pointer (some ⟨s + 2, 0, none⟩)]) (keepF D (us.take i)) (errF D (us.take i)) (fun _ => False) wr ∧ R wr) (fun q wr => K - (intOf q).toNat)
  case atStart => exact ⟨0, Nat.zero_le _, rfl, H0.out, HR0.out⟩
  case round =>
    obtain ⟨i, hi, rfl, hj, hr⟩ := hrel
    have HJ := Lib.hid hj
    have HR := Lib.hid hr
    clear hj hr
    by_cases hlt : i < K
    · obtain ⟨u, hu⟩ : ∃ u, us[i]? = some u := ⟨us[i]'(by rw [← EK.out]; exact hlt), List.getElem?_eq_getElem _⟩
      obtain ⟨a2, c2, ha2, -, hat⟩ := id HUS.out
      cases ha2
      obtain ⟨b, o, rfl, hg⟩ := hat (fun e => by rw [e] at hu; simp at hu)
      obtain ⟨xrv, xlv, p0, p1, p2, p3, hxr, hxl⟩ := hg i u hu
      have hbw : Below w.heap.size w wr := by have := HJ.out.1.below; rw [HSS.out] at this; exact this
      have p0 := cell_keep hbw p0
      have p1 := cell_keep hbw p1
      have p2 := cell_keep hbw p2
      have p3 := cell_keep hbw p3
      have hxr := hxr.below hbw
      have hxl := hxl.below hbw
      obtain ⟨xa, xc, rfl⟩ := rowAt_slice hxr
      obtain ⟨xl, xd, rfl⟩ := hxl.slice
      obtain ⟨xn, exn⟩ : ∃ xn, xn = u.row.length := ⟨_, rfl⟩
      obtain ⟨xm, exm⟩ : ∃ xm, xm = u.loops.length := ⟨_, rfl⟩
      rw [← exn] at p0 hxr
      rw [← exm] at p2 hxl
      have HXR := Lib.hid hxr
      have HXL := Lib.hid hxl
      have HU := Lib.hid hu
      have EXN := Lib.hid exn
      have EXM := Lib.hid exm
      clear hg hat hxr hxl hu exn exm hbw
      gi_wp2_with fail
      obtain ⟨pb, epb⟩ : ∃ pb, pb = wr.heap.size := ⟨_, rfl⟩
      obtain ⟨w1, hw1⟩ : ∃ w1, w1 = wr.alloc (.cells #[.slice xa xn xc, .int .u64 u.epoch, .slice xl xm xd, .int .i64 u.diff] 51) := ⟨_, rfl⟩
      have hj1 := HJ.out.fresh (.cells #[.slice xa xn xc, .int .u64 u.epoch, .slice xl xm xd, .int .i64 u.diff] 51)
      have hp1 : w1.heap[pb]? = some (.cells #[.slice xa xn xc, .int .u64 u.epoch, .slice xl xm xd, .int .i64 u.diff] 51 (0, 0)) := by rw [hw1, epb]; exact heap_alloc_new _ _
      have hk1 : Kt wr w1 := by rw [hw1]; exact Kt.alloc _ _
      have hb1 : Below wr.heap.size wr w1 := by rw [hw1]; exact one_below _ _
      have hps : s + 5 ≤ pb := by have := lt_of_heap HJ.out.1.b4; omega
      rw [← hw1, ← epb] at hj1
      rw [← hw1, ← epb]
      have HJ1 := Lib.hid hj1
      have HP1 := Lib.hid hp1
      have HK1 := Lib.hid hk1
      have hc30 : ∀ W, Below w1.heap.size w1 W → Calls Tryz.prog 30 #[.slice xa xn xc] W fun ev w' => ∃ v', ev = .returned v' ∧ w'.ownsRow W.heap.size 55 4 v' xn (rowCells u.row) ∧ Below W.heap.size W w' := fun W hb => by
        have := clone_30 u.row _ W ((HXR.out.below hb1).below hb) (FUS.out u (List.mem_of_getElem? HU.out)).lr
        rw [← EXN.out] at this
        exact this
      have hc51 : ∀ W, Below w1.heap.size w1 W → Calls Tryz.prog 51 #[.slice xl xm xd] W fun ev w' => ∃ v', ev = .returned v' ∧ w'.ownsRow W.heap.size 33 1 v' xm (wordCells u.loops) ∧ Below W.heap.size W w' := fun W hb => by
        have := clone_51 u.loops _ W ((HXL.out.below hb1).below hb) (FUS.out u (List.mem_of_getElem? HU.out)).ll
        rw [← EXM.out] at this
        exact this
      have HC30 := Lib.hid hc30
      have HC51 := Lib.hid hc51
      have z0 : w1.cell? ⟨pb, 0, none⟩ = some (.slice xa xn xc) := cell_of_heap hp1 rfl
      have z2 : w1.cell? ⟨pb, 2, none⟩ = some (.slice xl xm xd) := cell_of_heap hp1 rfl
      clear p0 p1 p2 p3 hw1 hj1 hp1 hk1 hb1 hc30 hc51 epb
      refine wpIn_wide.2 ?_
      go_cut [] from 12 to 21 (fun wx => ∃ rv lvv, wx.heap[pb]? = some (.cells (upV rv lvv u) 51 (0, 0)) ∧ UpT wx rv lvv u ∧ But pb w1 wx ∧ Kt w1 wx)
      case first =>
        go_region_with (first | (go_at_call 30; refine (HC30.out _ (Go.Pen.below_drewN (n := 1) (Below.refl _ _))).mono ?_; rintro ev v1 ⟨r1, rfl, ho1, hb1⟩; have hbv1 : Below w1.heap.size w1 v1 := (Go.Pen.below_drewN (n := 1) (Below.refl _ _)).trans hb1; have HBV1 := Lib.hid hbv1; have HO1 := Lib.hid ho1; have z0 : v1.cell? ⟨pb, 0, none⟩ = some (.slice xa xn xc) := cell_of_heap (keepB HP1.out hbv1) rfl; have z2 : v1.cell? ⟨pb, 2, none⟩ = some (.slice xl xm xd) := cell_of_heap (keepB HP1.out hbv1) rfl; clear hbv1 ho1 hb1) | (go_at_call 51; refine (HC51.out _ HBV1.out).mono ?_; rintro ev v2 ⟨r2, rfl, ho2, hb2⟩; have hbv2 : Below w1.heap.size w1 v2 := stepB HBV1.out hb2; have hp2 := keepB HP1.out hbv2; have z0 : v2.cell? ⟨pb, 0, none⟩ = some (.slice xa xn xc) := cell_of_heap hp2 rfl; have g0 := frozen_of_heap (o := 0) hp2; have z2 : v2.cell? ⟨pb, 2, none⟩ = some (.slice xl xm xd) := cell_of_heap hp2 rfl; have g2 := frozen_of_heap (o := 2) hp2; obtain ⟨ra, rc, rfl⟩ := ownsRow_slice HO1.out; obtain ⟨la, lc, rfl⟩ := ownsRow_slice ho2; have HFIN := Lib.hid (clones_fin HP1.out hbv2 ((TyRow.of_own HO1.out).kt rfl (Kt.of_below hb2)) (TyRow.of_own ho2) EXN.out EXM.out); clear hbv2 hp2 ho2 hb2) | fail)
        all_goals
          go_wp2
          go_meet
          exact ⟨_, _, HFIN.out⟩
      obtain ⟨rv, lvv, hpx, hux, hbx, hkx⟩ := hcut
      have hjx := HJ1.out.but rfl hps hbx hkx
      have hrx := HRR.out _ _ HR.out (HK1.out.trans hkx).keeps
      have hel : (errF D (us.take i)).length ≤ 300 := Nat.le_trans (errF_len _) (by rw [List.length_take]; omega)
      have hct := HDO.out u pb rv lvv _ _ wc (List.mem_of_getElem? HU.out) hel hps hjx hpx hux
      have y4 := cell_of_heap (o := 0) hjx.1.b4 rfl
      obtain ⟨⟨u1, kb, nn⟩, eD⟩ : ∃ x, x = D u := ⟨_, rfl⟩
      rw [← eD] at hct
      simp only [] at hct
      have HCT := Lib.hid hct
      have HRX := Lib.hid hrx
      have ED := Lib.hid eD
      have htk : us.take (i + 1) = us.take i ++ [u] := by rw [List.take_add_one, HU.out]; rfl
      have HTK := Lib.hid htk
      clear hjx hrx hct hpx hux hbx hkx eD htk hel z0 z2 HC30 HC51 HP1 HJ1
      by_cases hkeep : (kb && nn == 0) = true
      · have hk1 : kb = true := by simp at hkeep; exact hkeep.1
        have hn0 : nn = 0 := by simp at hkeep; exact hkeep.2
        subst hk1 hn0
        gi_wp2_with fail
        refine (callsIn_wide.2 HCT.out).mono ?_
        (rintro ev w6 ⟨rv6, lv6, rfl, hp6, hu6, hj6, hk6⟩; simp only [if_true] at hj6; have hr6 := HRR.out _ _ HRX.out hk6.keeps; obtain ⟨ra6, rc6, erv6, -, -⟩ := hu6.row; obtain ⟨la6, lc6, elv6, -, -⟩ := hu6.loops; subst erv6 elv6; obtain ⟨fn, tmps, assign, body, hy, hRd⟩ := HYY.out i _ w6 (by have := EK.out; omega) ⟨u, u1, _, _, HU.out, ED.out.symm, rfl, hu6, hj6.weak⟩ hr6; unfold upV at hy; have q0 : w6.cell? ⟨pb, 0, none⟩ = some (.slice ra6 u1.row.length rc6) := cell_of_heap hp6 rfl; have q1 : w6.cell? ⟨pb, 1, none⟩ = some (.int .u64 u1.epoch) := cell_of_heap hp6 rfl; have q2 : w6.cell? ⟨pb, 2, none⟩ = some (.slice la6 u1.loops.length lc6) := cell_of_heap hp6 rfl; have q3 : w6.cell? ⟨pb, 3, none⟩ = some (.int .i64 u1.diff) := cell_of_heap hp6 rfl; have HRD := Lib.hid hRd; clear hu6 hj6 hk6 hr6 hp6 hRd)
        gi_wp2_with fail
        refine HRD.out.mono ?_
        rintro ev w7 ⟨rfl, hI7, hR7⟩
        have HI7 := Lib.hid hI7
        have HR7 := Lib.hid hR7
        clear hI7 hR7 hy q0 q1 q2 q3 y4 HRD
        gi_wp2_with fail
        refine ⟨⟨i + 1, by omega, by go_num, HI7.out, HR7.out⟩, ?_⟩
        simp [intOf]
        omega
      · have hkeep2 : (kb && nn == 0) = false := by simpa using hkeep
        rw [hkeep2] at HCT
        gi_wp2_with fail
        refine (callsIn_wide.2 HCT.out).mono ?_
        (rintro ev w6 ⟨rv6, lv6, rfl, hp6, hu6, hj6, hk6⟩; have hr6 := HRR.out _ _ HRX.out hk6.keeps; have hj7 := hj6.weak; have HJ7 := Lib.hid hj7; have HR7 := Lib.hid hr6; clear hu6 hj6 hk6 hr6 hp6 hj7)
        gi_wp2_with fail
        refine ⟨⟨i + 1, by omega, by go_num, ?_, HR7.out⟩, ?_⟩
        · rw [HTK.out, keepF_snoc, errF_snoc, ← ED.out, if_neg (by simpa using hkeep2)]
          exact HJ7.out
        · simp [intOf]
          omega
    · gi_wp2_with fail
      go_end0
      have : us.take i = us := List.take_of_length_le (by have := EK.out; omega)
      have hjj := HJ.out
      rw [this] at hjj
      rw [List.take_length]
      exact ⟨⟨_, rfl⟩, hjj, HR.out⟩

set_option maxRecDepth 100000 in
set_option maxHeartbeats 1000000 in
theorem kept_23m (D : Does) (us : List Upd) (a : Option Addr) (uc : Nat) (w : World) (s Y : Nat) (hs : s = w.heap.size) (hus : UpsAt w (.slice a us.length uc) us) (hn : us.length ≤ 300) (fus : ∀ u ∈ us, u.fits)
    (hdo : ∀ (u : Upd) (p : Nat) (rv lv : Value) (outs errs : List Upd) (W : World), u ∈ us → errs.length ≤ 300 → s + 5 ≤ p → JK w s (.func (.func 29) #[] #[.pointer (some ⟨Y, 0, none⟩)]) (.slice a us.length uc) (.func (.func 44) #[] #[.pointer (some ⟨s, 0, none⟩), .pointer (some ⟨s + 2, 0, none⟩)]) outs errs (· = p) W → W.heap[p]? = some (.cells (upV rv lv u) 51 (0, 0)) → UpT W rv lv u →
      Calls Tryz.prog 44 #[.pointer (some ⟨p, 0, none⟩), .pointer (some ⟨s, 0, none⟩), .pointer (some ⟨s + 2, 0, none⟩)] W fun e W' => ∃ rv' lv', e = .returned (.bool ((D u).2.1 && (D u).2.2 == 0)) ∧ W'.heap[p]? = some (.cells (upV rv' lv' (D u).1) 51 (0, 0)) ∧ UpT W' rv' lv' (D u).1 ∧
        JK w s (.func (.func 29) #[] #[.pointer (some ⟨Y, 0, none⟩)]) (.slice a us.length uc) (.func (.func 44) #[] #[.pointer (some ⟨s, 0, none⟩), .pointer (some ⟨s + 2, 0, none⟩)]) outs (if (D u).2.2 = 0 then errs else errs ++ [errU (D u).1 (D u).2.2]) (· = p) W' ∧ Kt W W') :
    Calls Tryz.prog 23 #[(.slice a us.length uc), (.func (.func 29) #[] #[.pointer (some ⟨Y, 0, none⟩)])] w fun e w' => ∃ ov ev, e = .returned (.tuple #[ov, ev]) ∧ UpsAt w' ov (keepF D us) ∧ UpsAt w' ev (errF D us) ∧ Below w.heap.size w w' := by
  obtain ⟨i0, hi0, hz0, hz1, hz2⟩ := info_parts info51
  have hseq := each1_57m D us a uc w s Y hs hus hn fus hdo 3
  have HSEQ := Lib.hid hseq
  have HSS := Lib.hid hs
  have hF : ∀ f, Fence.wide.fn f := fun _ => trivial
  have hdd : Fence.wide.depth = none := rfl
  have hro : Fence.wide.round = none := rfl
  clear hseq hs hus fus hdo
  obtain ⟨K, eK⟩ : ∃ K, K = us.length := ⟨_, rfl⟩
  have EK := Lib.hid eK
  rw [← eK] at hn ⊢
  clear eK
  refine (callsIn_wide (n := 4)).1 ?_
  refine callsIn_of_wp_marks Tryz.func23 rfl trivial ?_ rfl
  simp only [Tryz.ntmps23, List.size_toArray, List.length_cons, List.length_nil, Nat.reduceAdd, Nat.reduceSub, Array.replicate_succ, Array.replicate_zero, List.push_toArray, List.append_toArray, List.nil_append, List.cons_append]
  gi_wp2_with fail
  refine (callsIn_wide.2 (each_43 _ _ _ _ _ _)).mono ?_
  rintro ev w1 ⟨rfl, hw1⟩
  gi_wp2_with fail
  obtain ⟨f0, f1, f2, f3, f4, fb, f5⟩ := five_at hw1
  rw [← hw1]
  generalize w1 = W0 at *
  rw [← HSS.out] at f0 f1 f2 f3 f4 fb f5 ⊢
  have hj0 : JK w s (.func (.func 29) #[] #[.pointer (some ⟨Y, 0, none⟩)]) (.slice a us.length uc) (.func (.func 44) #[] #[.pointer (some ⟨s, 0, none⟩), .pointer (some ⟨s + 2, 0, none⟩)]) [] [] (fun _ => False) W0 := ⟨⟨fb, f0, by rw [← EK.out]; exact f3, f4⟩, .slice none 0 0, [], .slice none 0 0, [], f1, f2, World.ownsRow_nil _ _ _ _, World.ownsRow_nil _ _ _ _, (fun k hk => by cases hk), (fun k hk => by cases hk), ElsT.nil, ElsT.nil⟩
  have HJ0 := Lib.hid hj0
  have HF5 := Lib.hid f5
  clear hw1 f0 f1 f2 f3 f4 fb hj0
  refine wpIn_rangeFunc_ixz (n := 4) rfl (by decide) (gf := 57) (lb := #[.pointer (some ⟨s + 3, 0, none⟩), .pointer (some ⟨s + 4, 0, none⟩)]) rfl trivial (enters_of Tryz.func57 (by kernel_rfl) rfl) (encs := fun x : Value => #[x]) (N := us.length) (I := _) (Y := _)
    (Z := fun i x a' W => ∃ u u' rv lvv Bx x12, us[i]? = some u ∧ (D u) = (u', true, 0) ∧ s + 5 ≤ Bx ∧ W.heap[Bx]? = some (.cells (upV rv lvv u') 51 (0, 0)) ∧ UpT W rv lvv u' ∧ JK w s (.func (.func 29) #[] #[.pointer (some ⟨Y, 0, none⟩)]) (.slice a us.length uc) (.func (.func 44) #[] #[.pointer (some ⟨s, 0, none⟩), .pointer (some ⟨s + 2, 0, none⟩)]) (keepF D (us.take i)) (errF D (us.take i)) (fun _ => False) W ∧
      a' = { tmps := #[.slice a K uc, (.func (.func 29) #[] #[.pointer (some ⟨Y, 0, none⟩)]), undef, .pointer (some ⟨s, 0, none⟩), .pointer (some ⟨s + 1, 0, none⟩), .pointer (some ⟨s + 2, 0, none⟩), .func (.func 57) #[] #[.pointer (some ⟨s + 3, 0, none⟩), .pointer (some ⟨s + 4, 0, none⟩)], .pointer (some ⟨Bx, 0, none⟩), .slice a K uc, (.func (.func 44) #[] #[.pointer (some ⟨s, 0, none⟩), .pointer (some ⟨s + 2, 0, none⟩)]), .func (.func 57) #[] #[.pointer (some ⟨s + 3, 0, none⟩), .pointer (some ⟨s + 4, 0, none⟩)], .func (.func 57) #[] #[.pointer (some ⟨s + 3, 0, none⟩), .pointer (some ⟨s + 4, 0, none⟩)], x12, undef, undef, undef, undef, undef, undef], defers := [] })
    (by rw [HF5.out]; exact HSEQ.out) (fun _ => rfl) ?ip ?zp ?h0 ?asg ?bdy ?don
  case ip => exact fun i W l o o' h hl ho hc => h.put (by have := HF5.out; omega) ho hc
  case zp =>
    rintro i x a' W l o o' ⟨u, u', rv, lvv, Bx, x12, q1, q2, q3, q4, q5, q6, q7⟩ hl ho hc
    exact ⟨u, u', rv, lvv, Bx, x12, q1, q2, q3, (World.putObj_heap_other (put_ne q4 ho hc)).trans q4, q5.put ho hc, q6.put (by have := HF5.out; omega) ho hc, q7⟩
  case h0 => exact fun o o' => ((HJ0.out.fresh o).fresh o').weak
  case asg =>
    rintro l i x W K0 ⟨u, u', rv, lvv, hu, hD, rfl, hut, hj⟩ hK
    obtain ⟨ra, rc, erv, -, -⟩ := id hut.row
    obtain ⟨la, lc, elv, -, -⟩ := id hut.loops
    subst erv elv
    have HK := Lib.hid hK
    have HUT := Lib.hid hut
    have HJ := Lib.hid hj
    clear hK hut hj
    unfold upV
    have hz : s + 5 ≤ W.heap.size := by have := lt_of_heap HJ.out.1.b4; omega
    have hnb : W.heap.size = W.heap.size := rfl
    gi_wp2_with fail
    exact HK.out _ _ (Kt.alloc _ _).keeps ⟨u, u', _, _, W.heap.size, _, hu, hD, hz, heap_alloc_new _ _, HUT.out.kt (Kt.alloc _ _), (HJ.out.fresh _).weak, rfl⟩
  case bdy =>
    rintro l i x a' W hi ⟨u, u', rv, lvv, Bx, x12, q1, q2, q3, q4, q5, q6, rfl⟩
    obtain ⟨ra, rc, erv, -, -⟩ := id q5.row
    obtain ⟨la, lc, elv, -, -⟩ := id q5.loops
    subst erv elv
    obtain ⟨hb, ov, xs, ev, ys, h1, h2, h3, h4, h5, -, h7, h8⟩ := q6
    obtain ⟨oa, oc, rfl⟩ := ownsRow_slice h3
    have hsz := lt_of_heap hb.b4
    have z0 : W.cell? ⟨Bx, 0, none⟩ = some (.slice ra u'.row.length rc) := cell_of_heap q4 rfl
    have z1 : W.cell? ⟨Bx, 1, none⟩ = some (.int .u64 u'.epoch) := cell_of_heap q4 rfl
    have z2 : W.cell? ⟨Bx, 2, none⟩ = some (.slice la u'.loops.length lc) := cell_of_heap q4 rfl
    have z3 : W.cell? ⟨Bx, 3, none⟩ = some (.int .i64 u'.diff) := cell_of_heap q4 rfl
    have z4 : W.cell? ⟨s + 1, 0, none⟩ = some (.slice oa (keepF D (us.take i)).length oc) := cell_of_heap h1 rfl
    have hql : (keepF D (us.take i)).length ≤ 300 := Nat.le_trans (keepF_len _) (by rw [List.length_take]; have := EK.out; omega)
    have htk : us.take (i + 1) = us.take i ++ [u] := by rw [List.take_add_one, q1]; rfl
    have hkf : keepF D (us.take (i + 1)) = keepF D (us.take i) ++ [u'] := by rw [htk, keepF_snoc, q2]; rfl
    have hef : errF D (us.take (i + 1)) = errF D (us.take i) := by rw [htk, errF_snoc, q2]; rfl
    have HB := Lib.hid hb
    have H1 := Lib.hid h1
    have H2 := Lib.hid h2
    have H3 := Lib.hid h3
    have H4 := Lib.hid h4
    have H5 := Lib.hid (fun k hk => (h5 k hk).2)
    have H7 := Lib.hid h7
    have H8 := Lib.hid h8
    have HU5 := Lib.hid q5
    have HKF := Lib.hid hkf
    have HEF := Lib.hid hef
    clear hb h1 h2 h3 h4 h5 h7 h8 q1 q2 q4 q5 htk hkf hef
    gi_wp2_with (gi_at_builtin; go_must (refine wpListIn_append_own_at _ rfl _ _ 22 rfl (s + 5) 51 i0 _ 4 64 Tryz.underlying22 hi0 hz0 hz1 hz2 rfl (by decide) _ (keepF D (us.take i)).length xs rfl (H3.out.alloc _) ⟨W.heap.size, 0, none⟩ 1 1 [.slice ra u'.row.length rc, .int .u64 u'.epoch, .slice la u'.loops.length lc, .int .i64 u'.diff] rfl rfl ?c1 ?c2 ?c3 ?c4 ?c5 ?_))
    case c1 => first | exact fun _ _ hj => hj | exact World.news_of_block (cs := #[.slice ra u'.row.length rc, .int .u64 u'.epoch, .slice la u'.loops.length lc, .int .i64 u'.diff]) (heap_alloc_new _ _)
    case c2 => first | exact ⟨rfl, rfl, rfl, rfl⟩ | (intro y hy; simp at hy; rcases hy with rfl | rfl | rfl | rfl <;> rfl)
    case c3 => unfold maxLen; omega
    case c4 => omega
    case c5 => first | omega | (rw [World.size_alloc]; omega)
    intro v' w3 hown hgrow _ hat
    obtain ⟨va, vc, rfl⟩ := ownsRow_slice hown
    have hpush := push_out HB.out H1.out H2.out H3.out H4.out H5.out H7.out H8.out HU5.out rfl hown hgrow (by first | exact hat | (rw [World.size_alloc]; exact hat))
    rw [← HKF.out, ← HEF.out] at hpush
    have he1 : w3.heap[s + 1]? = some (.cells #[.slice oa (keepF D (us.take i)).length oc] 22 (0, 0)) := (hgrow.block (s + 1) (by simp; omega) (fun e => by have := (H3.out.lt _ e.symm).1; omega)).trans (keepAt' H1.out _)
    have z5 := cell_of_heap (o := 0) he1 rfl
    have g5 := frozen_of_heap (o := 0) he1
    have HPU := Lib.hid hpush
    clear hown hgrow hat hpush he1
    gi_wp2_with fail
    exact ⟨HPU.out.2, HPU.out.1⟩
  case don =>
    intro Dd W hDd hI hdef
    rw [List.take_length] at hI
    have HI := Lib.hid hI
    obtain ⟨hb, ov, xs, ev, ys, h1, h2, h3, h4, h5, -, h7, h8⟩ := hI
    obtain ⟨oa, oc, rfl⟩ := ownsRow_slice h3
    obtain ⟨ea, ec, rfl⟩ := ownsRow_slice h4
    have z1 := cell_of_heap (o := 0) h1 rfl
    have g1 := frozen_of_heap (o := 0) h1
    have z2 := cell_of_heap (o := 0) h2 rfl
    have g2 := frozen_of_heap (o := 0) h2
    have HI1 := Lib.hid h1
    have HI2 := Lib.hid h2
    gi_wp2
    refine wpIn_wide.2 ?_
    go_region_with (fail)
    all_goals gi_wp2
    all_goals
      have hset : ∀ j, (((W.setCell ⟨s + 1, 0, none⟩ (.slice oa (keepF D us).length oc)).setCell ⟨s + 1 + 1, 0, none⟩ (.slice ea (errF D us).length ec)).drew).heap[j]? = W.heap[j]? := fun j => (set_self (set_keep HI1.out HI2.out) j).trans (set_self HI1.out j)
      have hbel : Below W.heap.size W (((W.setCell ⟨s + 1, 0, none⟩ (.slice oa (keepF D us).length oc)).setCell ⟨s + 1 + 1, 0, none⟩ (.slice ea (errF D us).length ec)).drew) := ⟨rfl, rfl, rfl, by simp [World.setCell], fun k _ => hset k⟩
      obtain ⟨W4, hW4⟩ : ∃ W4, W4 = (((W.setCell ⟨s + 1, 0, none⟩ (.slice oa (keepF D us).length oc)).setCell ⟨s + 1 + 1, 0, none⟩ (.slice ea (errF D us).length ec)).drew) := ⟨_, rfl⟩
      rw [← hW4] at hset hbel ⊢
      have hd4 : W4.heap[Dd]? = some (.deferred (some [])) := (hset Dd).trans hdef
      have hj5 := (HI.out.same hbel).put (o' := .deferred none) (by have := HF5.out; omega) hd4 rfl
      refine ⟨by simp, .inl ⟨_, _, rfl, run_takeDeferred hd4, ?_⟩⟩
      obtain ⟨hb5, ov5, xs5, ev5, ys5, k1, k2, k3, k4, -, -, k7, k8⟩ := hj5
      have c5 := cell_of_heap (o := 0) k1 rfl
      have c6 : (W4.putObj Dd (Obj.deferred none)).cell? ⟨s + 1 + 1, 0, none⟩ = _ := cell_of_heap (o := 0) k2 rfl
      refine ⟨.tuple #[ov5, ev5], by simp [results, Tryz.f23, go_sem, c5, c6], ?_⟩
      exact ⟨_, _, rfl, (k7.els.at k3).2, (k8.els.at k4).2, by have := hb5.below; rw [HSS.out] at this; exact this⟩

end Go.Proofs.YtlpehdhgdpeoeaaGreatDoor
