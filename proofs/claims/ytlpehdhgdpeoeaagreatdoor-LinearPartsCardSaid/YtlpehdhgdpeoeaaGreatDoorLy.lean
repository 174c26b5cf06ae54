import Derived.Test.YtlpehdhgdpeoeaaGreatDoorLx
/- each's iterator, Collect and all at any closure. -/
namespace Go.Proofs.YtlpehdhgdpeoeaaGreatDoor
open Go.RowKit Go.Pen Go.Shelf
attribute [local go_sem] Oper.semAt_some

/-- those that a function keeps, as it leaves them -/
def allF (D : Upd → Upd × Bool) (l : List Upd) : List Upd := l.filterMap fun u => if (D u).2 = true then some (D u).1 else none
theorem allF_snoc {D : Upd → Upd × Bool} {l : List Upd} {u : Upd} : allF D (l ++ [u]) = if (D u).2 = true then allF D l ++ [(D u).1] else allF D l := by
  unfold allF
  rw [List.filterMap_append]
  split
  · next h => rw [List.filterMap_cons_some (by rw [if_pos h])]; rfl
  · next h => rw [List.filterMap_cons_none (by rw [if_neg h])]; simp
theorem allF_len {D : Upd → Upd × Bool} (l : List Upd) : (allF D l).length ≤ l.length := List.length_filterMap_le _ _
/-- what all holds: the boxes of each, that of AppendSeq, and what it has so far -/
def JA (w : World) (s : Nat) (dov lv : Value) (outs : List Upd) (X : Nat → Prop) (W : World) : Prop :=
  Below s w W ∧ W.heap[s]? = some (.cells #[lv] 22 (0, 0)) ∧ W.heap[s + 1]? = some (.cells #[dov] 72 (0, 0)) ∧ ∃ ov xs, W.heap[s + 2]? = some (.cells #[ov] 22 (0, 0)) ∧ W.ownsRow (s + 3) 51 4 ov outs.length xs ∧ (∀ k, ov.ownBlock = some k → ¬ X k) ∧ ElsT W xs outs
theorem JA.box {w W : World} {s : Nat} {dov lv : Value} {outs : List Upd} {X : Nat → Prop} (h : JA w s dov lv outs X W) : ∃ o, W.heap[s + 2]? = some o := by
  obtain ⟨-, -, -, ov, xs, h1, -⟩ := h
  exact ⟨_, h1⟩
theorem JA.lt {w W : World} {s : Nat} {dov lv : Value} {outs : List Upd} {X : Nat → Prop} (h : JA w s dov lv outs X W) : s + 2 < W.heap.size := by
  obtain ⟨o, ho⟩ := h.box
  exact lt_of_heap ho
theorem JA.but {w W W' : World} {s p : Nat} {dov lv : Value} {outs : List Upd} {X : Nat → Prop} (h : JA w s dov lv outs X W) (hX : X p) (hp : s + 3 ≤ p) (hb : But p W W') (hk : Kt W W') : JA w s dov lv outs X W' := by
  have hsz := h.lt
  obtain ⟨bl, b0, b1, ov, xs, h1, h3, h5, h7⟩ := h
  exact ⟨But.below bl hb (by omega) (by omega), (hb.block _ (lt_of_heap b0) (by omega)).trans b0, (hb.block _ (lt_of_heap b1) (by omega)).trans b1, ov, xs, (hb.block _ (lt_of_heap h1) (by omega)).trans h1, owns_same h3 (fun k hk => hb.block k (h3.lt k hk).2 (fun e => h5 k hk (e ▸ hX))), h5, h7.kt hk⟩
theorem JA.weak {w W : World} {s : Nat} {dov lv : Value} {outs : List Upd} {X : Nat → Prop} (h : JA w s dov lv outs X W) : JA w s dov lv outs (fun _ => False) W := by
  obtain ⟨bl, b0, b1, ov, xs, h1, h3, h5, h7⟩ := h
  exact ⟨bl, b0, b1, ov, xs, h1, h3, fun _ _ => id, h7⟩
theorem JA.fresh {w W : World} {s : Nat} {dov lv : Value} {outs : List Upd} {X : Nat → Prop} (h : JA w s dov lv outs X W) (o : Obj) : JA w s dov lv outs (· = W.heap.size) (W.alloc o) := by
  have hsz := h.lt
  obtain ⟨bl, b0, b1, ov, xs, h1, h3, h5, h7⟩ := h
  refine ⟨bl.alloc (by omega) _, keepAt' b0 _, keepAt' b1 _, ov, xs, keepAt' h1 _, h3.alloc _, fun k hk e => ?_, h7.kt (Kt.alloc _ _)⟩
  have := (h3.lt k hk).2; omega
theorem JA.put {w W : World} {s l : Nat} {dov lv : Value} {outs : List Upd} {X : Nat → Prop} {o o' : Obj} (h : JA w s dov lv outs X W) (hs : s + 3 ≤ l) (hl : W.heap[l]? = some o) (hc : o.isCells = false) : JA w s dov lv outs X (W.putObj l o') := by
  have hsz := h.lt
  obtain ⟨bl, b0, b1, ov, xs, h1, h3, h5, h7⟩ := h
  have hk : ∀ (k : Nat) (cs : Array Value) (t : TypeId) (fr : Nat × Nat), W.heap[k]? = some (.cells cs t fr) → (W.putObj l o').heap[k]? = some (.cells cs t fr) := fun k cs t fr h => (World.putObj_heap_other (put_ne h hl hc)).trans h
  have how : ∀ (v : Value) (n : Nat) (xs : List Value), W.ownsRow (s + 3) 51 4 v n xs → (W.putObj l o').ownsRow (s + 3) 51 4 v n xs := fun v n xs h => by
    refine ⟨h.1, ?_⟩
    rcases h.2 with hn | ⟨g, cap, cur, rfl, hb, hg, rest⟩
    · exact .inl hn
    · exact .inr ⟨g, cap, cur, rfl, hb, hk _ _ _ _ hg, rest⟩
  exact ⟨bl.grown (grownBy_putObj' W l o') (by omega) (fun k e => by cases e; omega), hk _ _ _ _ b0, hk _ _ _ _ b1, ov, xs, hk _ _ _ _ h1, how _ _ _ h3, h5, h7.put hl hc⟩
theorem JA.same {w W W' : World} {s : Nat} {dov lv : Value} {outs : List Upd} {X : Nat → Prop} (h : JA w s dov lv outs X W) (hb : Below W.heap.size W W') : JA w s dov lv outs X W' := by
  have hsz := h.lt
  obtain ⟨bl, b0, b1, ov, xs, h1, h3, h5, h7⟩ := h
  exact ⟨bl.trans (hb.mono (by omega)), keepB b0 hb, keepB b1 hb, ov, xs, keepB h1 hb, owns_same h3 (fun k hk => hb.block k (h3.lt k hk).2), h5, h7.kt (Kt.of_below hb)⟩
theorem push_all {w W wa w3 : World} {s : Nat} {dov lv ov v' rv lvv : Value} {outs : List Upd} {xs : List Value} {u' : Upd} (bl : Below s w W) (b0 : W.heap[s]? = some (.cells #[lv] 22 (0, 0))) (b1 : W.heap[s + 1]? = some (.cells #[dov] 72 (0, 0))) (h1 : W.heap[s + 2]? = some (.cells #[ov] 22 (0, 0)))
    (h3 : W.ownsRow (s + 3) 51 4 ov outs.length xs) (h7 : ElsT W xs outs) (hu : UpT W rv lvv u') {o : Obj} (hwa : wa = W.alloc o)
    (hown : w3.ownsRow (s + 3) 51 4 v' (outs.length + 1) (xs ++ [rv, .int .u64 u'.epoch, lvv, .int .i64 u'.diff])) (hg : wa.grownBy w3 ov.ownBlock) :
    JA w s dov lv (outs ++ [u']) (fun _ => False) (w3.setCell ⟨s + 2, 0, none⟩ v') ∧ KeepsOthers W (w3.setCell ⟨s + 2, 0, none⟩ v') := by
  have hs5 := lt_of_heap h1
  have hba : Below W.heap.size W wa := by rw [hwa]; exact one_below _ _
  have hsa : wa.heap.size = W.heap.size + 1 := by rw [hwa]; simp
  have hob : ∀ k, ov.ownBlock = some k → s + 3 ≤ k ∧ k < W.heap.size := fun k hk => h3.lt k hk
  have hold : ∀ k y, W.heap[k]? = some y → ov.ownBlock ≠ some k → w3.heap[k]? = some y := fun k y hk hne => (hg.block k (by have := lt_of_heap hk; omega) (Ne.symm hne)).trans (keepB hk hba)
  have hne : ∀ k, k < s + 3 → ov.ownBlock ≠ some k := fun k hk e => by have := (hob k e).1; omega
  have e1 := hold _ _ h1 (hne _ (by omega))
  have hk3 : Kt W w3 := (Kt.of_below hba).trans (Kt.grown (by rw [hwa]; exact h3.alloc _) hg)
  have hb3 : Below s w w3 := (bl.trans (hba.mono (by omega))).grown hg (by omega) (fun k hk => by have := (hob k hk).1; omega)
  obtain ⟨w4, hw4⟩ : ∃ w4, w4 = w3.setCell ⟨s + 2, 0, none⟩ v' := ⟨_, rfl⟩
  rw [← hw4]
  have h34 : ∀ k, k ≠ s + 2 → w4.heap[k]? = w3.heap[k]? := fun k hk => by rw [hw4]; exact heap_set_ne hk
  have hs4 : w4.heap.size = w3.heap.size := by rw [hw4]; simp [World.setCell]
  have hk4 : Kt w3 w4 := Kt.but e1 (by decide) (by omega) fun k _ hk => h34 k hk
  have hu4 := hk3.trans hk4
  have h14 : w4.heap[s + 2]? = some (.cells #[v'] 22 (0, 0)) := by rw [hw4, heap_set_same e1]; rfl
  refine ⟨⟨by rw [hw4]; exact hb3.setCell (p := ⟨s + 2, 0, none⟩) (by show s ≤ s + 2; omega) _, (h34 _ (by omega)).trans (hold _ _ b0 (hne _ (by omega))), (h34 _ (by omega)).trans (hold _ _ b1 (hne _ (by omega))), v', _, h14, ?_, fun _ _ => id, (h7.kt hu4).snoc (hu.kt hu4)⟩, hu4.keeps⟩
  rw [List.length_append]
  exact owns_same hown fun k hk => h34 k (by have := (hown.lt k hk).1; omega)

set_option maxRecDepth 100000 in
set_option maxHeartbeats 1000000 in
theorem each1_57a (D : Upd → Upd × Bool) (g : Nat) (lb : Array Value) (eg : ∀ args w, (callFunc g args).run Tryz.prog w = .ok (.enter g args) w) (us : List Upd) (a : Option Addr) (uc : Nat) (w : World) (s : Nat) (hs : s = w.heap.size) (hus : UpsAt w (.slice a us.length uc) us) (hn : us.length ≤ 300) (fus : ∀ u ∈ us, u.fits)
    (hdo : ∀ (u : Upd) (p : Nat) (rv lv : Value) (outs : List Upd) (W : World), u ∈ us → s + 3 ≤ p → JA w s (.func (.func g) #[] lb) (.slice a us.length uc) outs (· = p) W → W.heap[p]? = some (.cells (upV rv lv u) 51 (0, 0)) → UpT W rv lv u →
      Calls Tryz.prog g (#[.pointer (some ⟨p, 0, none⟩)] ++ lb) W fun e W' => ∃ rv' lv', e = .returned (.bool (D u).2) ∧ W'.heap[p]? = some (.cells (upV rv' lv' (D u).1) 51 (0, 0)) ∧ UpT W' rv' lv' (D u).1 ∧ But p W W' ∧ Kt W W') (n : Nat) :
    SeqIx Fence.wide n Tryz.prog 57 #[.pointer (some ⟨s, 0, none⟩), .pointer (some ⟨s + 1, 0, none⟩)] (fun x : Value => #[x]) us.length
      (fun i W => JA w s (.func (.func g) #[] lb) (.slice a us.length uc) (allF D (us.take i)) (fun _ => False) W)
      (fun i x W => ∃ u u' rv lv, us[i]? = some u ∧ (D u) = (u', true) ∧ x = .agg (upV rv lv u') ∧ UpT W rv lv u' ∧ JA w s (.func (.func g) #[] lb) (.slice a us.length uc) (allF D (us.take i)) (fun _ => False) W) (s + 3) := by
  intro l R W hR hl h0 hr0 hY
  obtain ⟨K, eK⟩ : ∃ K, K = us.length := ⟨_, rfl⟩
  have HUS := Lib.hid hus
  have HSS := Lib.hid hs
  clear hs
  have HDO := Lib.hid hdo
  have HRR := Lib.hid hR
  have HYY := Lib.hid hY
  have H0 := Lib.hid h0
  have HR0 := Lib.hid hr0
  have FUS := Lib.hid fus
  have EK := Lib.hid eK
  have hK : K ≤ 300 := by omega
  have y3 := cell_of_heap (o := 0) h0.2.1 rfl
  rw [← eK] at y3
  clear hdo hR hY h0 hr0 hus fus eK
  have hF : ∀ f, Fence.wide.fn f := fun _ => trivial
  have hdd : Fence.wide.depth = none := rfl
  have hro : Fence.wide.round = none := rfl
  refine callsIn_of_wp Tryz.func57 rfl trivial ?_ rfl
  simp only [Tryz.ntmps57, List.size_toArray, List.length_cons, List.length_nil, Nat.reduceAdd, Nat.reduceSub, Array.replicate_succ, Array.replicate_zero, List.push_toArray, List.append_toArray, List.nil_append, List.cons_append]
  gi_wp2_with fail
  gi_loopw [8] (fun q wr => ∃ i : Nat, i ≤ K ∧ q = .int .i64 i ∧ JA w s (.func (.func g) #[] lb) (.slice a us.length uc) (allF D (us.take i)) (fun _ => False) wr ∧ R wr) (fun q wr => K - (intOf q).toNat)
  case atStart => exact ⟨0, Nat.zero_le _, rfl, H0.out, HR0.out⟩
  case round =>
    obtain ⟨i, hi, rfl, hj, hr⟩ := hrel
    have HJ := Lib.hid hj
    have HR := Lib.hid hr
    clear hj hr
    by_cases hlt : i < K
    · obtain ⟨u, hu⟩ : ∃ u, us[i]? = some u := ⟨us[i]'(by rw [← EK.out]; exact hlt), List.getElem?_eq_getElem _⟩
      obtain ⟨a2, c2, ha2, -, hat⟩ := id HUS.out
      cases ha2
      obtain ⟨b, o, rfl, hg⟩ := hat (fun e => by rw [e] at hu; simp at hu)
      obtain ⟨xrv, xlv, p0, p1, p2, p3, hxr, hxl⟩ := hg i u hu
      have hbw : Below w.heap.size w wr := by have := HJ.out.1; rw [HSS.out] at this; exact this
      have p0 := cell_keep hbw p0
      have p1 := cell_keep hbw p1
      have p2 := cell_keep hbw p2
      have p3 := cell_keep hbw p3
      have hxr := hxr.below hbw
      have hxl := hxl.below hbw
      obtain ⟨xa, xc, rfl⟩ := rowAt_slice hxr
      obtain ⟨xl, xd, rfl⟩ := hxl.slice
      obtain ⟨xn, exn⟩ : ∃ xn, xn = u.row.length := ⟨_, rfl⟩
      obtain ⟨xm, exm⟩ : ∃ xm, xm = u.loops.length := ⟨_, rfl⟩
      rw [← exn] at p0 hxr
      rw [← exm] at p2 hxl
      have HXR := Lib.hid hxr
      have HXL := Lib.hid hxl
      have HU := Lib.hid hu
      have EXN := Lib.hid exn
      have EXM := Lib.hid exm
      clear hg hat hxr hxl hu exn exm hbw
      gi_wp2_with fail
      obtain ⟨pb, epb⟩ : ∃ pb, pb = wr.heap.size := ⟨_, rfl⟩
      obtain ⟨w1, hw1⟩ : ∃ w1, w1 = wr.alloc (.cells #[.slice xa xn xc, .int .u64 u.epoch, .slice xl xm xd, .int .i64 u.diff] 51) := ⟨_, rfl⟩
      have hj1 := HJ.out.fresh (.cells #[.slice xa xn xc, .int .u64 u.epoch, .slice xl xm xd, .int .i64 u.diff] 51)
      have hp1 : w1.heap[pb]? = some (.cells #[.slice xa xn xc, .int .u64 u.epoch, .slice xl xm xd, .int .i64 u.diff] 51 (0, 0)) := by rw [hw1, epb]; exact heap_alloc_new _ _
      have hk1 : Kt wr w1 := by rw [hw1]; exact Kt.alloc _ _
      have hb1 : Below wr.heap.size wr w1 := by rw [hw1]; exact one_below _ _
      have hps : s + 3 ≤ pb := by have := HJ.out.lt; omega
      rw [← hw1, ← epb] at hj1
      rw [← hw1, ← epb]
      have HJ1 := Lib.hid hj1
      have HP1 := Lib.hid hp1
      have HK1 := Lib.hid hk1
      have hc30 : ∀ W, Below w1.heap.size w1 W → Calls Tryz.prog 30 #[.slice xa xn xc] W fun ev w' => ∃ v', ev = .returned v' ∧ w'.ownsRow W.heap.size 55 4 v' xn (rowCells u.row) ∧ Below W.heap.size W w' := fun W hb => by
        have := clone_30 u.row _ W ((HXR.out.below hb1).below hb) (FUS.out u (List.mem_of_getElem? HU.out)).lr
        rw [← EXN.out] at this
        exact this
      have hc51 : ∀ W, Below w1.heap.size w1 W → Calls Tryz.prog 51 #[.slice xl xm xd] W fun ev w' => ∃ v', ev = .returned v' ∧ w'.ownsRow W.heap.size 33 1 v' xm (wordCells u.loops) ∧ Below W.heap.size W w' := fun W hb => by
        have := clone_51 u.loops _ W ((HXL.out.below hb1).below hb) (FUS.out u (List.mem_of_getElem? HU.out)).ll
        rw [← EXM.out] at this
        exact this
      have HC30 := Lib.hid hc30
      have HC51 := Lib.hid hc51
      have z0 : w1.cell? ⟨pb, 0, none⟩ = some (.slice xa xn xc) := cell_of_heap hp1 rfl
      have z2 : w1.cell? ⟨pb, 2, none⟩ = some (.slice xl xm xd) := cell_of_heap hp1 rfl
      clear p0 p1 p2 p3 hw1 hj1 hp1 hk1 hb1 hc30 hc51 epb
      refine wpIn_wide.2 ?_
      go_cut [] from 12 to 21 (fun wx => ∃ rv lvv, wx.heap[pb]? = some (.cells (upV rv lvv u) 51 (0, 0)) ∧ UpT wx rv lvv u ∧ But pb w1 wx ∧ Kt w1 wx)
      case first =>
        go_region_with (first | (go_at_call 30; refine (HC30.out _ (Go.Pen.below_drewN (n := 1) (Below.refl _ _))).mono ?_; rintro ev v1 ⟨r1, rfl, ho1, hb1⟩; have hbv1 : Below w1.heap.size w1 v1 := (Go.Pen.below_drewN (n := 1) (Below.refl _ _)).trans hb1; have HBV1 := Lib.hid hbv1; have HO1 := Lib.hid ho1; have z0 : v1.cell? ⟨pb, 0, none⟩ = some (.slice xa xn xc) := cell_of_heap (keepB HP1.out hbv1) rfl; have z2 : v1.cell? ⟨pb, 2, none⟩ = some (.slice xl xm xd) := cell_of_heap (keepB HP1.out hbv1) rfl; clear hbv1 ho1 hb1) | (go_at_call 51; refine (HC51.out _ HBV1.out).mono ?_; rintro ev v2 ⟨r2, rfl, ho2, hb2⟩; have hbv2 : Below w1.heap.size w1 v2 := stepB HBV1.out hb2; have hp2 := keepB HP1.out hbv2; have z0 : v2.cell? ⟨pb, 0, none⟩ = some (.slice xa xn xc) := cell_of_heap hp2 rfl; have g0 := frozen_of_heap (o := 0) hp2; have z2 : v2.cell? ⟨pb, 2, none⟩ = some (.slice xl xm xd) := cell_of_heap hp2 rfl; have g2 := frozen_of_heap (o := 2) hp2; obtain ⟨ra, rc, rfl⟩ := ownsRow_slice HO1.out; obtain ⟨la, lc, rfl⟩ := ownsRow_slice ho2; have HFIN := Lib.hid (clones_fin HP1.out hbv2 ((TyRow.of_own HO1.out).kt rfl (Kt.of_below hb2)) (TyRow.of_own ho2) EXN.out EXM.out); clear hbv2 hp2 ho2 hb2) | fail)
        all_goals
          go_wp2
          go_meet
          exact ⟨_, _, HFIN.out⟩
      obtain ⟨rv, lvv, hpx, hux, hbx, hkx⟩ := hcut
      have hjx := HJ1.out.but rfl hps hbx hkx
      have hrx := HRR.out _ _ HR.out (HK1.out.trans hkx).keeps
      have hct := HDO.out u pb rv lvv _ wc (List.mem_of_getElem? HU.out) hps hjx hpx hux
      have y4 := cell_of_heap (o := 0) hjx.2.2.1 rfl
      obtain ⟨⟨u1, kb⟩, eD⟩ : ∃ x, x = D u := ⟨_, rfl⟩
      rw [← eD] at hct
      simp only [] at hct
      have HJX := Lib.hid hjx
      have HPS := Lib.hid hps
      have HCT := Lib.hid hct
      have HRX := Lib.hid hrx
      have ED := Lib.hid eD
      have htk : us.take (i + 1) = us.take i ++ [u] := by rw [List.take_add_one, HU.out]; rfl
      have HTK := Lib.hid htk
      clear hjx hrx hct hpx hux hbx hkx eD htk z0 z2 HC30 HC51 HP1 HJ1 hps
      rcases kb with _ | _
      · gi_wp2_with fail
        refine (callsIn_wide.2 HCT.out).mono ?_
        (rintro ev w6 ⟨rv6, lv6, rfl, hp6, hu6, hb6, hk6⟩; have hr6 := HRR.out _ _ HRX.out hk6.keeps; have hj7 := (HJX.out.but rfl HPS.out hb6 hk6).weak; have HJ7 := Lib.hid hj7; have HR7 := Lib.hid hr6; clear hu6 hb6 hk6 hr6 hp6 hj7)
        gi_wp2_with fail
        refine ⟨⟨i + 1, by omega, by go_num, ?_, HR7.out⟩, ?_⟩
        · rw [HTK.out, allF_snoc, ← ED.out]
          exact HJ7.out
        · simp [intOf]
          omega
      · gi_wp2_with fail
        refine (callsIn_wide.2 HCT.out).mono ?_
        (rintro ev w6 ⟨rv6, lv6, rfl, hp6, hu6, hb6, hk6⟩; have hj6 := (HJX.out.but rfl HPS.out hb6 hk6); have hr6 := HRR.out _ _ HRX.out hk6.keeps; obtain ⟨ra6, rc6, erv6, -, -⟩ := hu6.row; obtain ⟨la6, lc6, elv6, -, -⟩ := hu6.loops; subst erv6 elv6; obtain ⟨fn, tmps, assign, body, hy, hRd⟩ := HYY.out i _ w6 (by have := EK.out; omega) ⟨u, u1, _, _, HU.out, ED.out.symm, rfl, hu6, hj6.weak⟩ hr6; unfold upV at hy; have q0 : w6.cell? ⟨pb, 0, none⟩ = some (.slice ra6 u1.row.length rc6) := cell_of_heap hp6 rfl; have q1 : w6.cell? ⟨pb, 1, none⟩ = some (.int .u64 u1.epoch) := cell_of_heap hp6 rfl; have q2 : w6.cell? ⟨pb, 2, none⟩ = some (.slice la6 u1.loops.length lc6) := cell_of_heap hp6 rfl; have q3 : w6.cell? ⟨pb, 3, none⟩ = some (.int .i64 u1.diff) := cell_of_heap hp6 rfl; have HRD := Lib.hid hRd; clear hu6 hj6 hk6 hb6 hr6 hp6 hRd)
        gi_wp2_with fail
        refine HRD.out.mono ?_
        rintro ev w7 ⟨rfl, hI7, hR7⟩
        have HI7 := Lib.hid hI7
        have HR7 := Lib.hid hR7
        clear hI7 hR7 hy q0 q1 q2 q3 y4 HRD
        gi_wp2_with fail
        refine ⟨⟨i + 1, by omega, by go_num, HI7.out, HR7.out⟩, ?_⟩
        simp [intOf]
        omega
    · gi_wp2_with fail
      go_end0
      have : us.take i = us := List.take_of_length_le (by have := EK.out; omega)
      have hjj := HJ.out
      rw [this] at hjj
      rw [List.take_length]
      exact ⟨⟨_, rfl⟩, hjj, HR.out⟩
end Go.Proofs.YtlpehdhgdpeoeaaGreatDoor
/- AppendSeq, Collect, all. -/
namespace Go.Proofs.YtlpehdhgdpeoeaaGreatDoor
open Go.RowKit Go.Pen Go.Shelf
attribute [local go_sem] Oper.semAt_some

set_option maxRecDepth 100000 in
set_option maxHeartbeats 1000000 in
theorem seq_67 (D : Upd → Upd × Bool) (g : Nat) (lb : Array Value) (us : List Upd) (a : Option Addr) (uc : Nat) (w W0 : World) (s : Nat) (hn : us.length ≤ 300) (hb0 : Below s w W0) (hs0 : W0.heap.size = s + 2) (h0 : W0.heap[s]? = some (.cells #[.slice a us.length uc] 22 (0, 0))) (h1 : W0.heap[s + 1]? = some (.cells #[.func (.func g) #[] lb] 72 (0, 0)))
    (hseq : SeqIx Fence.wide 3 Tryz.prog 57 #[.pointer (some ⟨s, 0, none⟩), .pointer (some ⟨s + 1, 0, none⟩)] (fun x : Value => #[x]) us.length
      (fun i W => JA w s (.func (.func g) #[] lb) (.slice a us.length uc) (allF D (us.take i)) (fun _ => False) W)
      (fun i x W => ∃ u u' rv lv, us[i]? = some u ∧ (D u) = (u', true) ∧ x = .agg (upV rv lv u') ∧ UpT W rv lv u' ∧ JA w s (.func (.func g) #[] lb) (.slice a us.length uc) (allF D (us.take i)) (fun _ => False) W) (s + 3)) :
    Calls Tryz.prog 67 #[.slice none 0 0, .func (.func 57) #[] #[.pointer (some ⟨s, 0, none⟩), .pointer (some ⟨s + 1, 0, none⟩)]] W0 fun e w' => ∃ ov, e = .returned ov ∧ UpsAt w' ov (allF D us) ∧ Below s w w' := by
  obtain ⟨i0, hi0, hz0, hz1, hz2⟩ := info_parts info51
  have HSEQ := Lib.hid hseq
  have hF : ∀ f, Fence.wide.fn f := fun _ => trivial
  have hdd : Fence.wide.depth = none := rfl
  have hro : Fence.wide.round = none := rfl
  obtain ⟨W1, hW1⟩ : ∃ W1, W1 = W0.alloc (.cells #[.slice none 0 0] 22) := ⟨_, rfl⟩
  have hs1 : W1.heap.size = s + 3 := by rw [hW1]; simp [hs0]
  have h2 : W1.heap[s + 2]? = some (.cells #[.slice none 0 0] 22 (0, 0)) := by rw [hW1, ← hs0]; exact heap_alloc_new _ _
  have hj0 : JA w s (.func (.func g) #[] lb) (.slice a us.length uc) [] (fun _ => False) W1 := ⟨by rw [hW1]; exact hb0.alloc (by omega) _, by rw [hW1]; exact keepAt' h0 _, by rw [hW1]; exact keepAt' h1 _, .slice none 0 0, [], h2, World.ownsRow_nil _ _ _ _, (fun k hk => by cases hk), ElsT.nil⟩
  have HJ0 := Lib.hid hj0
  have HS1 := Lib.hid hs1
  have HW1 := Lib.hid hW1
  have HS0 := Lib.hid hs0
  clear hseq hb0 h0 h1 h2 hj0 hs1 hW1 hs0
  refine (callsIn_wide (n := 4)).1 ?_
  refine callsIn_of_wp_marks Tryz.func67 rfl trivial ?_ rfl
  simp only [Tryz.ntmps67, List.size_toArray, List.length_cons, List.length_nil, Nat.reduceAdd, Nat.reduceSub, Array.replicate_succ, Array.replicate_zero, List.push_toArray, List.append_toArray, List.nil_append, List.cons_append]
  gi_wp2_with fail
  rw [← HW1.out, HS0.out]
  refine wpIn_rangeFunc_ixz (n := 4) rfl (by decide) (gf := 57) (lb := #[.pointer (some ⟨s, 0, none⟩), .pointer (some ⟨s + 1, 0, none⟩)]) rfl trivial (enters_of Tryz.func57 (by kernel_rfl) rfl) (encs := fun x : Value => #[x]) (N := us.length) (I := _) (Y := _)
    (Z := fun i x a' W => ∃ u u' rv lvv Bx x12, us[i]? = some u ∧ (D u) = (u', true) ∧ s + 3 ≤ Bx ∧ W.heap[Bx]? = some (.cells (upV rv lvv u') 51 (0, 0)) ∧ UpT W rv lvv u' ∧ JA w s (.func (.func g) #[] lb) (.slice a us.length uc) (allF D (us.take i)) (fun _ => False) W ∧
      a' = { tmps := #[.slice none 0 0, .func (.func 57) #[] #[.pointer (some ⟨s, 0, none⟩), .pointer (some ⟨s + 1, 0, none⟩)], .pointer (some ⟨s + 2, 0, none⟩), undef, .slice none 0 0, .pointer (some ⟨Bx, 0, none⟩), .func (.func 57) #[] #[.pointer (some ⟨s, 0, none⟩), .pointer (some ⟨s + 1, 0, none⟩)], x12, undef, undef, undef, undef, undef], defers := [] })
    (by rw [HS1.out]; exact HSEQ.out) (fun _ => rfl) ?ip ?zp ?h0 ?asg ?bdy ?don
  case ip => exact fun i W l o o' h hl ho hc => h.put (by have := HS1.out; omega) ho hc
  case zp =>
    rintro i x a' W l o o' ⟨u, u', rv, lvv, Bx, x12, q1, q2, q3, q4, q5, q6, q7⟩ hl ho hc
    exact ⟨u, u', rv, lvv, Bx, x12, q1, q2, q3, (World.putObj_heap_other (put_ne q4 ho hc)).trans q4, q5.put ho hc, q6.put (by have := HS1.out; omega) ho hc, q7⟩
  case h0 => exact fun o o' => ((HJ0.out.fresh o).fresh o').weak
  case asg =>
    rintro l i x W K0 ⟨u, u', rv, lvv, hu, hD, rfl, hut, hj⟩ hK
    obtain ⟨ra, rc, erv, -, -⟩ := id hut.row
    obtain ⟨la, lc, elv, -, -⟩ := id hut.loops
    subst erv elv
    have HK := Lib.hid hK
    have HUT := Lib.hid hut
    have HJ := Lib.hid hj
    clear hK hut hj
    unfold upV
    have hz : s + 3 ≤ W.heap.size := by have := HJ.out.lt; omega
    have hnb : W.heap.size = W.heap.size := rfl
    gi_wp2_with fail
    exact HK.out _ _ (Kt.alloc _ _).keeps ⟨u, u', _, _, W.heap.size, _, hu, hD, hz, heap_alloc_new _ _, HUT.out.kt (Kt.alloc _ _), (HJ.out.fresh _).weak, rfl⟩
  case bdy =>
    rintro l i x a' W hi ⟨u, u', rv, lvv, Bx, x12, q1, q2, q3, q4, q5, q6, rfl⟩
    obtain ⟨ra, rc, erv, -, -⟩ := id q5.row
    obtain ⟨la, lc, elv, -, -⟩ := id q5.loops
    subst erv elv
    have hsz := q6.lt
    obtain ⟨bl, b0, b1, ov, xs, h1, h3, -, h7⟩ := q6
    obtain ⟨oa, oc, rfl⟩ := ownsRow_slice h3
    have z0 : W.cell? ⟨Bx, 0, none⟩ = some (.slice ra u'.row.length rc) := cell_of_heap q4 rfl
    have z1 : W.cell? ⟨Bx, 1, none⟩ = some (.int .u64 u'.epoch) := cell_of_heap q4 rfl
    have z2 : W.cell? ⟨Bx, 2, none⟩ = some (.slice la u'.loops.length lc) := cell_of_heap q4 rfl
    have z3 : W.cell? ⟨Bx, 3, none⟩ = some (.int .i64 u'.diff) := cell_of_heap q4 rfl
    have z4 : W.cell? ⟨s + 2, 0, none⟩ = some (.slice oa (allF D (us.take i)).length oc) := cell_of_heap h1 rfl
    have hql : (allF D (us.take i)).length ≤ 300 := Nat.le_trans (allF_len _) (by rw [List.length_take]; omega)
    have htk : us.take (i + 1) = us.take i ++ [u] := by rw [List.take_add_one, q1]; rfl
    have hkf : allF D (us.take (i + 1)) = allF D (us.take i) ++ [u'] := by rw [htk, allF_snoc, q2]; rfl
    have HB := Lib.hid bl
    have H0 := Lib.hid b0
    have H1 := Lib.hid b1
    have H2 := Lib.hid h1
    have H3 := Lib.hid h3
    have H7 := Lib.hid h7
    have HU5 := Lib.hid q5
    have HKF := Lib.hid hkf
    clear bl b0 b1 h1 h3 h7 q1 q2 q4 q5 htk hkf
    gi_wp2_with (gi_at_builtin; go_must (refine wpListIn_append_own_at _ rfl _ _ 22 rfl (s + 3) 51 i0 _ 4 64 Tryz.underlying22 hi0 hz0 hz1 hz2 rfl (by decide) _ (allF D (us.take i)).length xs rfl (H3.out.alloc _) ⟨W.heap.size, 0, none⟩ 1 1 [.slice ra u'.row.length rc, .int .u64 u'.epoch, .slice la u'.loops.length lc, .int .i64 u'.diff] rfl rfl ?c1 ?c2 ?c3 ?c4 ?c5 ?_))
    case c1 => first | exact fun _ _ hj => hj | exact World.news_of_block (cs := #[.slice ra u'.row.length rc, .int .u64 u'.epoch, .slice la u'.loops.length lc, .int .i64 u'.diff]) (heap_alloc_new _ _)
    case c2 => first | exact ⟨rfl, rfl, rfl, rfl⟩ | (intro y hy; simp at hy; rcases hy with rfl | rfl | rfl | rfl <;> rfl)
    case c3 => unfold maxLen; omega
    case c4 => omega
    case c5 => first | omega | (rw [World.size_alloc]; omega)
    intro v' w3 hown hgrow _ hat
    obtain ⟨va, vc, rfl⟩ := ownsRow_slice hown
    have hpush := push_all HB.out H0.out H1.out H2.out H3.out H7.out HU5.out rfl hown hgrow
    rw [← HKF.out] at hpush
    have he1 : w3.heap[s + 2]? = some (.cells #[.slice oa (allF D (us.take i)).length oc] 22 (0, 0)) := (hgrow.block (s + 2) (by simp; omega) (fun e => by have := (H3.out.lt _ e.symm).1; omega)).trans (keepAt' H2.out _)
    have z5 := cell_of_heap (o := 0) he1 rfl
    have g5 := frozen_of_heap (o := 0) he1
    have HPU := Lib.hid hpush
    clear hown hgrow hat hpush he1
    gi_wp2_with fail
    exact ⟨HPU.out.2, HPU.out.1⟩
  case don =>
    intro Dd W hDd hI hdef
    rw [List.take_length] at hI
    have HI := Lib.hid hI
    obtain ⟨bl, b0, b1, ov, xs, h1, h3, -, h7⟩ := hI
    obtain ⟨oa, oc, rfl⟩ := ownsRow_slice h3
    have z1 := cell_of_heap (o := 0) h1 rfl
    gi_wp2
    have hj5 := HI.out.put (o' := .deferred none) (by have := HS1.out; omega) hdef rfl
    refine ⟨by simp, .inl ⟨_, _, rfl, run_takeDeferred hdef, ?_⟩⟩
    refine ⟨.slice oa (allF D us).length oc, by simp [results, Tryz.f67, go_sem], ?_⟩
    have e1 : (W.putObj Dd (.deferred none)).heap[s + 2]? = some (.cells #[.slice oa (allF D us).length oc] 22 (0, 0)) := (World.putObj_heap_other (put_ne h1 hdef rfl)).trans h1
    obtain ⟨bl5, -, -, ov5, xs5, k1, k3, -, k7⟩ := hj5
    obtain rfl : .slice oa (allF D us).length oc = ov5 := by have := e1.symm.trans k1; simpa using this
    exact ⟨_, rfl, (k7.els.at k3).2, bl5⟩

set_option maxRecDepth 100000 in
theorem collect_50 {f : Value} {w : World} {Q : Value → World → Prop} {g : Nat} {lb : Array Value} (hf : f = .func (.func g) #[] lb) (h : Calls Tryz.prog 67 #[.slice none 0 0, f] w fun e w' => ∃ ov, e = .returned ov ∧ Q ov w') : Calls Tryz.prog 50 #[f] w fun e w' => ∃ ov, e = .returned ov ∧ Q ov w' := by
  subst hf
  have H := Lib.hid h
  clear h
  go_enter Tryz.func50, Tryz.ntmps50
  go_wp2_with (go_at_call 67; refine H.out.mono ?_; rintro e w1 ⟨ov, rfl, hq⟩)
  go_ret
  exact ⟨ov, rfl, hq⟩

set_option maxRecDepth 100000 in
set_option maxHeartbeats 1000000 in
theorem all_32 (D : Upd → Upd × Bool) (g : Nat) (lb : Array Value) (eg : ∀ args w, (callFunc g args).run Tryz.prog w = .ok (.enter g args) w) (us : List Upd) (a : Option Addr) (uc : Nat) (w : World) (s : Nat) (hs : s = w.heap.size) (hus : UpsAt w (.slice a us.length uc) us) (hn : us.length ≤ 300) (fus : ∀ u ∈ us, u.fits)
    (hdo : ∀ (u : Upd) (p : Nat) (rv lv : Value) (outs : List Upd) (W : World), u ∈ us → s + 3 ≤ p → JA w s (.func (.func g) #[] lb) (.slice a us.length uc) outs (· = p) W → W.heap[p]? = some (.cells (upV rv lv u) 51 (0, 0)) → UpT W rv lv u →
      Calls Tryz.prog g (#[.pointer (some ⟨p, 0, none⟩)] ++ lb) W fun e W' => ∃ rv' lv', e = .returned (.bool (D u).2) ∧ W'.heap[p]? = some (.cells (upV rv' lv' (D u).1) 51 (0, 0)) ∧ UpT W' rv' lv' (D u).1 ∧ But p W W' ∧ Kt W W') :
    Calls Tryz.prog 32 #[.slice a us.length uc, .func (.func g) #[] lb] w fun e w' => ∃ ov, e = .returned ov ∧ UpsAt w' ov (allF D us) ∧ Below w.heap.size w w' := by
  have hseq := each1_57a D g lb eg us a uc w s hs hus hn fus hdo 3
  obtain ⟨K, eK⟩ : ∃ K, K = us.length := ⟨_, rfl⟩
  have HSEQ := Lib.hid hseq
  have HS := Lib.hid hs
  have EK := Lib.hid eK
  clear hseq hs hus fus hdo eg
  rw [← eK]
  go_enter Tryz.func32, Tryz.ntmps32
  go_wp2_with fail
  refine (each_43 _ _ _ _ _ _).mono ?_
  rintro ev w1 ⟨rfl, hw1⟩
  have h0 : w1.heap[s]? = some (.cells #[.slice a us.length uc] 22 (0, 0)) := by rw [hw1, HS.out, ← EK.out]; exact keepAt' (heap_alloc_new _ _) _
  have h1 : w1.heap[s + 1]? = some (.cells #[.func (.func g) #[] lb] 72 (0, 0)) := by rw [hw1, HS.out, ← EK.out]; have := heap_alloc_new (w.alloc (.cells #[.slice a K uc] 22)) (.cells #[.func (.func g) #[] lb] 72); rw [World.size_alloc] at this; exact this
  have hb1 : Below s w w1 := by rw [hw1, HS.out]; exact two_below _ _ _
  have hs1 : w1.heap.size = s + 2 := by rw [hw1, HS.out]; simp
  have HQ := Lib.hid (seq_67 D g lb us a uc w w1 s hn hb1 hs1 h0 h1 HSEQ.out)
  rw [← HS.out]
  clear hw1 h0 h1 hb1 hs1
  go_wp2_with (go_at_call 50; refine (collect_50 rfl HQ.out).mono ?_; rintro e w2 ⟨ov, rfl, ho, hb2⟩)
  go_ret
  exact ⟨ov, rfl, ho, by rw [← HS.out]; exact hb2⟩
end Go.Proofs.YtlpehdhgdpeoeaaGreatDoor
