import Derived.Test.YtlpehdhgdpeoeaaGreatDoorLm
import Derived.RangeFuncLeaves
import Derived.Maps.OwnIn
/- each's iterator. -/
namespace Go.Proofs.YtlpehdhgdpeoeaaGreatDoor
open Go.RowKit Go.Pen Go.Shelf
attribute [local go_sem] Oper.semAt_some

/-- what becomes of an update: the new one, is it kept, the number of an error -/
abbrev Does := Upd → Upd × Bool × Nat
/-- those kept -/
def keepF (D : Does) (l : List Upd) : List Upd := l.filterMap fun u => if ((D u).2.1 && (D u).2.2 == 0) = true then some (D u).1 else none
/-- the errors -/
def errF (D : Does) (l : List Upd) : List Upd := l.filterMap fun u => if (D u).2.2 = 0 then none else some (errU (D u).1 (D u).2.2)
theorem keepF_snoc {D : Does} {l : List Upd} {u : Upd} : keepF D (l ++ [u]) = if ((D u).2.1 && (D u).2.2 == 0) = true then keepF D l ++ [(D u).1] else keepF D l := by
  unfold keepF
  rw [List.filterMap_append]
  split
  · next h => rw [List.filterMap_cons_some (by rw [if_pos h])]; rfl
  · next h => rw [List.filterMap_cons_none (by rw [if_neg h])]; simp
theorem errF_snoc {D : Does} {l : List Upd} {u : Upd} : errF D (l ++ [u]) = if (D u).2.2 = 0 then errF D l else errF D l ++ [errU (D u).1 (D u).2.2] := by
  unfold errF
  rw [List.filterMap_append]
  split
  · next h => simp [h]
  · next h => simp [h]
theorem errF_len {D : Does} (l : List Upd) : (errF D l).length ≤ l.length := List.length_filterMap_le _ _
theorem keepF_len {D : Does} (l : List Upd) : (keepF D l).length ≤ l.length := List.length_filterMap_le _ _
theorem JK.weak {w W : World} {s : Nat} {dov lv clos : Value} {outs errs : List Upd} {X : Nat → Prop} (h : JK w s dov lv clos outs errs X W) : JK w s dov lv clos outs errs (fun _ => False) W := by
  obtain ⟨b, ov, xs, ev, ys, h1, h2, h3, h4, h5, h6, h7, h8⟩ := h
  exact ⟨b, ov, xs, ev, ys, h1, h2, h3, h4, fun k hk => ⟨id, (h5 k hk).2⟩, fun _ _ => id, h7, h8⟩
theorem JK.fresh {w W : World} {s : Nat} {dov lv clos : Value} {outs errs : List Upd} {X : Nat → Prop} (h : JK w s dov lv clos outs errs X W) (o : Obj) : JK w s dov lv clos outs errs (· = W.heap.size) (W.alloc o) := by
  obtain ⟨⟨bl, b0, b3, b4⟩, ov, xs, ev, ys, h1, h2, h3, h4, h5, h6, h7, h8⟩ := h
  refine ⟨⟨bl.alloc (by have := lt_of_heap b0; omega) _, keepAt' b0 _, keepAt' b3 _, keepAt' b4 _⟩, ov, xs, ev, ys, keepAt' h1 _, keepAt' h2 _, h3.alloc _, h4.alloc _, fun k hk => ⟨fun e => ?_, (h5 k hk).2⟩, fun k hk e => ?_, h7.kt (Kt.alloc _ _), h8.kt (Kt.alloc _ _)⟩
  · have := (h3.lt k hk).2; omega
  · have := (h4.lt k hk).2; omega

theorem clones_fin {w1 v2 : World} {pb xn xm : Nat} {xrv xlv rv lv : Value} {u : Upd} (hp : w1.heap[pb]? = some (.cells #[xrv, .int .u64 u.epoch, xlv, .int .i64 u.diff] 51 (0, 0))) (hb : Below w1.heap.size w1 v2) (hr : TyRow v2 55 rv xn (rowCells u.row)) (hl : TyRow v2 33 lv xm (wordCells u.loops)) (en : xn = u.row.length) (em : xm = u.loops.length) :
    ((v2.setCell ⟨pb, 0, none⟩ rv).setCell ⟨pb, 2, none⟩ lv).heap[pb]? = some (.cells (upV rv lv u) 51 (0, 0)) ∧ UpT ((v2.setCell ⟨pb, 0, none⟩ rv).setCell ⟨pb, 2, none⟩ lv) rv lv u ∧ But pb w1 ((v2.setCell ⟨pb, 0, none⟩ rv).setCell ⟨pb, 2, none⟩ lv) ∧ Kt w1 ((v2.setCell ⟨pb, 0, none⟩ rv).setCell ⟨pb, 2, none⟩ lv) := by
  subst en em
  have h2 := keepB hp hb
  have h3 : (v2.setCell ⟨pb, 0, none⟩ rv).heap[pb]? = some (.cells #[rv, .int .u64 u.epoch, xlv, .int .i64 u.diff] 51 (0, 0)) := by rw [heap_set_same h2]; rfl
  have h4 : ((v2.setCell ⟨pb, 0, none⟩ rv).setCell ⟨pb, 2, none⟩ lv).heap[pb]? = some (.cells (upV rv lv u) 51 (0, 0)) := by rw [heap_set_same h3]; rfl
  have hs : ((v2.setCell ⟨pb, 0, none⟩ rv).setCell ⟨pb, 2, none⟩ lv).heap.size = v2.heap.size := by simp [World.setCell]
  have hne : ∀ k, k ≠ pb → ((v2.setCell ⟨pb, 0, none⟩ rv).setCell ⟨pb, 2, none⟩ lv).heap[k]? = v2.heap[k]? := fun k hk => by rw [heap_set_ne hk, heap_set_ne hk]
  have hk : Kt v2 ((v2.setCell ⟨pb, 0, none⟩ rv).setCell ⟨pb, 2, none⟩ lv) := Kt.but h2 (by decide) (by omega) fun k _ hk => hne k hk
  exact ⟨h4, ⟨hr.kt rfl hk, hl.kt rfl hk⟩, ⟨hb.os, hb.tape, hb.output, by rw [hs]; exact hb.size, fun k hk' hk2 => (hne k hk2).trans (hb.block k hk')⟩, (Kt.of_below hb).trans hk⟩

set_option maxRecDepth 100000 in
set_option maxHeartbeats 1000000 in
theorem each1_57 (D : Does) (us : List Upd) (a : Option Addr) (uc : Nat) (w : World) (s Y : Nat) (hs : s = w.heap.size) (hus : UpsAt w (.slice a us.length uc) us) (hn : us.length ≤ 300) (fus : ∀ u ∈ us, u.fits)
    (hdo : ∀ (u : Upd) (p : Nat) (rv lv : Value) (outs errs : List Upd) (W : World), u ∈ us → errs.length ≤ 300 → s + 5 ≤ p → JK w s (.func (.func 24) #[] #[.pointer (some ⟨Y, 0, none⟩)]) (.slice a us.length uc) (.func (.func 44) #[] #[.pointer (some ⟨s, 0, none⟩), .pointer (some ⟨s + 2, 0, none⟩)]) outs errs (· = p) W → W.heap[p]? = some (.cells (upV rv lv u) 51 (0, 0)) → UpT W rv lv u →
      Calls Tryz.prog 44 #[.pointer (some ⟨p, 0, none⟩), .pointer (some ⟨s, 0, none⟩), .pointer (some ⟨s + 2, 0, none⟩)] W fun e W' => ∃ rv' lv', e = .returned (.bool ((D u).2.1 && (D u).2.2 == 0)) ∧ W'.heap[p]? = some (.cells (upV rv' lv' (D u).1) 51 (0, 0)) ∧ UpT W' rv' lv' (D u).1 ∧
        JK w s (.func (.func 24) #[] #[.pointer (some ⟨Y, 0, none⟩)]) (.slice a us.length uc) (.func (.func 44) #[] #[.pointer (some ⟨s, 0, none⟩), .pointer (some ⟨s + 2, 0, none⟩)]) outs (if (D u).2.2 = 0 then errs else errs ++ [errU (D u).1 (D u).2.2]) (· = p) W' ∧ Kt W W') (n : Nat) :
    SeqIx Fence.wide n Tryz.prog 57 #[.pointer (some ⟨s + 3, 0, none⟩), .pointer (some ⟨s + 4, 0, none⟩)] (fun x : Value => #[x]) us.length
      (fun i W => JK w s (.func (.func 24) #[] #[.pointer (some ⟨Y, 0, none⟩)]) (.slice a us.length uc) (.func (.func 44) #[] #[.pointer (some ⟨s, 0, none⟩), .pointer (some ⟨s + 2, 0, none⟩)]) (keepF D (us.take i)) (errF D (us.take i)) (fun _ => False) W)
      (fun i x W => ∃ u u' rv lv, us[i]? = some u ∧ (D u) = (u', true, 0) ∧ x = .agg (upV rv lv u') ∧ UpT W rv lv u' ∧ JK w s (.func (.func 24) #[] #[.pointer (some ⟨Y, 0, none⟩)]) (.slice a us.length uc) (.func (.func 44) #[] #[.pointer (some ⟨s, 0, none⟩), .pointer (some ⟨s + 2, 0, none⟩)]) (keepF D (us.take i)) (errF D (us.take i)) (fun _ => False) W) (s + 5) := by
  intro l R W hR hl h0 hr0 hY
  obtain ⟨K, eK⟩ : ∃ K, K = us.length := ⟨_, rfl⟩
  have HUS := Lib.hid hus
  have HSS := Lib.hid hs
  clear hs
  have HDO := Lib.hid hdo
  have HRR := Lib.hid hR
  have HYY := Lib.hid hY
  have H0 := Lib.hid h0
  have HR0 := Lib.hid hr0
  have FUS := Lib.hid fus
  have EK := Lib.hid eK
  have hK : K ≤ 300 := by omega
  have y3 := cell_of_heap (o := 0) h0.1.b3 rfl
  rw [← eK] at y3
  clear hdo hR hY h0 hr0 hus fus eK
  have hF : ∀ f, Fence.wide.fn f := fun _ => trivial
  have hdd : Fence.wide.depth = none := rfl
  have hro : Fence.wide.round = none := rfl
  refine callsIn_of_wp Tryz.func57 rfl trivial ?_ rfl
  simp only [Tryz.ntmps57, List.size_toArray, List.length_cons, List.length_nil, Nat.reduceAdd, Nat.reduceSub, Array.replicate_succ, Array.replicate_zero, List.push_toArray, List.append_toArray, List.nil_append, List.cons_append]
  gi_wp2_with fail
  gi_loopw [8] (fun q wr => ∃ i : Nat, i ≤ K ∧ q = .int .i64 i ∧ JK w s (.func (.func 24) #[] #[.pointer (some ⟨Y, 0, none⟩)]) (.slice a us.length uc) (.func (.func 44) #[] #[.pointer (some ⟨s, 0, none⟩), .pointer (some ⟨s + 2, 0, none⟩)]) (keepF D (us.take i)) (errF D (us.take i)) (fun _ => False) wr ∧ R wr) (fun q wr => K - (intOf q).toNat)
  case atStart => exact ⟨0, Nat.zero_le _, rfl, H0.out, HR0.out⟩
  case round =>
    obtain ⟨i, hi, rfl, hj, hr⟩ := hrel
    have HJ := Lib.hid hj
    have HR := Lib.hid hr
    clear hj hr
    by_cases hlt : i < K
    · obtain ⟨u, hu⟩ : ∃ u, us[i]? = some u := ⟨us[i]'(by rw [← EK.out]; exact hlt), List.getElem?_eq_getElem _⟩
      obtain ⟨a2, c2, ha2, -, hat⟩ := id HUS.out
      cases ha2
      obtain ⟨b, o, rfl, hg⟩ := hat (fun e => by rw [e] at hu; simp at hu)
      obtain ⟨xrv, xlv, p0, p1, p2, p3, hxr, hxl⟩ := hg i u hu
      have hbw : Below w.heap.size w wr := by have := HJ.out.1.below; rw [HSS.out] at this; exact this
      have p0 := cell_keep hbw p0
      have p1 := cell_keep hbw p1
      have p2 := cell_keep hbw p2
      have p3 := cell_keep hbw p3
      have hxr := hxr.below hbw
      have hxl := hxl.below hbw
      obtain ⟨xa, xc, rfl⟩ := rowAt_slice hxr
      obtain ⟨xl, xd, rfl⟩ := hxl.slice
      obtain ⟨xn, exn⟩ : ∃ xn, xn = u.row.length := ⟨_, rfl⟩
      obtain ⟨xm, exm⟩ : ∃ xm, xm = u.loops.length := ⟨_, rfl⟩
      rw [← exn] at p0 hxr
      rw [← exm] at p2 hxl
      have HXR := Lib.hid hxr
      have HXL := Lib.hid hxl
      have HU := Lib.hid hu
      have EXN := Lib.hid exn
      have EXM := Lib.hid exm
      clear hg hat hxr hxl hu exn exm hbw
      gi_wp2_with fail
      obtain ⟨pb, epb⟩ : ∃ pb, pb = wr.heap.size := ⟨_, rfl⟩
      obtain ⟨w1, hw1⟩ : ∃ w1, w1 = wr.alloc (.cells #[.slice xa xn xc, .int .u64 u.epoch, .slice xl xm xd, .int .i64 u.diff] 51) := ⟨_, rfl⟩
      have hj1 := HJ.out.fresh (.cells #[.slice xa xn xc, .int .u64 u.epoch, .slice xl xm xd, .int .i64 u.diff] 51)
      have hp1 : w1.heap[pb]? = some (.cells #[.slice xa xn xc, .int .u64 u.epoch, .slice xl xm xd, .int .i64 u.diff] 51 (0, 0)) := by rw [hw1, epb]; exact heap_alloc_new _ _
      have hk1 : Kt wr w1 := by rw [hw1]; exact Kt.alloc _ _
      have hb1 : Below wr.heap.size wr w1 := by rw [hw1]; exact one_below _ _
      have hps : s + 5 ≤ pb := by have := lt_of_heap HJ.out.1.b4; omega
      rw [← hw1, ← epb] at hj1
      rw [← hw1, ← epb]
      have HJ1 := Lib.hid hj1
      have HP1 := Lib.hid hp1
      have HK1 := Lib.hid hk1
      have hc30 : ∀ W, Below w1.heap.size w1 W → Calls Tryz.prog 30 #[.slice xa xn xc] W fun ev w' => ∃ v', ev = .returned v' ∧ w'.ownsRow W.heap.size 55 4 v' xn (rowCells u.row) ∧ Below W.heap.size W w' := fun W hb => by
        have := clone_30 u.row _ W ((HXR.out.below hb1).below hb) (FUS.out u (List.mem_of_getElem? HU.out)).lr
        rw [← EXN.out] at this
        exact this
      have hc51 : ∀ W, Below w1.heap.size w1 W → Calls Tryz.prog 51 #[.slice xl xm xd] W fun ev w' => ∃ v', ev = .returned v' ∧ w'.ownsRow W.heap.size 33 1 v' xm (wordCells u.loops) ∧ Below W.heap.size W w' := fun W hb => by
        have := clone_51 u.loops _ W ((HXL.out.below hb1).below hb) (FUS.out u (List.mem_of_getElem? HU.out)).ll
        rw [← EXM.out] at this
        exact this
      have HC30 := Lib.hid hc30
      have HC51 := Lib.hid hc51
      have z0 : w1.cell? ⟨pb, 0, none⟩ = some (.slice xa xn xc) := cell_of_heap hp1 rfl
      have z2 : w1.cell? ⟨pb, 2, none⟩ = some (.slice xl xm xd) := cell_of_heap hp1 rfl
      clear p0 p1 p2 p3 hw1 hj1 hp1 hk1 hb1 hc30 hc51 epb
      refine wpIn_wide.2 ?_
      go_cut [] from 12 to 21 (fun wx => ∃ rv lvv, wx.heap[pb]? = some (.cells (upV rv lvv u) 51 (0, 0)) ∧ UpT wx rv lvv u ∧ But pb w1 wx ∧ Kt w1 wx)
      case first =>
        go_region_with (first | (go_at_call 30; refine (HC30.out _ (Go.Pen.below_drewN (n := 1) (Below.refl _ _))).mono ?_; rintro ev v1 ⟨r1, rfl, ho1, hb1⟩; have hbv1 : Below w1.heap.size w1 v1 := (Go.Pen.below_drewN (n := 1) (Below.refl _ _)).trans hb1; have HBV1 := Lib.hid hbv1; have HO1 := Lib.hid ho1; have z0 : v1.cell? ⟨pb, 0, none⟩ = some (.slice xa xn xc) := cell_of_heap (keepB HP1.out hbv1) rfl; have z2 : v1.cell? ⟨pb, 2, none⟩ = some (.slice xl xm xd) := cell_of_heap (keepB HP1.out hbv1) rfl; clear hbv1 ho1 hb1) | (go_at_call 51; refine (HC51.out _ HBV1.out).mono ?_; rintro ev v2 ⟨r2, rfl, ho2, hb2⟩; have hbv2 : Below w1.heap.size w1 v2 := stepB HBV1.out hb2; have hp2 := keepB HP1.out hbv2; have z0 : v2.cell? ⟨pb, 0, none⟩ = some (.slice xa xn xc) := cell_of_heap hp2 rfl; have g0 := frozen_of_heap (o := 0) hp2; have z2 : v2.cell? ⟨pb, 2, none⟩ = some (.slice xl xm xd) := cell_of_heap hp2 rfl; have g2 := frozen_of_heap (o := 2) hp2; obtain ⟨ra, rc, rfl⟩ := ownsRow_slice HO1.out; obtain ⟨la, lc, rfl⟩ := ownsRow_slice ho2; have HFIN := Lib.hid (clones_fin HP1.out hbv2 ((TyRow.of_own HO1.out).kt rfl (Kt.of_below hb2)) (TyRow.of_own ho2) EXN.out EXM.out); clear hbv2 hp2 ho2 hb2) | fail)
        all_goals
          go_wp2
          go_meet
          exact ⟨_, _, HFIN.out⟩
      obtain ⟨rv, lvv, hpx, hux, hbx, hkx⟩ := hcut
      have hjx := HJ1.out.but rfl hps hbx hkx
      have hrx := HRR.out _ _ HR.out (HK1.out.trans hkx).keeps
      have hel : (errF D (us.take i)).length ≤ 300 := Nat.le_trans (errF_len _) (by rw [List.length_take]; omega)
      have hct := HDO.out u pb rv lvv _ _ wc (List.mem_of_getElem? HU.out) hel hps hjx hpx hux
      have y4 := cell_of_heap (o := 0) hjx.1.b4 rfl
      obtain ⟨⟨u1, kb, nn⟩, eD⟩ : ∃ x, x = D u := ⟨_, rfl⟩
      rw [← eD] at hct
      simp only [] at hct
      have HCT := Lib.hid hct
      have HRX := Lib.hid hrx
      have ED := Lib.hid eD
      have htk : us.take (i + 1) = us.take i ++ [u] := by rw [List.take_add_one, HU.out]; rfl
      have HTK := Lib.hid htk
      clear hjx hrx hct hpx hux hbx hkx eD htk hel z0 z2 HC30 HC51 HP1 HJ1
      by_cases hkeep : (kb && nn == 0) = true
      · have hk1 : kb = true := by simp at hkeep; exact hkeep.1
        have hn0 : nn = 0 := by simp at hkeep; exact hkeep.2
        subst hk1 hn0
        gi_wp2_with fail
        refine (callsIn_wide.2 HCT.out).mono ?_
        (rintro ev w6 ⟨rv6, lv6, rfl, hp6, hu6, hj6, hk6⟩; simp only [if_true] at hj6; have hr6 := HRR.out _ _ HRX.out hk6.keeps; obtain ⟨ra6, rc6, erv6, -, -⟩ := hu6.row; obtain ⟨la6, lc6, elv6, -, -⟩ := hu6.loops; subst erv6 elv6; obtain ⟨fn, tmps, assign, body, hy, hRd⟩ := HYY.out i _ w6 (by have := EK.out; omega) ⟨u, u1, _, _, HU.out, ED.out.symm, rfl, hu6, hj6.weak⟩ hr6; unfold upV at hy; have q0 : w6.cell? ⟨pb, 0, none⟩ = some (.slice ra6 u1.row.length rc6) := cell_of_heap hp6 rfl; have q1 : w6.cell? ⟨pb, 1, none⟩ = some (.int .u64 u1.epoch) := cell_of_heap hp6 rfl; have q2 : w6.cell? ⟨pb, 2, none⟩ = some (.slice la6 u1.loops.length lc6) := cell_of_heap hp6 rfl; have q3 : w6.cell? ⟨pb, 3, none⟩ = some (.int .i64 u1.diff) := cell_of_heap hp6 rfl; have HRD := Lib.hid hRd; clear hu6 hj6 hk6 hr6 hp6 hRd)
        gi_wp2_with fail
        refine HRD.out.mono ?_
        rintro ev w7 ⟨rfl, hI7, hR7⟩
        have HI7 := Lib.hid hI7
        have HR7 := Lib.hid hR7
        clear hI7 hR7 hy q0 q1 q2 q3 y4 HRD
        gi_wp2_with fail
        refine ⟨⟨i + 1, by omega, by go_num, HI7.out, HR7.out⟩, ?_⟩
        simp [intOf]
        omega
      · have hkeep2 : (kb && nn == 0) = false := by simpa using hkeep
        rw [hkeep2] at HCT
        gi_wp2_with fail
        refine (callsIn_wide.2 HCT.out).mono ?_
        (rintro ev w6 ⟨rv6, lv6, rfl, hp6, hu6, hj6, hk6⟩; have hr6 := HRR.out _ _ HRX.out hk6.keeps; have hj7 := hj6.weak; have HJ7 := Lib.hid hj7; have HR7 := Lib.hid hr6; clear hu6 hj6 hk6 hr6 hp6 hj7)
        gi_wp2_with fail
        refine ⟨⟨i + 1, by omega, by go_num, ?_, HR7.out⟩, ?_⟩
        · rw [HTK.out, keepF_snoc, errF_snoc, ← ED.out, if_neg (by simpa using hkeep2)]
          exact HJ7.out
        · simp [intOf]
          omega
    · gi_wp2_with fail
      go_end0
      have : us.take i = us := List.take_of_length_le (by have := EK.out; omega)
      have hjj := HJ.out
      rw [this] at hjj
      rw [List.take_length]
      exact ⟨⟨_, rfl⟩, hjj, HR.out⟩
end Go.Proofs.YtlpehdhgdpeoeaaGreatDoor
/- The law of range over a function, where the loop's variable has a box of its own. -/
namespace Go.Proofs.YtlpehdhgdpeoeaaGreatDoor
open Go.RowKit Go.Pen Go.Shelf

theorem wpIn_rangeFunc_ixz {F : Fence} {n : Nat} {P : Program} {α : Type} {g : Operand} {ps : Array Tmp} {assign body : Code} {Q : Exit → Act → World → Prop} {a : Act} {w : World}
    (hro : F.round = none) (h1 : 1 ≤ n) {gf : Nat} {lb : Array Value} (hg : a.eval g = .func (.func gf) #[] lb) (hFg : F.fn gf) (eg : ∀ args w, (callFunc gf args).run P w = .ok (.enter gf args) w)
    {encs : α → Array Value} {N : Nat} {I : Nat → World → Prop} {Y : Nat → α → World → Prop} {Z : Nat → α → Act → World → Prop} (hseq : SeqIx F (n - 1) P gf lb encs N I Y w.heap.size) (hps : ∀ x, (encs x).size = ps.size)
    (hIp : ∀ (i : Nat) (W : World) (l : Nat) (o o' : Obj), I i W → w.heap.size ≤ l → W.heap[l]? = some o → o.isCells = false → I i (W.putObj l o'))
    (hZp : ∀ (i : Nat) (x : α) (a' : Act) (W : World) (l : Nat) (o o' : Obj), Z i x a' W → w.heap.size ≤ l → W.heap[l]? = some o → o.isCells = false → Z i x a' (W.putObj l o'))
    (h0 : ∀ (o o' : Obj), I 0 ((w.alloc o).alloc o')) 
    (hassign : ∀ (l i : Nat) (x : α) (W : World) (K : Act → World → Prop), Y i x W → (∀ a' W', KeepsOthers W W' → Z i x a' W' → K a' W') →
      assign.wpIn (F.inRound l) (n - 1 - 1) P (Exit.then K (fun _ _ _ => False)) { tmps := (ps.zip (encs x)).foldl (fun t (p, v) => t.setIfInBounds p v) a.tmps, defers := [] } W)
    (hbody : ∀ (l i : Nat) (x : α) (a' : Act) (W : World), i < N → Z i x a' W → body.wpIn (F.inRound l) (n - 1 - 1) P (ixPost I (i + 1) W) a' W)
    (hdone : ∀ (D : Nat) (W : World), w.heap.size ≤ D → I N W → W.heap[D]? = some (.deferred (some [])) → Q .normal { a with defers := { target := .collected D, args := #[] } :: a.defers } W) :
    (Code.rangeFunc g ps assign body).wpIn F n P Q a w := by
  refine wpIn_rangeFunc ?_
  intro fn hfn
  rw [hro]
  obtain ⟨rec, hrec⟩ : ∃ rec : LoopState → Option Code → Loop, rec = fun st pe => { state := st, pending := pe, fn, tmps := a.tmps, params := ps, assign, body, defers := w.heap.size } := ⟨_, rfl⟩
  obtain ⟨W1, hW1⟩ : ∃ W1, (w.alloc (.deferred (some []))).alloc (.loop (rec .ready none)) = W1 := ⟨_, rfl⟩
  have hL1 : W1.heap[w.heap.size + 1]? = some (.loop (rec .ready none)) := by
    rw [← hW1]; have := World.alloc_heap_new (w.alloc (.deferred (some []))) (.loop (rec .ready none)); rwa [World.size_alloc] at this
  have hK1 : W1.heap[w.heap.size]? = some (.deferred (some [])) := by
    rw [← hW1]; exact (Below.heap_alloc _ _ _ (by simp)).trans (World.alloc_heap_new w _)
  have hI1 : I 0 W1 := by rw [← hW1]; exact h0 _ _
  refine ⟨w.heap.size + 1, [{ target := .collected w.heap.size, args := #[] }], W1, { target := .fn (.func gf) lb, args := #[.func (.yield (w.heap.size + 1)) #[] #[]] }, W1, gf,
    #[.func (.yield (w.heap.size + 1)) #[] #[]] ++ lb, W1, ?_, ?_, ?_, ?_, fun _ => h1, ?_⟩
  · rw [← hW1, hrec]; exact run_enterLoop_outer _ _ _ _ _
  · simp only [resolve, hg]
    simp [go_sem]
  · intro f' hf'; simp [Target.leads] at hf'; subst hf'; exact hFg
  · simp [invoke, go_sem, eg]
  · refine (hseq (w.heap.size + 1)
      (fun W => W.heap[w.heap.size + 1]? = some (.loop (rec .ready none)) ∧ W.heap[w.heap.size]? = some (.deferred (some [])))
      W1 (fun A A' h k => ⟨k.same _ _ h.1 rfl, k.same _ _ h.2 rfl⟩) (Nat.le_succ _) hI1 ⟨hL1, hK1⟩ ?_).mono ?_
    · rintro i x W hi hy0 ⟨hl, hk⟩
      have hy := run_yield (P := P) (args := encs x) hl (by rw [hrec]; exact hps x)
      rw [hrec] at hy
      refine ⟨fn, _, assign, body, hy, roundIn_of_wpIn hfn (hassign _ i x W _ hy0 fun a' W' hkw hz => ?_)⟩
      have hl := hkw.same _ _ hl rfl
      have hk := hkw.same _ _ hk rfl
      have hlt : w.heap.size + 1 < W'.heap.size := (Array.getElem?_eq_some_iff.1 hl).1
      refine ⟨_, run_beginRound hl (by rw [hrec]), ?_⟩
      have hl2 : (W'.putObj (w.heap.size + 1) (.loop { rec .ready none with state := .busy })).heap[w.heap.size + 1]? = some (.loop { rec .ready none with state := .busy }) := World.putObj_heap_same hlt
      have hk2 : (W'.putObj (w.heap.size + 1) (.loop { rec .ready none with state := .busy })).heap[w.heap.size]? = some (.deferred (some [])) := (World.putObj_heap_other (by omega)).trans hk
      refine wpIn_mono (hbody _ i x a' _ hi (hZp _ _ _ _ _ _ _ hz (by omega) hl rfl)) ?_
      rintro e a3 W3 hp
      cases e with
      | normal =>
        obtain ⟨hk3, hi3⟩ := hp
        have hl3 := hk3.same _ _ hl2 rfl
        have hr := run_endRound (P := P) none hl3
        rw [hrec] at hr hl3
        exact ⟨_, _, hr, rfl, hIp _ _ _ _ _ hi3 (by omega) hl3 rfl, by rw [hrec]; exact World.putObj_heap_same (Array.getElem?_eq_some_iff.1 hl3).1, (World.putObj_heap_other (by omega)).trans (hk3.same _ _ hk2 rfl)⟩
      | ret => exact hp.elim
      | exit id => exact hp.elim
      | goto t => exact hp.elim
      | panic ch => exact hp.elim
      | outgrown => exact hp.elim
    · rintro e W2 ⟨⟨v, rfl⟩, hi, hl, hk⟩
      exact ⟨none, _, by have := run_endLoop (P := P) hl (by rw [hrec]; simp); rw [hrec] at this; exact this, hdone _ _ (Nat.le_refl _) (hIp _ _ _ _ _ hi (by omega) hl rfl) ((World.putObj_heap_other (by omega)).trans hk)⟩
end Go.Proofs.YtlpehdhgdpeoeaaGreatDoor
/- kept. -/
namespace Go.Proofs.YtlpehdhgdpeoeaaGreatDoor
open Go.RowKit Go.Pen Go.Shelf
attribute [local go_sem] Oper.semAt_some

theorem five_at {w W : World} {a b c d e : Array Value} {t1 t2 t3 t4 t5 : TypeId} (h : W = ((((w.alloc (.cells a t1)).alloc (.cells b t2)).alloc (.cells c t3)).alloc (.cells d t4)).alloc (.cells e t5)) :
    W.heap[w.heap.size]? = some (.cells a t1 (0, 0)) ∧ W.heap[w.heap.size + 1]? = some (.cells b t2 (0, 0)) ∧ W.heap[w.heap.size + 2]? = some (.cells c t3 (0, 0)) ∧ W.heap[w.heap.size + 3]? = some (.cells d t4 (0, 0)) ∧ W.heap[w.heap.size + 4]? = some (.cells e t5 (0, 0)) ∧ Below w.heap.size w W ∧ W.heap.size = w.heap.size + 5 := by
  have s1 : (w.alloc (.cells a t1)).heap.size = w.heap.size + 1 := by simp
  have s2 : ((w.alloc (.cells a t1)).alloc (.cells b t2)).heap.size = w.heap.size + 2 := by simp
  have s3 : (((w.alloc (.cells a t1)).alloc (.cells b t2)).alloc (.cells c t3)).heap.size = w.heap.size + 3 := by simp
  have s4 : ((((w.alloc (.cells a t1)).alloc (.cells b t2)).alloc (.cells c t3)).alloc (.cells d t4)).heap.size = w.heap.size + 4 := by simp
  subst h
  refine ⟨keepAt' (keepAt' (keepAt' (keepAt' (heap_alloc_new _ _) _) _) _) _, keepAt' (keepAt' (keepAt' ?_ _) _) _, keepAt' (keepAt' ?_ _) _, keepAt' ?_ _, ?_, ?_, by simp⟩
  · rw [← s1]; exact heap_alloc_new _ _
  · rw [← s2]; exact heap_alloc_new _ _
  · rw [← s3]; exact heap_alloc_new _ _
  · rw [← s4]; exact heap_alloc_new _ _
  · exact (((((Below.refl _ _).alloc (Nat.le_refl _) _).alloc (by simp) _).alloc (by simp; omega) _).alloc (by simp; omega) _).alloc (by simp; omega) _
theorem push_out {w W wa w3 : World} {s : Nat} {dov lv clos ov ev v' rv lvv : Value} {outs errs : List Upd} {xs ys : List Value} {u' : Upd} (hb : Box w s dov lv clos W) (h1 : W.heap[s + 1]? = some (.cells #[ov] 22 (0, 0))) (h2 : W.heap[s + 2]? = some (.cells #[ev] 22 (0, 0)))
    (h3 : W.ownsRow (s + 5) 51 4 ov outs.length xs) (h4 : W.ownsRow (s + 5) 51 4 ev errs.length ys) (h5 : ∀ k, ov.ownBlock = some k → ev.ownBlock ≠ some k) (h7 : ElsT W xs outs) (h8 : ElsT W ys errs) (hu : UpT W rv lvv u') {o : Obj} (hwa : wa = W.alloc o)
    (hown : w3.ownsRow (s + 5) 51 4 v' (outs.length + 1) (xs ++ [rv, .int .u64 u'.epoch, lvv, .int .i64 u'.diff])) (hg : wa.grownBy w3 ov.ownBlock) (hat : v'.ownBlock = ov.ownBlock ∨ v'.ownBlock = some wa.heap.size) :
    JK w s dov lv clos (outs ++ [u']) errs (fun _ => False) (w3.setCell ⟨s + 1, 0, none⟩ v') ∧ KeepsOthers W (w3.setCell ⟨s + 1, 0, none⟩ v') := by
  obtain ⟨bl, b0, b3, b4⟩ := hb
  have hs5 := lt_of_heap b4
  have hba : Below W.heap.size W wa := by rw [hwa]; exact one_below _ _
  have hsa : wa.heap.size = W.heap.size + 1 := by rw [hwa]; simp
  have hob : ∀ k, ov.ownBlock = some k → s + 5 ≤ k ∧ k < W.heap.size := fun k hk => h3.lt k hk
  have hold : ∀ k y, W.heap[k]? = some y → ov.ownBlock ≠ some k → w3.heap[k]? = some y := fun k y hk hne => (hg.block k (by have := lt_of_heap hk; omega) (Ne.symm hne)).trans (keepB hk hba)
  have hne : ∀ k, k < s + 5 → ov.ownBlock ≠ some k := fun k hk e => by have := (hob k e).1; omega
  have e1 := hold _ _ h1 (hne _ (by omega))
  have hk3 : Kt W w3 := (Kt.of_below hba).trans (Kt.grown (by rw [hwa]; exact h3.alloc _) hg)
  have hb3 : Below s w w3 := (bl.trans (hba.mono (by omega))).grown hg (by omega) (fun k hk => by have := (hob k hk).1; omega)
  obtain ⟨w4, hw4⟩ : ∃ w4, w4 = w3.setCell ⟨s + 1, 0, none⟩ v' := ⟨_, rfl⟩
  rw [← hw4]
  have hs4 : w4.heap.size = w3.heap.size := by rw [hw4]; simp [World.setCell]
  have h34 : ∀ k, k ≠ s + 1 → w4.heap[k]? = w3.heap[k]? := fun k hk => by rw [hw4]; exact heap_set_ne hk
  have hk4 : Kt w3 w4 := Kt.but e1 (by decide) (by omega) fun k _ hk => h34 k hk
  have hu4 := hk3.trans hk4
  have h14 : w4.heap[s + 1]? = some (.cells #[v'] 22 (0, 0)) := by rw [hw4, heap_set_same e1]; rfl
  refine ⟨⟨⟨by rw [hw4]; exact hb3.setCell (p := ⟨s + 1, 0, none⟩) (by show s ≤ s + 1; omega) _, (h34 _ (by omega)).trans (hold _ _ b0 (hne _ (by omega))), (h34 _ (by omega)).trans (hold _ _ b3 (hne _ (by omega))), (h34 _ (by omega)).trans (hold _ _ b4 (hne _ (by omega)))⟩, v', _, ev, ys, h14, (h34 _ (by omega)).trans (hold _ _ h2 (hne _ (by omega))), ?_, ?_, ?_, fun _ _ => id, (h7.kt hu4).snoc (hu.kt hu4), h8.kt hu4⟩, hu4.keeps⟩
  · rw [List.length_append]
    exact owns_same hown fun k hk => h34 k (by have := (hown.lt k hk).1; omega)
  · refine owns_same h4 fun k hk => ?_
    obtain ⟨hl1, hl2⟩ := h4.lt k hk
    rw [h34 k (by omega), hg.block k (by omega) (fun e => h5 k e.symm hk), hba.block k hl2]
  · intro k hk
    refine ⟨id, fun e => ?_⟩
    have hl := (h4.lt k e).2
    rcases hat with h | h
    · exact h5 k (h.symm.trans hk) e
    · rw [h] at hk; cases hk; omega
theorem TyRow.put {W : World} {t : TypeId} {v : Value} {n l : Nat} {xs : List Value} {o o' : Obj} (h : TyRow W t v n xs) (hl : W.heap[l]? = some o) (hc : o.isCells = false) : TyRow (W.putObj l o') t v n xs := by
  obtain ⟨a, c, rfl, hz, h⟩ := h
  refine ⟨a, c, rfl, hz, fun hn => ?_⟩
  obtain ⟨b, cur, ha, hb, hh⟩ := h hn
  refine ⟨b, cur, ha, (World.putObj_heap_other (fun e => ?_)).trans hb, hh⟩
  subst e
  rw [hl] at hb
  cases hb
  cases hc
theorem UpT.put {W : World} {rv lv : Value} {u : Upd} {l : Nat} {o o' : Obj} (h : UpT W rv lv u) (hl : W.heap[l]? = some o) (hc : o.isCells = false) : UpT (W.putObj l o') rv lv u := ⟨h.row.put hl hc, h.loops.put hl hc⟩
theorem ElsT.put {W : World} {xs : List Value} {us : List Upd} {l : Nat} {o o' : Obj} (h : ElsT W xs us) (hl : W.heap[l]? = some o) (hc : o.isCells = false) : ElsT (W.putObj l o') xs us := ⟨h.len, fun i u hu => by
  obtain ⟨rv, lv, q0, q1, q2, q3, hr⟩ := h.el i u hu
  exact ⟨rv, lv, q0, q1, q2, q3, hr.put hl hc⟩⟩
theorem put_ne {W : World} {k l : Nat} {o : Obj} {cs : Array Value} {t : TypeId} {fr : Nat × Nat} (hk : W.heap[k]? = some (.cells cs t fr)) (hl : W.heap[l]? = some o) (hc : o.isCells = false) : k ≠ l := fun e => by
  subst e
  rw [hl] at hk
  cases hk
  cases hc
theorem JK.put {w W : World} {s l : Nat} {dov lv clos : Value} {outs errs : List Upd} {X : Nat → Prop} {o o' : Obj} (h : JK w s dov lv clos outs errs X W) (hs : s + 5 ≤ l) (hl : W.heap[l]? = some o) (hc : o.isCells = false) : JK w s dov lv clos outs errs X (W.putObj l o') := by
  obtain ⟨⟨bl, b0, b3, b4⟩, ov, xs, ev, ys, h1, h2, h3, h4, h5, h6, h7, h8⟩ := h
  have hk : ∀ (k : Nat) (cs : Array Value) (t : TypeId) (fr : Nat × Nat), W.heap[k]? = some (.cells cs t fr) → (W.putObj l o').heap[k]? = some (.cells cs t fr) := fun k cs t fr h => (World.putObj_heap_other (put_ne h hl hc)).trans h
  have how : ∀ (v : Value) (n : Nat) (xs : List Value), W.ownsRow (s + 5) 51 4 v n xs → (W.putObj l o').ownsRow (s + 5) 51 4 v n xs := fun v n xs h => by
    refine ⟨h.1, ?_⟩
    rcases h.2 with hn | ⟨g, cap, cur, rfl, hb, hg, rest⟩
    · exact .inl hn
    · exact .inr ⟨g, cap, cur, rfl, hb, hk _ _ _ _ hg, rest⟩
  exact ⟨⟨bl.grown (grownBy_putObj' W l o') (by have := lt_of_heap b4; omega) (fun k e => by cases e; omega), hk _ _ _ _ b0, hk _ _ _ _ b3, hk _ _ _ _ b4⟩, ov, xs, ev, ys, hk _ _ _ _ h1, hk _ _ _ _ h2, how _ _ _ h3, how _ _ _ h4, h5, h6, h7.put hl hc, h8.put hl hc⟩

theorem JK.same {w W W' : World} {s : Nat} {dov lv clos : Value} {outs errs : List Upd} {X : Nat → Prop} (h : JK w s dov lv clos outs errs X W) (hb : Below W.heap.size W W') : JK w s dov lv clos outs errs X W' := by
  obtain ⟨⟨bl, b0, b3, b4⟩, ov, xs, ev, ys, h1, h2, h3, h4, h5, h6, h7, h8⟩ := h
  have hs := lt_of_heap b4
  exact ⟨⟨bl.trans (hb.mono (by omega)), keepB b0 hb, keepB b3 hb, keepB b4 hb⟩, ov, xs, ev, ys, keepB h1 hb, keepB h2 hb, owns_same h3 (fun k hk => hb.block k (h3.lt k hk).2), owns_same h4 (fun k hk => hb.block k (h4.lt k hk).2), h5, h6, h7.kt (Kt.of_below hb), h8.kt (Kt.of_below hb)⟩
theorem set_self {W : World} {k : Nat} {v : Value} {t : TypeId} {fr : Nat × Nat} (h : W.heap[k]? = some (.cells #[v] t fr)) (j : Nat) : (W.setCell ⟨k, 0, none⟩ v).heap[j]? = W.heap[j]? := by
  by_cases e : j = k
  · subst e
    rw [heap_set_same h, h]; rfl
  · exact heap_set_ne e
theorem set_keep {W : World} {k i : Nat} {v : Value} {t : TypeId} {fr : Nat × Nat} {y : Obj} (h : W.heap[k]? = some (.cells #[v] t fr)) (hi : W.heap[i]? = some y) : (W.setCell ⟨k, 0, none⟩ v).heap[i]? = some y := (set_self h i).trans hi

set_option maxRecDepth 100000 in
theorem each_43 (xa : Option Addr) (xn xc : Nat) (f : Fn) (fb : Array Value) (w : World) :
    Calls Tryz.prog 43 #[.slice xa xn xc, .func f #[] fb] w fun e w' => e = .returned (.func (.func 57) #[] #[.pointer (some ⟨w.heap.size, 0, none⟩), .pointer (some ⟨w.heap.size + 1, 0, none⟩)]) ∧ w' = (w.alloc (.cells #[.slice xa xn xc] 22)).alloc (.cells #[.func f #[] fb] 72) := by
  go_enter Tryz.func43, Tryz.ntmps43
  go_wp2_with fail
  go_ret
  exact ⟨rfl, rfl⟩

set_option maxRecDepth 100000 in
set_option maxHeartbeats 1000000 in
theorem kept_23 (D : Does) (us : List Upd) (a : Option Addr) (uc : Nat) (w : World) (s Y : Nat) (hs : s = w.heap.size) (hus : UpsAt w (.slice a us.length uc) us) (hn : us.length ≤ 300) (fus : ∀ u ∈ us, u.fits)
    (hdo : ∀ (u : Upd) (p : Nat) (rv lv : Value) (outs errs : List Upd) (W : World), u ∈ us → errs.length ≤ 300 → s + 5 ≤ p → JK w s (.func (.func 24) #[] #[.pointer (some ⟨Y, 0, none⟩)]) (.slice a us.length uc) (.func (.func 44) #[] #[.pointer (some ⟨s, 0, none⟩), .pointer (some ⟨s + 2, 0, none⟩)]) outs errs (· = p) W → W.heap[p]? = some (.cells (upV rv lv u) 51 (0, 0)) → UpT W rv lv u →
      Calls Tryz.prog 44 #[.pointer (some ⟨p, 0, none⟩), .pointer (some ⟨s, 0, none⟩), .pointer (some ⟨s + 2, 0, none⟩)] W fun e W' => ∃ rv' lv', e = .returned (.bool ((D u).2.1 && (D u).2.2 == 0)) ∧ W'.heap[p]? = some (.cells (upV rv' lv' (D u).1) 51 (0, 0)) ∧ UpT W' rv' lv' (D u).1 ∧
        JK w s (.func (.func 24) #[] #[.pointer (some ⟨Y, 0, none⟩)]) (.slice a us.length uc) (.func (.func 44) #[] #[.pointer (some ⟨s, 0, none⟩), .pointer (some ⟨s + 2, 0, none⟩)]) outs (if (D u).2.2 = 0 then errs else errs ++ [errU (D u).1 (D u).2.2]) (· = p) W' ∧ Kt W W') :
    Calls Tryz.prog 23 #[(.slice a us.length uc), (.func (.func 24) #[] #[.pointer (some ⟨Y, 0, none⟩)])] w fun e w' => ∃ ov ev, e = .returned (.tuple #[ov, ev]) ∧ UpsAt w' ov (keepF D us) ∧ UpsAt w' ev (errF D us) ∧ Below w.heap.size w w' := by
  obtain ⟨i0, hi0, hz0, hz1, hz2⟩ := info_parts info51
  have hseq := each1_57 D us a uc w s Y hs hus hn fus hdo 3
  have HSEQ := Lib.hid hseq
  have HSS := Lib.hid hs
  have hF : ∀ f, Fence.wide.fn f := fun _ => trivial
  have hdd : Fence.wide.depth = none := rfl
  have hro : Fence.wide.round = none := rfl
  clear hseq hs hus fus hdo
  obtain ⟨K, eK⟩ : ∃ K, K = us.length := ⟨_, rfl⟩
  have EK := Lib.hid eK
  rw [← eK] at hn ⊢
  clear eK
  refine (callsIn_wide (n := 4)).1 ?_
  refine callsIn_of_wp_marks Tryz.func23 rfl trivial ?_ rfl
  simp only [Tryz.ntmps23, List.size_toArray, List.length_cons, List.length_nil, Nat.reduceAdd, Nat.reduceSub, Array.replicate_succ, Array.replicate_zero, List.push_toArray, List.append_toArray, List.nil_append, List.cons_append]
  gi_wp2_with fail
  refine (callsIn_wide.2 (each_43 _ _ _ _ _ _)).mono ?_
  rintro ev w1 ⟨rfl, hw1⟩
  gi_wp2_with fail
  obtain ⟨f0, f1, f2, f3, f4, fb, f5⟩ := five_at hw1
  rw [← hw1]
  generalize w1 = W0 at *
  rw [← HSS.out] at f0 f1 f2 f3 f4 fb f5 ⊢
  have hj0 : JK w s (.func (.func 24) #[] #[.pointer (some ⟨Y, 0, none⟩)]) (.slice a us.length uc) (.func (.func 44) #[] #[.pointer (some ⟨s, 0, none⟩), .pointer (some ⟨s + 2, 0, none⟩)]) [] [] (fun _ => False) W0 := ⟨⟨fb, f0, by rw [← EK.out]; exact f3, f4⟩, .slice none 0 0, [], .slice none 0 0, [], f1, f2, World.ownsRow_nil _ _ _ _, World.ownsRow_nil _ _ _ _, (fun k hk => by cases hk), (fun k hk => by cases hk), ElsT.nil, ElsT.nil⟩
  have HJ0 := Lib.hid hj0
  have HF5 := Lib.hid f5
  clear hw1 f0 f1 f2 f3 f4 fb hj0
  refine wpIn_rangeFunc_ixz (n := 4) rfl (by decide) (gf := 57) (lb := #[.pointer (some ⟨s + 3, 0, none⟩), .pointer (some ⟨s + 4, 0, none⟩)]) rfl trivial (enters_of Tryz.func57 (by kernel_rfl) rfl) (encs := fun x : Value => #[x]) (N := us.length) (I := _) (Y := _)
    (Z := fun i x a' W => ∃ u u' rv lvv Bx x12, us[i]? = some u ∧ (D u) = (u', true, 0) ∧ s + 5 ≤ Bx ∧ W.heap[Bx]? = some (.cells (upV rv lvv u') 51 (0, 0)) ∧ UpT W rv lvv u' ∧ JK w s (.func (.func 24) #[] #[.pointer (some ⟨Y, 0, none⟩)]) (.slice a us.length uc) (.func (.func 44) #[] #[.pointer (some ⟨s, 0, none⟩), .pointer (some ⟨s + 2, 0, none⟩)]) (keepF D (us.take i)) (errF D (us.take i)) (fun _ => False) W ∧
      a' = { tmps := #[.slice a K uc, (.func (.func 24) #[] #[.pointer (some ⟨Y, 0, none⟩)]), undef, .pointer (some ⟨s, 0, none⟩), .pointer (some ⟨s + 1, 0, none⟩), .pointer (some ⟨s + 2, 0, none⟩), .func (.func 57) #[] #[.pointer (some ⟨s + 3, 0, none⟩), .pointer (some ⟨s + 4, 0, none⟩)], .pointer (some ⟨Bx, 0, none⟩), .slice a K uc, (.func (.func 44) #[] #[.pointer (some ⟨s, 0, none⟩), .pointer (some ⟨s + 2, 0, none⟩)]), .func (.func 57) #[] #[.pointer (some ⟨s + 3, 0, none⟩), .pointer (some ⟨s + 4, 0, none⟩)], .func (.func 57) #[] #[.pointer (some ⟨s + 3, 0, none⟩), .pointer (some ⟨s + 4, 0, none⟩)], x12, undef, undef, undef, undef, undef, undef], defers := [] })
    (by rw [HF5.out]; exact HSEQ.out) (fun _ => rfl) ?ip ?zp ?h0 ?asg ?bdy ?don
  case ip => exact fun i W l o o' h hl ho hc => h.put (by have := HF5.out; omega) ho hc
  case zp =>
    rintro i x a' W l o o' ⟨u, u', rv, lvv, Bx, x12, q1, q2, q3, q4, q5, q6, q7⟩ hl ho hc
    exact ⟨u, u', rv, lvv, Bx, x12, q1, q2, q3, (World.putObj_heap_other (put_ne q4 ho hc)).trans q4, q5.put ho hc, q6.put (by have := HF5.out; omega) ho hc, q7⟩
  case h0 => exact fun o o' => ((HJ0.out.fresh o).fresh o').weak
  case asg =>
    rintro l i x W K0 ⟨u, u', rv, lvv, hu, hD, rfl, hut, hj⟩ hK
    obtain ⟨ra, rc, erv, -, -⟩ := id hut.row
    obtain ⟨la, lc, elv, -, -⟩ := id hut.loops
    subst erv elv
    have HK := Lib.hid hK
    have HUT := Lib.hid hut
    have HJ := Lib.hid hj
    clear hK hut hj
    unfold upV
    have hz : s + 5 ≤ W.heap.size := by have := lt_of_heap HJ.out.1.b4; omega
    have hnb : W.heap.size = W.heap.size := rfl
    gi_wp2_with fail
    exact HK.out _ _ (Kt.alloc _ _).keeps ⟨u, u', _, _, W.heap.size, _, hu, hD, hz, heap_alloc_new _ _, HUT.out.kt (Kt.alloc _ _), (HJ.out.fresh _).weak, rfl⟩
  case bdy =>
    rintro l i x a' W hi ⟨u, u', rv, lvv, Bx, x12, q1, q2, q3, q4, q5, q6, rfl⟩
    obtain ⟨ra, rc, erv, -, -⟩ := id q5.row
    obtain ⟨la, lc, elv, -, -⟩ := id q5.loops
    subst erv elv
    obtain ⟨hb, ov, xs, ev, ys, h1, h2, h3, h4, h5, -, h7, h8⟩ := q6
    obtain ⟨oa, oc, rfl⟩ := ownsRow_slice h3
    have hsz := lt_of_heap hb.b4
    have z0 : W.cell? ⟨Bx, 0, none⟩ = some (.slice ra u'.row.length rc) := cell_of_heap q4 rfl
    have z1 : W.cell? ⟨Bx, 1, none⟩ = some (.int .u64 u'.epoch) := cell_of_heap q4 rfl
    have z2 : W.cell? ⟨Bx, 2, none⟩ = some (.slice la u'.loops.length lc) := cell_of_heap q4 rfl
    have z3 : W.cell? ⟨Bx, 3, none⟩ = some (.int .i64 u'.diff) := cell_of_heap q4 rfl
    have z4 : W.cell? ⟨s + 1, 0, none⟩ = some (.slice oa (keepF D (us.take i)).length oc) := cell_of_heap h1 rfl
    have hql : (keepF D (us.take i)).length ≤ 300 := Nat.le_trans (keepF_len _) (by rw [List.length_take]; have := EK.out; omega)
    have htk : us.take (i + 1) = us.take i ++ [u] := by rw [List.take_add_one, q1]; rfl
    have hkf : keepF D (us.take (i + 1)) = keepF D (us.take i) ++ [u'] := by rw [htk, keepF_snoc, q2]; rfl
    have hef : errF D (us.take (i + 1)) = errF D (us.take i) := by rw [htk, errF_snoc, q2]; rfl
    have HB := Lib.hid hb
    have H1 := Lib.hid h1
    have H2 := Lib.hid h2
    have H3 := Lib.hid h3
    have H4 := Lib.hid h4
    have H5 := Lib.hid (fun k hk => (h5 k hk).2)
    have H7 := Lib.hid h7
    have H8 := Lib.hid h8
    have HU5 := Lib.hid q5
    have HKF := Lib.hid hkf
    have HEF := Lib.hid hef
    clear hb h1 h2 h3 h4 h5 h7 h8 q1 q2 q4 q5 htk hkf hef
    gi_wp2_with (gi_at_builtin; go_must (refine wpListIn_append_own_at _ rfl _ _ 22 rfl (s + 5) 51 i0 _ 4 64 Tryz.underlying22 hi0 hz0 hz1 hz2 rfl (by decide) _ (keepF D (us.take i)).length xs rfl (H3.out.alloc _) ⟨W.heap.size, 0, none⟩ 1 1 [.slice ra u'.row.length rc, .int .u64 u'.epoch, .slice la u'.loops.length lc, .int .i64 u'.diff] rfl rfl ?c1 ?c2 ?c3 ?c4 ?c5 ?_))
    case c1 => first | exact fun _ _ hj => hj | exact World.news_of_block (cs := #[.slice ra u'.row.length rc, .int .u64 u'.epoch, .slice la u'.loops.length lc, .int .i64 u'.diff]) (heap_alloc_new _ _)
    case c2 => first | exact ⟨rfl, rfl, rfl, rfl⟩ | (intro y hy; simp at hy; rcases hy with rfl | rfl | rfl | rfl <;> rfl)
    case c3 => unfold maxLen; omega
    case c4 => omega
    case c5 => first | omega | (rw [World.size_alloc]; omega)
    intro v' w3 hown hgrow _ hat
    obtain ⟨va, vc, rfl⟩ := ownsRow_slice hown
    have hpush := push_out HB.out H1.out H2.out H3.out H4.out H5.out H7.out H8.out HU5.out rfl hown hgrow (by first | exact hat | (rw [World.size_alloc]; exact hat))
    rw [← HKF.out, ← HEF.out] at hpush
    have he1 : w3.heap[s + 1]? = some (.cells #[.slice oa (keepF D (us.take i)).length oc] 22 (0, 0)) := (hgrow.block (s + 1) (by simp; omega) (fun e => by have := (H3.out.lt _ e.symm).1; omega)).trans (keepAt' H1.out _)
    have z5 := cell_of_heap (o := 0) he1 rfl
    have g5 := frozen_of_heap (o := 0) he1
    have HPU := Lib.hid hpush
    clear hown hgrow hat hpush he1
    gi_wp2_with fail
    exact ⟨HPU.out.2, HPU.out.1⟩
  case don =>
    intro Dd W hDd hI hdef
    rw [List.take_length] at hI
    have HI := Lib.hid hI
    obtain ⟨hb, ov, xs, ev, ys, h1, h2, h3, h4, h5, -, h7, h8⟩ := hI
    obtain ⟨oa, oc, rfl⟩ := ownsRow_slice h3
    obtain ⟨ea, ec, rfl⟩ := ownsRow_slice h4
    have z1 := cell_of_heap (o := 0) h1 rfl
    have g1 := frozen_of_heap (o := 0) h1
    have z2 := cell_of_heap (o := 0) h2 rfl
    have g2 := frozen_of_heap (o := 0) h2
    have HI1 := Lib.hid h1
    have HI2 := Lib.hid h2
    gi_wp2
    refine wpIn_wide.2 ?_
    go_region_with (fail)
    all_goals gi_wp2
    all_goals
      have hset : ∀ j, (((W.setCell ⟨s + 1, 0, none⟩ (.slice oa (keepF D us).length oc)).setCell ⟨s + 1 + 1, 0, none⟩ (.slice ea (errF D us).length ec)).drew).heap[j]? = W.heap[j]? := fun j => (set_self (set_keep HI1.out HI2.out) j).trans (set_self HI1.out j)
      have hbel : Below W.heap.size W (((W.setCell ⟨s + 1, 0, none⟩ (.slice oa (keepF D us).length oc)).setCell ⟨s + 1 + 1, 0, none⟩ (.slice ea (errF D us).length ec)).drew) := ⟨rfl, rfl, rfl, by simp [World.setCell], fun k _ => hset k⟩
      obtain ⟨W4, hW4⟩ : ∃ W4, W4 = (((W.setCell ⟨s + 1, 0, none⟩ (.slice oa (keepF D us).length oc)).setCell ⟨s + 1 + 1, 0, none⟩ (.slice ea (errF D us).length ec)).drew) := ⟨_, rfl⟩
      rw [← hW4] at hset hbel ⊢
      have hd4 : W4.heap[Dd]? = some (.deferred (some [])) := (hset Dd).trans hdef
      have hj5 := (HI.out.same hbel).put (o' := .deferred none) (by have := HF5.out; omega) hd4 rfl
      refine ⟨by simp, .inl ⟨_, _, rfl, run_takeDeferred hd4, ?_⟩⟩
      obtain ⟨hb5, ov5, xs5, ev5, ys5, k1, k2, k3, k4, -, -, k7, k8⟩ := hj5
      have c5 := cell_of_heap (o := 0) k1 rfl
      have c6 : (W4.putObj Dd (Obj.deferred none)).cell? ⟨s + 1 + 1, 0, none⟩ = _ := cell_of_heap (o := 0) k2 rfl
      refine ⟨.tuple #[ov5, ev5], by simp [results, Tryz.f23, go_sem, c5, c6], ?_⟩
      exact ⟨_, _, rfl, (k7.els.at k3).2, (k8.els.at k4).2, by have := hb5.below; rw [HSS.out] at this; exact this⟩
end Go.Proofs.YtlpehdhgdpeoeaaGreatDoor
