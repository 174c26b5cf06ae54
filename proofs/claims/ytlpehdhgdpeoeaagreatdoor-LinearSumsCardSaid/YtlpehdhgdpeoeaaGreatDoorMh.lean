import Derived.Test.YtlpehdhgdpeoeaaGreatDoorMp
/- LinearSums' walk. -/
namespace Go.Proofs.YtlpehdhgdpeoeaaGreatDoor
open Go.RowKit Go.Pen Go.Shelf
attribute [local go_sem] Oper.semAt_some

theorem intsOn_of {w : World} {v : Value} {xs : List Int} (h : IntsAt w v xs) : IntsOn (fun _ => True) w xs v := by
  obtain ⟨a, c, rfl, hz, h⟩ := h
  refine ⟨a, c, rfl, hz, fun hne => ?_⟩
  obtain ⟨b, o, rfl, hg⟩ := h hne
  exact ⟨b, o, rfl, trivial, hg⟩
theorem valid_good {us : List Upd} (hv : validU us = true) (hf : ∀ u ∈ us, u.fits) (hw : ∀ u ∈ us, u.few) : ∀ u ∈ us, u.good := fun u hu => by
  have h := List.all_eq_true.1 hv u hu
  simp only [rowOk, Bool.and_eq_true] at h
  exact ⟨fun d hd => List.all_eq_true.1 h.2 d hd, hf u hu, (hw u hu).1⟩

set_option maxRecDepth 100000 in
set_option maxHeartbeats 8000000 in
theorem sums_4 (us : List Upd) (es : List ET) (cs : List Int) (leave add : Int) (en : List Int) (v va cv nv : Value) (w : World) (hu : UpsAt w v us) (wus : ∀ u ∈ us, u.wide) (hul : us.length ≤ 140737488355328) (ha : ExprsAt w va es) (fa : ∀ e ∈ es, e.fits) (hal : es.length ≤ 140737488355328) (hc : IntsAt w cv cs) (hcl : cs.length ≤ 17592186043904)
    (hn : WordsAt w nv en) (hnl : en.length ≤ 140737488355328) (hlv : -9223372036854775808 ≤ leave ∧ leave ≤ 9223372036854775807) (had : U32 add) (hnu : ∀ x ∈ en, U32 x)
    (hT : Lib.Utf8Tabs 1 2 w) (hE : ErrTy w) (h3 : 3 ≤ w.heap.size) (hkn : ∀ W, Below w.heap.size w W → Calls Tryz.prog 7 #[] W fun e w' => e = .returned (.bool true) ∧ Below W.heap.size W w') :
    Calls Tryz.prog 4 #[v, va, cv, .agg #[.int .i64 leave, .int .u32 add, nv]] w fun e w' => e = .returned (.bool true) ∧ Below w.heap.size w w' := by
  obtain ⟨ua, uc, rfl⟩ := hu.slice
  obtain ⟨ca, cc, rfl⟩ := hc.slice
  obtain ⟨na, nc, rfl⟩ := hn.slice
  obtain ⟨ea, ec, eev, -, -⟩ := ExprsAt.iff.1 ha
  subst eev
  obtain ⟨w1, hw1⟩ : ∃ w1, w1 = w.alloc (.cells #[.int .i64 leave, .int .u32 add, .slice na en.length nc] 36) := ⟨_, rfl⟩
  have hb1 : Below w.heap.size w w1 := by rw [hw1]; exact one_below _ _
  have hx : w1.heap[w.heap.size]? = some (.cells #[.int .i64 leave, .int .u32 add, .slice na en.length nc] 36 (0, 0)) := by rw [hw1]; exact heap_alloc_new _ _
  have HX := Lib.hid hx
  have HW1 := Lib.hid hb1
  have HB1 := Lib.hid (Below.refl w1.heap.size w1)
  have HU := Lib.hid (hu.below hb1)
  have HA := Lib.hid (ha.below hb1)
  have HI := Lib.hid ((intsOn_of hc).below hb1)
  have HN := Lib.hid (hn.below hb1)
  have HT := Lib.hid (tabs_below hT hb1 h3)
  have HE := Lib.hid (cell_keep hb1 hE)
  have h31 : 3 ≤ w1.heap.size := Nat.le_trans h3 hb1.size
  have FA := Lib.hid fa
  have WUS := Lib.hid wus
  have HKN := Lib.hid (fun W (hb : Below w1.heap.size w1 W) => hkn W (stepB hb1 hb))
  have HM := Lib.hid (much_6 us es _ _ ca cs.length cc w1 HU.out (fun x hx => ⟨(wus x hx).lr, (wus x hx).ll⟩) hul HA.out fa hal (by omega))
  have HSN := Lib.hid (show ∀ W, Below w1.heap.size w1 W → W.cell? ⟨w.heap.size, 0, none⟩ = some (.int .i64 leave) ∧ W.cell? ⟨w.heap.size, 1, none⟩ = some (.int .u32 add) ∧ W.cell? ⟨w.heap.size, 2, none⟩ = some (.slice na en.length nc) from fun W hb => ⟨cell_of_heap (keepB hx hb) rfl, cell_of_heap (keepB hx hb) rfl, cell_of_heap (keepB hx hb) rfl⟩)
  have HW := Lib.hid hw1
  clear hu ha hc hn hT hE fa wus hkn hb1 hx hw1
  go_enter Tryz.func4, Tryz.ntmps4
  go_wp2_with fail
  rw [← HW.out]
  refine HM.out.mono ?_
  rintro e w2 ⟨b1, rfl, hm1, hb2⟩
  have HB2 := Lib.hid hb2
  have z2 := (HSN.out w2 hb2).2.2
  rcases b1 with _ | _
  · by_cases h40 : 40 < en.length
    · have HK := Lib.hid (HKN.out w2 hb2)
      clear hb2
      go_wp2_with fail
      refine HK.out.mono ?_
      rintro e w3 ⟨rfl, hb3⟩
      have HB3 := Lib.hid (stepB HB2.out hb3)
      clear hb3 HK
      go_wp2_with fail
      go_ret
      exact ⟨rfl, HW1.out.trans (HB3.out.mono HW1.out.size)⟩
    · have hn40 : en.length ≤ 40 := by omega
      have hm2 := hm1 rfl
      have hn300 : us.length ≤ 300 := by omega
      have hel : es.length ≤ 300 := by omega
      have hcs : cs.length ≤ 300 := by omega
      have FUS := Lib.hid (fun u hu => (WUS.out u hu).fits (hm2.2 u hu))
      have HFW := Lib.hid hm2.2
      have HK := Lib.hid (HKN.out w2 hb2)
      clear hb2 hm1 hm2
      go_wp2_with fail
      refine HK.out.mono ?_
      rintro e w3 ⟨rfl, hb3⟩
      have HB3 := Lib.hid (stepB HB2.out hb3)
      have hv := valid_8 us _ w3 (HU.out.below HB3.out) FUS.out (by omega)
      obtain ⟨V, eV⟩ : ∃ V, V = validU us := ⟨_, rfl⟩
      rw [← eV] at hv
      have HV := Lib.hid hv
      have EV := Lib.hid eV
      clear hb3 hv eV HK
      go_wp2_with fail
      refine HV.out.mono ?_
      rintro e w4 ⟨rfl, hb4⟩
      have HB4 := Lib.hid (stepB HB3.out hb4)
      clear hb4 HV
      rcases V with _ | _
      · go_wp2_with fail
        go_ret
        exact ⟨rfl, HW1.out.trans (HB4.out.mono HW1.out.size)⟩
      · have GU := Lib.hid (valid_good EV.out.symm FUS.out HFW.out)
        have GS := Lib.hid (sumU_good GU.out)
        have FS := Lib.hid (fun u hu => (GS.out u hu).2.1)
        have hs300 : (sumU us).length ≤ 300 := by have := sumU_len us; omega
        have HM1 := Lib.hid (sums_keep (mapD_key es) (fun u h => mapD_okR h) GU.out)
        have HM2 := Lib.hid (sums_keep (D := filtD es) (fun _ _ => rfl) (fun _ h => h) GU.out)
        have HM3 := Lib.hid (sums_all (D := projR cs) (fun _ _ => rfl) (fun _ h => proj_okR h) GU.out)
        have HM4 := Lib.hid (sums_all (D := moveR leave add en) (fun _ _ => rfl) (fun _ h => h) GU.out)
        have HSU := Lib.hid (sum_11 us _ w4 (HU.out.below HB4.out) FUS.out (by omega))
        go_wp2_with fail
        refine HSU.out.mono ?_
        rintro e w5 ⟨sv, rfl, hs, hb5⟩
        obtain ⟨sa, sc, rfl⟩ := hs.slice
        have HS := Lib.hid hs
        have HB5 := Lib.hid (stepB HB4.out hb5)
        clear hs hb5 HSU
        have HC := Lib.hid (map_12 us es _ _ _ w5 (HU.out.below HB5.out) hn300 FUS.out (HA.out.below HB5.out) FA.out (by omega) (tabs_below HT.out HB5.out h31) (cell_keep HB5.out HE.out) (Nat.le_trans h31 HB5.out.size))
        go_wp2_with fail
        refine HC.out.mono ?_
        rintro e w6 ⟨va, vb, rfl, ha, hb, hb6⟩
        have HB6 := Lib.hid (stepB HB5.out hb6)
        replace HS := Lib.hid (HS.out.below hb6)
        have Ha := Lib.hid ha
        have Hb := Lib.hid hb
        clear HC hb6 ha hb
        have HC := Lib.hid (map_12 (sumU us) es _ _ _ w6 HS.out hs300 FS.out (HA.out.below HB6.out) FA.out (by omega) (tabs_below HT.out HB6.out h31) (cell_keep HB6.out HE.out) (Nat.le_trans h31 HB6.out.size))
        go_wp2_with fail
        refine HC.out.mono ?_
        rintro e w7 ⟨vc, vd, rfl, hc, hd, hb7⟩
        have HB7 := Lib.hid (stepB HB6.out hb7)
        replace HS := Lib.hid (HS.out.below hb7)
        replace Ha := Lib.hid (Ha.out.below hb7)
        replace Hb := Lib.hid (Hb.out.below hb7)
        have Hc := Lib.hid hc
        have Hd := Lib.hid hd
        clear HC hb7 hc hd
        have HC := Lib.hid (filter_9 us es _ _ _ w7 (HU.out.below HB7.out) hn300 FUS.out (HA.out.below HB7.out) FA.out (by omega) (tabs_below HT.out HB7.out h31) (cell_keep HB7.out HE.out) (Nat.le_trans h31 HB7.out.size) (fun u hu => filtR_num (FUS.out u hu).row FA.out))
        go_wp2_with fail
        refine HC.out.mono ?_
        rintro e w8 ⟨ve, vf, rfl, he, hf, hb8⟩
        have HB8 := Lib.hid (stepB HB7.out hb8)
        replace HS := Lib.hid (HS.out.below hb8)
        replace Ha := Lib.hid (Ha.out.below hb8)
        replace Hb := Lib.hid (Hb.out.below hb8)
        replace Hc := Lib.hid (Hc.out.below hb8)
        replace Hd := Lib.hid (Hd.out.below hb8)
        have He := Lib.hid he
        have Hf := Lib.hid hf
        clear HC hb8 he hf
        have HC := Lib.hid (filter_9 (sumU us) es _ _ _ w8 HS.out hs300 FS.out (HA.out.below HB8.out) FA.out (by omega) (tabs_below HT.out HB8.out h31) (cell_keep HB8.out HE.out) (Nat.le_trans h31 HB8.out.size) (fun u hu => filtR_num (FS.out u hu).row FA.out))
        go_wp2_with fail
        refine HC.out.mono ?_
        rintro e w9 ⟨vg, vh, rfl, hg, hh, hb9⟩
        have HB9 := Lib.hid (stepB HB8.out hb9)
        replace HS := Lib.hid (HS.out.below hb9)
        replace Ha := Lib.hid (Ha.out.below hb9)
        replace Hb := Lib.hid (Hb.out.below hb9)
        replace Hc := Lib.hid (Hc.out.below hb9)
        replace Hd := Lib.hid (Hd.out.below hb9)
        replace He := Lib.hid (He.out.below hb9)
        replace Hf := Lib.hid (Hf.out.below hb9)
        have Hg := Lib.hid hg
        have Hh := Lib.hid hh
        clear HC hb9 hg hh
        have HC := Lib.hid (sum_11 (keepF (mapD es) us) _ w9 Ha.out (map_keep_fits FA.out hel GU.out) (by have := keepF_len (D := mapD es) us; have := keepF_len (D := mapD es) (sumU us); omega))
        go_wp2_with fail
        refine HC.out.mono ?_
        rintro e w10 ⟨sa, rfl, hsa, hb10⟩
        have HB10 := Lib.hid (stepB HB9.out hb10)
        replace HS := Lib.hid (HS.out.below hb10)
        replace Ha := Lib.hid (Ha.out.below hb10)
        replace Hb := Lib.hid (Hb.out.below hb10)
        replace Hc := Lib.hid (Hc.out.below hb10)
        replace Hd := Lib.hid (Hd.out.below hb10)
        replace He := Lib.hid (He.out.below hb10)
        replace Hf := Lib.hid (Hf.out.below hb10)
        replace Hg := Lib.hid (Hg.out.below hb10)
        replace Hh := Lib.hid (Hh.out.below hb10)
        have HSa := Lib.hid hsa
        clear HC hb10 hsa
        have HC := Lib.hid (sum_11 (keepF (mapD es) (sumU us)) _ w10 Hc.out (map_keep_fits FA.out hel GS.out) (by have := keepF_len (D := mapD es) us; have := keepF_len (D := mapD es) (sumU us); omega))
        go_wp2_with fail
        refine HC.out.mono ?_
        rintro e w11 ⟨sc, rfl, hsc, hb11⟩
        have HB11 := Lib.hid (stepB HB10.out hb11)
        replace HS := Lib.hid (HS.out.below hb11)
        replace Hb := Lib.hid (Hb.out.below hb11)
        replace Hc := Lib.hid (Hc.out.below hb11)
        replace Hd := Lib.hid (Hd.out.below hb11)
        replace He := Lib.hid (He.out.below hb11)
        replace Hf := Lib.hid (Hf.out.below hb11)
        replace Hg := Lib.hid (Hg.out.below hb11)
        replace Hh := Lib.hid (Hh.out.below hb11)
        replace HSa := Lib.hid (HSa.out.below hb11)
        have HSc := Lib.hid hsc
        clear HC hb11 hsc
        have HC := Lib.hid (sameUpdates_10 _ _ (sumU (keepF (mapD es) us)) w11 HSa.out (by rw [HM1.out.1]; exact HSc.out) (by have := sumU_len (keepF (mapD es) us); have := keepF_len (D := mapD es) us; have := keepF_len (D := mapD es) (sumU us); omega) (fun u hu => ⟨(sumU_fits (map_keep_fits FA.out hel GU.out) u hu).lr, (sumU_fits (map_keep_fits FA.out hel GU.out) u hu).ll⟩))
        go_wp2_with fail
        refine HC.out.mono ?_
        rintro e w12 ⟨rfl, hb12⟩
        have HB12 := Lib.hid (stepB HB11.out hb12)
        replace HS := Lib.hid (HS.out.below hb12)
        replace Hb := Lib.hid (Hb.out.below hb12)
        replace Hd := Lib.hid (Hd.out.below hb12)
        replace He := Lib.hid (He.out.below hb12)
        replace Hf := Lib.hid (Hf.out.below hb12)
        replace Hg := Lib.hid (Hg.out.below hb12)
        replace Hh := Lib.hid (Hh.out.below hb12)
        replace HSa := Lib.hid (HSa.out.below hb12)
        replace HSc := Lib.hid (HSc.out.below hb12)
        clear HC hb12
        have HC := Lib.hid (sum_11 (errF (mapD es) us) _ w12 Hb.out (map_err_fits FA.out hel GU.out) (by have := errF_len (D := mapD es) us; have := errF_len (D := mapD es) (sumU us); omega))
        go_wp2_with fail
        refine HC.out.mono ?_
        rintro e w13 ⟨sb, rfl, hsb, hb13⟩
        have HB13 := Lib.hid (stepB HB12.out hb13)
        replace HS := Lib.hid (HS.out.below hb13)
        replace Hb := Lib.hid (Hb.out.below hb13)
        replace Hd := Lib.hid (Hd.out.below hb13)
        replace He := Lib.hid (He.out.below hb13)
        replace Hf := Lib.hid (Hf.out.below hb13)
        replace Hg := Lib.hid (Hg.out.below hb13)
        replace Hh := Lib.hid (Hh.out.below hb13)
        have HSb := Lib.hid hsb
        clear HC hb13 hsb
        have HC := Lib.hid (sum_11 (errF (mapD es) (sumU us)) _ w13 Hd.out (map_err_fits FA.out hel GS.out) (by have := errF_len (D := mapD es) us; have := errF_len (D := mapD es) (sumU us); omega))
        go_wp2_with fail
        refine HC.out.mono ?_
        rintro e w14 ⟨sd, rfl, hsd, hb14⟩
        have HB14 := Lib.hid (stepB HB13.out hb14)
        replace HS := Lib.hid (HS.out.below hb14)
        replace Hd := Lib.hid (Hd.out.below hb14)
        replace He := Lib.hid (He.out.below hb14)
        replace Hf := Lib.hid (Hf.out.below hb14)
        replace Hg := Lib.hid (Hg.out.below hb14)
        replace Hh := Lib.hid (Hh.out.below hb14)
        replace HSb := Lib.hid (HSb.out.below hb14)
        have HSd := Lib.hid hsd
        clear HC hb14 hsd
        have HC := Lib.hid (sameUpdates_10 _ _ (sumU (errF (mapD es) us)) w14 HSb.out (by rw [HM1.out.2]; exact HSd.out) (by have := sumU_len (errF (mapD es) us); have := errF_len (D := mapD es) us; have := errF_len (D := mapD es) (sumU us); omega) (fun u hu => ⟨(sumU_fits (map_err_fits FA.out hel GU.out) u hu).lr, (sumU_fits (map_err_fits FA.out hel GU.out) u hu).ll⟩))
        go_wp2_with fail
        refine HC.out.mono ?_
        rintro e w15 ⟨rfl, hb15⟩
        have HB15 := Lib.hid (stepB HB14.out hb15)
        replace HS := Lib.hid (HS.out.below hb15)
        replace He := Lib.hid (He.out.below hb15)
        replace Hf := Lib.hid (Hf.out.below hb15)
        replace Hg := Lib.hid (Hg.out.below hb15)
        replace Hh := Lib.hid (Hh.out.below hb15)
        replace HSb := Lib.hid (HSb.out.below hb15)
        replace HSd := Lib.hid (HSd.out.below hb15)
        clear HC hb15
        have HC := Lib.hid (sum_11 (keepF (filtD es) us) _ w15 He.out (filt_keep_fits GU.out) (by have := keepF_len (D := filtD es) us; have := keepF_len (D := filtD es) (sumU us); omega))
        go_wp2_with fail
        refine HC.out.mono ?_
        rintro e w16 ⟨se, rfl, hse, hb16⟩
        have HB16 := Lib.hid (stepB HB15.out hb16)
        replace HS := Lib.hid (HS.out.below hb16)
        replace He := Lib.hid (He.out.below hb16)
        replace Hf := Lib.hid (Hf.out.below hb16)
        replace Hg := Lib.hid (Hg.out.below hb16)
        replace Hh := Lib.hid (Hh.out.below hb16)
        have HSe := Lib.hid hse
        clear HC hb16 hse
        have HC := Lib.hid (sum_11 (keepF (filtD es) (sumU us)) _ w16 Hg.out (filt_keep_fits GS.out) (by have := keepF_len (D := filtD es) us; have := keepF_len (D := filtD es) (sumU us); omega))
        go_wp2_with fail
        refine HC.out.mono ?_
        rintro e w17 ⟨sg, rfl, hsg, hb17⟩
        have HB17 := Lib.hid (stepB HB16.out hb17)
        replace HS := Lib.hid (HS.out.below hb17)
        replace Hf := Lib.hid (Hf.out.below hb17)
        replace Hg := Lib.hid (Hg.out.below hb17)
        replace Hh := Lib.hid (Hh.out.below hb17)
        replace HSe := Lib.hid (HSe.out.below hb17)
        have HSg := Lib.hid hsg
        clear HC hb17 hsg
        have HC := Lib.hid (sameUpdates_10 _ _ (sumU (keepF (filtD es) us)) w17 HSe.out (by rw [HM2.out.1]; exact HSg.out) (by have := sumU_len (keepF (filtD es) us); have := keepF_len (D := filtD es) us; have := keepF_len (D := filtD es) (sumU us); omega) (fun u hu => ⟨(sumU_fits (filt_keep_fits GU.out) u hu).lr, (sumU_fits (filt_keep_fits GU.out) u hu).ll⟩))
        go_wp2_with fail
        refine HC.out.mono ?_
        rintro e w18 ⟨rfl, hb18⟩
        have HB18 := Lib.hid (stepB HB17.out hb18)
        replace HS := Lib.hid (HS.out.below hb18)
        replace Hf := Lib.hid (Hf.out.below hb18)
        replace Hh := Lib.hid (Hh.out.below hb18)
        replace HSe := Lib.hid (HSe.out.below hb18)
        replace HSg := Lib.hid (HSg.out.below hb18)
        clear HC hb18
        have HC := Lib.hid (sum_11 (errF (filtD es) us) _ w18 Hf.out (filt_err_fits FA.out GU.out) (by have := errF_len (D := filtD es) us; have := errF_len (D := filtD es) (sumU us); omega))
        go_wp2_with fail
        refine HC.out.mono ?_
        rintro e w19 ⟨sf, rfl, hsf, hb19⟩
        have HB19 := Lib.hid (stepB HB18.out hb19)
        replace HS := Lib.hid (HS.out.below hb19)
        replace Hf := Lib.hid (Hf.out.below hb19)
        replace Hh := Lib.hid (Hh.out.below hb19)
        have HSf := Lib.hid hsf
        clear HC hb19 hsf
        have HC := Lib.hid (sum_11 (errF (filtD es) (sumU us)) _ w19 Hh.out (filt_err_fits FA.out GS.out) (by have := errF_len (D := filtD es) us; have := errF_len (D := filtD es) (sumU us); omega))
        go_wp2_with fail
        refine HC.out.mono ?_
        rintro e w20 ⟨sh, rfl, hsh, hb20⟩
        have HB20 := Lib.hid (stepB HB19.out hb20)
        replace HS := Lib.hid (HS.out.below hb20)
        replace Hh := Lib.hid (Hh.out.below hb20)
        replace HSf := Lib.hid (HSf.out.below hb20)
        have HSh := Lib.hid hsh
        clear HC hb20 hsh
        have HC := Lib.hid (sameUpdates_10 _ _ (sumU (errF (filtD es) us)) w20 HSf.out (by rw [HM2.out.2]; exact HSh.out) (by have := sumU_len (errF (filtD es) us); have := errF_len (D := filtD es) us; have := errF_len (D := filtD es) (sumU us); omega) (fun u hu => ⟨(sumU_fits (filt_err_fits FA.out GU.out) u hu).lr, (sumU_fits (filt_err_fits FA.out GU.out) u hu).ll⟩))
        go_wp2_with fail
        refine HC.out.mono ?_
        rintro e w21 ⟨rfl, hb21⟩
        have HB21 := Lib.hid (stepB HB20.out hb21)
        replace HS := Lib.hid (HS.out.below hb21)
        replace HSf := Lib.hid (HSf.out.below hb21)
        replace HSh := Lib.hid (HSh.out.below hb21)
        clear HC hb21
        go_upto_region 13 with fail
        have CB0 := Lib.hid (show Below w1.heap.size w1 w21.drew from Go.Pen.below_drewN (n := 1) HB21.out)
        replace HS := Lib.hid (show UpsAt w21.drew _ _ from HS.out.below (Go.Pen.below_drewN (n := 1) (Below.refl _ w21)))
        refine wp_region_held_drew (S := fun W => W.cell? ⟨w.heap.size, 0, none⟩ = some (.int .i64 leave) ∧ W.cell? ⟨w.heap.size, 1, none⟩ = some (.int .u32 add) ∧ W.cell? ⟨w.heap.size, 2, none⟩ = some (.slice na en.length nc)) (by kernel_rfl) (HSN.out _ CB0.out) (fun hHeld => ?_)
        refine wpAnyH_take (i := 0) (oi := ⟨some 91, _, _, _, _, _⟩) (v := ?_) rfl (by kernel_rfl) (by kernel_rfl) (by kernel_rfl) (fun _ _ _ h => h) (Or.inl ⟨by rfl, ?_⟩) (by assumption) ?_; rotate_left; (intro w hSw; (try dsimp only at hSw); go_simp; (try with_reducible rfl)); (try simp only [Act.put, List.setIfInBounds_toArray, List.set_cons_zero, List.set_cons_succ])
        refine wpAnyH_take (i := 1) (oi := ⟨some 92, _, _, _, _, _⟩) (v := ?_) rfl (by kernel_rfl) (by kernel_rfl) (by kernel_rfl) (fun _ _ _ h => h) (Or.inl ⟨by rfl, ?_⟩) (by assumption) ?_; rotate_left; (intro w hSw; (try dsimp only at hSw); go_simp; (try with_reducible rfl)); (try simp only [Act.put, List.setIfInBounds_toArray, List.set_cons_zero, List.set_cons_succ])
        refine wpAnyH_take (i := 4) (oi := ⟨some 95, _, _, _, _, _⟩) (v := ?_) rfl (by kernel_rfl) (by kernel_rfl) (by kernel_rfl) (fun _ _ _ h => h) (Or.inl ⟨by rfl, ?_⟩) (by assumption) ?_; rotate_left; (intro w hSw; (try dsimp only at hSw); go_simp; (try with_reducible rfl)); (try simp only [Act.put, List.setIfInBounds_toArray, List.set_cons_zero, List.set_cons_succ])
        refine wpAnyH_take (i := 5) (oi := ⟨some 96, _, _, _, _, _⟩) (v := ?_) rfl (by kernel_rfl) (by kernel_rfl) (by kernel_rfl) (fun _ _ _ h => h) (Or.inl ⟨by rfl, ?_⟩) (by assumption) ?_; rotate_left; (intro w hSw; (try dsimp only at hSw); go_simp; (try with_reducible rfl)); (try simp only [Act.put, List.setIfInBounds_toArray, List.set_cons_zero, List.set_cons_succ])
        refine wpAnyH_ready (rs := [2]) (by kernel_rfl) (by simp) ?_
        refine AllReadyH.cons (o := ⟨some 93, _, _, _, _, _⟩) rfl (fun K hK => ?_) (AllReadyH.nil)
        go_simp
        go_at_call 13
        with_reducible refine (project_13 us cs _ _ _ _ (HU.out.below CB0.out) hn300 FUS.out (HI.out.below CB0.out) (by omega)).mono ?_
        rintro ev Y1 ⟨p1, rfl, hp1, hbx⟩
        have CB1 := Lib.hid (stepB CB0.out hbx)
        replace HS := Lib.hid (HS.out.below hbx)
        have HP1 := Lib.hid hp1
        clear hbx hp1
        go_wp2_with fail
        refine hK.out _ _ (HSN.out _ CB1.out) (fun hHeld => ?_)
        clear hK K
        skip
        refine wpAnyH_ready (rs := [3]) (by kernel_rfl) (by simp) ?_
        refine AllReadyH.cons (o := ⟨some 94, _, _, _, _, _⟩) rfl (fun K hK => ?_) (AllReadyH.nil)
        go_simp
        go_at_call 11
        with_reducible refine (sum_11 (allF (projR cs) us) _ _ HP1.out (proj_fits hcs GU.out) (by have := allF_len (D := projR cs) us; have := allF_len (D := projR cs) (sumU us); omega)).mono ?_
        rintro ev Y2 ⟨q1, rfl, hq1, hbx⟩
        have CB2 := Lib.hid (stepB CB1.out hbx)
        replace HS := Lib.hid (HS.out.below hbx)
        have HQ1 := Lib.hid hq1
        clear hbx hq1
        go_wp2_with fail
        refine hK.out _ _ (HSN.out _ CB2.out) (fun hHeld => ?_)
        clear hK K
        skip
        refine wpAnyH_ready (rs := [6]) (by kernel_rfl) (by simp) ?_
        refine AllReadyH.cons (o := ⟨some 97, _, _, _, _, _⟩) rfl (fun K hK => ?_) (AllReadyH.nil)
        go_simp
        go_at_call 13
        with_reducible refine (project_13 (sumU us) cs _ _ _ _ HS.out hs300 FS.out (HI.out.below CB2.out) (by omega)).mono ?_
        rintro ev Y3 ⟨p2, rfl, hp2, hbx⟩
        have CB3 := Lib.hid (stepB CB2.out hbx)
        replace HS := Lib.hid (HS.out.below hbx)
        replace HQ1 := Lib.hid (HQ1.out.below hbx)
        have HP2 := Lib.hid hp2
        clear hbx hp2
        go_wp2_with fail
        refine hK.out _ _ (HSN.out _ CB3.out) (fun hHeld => ?_)
        clear hK K
        skip
        refine wpAnyH_ready (rs := [7]) (by kernel_rfl) (by simp) ?_
        refine AllReadyH.cons (o := ⟨some 98, _, _, _, _, _⟩) rfl (fun K hK => ?_) (AllReadyH.nil)
        go_simp
        go_at_call 11
        with_reducible refine (sum_11 (allF (projR cs) (sumU us)) _ _ HP2.out (proj_fits hcs GS.out) (by have := allF_len (D := projR cs) us; have := allF_len (D := projR cs) (sumU us); omega)).mono ?_
        rintro ev Y4 ⟨q2, rfl, hq2, hbx⟩
        have CB4 := Lib.hid (stepB CB3.out hbx)
        replace HS := Lib.hid (HS.out.below hbx)
        replace HQ1 := Lib.hid (HQ1.out.below hbx)
        have HQ2 := Lib.hid hq2
        clear hbx hq2
        go_wp2_with fail
        refine hK.out _ _ (HSN.out _ CB4.out) (fun hHeld => ?_)
        clear hK K
        skip
        refine wpAnyH_ready (rs := [8]) (by kernel_rfl) (by simp) ?_
        refine AllReadyH.cons (o := ⟨some 99, _, _, _, _, _⟩) rfl (fun K hK => ?_) (AllReadyH.nil)
        go_simp
        go_at_call 10
        with_reducible refine (sameUpdates_10 _ _ (sumU (allF (projR cs) us)) _ HQ1.out (by rw [HM3.out]; exact HQ2.out) (by have := sumU_len (allF (projR cs) us); have := allF_len (D := projR cs) us; have := allF_len (D := projR cs) (sumU us); omega) (fun u hu => ⟨(sumU_fits (proj_fits hcs GU.out) u hu).lr, (sumU_fits (proj_fits hcs GU.out) u hu).ll⟩)).mono ?_
        rintro ev Y5 ⟨rfl, hbx⟩
        have CB5 := Lib.hid (stepB CB4.out hbx)
        replace HS := Lib.hid (HS.out.below hbx)
        clear hbx
        go_wp2_with fail
        refine hK.out _ _ (HSN.out _ CB5.out) (fun hHeld => ?_)
        clear hK K
        skip
        refine wpAnyH_take (i := 9) (oi := ⟨some 100, _, _, _, _, _⟩) (v := ?_) rfl (by kernel_rfl) (by kernel_rfl) (by kernel_rfl) (fun _ _ _ h => h) (Or.inl ⟨by rfl, ?_⟩) (by assumption) ?_; rotate_left; (intro w hSw; (try dsimp only at hSw); go_simp; (try with_reducible rfl)); (try simp only [Act.put, List.setIfInBounds_toArray, List.set_cons_zero, List.set_cons_succ])
        refine wpAnyH_take (i := 10) (oi := ⟨some 101, _, _, _, _, _⟩) (v := ?_) rfl (by kernel_rfl) (by kernel_rfl) (by kernel_rfl) (fun _ _ _ h => h) (Or.inl ⟨by rfl, ?_⟩) (by assumption) ?_; rotate_left; (intro w hSw; (try dsimp only at hSw); go_simp; (try with_reducible rfl)); (try simp only [Act.put, List.setIfInBounds_toArray, List.set_cons_zero, List.set_cons_succ])
        refine wpAnyH_take (i := 11) (oi := ⟨some 102, _, _, _, _, _⟩) (v := ?_) rfl (by kernel_rfl) (by kernel_rfl) (by kernel_rfl) (fun _ _ _ h => h) (Or.inl ⟨by rfl, ?_⟩) (by assumption) ?_; rotate_left; (intro w hSw; (try dsimp only at hSw); go_simp; (try with_reducible rfl)); (try simp only [Act.put, List.setIfInBounds_toArray, List.set_cons_zero, List.set_cons_succ])
        refine wpAnyH_take (i := 14) (oi := ⟨some 105, _, _, _, _, _⟩) (v := ?_) rfl (by kernel_rfl) (by kernel_rfl) (by kernel_rfl) (fun _ _ _ h => h) (Or.inl ⟨by rfl, ?_⟩) (by assumption) ?_; rotate_left; (intro w hSw; (try dsimp only at hSw); go_simp; (try with_reducible rfl)); (try simp only [Act.put, List.setIfInBounds_toArray, List.set_cons_zero, List.set_cons_succ])
        refine wpAnyH_take (i := 15) (oi := ⟨some 106, _, _, _, _, _⟩) (v := ?_) rfl (by kernel_rfl) (by kernel_rfl) (by kernel_rfl) (fun _ _ _ h => h) (Or.inl ⟨by rfl, ?_⟩) (by assumption) ?_; rotate_left; (intro w hSw; (try dsimp only at hSw); go_simp; (try with_reducible rfl)); (try simp only [Act.put, List.setIfInBounds_toArray, List.set_cons_zero, List.set_cons_succ])
        refine wpAnyH_ready (rs := [12]) (by kernel_rfl) (by simp) ?_
        refine AllReadyH.cons (o := ⟨some 103, _, _, _, _, _⟩) rfl (fun K hK => ?_) (AllReadyH.nil)
        go_simp
        go_at_call 14
        with_reducible refine (move_14 us leave add en _ _ _ _ (HU.out.below CB5.out) hn300 FUS.out (HN.out.below CB5.out) (by omega) hlv had).mono ?_
        rintro ev Y6 ⟨p3, rfl, hp3, hbx⟩
        have CB6 := Lib.hid (stepB CB5.out hbx)
        replace HS := Lib.hid (HS.out.below hbx)
        have HP3 := Lib.hid hp3
        clear hbx hp3
        go_wp2_with fail
        refine hK.out _ _ (HSN.out _ CB6.out) (fun hHeld => ?_)
        clear hK K
        skip
        refine wpAnyH_ready (rs := [13]) (by kernel_rfl) (by simp) ?_
        refine AllReadyH.cons (o := ⟨some 104, _, _, _, _, _⟩) rfl (fun K hK => ?_) (AllReadyH.nil)
        go_simp
        go_at_call 11
        with_reducible refine (sum_11 (allF (moveR leave add en) us) _ _ HP3.out (move_fits had hnu hn40 GU.out) (by have := allF_len (D := moveR leave add en) us; have := allF_len (D := moveR leave add en) (sumU us); omega)).mono ?_
        rintro ev Y7 ⟨q3, rfl, hq3, hbx⟩
        have CB7 := Lib.hid (stepB CB6.out hbx)
        replace HS := Lib.hid (HS.out.below hbx)
        have HQ3 := Lib.hid hq3
        clear hbx hq3
        go_wp2_with fail
        refine hK.out _ _ (HSN.out _ CB7.out) (fun hHeld => ?_)
        clear hK K
        skip
        refine wpAnyH_ready (rs := [16]) (by kernel_rfl) (by simp) ?_
        refine AllReadyH.cons (o := ⟨some 107, _, _, _, _, _⟩) rfl (fun K hK => ?_) (AllReadyH.nil)
        go_simp
        go_at_call 14
        with_reducible refine (move_14 (sumU us) leave add en _ _ _ _ HS.out hs300 FS.out (HN.out.below CB7.out) (by omega) hlv had).mono ?_
        rintro ev Y8 ⟨p4, rfl, hp4, hbx⟩
        have CB8 := Lib.hid (stepB CB7.out hbx)
        replace HS := Lib.hid (HS.out.below hbx)
        replace HQ3 := Lib.hid (HQ3.out.below hbx)
        have HP4 := Lib.hid hp4
        clear hbx hp4
        go_wp2_with fail
        refine hK.out _ _ (HSN.out _ CB8.out) (fun hHeld => ?_)
        clear hK K
        skip
        refine wpAnyH_ready (rs := [17]) (by kernel_rfl) (by simp) ?_
        refine AllReadyH.cons (o := ⟨some 108, _, _, _, _, _⟩) rfl (fun K hK => ?_) (AllReadyH.nil)
        go_simp
        go_at_call 11
        with_reducible refine (sum_11 (allF (moveR leave add en) (sumU us)) _ _ HP4.out (move_fits had hnu hn40 GS.out) (by have := allF_len (D := moveR leave add en) us; have := allF_len (D := moveR leave add en) (sumU us); omega)).mono ?_
        rintro ev Y9 ⟨q4, rfl, hq4, hbx⟩
        have CB9 := Lib.hid (stepB CB8.out hbx)
        replace HS := Lib.hid (HS.out.below hbx)
        replace HQ3 := Lib.hid (HQ3.out.below hbx)
        have HQ4 := Lib.hid hq4
        clear hbx hq4
        go_wp2_with fail
        refine hK.out _ _ (HSN.out _ CB9.out) (fun hHeld => ?_)
        clear hK K
        skip
        refine wpAnyH_ready (rs := [18]) (by kernel_rfl) (by simp) ?_
        refine AllReadyH.cons (o := ⟨some 109, _, _, _, _, _⟩) rfl (fun K hK => ?_) (AllReadyH.nil)
        go_simp
        go_at_call 10
        with_reducible refine (sameUpdates_10 _ _ (sumU (allF (moveR leave add en) us)) _ HQ3.out (by rw [HM4.out]; exact HQ4.out) (by have := sumU_len (allF (moveR leave add en) us); have := allF_len (D := moveR leave add en) us; have := allF_len (D := moveR leave add en) (sumU us); omega) (fun u hu => ⟨(sumU_fits (move_fits had hnu hn40 GU.out) u hu).lr, (sumU_fits (move_fits had hnu hn40 GU.out) u hu).ll⟩)).mono ?_
        rintro ev Y10 ⟨rfl, hbx⟩
        have CB10 := Lib.hid (stepB CB9.out hbx)
        replace HS := Lib.hid (HS.out.below hbx)
        clear hbx
        go_wp2_with fail
        refine hK.out _ _ (HSN.out _ CB10.out) (fun hHeld => ?_)
        clear hK K
        skip
        refine wpAnyH_take (i := 19) (oi := ⟨some 110, _, _, _, _, _⟩) (v := ?_) rfl (by kernel_rfl) (by kernel_rfl) (by kernel_rfl) (fun _ _ _ h => h) (Or.inl ⟨by rfl, ?_⟩) (by assumption) ?_; rotate_left; (intro w hSw; (try dsimp only at hSw); go_simp; (try with_reducible rfl)); (try simp only [Act.put, List.setIfInBounds_toArray, List.set_cons_zero, List.set_cons_succ])
        refine wpAnyH_take (i := 20) (oi := ⟨some 21, _, _, _, _, _⟩) (v := ?_) rfl (by kernel_rfl) (by kernel_rfl) (by kernel_rfl) (fun _ _ _ h => h) (Or.inl ⟨by rfl, ?_⟩) (by assumption) ?_; rotate_left; (intro w hSw; (try dsimp only at hSw); go_simp; (try with_reducible rfl)); (try simp only [Act.put, List.setIfInBounds_toArray, List.set_cons_zero, List.set_cons_succ])
        refine wpAnyH_done (by kernel_rfl) ?_ _
        have HC := Lib.hid (negate_15 us _ _ Y10 (HU.out.below CB10.out) hn300 FUS.out)
        go_wp2_with fail
        refine HC.out.mono ?_
        rintro e w41 ⟨n1, rfl, hn1, hb41⟩
        have HB41 := Lib.hid (stepB CB10.out hb41)
        replace HS := Lib.hid (HS.out.below hb41)
        have HN1 := Lib.hid hn1
        obtain ⟨na1, nc1, rfl⟩ := hn1.slice
        clear HC hb41 hn1
        have HC := Lib.hid (negate_15 (allF negR us) _ _ w41 HN1.out (by have := allF_len (D := negR) us; omega) (neg_fits FUS.out))
        go_wp2_with fail
        refine HC.out.mono ?_
        rintro e w42 ⟨n2, rfl, hn2, hb42⟩
        have HB42 := Lib.hid (stepB HB41.out hb42)
        replace HS := Lib.hid (HS.out.below hb42)
        replace HN1 := Lib.hid (HN1.out.below hb42)
        have HN2 := Lib.hid hn2
        rw [neg_neg FUS.out] at HN2
        clear HC hb42 hn2
        have HC := Lib.hid (sum_11 us _ w42 HN2.out FUS.out (by omega))
        go_wp2_with fail
        refine HC.out.mono ?_
        rintro e w43 ⟨n3, rfl, hn3, hb43⟩
        have HB43 := Lib.hid (stepB HB42.out hb43)
        replace HS := Lib.hid (HS.out.below hb43)
        replace HN2 := Lib.hid (HN2.out.below hb43)
        have HN3 := Lib.hid hn3
        clear HC hb43 hn3
        have HC := Lib.hid (sameUpdates_10 _ _ (sumU us) w43 HN3.out HS.out (by omega) (fun u hu => ⟨(FS.out u hu).lr, (FS.out u hu).ll⟩))
        go_wp2_with fail
        refine HC.out.mono ?_
        rintro e w44 ⟨rfl, hb44⟩
        have HB44 := Lib.hid (stepB HB43.out hb44)
        replace HS := Lib.hid (HS.out.below hb44)
        replace HN3 := Lib.hid (HN3.out.below hb44)
        clear HC hb44
        go_wp2_with fail
        go_ret
        exact ⟨rfl, HW1.out.trans (HB44.out.mono HW1.out.size)⟩
  · have HK := Lib.hid (HKN.out w2 hb2)
    clear hb2
    go_wp2_with fail
    refine HK.out.mono ?_
    rintro e w3 ⟨rfl, hb3⟩
    have HB3 := Lib.hid (stepB HB2.out hb3)
    clear hb3 HK
    go_wp2_with fail
    go_ret
    exact ⟨rfl, HW1.out.trans (HB3.out.mono HW1.out.size)⟩
end Go.Proofs.YtlpehdhgdpeoeaaGreatDoor
