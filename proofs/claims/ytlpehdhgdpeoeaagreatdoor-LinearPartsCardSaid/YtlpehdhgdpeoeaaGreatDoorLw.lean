import Derived.Test.YtlpehdhgdpeoeaaGreatDoorLr
/- LinearFilters' walk. -/
namespace Go.Proofs.YtlpehdhgdpeoeaaGreatDoor
open Go.RowKit Go.Pen Go.Shelf
attribute [local go_sem] Oper.semAt_some

theorem info57 : (Tryz.prog.info? 57).map (fun i => (i.zero, i.size, i.bytes)) = some (some (.agg #[.int .u8 0, .slice none 0 0, .int .i64 0, .int .u8 0, .bool false, .int .i64 0, .string ⟨#[]⟩]), 7, 72) := by kernel_rfl

theorem sumU_fits {l : List Upd} (h : ∀ x ∈ l, x.fits) : ∀ x ∈ sumU l, x.fits := fun x hx => fold_fits l [] h (fun y hy => by cases hy) x (List.mem_filter.1 hx).1
theorem sumU_len (l : List Upd) : (sumU l).length ≤ l.length := by
  have h1 := fold_len l []
  have h2 := List.length_filter_le (fun u : Upd => decide (u.diff ≠ 0)) (l.foldl addU [])
  simp only [List.length_nil] at h1
  show (List.filter _ _).length ≤ _
  omega

set_option maxRecDepth 100000 in
set_option maxHeartbeats 2000000 in
theorem filters_3 (us : List Upd) (ea eb : List ET) (v va vb : Value) (w : World) (hu : UpsAt w v us) (wus : ∀ u ∈ us, u.wide) (hul : us.length ≤ 140737488355328) (ha : ExprsAt w va ea) (hb : ExprsAt w vb eb) (fa : ∀ e ∈ ea, e.fits) (fb : ∀ e ∈ eb, e.fits) (hal : ea.length ≤ 140737488355328) (hbl : eb.length ≤ 140737488355328)
    (hT : Lib.Utf8Tabs 1 2 w) (hE : ErrTy w) (h3 : 3 ≤ w.heap.size) (hkn : ∀ W, Below w.heap.size w W → Calls Tryz.prog 7 #[] W fun e w' => e = .returned (.bool true) ∧ Below W.heap.size W w') :
    Calls Tryz.prog 3 #[v, va, vb] w fun e w' => e = .returned (.bool true) ∧ Below w.heap.size w w' := by
  obtain ⟨i0, hi0, hz0, hz1, hz2⟩ := info_parts info51
  obtain ⟨j0, hj0, hy0, hy1, hy2⟩ := info_parts info57
  obtain ⟨aa, ac, xa, rfl, hea, hca, hna⟩ := ha.els
  obtain ⟨ba, bc, xb, rfl, heb, hcb, hnb⟩ := hb.els
  obtain ⟨va, vc, rfl⟩ := hu.slice
  have HEA := Lib.hid hea
  have HCA := Lib.hid hca
  have HNA := Lib.hid hna
  have HEB := Lib.hid heb
  have HCB := Lib.hid hcb
  have HNB := Lib.hid hnb
  clear hea hca hna heb hcb hnb
  have HU := Lib.hid hu
  have HA := Lib.hid ha
  have HB := Lib.hid hb
  have WUS := Lib.hid wus
  have FA := Lib.hid fa
  have FB := Lib.hid fb
  have HT := Lib.hid hT
  have HE := Lib.hid hE
  have HKN := Lib.hid hkn
  have hm1 := much_6 us ea _ _ none 0 0 w hu (fun x hx => ⟨(wus x hx).lr, (wus x hx).ll⟩) hul ha fa (by omega) (by decide)
  have hm2 := fun (W : World) (hb1 : Below w.heap.size w W) => much_6 us eb _ _ none 0 0 W (hu.below hb1) (fun x hx => ⟨(wus x hx).lr, (wus x hx).ll⟩) hul (hb.below hb1) fb (by omega) (by decide)
  have HM1 := Lib.hid hm1
  have HM2 := Lib.hid hm2
  clear hm1 hm2 hu ha hb wus fa fb hT hE hkn
  go_enter Tryz.func3, Tryz.ntmps3
  go_wp2_with fail
  refine HM1.out.mono ?_
  rintro e w1 ⟨b1, rfl, hm1, hb1⟩
  rcases b1 with _ | _
  · go_wp2_with fail
    refine (HM2.out _ hb1).mono ?_
    rintro e w2 ⟨b2, rfl, hm2, hb2⟩
    have HB2 := Lib.hid (stepB hb1 hb2)
    rcases b2 with _ | _
    · go_wp2_with fail
      refine (HKN.out _ HB2.out).mono ?_
      rintro e w3 ⟨rfl, hb3⟩
      have HB3 := Lib.hid (stepB HB2.out hb3)
      have hn300 : us.length ≤ 300 := by have := (hm1 trivial).1; omega
      have FUS := Lib.hid (fun u hu => (WUS.out u hu).fits ((hm1 trivial).2 u hu))
      have hal3 : ea.length ≤ 300 := by have := (hm1 trivial).1; omega
      have hbl3 : eb.length ≤ 300 := by have := (hm2 trivial).1; omega
      have hv := valid_8 us _ w3 (HU.out.below HB3.out) FUS.out (by omega)
      obtain ⟨V, eV⟩ : ∃ V, V = validU us := ⟨_, rfl⟩
      rw [← eV] at hv
      have HV := Lib.hid hv
      clear hb1 hb2 hb3 hm1 hm2 hv eV
      go_wp2_with fail
      refine HV.out.mono ?_
      rintro e w4 ⟨rfl, hb4⟩
      have HB4 := Lib.hid (stepB HB3.out hb4)
      clear hb4
      rcases V with _ | _
      · go_wp2_with fail
        go_ret
        exact ⟨rfl, HB4.out⟩
      · have hs4 := HB4.out.size
        go_wp2_with (at_builtin; go_must (refine wpList_append_any _ rfl _ _ 23 rfl w.heap.size 57 j0 _ 7 72 Tryz.underlying23 hj0 hy0 hy1 hy2 rfl (by decide) (.slice none 0 0) 0 [] rfl (World.ownsRow_nil _ _ _ _) _ _ _ xa rfl (fun e => ⟨by rw [(HNA.out e).2]; rfl, (HNA.out e).1⟩) ?d0 ?d1 ?d2 ?d3 ?d4 ?d5 ?_))
        case d0 => exact HEA.out.len
        case d1 => exact fun ad e j y hy => cell_keep HB4.out (HCA.out ad e j y hy)
        case d2 => exact HEA.out.ones
        case d3 => unfold maxLen; omega
        case d4 => omega
        case d5 => exact hs4
        intro v5 w5 hown5 hgrow5
        have HB5 := Lib.hid (HB4.out.grown hgrow5 hs4 (fun g hg => by cases hg))
        obtain ⟨p5, c5, rfl⟩ := ownsRow_slice hown5
        have HO5 := Lib.hid hown5
        have hs5 := HB5.out.size
        clear hown5 hgrow5
        go_wp2_with (at_builtin; go_must (refine wpList_append_any _ rfl _ _ 23 rfl w.heap.size 57 j0 _ 7 72 Tryz.underlying23 hj0 hy0 hy1 hy2 rfl (by decide) _ _ _ rfl HO5.out _ _ _ xb rfl (fun e => ⟨by rw [(HNB.out e).2]; rfl, (HNB.out e).1⟩) ?d0 ?d1 ?d2 ?d3 ?d4 ?d5 ?_))
        case d0 => exact HEB.out.len
        case d1 => exact fun ad e j y hy => cell_keep HB5.out (HCB.out ad e j y hy)
        case d2 => exact HEB.out.ones
        case d3 => unfold maxLen; omega
        case d4 => omega
        case d5 => exact hs5
        intro v6 w6 hown6 hgrow6
        have HB6 := Lib.hid (HB5.out.grown hgrow6 hs5 (fun g hg => (HO5.out.lt g hg).1))
        have he6 : ExprsAt w6 v6 (ea ++ eb) := (((HEA.out.append HEB.out).below HB6.out).at (by simpa using hown6)).2
        have hs6 := HB6.out.size
        have hf1 := filter_9 us (ea ++ eb) va vc v6 w6 (HU.out.below HB6.out) hn300 FUS.out he6 (fun e he => (List.mem_append.1 he).elim (FA.out e) (FB.out e)) (by rw [List.length_append]; omega) (tabs_below HT.out HB6.out h3) (cell_keep HB6.out HE.out) (Nat.le_trans h3 hs6) (fun u hu => filtR_num (FUS.out u hu).row (fun e he => (List.mem_append.1 he).elim (FA.out e) (FB.out e)))
        have HF1 := Lib.hid hf1
        clear hown6 hgrow6 he6 hf1
        go_wp2_with fail
        refine HF1.out.mono ?_
        rintro e w7 ⟨x7, f7, rfl, hx7, hf7, hb7⟩
        have HB7 := Lib.hid (stepB HB6.out hb7)
        have HX7 := Lib.hid hx7
        have HF7 := Lib.hid hf7
        have hf2 := filter_9 us ea va vc _ w7 (HU.out.below HB7.out) hn300 FUS.out (HA.out.below HB7.out) FA.out (by omega) (tabs_below HT.out HB7.out h3) (cell_keep HB7.out HE.out) (Nat.le_trans h3 HB7.out.size) (fun u hu => filtR_num (FUS.out u hu).row FA.out)
        have HF2 := Lib.hid hf2
        clear hx7 hf7 hb7 hf2 HF1
        go_wp2_with fail
        refine HF2.out.mono ?_
        rintro e w8 ⟨y8, g8, rfl, hy8, hg8, hb8⟩
        have HB8 := Lib.hid (stepB HB7.out hb8)
        have hx8 := HX7.out.below hb8
        have hf8 := HF7.out.below hb8
        obtain ⟨ya, yc, rfl⟩ := hy8.slice
        have hf3 := filter_9 (keepF (filtD ea) us) eb ya yc _ w8 hy8 (Nat.le_trans (keepF_len _) hn300) (fun u hu => FUS.out u (keepF_mem hu)) (HB.out.below HB8.out) FB.out (by omega) (tabs_below HT.out HB8.out h3) (cell_keep HB8.out HE.out) (Nat.le_trans h3 HB8.out.size) (fun u hu => filtR_num (FUS.out u (keepF_mem hu)).row FB.out)
        have HF3 := Lib.hid hf3
        have HX8 := Lib.hid hx8
        have HF8 := Lib.hid hf8
        have HG8 := Lib.hid hg8
        clear hb8 hx8 hf8 hy8 hg8 hf3 HF2
        go_wp2_with fail
        refine HF3.out.mono ?_
        rintro e w9 ⟨z9, h9, rfl, hz9, hh9, hb9⟩
        have HB9 := Lib.hid (stepB HB8.out hb9)
        have HX9 := Lib.hid (HX8.out.below hb9)
        have HF9 := Lib.hid (HF8.out.below hb9)
        have HG9 := Lib.hid (HG8.out.below hb9)
        have HZ9 := Lib.hid hz9
        have HH9 := Lib.hid hh9
        have hs9 := HB9.out.size
        obtain ⟨ga, gc, xg, rfl, hge, hgc, hgn⟩ := HG9.out.els
        obtain ⟨ha', hc', xh, rfl, hhe, hhc, hhn⟩ := HH9.out.els
        have HGE := Lib.hid hge
        have HGC := Lib.hid hgc
        have HGN := Lib.hid hgn
        have HHE := Lib.hid hhe
        have HHC := Lib.hid hhc
        have HHN := Lib.hid hhn
        have hkl : (keepF (filtD ea) us).length ≤ 300 := Nat.le_trans (keepF_len _) hn300
        have hgl : (errF (filtD ea) us).length ≤ 300 := Nat.le_trans (errF_len _) hn300
        have hhl : (errF (filtD eb) (keepF (filtD ea) us)).length ≤ 300 := Nat.le_trans (errF_len _) hkl
        clear hz9 hh9 hb9 HF3 hge hgc hgn hhe hhc hhn
        go_wp2_with (at_builtin; go_must (refine wpList_append_any _ rfl _ _ 22 rfl w9.heap.size 51 i0 _ 4 64 Tryz.underlying22 hi0 hz0 hz1 hz2 rfl (by decide) (.slice none 0 0) 0 [] rfl (World.ownsRow_nil _ _ _ _) _ _ _ xg rfl (fun e => ⟨by rw [(HGN.out e).2]; rfl, (HGN.out e).1⟩) ?d0 ?d1 ?d2 ?d3 ?d4 ?d5 ?_))
        case d0 => exact HGE.out.len
        case d1 => exact HGC.out
        case d2 => exact HGE.out.ones
        case d3 => unfold maxLen; omega
        case d4 => omega
        case d5 => exact Nat.le_refl _
        intro va w10 hown10 hgrow10
        have hb10 : Below w9.heap.size w9 w10 := (Below.refl _ _).grown hgrow10 (Nat.le_refl _) (fun g hg => by cases hg)
        have HB10 := Lib.hid hb10
        obtain ⟨p10, c10, rfl⟩ := ownsRow_slice hown10
        have HO10 := Lib.hid hown10
        have hs10 := hb10.size
        clear hown10 hgrow10 hb10
        go_wp2_with (at_builtin; go_must (refine wpList_append_any _ rfl _ _ 22 rfl w9.heap.size 51 i0 _ 4 64 Tryz.underlying22 hi0 hz0 hz1 hz2 rfl (by decide) _ _ _ rfl HO10.out _ _ _ xh rfl (fun e => ⟨by rw [(HHN.out e).2]; rfl, (HHN.out e).1⟩) ?d0 ?d1 ?d2 ?d3 ?d4 ?d5 ?_))
        case d0 => exact HHE.out.len
        case d1 => exact fun ad e j y hy => cell_keep HB10.out (HHC.out ad e j y hy)
        case d2 => exact HHE.out.ones
        case d3 => unfold maxLen; omega
        case d4 => omega
        case d5 => exact hs10
        intro v11 w11 hown11 hgrow11
        have hb11 : Below w9.heap.size w9 w11 := HB10.out.grown hgrow11 hs10 (fun g hg => (HO10.out.lt g hg).1)
        have he11 : UpsAt w11 v11 (errF (filtD ea) us ++ errF (filtD eb) (keepF (filtD ea) us)) := (((HGE.out.append HHE.out).below hb11).at (by simpa using hown11)).2
        have HB11 := Lib.hid (stepB HB9.out hb11)
        have HE11 := Lib.hid he11
        have HX11 := Lib.hid (HX9.out.below hb11)
        have HF11 := Lib.hid (HF9.out.below hb11)
        have HZ11 := Lib.hid (HZ9.out.below hb11)
        clear hown11 hgrow11 hb11 he11
        have hfa : ∀ x ∈ errF (filtD (ea ++ eb)) us, x.fits := fun x hx => (errF_mem FUS.out (fun e he => (List.mem_append.1 he).elim (FA.out e) (FB.out e)) hx).1
        have hfb : ∀ x ∈ errF (filtD ea) us ++ errF (filtD eb) (keepF (filtD ea) us), x.fits := fun x hx => (List.mem_append.1 hx).elim (fun h => (errF_mem FUS.out FA.out h).1) (fun h => (errF_mem (fun u hu => FUS.out u (keepF_mem hu)) FB.out h).1)
        have hfl : (errF (filtD (ea ++ eb)) us).length ≤ 300 := Nat.le_trans (errF_len _) hn300
        have hfs := err_sum ea eb us FUS.out FA.out FB.out
        have HFA := Lib.hid hfa
        have HFB := Lib.hid hfb
        have HFS := Lib.hid hfs
        have HSM := Lib.hid (sameUpdates_10 x7 z9 (keepF (filtD (ea ++ eb)) us) w11 HX11.out (by rw [keep_two]; exact HZ11.out) (by have := keepF_len (D := filtD (ea ++ eb)) us; omega) (fun u hu => ⟨(FUS.out u (keepF_mem hu)).lr, (FUS.out u (keepF_mem hu)).ll⟩))
        clear hfa hfb hfs
        go_wp2_with fail
        refine HSM.out.mono ?_
        rintro e w12 ⟨rfl, hb12⟩
        have HB12 := Lib.hid (stepB HB11.out hb12)
        have HE12 := Lib.hid (HE11.out.below hb12)
        have HS1 := Lib.hid (sum_11 _ f7 w12 (HF11.out.below hb12) HFA.out (by omega))
        clear hb12 HSM
        go_wp2_with fail
        refine HS1.out.mono ?_
        rintro e w13 ⟨s1, rfl, hs1, hb13⟩
        have HB13 := Lib.hid (stepB HB12.out hb13)
        have HS2 := Lib.hid (sum_11 _ v11 w13 (HE12.out.below hb13) HFB.out (by rw [List.length_append]; omega))
        have HQ1 := Lib.hid hs1
        clear hb13 HS1 hs1
        go_wp2_with fail
        refine HS2.out.mono ?_
        rintro e w14 ⟨s2, rfl, hs2, hb14⟩
        have HB14 := Lib.hid (stepB HB13.out hb14)
        have hsl := sumU_len (errF (filtD (ea ++ eb)) us)
        have HSN := Lib.hid (sameUpdates_10 s1 s2 _ w14 (HQ1.out.below hb14) (by rw [HFS.out]; exact hs2) (by omega) (fun u hu => ⟨(sumU_fits HFA.out u hu).lr, (sumU_fits HFA.out u hu).ll⟩))
        clear hb14 HS2 hs2
        go_wp2_with fail
        refine HSN.out.mono ?_
        rintro e w15 ⟨rfl, hb15⟩
        have HB15 := Lib.hid (stepB HB14.out hb15)
        clear hb15
        go_wp2_with fail
        go_ret
        exact ⟨rfl, HB15.out⟩
    · go_wp2_with fail
      refine (HKN.out _ HB2.out).mono ?_
      rintro e w3 ⟨rfl, hb3⟩
      go_wp2_with fail
      go_ret
      exact ⟨rfl, stepB HB2.out hb3⟩
  · go_wp2_with fail
    refine (HKN.out _ hb1).mono ?_
    rintro e w3 ⟨rfl, hb3⟩
    go_wp2_with fail
    go_ret
    exact ⟨rfl, stepB hb1 hb3⟩
end Go.Proofs.YtlpehdhgdpeoeaaGreatDoor
