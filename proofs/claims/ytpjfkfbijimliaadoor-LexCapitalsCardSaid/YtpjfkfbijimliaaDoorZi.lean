/- LexKeeps' walk. -/
import Derived.Test.YtpjfkfbijimliaaDoorZj
import Derived.Maps.AppendAt
namespace Go.Proofs.YtpjfkfbijimliaaDoor
open Go.RowKit Go.Pen

theorem kp_put {H n j : Nat} {g c : Nat} {x : Value} {w3 wr : World} (h : KpRel H n (.slice (some ⟨g, 0, none⟩) n c) w3 wr) : KpRel H n (.slice (some ⟨g, 0, none⟩) n c) w3 (wr.setCell ⟨g, j, none⟩ x) := by
  have := kp_set (m := 0) (r := j) (x := x) h
  simpa using this

theorem kp_below {H n : Nat} {v : Value} {w3 wr : World} (h : KpRel H n v w3 wr) (hv : ∀ g, v.ownBlock = some g → H ≤ g) : Below H w3 wr := by
  obtain ⟨-, h2, h3, h4, h5, h6⟩ := h
  refine ⟨h4, h5, h6, by omega, fun g hg => h2 g fun e => ?_⟩
  have := hv g e
  omega

/-- a token that has a kind alone -/
def kindc (k : Int) : List Value := [.int .u8 k, .string ⟨#[]⟩, .int .i64 0, .int .i64 0]

theorem kindc_new (w : World) (k : Int) : ∀ j u, (kindc k)[j]? = some u → (w.alloc (.cells (kindc k).toArray 37)).cell? ((⟨w.heap.size, 0, none⟩ : Addr).add j) = some u := by
  intro i u hu
  rw [add_lit, Nat.zero_add]
  exact cell_of_heap (heap_alloc_new w _) (by rw [List.getElem?_toArray]; exact hu)

theorem kindc_one (k : Int) : ∀ u ∈ kindc k, u.oneCell' = true := by
  intro u hu; simp [kindc] at hu; rcases hu with rfl | rfl | rfl <;> rfl

theorem ownsRow_some {w : World} {base e size n : Nat} {v : Value} {xs : List Value} (h : w.ownsRow base e size v n xs) (hn : 0 < n) : ∃ g c, v = .slice (some ⟨g, 0, none⟩) n c := by
  rcases h.2 with ⟨-, h⟩ | ⟨g, cap, cur, h, -⟩
  · omega
  · exact ⟨g, cap, h⟩

set_option maxRecDepth 100000 in
set_option maxHeartbeats 8000000 in
theorem keeps_7 (s : ByteArray) (w : World) (hg : Glob w) (h10 : 10 ≤ w.heap.size) :
    Calls Tryd.prog 7 #[.string s] w fun e w' => e = .returned (.bool true) ∧ Below w.heap.size w w' := by
  obtain ⟨i0, hi, hz0, hz1, hz2⟩ := info_parts info37
  obtain ⟨L, hL⟩ : ∃ L, lexed s.data.toList = L := ⟨_, rfl⟩
  have hlx := fun u hu h => lex_any s u hu h
  rw [hL] at hlx
  obtain ⟨n, hn⟩ : ∃ n, L.toks.length = n := ⟨_, rfl⟩
  have HX := Lib.hid hlx
  have HG := Lib.hid hg
  have HN := Lib.hid hn
  have hn4 : n ≤ 4000 := by rw [← hn, ← hL]; exact toks_count _
  have hcode : L.code = 0 ∨ n = 0 := by
    rw [← hn]; cases L with
    | ok ts => exact .inl rfl
    | err a e => exact .inr rfl
  have HCD := Lib.hid hcode
  clear hlx hg hL hn hcode
  go_enter Tryd.func7, Tryd.ntmps7
  go_wp2_with fail
  refine (HX.out w HG.out h10).mono ?_
  rintro _ w1 ⟨va, rfl, hoa, hb1⟩
  rw [HN.out] at hoa
  obtain ⟨aa, ac, rfl⟩ := ownsRow_slice hoa
  have HOA := Lib.hid hoa
  have HB1 := Lib.hid hb1
  clear hoa hb1
  go_wp2_with fail
  refine (HX.out w1 (HG.out.below HB1.out h10) (by have := HB1.out.size; omega)).mono ?_
  rintro _ w2 ⟨vb, rfl, hob, hb2⟩
  rw [HN.out] at hob
  obtain ⟨ba, bc, rfl⟩ := ownsRow_slice hob
  have HOB := Lib.hid hob
  have HB2 := Lib.hid hb2
  clear hob hb2
  go_wp2_with fail
  have hgl : (L.toks.map Tok.g).length = n := by rw [List.length_map]; exact HN.out
  have htb : TokRow w2 (.slice ba n bc) (L.toks.map Tok.g) := by
    have h := HOB.out
    have e := HN.out
    subst e
    exact tokRow_of_owns h
  have hpl := placed_16 (L.toks.map Tok.g) (.slice ba n bc) 0 w2 htb (by rw [hgl]; omega)
  rw [hgl] at hpl
  have HPL := Lib.hid hpl
  clear hpl htb hgl
  refine HPL.out.mono ?_
  rintro _ w3 ⟨vw, rfl, how, hb3⟩
  obtain ⟨wa, wc, rfl⟩ := ownsRow_slice how
  have HOW := Lib.hid how
  have HB3 := Lib.hid hb3
  have hne : ((n : Int) != (n : Int)) = false := by simp
  have hk0 : KpRel w.heap.size n (.slice aa n ac) w3 w3 := by
    refine ⟨⟨_, Below.ownsRow' hb3 (Below.ownsRow' HB2.out HOA.out)⟩, fun _ _ => rfl, rfl, rfl, rfl, rfl⟩
  clear how hb3
  go_wp2_with fail
  go_loopw [10] (fun i wr => ∃ m : Nat, m ≤ n ∧ i = .int .i64 m ∧ KpRel w.heap.size n (.slice aa n ac) w3 wr) (fun i _ => n - (intOf i).toNat)
  case atStart => exact ⟨0, Nat.zero_le _, rfl, hk0⟩
  case round =>
    clear hk0 hne
    obtain ⟨m, hm, rfl, hk⟩ := hrel
    have HK := Lib.hid hk
    rcases Nat.lt_or_ge m n with hlt | hge
    · have hd : decide ((m : Int) < (n : Int)) = true := by simpa using hlt
      obtain ⟨xs, ho⟩ := hk.1
      obtain ⟨g, rfl⟩ : ∃ g, aa = some ⟨g, 0, none⟩ := by
        rcases ho.2 with ⟨-, h⟩ | ⟨g, cap, cur, h, -⟩
        · omega
        · cases h; exact ⟨g, rfl⟩
      obtain ⟨hgl, -, -, hc⟩ := ownsRow_heap ho
      obtain ⟨-, -, cur, hcur⟩ := ownsRow_block ho (g := g) rfl
      have hxl := ho.1
      obtain ⟨x0, hx0⟩ : ∃ x, xs[m * 4]? = some x := ⟨_, List.getElem?_eq_getElem (by omega)⟩
      obtain ⟨x1, hx1⟩ : ∃ x, xs[m * 4 + 1]? = some x := ⟨_, List.getElem?_eq_getElem (by omega)⟩
      obtain ⟨x2, hx2⟩ : ∃ x, xs[m * 4 + 2]? = some x := ⟨_, List.getElem?_eq_getElem (by omega)⟩
      obtain ⟨x3, hx3⟩ : ∃ x, xs[m * 4 + 3]? = some x := ⟨_, List.getElem?_eq_getElem (by omega)⟩
      have c0 := hc _ _ hx0
      have c1 := hc _ _ hx1
      have c2 := hc _ _ hx2
      have c3 := hc _ _ hx3
      have f0 : wr.frozen? ⟨g, m * 4, none⟩ = false := frozen_of_heap hcur
      have f1 : wr.frozen? ⟨g, m * 4 + 1, none⟩ = false := frozen_of_heap hcur
      have f2 : wr.frozen? ⟨g, m * 4 + 2, none⟩ = false := frozen_of_heap hcur
      have f3 : wr.frozen? ⟨g, m * 4 + 3, none⟩ = false := frozen_of_heap hcur
      clear hk ho hc hcur hxl hx0 hx1 hx2 hx3
      go_wp2_with fail
      exact ⟨⟨m + 1, hlt, by simp, kp_put (kp_put (kp_put (kp_put HK.out)))⟩, by simp [intOf]; omega⟩
    · have hd : decide ((m : Int) < (n : Int)) = false := by simp; omega
      obtain ⟨⟨xs, ho⟩, hkb, hks, -⟩ := hk
      obtain rfl : m = n := by omega
      have hs1 := HB1.out.size
      have hs2 := HB2.out.size
      have hs3 := HB3.out.size
      have hoa := HOA.out
      have hob := HOB.out
      have how := HOW.out
      -- where the rows lie
      have haL : ∀ g, (Value.slice aa m ac).ownBlock = some g → g < w1.heap.size := fun g hg => (hoa.lt g hg).2
      have hbL : ∀ g, (Value.slice ba m bc).ownBlock = some g → w1.heap.size ≤ g ∧ g < w2.heap.size := fun g hg => hob.lt g hg
      have hwL : ∀ g, (Value.slice wa m wc).ownBlock = some g → w2.heap.size ≤ g ∧ g < w3.heap.size := fun g hg => how.lt g hg
      have hob3 : wr.ownsRow w1.heap.size 37 4 (.slice ba m bc) m (toksc L.toks) := by
        refine ownsRow_frame (Below.ownsRow' HB3.out hob) fun g hg => hkb g fun e => ?_
        have := haL g e; have := hbL g hg; omega
      have how3 : wr.ownsRow w2.heap.size 37 4 (.slice wa m wc) m (gsc ((L.toks.map Tok.g).map (GTok.to 0))) := by
        refine ownsRow_frame how fun g hg => hkb g fun e => ?_
        have := haL g e; have := hwL g hg; omega
      have HO := Lib.hid ho
      have HXN := Lib.hid ho.1
      have HYN := Lib.hid hob.1
      have HOB3 := Lib.hid hob3
      have HOW3 := Lib.hid how3
      have HHS := Lib.hid hks
      have hmax : m + 1 ≤ maxLen := by unfold maxLen; omega
      have h40 : (m + 1) * 40 ≤ 140737488355328 := by omega
      have HAL := Lib.hid haL
      have HBL := Lib.hid hbL
      have HWL := Lib.hid hwL
      have hsr : w3.heap.size ≤ wr.heap.size := by omega
      clear hob3 how3 hoa hob how hkb ho haL hbL hwL hks
      go_wp2_with (at_builtin; go_must (refine wpList_append_own_at _ rfl _ _ 22 rfl w.heap.size 37 i0 (.agg #[.int .u8 0, .string ⟨#[]⟩, .int .i64 0, .int .i64 0]) 4 40 Tryd.underlying22 hi hz0 hz1 hz2 rfl (by decide) (.slice aa m ac) m _ rfl (HO.out.alloc _) ⟨wr.heap.size, 0, none⟩ 1 1 (kindc 78) rfl rfl (kindc_new _ 78) (kindc_one 78) hmax h40 (by simp; omega) ?_))
      intro vx w5 hox hgx _ hatx
      have hobx : w5.ownsRow w1.heap.size 37 4 (.slice ba m bc) m (toksc L.toks) := by
        refine ownsRow_frame (HOB3.out.alloc _) fun g hg => hgx.block g ?_ ?_
        · have := HBL.out g hg; simp; omega
        · intro e; have := HAL.out g e.symm; have := HBL.out g hg; omega
      have howx : w5.ownsRow w2.heap.size 37 4 (.slice wa m wc) m (gsc ((L.toks.map Tok.g).map (GTok.to 0))) := by
        refine ownsRow_frame (HOW3.out.alloc _) fun g hg => hgx.block g ?_ ?_
        · have := HWL.out g hg; simp; omega
        · intro e; have := HAL.out g e.symm; have := HWL.out g hg; omega
      have hxL : ∀ g, vx.ownBlock = some g → g < w1.heap.size ∨ w3.heap.size ≤ g := by
        intro g hg
        rcases hatx with e | e
        · rw [e] at hg; exact .inl (HAL.out g hg)
        · rw [e] at hg; cases hg; right; have := HHS.out; simp; omega
      have hs5 : w3.heap.size ≤ w5.heap.size := by have := hgx.size; have := HHS.out; simp at *; omega
      have hb5 : Below w.heap.size w wr → Below w.heap.size w w5 := fun h => (h.alloc (by omega) _).grown hgx (by simp; omega) (fun g hg => (HOA.out.lt g hg).1)
      have HB5 := Lib.hid hb5
      have HOX := Lib.hid hox
      have HOBX := Lib.hid hobx
      have HOWX := Lib.hid howx
      have HXL := Lib.hid hxL
      clear hox hgx hatx hobx howx hxL hb5 HO HOB3 HOW3
      go_wp2_with (at_builtin; go_must (refine wpList_append_both rfl _ _ 22 rfl w1.heap.size 37 i0 (.agg #[.int .u8 0, .string ⟨#[]⟩, .int .i64 0, .int .i64 0]) 4 40 Tryd.underlying22 hi hz0 hz1 hz2 rfl (by decide) (.slice ba m bc) m _ rfl (HOBX.out.alloc _) ⟨w5.heap.size, 0, none⟩ 1 1 (kindc 79) rfl rfl (kindc_new _ 79) (kindc_one 79) hmax h40 (by simp; omega) (by decide) ?_))
      intro vy w7 hoy hob7 hgy _
      have how7 : w7.ownsRow w2.heap.size 37 4 (.slice wa m wc) m (gsc ((L.toks.map Tok.g).map (GTok.to 0))) := by
        refine ownsRow_frame (HOWX.out.alloc _) fun g hg => hgy.block g ?_ ?_
        · have := HWL.out g hg; simp; omega
        · intro e; have := HBL.out g e.symm; have := HWL.out g hg; omega
      have hox7 : w7.ownsRow w.heap.size 37 4 vx (m + 1) (xs ++ kindc 78) := by
        refine ownsRow_frame (HOX.out.alloc _) fun g hg => hgy.block g ?_ ?_
        · have := (HOX.out.lt g hg).2; simp; omega
        · intro e; have := HBL.out g e.symm; have := HXL.out g hg; omega
      have hb7 : Below w.heap.size w w7 := by
        have hsr' := HHS.out
        have h1 : Below w.heap.size w wr := (HB1.out.trans (HB2.out.mono hs1)).trans (HB3.out.mono (by omega)) |>.trans (kp_below HK.out (fun g hg => (HOA.out.lt g hg).1))
        exact ((HB5.out h1).alloc (by omega) _).grown hgy (by simp; omega) (fun g hg => by have := HBL.out g hg; omega)
      obtain ⟨gx, cx, rfl⟩ := ownsRow_some hox7 (by omega)
      obtain ⟨gy, cy, rfl⟩ := ownsRow_some hoy (by omega)
      obtain ⟨hgx, -, -, hxc⟩ := ownsRow_heap hox7
      obtain ⟨hgy, -, -, hyc⟩ := ownsRow_heap hoy
      have cx0 : w7.cell? ⟨gx, m * 4, none⟩ = some (.int .u8 78) := hxc _ _ (by rw [List.getElem?_append_right (by rw [HXN.out]; exact Nat.le_refl _), HXN.out, Nat.sub_self]; rfl)
      have cy0 : w7.cell? ⟨gy, m * 4, none⟩ = some (.int .u8 79) := hyc _ _ (by rw [List.getElem?_append_right (by rw [HYN.out]; exact Nat.le_refl _), HYN.out, Nat.sub_self]; rfl)
      have HB7 := Lib.hid hb7
      have HOB7 := Lib.hid hob7
      have HOW7 := Lib.hid how7
      have hk13 := known_13 w7 (HG.out.below hb7 h10) (by have := hb7.size; omega)
      have HK13 := Lib.hid hk13
      clear hox7 hoy hob7 how7 hb7 hxc hyc hk13 HOX HOBX HOWX
      go_wp2_with fail
      refine HK13.out.mono ?_
      rintro _ w8 ⟨rfl, hb8⟩
      have dx0 := (hb8.cell (p := ⟨gx, m * 4, none⟩) hgx).trans cx0
      have dy0 := (hb8.cell (p := ⟨gy, m * 4, none⟩) hgy).trans cy0
      have HB8 := Lib.hid hb8
      have e1 : (((m + 1 : Nat) : Int) - 1) = (m : Int) := by omega
      clear hb8 cx0 cy0
      have hgl : (L.toks.map Tok.g).length = m := by rw [List.length_map]; exact HN.out
      have htb : TokRow w8 (.slice ba m bc) (L.toks.map Tok.g) := by
        have h := Below.ownsRow' HB8.out HOB7.out
        have e := HN.out
        rw [← e] at h ⊢
        exact tokRow_of_owns h
      have hpl := placed_16 (L.toks.map Tok.g) (.slice ba m bc) 0 w8 htb (by rw [hgl]; omega)
      rw [hgl] at hpl
      have HPL8 := Lib.hid hpl
      clear hpl htb hgl
      go_wp2_with fail
      refine HPL8.out.mono ?_
      rintro _ w9 ⟨v9, rfl, ho9, hb9⟩
      obtain ⟨a9, c9, rfl⟩ := ownsRow_slice ho9
      have hgl : ((L.toks.map Tok.g).map (GTok.to 0)).length = m := by rw [List.length_map, List.length_map]; exact HN.out
      have ht9 : TokRow w9 (.slice a9 m c9) ((L.toks.map Tok.g).map (GTok.to 0)) := by
        rw [← hgl] at ho9 ⊢
        exact tokRow_of_owns' ho9
      have ht9' : TokRow w9 (.slice wa m wc) ((L.toks.map Tok.g).map (GTok.to 0)) := by
        have h := Below.ownsRow' hb9 (Below.ownsRow' HB8.out HOW7.out)
        rw [← hgl] at h ⊢
        exact tokRow_of_owns' h
      have hsm := same_14 _ _ _ w9 ht9 ht9' (by rw [hgl]; omega)
      have HSM := Lib.hid hsm
      have hs7 := HB7.out.size
      have hs8 := HB8.out.size
      have HB9 := Lib.hid ((HB7.out.trans (HB8.out.mono hs7)).trans (hb9.mono (by omega)))
      clear hsm ht9 ht9' ho9 hb9 hgl hs7 hs8
      go_wp2_with fail
      refine HSM.out.mono ?_
      rintro _ _ ⟨rfl, q, rfl⟩
      rcases HCD.out with hc0 | hc0
      · have hce : ((L.code : Int) == 0) = true := by rw [hc0]; rfl
        clear hc0
        go_wp2_with fail
        go_ret
        exact ⟨rfl, Go.Pen.below_drewN HB9.out⟩
      · by_cases hz : L.code = 0
        · have hce : ((L.code : Int) == 0) = true := by rw [hz]; rfl
          clear hc0 hz
          go_wp2_with fail
          go_ret
          exact ⟨rfl, Go.Pen.below_drewN HB9.out⟩
        · have hce : ((L.code : Int) == 0) = false := by simp; omega
          have hme : ((m : Int) == 0) = true := by rw [hc0]; rfl
          clear hc0 hz
          go_wp2_with fail
          go_ret
          exact ⟨rfl, Go.Pen.below_drewN HB9.out⟩
end Go.Proofs.YtpjfkfbijimliaaDoor
