import Derived.Test.YtpoilgeffpedoaaRk
import Derived.Deep.CutRange
import Derived.Deep.CutBlock
/- MailDoes' walk, its counting. -/
namespace Go.Proofs.Ytpoilgeffpedoaa
open Go.RowKit Go.Pen
attribute [local go_sem ↓] Go.wp_at_zero Go.wp_at_succ

set_option maxRecDepth 100000 in
set_option maxHeartbeats 40000000 in
theorem does_walk (a0 a1 : Int) (acts : List GAct) (bl off cap : Nat) (a : Option Addr) (w : World) (ha : acts ≠ [] → a = some ⟨bl, off, none⟩) (hacts : ActsAt w bl off acts) (hlen : acts.length ≤ 140737488355328) (hcame : ∀ g ∈ acts, g.m.came w) :
    Calls Try.prog 3 #[.int .i64 a0, .int .i64 a1, .slice a acts.length cap] w fun e w' => e = .returned (.bool true) ∧ Below w.heap.size w w' := by
  obtain ⟨n, en⟩ : ∃ n, n = acts.length := ⟨_, rfl⟩
  rw [← en] at hlen ⊢
  have EN := Lib.hid en
  have HA := Lib.hid ha
  have HAC := Lib.hid hacts
  have HCM := Lib.hid hcame
  clear en ha hacts hcame
  go_enter Try.func3, Try.ntmps3
  go_wp2_with fail
  go_loopg [7, 8] n (fun g s7 s8 wr => ∃ k N : Nat, k ≤ n ∧ g = n - k ∧ s7 = .int .i64 N ∧ s8 = .int .i64 k ∧ n ≤ N ∧ N ≤ 1000000000000000000 ∧ (N ≤ 3000 → ∀ (j : Nat) g', j < k → acts[j]? = some g' → g'.m.little) ∧ Below w.heap.size w wr)
  case atStart => exact ⟨0, n, Nat.zero_le _, by omega, rfl, rfl, Nat.le_refl _, by omega, fun _ j _ hj => by omega, Below.refl _ _⟩
  case round =>
    obtain ⟨k, N, hk, rfl, rfl, rfl, hnN, hNb, hlit, hbw⟩ := hrel
    by_cases hlt : k < n
    · by_cases hN : N ≤ 3000
      · as_aux_lemma =>
          obtain ⟨g, hg⟩ : ∃ g, acts[k]? = some g := ⟨acts[k]'(by rw [← EN.out]; exact hlt), List.getElem?_eq_getElem _⟩
          have hne : acts ≠ [] := fun e => by rw [e] at hg; simp at hg
          have hav := HA.out hne
          subst hav
          have hcm := HCM.out g (List.mem_of_getElem? hg)
          have hcell := HAC.out k g hg
          obtain ⟨r1, r2, r3⟩ := (⟨hcm.l1, hcm.l2, hcm.l3⟩ : _ ∧ _ ∧ _)
          have q4 : wr.cell? ⟨bl, off + k * 10 + 7, none⟩ = some (.slice g.m.la g.m.loops.length g.m.lc) := cell_keep hbw (hcell 7 _ rfl)
          have q5 : wr.cell? ⟨bl, off + k * 10 + 8, none⟩ = some (.slice g.m.ra g.m.rows.length g.m.rc) := cell_keep hbw (hcell 8 _ rfl)
          have q6 : wr.cell? ⟨bl, off + k * 10 + 9, none⟩ = some (.slice g.m.ea g.m.errs.length g.m.ec) := cell_keep hbw (hcell 9 _ rfl)
          obtain ⟨R, eR⟩ : ∃ R, R = g.m.rows.length := ⟨_, rfl⟩
          obtain ⟨E, eE⟩ : ∃ E, E = g.m.errs.length := ⟨_, rfl⟩
          obtain ⟨T, eT⟩ : ∃ T, T = g.m.loops.length := ⟨_, rfl⟩
          rw [← eT] at q4 r1
          rw [← eR] at q5 r2
          rw [← eE] at q6 r3
          have HCG := Lib.hid hcm
          have HCL := Lib.hid hcell
          have HGG := Lib.hid hg
          have HLI := Lib.hid (hlit hN)
          have HBW := Lib.hid hbw
          have ER := Lib.hid eR
          have EE := Lib.hid eE
          have ET := Lib.hid eT
          clear hcm hcell hg hlit hbw eR eE eT hne
          go_wp2_with fail
          go_quiet (fail)
          obtain ⟨w1, hw1⟩ : ∃ w1, w1 = wr.drewN nq := ⟨_, rfl⟩
          have hb1 : Below w.heap.size w w1 := by rw [hw1]; exact below_drewN HBW.out _
          rw [← hw1]
          have HB1 := Lib.hid hb1
          clear hw1 hb1 q4 q5 q6 nq
          go_upto_block 2 with fail
          go_cut [7] from 30 to 147 (fun s7 wc => ∃ N1 : Nat, s7 = .int .i64 N1 ∧ n ≤ N1 ∧ N1 ≤ 1000000000000000000 ∧ (N1 ≤ 3000 → R ≤ 3000 ∧ E ≤ 3000 ∧ T ≤ 3000 ∧ (∀ (jj : Nat) u, jj < R → g.m.rows[jj]? = some u → u.small)) ∧ Below w.heap.size w wc)
          case first =>
            go_wp2_with fail
            go_loopg [7, 9] R (fun gg s7 s9 wi => ∃ j N1 : Nat, j ≤ R ∧ gg = R - j ∧ s7 = .int .i64 N1 ∧ s9 = .int .i64 j ∧ n ≤ N1 ∧ N1 ≤ 1000000000000000000 ∧ (N1 ≤ 3000 → R ≤ 3000 ∧ E ≤ 3000 ∧ T ≤ 3000 ∧ (∀ (jj : Nat) u, jj < j → g.m.rows[jj]? = some u → u.small)) ∧ Below w.heap.size w wi)
            case atStart => exact ⟨0, N + (R + E + T), Nat.zero_le _, rfl, by go_num, rfl, by omega, by omega, fun h => ⟨by omega, by omega, by omega, fun j u hj => by omega⟩, HB1.out⟩
            case round =>
              obtain ⟨j, N1, hj, rfl, rfl, rfl, hn1, hb1, hl1, hbi⟩ := hrel
              have q := cell_keep hbi (HCL.out 8 _ rfl)
              rw [← ER.out] at q
              by_cases hjl : j < R
              · by_cases hN1 : N1 ≤ 3000
                · obtain ⟨u, hu⟩ : ∃ u, g.m.rows[j]? = some u := ⟨g.m.rows[j]'(by rw [← ER.out]; exact hjl), List.getElem?_eq_getElem _⟩
                  obtain ⟨b, o, xa, xc, ya, yc, hab, x0, x2⟩ := HCG.out.rows.lens hu
                  have x0 := cell_keep hbi x0
                  have x2 := cell_keep hbi x2
                  obtain ⟨p, ep⟩ : ∃ p, p = u.row.length := ⟨_, rfl⟩
                  obtain ⟨z, ez⟩ : ∃ z, z = u.loops.length := ⟨_, rfl⟩
                  obtain ⟨z1, z2⟩ := HCG.out.k2 u (List.mem_of_getElem? hu)
                  rw [hab] at q
                  rw [← ep] at x0 z1
                  rw [← ez] at x2 z2
                  have HU := Lib.hid hu
                  have EP := Lib.hid ep
                  have EZ := Lib.hid ez
                  have HLL := Lib.hid (hl1 hN1)
                  have HBI := Lib.hid hbi
                  clear hu ep ez hl1 hbi hab
                  go_wp2_with fail
                  go_quiet (fail)
                  go_wp2_with fail
                  go_roundg (R - (j + 1))
                  case measure => omega
                  case rel =>
                    refine ⟨j + 1, N1 + (p + z), by omega, rfl, by go_num, by go_num, by omega, by omega, fun h => ?_, below_drewN HBI.out _⟩
                    obtain ⟨y1, y2, y3, y4⟩ := HLL.out
                    refine ⟨y1, y2, y3, fun j' u' hj' hu' => ?_⟩
                    by_cases e : j' = j
                    · subst e
                      rw [HU.out] at hu'; cases hu'
                      exact ⟨by rw [← EP.out]; omega, by rw [← EZ.out]; omega⟩
                    · exact y4 j' u' (by omega) hu'
                · have HBI := Lib.hid hbi
                  clear hl1 hbi
                  go_wp2
                  go_meet
                  exact ⟨N1, rfl, hn1, hb1, fun h => absurd h hN1, HBI.out⟩
              · obtain rfl : j = R := by omega
                have HL1 := Lib.hid hl1
                have HBI := Lib.hid hbi
                clear hl1 hbi
                go_wp2
                go_meet
                exact ⟨N1, rfl, hn1, hb1, HL1.out, HBI.out⟩
          case rest =>
            obtain ⟨N1, rfl, hn1, hb1, hl1, hbc⟩ := hcut
            have HBC := Lib.hid hbc
            have HL1 := Lib.hid hl1
            clear hbc hl1
            go_wp2_with fail
            go_loopg [7, 10] E (fun gg s7 s10 wi => ∃ j N1 : Nat, j ≤ E ∧ gg = E - j ∧ s7 = .int .i64 N1 ∧ s10 = .int .i64 j ∧ n ≤ N1 ∧ N1 ≤ 1000000000000000000 ∧ (N1 ≤ 3000 → R ≤ 3000 ∧ E ≤ 3000 ∧ T ≤ 3000 ∧ ((∀ (jj : Nat) u, jj < R → g.m.rows[jj]? = some u → u.small) ∧ (∀ (jj : Nat) u, jj < j → g.m.errs[jj]? = some u → u.small))) ∧ Below w.heap.size w wi)
            case atStart => exact ⟨0, N1, Nat.zero_le _, rfl, rfl, rfl, hn1, hb1, fun h => ⟨(HL1.out h).1, (HL1.out h).2.1, (HL1.out h).2.2.1, (HL1.out h).2.2.2, fun j u hj => by omega⟩, HBC.out⟩
            case round =>
              obtain ⟨j, N1, hj, rfl, rfl, rfl, hn1, hb1, hl1, hbi⟩ := hrel
              have q := cell_keep hbi (HCL.out 9 _ rfl)
              rw [← EE.out] at q
              by_cases hjl : j < E
              · by_cases hN1 : N1 ≤ 3000
                · obtain ⟨u, hu⟩ : ∃ u, g.m.errs[j]? = some u := ⟨g.m.errs[j]'(by rw [← EE.out]; exact hjl), List.getElem?_eq_getElem _⟩
                  obtain ⟨b, o, xa, xc, ya, yc, hab, x0, x2⟩ := HCG.out.errs.lens hu
                  have x0 := cell_keep hbi x0
                  have x2 := cell_keep hbi x2
                  obtain ⟨p, ep⟩ : ∃ p, p = u.row.length := ⟨_, rfl⟩
                  obtain ⟨z, ez⟩ : ∃ z, z = u.loops.length := ⟨_, rfl⟩
                  obtain ⟨z1, z2⟩ := HCG.out.k3 u (List.mem_of_getElem? hu)
                  rw [hab] at q
                  rw [← ep] at x0 z1
                  rw [← ez] at x2 z2
                  have HU := Lib.hid hu
                  have EP := Lib.hid ep
                  have EZ := Lib.hid ez
                  have HLL := Lib.hid (hl1 hN1)
                  have HBI := Lib.hid hbi
                  clear hu ep ez hl1 hbi hab
                  go_wp2_with fail
                  go_quiet (fail)
                  go_wp2_with fail
                  go_roundg (E - (j + 1))
                  case measure => omega
                  case rel =>
                    refine ⟨j + 1, N1 + (p + z), by omega, rfl, by go_num, by go_num, by omega, by omega, fun h => ?_, below_drewN HBI.out _⟩
                    obtain ⟨y1, y2, y3, y4⟩ := HLL.out
                    refine ⟨y1, y2, y3, y4.1, fun j' u' hj' hu' => ?_⟩
                    by_cases e : j' = j
                    · subst e
                      rw [HU.out] at hu'; cases hu'
                      exact ⟨by rw [← EP.out]; omega, by rw [← EZ.out]; omega⟩
                    · exact y4.2 j' u' (by omega) hu'
                · have HBI := Lib.hid hbi
                  clear hl1 hbi
                  go_wp2
                  go_roundg (n - (k + 1))
                  case measure => omega
                  case rel => exact ⟨k + 1, N1, by omega, rfl, rfl, by go_num, hn1, hb1, fun h => absurd h hN1, HBI.out⟩
              · obtain rfl : j = E := by omega
                have HL1 := Lib.hid hl1
                have HBI := Lib.hid hbi
                clear hl1 hbi
                go_wp2
                go_roundg (n - (k + 1))
                case measure => omega
                case rel =>
                  refine ⟨k + 1, N1, by omega, rfl, rfl, by go_num, hn1, hb1, fun h j' g' hj' hg' => ?_, HBI.out⟩
                  by_cases e : j' = k
                  · subst e
                    rw [HGG.out] at hg'; cases hg'
                    obtain ⟨y1, y2, y3, y4, y5⟩ := HL1.out h
                    exact ⟨by rw [← ET.out]; exact y3, by rw [← ER.out]; exact y1, by rw [← EE.out]; exact y2, fun u hu => by
                      obtain ⟨jx, hx⟩ := List.getElem?_of_mem hu
                      exact y4 jx u (by rw [ER.out]; exact (List.getElem?_eq_some_iff.1 hx).1) hx, fun u hu => by
                      obtain ⟨jx, hx⟩ := List.getElem?_of_mem hu
                      exact y5 jx u (by rw [EE.out]; exact (List.getElem?_eq_some_iff.1 hx).1) hx⟩
                  · exact HLI.out j' g' (by omega) hg'
      · have HBW := Lib.hid hbw
        clear hlit hbw
        go_wp2
        go_ret
        exact ⟨rfl, HBW.out⟩
    · obtain rfl : k = n := by omega
      by_cases hN : N ≤ 3000
      · have HLI := Lib.hid (hlit hN)
        have HBW := Lib.hid hbw
        clear hlit hbw
        go_wp2_with fail
        by_cases hwr : 1 ≤ a0 ∧ a0 ≤ 8 ∧ 1 ≤ a1 ∧ a1 ≤ 64
        · obtain ⟨nw, rm, rfl, rfl, v1, v2, v3, v4⟩ : ∃ nw rm : Nat, a0 = nw ∧ a1 = rm ∧ 1 ≤ nw ∧ nw ≤ 8 ∧ 1 ≤ rm ∧ rm ≤ 64 := ⟨a0.toNat, a1.toNat, by omega, by omega, by omega, by omega, by omega, by omega⟩
          refine (new_box w.heap.size nw rm (fun _ _ => False) (fun _ _ => ⟨none, 0, []⟩) wr v1 v2 v3 v4 HBW.out.size (ways_none _ _ _ _)).mono ?_
          rintro e w1 ⟨rfl, hbox, hW, hb1⟩
          have HBX := Lib.hid hbox
          have HWW := Lib.hid hW
          have HB1 : Hid (Below w.heap.size w w1) := HBW.out.trans (hb1.mono HBW.out.size)
          have hbs : w.heap.size ≤ wr.heap.size := HBW.out.size
          clear hbox hW hb1
          go_wp2_with fail
          refine (rnew_ok nw rm w1 v1 v2 v3 v4).mono ?_
          rintro e w2 ⟨rfl, hr2⟩
          obtain ⟨RQ, RR, href, hb2⟩ := refIs_new v1 hr2
          have HRF := Lib.hid href
          have HBX2 := Lib.hid (box_keep HBX.out hb2)
          have HWW2 := Lib.hid (HWW.out.below hb2)
          have HB2 : Hid (Below w.heap.size w w2) := HB1.out.trans (hb2.mono HB1.out.size)
          clear href hr2 hb2
          go_wp2_with fail
          refine (known_any w2).mono ?_
          rintro e w3 ⟨rfl, hb3⟩
          have HRF3 := Lib.hid (HRF.out.below hb3)
          have HBX3 := Lib.hid (box_keep HBX2.out hb3)
          have HWW3 := Lib.hid (HWW2.out.below hb3)
          have HB3 : Hid (Below w.heap.size w w3) := HB2.out.trans (hb3.mono HB2.out.size)
          obtain ⟨RB, eRB⟩ : ∃ RB, RB = w1.heap.size := ⟨_, rfl⟩
          obtain ⟨PL, ePL⟩ : ∃ PL, PL = wr.heap.size := ⟨_, rfl⟩
          obtain ⟨PB, ePB⟩ : ∃ PB, PB = wr.heap.size + 1 := ⟨_, rfl⟩
          have hRBb : w.heap.size ≤ w1.heap.size := HB1.out.size
          rw [← eRB] at HRF3
          rw [← ePB, ← ePL] at HBX3
          rw [← ePL] at HWW3
          rw [← eRB, ← ePB]
          have ERB := Lib.hid eRB
          have EPB := Lib.hid ePB
          clear hb3 eRB ePB ePL
          go_wp2_with fail
          obtain ⟨w4, hw4⟩ : ∃ w4, w4 = w3.alloc (.cells #[.slice none 0 0, .slice none 0 0, .slice none 0 0, .slice none 0 0, .slice none 0 0, .slice none 0 0, .slice none 0 0, .slice none 0 0, .slice none 0 0, .slice none 0 0, .slice none 0 0, .slice none 0 0, .slice none 0 0, .slice none 0 0] 63) := ⟨_, rfl⟩
          obtain ⟨BB, eBB⟩ : ∃ BB, BB = w3.heap.size := ⟨_, rfl⟩
          obtain ⟨C, eC⟩ : ∃ C : Cfg, C = ⟨w.heap.size, PB, PL, nw, rm, RB, RQ, RR, BB⟩ := ⟨_, rfl⟩
          have hb4 : Below w3.heap.size w3 w4 := by rw [hw4]; exact (Below.refl _ _).alloc (Nat.le_refl _) _
          have hbk : BookIs w4 BB w.heap.size 0 (fun _ => False) := bookIs_new (by rw [hw4, eBB]; exact heap_alloc_new _ _) (by rw [eBB]; exact HB3.out.size)
          have HST : Hid (∃ s, St C (fun m => m.there w) w4 s ∧ s.QP = s.QR ∧ s.c = 0) := by
            refine ⟨_, st_new (C := C) (σ := fun L k => if L = PL then ⟨none, 0, []⟩ else ⟨none, 0, []⟩) ?_ ?_ ?_ ?_ (fun k => by simp) ?_ ?_ ?_, rfl, rfl⟩
            · rw [eC]; exact Nat.le_trans HB3.out.size hb4.size
            · rw [eC]; exact box_keep HBX3.out hb4
            · rw [eC]; show w.heap.size ≤ PB; have := EPB.out; omega
            · rw [eC]
              exact (HWW3.out.below hb4).congr fun L k hD => .inr hD
            · rw [eC]
              exact (HRF3.out.below hb4).lower (by rw [ERB.out]; exact hRBb)
            · rw [eC]; exact hbk
            · rw [eC]; exact ⟨v1, v2, v3, v4⟩
          have HB4 : Hid (Below w.heap.size w w4) := HB3.out.trans (hb4.mono HB3.out.size)
          have ec : PB = C.PB ∧ RB = C.RB ∧ BB = C.BB ∧ C.b = w.heap.size ∧ C.n = nw ∧ C.r = rm := by rw [eC]; exact ⟨rfl, rfl, rfl, rfl, rfl, rfl⟩
          obtain ⟨ec1, ec2, ec3, ec4, ec5, ec6⟩ := ec
          rw [← hw4, ← eBB, ec1, ec2, ec3]
          clear hw4 hb4 hbk eC EPB ERB HBX HWW HRF HBX2 HWW2 HB1 HB2 HRF3 HBX3 HWW3 HB3 hbs hRBb eBB ec1 ec2 ec3
          have EC4 := Lib.hid ec4
          clear ec4
          go_wp2_with fail
          go_loopg [16] k (fun gg s16 wi => ∃ i s, i ≤ k ∧ gg = k - i ∧ s16 = .int .i64 (i : Nat) ∧ St C (fun m => m.there w) wi s ∧ s.QP = s.QR ∧ s.c ≤ i * 20000 ∧ Below w.heap.size w wi)
          case atStart =>
            obtain ⟨s, hs, hq, hc⟩ := HST.out
            exact ⟨0, s, Nat.zero_le _, by omega, rfl, hs, hq, by omega, HB4.out⟩
          case round =>
            obtain ⟨i, s, hi, rfl, rfl, hst, hqq, hc, hbi⟩ := hrel
            by_cases hil : i < k
            · obtain ⟨g, hg⟩ : ∃ g, acts[i]? = some g := ⟨acts[i]'(by rw [← EN.out]; exact hil), List.getElem?_eq_getElem _⟩
              have hav := HA.out (fun e => by rw [e] at hg; simp at hg)
              subst hav
              have hcell := HAC.out i g hg
              have d0 : wr.cell? ⟨bl, off + i * 10, none⟩ = some (.bool g.take) := cell_keep hbi (hcell 0 _ rfl)
              have d1 : wr.cell? ⟨bl, off + i * 10 + 1, none⟩ = some (.int .i64 g.A) := cell_keep hbi (hcell 1 _ rfl)
              have d2 : wr.cell? ⟨bl, off + i * 10 + 2, none⟩ = some (.int .i64 g.B) := cell_keep hbi (hcell 2 _ rfl)
              have d3 : wr.cell? ⟨bl, off + i * 10 + 3, none⟩ = some (.int .i64 g.m.node) := cell_keep hbi (hcell 3 _ rfl)
              have d4 : wr.cell? ⟨bl, off + i * 10 + 4, none⟩ = some (.bool g.m.out) := cell_keep hbi (hcell 4 _ rfl)
              have d5 : wr.cell? ⟨bl, off + i * 10 + 5, none⟩ = some (.int .i64 g.m.port) := cell_keep hbi (hcell 5 _ rfl)
              have d6 : wr.cell? ⟨bl, off + i * 10 + 6, none⟩ = some (.int .u64 g.m.epoch) := cell_keep hbi (hcell 6 _ rfl)
              have d7 : wr.cell? ⟨bl, off + i * 10 + 7, none⟩ = some (.slice g.m.la g.m.loops.length g.m.lc) := cell_keep hbi (hcell 7 _ rfl)
              have d8 : wr.cell? ⟨bl, off + i * 10 + 8, none⟩ = some (.slice g.m.ra g.m.rows.length g.m.rc) := cell_keep hbi (hcell 8 _ rfl)
              have d9 : wr.cell? ⟨bl, off + i * 10 + 9, none⟩ = some (.slice g.m.ea g.m.errs.length g.m.ec) := cell_keep hbi (hcell 9 _ rfl)
              have hkm : g.m.there w := (HCM.out g (List.mem_of_getElem? hg)).there (HLI.out i g hil hg)
              have HKM := Lib.hid hkm
              have HS := Lib.hid hst
              have HQQ := Lib.hid hqq
              have HBI := Lib.hid hbi
              have hk3 : k ≤ 3000 := by omega
              clear hcell hkm hst hqq hbi hg
              go_upto_if 196 with fail
              obtain ⟨w5, hw5⟩ : ∃ w5, w5 = wr.alloc (.cells #[.bool g.take, .int .i64 g.A, .int .i64 g.B, .int .i64 g.m.node, .bool g.m.out, .int .i64 g.m.port, .int .u64 g.m.epoch, .slice g.m.la g.m.loops.length g.m.lc, .slice g.m.ra g.m.rows.length g.m.rc, .slice g.m.ea g.m.errs.length g.m.ec] 33) := ⟨_, rfl⟩
              obtain ⟨A, eA⟩ : ∃ A, A = wr.heap.size := ⟨_, rfl⟩
              have hb5 : Below wr.heap.size wr w5 := by rw [hw5]; exact (Below.refl _ _).alloc (Nat.le_refl _) _
              have hA5 : w5.heap[A]? = some (.cells #[.bool g.take, .int .i64 g.A, .int .i64 g.B, .int .i64 g.m.node, .bool g.m.out, .int .i64 g.m.port, .int .u64 g.m.epoch, .slice g.m.la g.m.loops.length g.m.lc, .slice g.m.ra g.m.rows.length g.m.rc, .slice g.m.ea g.m.errs.length g.m.ec] 33 (0, 0)) := by rw [hw5, eA]; exact heap_alloc_new _ _
              have HS5 := Lib.hid (HS.out.below hb5)
              have HB5 : Hid (Below w.heap.size w w5) := HBI.out.trans (hb5.mono HBI.out.size)
              have HA5 := Lib.hid hA5
              rw [← hw5, ← eA]
              clear hw5 hb5 hA5 eA d0 d1 d2 d3 d4 d5 d6 d7 d8 d9
              go_cut [] from 185 to 363 (fun wc => ∃ s', St C (fun m => m.there w) wc s' ∧ s'.QP = s'.QR ∧ s'.c ≤ (i + 1) * 20000 ∧ Below w.heap.size w wc ∧ wc.heap[A]? = some (.cells #[.bool g.take, .int .i64 g.A, .int .i64 g.B, .int .i64 g.m.node, .bool g.m.out, .int .i64 g.m.port, .int .u64 g.m.epoch, .slice g.m.la g.m.loops.length g.m.lc, .slice g.m.ra g.m.rows.length g.m.rc, .slice g.m.ea g.m.errs.length g.m.ec] 33 (0, 0)))
              case first =>
                cases htk : g.take
                · rw [htk] at HA5
                  obtain ⟨P, eP⟩ : ∃ P, sendP C.n C.r s.QP g.A g.B g.m = P := ⟨_, rfl⟩
                  have hPc : (P.1 : Int) ≤ 90 := by have := code_small' C.n C.r s.QP g.A g.B g.m; rw [eP] at this; omega
                  have EP := Lib.hid eP
                  have hA5 := HA5.out
                  have a3 : w5.cell? ⟨A, 3, none⟩ = some (.int .i64 g.m.node) := cell_of_heap hA5 rfl
                  have a4 : w5.cell? ⟨A, 4, none⟩ = some (.bool g.m.out) := cell_of_heap hA5 rfl
                  have a5 : w5.cell? ⟨A, 5, none⟩ = some (.int .i64 g.m.port) := cell_of_heap hA5 rfl
                  have a6 : w5.cell? ⟨A, 6, none⟩ = some (.int .u64 g.m.epoch) := cell_of_heap hA5 rfl
                  have a7 : w5.cell? ⟨A, 7, none⟩ = some (.slice g.m.la g.m.loops.length g.m.lc) := cell_of_heap hA5 rfl
                  have a8 : w5.cell? ⟨A, 8, none⟩ = some (.slice g.m.ra g.m.rows.length g.m.rc) := cell_of_heap hA5 rfl
                  have a9 : w5.cell? ⟨A, 9, none⟩ = some (.slice g.m.ea g.m.errs.length g.m.ec) := cell_of_heap hA5 rfl
                  clear hA5 eP
                  have hmb : g.m.there w5 := HKM.out.below HB5.out
                  have HMB := Lib.hid hmb
                  obtain ⟨t1, t2, t3, t4, t5⟩ := (⟨hmb.l1, hmb.l2, hmb.l3, hmb.k2, hmb.k3⟩ : _ ∧ _ ∧ _ ∧ _ ∧ _)
                  have T4 := Lib.hid t4
                  have T5 := Lib.hid t5
                  clear hmb t4 t5
                  go_wp2_with fail
                  go_cut [22] from 238 to 253 (fun s22 wx => ∃ M, s22 = .pointer (some ⟨M, 0, none⟩) ∧ OwnRel w5 wx g.m M)
                  case first =>
                    go_region_held3 (fun w' => w'.cell? ⟨A, 3, none⟩ = some (.int .i64 g.m.node) ∧ w'.cell? ⟨A, 4, none⟩ = some (.bool g.m.out) ∧ w'.cell? ⟨A, 5, none⟩ = some (.int .i64 g.m.port) ∧ w'.cell? ⟨A, 6, none⟩ = some (.int .u64 g.m.epoch) ∧ w'.cell? ⟨A, 7, none⟩ = some (.slice g.m.la g.m.loops.length g.m.lc) ∧ w'.cell? ⟨A, 8, none⟩ = some (.slice g.m.ra g.m.rows.length g.m.rc) ∧ w'.cell? ⟨A, 9, none⟩ = some (.slice g.m.ea g.m.errs.length g.m.ec))
                      (first | with_reducible exact HT8.out | with_reducible exact HT7.out | with_reducible exact HT6.out | (simp only [cell_set_ne hAM]; with_reducible exact HT8.out) | with_reducible exact keep7 (bl_a _ _) HT8.out | with_reducible exact keep7 (bl_a _ _) HT7.out | with_reducible exact keep7 (bl_a _ _) HT6.out | with_reducible exact keep7 (bl_ad _ _) ⟨a3, a4, a5, a6, a7, a8, a9⟩ | with_reducible exact keep7 (bl_adn _ _ _) ⟨a3, a4, a5, a6, a7, a8, a9⟩ | with_reducible exact keep7 (bl_a _ _) ⟨a3, a4, a5, a6, a7, a8, a9⟩ | exact ⟨a3, a4, a5, a6, a7, a8, a9⟩)
                      (first | (go_at_call 14; refine (own_14 (w0 := w5) (m := g.m) HMB.out ?_).mono ?_; (first | with_reducible exact bl_d1 _ | with_reducible exact drew_below' _ _ | with_reducible exact bl_ad _ _ | with_reducible exact bl_adn _ _ _ | with_reducible exact bl_a _ _ | with_reducible exact Below.refl _ _); rintro e w6 ⟨lb, rfl, ho6, hb6⟩; have HO6 := Lib.hid ho6; have HT6 := Lib.hid (keep7 ho6.1 ⟨a3, a4, a5, a6, a7, a8, a9⟩); (first | (have HM := Lib.hid (shape_after_d hb6)) | (have HM := Lib.hid (shape_after_n hb6)) | (have HM := Lib.hid (shape_after hb6)) | skip); clear ho6 hb6) | (go_at_call 15; refine (@own_15 w5 _ _ ?_ ?_ ?_ ?_ ?_).mono ?_; rotate_left; (first | with_reducible exact HMB.out.rows | with_reducible exact HMB.out.errs); (first | with_reducible exact own2_bl HO7.out | with_reducible exact own1_bl HO6.out | with_reducible exact own2_bla HO7.out | with_reducible exact own1_bla HO6.out); (first | with_reducible exact t2 | with_reducible exact t3); (first | with_reducible exact T4.out | with_reducible exact T5.out); (first | (rintro e w8 ⟨eg, rfl, hu, hb8⟩; (first | (have HO8 := Lib.hid (own3_of HO7.out hu hb8)) | (have HO8 := Lib.hid (own3_of_a HO7.out hu hb8))); have HT8 := Lib.hid (keep7 HO8.out.1.1.1 ⟨a3, a4, a5, a6, a7, a8, a9⟩); (first | (have HM := Lib.hid (Shape.below HM.out hb8)) | (have HM := Lib.hid (shape_after hb8)) | skip); (first | (obtain ⟨y0, y1, y2, y3, y4, y5, y6, hy0, hy1, hy2, hy3, hy4, hy5, hy6, hz0, hz1, hz2, hz3, hz4, hz5, hz6⟩ := shape7 HM.out; have hAM := shape_ne HM.out HA5.out HO8.out.1.1.1) | skip); clear hu hb8) | (rintro e w7 ⟨rg, rfl, hu, hb7⟩; (first | (have HO7 := Lib.hid (own2_of HO6.out hu hb7)) | (have HO7 := Lib.hid (own2_of_a HO6.out hu hb7))); have HT7 := Lib.hid (keep7 HO7.out.1.1 ⟨a3, a4, a5, a6, a7, a8, a9⟩); (first | (have HM := Lib.hid (Shape.below HM.out hb7)) | (have HM := Lib.hid (shape_after hb7)) | skip); clear hu hb7))))
                    all_goals (go_wp2_with fail)
                    all_goals go_meet
                    all_goals refine ⟨_, rfl, ?_⟩
                    all_goals (first | (have hfin := own_last HO8.out; simp only [ownCells] at hfin; with_reducible exact hfin) | (have hfin := own_laid HO8.out HM.out (Nat.le_refl _); simp only [put7, Nat.zero_add] at hfin; with_reducible exact hfin) | (have hfin := own_laid HO8.out HM.out (own1_bl HO6.out).size; simp only [put7, Nat.zero_add] at hfin; with_reducible exact hfin) | (have hfin := own_laid HO8.out HM.out (own2_bl HO7.out).size; simp only [put7, Nat.zero_add] at hfin; with_reducible exact hfin))
                  case rest => as_aux_lemma =>
                      obtain ⟨M, rfl, lb, rg, eg, L2, L3, L4, ho, hM, hMlo⟩ := hcut
                      have hb59 : Below w5.heap.size w5 wc := ho.1.1.1
                      have HB9 : Hid (Below w.heap.size w wc) := HB5.out.trans (hb59.mono HB5.out.size)
                      have HS9 := Lib.hid (HS5.out.below hb59)
                      have hA9 := (hb59.block A (lt_of_heap HA5.out)).trans HA5.out
                      have HA9 := Lib.hid hA9
                      have hl := ho.lent
                      have HL9 := Lib.hid hl
                      have hct := st_send_any HS9.out g.A g.B g.m HKM.out (AMsg.raw_ok HKM.out) _ _ _ _ _ _ hl.msg w5.heap.size wc.heap.size (HS5.out.fresh wc.heap.size) (Nat.le_refl _) EP.out
                      have HCT := Lib.hid hct
                      have HM9 : Hid (wc.heap[M]? = some (.cells #[.int .i64 g.m.node, .bool g.m.out, .int .i64 g.m.port, .int .u64 g.m.epoch, .slice (some ⟨lb, 0, none⟩) g.m.loops.length (g.m.loops.length + 2), .slice (some ⟨rg, 0, none⟩) g.m.rows.length (g.m.rows.length + 1), .slice (some ⟨eg, 0, none⟩) g.m.errs.length (g.m.errs.length + 1)] 31 (0, 0))) := hM
                      have HMLO := Lib.hid hMlo
                      have e1 : wc.cell? ⟨A, 1, none⟩ = some (.int .i64 g.A) := cell_of_heap hA9 rfl
                      have e2 : wc.cell? ⟨A, 2, none⟩ = some (.int .i64 g.B) := cell_of_heap hA9 rfl
                      have z0 : wc.cell? ⟨M, 0, none⟩ = some (.int .i64 g.m.node) := cell_of_heap HM9.out rfl
                      have z1 : wc.cell? ⟨M, 1, none⟩ = some (.bool g.m.out) := cell_of_heap HM9.out rfl
                      have z2 : wc.cell? ⟨M, 2, none⟩ = some (.int .i64 g.m.port) := cell_of_heap HM9.out rfl
                      have z3 : wc.cell? ⟨M, 3, none⟩ = some (.int .u64 g.m.epoch) := cell_of_heap HM9.out rfl
                      have z4 : wc.cell? ⟨M, 4, none⟩ = some (.slice (some ⟨lb, 0, none⟩) g.m.loops.length (g.m.loops.length + 2)) := cell_of_heap HM9.out rfl
                      have z5 : wc.cell? ⟨M, 5, none⟩ = some (.slice (some ⟨rg, 0, none⟩) g.m.rows.length (g.m.rows.length + 1)) := cell_of_heap HM9.out rfl
                      have z6 : wc.cell? ⟨M, 6, none⟩ = some (.slice (some ⟨eg, 0, none⟩) g.m.errs.length (g.m.errs.length + 1)) := cell_of_heap HM9.out rfl
                      clear ho hM hMlo hb59 hA9 hl hct a3 a4 a5 a6 a7 a8 a9
                      go_wp2_with fail
                      refine HCT.out.mono ?_
                      rintro e w10 ⟨rfl, σ', hs10, hf10, hb10, ho10⟩
                      have hk10 : ∀ x, w5.heap.size ≤ x → x < wc.heap.size → w10.heap[x]? = wc.heap[x]? := fun x h1 h2 => HS5.out.newP rfl ho10 h2 h1
                      have HL10 := Lib.hid (HL9.out.keep ho10.size hk10)
                      have hA10 := HS9.out.keepP ho10 HA9.out (by decide) (by decide)
                      have hM10 := (hk10 M HMLO.out (lt_of_heap HM9.out)).trans HM9.out
                      have HS10 := Lib.hid hs10
                      have HF10 := Lib.hid hf10
                      have HB10 : Hid (Below w.heap.size w w10) := HB9.out.trans (by rw [← EC4.out]; exact hb10)
                      have HA10 := Lib.hid hA10
                      have HM10 := Lib.hid hM10
                      have HZ : Hid (L4 ≤ wc.heap.size) := HL9.out.l5
                      clear hs10 hf10 hb10 ho10 hk10 HCT HS9 HA9 HM9 HL9 e1 e2 z0 z1 z2 z3 z4 z5 z6
                      have b3 : w10.cell? ⟨A, 3, none⟩ = some (.int .i64 g.m.node) := cell_of_heap hA10 rfl
                      have b4 : w10.cell? ⟨A, 4, none⟩ = some (.bool g.m.out) := cell_of_heap hA10 rfl
                      have b5 : w10.cell? ⟨A, 5, none⟩ = some (.int .i64 g.m.port) := cell_of_heap hA10 rfl
                      have b6 : w10.cell? ⟨A, 6, none⟩ = some (.int .u64 g.m.epoch) := cell_of_heap hA10 rfl
                      have b7 : w10.cell? ⟨A, 7, none⟩ = some (.slice g.m.la g.m.loops.length g.m.lc) := cell_of_heap hA10 rfl
                      have b8 : w10.cell? ⟨A, 8, none⟩ = some (.slice g.m.ra g.m.rows.length g.m.rc) := cell_of_heap hA10 rfl
                      have b9 : w10.cell? ⟨A, 9, none⟩ = some (.slice g.m.ea g.m.errs.length g.m.ec) := cell_of_heap hA10 rfl
                      have z0 : w10.cell? ⟨M, 0, none⟩ = some (.int .i64 g.m.node) := cell_of_heap hM10 rfl
                      have z1 : w10.cell? ⟨M, 1, none⟩ = some (.bool g.m.out) := cell_of_heap hM10 rfl
                      have z2 : w10.cell? ⟨M, 2, none⟩ = some (.int .i64 g.m.port) := cell_of_heap hM10 rfl
                      have z3 : w10.cell? ⟨M, 3, none⟩ = some (.int .u64 g.m.epoch) := cell_of_heap hM10 rfl
                      have z4 : w10.cell? ⟨M, 4, none⟩ = some (.slice (some ⟨lb, 0, none⟩) g.m.loops.length (g.m.loops.length + 2)) := cell_of_heap hM10 rfl
                      have z5 : w10.cell? ⟨M, 5, none⟩ = some (.slice (some ⟨rg, 0, none⟩) g.m.rows.length (g.m.rows.length + 1)) := cell_of_heap hM10 rfl
                      have z6 : w10.cell? ⟨M, 6, none⟩ = some (.slice (some ⟨eg, 0, none⟩) g.m.errs.length (g.m.errs.length + 1)) := cell_of_heap hM10 rfl
                      clear hA10 hM10
                      have h17 := whole_17 g.m.epoch w5.heap.size lb g.m.la g.m.lc g.m.loops w10 HL10.out.words (HKM.out.below HB10.out).loops (by omega)
                      have HC17 := Lib.hid h17
                      clear h17
                      go_wp2_with fail
                      refine HC17.out.mono ?_
                      rintro e w11 ⟨rfl, hb11⟩
                      have HL11 := Lib.hid (HL10.out.below hb11)
                      have HB11 : Hid (Below w.heap.size w w11) := HB10.out.trans (hb11.mono HB10.out.size)
                      have HA11 : Hid _ := Lib.hid ((hb11.block A (lt_of_heap HA10.out)).trans HA10.out)
                      have HM11 : Hid _ := Lib.hid ((hb11.block M (lt_of_heap HM10.out)).trans HM10.out)
                      have HS11 := Lib.hid (HS10.out.below hb11)
                      have h18 := whole_18 L2 rg _ g.m.rows w11 HL11.out.rows (HKM.out.below HB11.out).rows (by omega) (fun u hu => by have := T4.out u hu; omega)
                      have HC18 := Lib.hid h18
                      have hA11 := HA11.out
                      have hM11 := HM11.out
                      clear h18 hb11 b3 b4 b5 b6 b7 b8 b9 z0 z1 z2 z3 z4 z5 z6 HL10 HA10 HM10 HS10 HC17
                      have b3 : w11.cell? ⟨A, 3, none⟩ = some (.int .i64 g.m.node) := cell_of_heap hA11 rfl
                      have b4 : w11.cell? ⟨A, 4, none⟩ = some (.bool g.m.out) := cell_of_heap hA11 rfl
                      have b5 : w11.cell? ⟨A, 5, none⟩ = some (.int .i64 g.m.port) := cell_of_heap hA11 rfl
                      have b6 : w11.cell? ⟨A, 6, none⟩ = some (.int .u64 g.m.epoch) := cell_of_heap hA11 rfl
                      have b7 : w11.cell? ⟨A, 7, none⟩ = some (.slice g.m.la g.m.loops.length g.m.lc) := cell_of_heap hA11 rfl
                      have b8 : w11.cell? ⟨A, 8, none⟩ = some (.slice g.m.ra g.m.rows.length g.m.rc) := cell_of_heap hA11 rfl
                      have b9 : w11.cell? ⟨A, 9, none⟩ = some (.slice g.m.ea g.m.errs.length g.m.ec) := cell_of_heap hA11 rfl
                      have z0 : w11.cell? ⟨M, 0, none⟩ = some (.int .i64 g.m.node) := cell_of_heap hM11 rfl
                      have z1 : w11.cell? ⟨M, 1, none⟩ = some (.bool g.m.out) := cell_of_heap hM11 rfl
                      have z2 : w11.cell? ⟨M, 2, none⟩ = some (.int .i64 g.m.port) := cell_of_heap hM11 rfl
                      have z3 : w11.cell? ⟨M, 3, none⟩ = some (.int .u64 g.m.epoch) := cell_of_heap hM11 rfl
                      have z4 : w11.cell? ⟨M, 4, none⟩ = some (.slice (some ⟨lb, 0, none⟩) g.m.loops.length (g.m.loops.length + 2)) := cell_of_heap hM11 rfl
                      have z5 : w11.cell? ⟨M, 5, none⟩ = some (.slice (some ⟨rg, 0, none⟩) g.m.rows.length (g.m.rows.length + 1)) := cell_of_heap hM11 rfl
                      have z6 : w11.cell? ⟨M, 6, none⟩ = some (.slice (some ⟨eg, 0, none⟩) g.m.errs.length (g.m.errs.length + 1)) := cell_of_heap hM11 rfl
                      clear hA11 hM11
                      go_wp2_with fail
                      refine HC18.out.mono ?_
                      rintro e w12 ⟨rfl, hb12⟩
                      have HL12 := Lib.hid (HL11.out.below hb12)
                      have HB12 : Hid (Below w.heap.size w w12) := HB11.out.trans (hb12.mono HB11.out.size)
                      have HA12 : Hid _ := Lib.hid ((hb12.block A (lt_of_heap HA11.out)).trans HA11.out)
                      have HM12 : Hid _ := Lib.hid ((hb12.block M (lt_of_heap HM11.out)).trans HM11.out)
                      have HS12 := Lib.hid (HS11.out.below hb12)
                      have h18 := whole_18 L3 eg _ g.m.errs w12 HL12.out.errs (HKM.out.below HB12.out).errs (by omega) (fun u hu => by have := T5.out u hu; omega)
                      have HC18 := Lib.hid h18
                      have hA12 := HA12.out
                      have hM12 := HM12.out
                      clear h18 hb12 b3 b4 b5 b6 b7 b8 b9 z0 z1 z2 z3 z4 z5 z6 HL11 HA11 HM11 HS11
                      have b3 : w12.cell? ⟨A, 3, none⟩ = some (.int .i64 g.m.node) := cell_of_heap hA12 rfl
                      have b4 : w12.cell? ⟨A, 4, none⟩ = some (.bool g.m.out) := cell_of_heap hA12 rfl
                      have b5 : w12.cell? ⟨A, 5, none⟩ = some (.int .i64 g.m.port) := cell_of_heap hA12 rfl
                      have b6 : w12.cell? ⟨A, 6, none⟩ = some (.int .u64 g.m.epoch) := cell_of_heap hA12 rfl
                      have b7 : w12.cell? ⟨A, 7, none⟩ = some (.slice g.m.la g.m.loops.length g.m.lc) := cell_of_heap hA12 rfl
                      have b8 : w12.cell? ⟨A, 8, none⟩ = some (.slice g.m.ra g.m.rows.length g.m.rc) := cell_of_heap hA12 rfl
                      have b9 : w12.cell? ⟨A, 9, none⟩ = some (.slice g.m.ea g.m.errs.length g.m.ec) := cell_of_heap hA12 rfl
                      have z0 : w12.cell? ⟨M, 0, none⟩ = some (.int .i64 g.m.node) := cell_of_heap hM12 rfl
                      have z1 : w12.cell? ⟨M, 1, none⟩ = some (.bool g.m.out) := cell_of_heap hM12 rfl
                      have z2 : w12.cell? ⟨M, 2, none⟩ = some (.int .i64 g.m.port) := cell_of_heap hM12 rfl
                      have z3 : w12.cell? ⟨M, 3, none⟩ = some (.int .u64 g.m.epoch) := cell_of_heap hM12 rfl
                      have z4 : w12.cell? ⟨M, 4, none⟩ = some (.slice (some ⟨lb, 0, none⟩) g.m.loops.length (g.m.loops.length + 2)) := cell_of_heap hM12 rfl
                      have z5 : w12.cell? ⟨M, 5, none⟩ = some (.slice (some ⟨rg, 0, none⟩) g.m.rows.length (g.m.rows.length + 1)) := cell_of_heap hM12 rfl
                      have z6 : w12.cell? ⟨M, 6, none⟩ = some (.slice (some ⟨eg, 0, none⟩) g.m.errs.length (g.m.errs.length + 1)) := cell_of_heap hM12 rfl
                      clear hA12 hM12
                      go_wp2_with fail
                      refine HC18.out.mono ?_
                      rintro e w13 ⟨rfl, hb13⟩
                      have HL13 := Lib.hid (HL12.out.below hb13)
                      have HB13 : Hid (Below w.heap.size w w13) := HB12.out.trans (hb13.mono HB12.out.size)
                      have HA13 : Hid _ := Lib.hid ((hb13.block A (lt_of_heap HA12.out)).trans HA12.out)
                      have HM13 : Hid _ := Lib.hid ((hb13.block M (lt_of_heap HM12.out)).trans HM12.out)
                      have HS13 := Lib.hid (HS12.out.below hb13)
                      clear hb13 b3 b4 b5 b6 b7 b8 b9 z0 z1 z2 z3 z4 z5 z6 HL12 HA12 HM12 HS12 HC18
                      have z5 : w13.cell? ⟨M, 5, none⟩ = some (.slice (some ⟨rg, 0, none⟩) g.m.rows.length (g.m.rows.length + 1)) := cell_of_heap HM13.out rfl
                      go_wp2_with fail
                      refine (spoil_19 L2 L3 rg _ _ w13 HL13.out.spr).mono ?_
                      rintro e w14 ⟨rfl, hs14⟩
                      have HS14 := Lib.hid (HS13.out.spoil hs14 (HF10.out.sub HL13.out.l2 (Nat.le_trans HL13.out.l4 HZ.out)))
                      have HB14 : Hid (Below w.heap.size w w14) := HB13.out.trans (hs14.below (Nat.le_trans HB5.out.size HL13.out.l2) HB13.out.size)
                      have HA14 := Lib.hid (hs14.type HA13.out (by decide) (by decide) (by decide))
                      have HM14 := Lib.hid (hs14.type HM13.out (by decide) (by decide) (by decide))
                      have HE14 := Lib.hid (HL13.out.spe.frame fun x h1 _ h2 => hs14.keep h2 (.inr h1))
                      have HW14 := Lib.hid (hs14.2 _ _ _ HL13.out.shape.1)
                      clear hs14 z5 HA13 HM13 HS13
                      have z6 : w14.cell? ⟨M, 6, none⟩ = some (.slice (some ⟨eg, 0, none⟩) g.m.errs.length (g.m.errs.length + 1)) := cell_of_heap HM14.out rfl
                      go_wp2_with fail
                      refine (spoil_19 L3 L4 eg _ _ w14 HE14.out).mono ?_
                      rintro e w15 ⟨rfl, hs15⟩
                      have HS15 := Lib.hid (HS14.out.spoil hs15 (HF10.out.sub (Nat.le_trans HL13.out.l2 HL13.out.l3) HZ.out))
                      have HB15 : Hid (Below w.heap.size w w15) := HB14.out.trans (hs15.below (Nat.le_trans HB5.out.size (Nat.le_trans HL13.out.l2 HL13.out.l3)) HB14.out.size)
                      have HA15 := Lib.hid (hs15.type HA14.out (by decide) (by decide) (by decide))
                      have HM15 := Lib.hid (hs15.type HM14.out (by decide) (by decide) (by decide))
                      have HW15 := Lib.hid (hs15.2 _ _ _ HW14.out)
                      clear hs15 z6 HA14 HM14 HS14 HE14 HW14
                      have z4 : w15.cell? ⟨M, 4, none⟩ = some (.slice (some ⟨lb, 0, none⟩) g.m.loops.length (g.m.loops.length + 2)) := cell_of_heap HM15.out rfl
                      go_wp2_with fail
                      refine (spoil_20 lb _ (g.m.loops.length + 2) w15 HW15.out (by omega) (by omega)).mono ?_
                      rintro e w16 ⟨rfl, hs16⟩
                      have hs16' := sp_words hs16 HW15.out HL13.out.shape.2 HL13.out.l1
                      have HS16 := Lib.hid (HS15.out.spoil hs16' (HF10.out.sub (Nat.le_refl _) (Nat.le_trans HL13.out.l3 (Nat.le_trans HL13.out.l4 HZ.out))))
                      have HB16 : Hid (Below w.heap.size w w16) := HB15.out.trans (hs16'.below HB5.out.size HB15.out.size)
                      have HA16 := Lib.hid (hs16'.type HA15.out (by decide) (by decide) (by decide))
                      clear hs16 hs16' z4 HA15 HM15 HS15 HW15
                      have hPR : sendP C.n C.r s.QR g.A g.B g.m = P := by rw [← HQQ.out]; exact EP.out
                      have hct := st_rsend_any HS16.out g.A g.B g.m HKM.out hPR
                      unfold msgAgg at hct
                      have HCT := Lib.hid hct
                      have hA16 := HA16.out
                      clear hct hPR
                      have e1 : w16.cell? ⟨A, 1, none⟩ = some (.int .i64 g.A) := cell_of_heap hA16 rfl
                      have e2 : w16.cell? ⟨A, 2, none⟩ = some (.int .i64 g.B) := cell_of_heap hA16 rfl
                      have b3 : w16.cell? ⟨A, 3, none⟩ = some (.int .i64 g.m.node) := cell_of_heap hA16 rfl
                      have b4 : w16.cell? ⟨A, 4, none⟩ = some (.bool g.m.out) := cell_of_heap hA16 rfl
                      have b5 : w16.cell? ⟨A, 5, none⟩ = some (.int .i64 g.m.port) := cell_of_heap hA16 rfl
                      have b6 : w16.cell? ⟨A, 6, none⟩ = some (.int .u64 g.m.epoch) := cell_of_heap hA16 rfl
                      have b7 : w16.cell? ⟨A, 7, none⟩ = some (.slice g.m.la g.m.loops.length g.m.lc) := cell_of_heap hA16 rfl
                      have b8 : w16.cell? ⟨A, 8, none⟩ = some (.slice g.m.ra g.m.rows.length g.m.rc) := cell_of_heap hA16 rfl
                      have b9 : w16.cell? ⟨A, 9, none⟩ = some (.slice g.m.ea g.m.errs.length g.m.ec) := cell_of_heap hA16 rfl
                      clear hA16
                      go_wp2_with fail
                      refine HCT.out.mono ?_
                      rintro e w17 ⟨rfl, V', hs17, hb17, ho17⟩
                      have HS17 := Lib.hid hs17
                      have HB17 : Hid (Below w.heap.size w w17) := HB16.out.trans (by rw [← EC4.out]; exact hb17)
                      have HA17 := Lib.hid (HS16.out.keepR ho17 HA16.out (by decide) (by decide))
                      clear hs17 hb17 ho17 HCT e1 e2 b3 b4 b5 b6 b7 b8 b9
                      go_wp2
                      go_meet
                      refine ⟨_, HS17.out, rfl, ?_, HB17.out, by rw [htk]; exact HA17.out⟩
                      show s.c ≤ (i + 1) * 20000
                      omega
                · as_aux_lemma =>
                    rw [htk] at HA5
                    obtain ⟨P, eP⟩ : ∃ P, takeP C.n s.QP g.A g.B = P := ⟨_, rfl⟩
                    have hPt : P.1.there w := by rw [← eP]; exact takeP_there HS5.out g.A g.B
                    have hPc : (P.2.1 : Int) ≤ 91 := by have := code_small C.n s.QP g.A g.B; rw [eP] at this; omega
                    have EP := Lib.hid eP
                    have HPT := Lib.hid hPt
                    have hA5 := HA5.out
                    have a1 : w5.cell? ⟨A, 1, none⟩ = some (.int .i64 g.A) := cell_of_heap hA5 rfl
                    have a2 : w5.cell? ⟨A, 2, none⟩ = some (.int .i64 g.B) := cell_of_heap hA5 rfl
                    clear hA5 eP hPt
                    go_wp2_with fail
                    refine (st_take_any HS5.out g.A g.B EP.out).mono ?_
                    rintro e w6 ⟨la, lc, ra, rc, ea, ec, rfl, σ', lo, hi', hs6, hm6, hlo, hhi, hf6, hb6, ho6⟩
                    have hA6 := HS5.out.keepP ho6 HA5.out (by decide) (by decide)
                    have a1 : w6.cell? ⟨A, 1, none⟩ = some (.int .i64 g.A) := cell_of_heap hA6 rfl
                    have a2 : w6.cell? ⟨A, 2, none⟩ = some (.int .i64 g.B) := cell_of_heap hA6 rfl
                    have sA : A < w6.heap.size := lt_of_heap hA6
                    have HS6 := Lib.hid hs6
                    have HM6 := Lib.hid hm6
                    have HF6 := Lib.hid hf6
                    have HA6 := Lib.hid hA6
                    have HB6 : Hid (Below w.heap.size w w6) := HB5.out.trans (by rw [← EC4.out]; exact hb6)
                    have HLO := Lib.hid hlo
                    have HHI := Lib.hid hhi
                    clear hs6 hm6 hf6 hA6 hb6 ho6 hlo hhi
                    go_wp2_with fail
                    obtain ⟨w7, hw7⟩ : ∃ w7, w7 = w6.alloc (.cells #[.int .i64 P.1.node, .bool P.1.out, .int .i64 P.1.port, .int .u64 P.1.epoch, .slice la P.1.loops.length lc, .slice ra P.1.rows.length rc, .slice ea P.1.errs.length ec] 31) := ⟨_, rfl⟩
                    obtain ⟨M, eM⟩ : ∃ M, M = w6.heap.size := ⟨_, rfl⟩
                    have hb7 : Below w6.heap.size w6 w7 := by rw [hw7]; exact (Below.refl _ _).alloc (Nat.le_refl _) _
                    have hM7 : w7.heap[M]? = some (.cells #[.int .i64 P.1.node, .bool P.1.out, .int .i64 P.1.port, .int .u64 P.1.epoch, .slice la P.1.loops.length lc, .slice ra P.1.rows.length rc, .slice ea P.1.errs.length ec] 31 (0, 0)) := by rw [hw7, eM]; exact heap_alloc_new _ _
                    have HS7 := Lib.hid (HS6.out.below hb7)
                    have Hb7 := Lib.hid hb7
                    have HM7 := Lib.hid hM7
                    have EM := Lib.hid eM
                    have hPR : takeP C.n s.QR g.A g.B = P := by rw [← HQQ.out]; exact EP.out
                    have hrm : ∀ i k, i < C.n → k < C.n → (s.QR i k).length ≤ C.r := fun i k hi hk => by rw [← HQQ.out]; exact HS5.out.room hi hk
                    have hct := st_rtake_any HS7.out g.A g.B hrm hPR
                    unfold msgAgg at hct
                    rw [← hw7, ← eM]
                    clear hw7 hb7 hM7 eM hPR hrm a1 a2 sA
                    refine hct.mono ?_
                    rintro e w8 ⟨rfl, V', hs8, hb8, ho8⟩
                    have hM8 : w8.heap[M]? = some (.cells #[.int .i64 P.1.node, .bool P.1.out, .int .i64 P.1.port, .int .u64 P.1.epoch, .slice la P.1.loops.length lc, .slice ra P.1.rows.length rc, .slice ea P.1.errs.length ec] 31 (0, 0)) := (HS6.out.newR rfl ho8 (lt_of_heap HM7.out) (by rw [EM.out]; exact Nat.le_refl _)).trans HM7.out
                    have hA8 := HS7.out.keepR ho8 ((Hb7.out.block A (lt_of_heap HA6.out)).trans HA6.out) (by decide) (by decide)
                    have hK8 : ∀ (g : Nat) (cur : Array Value) (t : TypeId), w6.heap[g]? = some (.cells cur t (0, 0)) → (t = 37 ∨ t = 89 ∨ t = 111) → w8.heap[g]? = w6.heap[g]? := fun g cur t hg ht => by
                      have h7 := (Hb7.out.block g (lt_of_heap hg)).trans hg
                      rw [HS7.out.keepR ho8 h7 (by rcases ht with rfl | rfl | rfl <;> decide) (by rcases ht with rfl | rfl | rfl <;> decide), hg]
                    have HM8 := Lib.hid (HM6.out.frame fun g cur t hg ht _ _ => hK8 g cur t hg ht)
                    have HS8 := Lib.hid hs8
                    have HMM8 := Lib.hid hM8
                    have HA8 := Lib.hid hA8
                    have HB8 : Hid (Below w.heap.size w w8) := (HB6.out.trans (Hb7.out.mono HB6.out.size)).trans (by rw [← EC4.out]; exact hb8)
                    have HH8 : Hid (hi' ≤ w8.heap.size) := Nat.le_trans HHI.out (Nat.le_trans Hb7.out.size hb8.size)
                    have HF8 : Hid (Free C { s with σ := σ', QP := P.2.2, V := V', QR := P.2.2 } lo hi') := ⟨HF6.out.1, HF6.out.2⟩
                    clear hct hs8 hM8 hA8 hK8 hb8 ho8
                    have s1 : M < w8.heap.size := lt_of_heap HMM8.out
                    have x0 : w8.cell? ⟨M, 0, none⟩ = some (.int .i64 P.1.node) := cell_of_heap HMM8.out rfl
                    have x1 : w8.cell? ⟨M, 1, none⟩ = some (.bool P.1.out) := cell_of_heap HMM8.out rfl
                    have x2 : w8.cell? ⟨M, 2, none⟩ = some (.int .i64 P.1.port) := cell_of_heap HMM8.out rfl
                    have x3 : w8.cell? ⟨M, 3, none⟩ = some (.int .u64 P.1.epoch) := cell_of_heap HMM8.out rfl
                    have x4 : w8.cell? ⟨M, 4, none⟩ = some (.slice la P.1.loops.length lc) := cell_of_heap HMM8.out rfl
                    have x5 : w8.cell? ⟨M, 5, none⟩ = some (.slice ra P.1.rows.length rc) := cell_of_heap HMM8.out rfl
                    have x6 : w8.cell? ⟨M, 6, none⟩ = some (.slice ea P.1.errs.length ec) := cell_of_heap HMM8.out rfl
                    go_wp2_with fail
                    obtain ⟨w9, hw9⟩ : ∃ w9, w9 = w8.alloc (.cells #[.int .i64 P.1.node, .bool P.1.out, .int .i64 P.1.port, .int .u64 P.1.epoch, .slice P.1.la P.1.loops.length P.1.lc, .slice P.1.ra P.1.rows.length P.1.rc, .slice P.1.ea P.1.errs.length P.1.ec] 31) := ⟨_, rfl⟩
                    obtain ⟨M2, eM2⟩ : ∃ M2, M2 = w8.heap.size := ⟨_, rfl⟩
                    have hb9 : Below w8.heap.size w8 w9 := by rw [hw9]; exact (Below.refl _ _).alloc (Nat.le_refl _) _
                    have HR9 : Hid (w9.heap[M2]? = some (.cells #[.int .i64 P.1.node, .bool P.1.out, .int .i64 P.1.port, .int .u64 P.1.epoch, .slice P.1.la P.1.loops.length P.1.lc, .slice P.1.ra P.1.rows.length P.1.rc, .slice P.1.ea P.1.errs.length P.1.ec] 31 (0, 0))) := by rw [hw9, eM2]; exact heap_alloc_new _ _
                    have HS9 := Lib.hid (HS8.out.below hb9)
                    have HM9 := Lib.hid (HM8.out.frame fun g cur t hg _ _ _ => hb9.block g (lt_of_heap hg))
                    have HMM9 : Hid (w9.heap[M]? = some (.cells #[.int .i64 P.1.node, .bool P.1.out, .int .i64 P.1.port, .int .u64 P.1.epoch, .slice la P.1.loops.length lc, .slice ra P.1.rows.length rc, .slice ea P.1.errs.length ec] 31 (0, 0))) := (hb9.block M (lt_of_heap HMM8.out)).trans HMM8.out
                    have HA9 : Hid (w9.heap[A]? = some (.cells #[.bool true, .int .i64 g.A, .int .i64 g.B, .int .i64 g.m.node, .bool g.m.out, .int .i64 g.m.port, .int .u64 g.m.epoch, .slice g.m.la g.m.loops.length g.m.lc, .slice g.m.ra g.m.rows.length g.m.rc, .slice g.m.ea g.m.errs.length g.m.ec] 33 (0, 0))) := (hb9.block A (lt_of_heap HA8.out)).trans HA8.out
                    have HB9 : Hid (Below w.heap.size w w9) := HB8.out.trans (hb9.mono HB8.out.size)
                    have HH9 : Hid (hi' ≤ w9.heap.size) := Nat.le_trans HH8.out hb9.size
                    rw [← hw9, ← eM2]
                    clear hw9 eM2 hb9 x0 x1 x2 x3 x4 x5 x6 s1
                    obtain ⟨ia, ib, i1, i2, i3, hml, hmlh, hmr, hme⟩ := HM9.out
                    have HML := Lib.hid hml
                    have HMLH := Lib.hid hmlh
                    have HMR := Lib.hid hmr
                    have HME := Lib.hid hme
                    clear hml hmlh hmr hme
                    have hc9 : s.c ≤ 60000000 := by omega
                    obtain ⟨t1, t2, t3⟩ := (⟨HPT.out.l1, HPT.out.l2, HPT.out.l3⟩ : _ ∧ _ ∧ _)
                    refine (st_upds HS9.out HMR.out (Nat.le_trans HLO.out i1) (Nat.le_trans i3 HH9.out) (HF8.out.sub i1 i3) t2 HPT.out.k2 (by show s.c ≤ _; omega)).mono ?_
                    rintro e w10 ⟨rfl, hs10, ht10⟩
                    have k9 : ∀ (g : Nat) (cur : Array Value) (t : TypeId), w9.heap[g]? = some (.cells cur t (0, 0)) → (t = 37 ∨ t = 89 ∨ t = 111 ∨ t = 31 ∨ t = 33) → w10.heap[g]? = w9.heap[g]? := fun g cur t hg ht => ht10.2 g cur t hg (by rcases ht with rfl | rfl | rfl | rfl | rfl <;> decide)
                    have HF10e : Hid (Free C { s with σ := σ', QP := P.2.2, V := V', QR := P.2.2, U := fun g => s.U g ∨ ia ≤ g ∧ g < ib, c := s.c + 2 * P.1.rows.length + 1 } ib hi') := (HF8.out.sub (by omega) (Nat.le_refl _)).add (fun g hg => hg) (.inr (Nat.le_refl _))
                    have HF10l : Hid (Free C { s with σ := σ', QP := P.2.2, V := V', QR := P.2.2, U := fun g => s.U g ∨ ia ≤ g ∧ g < ib, c := s.c + 2 * P.1.rows.length + 1 } lo ia) := (HF8.out.sub (Nat.le_refl _) (by omega)).add (fun g hg => hg) (.inl (Nat.le_refl _))
                    have HML10 := Lib.hid (ht10.own HML.out (by decide))
                    have HMR10 := Lib.hid (HMR.out.frame fun g cur t hg ht _ _ => k9 g cur t hg (by rcases ht with rfl | rfl | rfl <;> simp))
                    have HME10 := Lib.hid (HME.out.frame fun g cur t hg ht _ _ => k9 g cur t hg (by rcases ht with rfl | rfl | rfl <;> simp))
                    have HMM10 : Hid (w10.heap[M]? = some (.cells #[.int .i64 P.1.node, .bool P.1.out, .int .i64 P.1.port, .int .u64 P.1.epoch, .slice la P.1.loops.length lc, .slice ra P.1.rows.length rc, .slice ea P.1.errs.length ec] 31 (0, 0))) := (k9 _ _ _ HMM9.out (by simp)).trans HMM9.out
                    have HR10 : Hid (w10.heap[M2]? = some (.cells #[.int .i64 P.1.node, .bool P.1.out, .int .i64 P.1.port, .int .u64 P.1.epoch, .slice P.1.la P.1.loops.length P.1.lc, .slice P.1.ra P.1.rows.length P.1.rc, .slice P.1.ea P.1.errs.length P.1.ec] 31 (0, 0))) := (k9 _ _ _ HR9.out (by simp)).trans HR9.out
                    have HA10 : Hid (w10.heap[A]? = some (.cells #[.bool true, .int .i64 g.A, .int .i64 g.B, .int .i64 g.m.node, .bool g.m.out, .int .i64 g.m.port, .int .u64 g.m.epoch, .slice g.m.la g.m.loops.length g.m.lc, .slice g.m.ra g.m.rows.length g.m.rc, .slice g.m.ea g.m.errs.length g.m.ec] 33 (0, 0))) := (k9 _ _ _ HA9.out (by simp)).trans HA9.out
                    have HS10 := Lib.hid hs10
                    have HB10 : Hid (Below w.heap.size w w10) := HB9.out.trans (by rw [← EC4.out]; exact ht10.1)
                    have HH10 : Hid (hi' ≤ w10.heap.size) := Nat.le_trans HH9.out ht10.1.size
                    clear hs10 ht10 k9 HML HMR HME HMM9 HR9 HA9 HS9 HM9
                    have x6 : w10.cell? ⟨M, 6, none⟩ = some (.slice ea P.1.errs.length ec) := cell_of_heap HMM10.out rfl
                    go_wp2_with fail
                    refine (st_upds HS10.out HME10.out (Nat.le_trans HLO.out (Nat.le_trans i1 i2)) HH10.out HF10e.out t3 HPT.out.k3 (by show s.c + 2 * P.1.rows.length + 1 ≤ _; omega)).mono ?_
                    rintro e w11 ⟨rfl, hs11, ht11⟩
                    have k10 : ∀ (g : Nat) (cur : Array Value) (t : TypeId), w10.heap[g]? = some (.cells cur t (0, 0)) → (t = 37 ∨ t = 89 ∨ t = 111 ∨ t = 31 ∨ t = 33) → w11.heap[g]? = w10.heap[g]? := fun g cur t hg ht => ht11.2 g cur t hg (by rcases ht with rfl | rfl | rfl | rfl | rfl <;> decide)
                    have HF11 := Lib.hid (HF10l.out.add (lo := ib) (hi := hi') (c' := s.c + 2 * P.1.rows.length + 1 + 2 * P.1.errs.length + 1) (fun g hg => hg) (.inl i2))
                    have HML11 := Lib.hid (ht11.own HML10.out (by decide))
                    have HMR11 := Lib.hid (HMR10.out.frame fun g cur t hg ht _ _ => k10 g cur t hg (by rcases ht with rfl | rfl | rfl <;> simp))
                    have HME11 := Lib.hid (HME10.out.frame fun g cur t hg ht _ _ => k10 g cur t hg (by rcases ht with rfl | rfl | rfl <;> simp))
                    have HMM11 : Hid (w11.heap[M]? = some (.cells #[.int .i64 P.1.node, .bool P.1.out, .int .i64 P.1.port, .int .u64 P.1.epoch, .slice la P.1.loops.length lc, .slice ra P.1.rows.length rc, .slice ea P.1.errs.length ec] 31 (0, 0))) := (k10 _ _ _ HMM10.out (by simp)).trans HMM10.out
                    have HR11 : Hid (w11.heap[M2]? = some (.cells #[.int .i64 P.1.node, .bool P.1.out, .int .i64 P.1.port, .int .u64 P.1.epoch, .slice P.1.la P.1.loops.length P.1.lc, .slice P.1.ra P.1.rows.length P.1.rc, .slice P.1.ea P.1.errs.length P.1.ec] 31 (0, 0))) := (k10 _ _ _ HR10.out (by simp)).trans HR10.out
                    have HA11 : Hid (w11.heap[A]? = some (.cells #[.bool true, .int .i64 g.A, .int .i64 g.B, .int .i64 g.m.node, .bool g.m.out, .int .i64 g.m.port, .int .u64 g.m.epoch, .slice g.m.la g.m.loops.length g.m.lc, .slice g.m.ra g.m.rows.length g.m.rc, .slice g.m.ea g.m.errs.length g.m.ec] 33 (0, 0))) := (k10 _ _ _ HA10.out (by simp)).trans HA10.out
                    have HS11 := Lib.hid hs11
                    have HB11 : Hid (Below w.heap.size w w11) := HB10.out.trans (by rw [← EC4.out]; exact ht11.1)
                    have HH11 : Hid (hi' ≤ w11.heap.size) := Nat.le_trans HH10.out ht11.1.size
                    clear hs11 ht11 k10 x6 HML10 HMR10 HME10 HMM10 HR10 HA10 HS10
                    have x4 : w11.cell? ⟨M, 4, none⟩ = some (.slice la P.1.loops.length lc) := cell_of_heap HMM11.out rfl
                    go_wp2_with fail
                    refine (st_words HS11.out HML11.out HMLH.out HLO.out (by have := HH11.out; omega) HF11.out t1 (by show s.c + 2 * P.1.rows.length + 1 + 2 * P.1.errs.length + 1 ≤ _; omega)).mono ?_
                    rintro e w12 ⟨rfl, hs12, ht12⟩
                    have k11 : ∀ (g : Nat) (cur : Array Value) (t : TypeId), w11.heap[g]? = some (.cells cur t (0, 0)) → (t = 37 ∨ t = 89 ∨ t = 111 ∨ t = 31 ∨ t = 33) → w12.heap[g]? = w11.heap[g]? := fun g cur t hg ht => ht12.2 g cur t hg (by rcases ht with rfl | rfl | rfl | rfl | rfl <;> decide)
                    have hI12 : MsgIs w12 lo P.1.raw (.slice la P.1.loops.length lc) (.slice ra P.1.rows.length rc) (.slice ea P.1.errs.length ec) := by
                      refine MsgIs.frame (w := w11) ⟨HML11.out, HMR11.out.is.lower i1, HME11.out.is.lower (Nat.le_trans i1 i2)⟩ fun g cur t hg ht => k11 g cur t hg (by rcases ht with rfl | rfl | rfl <;> simp)
                    have HB12 : Hid (Below w.heap.size w w12) := HB11.out.trans (by rw [← EC4.out]; exact ht12.1)
                    have hct := st_same hI12 (HPT.out.below HB12.out)
                    unfold msgAgg at hct
                    have HCT := Lib.hid hct
                    have hM12 := (k11 _ _ _ HMM11.out (by simp)).trans HMM11.out
                    have hR12 := (k11 _ _ _ HR11.out (by simp)).trans HR11.out
                    have HA12 : Hid (w12.heap[A]? = some (.cells #[.bool true, .int .i64 g.A, .int .i64 g.B, .int .i64 g.m.node, .bool g.m.out, .int .i64 g.m.port, .int .u64 g.m.epoch, .slice g.m.la g.m.loops.length g.m.lc, .slice g.m.ra g.m.rows.length g.m.rc, .slice g.m.ea g.m.errs.length g.m.ec] 33 (0, 0))) := (k11 _ _ _ HA11.out (by simp)).trans HA11.out
                    have HS12 := Lib.hid hs12
                    have x0 : w12.cell? ⟨M, 0, none⟩ = some (.int .i64 P.1.node) := cell_of_heap hM12 rfl
                    have x1 : w12.cell? ⟨M, 1, none⟩ = some (.bool P.1.out) := cell_of_heap hM12 rfl
                    have x2 : w12.cell? ⟨M, 2, none⟩ = some (.int .i64 P.1.port) := cell_of_heap hM12 rfl
                    have x3 : w12.cell? ⟨M, 3, none⟩ = some (.int .u64 P.1.epoch) := cell_of_heap hM12 rfl
                    have x4 : w12.cell? ⟨M, 4, none⟩ = some (.slice la P.1.loops.length lc) := cell_of_heap hM12 rfl
                    have x5 : w12.cell? ⟨M, 5, none⟩ = some (.slice ra P.1.rows.length rc) := cell_of_heap hM12 rfl
                    have x6 : w12.cell? ⟨M, 6, none⟩ = some (.slice ea P.1.errs.length ec) := cell_of_heap hM12 rfl
                    have y0 : w12.cell? ⟨M2, 0, none⟩ = some (.int .i64 P.1.node) := cell_of_heap hR12 rfl
                    have y1 : w12.cell? ⟨M2, 1, none⟩ = some (.bool P.1.out) := cell_of_heap hR12 rfl
                    have y2 : w12.cell? ⟨M2, 2, none⟩ = some (.int .i64 P.1.port) := cell_of_heap hR12 rfl
                    have y3 : w12.cell? ⟨M2, 3, none⟩ = some (.int .u64 P.1.epoch) := cell_of_heap hR12 rfl
                    have y4 : w12.cell? ⟨M2, 4, none⟩ = some (.slice P.1.la P.1.loops.length P.1.lc) := cell_of_heap hR12 rfl
                    have y5 : w12.cell? ⟨M2, 5, none⟩ = some (.slice P.1.ra P.1.rows.length P.1.rc) := cell_of_heap hR12 rfl
                    have y6 : w12.cell? ⟨M2, 6, none⟩ = some (.slice P.1.ea P.1.errs.length P.1.ec) := cell_of_heap hR12 rfl
                    clear hct hs12 ht12 k11 hI12 hM12 hR12 HML11 HMR11 HME11 HMM11 HR11 HA11 HS11
                    go_wp2_with fail
                    refine HCT.out.mono ?_
                    rintro e w13 ⟨rfl, hb13⟩
                    have HS13 := Lib.hid (HS12.out.below hb13)
                    have HB13 : Hid (Below w.heap.size w w13) := HB12.out.trans (hb13.mono HB12.out.size)
                    have HA13 : Hid (w13.heap[A]? = some (.cells #[.bool true, .int .i64 g.A, .int .i64 g.B, .int .i64 g.m.node, .bool g.m.out, .int .i64 g.m.port, .int .u64 g.m.epoch, .slice g.m.la g.m.loops.length g.m.lc, .slice g.m.ra g.m.rows.length g.m.rc, .slice g.m.ea g.m.errs.length g.m.ec] 33 (0, 0))) := (hb13.block A (lt_of_heap HA12.out)).trans HA12.out
                    clear hb13 HCT x0 x1 x2 x3 x4 x5 x6 y0 y1 y2 y3 y4 y5 y6
                    go_wp2
                    go_meet
                    refine ⟨_, HS13.out, rfl, ?_, HB13.out, by rw [htk]; exact HA13.out⟩
                    show s.c + 2 * P.1.rows.length + 1 + 2 * P.1.errs.length + 1 + 1 ≤ (i + 1) * 20000
                    omega
              case rest => as_aux_lemma =>
                  obtain ⟨s', hs', hqq', hc', hbc, hA⟩ := hcut
                  have HS1 := Lib.hid hs'
                  have HQ1 := Lib.hid hqq'
                  have HBC := Lib.hid hbc
                  have HA1 := Lib.hid hA
                  clear hs' hqq' hbc hA HS5 HB5 HA5
                  go_wp2_with fail
                  refine (st_ready HS1.out).mono ?_
                  rintro e w6 ⟨v, rfl, ho6, hs6, hb6⟩
                  obtain ⟨xa, xc, rfl⟩ := ownsRow_slice ho6
                  have HO6 := Lib.hid ho6
                  have HS6 := Lib.hid hs6
                  have HB6 : Hid (Below w.heap.size w w6) := HBC.out.trans (hb6.mono HBC.out.size)
                  have HA6 := Lib.hid ((hb6.block A (lt_of_heap HA1.out)).trans HA1.out)
                  have hll : (idxOf C.n s'.QP).length ≤ 64 := idxOf_len _ _ HS6.out.nn.2.1
                  obtain ⟨nn, enn⟩ : ∃ nn, nn = (idxOf C.n s'.QP).length := ⟨_, rfl⟩
                  rw [← enn] at hll ⊢
                  have ENN := Lib.hid enn
                  clear enn
                  have hct := st_rready HS6.out
                  rw [← HQ1.out] at hct
                  have HCT := Lib.hid hct
                  clear ho6 hs6 hb6 hct HS1 HA1 HBC
                  go_wp2_with fail
                  refine HCT.out.mono ?_
                  rintro e w7 ⟨v, rfl, hp7, hs7, hb7⟩
                  obtain ⟨ya, yc, rfl⟩ := hp7.slice
                  rw [← ENN.out]
                  have HO7 := Lib.hid (Below.ownsRow' hb7 HO6.out)
                  have HP7 := Lib.hid hp7
                  have HS7 := Lib.hid hs7
                  have HB7 : Hid (Below w.heap.size w w7) := HB6.out.trans (hb7.mono HB6.out.size)
                  have HA7 := Lib.hid ((hb7.block A (lt_of_heap HA6.out)).trans HA6.out)
                  have hA7 := HA7.out
                  have a1 : w7.cell? ⟨A, 1, none⟩ = some (.int .i64 g.A) := cell_of_heap hA7 rfl
                  have a2 : w7.cell? ⟨A, 2, none⟩ = some (.int .i64 g.B) := cell_of_heap hA7 rfl
                  obtain ⟨lv, elv⟩ : ∃ lv, lv = lenAt C.n s'.QP g.A g.B := ⟨_, rfl⟩
                  have ELV := Lib.hid elv
                  have hlv : ∀ (W : World), St C (fun m => m.there w) W s' → Calls Try.prog 24 #[.pointer (some ⟨C.PB, 0, none⟩), .int .i64 g.A, .int .i64 g.B] W fun e w' => e = .returned (.int .i64 lv) ∧ St C (fun m => m.there w) w' s' ∧ Below W.heap.size W w' := fun W hW => by rw [elv]; exact st_len hW g.A g.B
                  have hrv : ∀ (W : World), St C (fun m => m.there w) W s' → Calls Try.prog 25 #[.pointer (some ⟨C.RB, 0, none⟩), .int .i64 g.A, .int .i64 g.B] W fun e w' => e = .returned (.int .i64 lv) ∧ St C (fun m => m.there w) w' s' ∧ Below W.heap.size W w' := fun W hW => by rw [elv, HQ1.out]; exact st_rlen hW g.A g.B
                  have HLV := Lib.hid hlv
                  have HRV := Lib.hid hrv
                  clear hp7 hs7 hb7 HO6 HS6 HB6 HA6 HCT hA7 elv hlv hrv
                  go_wp2_with fail
                  go_region_held3 (fun w' => w'.cell? ⟨A, 1, none⟩ = some (.int .i64 g.A) ∧ w'.cell? ⟨A, 2, none⟩ = some (.int .i64 g.B))
                    (first | with_reducible exact HT9.out | with_reducible exact HT8.out | exact ⟨a1, a2⟩)
                    (first | (go_at_call 24; refine (HLV.out _ ?_).mono ?_; (first | with_reducible exact HS7.out.below (bl_d1 _) | with_reducible exact HS7.out.below (drew_below' _ _) | with_reducible exact HS7.out); rintro e w8 ⟨rfl, hs8, hb8⟩; have HS8 := Lib.hid hs8; have HB8 : Hid (Below w7.heap.size w7 w8) := ⟨hb8.os, hb8.tape, hb8.output, hb8.size, hb8.block⟩; have HT8 := Lib.hid (And.intro (cell_keep HB8.out a1) (cell_keep HB8.out a2)); clear hs8 hb8) | (go_at_call 25; refine (HRV.out _ ?_).mono ?_; (first | with_reducible exact HS8.out | with_reducible exact HS8.out.below (bl_d1 _) | with_reducible exact HS8.out.below (drew_below' _ _)); rintro e w9 ⟨rfl, hs9, hb9⟩; have HS9 := Lib.hid hs9; have HB9 : Hid (Below w7.heap.size w7 w9) := HB8.out.trans (hb9.mono HB8.out.size); have HT9 := Lib.hid (And.intro (cell_keep HB9.out a1) (cell_keep HB9.out a2)); clear hs9 hb9))
                  have HB9w : Hid (Below w.heap.size w w9) := HB7.out.trans (HB9.out.mono HB7.out.size)
                  have HO9 := Lib.hid (Below.ownsRow' HB9.out HO7.out)
                  have HP9 := Lib.hid (HP7.out.below HB9.out)
                  clear HS7 HB7 HA7 HLV HRV HT8 HT9 HB8 HS8 HB9 HO7 HP7 a1 a2
                  go_wp2_with fail
                  go_loopg [27] nn (fun gg s27 wi => ∃ j : Nat, j ≤ nn ∧ gg = nn - j ∧ s27 = .int .i64 j ∧ Below w9.heap.size w9 wi)
                  case atStart => exact ⟨0, Nat.zero_le _, by omega, rfl, Below.refl _ _⟩
                  case round =>
                    obtain ⟨j, hj, rfl, rfl, hbi⟩ := hrel
                    by_cases hjl : j < nn
                    · obtain ⟨x, b1, b2, b3, p1, p2, rfl, rfl, q0, q1, q2, q3, q4⟩ := pairs_read HO9.out HP9.out (by rw [← ENN.out]; exact hjl)
                      clear p1 p2
                      have q0 := cell_keep hbi q0
                      have q1 := cell_keep hbi q1
                      have q2 := cell_keep hbi q2
                      have q3 := cell_keep hbi q3
                      have q4 := cell_keep hbi q4
                      have HBI := Lib.hid hbi
                      clear hbi
                      go_wp2_with fail
                      go_quiet (fail)
                      go_wp2_with fail
                      go_roundg (nn - (j + 1))
                      case measure => omega
                      case rel => exact ⟨j + 1, by omega, rfl, by go_num, below_drewN HBI.out _⟩
                    · obtain rfl : j = nn := by omega
                      have HBI := Lib.hid hbi
                      clear hbi
                      go_wp2
                      go_roundg (k - (i + 1))
                      case measure => omega
                      case rel => exact ⟨i + 1, s', by omega, rfl, by go_num, HS9.out.below HBI.out, HQ1.out, by omega, HB9w.out.trans (HBI.out.mono HB9w.out.size)⟩
            · have HS := Lib.hid hst
              have HBI := Lib.hid hbi
              obtain rfl : i = k := by omega
              clear hst hqq hbi
              go_wp2_with fail
              refine (st_own HS.out).mono ?_
              rintro e wz ⟨rfl, hbz⟩
              have HBZ : Hid (Below w.heap.size w wz) := HBI.out.trans (by rw [← EC4.out]; exact hbz)
              clear hbz
              go_wp2
              go_ret
              exact ⟨rfl, HBZ.out⟩
        · refine (new_bad a0 a1 _ (by omega)).mono ?_
          rintro e w1 ⟨rfl, rfl⟩
          go_wp2_with fail
          refine (rnew_bad a0 a1 _ (by omega)).mono ?_
          rintro e w1 ⟨rfl, rfl⟩
          go_wp2_with fail
          refine (known_any _).mono ?_
          rintro e w2 ⟨rfl, hb2⟩
          have HB2 : Hid (Below w.heap.size w w2) := HBW.out.trans (hb2.mono HBW.out.size)
          clear hb2
          go_wp2
          go_ret
          exact ⟨rfl, HB2.out⟩
      · have HBW := Lib.hid hbw
        clear hlit hbw
        go_wp2
        go_ret
        exact ⟨rfl, HBW.out⟩
end Go.Proofs.Ytpoilgeffpedoaa
