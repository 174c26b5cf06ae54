/- LexAfter's walk. -/
import Derived.Test.YtpjfkfbijimliaaDoorZp
import Derived.Test.YtpjfkfbijimliaaDoorZi
import Derived.Test.YtpjfkfbijimliaaDoorZb
namespace Go.Proofs.YtpjfkfbijimliaaDoor
open Go.RowKit Go.Pen

theorem res_code {l : Bytes} : (lexed l).code = 0 ↔ ∃ ts, lexed l = .ok ts := by
  cases h : lexed l with
  | ok ts => exact ⟨fun _ => ⟨ts, rfl⟩, fun _ => rfl⟩
  | err a e =>
    have := (lexed_err h).2.2
    exact ⟨fun h => by simp [Res.code] at h; omega, fun ⟨ts, h⟩ => by cases h⟩

theorem cat_list (a b : ByteArray) : (a ++ ⟨#[32]⟩ ++ b).data.toList = a.data.toList ++ 32 :: b.data.toList := by
  simp [ByteArray.data_append]

/-- the cells of one token of a row -/
structure TokCells (w : World) (g k : Nat) (t : Tok) : Prop where
  lt : g < w.heap.size
  e0 : w.cell? ⟨g, k * 4, none⟩ = some (.int .u8 t.kind)
  e1 : w.cell? ⟨g, k * 4 + 1, none⟩ = some (.string ⟨t.text.toArray⟩)
  e2 : w.cell? ⟨g, k * 4 + 2, none⟩ = some (.int .i64 t.number)
  e3 : w.cell? ⟨g, k * 4 + 3, none⟩ = some (.int .i64 t.at_)

theorem tokCells_mk {w3 wr : World} {g k : Nat} {t : Tok} {xs : List Value} (hb : Below w3.heap.size w3 wr) (hc : ∀ (j : Nat) u, xs[j]? = some u → w3.cell? ⟨g, j, none⟩ = some u) (hg : g < w3.heap.size)
    (a0 : xs[k * 4]? = some (.int .u8 t.kind)) (a1 : xs[k * 4 + 1]? = some (.string ⟨t.text.toArray⟩)) (a2 : xs[k * 4 + 2]? = some (.int .i64 t.number)) (a3 : xs[k * 4 + 3]? = some (.int .i64 t.at_)) : TokCells wr g k t :=
  ⟨Nat.lt_of_lt_of_le hg hb.size, (hb.cell (p := ⟨g, k * 4, none⟩) hg).trans (hc _ _ a0), (hb.cell (p := ⟨g, k * 4 + 1, none⟩) hg).trans (hc _ _ a1), (hb.cell (p := ⟨g, k * 4 + 2, none⟩) hg).trans (hc _ _ a2), (hb.cell (p := ⟨g, k * 4 + 3, none⟩) hg).trans (hc _ _ a3)⟩

theorem TokCells.below {w w' : World} {g k : Nat} {t : Tok} (h : TokCells w g k t) (hb : Below w.heap.size w w') :
    w'.cell? ⟨g, k * 4, none⟩ = some (.int .u8 t.kind) ∧ w'.cell? ⟨g, k * 4 + 1, none⟩ = some (.string ⟨t.text.toArray⟩) ∧ w'.cell? ⟨g, k * 4 + 2, none⟩ = some (.int .i64 t.number) ∧ w'.cell? ⟨g, k * 4 + 3, none⟩ = some (.int .i64 t.at_) :=
  ⟨(hb.cell (p := ⟨g, k * 4, none⟩) h.lt).trans h.e0, (hb.cell (p := ⟨g, k * 4 + 1, none⟩) h.lt).trans h.e1, (hb.cell (p := ⟨g, k * 4 + 2, none⟩) h.lt).trans h.e2, (hb.cell (p := ⟨g, k * 4 + 3, none⟩) h.lt).trans h.e3⟩

set_option maxRecDepth 100000 in
set_option maxHeartbeats 8000000 in
theorem after_5 (a b : ByteArray) (w : World) (hg : Glob w) (h10 : 10 ≤ w.heap.size) :
    Calls Tryd.prog 5 #[.string a, .string b] w fun e w' => e = .returned (.bool true) ∧ Below w.heap.size w w' := by
  obtain ⟨A, hA⟩ : ∃ A, lexed a.data.toList = A := ⟨_, rfl⟩
  obtain ⟨B, hB⟩ : ∃ B, lexed b.data.toList = B := ⟨_, rfl⟩
  have hla := lex_any a w hg h10
  have hlb := fun u hu h => lex_any b u hu h
  rw [hA] at hla
  rw [hB] at hlb
  have HLA := Lib.hid hla
  have HLB := Lib.hid hlb
  have HG := Lib.hid hg
  have HA := Lib.hid hA
  have HB := Lib.hid hB
  clear hla hlb hg hA hB
  go_enter Tryd.func5, Tryd.ntmps5
  go_wp2_with fail
  refine HLA.out.mono ?_
  rintro _ w1 ⟨va, rfl, hoa, hb1⟩
  obtain ⟨aa, ac, rfl⟩ := ownsRow_slice hoa
  have HOA := Lib.hid hoa
  have HB1 := Lib.hid hb1
  clear hoa hb1
  go_wp2_with fail
  refine (HLB.out w1 (HG.out.below HB1.out h10) (by have := HB1.out.size; omega)).mono ?_
  rintro _ w2 ⟨vb, rfl, hob, hb2⟩
  obtain ⟨ba, bc, rfl⟩ := ownsRow_slice hob
  have HOB := Lib.hid hob
  have HB2 := Lib.hid (HB1.out.trans (hb2.mono HB1.out.size))
  have HOA2 := Lib.hid (Below.ownsRow' hb2 HOA.out)
  have h12 : 10 ≤ w2.heap.size := by have := HB2.out.size; omega
  have hkn := fun u (hu : Below w.heap.size w u) => known_13 u (HG.out.below hu h10) (by have := hu.size; omega)
  have HKN := Lib.hid hkn
  clear hob hb2 hkn
  by_cases hca : A.code = 0
  · obtain ⟨l, hl⟩ := res_code.1 (by rw [HA.out]; exact hca)
    rw [HA.out] at hl
    subst hl
    have has : a.size ≤ 16384 := by have := (lexed_ok HA.out).1; rwa [len_list] at this
    clear hca
    go_wp2_with fail
    refine (remark_17 a w2 has).mono ?_
    rintro _ w2' ⟨rm, rfl, hrm, hw2⟩
    rw [hw2]
    clear hw2
    cases rm with
    | true =>
      go_wp2_with fail
      refine (HKN.out _ HB2.out).mono ?_
      rintro _ w3 ⟨rfl, hb3⟩
      have HB3 := Lib.hid (HB2.out.trans (hb3.mono HB2.out.size))
      clear hb3
      go_wp2_with fail
      go_ret
      exact ⟨rfl, HB3.out⟩
    | false =>
      have HNR := Lib.hid (hrm rfl)
      clear hrm
      by_cases ha8 : 8000 < a.size
      · have hd : decide ((8000 : Int) < (a.size : Int)) = true := by simp; omega
        go_wp2_with fail
        refine (HKN.out _ HB2.out).mono ?_
        rintro _ w3 ⟨rfl, hb3⟩
        have HB3 := Lib.hid (HB2.out.trans (hb3.mono HB2.out.size))
        clear hb3
        go_wp2_with fail
        go_ret
        exact ⟨rfl, HB3.out⟩
      · have hd : decide ((8000 : Int) < (a.size : Int)) = false := by simp; omega
        by_cases hb8 : 8000 < b.size
        · have hd2 : decide ((8000 : Int) < (b.size : Int)) = true := by simp; omega
          go_wp2_with fail
          refine (HKN.out _ HB2.out).mono ?_
          rintro _ w3 ⟨rfl, hb3⟩
          have HB3 := Lib.hid (HB2.out.trans (hb3.mono HB2.out.size))
          clear hb3
          go_wp2_with fail
          go_ret
          exact ⟨rfl, HB3.out⟩
        · have hd2 : decide ((8000 : Int) < (b.size : Int)) = false := by simp; omega
          obtain ⟨n, hn⟩ : ∃ n, (Res.ok l).toks.length = n := ⟨_, rfl⟩
          obtain ⟨m, hm⟩ : ∃ m, B.toks.length = m := ⟨_, rfl⟩
          have hn4 : n ≤ 4000 := by have := toks_count a.data.toList; rw [HA.out] at this; omega
          have hm4 : m ≤ 4000 := by have := toks_count b.data.toList; rw [HB.out] at this; omega
          rw [hn] at HOA HOA2 ⊢
          rw [hm] at HOB ⊢
          have HN := Lib.hid hn
          have HM := Lib.hid hm
          clear hn hm
          by_cases hnm : 4000 < n + m
          · have hd3 : decide ((4000 : Int) < (n : Int) + (m : Int)) = true := by simp; omega
            go_wp2_with fail
            refine (HKN.out _ HB2.out).mono ?_
            rintro _ w3 ⟨rfl, hb3⟩
            have HB3 := Lib.hid (HB2.out.trans (hb3.mono HB2.out.size))
            clear hb3
            go_wp2_with fail
            go_ret
            exact ⟨rfl, HB3.out⟩
          · have hd3 : decide ((4000 : Int) < (n : Int) + (m : Int)) = false := by simp; omega
            have hcl := cat_list a b
            obtain ⟨C, hC⟩ : ∃ C, lexed (a ++ ⟨#[32]⟩ ++ b).data.toList = C := ⟨_, rfl⟩
            have hlc := lex_any (a ++ ⟨#[32]⟩ ++ b) w2 (HG.out.below HB2.out h10) h12
            rw [hC] at hlc
            rw [hcl] at hC
            have HLC := Lib.hid hlc
            have HC := Lib.hid hC
            clear hcl hlc hC
            go_wp2_with fail
            generalize a ++ ⟨#[32]⟩ ++ b = cc at HLC ⊢
            refine HLC.out.mono ?_
            rintro _ w3 ⟨vc, rfl, hoc, hb3⟩
            obtain ⟨ca, cc2, rfl⟩ := ownsRow_slice hoc
            have HOC := Lib.hid hoc
            have HB3 := Lib.hid (HB2.out.trans (hb3.mono HB2.out.size))
            have HOA3 := Lib.hid (Below.ownsRow' hb3 HOA2.out)
            have HOB3 := Lib.hid (Below.ownsRow' hb3 HOB.out)
            clear hoc hb3 HLA HLB HLC HOA HOA2 HOB
            by_cases hcb : B.code = 0
            · obtain ⟨mm, hmm⟩ := res_code.1 (by rw [HB.out]; exact hcb)
              rw [HB.out] at hmm
              subst hmm
              have hC := after_ok HA.out HB.out HNR.out (by rw [len_list]; omega) (by rw [len_list]; omega) (by have := HN.out; have := HM.out; simp only [Res.toks] at *; omega)
              rw [HC.out, len_list] at hC
              subst hC
              clear hcb
              simp only [Res.toks, Res.place, Res.code, Int.natCast_zero] at HOC HOA3 HOB3 HN HM ⊢
              have hL : (l ++ mm.map (Tok.by (a.size + 1))).length = n + m := by rw [List.length_append, List.length_map, HN.out, HM.out]
              rw [hL] at HOC ⊢
              clear hL
              have hq : (((n + m : Nat) : Int) != (n : Int) + (m : Int)) = false := by simp
              go_wp2_with fail
              go_loopw [15] (fun i wr => ∃ k : Nat, k ≤ n + m ∧ i = .int .i64 k ∧ Below w3.heap.size w3 wr) (fun i _ => (n + m) - (intOf i).toNat)
              case atStart => exact ⟨0, Nat.zero_le _, rfl, Below.refl _ _⟩
              case round =>
                clear hq
                obtain ⟨k, hk, rfl, hbr⟩ := hrel
                have HBR := Lib.hid hbr
                clear hbr
                rcases Nat.lt_or_ge k (n + m) with hlt | hge
                · have hd4 : decide ((k : Int) < ((n + m : Nat) : Int)) = true := by simp; omega
                  rcases Nat.lt_or_ge k n with hkn | hkn
                  · have hd5 : decide ((k : Int) < (n : Int)) = true := by simp; omega
                    obtain ⟨t, ht⟩ : ∃ t, l[k]? = some t := ⟨_, List.getElem?_eq_getElem (by have := HN.out; omega)⟩
                    have htc : (l ++ mm.map (Tok.by (a.size + 1)))[k]? = some t := by rw [List.getElem?_append_left (by have := HN.out; omega)]; exact ht
                    obtain ⟨ga, ca', hva⟩ := ownsRow_some HOA3.out (by omega)
                    cases hva
                    obtain ⟨hga, -, -, hac⟩ := ownsRow_heap HOA3.out
                    obtain ⟨a0, a1, a2, a3⟩ := toksc_at l k t ht
                    obtain ⟨gc, cc', hvc⟩ := ownsRow_some HOC.out (by omega)
                    cases hvc
                    obtain ⟨hgc, -, -, hcc⟩ := ownsRow_heap HOC.out
                    obtain ⟨e0, e1, e2, e3⟩ := toksc_at _ k t htc
                    have tc := tokCells_mk HBR.out hac hga (k := k) a0 a1 a2 a3
                    have tcc := tokCells_mk HBR.out hcc hgc (k := k) e0 e1 e2 e3
                    have TCC := Lib.hid tcc
                    obtain ⟨q, hq⟩ : ∃ q, wr.heap.size = q := ⟨_, rfl⟩
                    have HQ := Lib.hid hq
                    obtain ⟨w4, hw4⟩ : ∃ w4, wr.alloc (.cells #[.int .u8 0, .string ⟨#[]⟩, .int .i64 0, .int .i64 0] 37) = w4 := ⟨_, rfl⟩
                    have hb4 : Below wr.heap.size wr w4 := by rw [← hw4]; exact (Below.refl _ _).alloc (Nat.le_refl _) _
                    have hq4 : w4.heap[q]? = some (.cells #[.int .u8 0, .string ⟨#[]⟩, .int .i64 0, .int .i64 0] 37 (0, 0)) := by rw [← hw4, ← hq]; exact heap_alloc_new _ _
                    obtain ⟨c0, c1, c2, c3⟩ := tc.below hb4
                    have f0 : w4.frozen? ⟨q, 0, none⟩ = false := frozen_of_heap hq4
                    have f1 : w4.frozen? ⟨q, 1, none⟩ = false := frozen_of_heap hq4
                    have f2 : w4.frozen? ⟨q, 2, none⟩ = false := frozen_of_heap hq4
                    have f3 : w4.frozen? ⟨q, 3, none⟩ = false := frozen_of_heap hq4
                    have HB4 := Lib.hid hb4
                    have HQ4 := Lib.hid hq4
                    subst hw4
                    subst hq
                    clear hac hcc a0 a1 a2 a3 e0 e1 e2 e3 ht htc tc tcc hb4 hq4
                    go_wp2_with fail
                    clear c0 c1 c2 c3 f0 f1 f2 f3 HB4 HQ4
                    generalize hw5 : World.alloc _ _ = w5
                    obtain ⟨q, hq⟩ : ∃ q, wr.heap.size = q := ⟨_, rfl⟩
                    have htk := tokCopy_mk hq hw5
                    rw [hq]
                    obtain ⟨tb, t0, t1, t2, t3, tq⟩ := htk
                    have HTB := Lib.hid tb
                    obtain ⟨c0, c1, c2, c3⟩ := TCC.out.below tb
                    clear hw5 hq tb
                    go_quiet (fail)
                    go_wp2_with fail
                    exact ⟨⟨k + 1, hlt, by simp, HBR.out.trans ((Go.Pen.below_drewN HTB.out).mono HBR.out.size)⟩, by simp [intOf]; omega⟩
                  · have hd5 : decide ((k : Int) < (n : Int)) = false := by simp; omega
                    have hkm : (k : Int) - (n : Int) = ((k - n : Nat) : Int) := by omega
                    obtain ⟨j, hj⟩ : ∃ j, k - n = j := ⟨_, rfl⟩
                    have hjm : j < m := by omega
                    rw [hj] at hkm
                    have HJ := Lib.hid hj
                    obtain ⟨t, ht⟩ : ∃ t, mm[j]? = some t := ⟨_, List.getElem?_eq_getElem (by have := HM.out; omega)⟩
                    have htc : (l ++ mm.map (Tok.by (a.size + 1)))[k]? = some (t.by (a.size + 1)) := by
                      rw [List.getElem?_append_right (by have := HN.out; omega), HN.out, hj, List.getElem?_map, ht]; rfl
                    have hat : t.at_ < b.size := by have := ((lexed_ok HB.out).2.1 t (List.mem_of_getElem? ht)).1; rwa [len_list] at this
                    obtain ⟨gb, cb', hvb⟩ := ownsRow_some HOB3.out (by omega)
                    cases hvb
                    obtain ⟨hgb, -, -, hbc⟩ := ownsRow_heap HOB3.out
                    obtain ⟨a0, a1, a2, a3⟩ := toksc_at mm j t ht
                    obtain ⟨gc, cc', hvc⟩ := ownsRow_some HOC.out (by omega)
                    cases hvc
                    obtain ⟨hgc, -, -, hcc⟩ := ownsRow_heap HOC.out
                    obtain ⟨e0, e1, e2, e3⟩ := toksc_at _ k _ htc
                    have tc := tokCells_mk HBR.out hbc hgb (k := j) a0 a1 a2 a3
                    have tcc := tokCells_mk HBR.out hcc hgc (k := k) e0 e1 e2 e3
                    have TCC := Lib.hid tcc
                    obtain ⟨q, hq⟩ : ∃ q, wr.heap.size = q := ⟨_, rfl⟩
                    obtain ⟨w4, hw4⟩ : ∃ w4, wr.alloc (.cells #[.int .u8 0, .string ⟨#[]⟩, .int .i64 0, .int .i64 0] 37) = w4 := ⟨_, rfl⟩
                    have hb4 : Below wr.heap.size wr w4 := by rw [← hw4]; exact (Below.refl _ _).alloc (Nat.le_refl _) _
                    have hq4 : w4.heap[q]? = some (.cells #[.int .u8 0, .string ⟨#[]⟩, .int .i64 0, .int .i64 0] 37 (0, 0)) := by rw [← hw4, ← hq]; exact heap_alloc_new _ _
                    obtain ⟨c0, c1, c2, c3⟩ := tc.below hb4
                    have f0 : w4.frozen? ⟨q, 0, none⟩ = false := frozen_of_heap hq4
                    have f1 : w4.frozen? ⟨q, 1, none⟩ = false := frozen_of_heap hq4
                    have f2 : w4.frozen? ⟨q, 2, none⟩ = false := frozen_of_heap hq4
                    have f3 : w4.frozen? ⟨q, 3, none⟩ = false := frozen_of_heap hq4
                    have HAT := Lib.hid hat
                    have b1 : IntKind.i64.wrap ((t.at_ : Int) + ((a.size : Int) + 1)) = (t.at_ : Int) + ((a.size : Int) + 1) := IntWalk.i64_in _ (by omega)
                    subst hw4
                    subst hq
                    clear hbc hcc a0 a1 a2 a3 e0 e1 e2 e3 ht htc tc tcc hb4 hq4 hj
                    go_wp2_with fail
                    have e1 : (t.at_ : Int) + ((a.size : Int) + 1) = ((t.by (a.size + 1)).at_ : Int) := by simp [Tok.by]; omega
                    rw [e1]
                    clear e1 b1 c0 c1 c2 c3 f0 f1 f2 f3 hkm
                    generalize hw5 : World.alloc _ _ = w5
                    obtain ⟨q, hq⟩ : ∃ q, wr.heap.size = q := ⟨_, rfl⟩
                    have htk := tokCopy_mk hq hw5
                    rw [hq]
                    obtain ⟨tb, t0, t1, t2, t3, tq⟩ := htk
                    have HTB := Lib.hid tb
                    obtain ⟨c0, c1, c2, c3⟩ := TCC.out.below tb
                    clear hw5 hq tb
                    generalize htv : t.by (a.size + 1) = tv at c0 c1 c2 c3 t3
                    have d0 : tv.kind = t.kind := by rw [← htv]; rfl
                    have d1 : tv.text = t.text := by rw [← htv]; rfl
                    have d2 : tv.number = t.number := by rw [← htv]; rfl
                    rw [d0] at c0
                    rw [d1] at c1
                    rw [d2] at c2
                    clear htv d0 d1 d2
                    go_quiet (fail)
                    go_wp2_with fail
                    exact ⟨⟨k + 1, hlt, by simp, HBR.out.trans ((Go.Pen.below_drewN HTB.out).mono HBR.out.size)⟩, by simp [intOf]; omega⟩
                · have hd4 : decide ((k : Int) < ((n + m : Nat) : Int)) = false := by simp; omega
                  have HB4 := Lib.hid (HB3.out.trans (HBR.out.mono HB3.out.size))
                  go_wp2_with fail
                  refine (HKN.out _ HB4.out).mono ?_
                  rintro _ w4 ⟨rfl, hb4⟩
                  have HB5 := Lib.hid (HB4.out.trans (hb4.mono HB4.out.size))
                  clear hb4
                  go_wp2_with fail
                  go_ret
                  exact ⟨rfl, HB5.out⟩
            · have hcb2 : ((B.code : Int) != 0) = true := by simp; omega
              cases B with
              | ok mm => exact absurd rfl hcb
              | err pb eb =>
              have hp : pb < 9223372036854775807 / 2 := by have := (lexed_err HB.out).1; omega
              have hC := after_err HA.out HB.out HNR.out (by rw [len_list]; omega) (by rw [len_list]; omega)
              rw [HC.out, len_list] at hC
              simp only [Res.code] at hcb hcb2
              rcases hC with rfl | ⟨qc, rfl⟩
              · simp only [Res.toks, Res.place, Res.code, Int.natCast_zero] at HOC HOA3 HOB3 HN HM ⊢
                have g1 : ((eb : Int) == (eb : Int)) = true := by simp
                have g2 : (((a.size + 1 + pb : Nat) : Int) == (pb : Int) + ((a.size : Int) + 1)) = true := by simp; omega
                clear hcb
                go_wp2_with fail
                refine (HKN.out _ HB3.out).mono ?_
                rintro _ w4 ⟨rfl, hb4⟩
                have HB4 := Lib.hid (HB3.out.trans (hb4.mono HB3.out.size))
                clear hb4
                go_wp2_with fail
                go_ret
                exact ⟨rfl, HB4.out⟩
              · simp only [Res.toks, Res.place, Res.code, Int.natCast_zero] at HOC HOA3 HOB3 HN HM ⊢
                have hpq : qc ≤ 16384 := (lexed_err HC.out).1
                clear hcb
                go_wp2_with fail
                refine (HKN.out _ HB3.out).mono ?_
                rintro _ w4 ⟨rfl, hb4⟩
                have HB4 := Lib.hid (HB3.out.trans (hb4.mono HB3.out.size))
                clear hb4
                by_cases h1 : eb = 163
                · have g1 : ((163 : Int) == (eb : Int)) = true := by simp; omega
                  by_cases h2 : (qc : Int) = (pb : Int) + ((a.size : Int) + 1)
                  · have g2 : ((qc : Int) == (pb : Int) + ((a.size : Int) + 1)) = true := by simp; omega
                    clear h1 h2
                    go_wp2_with fail
                    go_ret
                    exact ⟨rfl, HB4.out⟩
                  · have g2 : ((qc : Int) == (pb : Int) + ((a.size : Int) + 1)) = false := by simp; omega
                    clear h1 h2
                    go_wp2_with fail
                    go_ret
                    exact ⟨rfl, HB4.out⟩
                · have g1 : ((163 : Int) == (eb : Int)) = false := by simp; omega
                  clear h1
                  go_wp2_with fail
                  go_ret
                  exact ⟨rfl, HB4.out⟩
  · have hne : ((A.code : Int) != 0) = true := by simp; omega
    clear hca
    go_wp2_with fail
    refine (HKN.out _ HB2.out).mono ?_
    rintro _ w3 ⟨rfl, hb3⟩
    have HB3 := Lib.hid (HB2.out.trans (hb3.mono HB2.out.size))
    clear hb3
    go_wp2_with fail
    go_ret
    exact ⟨rfl, HB3.out⟩
end Go.Proofs.YtpjfkfbijimliaaDoor
