/- ownRow 43: lists that are nobody else's. Printed by gen_own4.py out of ownWords' walk. -/
import Derived.Test.YtpoilgeffpedoaaOc
namespace Go.Proofs.Ytpoilgeffpedoaa
open Go.RowKit Go.Pen

/-- a datum that is a mark -/
def datC (x : Int) : List Value := [.int .u8 0, .bool false, .int .i64 x, .string ⟨#[]⟩]
theorem datC_len (x : Int) : (datC x).length = 4 := rfl

theorem info34 : (Try.prog.info? 34).map (fun i => (i.zero, i.size, i.bytes)) = some (some (.slice none 0 0), 1, 24) := by kernel_rfl

set_option maxRecDepth 100000 in
set_option maxHeartbeats 8000000 in
theorem ownRow_43 (n : Nat) (v : Nat → Value) (ln : Nat → Nat) (ob oc : Nat) (w : World) (hn : n ≤ 1000000000) (hl : ∀ i, i < n → ln i ≤ 1000000) (ha : Apart n v)
    (hX : ∀ i, i < n → ∃ xs, w.ownsRow 0 89 4 (v i) (ln i) xs) (hob : ob < w.heap.size) (hout : ∀ i, i < n → w.cell? ⟨ob, i, none⟩ = some (v i)) (hne : ∀ i, i < n → (v i).ownBlock ≠ some ob) :
    Calls Try.prog 43 #[.slice (some ⟨ob, 0, none⟩) n oc] w fun e w' => e = .returned (.bool true) ∧ Only (fun g => ∃ j, j < n ∧ (v j).ownBlock = some g) w w' := by
  have hm0 : Mk4 89 datC n v ln w 0 0 w := by
    have : ∃ X : Nat → List Value, ∀ j, j < n → w.ownsRow 0 89 4 (v j) (ln j) (X j) := by
      refine ⟨fun j => if h : j < n then (hX j h).choose else [], fun j hj => ?_⟩
      simp only [dif_pos hj]
      exact (hX j hj).choose_spec
    obtain ⟨X, hX⟩ := this
    exact ⟨Only.refl _ _, X, hX, fun j q _ _ h => by omega⟩
  -- the outer list stays
  have hst : ∀ wr i, Only (fun g => ∃ j, j < n ∧ (v j).ownBlock = some g) w wr → i < n → wr.cell? ⟨ob, i, none⟩ = some (v i) := fun wr i ho hi =>
    (World.cell?_of_block (ho.block ob hob (fun ⟨j, hj, e⟩ => hne j hj e))).trans (hout i hi)
  obtain ⟨i0, hi, hz0, hz1, hz2⟩ := info_parts info89
  obtain ⟨i6, hj, hy0, hy1, hy2⟩ := info_parts info34
  have HST := Lib.hid hst
  have hvl : ∀ j g, j < n → (v j).ownBlock = some g → g < w.heap.size := fun j g hj hg => by
    obtain ⟨xs, h⟩ := hX j hj
    exact (h.lt g hg).2
  have hvs : ∀ j, j < n → ∃ a c, v j = .slice a (ln j) c := fun j hj => by
    obtain ⟨xs, h⟩ := hX j hj
    exact ownsRow_slice h
  have hvn : ∀ j L a c, j < n → v j = .slice a L c → 0 < L → ∃ g, a = some ⟨g, 0, none⟩ := fun j L a c hj hv h0 => by
    obtain ⟨xs, h⟩ := hX j hj
    rcases h.2 with ⟨h1, -⟩ | ⟨g, cap, cur, h1, -⟩
    · rw [hv] at h1; cases h1; omega
    · rw [hv] at h1; cases h1; exact ⟨g, rfl⟩
  have HVS := Lib.hid hvs
  have HVN := Lib.hid hvn
  have HVL := Lib.hid hvl
  have HA := Lib.hid ha
  have HLN := Lib.hid hl
  clear hX hout hst ha hl hne hvl hvs hvn
  go_enter Try.func43, Try.ntmps43
  go_wp2_with fail
  go_loopw [3] (fun s wr => ∃ i : Nat, i ≤ n ∧ s = .int .i64 i ∧ Mk4 89 datC n v ln w i 0 wr) (fun s _ => n - (intOf s).toNat)
  case atStart => exact ⟨0, Nat.zero_le _, rfl, hm0⟩
  case round =>
    clear hm0
    obtain ⟨i, hile, rfl, hr⟩ := hrel
    rcases Nat.lt_or_ge i n with hlt | hge
    · have hd : decide ((i : Int) < (n : Int)) = true := by simpa using hlt
      obtain ⟨L, hL⟩ : ∃ L, ln i = L := ⟨_, rfl⟩
      obtain ⟨a, c, hvi⟩ : ∃ a c, v i = .slice a L c := by
        obtain ⟨-, X, hX, -⟩ := hr
        rw [← hL]
        exact ownsRow_slice (hX i hlt)
      have hL6 : L ≤ 1000000 := by rw [← hL]; exact HLN.out i hlt
      have HR := Lib.hid hr
      have HVI := Lib.hid hvi
      have HL := Lib.hid hL
      have b1 : (0 : Int) ≤ (i : Int) := by omega
      have b2 : (i : Int) < (n : Int) := by omega
      clear hr hvi hL
      go_wp2_with fail
      go_loopw [4] (fun s wk => ∃ k : Nat, k ≤ L ∧ s = .int .i64 k ∧ Mk4 89 datC n v ln w i (k * 4) wk) (fun s _ => L - (intOf s).toNat)
      case atStart => exact ⟨0, Nat.zero_le _, rfl, HR.out⟩
      case round =>
        obtain ⟨k, hk, rfl, hr⟩ := hrel
        have co := HST.out wr i hr.1 hlt
        rw [HVI.out] at co
        have HR2 := Lib.hid hr
        rcases Nat.lt_or_ge k L with hkl | hkg
        · have hd2 : decide ((k : Int) < (L : Int)) = true := by simpa using hkl
          obtain ⟨g, hag⟩ : ∃ g, a = some ⟨g, 0, none⟩ := by
            obtain ⟨-, X, hX, -⟩ := hr
            have h := (hX i hlt).2
            rw [HVI.out, HL.out] at h
            rcases h with ⟨h, h0⟩ | ⟨g, cap, cur, h, -⟩
            · omega
            · cases h; exact ⟨g, rfl⟩
          subst hag
          obtain ⟨x0, x1, x2, x3, hx0, hx1, hx2, hx3, hf0, hf1, hf2, hf3⟩ : ∃ x0 x1 x2 x3, wr.cell? ⟨g, k * 4, none⟩ = some x0 ∧ wr.cell? ⟨g, k * 4 + 1, none⟩ = some x1 ∧ wr.cell? ⟨g, k * 4 + 2, none⟩ = some x2 ∧ wr.cell? ⟨g, k * 4 + 3, none⟩ = some x3 ∧ wr.frozen? ⟨g, k * 4, none⟩ = false ∧ wr.frozen? ⟨g, k * 4 + 1, none⟩ = false ∧ wr.frozen? ⟨g, k * 4 + 2, none⟩ = false ∧ wr.frozen? ⟨g, k * 4 + 3, none⟩ = false := by
            obtain ⟨-, X, hX, -⟩ := hr
            have h := hX i hlt
            rw [HVI.out, HL.out] at h
            obtain ⟨-, -, cur, hcur⟩ := ownsRow_block h (g := g) rfl
            have hlen := h.1
            have hcc := (ownsRow_heap h).2.2.2
            obtain ⟨x0, h0⟩ : ∃ x, (X i)[k * 4]? = some x := ⟨_, List.getElem?_eq_getElem (by omega)⟩
            obtain ⟨x1, h1⟩ : ∃ x, (X i)[k * 4 + 1]? = some x := ⟨_, List.getElem?_eq_getElem (by omega)⟩
            obtain ⟨x2, h2⟩ : ∃ x, (X i)[k * 4 + 2]? = some x := ⟨_, List.getElem?_eq_getElem (by omega)⟩
            obtain ⟨x3, h3⟩ : ∃ x, (X i)[k * 4 + 3]? = some x := ⟨_, List.getElem?_eq_getElem (by omega)⟩
            exact ⟨x0, x1, x2, x3, hcc _ _ h0, hcc _ _ h1, hcc _ _ h2, hcc _ _ h3, frozen_of_heap hcur, frozen_of_heap hcur, frozen_of_heap hcur, frozen_of_heap hcur⟩
          have b3 : (0 : Int) ≤ (k : Int) := by omega
          have b4 : (k : Int) < (L : Int) := by omega
          have hw1 : IntKind.i64.wrap ((i : Int) * 1000) = (i : Int) * 1000 := by rw [IntKind.wrap_i64]; omega
          have hw2 : IntKind.i64.wrap ((i : Int) * 1000 + (k : Int)) = (i : Int) * 1000 + (k : Int) := by rw [IntKind.wrap_i64]; omega
          have hvg : v i = .slice (some ⟨g, 0, none⟩) (ln i) c := by rw [HVI.out, HL.out]
          have hat : ∀ r, r < 4 → (mkc datC i (ln i))[k * 4 + r]? = (datC ((i : Int) * 1000 + (k : Int)))[r]? := fun r hr => mkc_at datC_len (by rw [HL.out]; exact hkl) hr
          have hlk : k * 4 + 4 ≤ ln i * 4 := by rw [HL.out]; omega
          have s1 := mk4_step HR2.out HA.out hlt (by omega) hvg (hat 0 (by decide))
          have s2 := mk4_step s1 HA.out hlt (by omega) hvg (hat 1 (by decide))
          have s3 := mk4_step s2 HA.out hlt (by omega) hvg (hat 2 (by decide))
          have s4 := mk4_step s3 HA.out hlt (by omega) hvg (hat 3 (by decide))
          have HS := Lib.hid s4
          clear hr s1 s2 s3 s4 hat hvg hlk
          go_wp2_with fail
          exact ⟨⟨k + 1, hkl, by simp, by rw [show (k + 1) * 4 = k * 4 + 0 + 1 + 1 + 1 + 1 by omega]; exact HS.out⟩, by simp [intOf]; omega⟩
        · have hd2 : decide ((k : Int) < (L : Int)) = false := by simp; omega
          obtain rfl : k = L := by omega
          have hmn : Mk4 89 datC n v ln w i (ln i * 4) wr := by rw [HL.out]; exact HR2.out
          have HN := Lib.hid (mk4_next hmn)
          clear hr
          go_wp2_with fail
          exact ⟨⟨i + 1, hlt, by simp, HN.out⟩, by simp [intOf]; omega⟩
    · have hd : decide ((i : Int) < (n : Int)) = false := by simp; omega
      obtain rfl : n = i := by omega
      have hg0 := gr4_start (tl := 34) datC_len hr
      clear hr hge hd hile
      go_wp2_with fail
      go_loopw [5, 6] (fun lv s wr => ∃ m : Nat, m ≤ n ∧ s = .int .i64 m ∧ Gr4 89 34 datC n v ln w m lv wr) (fun _ s _ => n - (intOf s).toNat)
      case atStart => exact ⟨0, Nat.zero_le _, rfl, hg0⟩
      case round =>
        clear hg0
        obtain ⟨m, hm, rfl, hgr⟩ := hrel
        rcases Nat.lt_or_ge m n with hlt | hge
        · have hd : decide ((m : Int) < (n : Int)) = true := by simpa using hlt
          obtain ⟨xv, hin⟩ := in4_start hgr hlt
          obtain ⟨la, lc, rfl⟩ := ownsRow_slice hin.long
          obtain ⟨W, hW⟩ : ∃ W, wr.heap.size = W := ⟨_, rfl⟩
          rw [hW] at hin
          obtain ⟨L, hL⟩ : ∃ L, ln m = L := ⟨_, rfl⟩
          obtain ⟨a, c, hvi⟩ : ∃ a c, v m = .slice a L c := by
            rw [← hL]; exact ownsRow_slice (hgr.rest m (Nat.le_refl _) hlt)
          have hL6 : L ≤ 1000000 := by rw [← hL]; exact HLN.out m hlt
          have co := HST.out wr m hgr.only hlt
          rw [hvi] at co
          rw [hvi] at hin
          have HIN := Lib.hid hin
          have HVI := Lib.hid hvi
          have HL := Lib.hid hL
          have b1 : (0 : Int) ≤ (m : Int) := by omega
          have b2 : (m : Int) < (n : Int) := by omega
          clear hin hvi hL hgr hW
          go_wp2_with fail
          go_loopw [7, 8] (fun x s wk => ∃ k : Nat, k ≤ 8 ∧ s = .int .i64 k ∧ In4 89 34 datC n v ln w m (.slice la m lc) xv W k x wk) (fun _ s _ => 8 - (intOf s).toNat)
          case atStart => exact ⟨0, Nat.zero_le _, rfl, HIN.out⟩
          case round =>
            clear co
            obtain ⟨k, hk, rfl, hin⟩ := hrel
            have hcur := hin.cur
            rw [HL.out] at hcur
            obtain ⟨xa, xc, rfl⟩ := ownsRow_slice hcur
            have HIN2 := Lib.hid hin
            have HCUR := Lib.hid hcur
            rcases Nat.lt_or_ge k 8 with hkl | hkg
            · have hd2 : decide ((k : Int) < 8) = true := by simp; omega
              have hw0 : IntKind.i64.wrap (-1 - (m : Int)) = -1 - (m : Int) := by rw [IntKind.wrap_i64]; omega
              have hw1 : IntKind.i64.wrap ((-1 - (m : Int)) * 1000) = (-1 - (m : Int)) * 1000 := by rw [IntKind.wrap_i64]; omega
              have hw2 : IntKind.i64.wrap ((-1 - (m : Int)) * 1000 + (k : Int)) = (-1 - (m : Int)) * 1000 + (k : Int) := by rw [IntKind.wrap_i64]; omega
              obtain ⟨M, hM⟩ : ∃ M, (-1 - (m : Int)) * 1000 + (k : Int) = M := ⟨_, rfl⟩
              have HM := Lib.hid hM
              rw [hM] at hw2
              clear hin hcur
              go_wp2_with (at_builtin; go_must (refine wpList_append_both rfl _ _ 34 rfl 0 89 i0 (.agg #[.int .u8 0, .bool false, .int .i64 0, .string .empty]) 4 32 Try.underlying34 hi hz0 hz1 hz2 rfl (by decide) (.slice xa (L + k) xc) (L + k) (mkc datC m L ++ ngc datC m k) rfl (HCUR.out.alloc _) ⟨wr.heap.size, 0, none⟩ 1 1 [.int .u8 0, .bool false, .int .i64 M, .string ⟨#[]⟩] rfl rfl ?c1 ?c2 ?c3 ?c4 ?c5 ?c6 ?_))
              case c1 =>
                intro j u hj
                rw [add_lit, Nat.zero_add]
                exact cell_of_heap (heap_alloc_new wr _) (by rw [List.getElem?_toArray]; exact hj)
              case c2 => intro u hu; simp at hu; rcases hu with rfl | rfl | rfl | rfl <;> rfl
              case c3 => unfold maxLen; omega
              case c4 => omega
              case c5 => exact Nat.zero_le _
              case c6 => decide
              intro x' w2 hown' hold hgrow hloc
              obtain ⟨xa', xc', rfl⟩ := ownsRow_slice hown'
              have HS : Hid (In4 89 34 datC n v ln w m (.slice la m lc) xv W (k + 1) (.slice xa' (L + k + 1) xc') w2) := Lib.hid (in4_step (by decide) HIN2.out HA.out hlt HVL.out ((Below.refl _ _).alloc (Nat.le_refl _) _) (by rw [HL.out, HM.out, List.append_assoc]; exact hown') (by rw [HL.out]; exact hold) hgrow (hloc.imp id fun h g hg => by have := h g hg; simp; omega))
              clear hown' hold hgrow hloc
              go_wp2_with fail
              exact ⟨⟨k + 1, hkl, by simp, HS.out⟩, by simp [intOf]; omega⟩
            · have hd2 : decide ((k : Int) < 8) = false := by simp; omega
              obtain rfl : k = 8 := by omega
              have hs0 : w.heap.size ≤ wr.heap.size := by have := hin.low; have := hin.high; omega
              clear hin hcur
              go_wp2_with (at_builtin; go_must (refine wpList_append_own _ rfl _ _ 52 rfl w.heap.size 34 i6 (.slice none 0 0) 1 24 Try.underlying52 hj hy0 hy1 hy2 rfl (by decide) (.slice la m lc) m ((List.range m).map xv) rfl (HIN2.out.long.alloc _) ⟨wr.heap.size, 0, none⟩ 1 1 [.slice xa (L + 8) xc] rfl rfl ?c1 ?c2 ?c3 ?c4 ?c5 ?_))
              case c1 =>
                intro j u hj
                rw [add_lit, Nat.zero_add]
                exact cell_of_heap (heap_alloc_new wr _) (by rw [List.getElem?_toArray]; exact hj)
              case c2 => intro u hu; simp at hu; subst hu; rfl
              case c3 => unfold maxLen; omega
              case c4 => omega
              case c5 => simp; omega
              intro lv' w2 hown' hgrow _
              have HS := Lib.hid (in4_end (by decide) HIN2.out ((Below.refl _ _).alloc (Nat.le_refl _) _) hown' hgrow)
              clear hown' hgrow
              go_wp2_with fail
              exact ⟨⟨m + 1, hlt, by simp, HS.out⟩, by simp [intOf]; omega⟩
        · have hd : decide ((m : Int) < (n : Int)) = false := by simp; omega
          obtain rfl : n = m := by omega
          obtain ⟨xv, hlong, hdone⟩ := hgr.long
          obtain ⟨la, lc, rfl⟩ := ownsRow_slice hlong
          have HGR := Lib.hid hgr
          have HLG := Lib.hid hlong
          have HDN := Lib.hid hdone
          clear hgr hlong hdone hge hm hd
          go_wp2_with fail
          go_loop [9] (fun s => ∃ i : Nat, i ≤ n ∧ s = .int .i64 i) (fun s => n - (intOf s).toNat)
          case atStart => exact ⟨0, Nat.zero_le _, rfl⟩
          case round =>
            obtain ⟨i, hile, rfl⟩ := hrel
            rcases Nat.lt_or_ge i n with hlt | hge
            · have hd : decide ((i : Int) < (n : Int)) = true := by simpa using hlt
              obtain ⟨L, hL⟩ : ∃ L, ln i = L := ⟨_, rfl⟩
              obtain ⟨hxo, -⟩ := HDN.out i hlt
              rw [hL] at hxo
              obtain ⟨xa, xc, hxv⟩ := ownsRow_slice hxo
              rw [hxv] at hxo
              obtain ⟨gx, rfl⟩ : ∃ gx, xa = some ⟨gx, 0, none⟩ := by
                rcases hxo.2 with ⟨-, h0⟩ | ⟨g, cap, cur, h, -⟩
                · omega
                · cases h; exact ⟨g, rfl⟩
              have hxc := (ownsRow_heap hxo).2.2.2
              obtain ⟨gl, rfl⟩ : ∃ gl, la = some ⟨gl, 0, none⟩ := by
                rcases HLG.out.2 with ⟨-, h0⟩ | ⟨g, cap, cur, h, -⟩
                · omega
                · cases h; exact ⟨g, rfl⟩
              have clong : wr.cell? ⟨gl, i, none⟩ = some (.slice (some ⟨gx, 0, none⟩) (L + 8) xc) := (ownsRow_heap HLG.out).2.2.2 i _ (by rw [List.getElem?_map, List.getElem?_range hlt, Option.map_some, hxv])
              have hrd := HGR.out.rd i hlt
              have co := HST.out wr i HGR.out.only hlt
              obtain ⟨a, c, hvi⟩ : ∃ a c, v i = .slice a L c := by
                have := HVS.out i hlt
                rwa [hL] at this
              rw [hvi] at co
              have hL6 : L ≤ 1000000 := by rw [← hL]; exact HLN.out i hlt
              have hrd2 : ∀ g, a = some ⟨g, 0, none⟩ → ∀ q u, (mkc datC i L)[q]? = some u → wr.cell? ⟨g, q, none⟩ = some u := fun g hg q u hq => by
                have := (hrd g (by rw [hvi, hg]; rfl)).2 q u (by rw [hL]; exact hq)
                exact this
              have hsome : 0 < L → ∃ g, a = some ⟨g, 0, none⟩ := HVN.out i L a c hlt hvi
              have HXC := Lib.hid hxc
              have HRD := Lib.hid hrd2
              have HSO := Lib.hid hsome
              have b1 : (0 : Int) ≤ (i : Int) := by omega
              have b2 : (i : Int) < (n : Int) := by omega
              clear hxo hxv hxc hrd hvi hL hrd2 hsome
              go_wp2_with fail
              go_loop [11] (fun s => ∃ k : Nat, k ≤ L ∧ s = .int .i64 k) (fun s => L - (intOf s).toNat)
              case atStart => exact ⟨0, Nat.zero_le _, rfl⟩
              case round =>
                obtain ⟨k, hk, rfl⟩ := hrel
                have hw1 : IntKind.i64.wrap ((i : Int) * 1000) = (i : Int) * 1000 := by rw [IntKind.wrap_i64]; omega
                rcases Nat.lt_or_ge k L with hkl | hkg
                · have hd2 : decide ((k : Int) < (L : Int)) = true := by simpa using hkl
                  obtain ⟨g, rfl⟩ := HSO.out (by omega)
                  have hw2 : IntKind.i64.wrap ((i : Int) * 1000 + (k : Int)) = (i : Int) * 1000 + (k : Int) := by rw [IntKind.wrap_i64]; omega
                  obtain ⟨M, hM⟩ : ∃ M, (i : Int) * 1000 + (k : Int) = M := ⟨_, rfl⟩
                  rw [hM] at hw2
                  have hat : ∀ r u, r < 4 → (datC M)[r]? = some u → (mkc datC i L)[k * 4 + r]? = some u := fun r u hr hu => by rw [mkc_at datC_len hkl hr, hM]; exact hu
                  have ck0 : wr.cell? ⟨g, k * 4, none⟩ = some (.int .u8 0) := HRD.out g rfl (k * 4 + 0) _ (hat 0 _ (by decide) rfl)
                  have cx0 : wr.cell? ⟨gx, k * 4, none⟩ = some (.int .u8 0) := HXC.out (k * 4 + 0) _ (by rw [List.getElem?_append_left (by rw [mkc_len datC_len]; omega)]; exact hat 0 _ (by decide) rfl)
                  have ck1 : wr.cell? ⟨g, k * 4 + 1, none⟩ = some (.bool false) := HRD.out g rfl (k * 4 + 1) _ (hat 1 _ (by decide) rfl)
                  have cx1 : wr.cell? ⟨gx, k * 4 + 1, none⟩ = some (.bool false) := HXC.out (k * 4 + 1) _ (by rw [List.getElem?_append_left (by rw [mkc_len datC_len]; omega)]; exact hat 1 _ (by decide) rfl)
                  have ck2 : wr.cell? ⟨g, k * 4 + 2, none⟩ = some (.int .i64 M) := HRD.out g rfl (k * 4 + 2) _ (hat 2 _ (by decide) rfl)
                  have cx2 : wr.cell? ⟨gx, k * 4 + 2, none⟩ = some (.int .i64 M) := HXC.out (k * 4 + 2) _ (by rw [List.getElem?_append_left (by rw [mkc_len datC_len]; omega)]; exact hat 2 _ (by decide) rfl)
                  have ck3 : wr.cell? ⟨g, k * 4 + 3, none⟩ = some (.string ⟨#[]⟩) := HRD.out g rfl (k * 4 + 3) _ (hat 3 _ (by decide) rfl)
                  have cx3 : wr.cell? ⟨gx, k * 4 + 3, none⟩ = some (.string ⟨#[]⟩) := HXC.out (k * 4 + 3) _ (by rw [List.getElem?_append_left (by rw [mkc_len datC_len]; omega)]; exact hat 3 _ (by decide) rfl)
                  have hne : (M != M) = false := by simp
                  have b3 : (0 : Int) ≤ (k : Int) := by omega
                  have b4 : (k : Int) < (L : Int) := by omega
                  have b5 : (k : Int) < (L : Int) + 8 := by omega
                  clear hat
                  go_wp2_with fail
                  exact ⟨⟨k + 1, hkl, by simp⟩, by simp [intOf]; omega⟩
                · have hd2 : decide ((k : Int) < (L : Int)) = false := by simp; omega
                  obtain rfl : k = L := by omega
                  go_wp2_with fail
                  go_loop [12] (fun s => ∃ q : Nat, q ≤ 8 ∧ s = .int .i64 q) (fun s => 8 - (intOf s).toNat)
                  case atStart => exact ⟨0, Nat.zero_le _, rfl⟩
                  case round =>
                    obtain ⟨q, hq, rfl⟩ := hrel
                    rcases Nat.lt_or_ge q 8 with hql | hqg
                    · have hd3 : decide ((q : Int) < 8) = true := by simp; omega
                      have hw0 : IntKind.i64.wrap (-1 - (i : Int)) = -1 - (i : Int) := by rw [IntKind.wrap_i64]; omega
                      have hw3 : IntKind.i64.wrap ((-1 - (i : Int)) * 1000) = (-1 - (i : Int)) * 1000 := by rw [IntKind.wrap_i64]; omega
                      have hw4 : IntKind.i64.wrap ((-1 - (i : Int)) * 1000 + (q : Int)) = (-1 - (i : Int)) * 1000 + (q : Int) := by rw [IntKind.wrap_i64]; omega
                      have hw5 : IntKind.i64.wrap ((k : Int) + (q : Int)) = (k : Int) + (q : Int) := by rw [IntKind.wrap_i64]; omega
                      obtain ⟨M, hM⟩ : ∃ M, (-1 - (i : Int)) * 1000 + (q : Int) = M := ⟨_, rfl⟩
                      rw [hM] at hw4
                      have hat : ∀ r u, r < 4 → (datC M)[r]? = some u → (ngc datC i 8)[q * 4 + r]? = some u := fun r u hr hu => by rw [ngc_at datC_len hql hr, hM]; exact hu
                      have cx0 : wr.cell? ⟨gx, (k + q) * 4, none⟩ = some (.int .u8 0) := HXC.out ((k + q) * 4 + 0) _ (by rw [List.getElem?_append_right (by rw [mkc_len datC_len]; omega), mkc_len datC_len, show (k + q) * 4 + 0 - k * 4 = q * 4 + 0 by omega]; exact hat 0 _ (by decide) rfl)
                      have cx1 : wr.cell? ⟨gx, (k + q) * 4 + 1, none⟩ = some (.bool false) := HXC.out ((k + q) * 4 + 1) _ (by rw [List.getElem?_append_right (by rw [mkc_len datC_len]; omega), mkc_len datC_len, show (k + q) * 4 + 1 - k * 4 = q * 4 + 1 by omega]; exact hat 1 _ (by decide) rfl)
                      have cx2 : wr.cell? ⟨gx, (k + q) * 4 + 2, none⟩ = some (.int .i64 M) := HXC.out ((k + q) * 4 + 2) _ (by rw [List.getElem?_append_right (by rw [mkc_len datC_len]; omega), mkc_len datC_len, show (k + q) * 4 + 2 - k * 4 = q * 4 + 2 by omega]; exact hat 2 _ (by decide) rfl)
                      have cx3 : wr.cell? ⟨gx, (k + q) * 4 + 3, none⟩ = some (.string ⟨#[]⟩) := HXC.out ((k + q) * 4 + 3) _ (by rw [List.getElem?_append_right (by rw [mkc_len datC_len]; omega), mkc_len datC_len, show (k + q) * 4 + 3 - k * 4 = q * 4 + 3 by omega]; exact hat 3 _ (by decide) rfl)
                      have hne : (M != M) = false := by simp
                      have b3 : (0 : Int) ≤ (k : Int) + (q : Int) := by omega
                      have b5 : (k : Int) + (q : Int) < (k : Int) + 8 := by omega
                      have ht : ((k : Int) + (q : Int)).toNat = k + q := by omega
                      clear hat
                      go_wp2_with fail
                      exact ⟨⟨q + 1, hql, by simp⟩, by simp [intOf]; omega⟩
                    · have hd3 : decide ((q : Int) < 8) = false := by simp; omega
                      obtain rfl : q = 8 := by omega
                      go_wp2_with fail
                      exact ⟨⟨i + 1, hlt, by simp⟩, by simp [intOf]; omega⟩
            · have hd : decide ((i : Int) < (n : Int)) = false := by simp; omega
              obtain rfl : n = i := by omega
              go_wp2_with fail
              go_ret
              exact ⟨rfl, HGR.out.only⟩
end Go.Proofs.Ytpoilgeffpedoaa
