import Derived.Test.YtlpehdhgdpeoeaaGreatDoorMa
/- Project, Negate. -/
namespace Go.Proofs.YtlpehdhgdpeoeaaGreatDoor
open Go.RowKit Go.Pen Go.Shelf
attribute [local go_sem] Oper.semAt_some

/-- a column of a row; null, where there is none -/
def projD (r : List Dat) (c : Int) : Dat := if 0 ≤ c ∧ c < r.length then r.getD c.toNat nul else nul
def projR (cs : List Int) : Upd → Upd × Bool := fun u => ({ u with row := cs.map (projD u.row) }, true)
def negR : Upd → Upd × Bool := fun u => ({ u with diff := wrap64 (-u.diff) }, true)

set_option maxRecDepth 100000 in
set_option maxHeartbeats 1000000 in
theorem project1_33 (r : List Dat) (cs : List Int) (p Y : Nat) (ra : Option Addr) (rc : Nat) (ep : Int) (lv : Value) (df : Int) (cv : Value) (w : World) (hp : w.heap[p]? = some (.cells #[.slice ra r.length rc, .int .u64 ep, lv, .int .i64 df] 51 (0, 0))) (hr : RowAt w (.slice ra r.length rc) r) (hrl : r.length ≤ 1073741824)
    (hY : w.heap[Y]? = some (.cells #[cv] 32 (0, 0))) (hc : IntsOn (fun _ => True) w cs cv) (hcl : cs.length ≤ 1073741824) :
    Calls Tryz.prog 33 #[.pointer (some ⟨p, 0, none⟩), .pointer (some ⟨Y, 0, none⟩)] w fun e w' => ∃ rv', e = .returned (.bool true) ∧ w'.heap[p]? = some (.cells #[rv', .int .u64 ep, lv, .int .i64 df] 51 (0, 0)) ∧ TyRow w' 55 rv' (cs.map (projD r)).length (rowCells (cs.map (projD r))) ∧ But p w w' ∧ Kt w w' := by
  obtain ⟨i0, hi0, hz0, hz1, hz2⟩ := info_parts info25
  obtain ⟨ca, cc, rfl, -, hci⟩ := hc
  obtain ⟨ra', rc', era, -, hri⟩ := hr
  cases era
  obtain ⟨K, eK⟩ : ∃ K, K = cs.length := ⟨_, rfl⟩
  obtain ⟨N, eN⟩ : ∃ N, N = r.length := ⟨_, rfl⟩
  rw [← eK] at hcl hY
  rw [← eN] at hp hrl
  have EK := Lib.hid eK
  have EN := Lib.hid eN
  have HRI := Lib.hid hri
  have HCI := Lib.hid hci
  have HP := Lib.hid hp
  have yY := cell_of_heap (o := 0) hY rfl
  clear eK eN hri hci hp hY
  go_enter Tryz.func33, Tryz.ntmps33
  go_wp2_with fail
  go_loopg [4, 10] K (fun g s4 s10 wr => ∃ (i : Nat), i ≤ K ∧ g = K - i ∧ s10 = .int .i64 i ∧ wr.ownsRow w.heap.size 55 4 s4 i (rowCells ((cs.map (projD r)).take i)) ∧ Below w.heap.size w wr)
  case atStart => exact ⟨0, Nat.zero_le _, rfl, rfl, World.ownsRow_nil _ _ _ _, Below.refl _ _⟩
  case round =>
    obtain ⟨i, hi, rfl, rfl, hown, hbr⟩ := hrel
    obtain ⟨oa, oc, rfl⟩ := ownsRow_slice hown
    have HOW := Lib.hid hown
    have HBR := Lib.hid hbr
    clear hown
    have y0 := cell_of_heap (o := 0) (keepB HP.out hbr) rfl
    by_cases hlt : i < K
    · obtain ⟨c, hcx⟩ : ∃ c, cs[i]? = some c := ⟨cs[i]'(by rw [← EK.out]; exact hlt), List.getElem?_eq_getElem _⟩
      obtain ⟨cb, co, rfl, -, hcs⟩ := HCI.out (fun e => by rw [e] at hcx; simp at hcx)
      have k0 := cell_keep hbr (hcs i c hcx)
      have HCX := Lib.hid hcx
      have szw : w.heap.size ≤ wr.heap.size := HBR.out.size
      obtain ⟨x, hx⟩ : ∃ x, x = projD r c := ⟨_, rfl⟩
      have HX := Lib.hid hx
      clear hcs hcx hbr hx
      have y0 := Lib.cell?_alloc_some (.cells #[.int .u8 1, .bool false, .int .i64 0, .string ⟨#[]⟩] 55) y0
      have hal := heap_alloc_new wr (.cells #[.int .u8 1, .bool false, .int .i64 0, .string ⟨#[]⟩] 55)
      have hout : ¬ (0 ≤ c ∧ c < (N : Int)) → x = nul := fun h => by rw [HX.out, projD, if_neg (by rw [← EN.out]; exact h)]
      by_cases hc0 : 0 ≤ c
      · by_cases hc1 : c < (N : Int)
        · obtain ⟨y, hy⟩ : ∃ y, r[c.toNat]? = some y := ⟨r[c.toNat]'(by have := EN.out; omega), List.getElem?_eq_getElem _⟩
          have hxy : x = y := by rw [HX.out, projD, if_pos (by rw [← EN.out]; exact ⟨hc0, hc1⟩), List.getD_eq_getElem?_getD, hy]; rfl
          obtain ⟨b, off, rfl, -, hrs⟩ := HRI.out (fun e => by rw [e] at hy; simp at hy)
          obtain ⟨q0, q1, q2, q3⟩ := hrs _ _ hy
          have q0 := Lib.cell?_alloc_some (.cells #[.int .u8 1, .bool false, .int .i64 0, .string ⟨#[]⟩] 55) (cell_keep HBR.out q0)
          have q1 := Lib.cell?_alloc_some (.cells #[.int .u8 1, .bool false, .int .i64 0, .string ⟨#[]⟩] 55) (cell_keep HBR.out q1)
          have q2 := Lib.cell?_alloc_some (.cells #[.int .u8 1, .bool false, .int .i64 0, .string ⟨#[]⟩] 55) (cell_keep HBR.out q2)
          have q3 := Lib.cell?_alloc_some (.cells #[.int .u8 1, .bool false, .int .i64 0, .string ⟨#[]⟩] 55) (cell_keep HBR.out q3)
          have xc : (c.toNat : Int) = c := by omega
          have HXY := Lib.hid hxy
          have hal2 := heap_alloc_new wr (.cells #[.int .u8 y.kind, .bool y.bool, .int .i64 y.int, .string y.text] 55)
          have hbn := one_below wr (.cells #[.int .u8 y.kind, .bool y.bool, .int .i64 y.int, .string y.text] 55)
          clear hrs hy hal hout
          go_upto_region 8 with fail
          obtain ⟨wc, hwc⟩ : ∃ wc, wc = (wr.alloc (.cells #[.int .u8 y.kind, .bool y.bool, .int .i64 y.int, .string y.text] 55)) := ⟨_, rfl⟩
          have kB : wc.heap[wr.heap.size]? = some (.cells #[.int .u8 x.kind, .bool x.bool, .int .i64 x.int, .string x.text] 55 (0, 0)) := by rw [hwc]; exact (by rw [hxy]; exact hal2)
          have hbc : Below wr.heap.size wr wc := by rw [hwc]; exact hbn
          rw [← hwc]
          clear hwc hxy
          have HO5 := Lib.hid (Below.ownsRow' hbc HOW.out)
          have HB5 := Lib.hid (stepB HBR.out hbc)
          have z0 := cell_of_heap (o := 0) kB rfl
          have z1 := cell_of_heap (o := 1) kB rfl
          have z2 := cell_of_heap (o := 2) kB rfl
          have z3 := cell_of_heap (o := 3) kB rfl
          have hs5 := HB5.out.size
          clear kB hbc
          go_wp2_with (at_builtin; go_must (refine wpList_append_lies _ rfl _ _ 49 rfl w.heap.size 55 i0 _ 4 32 Tryz.underlying49 hi0 hz0 hz1 hz2 rfl (by decide) _ i _ rfl (HO5.out.alloc _) ⟨wc.heap.size, 0, none⟩ 1 1 [.int .u8 x.kind, .bool x.bool, .int .i64 x.int, .string x.text] rfl rfl (World.news_of_block (cs := #[.int .u8 x.kind, .bool x.bool, .int .i64 x.int, .string x.text]) (heap_alloc_new _ _)) (by intro u hu; simp at hu; rcases hu with rfl | rfl | rfl | rfl <;> rfl) (by decide) (by unfold maxLen; omega) (by omega) (by first | omega | (simp; omega)) _ rfl ?_))
          intro g cap w5 hown5 hgrow hat5 _
          have ub : Below w.heap.size w w5 := (HB5.out.alloc HB5.out.size _).grown hgrow (by simp; omega) (fun g hg => (HO5.out.lt g hg).1)
          have htk : (cs.map (projD r)).take (i + 1) = (cs.map (projD r)).take i ++ [x] := by rw [List.take_add_one, List.getElem?_map, HCX.out, HX.out]; rfl
          have htk2 : rowCells ((cs.map (projD r)).take (i + 1)) = rowCells ((cs.map (projD r)).take i) ++ [.int .u8 x.kind, .bool x.bool, .int .i64 x.int, .string x.text] := by rw [htk, rowCells_snoc]
          rw [← htk2] at hown5
          have UB := Lib.hid ub
          have UO := Lib.hid hown5
          clear ub hown5 hgrow hat5 htk htk2
          go_wp2
          go_roundg (K - (i + 1))
          case measure => omega
          case rel => exact ⟨i + 1, by omega, rfl, by go_num, UO.out, UB.out⟩
        · have hc2 := hout (fun h => hc1 h.2)
          have hbn := one_below wr (.cells #[.int .u8 1, .bool false, .int .i64 0, .string ⟨#[]⟩] 55)
          clear hout
          go_upto_region 8 with fail
          obtain ⟨wc, hwc⟩ : ∃ wc, wc = (wr.alloc (.cells #[.int .u8 1, .bool false, .int .i64 0, .string ⟨#[]⟩] 55)) := ⟨_, rfl⟩
          have kB : wc.heap[wr.heap.size]? = some (.cells #[.int .u8 x.kind, .bool x.bool, .int .i64 x.int, .string x.text] 55 (0, 0)) := by rw [hwc]; exact (by rw [hc2]; exact hal)
          have hbc : Below wr.heap.size wr wc := by rw [hwc]; exact hbn
          rw [← hwc]
          clear hwc hc2
          have HO5 := Lib.hid (Below.ownsRow' hbc HOW.out)
          have HB5 := Lib.hid (stepB HBR.out hbc)
          have z0 := cell_of_heap (o := 0) kB rfl
          have z1 := cell_of_heap (o := 1) kB rfl
          have z2 := cell_of_heap (o := 2) kB rfl
          have z3 := cell_of_heap (o := 3) kB rfl
          have hs5 := HB5.out.size
          clear kB hbc
          go_wp2_with (at_builtin; go_must (refine wpList_append_lies _ rfl _ _ 49 rfl w.heap.size 55 i0 _ 4 32 Tryz.underlying49 hi0 hz0 hz1 hz2 rfl (by decide) _ i _ rfl (HO5.out.alloc _) ⟨wc.heap.size, 0, none⟩ 1 1 [.int .u8 x.kind, .bool x.bool, .int .i64 x.int, .string x.text] rfl rfl (World.news_of_block (cs := #[.int .u8 x.kind, .bool x.bool, .int .i64 x.int, .string x.text]) (heap_alloc_new _ _)) (by intro u hu; simp at hu; rcases hu with rfl | rfl | rfl | rfl <;> rfl) (by decide) (by unfold maxLen; omega) (by omega) (by first | omega | (simp; omega)) _ rfl ?_))
          intro g cap w5 hown5 hgrow hat5 _
          have ub : Below w.heap.size w w5 := (HB5.out.alloc HB5.out.size _).grown hgrow (by simp; omega) (fun g hg => (HO5.out.lt g hg).1)
          have htk : (cs.map (projD r)).take (i + 1) = (cs.map (projD r)).take i ++ [x] := by rw [List.take_add_one, List.getElem?_map, HCX.out, HX.out]; rfl
          have htk2 : rowCells ((cs.map (projD r)).take (i + 1)) = rowCells ((cs.map (projD r)).take i) ++ [.int .u8 x.kind, .bool x.bool, .int .i64 x.int, .string x.text] := by rw [htk, rowCells_snoc]
          rw [← htk2] at hown5
          have UB := Lib.hid ub
          have UO := Lib.hid hown5
          clear ub hown5 hgrow hat5 htk htk2
          go_wp2
          go_roundg (K - (i + 1))
          case measure => omega
          case rel => exact ⟨i + 1, by omega, rfl, by go_num, UO.out, UB.out⟩
      · have hc2 := hout (fun h => hc0 h.1)
        have hbn := one_below wr (.cells #[.int .u8 1, .bool false, .int .i64 0, .string ⟨#[]⟩] 55)
        clear hout
        go_upto_region 8 with fail
        obtain ⟨wc, hwc⟩ : ∃ wc, wc = (wr.alloc (.cells #[.int .u8 1, .bool false, .int .i64 0, .string ⟨#[]⟩] 55)) := ⟨_, rfl⟩
        have kB : wc.heap[wr.heap.size]? = some (.cells #[.int .u8 x.kind, .bool x.bool, .int .i64 x.int, .string x.text] 55 (0, 0)) := by rw [hwc]; exact (by rw [hc2]; exact hal)
        have hbc : Below wr.heap.size wr wc := by rw [hwc]; exact hbn
        rw [← hwc]
        clear hwc hc2
        have HO5 := Lib.hid (Below.ownsRow' hbc HOW.out)
        have HB5 := Lib.hid (stepB HBR.out hbc)
        have z0 := cell_of_heap (o := 0) kB rfl
        have z1 := cell_of_heap (o := 1) kB rfl
        have z2 := cell_of_heap (o := 2) kB rfl
        have z3 := cell_of_heap (o := 3) kB rfl
        have hs5 := HB5.out.size
        clear kB hbc
        go_wp2_with (at_builtin; go_must (refine wpList_append_lies _ rfl _ _ 49 rfl w.heap.size 55 i0 _ 4 32 Tryz.underlying49 hi0 hz0 hz1 hz2 rfl (by decide) _ i _ rfl (HO5.out.alloc _) ⟨wc.heap.size, 0, none⟩ 1 1 [.int .u8 x.kind, .bool x.bool, .int .i64 x.int, .string x.text] rfl rfl (World.news_of_block (cs := #[.int .u8 x.kind, .bool x.bool, .int .i64 x.int, .string x.text]) (heap_alloc_new _ _)) (by intro u hu; simp at hu; rcases hu with rfl | rfl | rfl | rfl <;> rfl) (by decide) (by unfold maxLen; omega) (by omega) (by first | omega | (simp; omega)) _ rfl ?_))
        intro g cap w5 hown5 hgrow hat5 _
        have ub : Below w.heap.size w w5 := (HB5.out.alloc HB5.out.size _).grown hgrow (by simp; omega) (fun g hg => (HO5.out.lt g hg).1)
        have htk : (cs.map (projD r)).take (i + 1) = (cs.map (projD r)).take i ++ [x] := by rw [List.take_add_one, List.getElem?_map, HCX.out, HX.out]; rfl
        have htk2 : rowCells ((cs.map (projD r)).take (i + 1)) = rowCells ((cs.map (projD r)).take i) ++ [.int .u8 x.kind, .bool x.bool, .int .i64 x.int, .string x.text] := by rw [htk, rowCells_snoc]
        rw [← htk2] at hown5
        have UB := Lib.hid ub
        have UO := Lib.hid hown5
        clear ub hown5 hgrow hat5 htk htk2
        go_wp2
        go_roundg (K - (i + 1))
        case measure => omega
        case rel => exact ⟨i + 1, by omega, rfl, by go_num, UO.out, UB.out⟩
    · have hiK : i = K := by omega
      subst hiK
      have g0 := frozen_of_heap (o := 0) (keepB HP.out hbr)
      have htk : (cs.map (projD r)).take i = cs.map (projD r) := List.take_of_length_le (by rw [List.length_map]; have := EK.out; omega)
      have how := HOW.out
      rw [htk] at how
      have hlen : (cs.map (projD r)).length = i := by rw [List.length_map]; exact EK.out.symm
      have HFIN := Lib.hid (put_fin (keepB HP.out hbr) hbr (TyRow.of_own how))
      have HLEN := Lib.hid hlen
      clear htk how hlen
      go_wp2_with fail
      go_ret
      refine ⟨_, rfl, HFIN.out.1, ?_, HFIN.out.2.2⟩
      rw [HLEN.out]
      exact HFIN.out.2.1

set_option maxRecDepth 100000 in
theorem negate1_36 (rv lv : Value) (u : Upd) (p : Nat) (w : World) (hp : w.heap[p]? = some (.cells (upV rv lv u) 51 (0, 0))) :
    Calls Tryz.prog 36 #[.pointer (some ⟨p, 0, none⟩)] w fun e w' => e = .returned (.bool true) ∧ w' = w.setCell ⟨p, 3, none⟩ (.int .i64 (wrap64 (-u.diff))) := by
  have y3 : w.cell? ⟨p, 3, none⟩ = some (.int .i64 u.diff) := cell_of_heap hp rfl
  have g3 := frozen_of_heap (o := 3) hp
  go_enter Tryz.func36, Tryz.ntmps36
  go_wp2_with fail
  go_ret
  exact ⟨rfl, rfl⟩
end Go.Proofs.YtlpehdhgdpeoeaaGreatDoor
