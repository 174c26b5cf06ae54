import Derived.Test.YtolikaginhjbhaaGreatDoorNr
import Derived.Test.YtolikaginhjbhaaGreatDoorNo
import Derived.Test.YtolikaginhjbhaaGreatDoorNq
import Derived.Test.YtolikaginhjbhaaGreatDoorGa
import Derived.Test.YtolikaginhjbhaaGreatDoorR
import Derived.Test.YtolikaginhjbhaaGreatDoorWb
/- ExprKeeps: the walk. -/
namespace Go.Proofs.YtolikaginhjbhaaGreatDoor
open Go.RowKit Go.Pen Go.Shelf
attribute [local go_sem] Oper.semAt_some

theorem keepB {W W' : World} {g : Nat} {y : Obj} (h : W.heap[g]? = some y) (hb : Below W.heap.size W W') : W'.heap[g]? = some y := (hb.block _ (lt_of_heap h)).trans h
theorem keepAt' {W : World} {g : Nat} {y : Obj} (h : W.heap[g]? = some y) (A : Obj) : (W.alloc A).heap[g]? = some y := (Below.heap_alloc _ _ _ (lt_of_heap h)).trans h
theorem stepB {w W W' : World} (h : Below w.heap.size w W) (hb : Below W.heap.size W W') : Below w.heap.size w W' := h.trans (hb.mono h.size)
theorem stepA {W W' : World} {A : Obj} (hb : Below (W.alloc A).heap.size (W.alloc A) W') : Below W.heap.size W W' := (one_below _ _).trans (hb.mono (by simp))

mutual
theorem ET.turn_size (cols : List Int) : ∀ e : ET, (e.turn cols).size = e.size
  | .mk o c d ks => by simp only [ET.turn, ET.size, ET.turns_size cols ks]
theorem ET.turns_size (cols : List Int) : ∀ ks : List ET, ET.sizes (ET.turns cols ks) = ET.sizes ks
  | [] => rfl
  | k :: ks => by simp only [ET.turns, ET.sizes, ET.turn_size cols k, ET.turns_size cols ks]
end
theorem rTurn_size (cols : List Int) (e : ET) (h : e.size ≤ 12000) : (rTurn cols e).size ≤ 12000 := by
  by_cases hy : e.may okD = true ∧ e.within cols.length = true ∧ e.tok cols = true
  · rw [(rTurn_yes hy).1, ET.turn_size]; exact h
  · rw [(rTurn_no hy).1]; simp [ET.size, ET.sizes]
theorem ups_eq : ∀ {a b : List Int}, a.Pairwise (· < ·) → b.Pairwise (· < ·) → (∀ c, c ∈ a ↔ c ∈ b) → a = b
  | [], [], _, _, _ => rfl
  | [], y :: b, _, _, h => by have := (h y).2 (by simp); cases this
  | x :: a, [], _, _, h => by have := (h x).1 (by simp); cases this
  | x :: a, y :: b, ha, hb, h => by
    rw [List.pairwise_cons] at ha hb
    have hxy : x = y := by
      have h1 := (h x).1 (by simp)
      have h2 := (h y).2 (by simp)
      rcases List.mem_cons.1 h1 with e | e
      · exact e
      · rcases List.mem_cons.1 h2 with e2 | e2
        · exact e2.symm
        · have := hb.1 x e
          have := ha.1 y e2
          omega
    subst hxy
    rw [ups_eq ha.2 hb.2 fun c => ⟨fun hc => ?_, fun hc => ?_⟩]
    · have h1 := (h c).1 (by simp [hc])
      rcases List.mem_cons.1 h1 with e | e
      · have := ha.1 c hc; omega
      · exact e
    · have h1 := (h c).2 (by simp [hc])
      rcases List.mem_cons.1 h1 with e | e
      · have := hb.1 c hc; omega
      · exact e
theorem Ups.eq {l a b : List Int} (ha : Ups l a) (hb : Ups l b) : a = b := ups_eq ha.up hb.up fun c => (ha.mem c).trans (hb.mem c).symm
theorem Ups.len {l a : List Int} (ha : Ups l a) : a.length ≤ l.length := by
  have : ∀ (a l : List Int), a.Pairwise (· < ·) → (∀ c ∈ a, c ∈ l) → a.length ≤ l.length := by
    intro a
    induction a with
    | nil => intro l _ _; simp
    | cons x a ih =>
      intro l hp hm
      rw [List.pairwise_cons] at hp
      have := ih (l.erase x) hp.2 fun c hc => by
        have hne : c ≠ x := fun e => by have := hp.1 c hc; omega
        rw [List.mem_erase_of_ne hne]
        exact hm c (by simp [hc])
      have hx := hm x (by simp)
      rw [List.length_erase_of_mem hx] at this
      have := List.length_pos_of_mem hx
      simp only [List.length_cons]; omega
  exact this a l ha.up fun c hc => (ha.mem c).1 hc
theorem colsOf_len (ps : List (Nat × ET)) : (colsOf ps).length ≤ ps.length := by
  unfold colsOf
  rw [List.length_map]
  exact List.length_filter_le _ _

theorem xbook_start {w : World} {B base : Nat} (hB : w.heap[B]? = some (.cells (bookCells (.slice none 0 0) (.slice none 0 0)) 73 (0, 0))) (hb : base ≤ B) : XBook w B base 0 (fun _ => False) :=
  ⟨hb, .slice none 0 0, .slice none 0 0, 0, 0, fun _ => .slice none 0 0, fun _ => .slice none 0 0, fun _ => 0, fun _ => 0, hB,
    ⟨World.ownsRow_nil _ _ _ _, fun _ => rfl, fun i hi => by omega, fun i j g hi => by omega, by omega, fun i hi => by omega⟩,
    ⟨World.ownsRow_nil _ _ _ _, fun _ => rfl, fun i hi => by omega, fun i j g hi => by omega, by omega, fun i hi => by omega⟩,
    by omega, by omega, fun g ⟨i, hi, _⟩ => by omega, fun g ⟨i, hi, _⟩ => by omega⟩

theorem XBook.below {w w' : World} {B base c : Nat} {U : Nat → Prop} (h : XBook w B base c U) (hb : Below w.heap.size w w') : XBook w' B base c U := by
  obtain ⟨hB0, v2, v12, n2, n12, f2, f12, l2, l12, hB, h2, h12, k2, k12, u2, u12⟩ := h
  exact ⟨hB0, v2, v12, n2, n12, f2, f12, l2, l12, (hb.block B (lt_of_heap hB)).trans hB, h2.frame fun g cur t hg _ => hb.block g (lt_of_heap hg), h12.frame fun g cur t hg _ => hb.block g (lt_of_heap hg), k2, k12, u2, u12⟩

set_option maxRecDepth 100000 in
set_option maxHeartbeats 8000000 in
theorem keeps_6 (cols : List Int) (e : ET) (a : Option Addr) (cc : Nat) (va : Option Addr) (vcc : Nat) (w : World) (hat : e.At w (.slice a e.kids.length cc)) (hints : IntsAt w (.slice va cols.length vcc) cols) (hfit : e.fits) (hcl : cols.length ≤ 17592186043904) (hT : Lib.Utf8Tabs 1 2 w) (h11 : 3 ≤ w.heap.size)
    (hkn : ∀ W, Below w.heap.size w W → Calls Tryz.prog 14 #[] W fun ev W' => ev = .returned (.bool true) ∧ Below W.heap.size W W') :
    Calls Tryz.prog 6 #[e.agg (.slice a e.kids.length cc), .slice va cols.length vcc] w fun ev w' => ev = .returned (.bool true) ∧ Below w.heap.size w w' := by
  have HAT := Lib.hid hat
  have HI := Lib.hid hints
  have HT := Lib.hid hT
  have HKN := Lib.hid hkn
  have HFIT := Lib.hid hfit
  have hfar := far_8 e a e.kids.length cc (w.alloc (.cells #[.int .u8 e.op, .slice a e.kids.length cc, .int .i64 e.col, .int .u8 e.lit.kind, .bool e.lit.bool, .int .i64 e.lit.int, .string e.lit.text] 27)) (hat.below (one_below _ _)) hfit
  unfold ET.agg at hfar
  have HFAR := Lib.hid hfar
  clear hfar hat hints hT hkn hfit
  unfold ET.agg
  go_enter Tryz.func6, Tryz.ntmps6
  go_wp2_with fail
  refine HFAR.out.mono ?_
  rintro ev w1 ⟨rfl, hb1⟩
  have k2 := one_at hb1
  have HB1 := Lib.hid (stepA hb1)
  have K2 := Lib.hid k2
  have y0 := fun A => cell_of_heap (o := 0) (keepAt' k2 A) rfl
  have y1 := fun A => cell_of_heap (o := 1) (keepAt' k2 A) rfl
  have y2 := fun A => cell_of_heap (o := 2) (keepAt' k2 A) rfl
  have y3 := fun A => cell_of_heap (o := 3) (keepAt' k2 A) rfl
  have y4 := fun A => cell_of_heap (o := 4) (keepAt' k2 A) rfl
  have y5 := fun A => cell_of_heap (o := 5) (keepAt' k2 A) rfl
  have y6 := fun A => cell_of_heap (o := 6) (keepAt' k2 A) rfl
  clear hb1 k2 HFAR
  by_cases hf : 12000 < e.weight
  · rw [decide_eq_true hf]
    clear hf
    go_wp2
    go_ret
    exact ⟨rfl, HB1.out⟩
  rw [decide_eq_false hf]
  have hsz : e.size ≤ 12000 := by have := e.size_le_weight; omega
  have HSZ := Lib.hid hsz
  have h10 := fun (W : World) (hb : Below w.heap.size w W) => lent_10L e hsz _ W (HAT.out.below hb)
  unfold ET.agg at h10
  have H10 := Lib.hid h10
  clear hf hsz h10
  go_wp2_with fail
  refine (H10.out _ (HB1.out.alloc HB1.out.size _)).mono ?_
  rintro ev w2 ⟨kv', rfl, hon2, hb2⟩
  obtain ⟨a5, c5, rfl⟩ := hon2.slice
  have KB2 := Lib.hid (one_at hb2)
  have hb12 := stepA hb2
  have HON2 := Lib.hid hon2
  have K22 := Lib.hid (keepB K2.out hb12)
  have HB2 := Lib.hid (stepB HB1.out hb12)
  have HB12 := Lib.hid hb12
  clear y0 y1 y2 y3 y4 y5 y6
  clear hb2 hon2 hb12 H10
  go_wp2_with fail
  refine (lent_17 _ cols _ (HI.out.below (HB2.out.alloc HB2.out.size _)) hcl).mono ?_
  rintro ev w3 ⟨rfl, hown, hb3⟩
  have kx := one_at hb3
  have KX := Lib.hid kx
  rw [show ∀ A, (w2.alloc A).heap.size = w2.heap.size + 1 from fun A => by simp] at hown
  have HB23 := Lib.hid (stepA hb3)
  have HB3 := Lib.hid (stepB HB2.out (stepA hb3))
  have y0 := cell_of_heap (o := 0) kx rfl
  have y1 := cell_of_heap (o := 1) kx rfl
  have y2 := cell_of_heap (o := 2) kx rfl
  have y3 := cell_of_heap (o := 3) kx rfl
  have y4 := cell_of_heap (o := 4) kx rfl
  have y5 := cell_of_heap (o := 5) kx rfl
  have y6 := cell_of_heap (o := 6) kx rfl
  have hlent : LentI w3 _ _ cols := hown
  have HLENT := Lib.hid hlent
  have h22 := columns_22 e a5 c5 w3 HFIT.out (HON2.out.at.below HB23.out) (by have := HSZ.out; omega)
  unfold ET.agg at h22
  have H22 := Lib.hid h22
  clear kx hown hb3 hlent h22
  go_wp2_with fail
  refine H22.out.mono ?_
  rintro ev w4 ⟨lv, lks, rfl, hups, hrow4, hb34⟩
  obtain ⟨la, lc, rfl⟩ := ownsRow_slice hrow4
  have HUPS := Lib.hid hups
  have HROW := Lib.hid hrow4
  have HB34 := Lib.hid hb34
  have HB4 := Lib.hid (stepB HB3.out hb34)
  clear y0 y1 y2 y3 y4 y5 y6
  have kx := keepB KX.out hb34
  have y0 := cell_of_heap (o := 0) kx rfl
  have y1 := cell_of_heap (o := 1) kx rfl
  have y2 := cell_of_heap (o := 2) kx rfl
  have y3 := cell_of_heap (o := 3) kx rfl
  have y4 := cell_of_heap (o := 4) kx rfl
  have y5 := cell_of_heap (o := 5) kx rfl
  have y6 := cell_of_heap (o := 6) kx rfl
  have h18 := turn_18L cols e a5 c5 _ _ w4 HFIT.out ((HON2.out.at.below HB23.out).below hb34) (HLENT.out.at.below hb34).on (tabs_below HT.out HB4.out h11) (Nat.le_trans h11 HB4.out.size)
  unfold ET.agg at h18
  have H18 := Lib.hid h18
  clear hups hrow4 hb34 kx h18 H22
  go_wp2_with fail
  refine H18.out.mono ?_
  rintro ev w5 ⟨sa, sn, sc, rfl, hon5, hb45⟩
  have hs5 : sn = (rTurn cols e).kids.length := by
    obtain ⟨a9, c9, h9⟩ := hon5.slice
    cases h9
    rfl
  subst hs5
  have HON5 := Lib.hid hon5
  have HB45 := Lib.hid hb45
  have HB5 := Lib.hid (stepB HB4.out hb45)
  clear y0 y1 y2 y3 y4 y5 y6
  have kx := keepB (keepB KX.out HB34.out) hb45
  have y0 := fun A => cell_of_heap (o := 0) (keepAt' kx A) rfl
  have y1 := fun A => cell_of_heap (o := 1) (keepAt' kx A) rfl
  have y2 := fun A => cell_of_heap (o := 2) (keepAt' kx A) rfl
  have y3 := fun A => cell_of_heap (o := 3) (keepAt' kx A) rfl
  have y4 := fun A => cell_of_heap (o := 4) (keepAt' kx A) rfl
  have y5 := fun A => cell_of_heap (o := 5) (keepAt' kx A) rfl
  have y6 := fun A => cell_of_heap (o := 6) (keepAt' kx A) rfl
  have h18 := fun (W : World) (hb : Below w5.heap.size w5 W) => turn_18L cols e a5 c5 _ _ W HFIT.out ((((HON2.out.at.below HB23.out).below HB34.out).below HB45.out).below hb) (((HLENT.out.at.below HB34.out).below HB45.out).below hb).on (tabs_below HT.out (stepB HB5.out hb) h11) (Nat.le_trans h11 (stepB HB5.out hb).size)
  unfold ET.agg at h18
  have H182 := Lib.hid h18
  clear hon5 hb45 kx h18 H18
  unfold ET.agg
  go_wp2_with fail
  refine (H182.out _ (one_below _ _)).mono ?_
  rintro ev w6 ⟨ua, un, uc, rfl, hon6, hb56⟩
  have hs6 : un = (rTurn cols e).kids.length := by
    obtain ⟨a9, c9, h9⟩ := hon6.slice
    cases h9
    rfl
  subst hs6
  have KT6 := Lib.hid (one_at hb56)
  have HON6 := Lib.hid hon6
  have HB56 := Lib.hid (stepA hb56)
  have HB6 := Lib.hid (stepB HB5.out (stepA hb56))
  clear y0 y1 y2 y3 y4 y5 y6
  have k2 := keepB (keepB (keepB (keepB K22.out HB23.out) HB34.out) HB45.out) (stepA hb56)
  have y0 := fun A => cell_of_heap (o := 0) (keepAt' k2 A) rfl
  have y1 := fun A => cell_of_heap (o := 1) (keepAt' k2 A) rfl
  have y2 := fun A => cell_of_heap (o := 2) (keepAt' k2 A) rfl
  have y3 := fun A => cell_of_heap (o := 3) (keepAt' k2 A) rfl
  have y4 := fun A => cell_of_heap (o := 4) (keepAt' k2 A) rfl
  have y5 := fun A => cell_of_heap (o := 5) (keepAt' k2 A) rfl
  have y6 := fun A => cell_of_heap (o := 6) (keepAt' k2 A) rfl
  have h22 := fun (W : World) (hb : Below w.heap.size w W) => columns_22 e a cc W HFIT.out (HAT.out.below hb) (by have := HSZ.out; omega)
  unfold ET.agg at h22
  have H222 := Lib.hid h22
  clear hon6 hb56 k2 h22 H182
  unfold ET.agg
  go_wp2_with fail
  refine (H222.out _ (HB6.out.alloc HB6.out.size _)).mono ?_
  rintro ev w7 ⟨wv, wks, rfl, hups7, hrow7, hb67⟩
  obtain ⟨wa, wc, rfl⟩ := ownsRow_slice hrow7
  have KU7 := Lib.hid (one_at hb67)
  obtain rfl : lks = wks := HUPS.out.eq hups7
  have HWR := Lib.hid hrow7
  have HB67 := Lib.hid (stepA hb67)
  have HB7 := Lib.hid (stepB HB6.out (stepA hb67))
  clear y0 y1 y2 y3 y4 y5 y6
  have k2 := keepB (keepB (keepB (keepB (keepB K22.out HB23.out) HB34.out) HB45.out) HB56.out) (stepA hb67)
  have y0 := cell_of_heap (o := 0) k2 rfl
  have y1 := cell_of_heap (o := 1) k2 rfl
  have y2 := cell_of_heap (o := 2) k2 rfl
  have y3 := cell_of_heap (o := 3) k2 rfl
  have y4 := cell_of_heap (o := 4) k2 rfl
  have y5 := cell_of_heap (o := 5) k2 rfl
  have y6 := cell_of_heap (o := 6) k2 rfl
  have h18 := turn_18L cols e a cc va vcc w7 HFIT.out (HAT.out.below HB7.out) (HI.out.below HB7.out).on (tabs_below HT.out HB7.out h11) (Nat.le_trans h11 HB7.out.size)
  unfold ET.agg at h18
  have H183 := Lib.hid h18
  clear hups7 hrow7 hb67 k2 h18 H222
  go_wp2_with fail
  refine H183.out.mono ?_
  rintro ev w8 ⟨ta, tn, tc, rfl, hon8, hb78⟩
  have hs8 : tn = (rTurn cols e).kids.length := by
    obtain ⟨a9, c9, h9⟩ := hon8.slice
    cases h9
    rfl
  subst hs8
  clear y0 y1 y2 y3 y4 y5 y6
  -- the world where all that comes has come
  obtain ⟨V, hV⟩ : ∃ V, V = w8.alloc (.cells #[.int .u8 (rTurn cols e).op, .slice ta (rTurn cols e).kids.length tc, .int .i64 (rTurn cols e).col, .int .u8 (rTurn cols e).lit.kind, .bool (rTurn cols e).lit.bool, .int .i64 (rTurn cols e).lit.int, .string (rTurn cols e).lit.text] 27) := ⟨_, rfl⟩
  have q8 : Below w8.heap.size w8 V := by rw [hV]; exact one_below _ _
  have kW : V.heap[w8.heap.size]? = some (.cells #[.int .u8 (rTurn cols e).op, .slice ta (rTurn cols e).kids.length tc, .int .i64 (rTurn cols e).col, .int .u8 (rTurn cols e).lit.kind, .bool (rTurn cols e).lit.bool, .int .i64 (rTurn cols e).lit.int, .string (rTurn cols e).lit.text] 27 (0, 0)) := by rw [hV]; exact heap_alloc_new _ _
  have q7 := stepB hb78 q8
  have q6 := stepB HB67.out q7
  have q5 := stepB HB56.out q6
  have q4 := stepB HB45.out q5
  have q3 := stepB HB34.out q4
  have q2 := stepB HB23.out q3
  have q1 := stepB HB12.out q2
  have qw := stepB HB1.out q1
  have ktb : w5.heap.size < w6.heap.size := lt_of_heap KT6.out
  have kub : w6.heap.size < w7.heap.size := lt_of_heap KU7.out
  have kbb : w1.heap.size < w2.heap.size := lt_of_heap KB2.out
  have kcb : w2.heap.size + 1 < w3.heap.size := (HLENT.out.lt _ rfl).2
  have kww : w.heap.size < w1.heap.size := lt_of_heap K2.out
  have s34 := HB34.out.size
  have s45 := HB45.out.size
  have s78 := hb78.size
  have s8V := lt_of_heap kW
  have kB := keepB KB2.out q2
  have kX := keepB KX.out q3
  have kT := keepB KT6.out q6
  have kU := keepB KU7.out q7
  have hC := Below.ownsRow' q3 HLENT.out
  have hL := Below.ownsRow' q4 HROW.out
  have hWL := Below.ownsRow' q7 HWR.out
  obtain ⟨vt, tl, tap, tbl⟩ := HON5.out.below q5
  obtain ⟨vu, ul, uap, ubl⟩ := HON6.out.below q6
  obtain ⟨vw, wl, wap, wbl⟩ := hon8.below q8
  obtain ⟨vx, xl, xap, xbl⟩ := HON2.out.below q2
  simp only [World.size_alloc] at xbl ubl
  have hxb : ∀ g, BlkL vx g → w1.heap.size < g ∧ g < w2.heap.size := fun g hg => by have := xbl g hg; exact ⟨this.1, this.2⟩
  have hsh : Shape V (w2.heap.size + 1) 3 (cols.length + 2) := by
    rcases hC.2 with ⟨h, _⟩ | ⟨g, cap, cur, h, -, h1, -, -, h2, -⟩
    · cases h
    · cases h; exact ⟨cur, h1, by omega⟩
  have x1 : V.cell? ⟨w2.heap.size, 1, none⟩ = some (.slice a5 e.kids.length c5) := cell_of_heap kX rfl
  have HQW := Lib.hid qw
  have HL4 := Lib.hid HROW.out.lt
  have HKB := Lib.hid kB
  have HKT := Lib.hid kT
  have HKU := Lib.hid kU
  have HKW := Lib.hid kW
  have HL := Lib.hid hL
  have HWL := Lib.hid hWL
  have HTL := Lib.hid tl
  have HTA := Lib.hid tap
  have HTB := Lib.hid tbl
  have HUL := Lib.hid ul
  have HUA := Lib.hid uap
  have HUB := Lib.hid ubl
  have HWTL := Lib.hid wl
  have HWTB := Lib.hid wbl
  have HXB := Lib.hid hxb
  have HXL := Lib.hid xl
  have HXA := Lib.hid xap
  have HSH := Lib.hid hsh
  have HV := Lib.hid hV
  have hord : w.heap.size < w1.heap.size ∧ w1.heap.size < w2.heap.size ∧ w2.heap.size + 1 < w3.heap.size ∧ w3.heap.size ≤ w4.heap.size ∧ w4.heap.size ≤ w5.heap.size ∧ w5.heap.size < w6.heap.size ∧ w6.heap.size < w7.heap.size ∧ w7.heap.size ≤ w8.heap.size ∧ w8.heap.size < V.heap.size := by omega
  have HORD := Lib.hid hord
  rw [hV] at x1
  clear hV q8 kW q7 q6 q5 q4 q3 q2 q1 qw ktb kub kbb kcb kww s34 s45 s78 s8V kB kX kT kU hC hL hWL tl tap tbl ul uap ubl wl wap wbl xl xap xbl hxb hsh hord hon8 hb78
  clear H183 KU7 KT6 KX KB2 K22 K2 HON5 HON6 HON2 HROW HWR HLENT HB1 HB12 HB2 HB23 HB3 HB34 HB4 HB45 HB5 HB56 HB6 HB67 HB7
  unfold ET.agg
  go_wp2_with fail
  rw [← HV.out]
  refine (spoil_25 e _ vx V HXL.out HXA.out).mono ?_
  rintro ev w9 ⟨rfl, ho9⟩
  have HO9 := Lib.hid ho9
  clear ho9 x1
  go_wp2_with fail
  refine (spoil_26 (w2.heap.size + 1) cols.length (cols.length + 2) w9 (HSH.out.only HO9.out fun h => by have := HXB.out _ h; omega) (by omega) (by omega)).mono ?_
  rintro ev w10 ⟨rfl, hs10⟩
  obtain ⟨ow1, ow2, o23, o34, o45, o56, o67, o78, o8V⟩ := HORD.out
  have hfr : ∀ g, g < V.heap.size → (g ≤ w1.heap.size ∨ w2.heap.size ≤ g) → g ≠ w2.heap.size + 1 → w10.heap[g]? = V.heap[g]? := fun g h1 h2 h3 =>
    (hs10.1.block g (Nat.lt_of_lt_of_le h1 HO9.out.size) h3).trans (HO9.out.block g h1 fun h => by have := HXB.out g h; omega)
  have hb10 : Below w.heap.size w w10 := by
    have h9 : Below w.heap.size V w9 := only_below HO9.out (by omega) fun g hg => by have := HXB.out g hg; omega
    have h10 : Below w.heap.size w9 w10 := only_below hs10.1 (by have := HO9.out.size; omega) fun g hg => by omega
    exact (HQW.out.trans h9).trans h10
  have kB := (hfr w1.heap.size (by omega) (by omega) (by omega)).trans HKB.out
  have kT := (hfr w5.heap.size (by omega) (by omega) (by omega)).trans HKT.out
  have kU := (hfr w6.heap.size (by omega) (by omega) (by omega)).trans HKU.out
  have kW := (hfr w8.heap.size (by omega) (by omega) (by omega)).trans HKW.out
  have hL := ownsRow_frame HL.out fun g hg => by have := HL.out.lt g hg; exact hfr g (by omega) (by omega) (by omega)
  have hWL := ownsRow_frame HWL.out fun g hg => by have := HWL.out.lt g hg; exact hfr g (by omega) (by simp only [World.size_alloc] at this; omega) (by simp only [World.size_alloc] at this; omega)
  have tl := HTL.out.frame (w' := w10) fun g hg hl => by have h := HTB.out g hg; exact hfr g hl (by have := h.1; omega) (by have := h.1; omega)
  have ul := HUL.out.frame (w' := w10) fun g hg hl => by have h := HUB.out g hg; exact hfr g hl (by have := h.1; omega) (by have := h.1; omega)
  have wl := HWTL.out.frame (w' := w10) fun g hg hl => by have h := HWTB.out g hg; exact hfr g hl (by have := h.1; omega) (by have := h.1; omega)
  have hcl22 : lks.length ≤ 12000 := by
    have := HUPS.out.len
    have := colsOf_len (e.pre 1)
    have := pre_len e 1
    have := HSZ.out
    omega
  have h27 := same_27 (.slice la lks.length lc) (.slice wa lks.length wc) lks w10 (intsAt_of_owns hL) (intsAt_of_owns hWL) (by omega)
  have H27 := Lib.hid h27
  have hRs := rTurn_size cols e HSZ.out
  have HRS := Lib.hid hRs
  have HB10 := Lib.hid hb10
  have TL := Lib.hid tl
  have UL := Lib.hid ul
  have WL := Lib.hid wl
  have LL := Lib.hid hL
  have KB := Lib.hid kB
  have KT := Lib.hid kT
  have KU := Lib.hid kU
  have KW := Lib.hid kW
  clear hs10 hfr hb10 kB kT kU kW hL hWL tl ul wl h27 hRs HO9 HSH HXL HXA HKB HKT HKU HKW HTL HUL HWTL HWTB HL HWL HQW HXB
  clear HUPS
  go_wp2_with fail
  refine H27.out.mono ?_
  rintro ev w11 ⟨rfl, kk, hkk⟩
  have hb11 : Below w10.heap.size w10 w11 := by rw [hkk]; exact Go.Pen.below_drewN (Below.refl _ _)
  clear hkk
  have kt := keepB KT.out hb11
  have kw := keepB KW.out hb11
  have ku := keepB KU.out hb11
  have y0 := cell_of_heap (o := 0) kt rfl
  have y1 := cell_of_heap (o := 1) kt rfl
  have y2 := cell_of_heap (o := 2) kt rfl
  have y3 := cell_of_heap (o := 3) kt rfl
  have y4 := cell_of_heap (o := 4) kt rfl
  have y5 := cell_of_heap (o := 5) kt rfl
  have y6 := cell_of_heap (o := 6) kt rfl
  have z0 := cell_of_heap (o := 0) kw rfl
  have z1 := cell_of_heap (o := 1) kw rfl
  have z2 := cell_of_heap (o := 2) kw rfl
  have z3 := cell_of_heap (o := 3) kw rfl
  have z4 := cell_of_heap (o := 4) kw rfl
  have z5 := cell_of_heap (o := 5) kw rfl
  have z6 := cell_of_heap (o := 6) kw rfl
  have h15 := same_15 (rTurn cols e) HRS.out _ _ w11 ((ET.Lay.on (S := fun _ => True) _ _ _ TL.out fun _ _ => trivial).below hb11) ((ET.Lay.on (S := fun _ => True) _ _ _ WL.out fun _ _ => trivial).below hb11)
  unfold ET.agg at h15
  have H15 := Lib.hid h15
  have HB1011 := Lib.hid hb11
  have KU1 := Lib.hid ku
  have KW1 := Lib.hid kw
  clear kt kw ku hb11 h15 H27
  go_wp2_with fail
  refine H15.out.mono ?_
  rintro ev w12 ⟨rfl, hb12⟩
  have ku := keepB KU1.out hb12
  have kw := keepB KW1.out hb12
  clear y0 y1 y2 y3 y4 y5 y6 z0 z1 z2 z3 z4 z5 z6
  have y0 := cell_of_heap (o := 0) ku rfl
  have y1 := cell_of_heap (o := 1) ku rfl
  have y2 := cell_of_heap (o := 2) ku rfl
  have y3 := cell_of_heap (o := 3) ku rfl
  have y4 := cell_of_heap (o := 4) ku rfl
  have y5 := cell_of_heap (o := 5) ku rfl
  have y6 := cell_of_heap (o := 6) ku rfl
  have z0 := cell_of_heap (o := 0) kw rfl
  have z1 := cell_of_heap (o := 1) kw rfl
  have z2 := cell_of_heap (o := 2) kw rfl
  have z3 := cell_of_heap (o := 3) kw rfl
  have z4 := cell_of_heap (o := 4) kw rfl
  have z5 := cell_of_heap (o := 5) kw rfl
  have z6 := cell_of_heap (o := 6) kw rfl
  have h1012 := stepB HB1011.out hb12
  have h15 := same_15 (rTurn cols e) HRS.out _ _ w12 ((ET.Lay.on (S := fun _ => True) _ _ _ UL.out fun _ _ => trivial).below h1012) ((ET.Lay.on (S := fun _ => True) _ _ _ WL.out fun _ _ => trivial).below h1012)
  unfold ET.agg at h15
  have H152 := Lib.hid h15
  have HB1012 := Lib.hid h1012
  clear ku kw hb12 h1012 h15 H15 KU1 KW1
  go_wp2_with fail
  refine H152.out.mono ?_
  rintro ev w13 ⟨rfl, hb13⟩
  clear y0 y1 y2 y3 y4 y5 y6 z0 z1 z2 z3 z4 z5 z6
  have h1013 := stepB HB1012.out hb13
  have HB1013 := Lib.hid h1013
  have hxb := xbook_start (base := w.heap.size) (keepB KB.out h1013) (by omega)
  have h28 := ints_X w1.heap.size w.heap.size 0 (fun _ => False) (.slice la lks.length lc) lks.length _ w13 hxb (ownsRow_lower (Below.ownsRow' h1013 LL.out) (by omega)) (by omega) (by omega) (fun g _ h => h)
  have H28 := Lib.hid h28
  clear hb13 h1013 hxb h28 H152 HB1012 HB1011
  go_wp2_with fail
  refine H28.out.mono ?_
  rintro ev w14 ⟨rfl, hx14, hb14, hk14⟩
  have hbl14 : ∀ g, w.heap.size ≤ g → g < w10.heap.size → ∀ cur, w10.heap[g]? = some (.cells cur 27 (0, 0)) → w14.heap[g]? = w10.heap[g]? := fun g _ h2 cur hc => by
    have h13 := HB1013.out.block g h2
    exact (hk14 g cur (h13.trans hc)).trans h13
  have tl := TL.out.frame (w' := w14) fun g hg hl => by
    obtain ⟨cur, hc⟩ := TL.out.typed g hg
    exact hbl14 g (by have := (HTB.out g hg).1; omega) hl cur hc
  have ul := UL.out.frame (w' := w14) fun g hg hl => by
    obtain ⟨cur, hc⟩ := UL.out.typed g hg
    exact hbl14 g (by have := (HUB.out g hg).1; omega) hl cur hc
  have kt := (hbl14 _ (by omega) (lt_of_heap KT.out) _ KT.out).trans KT.out
  have ku := (hbl14 _ (by omega) (lt_of_heap KU.out) _ KU.out).trans KU.out
  have y1 : w14.cell? ⟨w5.heap.size, 1, none⟩ = some (.slice sa (rTurn cols e).kids.length sc) := cell_of_heap kt rfl
  have hll := HL4.out
  have h29 := exprs_29 (rTurn cols e) w1.heap.size w.heap.size 1 _ _ vt w14 hx14 tl HTA.out (fun g hg => by
    have h := HTB.out g hg
    refine ⟨by have := h.1; omega, fun hn => ?_⟩
    rcases hn with hn | hn
    · exact hn
    · have := hll g hn; have := h.1; omega) (by have := HRS.out; omega) (by have := HRS.out; omega)
  have H29 := Lib.hid h29
  have HB14 := Lib.hid ((HB10.out.trans (HB1013.out.mono HB10.out.size)).trans hb14)
  have UL14 := Lib.hid ul
  have KU14 := Lib.hid ku
  have HLL := Lib.hid hll
  clear hx14 hb14 hk14 hbl14 tl ul kt ku h29 H28 hll
  go_wp2_with fail
  refine H29.out.mono ?_
  rintro ev w15 ⟨rfl, hx15, ht15⟩
  have ul := UL14.out.turn ht15
  have ku := (ht15.2 _ _ 27 KU14.out (by decide)).trans KU14.out
  have z1 : w15.cell? ⟨w6.heap.size, 1, none⟩ = some (.slice ua (rTurn cols e).kids.length uc) := cell_of_heap ku rfl
  have h29 := exprs_29 (rTurn cols e) w1.heap.size w.heap.size (1 + (rTurn cols e).size) _ _ vu w15 hx15 ul HUA.out (fun g hg => by
    have h := HUB.out g hg
    refine ⟨by have := h.1; omega, fun hn => ?_⟩
    rcases hn with (hn | hn) | hn
    · exact hn
    · have := HLL.out g hn; have := h.1; omega
    · have h2 := HTB.out g hn; have := h2.2; have := h.1; omega) (by have := HRS.out; omega) (by have := HRS.out; omega)
  have H292 := Lib.hid h29
  have HB15 := Lib.hid (HB14.out.trans ht15.1)
  clear hx15 ht15 ul ku h29 H29 y1
  go_wp2_with fail
  refine H292.out.mono ?_
  rintro ev w16 ⟨rfl, hx16, ht16⟩
  have HB16 := Lib.hid (HB15.out.trans ht16.1)
  have HX16 := Lib.hid hx16
  clear hx16 ht16 H292 z1
  go_wp2_with fail
  refine (HKN.out w16 HB16.out).mono ?_
  rintro ev w17 ⟨rfl, hb17⟩
  have HX17 := Lib.hid (HX16.out.below hb17)
  have HB17 := Lib.hid (stepB HB16.out hb17)
  clear hb17
  go_wp2_with fail
  refine (own_X _ _ _ _ w17 HX17.out).mono ?_
  rintro ev w18 ⟨rfl, hb18⟩
  go_wp2_with fail
  go_ret
  exact ⟨rfl, HB17.out.trans hb18⟩
end Go.Proofs.YtolikaginhjbhaaGreatDoor
