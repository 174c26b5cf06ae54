import Derived.Test.YtolikaginhjbhaaGreatDoorHo
/- expr.turned. -/
namespace Go.Proofs.YtolikaginhjbhaaGreatDoor
open Go.RowKit Go.Pen
attribute [local go_sem ↓] Go.wp_at_zero Go.wp_at_succ

mutual
/-- with other columns -/
def ET.turn (cols : List Int) : ET → ET
  | .mk o c d ks => .mk o (if o = 1 then cols.getD c.toNat 0 else c) d (ET.turns cols ks)
def ET.turns (cols : List Int) : List ET → List ET
  | [] => []
  | k :: ks => k.turn cols :: ET.turns cols ks
end

theorem ET.turns_map (cols : List Int) : ∀ ks : List ET, ET.turns cols ks = ks.map (ET.turn cols)
  | [] => rfl
  | k :: ks => by simp [ET.turns, ET.turns_map cols ks]
theorem ET.turns_len (cols : List Int) (ks : List ET) : (ET.turns cols ks).length = ks.length := by rw [ET.turns_map, List.length_map]
theorem ET.turns_get {cols : List Int} {ks : List ET} {i : Nat} {k : ET} (h : ks[i]? = some k) : (ET.turns cols ks)[i]? = some (k.turn cols) := by rw [ET.turns_map, List.getElem?_map, h]; rfl

/-- a row of numbers in memory, in a block of S -/
def IntsOn (S : Nat → Prop) (w : World) (l : List Int) (v : Value) : Prop :=
  ∃ a c, v = .slice a l.length c ∧ (a = none → c = 0) ∧ (l ≠ [] → ∃ b o, a = some ⟨b, o, none⟩ ∧ S b ∧ ∀ i x, l[i]? = some x → w.cell? ⟨b, o + i, none⟩ = some (.int .i64 x))
theorem IntsOn.below {S : Nat → Prop} {w w' : World} {l : List Int} {v : Value} (h : IntsOn S w l v) (hb : Below w.heap.size w w') : IntsOn S w' l v := by
  obtain ⟨a, c, hv, hn, h⟩ := h
  refine ⟨a, c, hv, hn, fun hne => ?_⟩
  obtain ⟨b, o, ha, hS, hc⟩ := h hne
  exact ⟨b, o, ha, hS, fun i x hx => cell_keep hb (hc i x hx)⟩

def Turned (cols : List Int) (e : ET) : Prop := e.size ≤ 12000 → ∀ (S : Nat → Prop) (kv vc : Value) (deep : Nat) (w : World), e.At w kv → IntsOn S w cols vc → e.fits → e.good okD deep = true → e.within cols.length = true →
  Calls Tryz.prog 51 #[e.agg kv, vc] w fun ev w' => ∃ kv', ev = .returned ((e.turn cols).agg kv') ∧ (e.turn cols).On (Btw w.heap.size w'.heap.size) w' kv' ∧ Below w.heap.size w w'

theorem own_col_nn {c : Int} {d : Dat} {ks : List ET} (h : ET.own okD (.mk 1 c d ks) = true) : 0 ≤ c := ((own_mk h).2.1 rfl).1

set_option maxRecDepth 100000 in
set_option maxHeartbeats 2000000 in
theorem turned_51 (cols : List Int) : ∀ e : ET, Turned cols e := by
  refine ET.ind fun o c d ks ih hn S kv vc deep w hat hcols hfit hgood hwi => ?_
  obtain ⟨i0, hi0, hz0, hz1, hz2⟩ := info_parts info27
  simp only [ET.size] at hn
  obtain ⟨a, cc, rfl, -, hks⟩ := ET.On.iff.1 hat
  obtain ⟨va, vcc, rfl, -, hci⟩ := id hcols
  simp only [ET.kids] at hks
  simp only [ET.good, Bool.and_eq_true, decide_eq_true_eq, ET.goods_iff] at hgood
  obtain ⟨⟨hown, hdeep⟩, hgs⟩ := hgood
  simp only [ET.within, Bool.and_eq_true, ET.withins_iff] at hwi
  obtain ⟨hfar, hws⟩ := hwi
  simp only [ET.fits] at hfit
  obtain ⟨⟨ho0, ho1⟩, ⟨hc0, hc1⟩, -, -, hfs⟩ := hfit
  have hl := ET.sizes_len ks
  have HF := Lib.hid (ET.fitss_iff.1 hfs)
  have HKS := Lib.hid hks
  have IH := Lib.hid ih
  have HGS := Lib.hid hgs
  have HWS := Lib.hid hws
  have HCOLS := Lib.hid hcols
  obtain ⟨K, eK⟩ : ∃ K, K = ks.length := ⟨_, rfl⟩
  rw [← eK] at hl
  have EK := Lib.hid eK
  have HN : Hid (ET.sizes ks ≤ 12000) := Lib.hid (by omega)
  have hK : K ≤ 12000 := by omega
  unfold ET.agg
  simp only [ET.op, ET.col, ET.lit, ET.kids, ET.turn]
  rw [← eK]
  clear hks ih eK hn hl hat hgs hws hfs hcols
  obtain ⟨H, eH⟩ : ∃ H, H = w.heap.size := ⟨_, rfl⟩
  have EH := Lib.hid eH
  clear eH
  by_cases o1 : o = 1
  · subst o1
    have hcn := own_col_nn hown
    have hclt : c < cols.length := by
      simp at hfar
      exact hfar
    obtain ⟨cv, hcv⟩ : ∃ cv, cols[c.toNat]? = some cv := ⟨cols[c.toNat]'(by omega), List.getElem?_eq_getElem _⟩
    have hget : cols.getD c.toNat 0 = cv := by rw [List.getD_eq_getElem?_getD, hcv]; rfl
    obtain ⟨bc, oc, rfl, -, hcell⟩ := hci (fun h => by rw [h] at hclt; simp at hclt; omega)
    have x0 := hcell _ _ hcv
    have xc : (c.toNat : Int) = c := by omega
    have x1 := fun (A B : Obj) => cell_keep (two_below w A B) x0
    have xl : bc < w.heap.size := World.block_lt_of_cell? w _ x0
    rw [if_pos rfl, hget]
    clear hcell hget hcv hci hown hfar
    go_enter Tryz.func51, Tryz.ntmps51
    go_wp2_with fail
    obtain ⟨w1, hw1⟩ : ∃ w1, w1 = (w.alloc (.cells #[.int .u8 1, .slice a K cc, .int .i64 cv, .int .u8 d.kind, .bool d.bool, .int .i64 d.int, .string d.text] 27)).alloc (.cells #[.int .u8 0, .slice none 0 0, .int .i64 0, .int .u8 0, .bool false, .int .i64 0, .string ⟨#[]⟩] 27) := ⟨_, rfl⟩
    have hb1 : Below w.heap.size w w1 := by rw [hw1]; exact two_below _ _ _
    have e0 : w1.heap[H]? = some (.cells #[.int .u8 1, .slice a K cc, .int .i64 cv, .int .u8 d.kind, .bool d.bool, .int .i64 d.int, .string d.text] 27 (0, 0)) := by
      rw [hw1, EH.out, Below.heap_alloc _ _ _ (by simp)]; exact heap_alloc_new _ _
    have e1 : w1.heap[H + 1]? = some (.cells #[.int .u8 0, .slice none 0 0, .int .i64 0, .int .u8 0, .bool false, .int .i64 0, .string ⟨#[]⟩] 27 (0, 0)) := by
      rw [hw1, EH.out]
      have h := heap_alloc_new (w.alloc (.cells #[.int .u8 1, .slice a K cc, .int .i64 cv, .int .u8 d.kind, .bool d.bool, .int .i64 d.int, .string d.text] 27)) (.cells #[.int .u8 0, .slice none 0 0, .int .i64 0, .int .u8 0, .bool false, .int .i64 0, .string ⟨#[]⟩] 27)
      rw [World.size_alloc] at h
      exact h
    have hs1 : w1.heap.size = H + 2 := by rw [hw1, EH.out]; simp
    rw [← hw1, ← EH.out]
    have HS1 := Lib.hid hs1
    have E0' := Lib.hid e0
    have E1' := Lib.hid e1
    have HB1 := Lib.hid hb1
    clear hw1 hb1 e0 e1 hs1
    go_loopg [5, 20] K (fun g s5 s20 wr => ∃ i : Nat, i ≤ K ∧ g = K - i ∧ s20 = .int .i64 i ∧ LRel (ET.turns cols ks) w1 i s5 wr)
    case atStart => exact ⟨0, Nat.zero_le _, by omega, rfl, [], World.ownsRow_nil _ _ _ _, fun j x hj => by omega, Below.refl _ _⟩
    case round =>
      obtain ⟨i, hi, rfl, rfl, hrl⟩ := hrel
      by_cases hlt : i < K
      · obtain ⟨k, hk⟩ : ∃ k, ks[i]? = some k := ⟨ks[i]'(by rw [← EK.out]; exact hlt), List.getElem?_eq_getElem _⟩
        obtain ⟨b, off, rfl, -, hats⟩ := HKS.out (fun e => by rw [e] at hk; simp at hk)
        obtain ⟨kv, hkc, hkat⟩ := hats.get hk
        obtain ⟨a', c', rfl⟩ := hkat.slice
        obtain ⟨xs, hown, hel, hbw⟩ := hrl
        have hbww : Below w.heap.size w wr := HB1.out.trans (hbw.mono HB1.out.size)
        obtain ⟨k0, k1, k2, k3, k4, k5, k6⟩ := hkc.below hbww
        have hct := fun (W : World) (hb : Below wr.heap.size wr W) => IH.out k (List.mem_of_getElem? hk) (Nat.le_trans (ET.sizes_mem (List.mem_of_getElem? hk)) HN.out) S _ _ (deep + 1) W ((hkat.below hbww).below hb) ((HCOLS.out.below hbww).below hb) (HF.out k (List.mem_of_getElem? hk)) (HGS.out k (List.mem_of_getElem? hk)) (HWS.out k (List.mem_of_getElem? hk))
        unfold ET.agg at hct
        have HCT := Lib.hid hct
        have HK := Lib.hid hk
        have HOW := Lib.hid hown
        have HEL := Lib.hid hel
        have HBW := Lib.hid hbw
        clear hats hkc hkat hct hk hown hel hbw hbww
        go_wp2_with fail
        refine (HCT.out _ (one_below _ _)).mono ?_
        rintro ev w3 ⟨kv', rfl, hon, hb3⟩
        obtain ⟨a3, c3, rfl⟩ := hon.slice
        have hb3' : Below wr.heap.size wr w3 := (one_below _ _).trans (hb3.mono (by simp))
        have hon' := hon.wide (S' := Btw wr.heap.size w3.heap.size) fun g hg => ⟨by have := hg.1; simp at this; omega, hg.2⟩
        have hsz3 := hb3'.size
        have hszw := HBW.out.size
        have HON := Lib.hid hon'
        have HB3 := Lib.hid hb3'
        clear hon hb3 hon' hb3' k0 k1 k2 k3 k4 k5 k6 HCT
        go_wp2_with (at_builtin; go_must (refine wpList_append_lies _ rfl _ _ 22 rfl w1.heap.size 27 i0 _ 7 72 Tryz.underlying22 hi0 hz0 hz1 hz2 rfl (by decide) u5 i xs rfl ((Below.ownsRow' HB3.out HOW.out).alloc _) ⟨w3.heap.size, 0, none⟩ 1 1 ((k.turn cols).cells (.slice a3 (k.turn cols).kids.length c3)) rfl rfl ?c1 ?c2 (by decide) ?c3 ?c4 ?c5 _ rfl ?_))
        case c1 =>
          intro j u hj
          rw [add_lit, Nat.zero_add]
          exact cell_of_heap (heap_alloc_new _ _) (by rw [List.getElem?_toArray]; exact hj)
        case c2 => intro u hu; simp [ET.cells] at hu; rcases hu with rfl | rfl | rfl | rfl | rfl | rfl | rfl <;> rfl
        case c3 => unfold maxLen; omega
        case c4 => omega
        case c5 => simp; omega
        intro g cap w5 hown5 hgrow hat5 _
        have hstep : LRel (ET.turns cols ks) w1 (i + 1) (.slice (some ⟨g, 0, none⟩) (i + 1) cap) w5 := by
          refine lrel_step HOW.out HEL.out HBW.out (ET.turns_get HK.out) HB3.out HON.out ((Below.refl _ _).alloc (Nat.le_refl _) _) hown5 hgrow fun g' hg' => ?_
          cases hg'
          rcases hat5 with h | h
          · exact .inl h
          · exact .inr (by rw [World.size_alloc]; exact Nat.le_of_eq h.symm)
        have HS := Lib.hid hstep
        clear hstep hown5 hgrow hat5
        go_wp2
        go_roundg (K - (i + 1))
        case measure => omega
        case rel => exact ⟨i + 1, by omega, rfl, by go_num, HS.out⟩
      · obtain rfl : K = i := by omega
        obtain ⟨xs, hown, hel, hb2⟩ := hrl
        have hlen := ET.turns_len cols ks
        rw [← EK.out] at hlen
        have hon : (ET.mk 1 cv d (ET.turns cols ks)).On (Btw w1.heap.size wr.heap.size) wr u5 := by
          refine on_of_row (xs := xs) (by rw [hlen]; exact hown) (Nat.le_refl _) (fun j k hk => ?_) 1 cv d
          obtain ⟨lo, hi, q1, q2, -, kv, h1, h2⟩ := hel j k (by rw [← hlen]; exact (List.getElem?_eq_some_iff.1 hk).1) hk
          exact ⟨kv, h1, h2.wide fun g hg => ⟨Nat.le_trans q1 hg.1, Nat.lt_of_lt_of_le hg.2 q2⟩⟩
        obtain ⟨aa, c2, rfl⟩ := hon.slice
        simp only [ET.kids] at hon ⊢
        rw [hlen] at hon ⊢
        have E0 := Lib.hid ((hb2.block H (lt_of_heap E0'.out)).trans E0'.out)
        have E1 := Lib.hid ((hb2.block (H + 1) (lt_of_heap E1'.out)).trans E1'.out)
        have HON := Lib.hid hon
        have HB2 := Lib.hid hb2
        have HLEN := Lib.hid hlen
        clear hon hb2 E0' E1' hown hel hlen
        have a0 : wr.cell? ⟨H, 0, none⟩ = some (.int .u8 1) := cell_of_heap E0.out rfl
        have a1 : wr.cell? ⟨H, 1, none⟩ = some (.slice a K cc) := cell_of_heap E0.out rfl
        have a2 : wr.cell? ⟨H, 2, none⟩ = some (.int .i64 cv) := cell_of_heap E0.out rfl
        have a3 : wr.cell? ⟨H, 3, none⟩ = some (.int .u8 d.kind) := cell_of_heap E0.out rfl
        have a4 : wr.cell? ⟨H, 4, none⟩ = some (.bool d.bool) := cell_of_heap E0.out rfl
        have a5 : wr.cell? ⟨H, 5, none⟩ = some (.int .i64 d.int) := cell_of_heap E0.out rfl
        have a6 : wr.cell? ⟨H, 6, none⟩ = some (.string d.text) := cell_of_heap E0.out rfl
        have f1 : wr.frozen? ⟨H, 1, none⟩ = false := frozen_of_heap E0.out
        have z0 : wr.cell? ⟨H + 1, 0, none⟩ = some (.int .u8 0) := cell_of_heap E1.out rfl
        have z1 : wr.cell? ⟨H + 1, 1, none⟩ = some (.slice none 0 0) := cell_of_heap E1.out rfl
        have z2 : wr.cell? ⟨H + 1, 2, none⟩ = some (.int .i64 0) := cell_of_heap E1.out rfl
        have z3 : wr.cell? ⟨H + 1, 3, none⟩ = some (.int .u8 0) := cell_of_heap E1.out rfl
        have z4 : wr.cell? ⟨H + 1, 4, none⟩ = some (.bool false) := cell_of_heap E1.out rfl
        have z5 : wr.cell? ⟨H + 1, 5, none⟩ = some (.int .i64 0) := cell_of_heap E1.out rfl
        have z6 : wr.cell? ⟨H + 1, 6, none⟩ = some (.string ⟨#[]⟩) := cell_of_heap E1.out rfl
        have g0 : wr.frozen? ⟨H + 1, 0, none⟩ = false := frozen_of_heap E1.out
        have g1 : wr.frozen? ⟨H + 1, 1, none⟩ = false := frozen_of_heap E1.out
        have g2 : wr.frozen? ⟨H + 1, 2, none⟩ = false := frozen_of_heap E1.out
        have g3 : wr.frozen? ⟨H + 1, 3, none⟩ = false := frozen_of_heap E1.out
        have g4 : wr.frozen? ⟨H + 1, 4, none⟩ = false := frozen_of_heap E1.out
        have g5 : wr.frozen? ⟨H + 1, 5, none⟩ = false := frozen_of_heap E1.out
        have g6 : wr.frozen? ⟨H + 1, 6, none⟩ = false := frozen_of_heap E1.out
        go_wp2
        obtain ⟨W, eW⟩ : ∃ W, W = ((((((((wr.setCell ⟨H, 1, none⟩ (.slice aa K c2)).setCell ⟨H + 1, 0, none⟩ (.int .u8 1)).setCell ⟨H + 1, 1, none⟩ (.slice aa K c2)).setCell ⟨H + 1, 2, none⟩ (.int .i64 cv)).setCell ⟨H + 1, 3, none⟩ (.int .u8 d.kind)).setCell ⟨H + 1, 4, none⟩ (.bool d.bool)).setCell ⟨H + 1, 5, none⟩ (.int .i64 d.int)).setCell ⟨H + 1, 6, none⟩ (.string d.text)) := ⟨_, rfl⟩
        have hW : W.heap[H + 1]? = some (.cells #[.int .u8 1, .slice aa K c2, .int .i64 cv, .int .u8 d.kind, .bool d.bool, .int .i64 d.int, .string d.text] 27 (0, 0)) := by
          rw [eW]
          have h := (heap_set_same (o := 6) (v := .string d.text) (heap_set_same (o := 5) (v := .int .i64 d.int) (heap_set_same (o := 4) (v := .bool d.bool) (heap_set_same (o := 3) (v := .int .u8 d.kind) (heap_set_same (o := 2) (v := .int .i64 cv) (heap_set_same (o := 1) (v := .slice aa K c2) (heap_set_same (o := 0) (v := .int .u8 1) ((heap_set_ne (o := 1) (v := .slice aa K c2) (show H + 1 ≠ H by omega)).trans E1.out))))))))
          simpa using h
        have hne : ∀ g, H + 2 ≤ g → W.heap[g]? = wr.heap[g]? := fun g hg => by
          rw [eW]
          simp only [heap_set_ne (show g ≠ H + 1 by omega), heap_set_ne (show g ≠ H by omega)]
        have hbW : Below w.heap.size wr W := by
          rw [eW]
          exact (((((((((Below.refl w.heap.size wr).setCell (p := ⟨H, 1, none⟩) (by show w.heap.size ≤ H; have := EH.out; omega) _).setCell (p := ⟨H + 1, 0, none⟩) (by show w.heap.size ≤ H + 1; have := EH.out; omega) _).setCell (p := ⟨H + 1, 1, none⟩) (by show w.heap.size ≤ H + 1; have := EH.out; omega) _).setCell (p := ⟨H + 1, 2, none⟩) (by show w.heap.size ≤ H + 1; have := EH.out; omega) _).setCell (p := ⟨H + 1, 3, none⟩) (by show w.heap.size ≤ H + 1; have := EH.out; omega) _).setCell (p := ⟨H + 1, 4, none⟩) (by show w.heap.size ≤ H + 1; have := EH.out; omega) _).setCell (p := ⟨H + 1, 5, none⟩) (by show w.heap.size ≤ H + 1; have := EH.out; omega) _).setCell (p := ⟨H + 1, 6, none⟩) (by show w.heap.size ≤ H + 1; have := EH.out; omega) _)
        rw [← eW]
        have HNE := Lib.hid hne
        have HBW := Lib.hid hbW
        have HSZ := Lib.hid (show W.heap.size = wr.heap.size by rw [eW]; simp [World.setCell])
        have HWW := Lib.hid hW
        clear eW hne hbW hW a0 a1 a2 a3 a4 a5 a6 f1 z0 z1 z2 z3 z4 z5 z6 g0 g1 g2 g3 g4 g5 g6
        refine bodyPost_ret (v := .agg #[.int .u8 1, .slice aa K c2, .int .i64 cv, .int .u8 d.kind, .bool d.bool, .int .i64 d.int, .string d.text]) (results_cell_row rfl _ _ (H + 1) 27 _ (0, 0) _ rfl HWW.out Tryz.underlying27 rfl (by kernel_rfl)) rfl ?_
        refine ⟨_, rfl, ?_, HB1.out.trans ((HB2.out.mono HB1.out.size).trans HBW.out)⟩
        have hle : w.heap.size ≤ w1.heap.size := HB1.out.size
        refine (HON.out.frame fun g hg _ => HNE.out g (by have := HS1.out; have := hg.1; omega)).wide fun g hg => ⟨by have := hg.1; omega, by have := hg.2; have := HSZ.out; omega⟩
  · have e1 : (o == 1) = false := by simpa using o1
    rw [if_neg o1]
    clear hci hown hfar
    go_enter Tryz.func51, Tryz.ntmps51
    go_wp2_with fail
    obtain ⟨w1, hw1⟩ : ∃ w1, w1 = (w.alloc (.cells #[.int .u8 o, .slice a K cc, .int .i64 c, .int .u8 d.kind, .bool d.bool, .int .i64 d.int, .string d.text] 27)).alloc (.cells #[.int .u8 0, .slice none 0 0, .int .i64 0, .int .u8 0, .bool false, .int .i64 0, .string ⟨#[]⟩] 27) := ⟨_, rfl⟩
    have hb1 : Below w.heap.size w w1 := by rw [hw1]; exact two_below _ _ _
    have e0 : w1.heap[H]? = some (.cells #[.int .u8 o, .slice a K cc, .int .i64 c, .int .u8 d.kind, .bool d.bool, .int .i64 d.int, .string d.text] 27 (0, 0)) := by
      rw [hw1, EH.out, Below.heap_alloc _ _ _ (by simp)]; exact heap_alloc_new _ _
    have e1 : w1.heap[H + 1]? = some (.cells #[.int .u8 0, .slice none 0 0, .int .i64 0, .int .u8 0, .bool false, .int .i64 0, .string ⟨#[]⟩] 27 (0, 0)) := by
      rw [hw1, EH.out]
      have h := heap_alloc_new (w.alloc (.cells #[.int .u8 o, .slice a K cc, .int .i64 c, .int .u8 d.kind, .bool d.bool, .int .i64 d.int, .string d.text] 27)) (.cells #[.int .u8 0, .slice none 0 0, .int .i64 0, .int .u8 0, .bool false, .int .i64 0, .string ⟨#[]⟩] 27)
      rw [World.size_alloc] at h
      exact h
    have hs1 : w1.heap.size = H + 2 := by rw [hw1, EH.out]; simp
    rw [← hw1, ← EH.out]
    have HS1 := Lib.hid hs1
    have E0' := Lib.hid e0
    have E1' := Lib.hid e1
    have HB1 := Lib.hid hb1
    clear hw1 hb1 e0 e1 hs1
    go_loopg [5, 20] K (fun g s5 s20 wr => ∃ i : Nat, i ≤ K ∧ g = K - i ∧ s20 = .int .i64 i ∧ LRel (ET.turns cols ks) w1 i s5 wr)
    case atStart => exact ⟨0, Nat.zero_le _, by omega, rfl, [], World.ownsRow_nil _ _ _ _, fun j x hj => by omega, Below.refl _ _⟩
    case round =>
      obtain ⟨i, hi, rfl, rfl, hrl⟩ := hrel
      by_cases hlt : i < K
      · obtain ⟨k, hk⟩ : ∃ k, ks[i]? = some k := ⟨ks[i]'(by rw [← EK.out]; exact hlt), List.getElem?_eq_getElem _⟩
        obtain ⟨b, off, rfl, -, hats⟩ := HKS.out (fun e => by rw [e] at hk; simp at hk)
        obtain ⟨kv, hkc, hkat⟩ := hats.get hk
        obtain ⟨a', c', rfl⟩ := hkat.slice
        obtain ⟨xs, hown, hel, hbw⟩ := hrl
        have hbww : Below w.heap.size w wr := HB1.out.trans (hbw.mono HB1.out.size)
        obtain ⟨k0, k1, k2, k3, k4, k5, k6⟩ := hkc.below hbww
        have hct := fun (W : World) (hb : Below wr.heap.size wr W) => IH.out k (List.mem_of_getElem? hk) (Nat.le_trans (ET.sizes_mem (List.mem_of_getElem? hk)) HN.out) S _ _ (deep + 1) W ((hkat.below hbww).below hb) ((HCOLS.out.below hbww).below hb) (HF.out k (List.mem_of_getElem? hk)) (HGS.out k (List.mem_of_getElem? hk)) (HWS.out k (List.mem_of_getElem? hk))
        unfold ET.agg at hct
        have HCT := Lib.hid hct
        have HK := Lib.hid hk
        have HOW := Lib.hid hown
        have HEL := Lib.hid hel
        have HBW := Lib.hid hbw
        clear hats hkc hkat hct hk hown hel hbw hbww
        go_wp2_with fail
        refine (HCT.out _ (one_below _ _)).mono ?_
        rintro ev w3 ⟨kv', rfl, hon, hb3⟩
        obtain ⟨a3, c3, rfl⟩ := hon.slice
        have hb3' : Below wr.heap.size wr w3 := (one_below _ _).trans (hb3.mono (by simp))
        have hon' := hon.wide (S' := Btw wr.heap.size w3.heap.size) fun g hg => ⟨by have := hg.1; simp at this; omega, hg.2⟩
        have hsz3 := hb3'.size
        have hszw := HBW.out.size
        have HON := Lib.hid hon'
        have HB3 := Lib.hid hb3'
        clear hon hb3 hon' hb3' k0 k1 k2 k3 k4 k5 k6 HCT
        go_wp2_with (at_builtin; go_must (refine wpList_append_lies _ rfl _ _ 22 rfl w1.heap.size 27 i0 _ 7 72 Tryz.underlying22 hi0 hz0 hz1 hz2 rfl (by decide) u5 i xs rfl ((Below.ownsRow' HB3.out HOW.out).alloc _) ⟨w3.heap.size, 0, none⟩ 1 1 ((k.turn cols).cells (.slice a3 (k.turn cols).kids.length c3)) rfl rfl ?c1 ?c2 (by decide) ?c3 ?c4 ?c5 _ rfl ?_))
        case c1 =>
          intro j u hj
          rw [add_lit, Nat.zero_add]
          exact cell_of_heap (heap_alloc_new _ _) (by rw [List.getElem?_toArray]; exact hj)
        case c2 => intro u hu; simp [ET.cells] at hu; rcases hu with rfl | rfl | rfl | rfl | rfl | rfl | rfl <;> rfl
        case c3 => unfold maxLen; omega
        case c4 => omega
        case c5 => simp; omega
        intro g cap w5 hown5 hgrow hat5 _
        have hstep : LRel (ET.turns cols ks) w1 (i + 1) (.slice (some ⟨g, 0, none⟩) (i + 1) cap) w5 := by
          refine lrel_step HOW.out HEL.out HBW.out (ET.turns_get HK.out) HB3.out HON.out ((Below.refl _ _).alloc (Nat.le_refl _) _) hown5 hgrow fun g' hg' => ?_
          cases hg'
          rcases hat5 with h | h
          · exact .inl h
          · exact .inr (by rw [World.size_alloc]; exact Nat.le_of_eq h.symm)
        have HS := Lib.hid hstep
        clear hstep hown5 hgrow hat5
        go_wp2
        go_roundg (K - (i + 1))
        case measure => omega
        case rel => exact ⟨i + 1, by omega, rfl, by go_num, HS.out⟩
      · obtain rfl : K = i := by omega
        obtain ⟨xs, hown, hel, hb2⟩ := hrl
        have hlen := ET.turns_len cols ks
        rw [← EK.out] at hlen
        have hon : (ET.mk o c d (ET.turns cols ks)).On (Btw w1.heap.size wr.heap.size) wr u5 := by
          refine on_of_row (xs := xs) (by rw [hlen]; exact hown) (Nat.le_refl _) (fun j k hk => ?_) o c d
          obtain ⟨lo, hi, q1, q2, -, kv, h1, h2⟩ := hel j k (by rw [← hlen]; exact (List.getElem?_eq_some_iff.1 hk).1) hk
          exact ⟨kv, h1, h2.wide fun g hg => ⟨Nat.le_trans q1 hg.1, Nat.lt_of_lt_of_le hg.2 q2⟩⟩
        obtain ⟨aa, c2, rfl⟩ := hon.slice
        simp only [ET.kids] at hon ⊢
        rw [hlen] at hon ⊢
        have E0 := Lib.hid ((hb2.block H (lt_of_heap E0'.out)).trans E0'.out)
        have E1 := Lib.hid ((hb2.block (H + 1) (lt_of_heap E1'.out)).trans E1'.out)
        have HON := Lib.hid hon
        have HB2 := Lib.hid hb2
        have HLEN := Lib.hid hlen
        clear hon hb2 E0' E1' hown hel hlen
        have a0 : wr.cell? ⟨H, 0, none⟩ = some (.int .u8 o) := cell_of_heap E0.out rfl
        have a1 : wr.cell? ⟨H, 1, none⟩ = some (.slice a K cc) := cell_of_heap E0.out rfl
        have a2 : wr.cell? ⟨H, 2, none⟩ = some (.int .i64 c) := cell_of_heap E0.out rfl
        have a3 : wr.cell? ⟨H, 3, none⟩ = some (.int .u8 d.kind) := cell_of_heap E0.out rfl
        have a4 : wr.cell? ⟨H, 4, none⟩ = some (.bool d.bool) := cell_of_heap E0.out rfl
        have a5 : wr.cell? ⟨H, 5, none⟩ = some (.int .i64 d.int) := cell_of_heap E0.out rfl
        have a6 : wr.cell? ⟨H, 6, none⟩ = some (.string d.text) := cell_of_heap E0.out rfl
        have f1 : wr.frozen? ⟨H, 1, none⟩ = false := frozen_of_heap E0.out
        have z0 : wr.cell? ⟨H + 1, 0, none⟩ = some (.int .u8 0) := cell_of_heap E1.out rfl
        have z1 : wr.cell? ⟨H + 1, 1, none⟩ = some (.slice none 0 0) := cell_of_heap E1.out rfl
        have z2 : wr.cell? ⟨H + 1, 2, none⟩ = some (.int .i64 0) := cell_of_heap E1.out rfl
        have z3 : wr.cell? ⟨H + 1, 3, none⟩ = some (.int .u8 0) := cell_of_heap E1.out rfl
        have z4 : wr.cell? ⟨H + 1, 4, none⟩ = some (.bool false) := cell_of_heap E1.out rfl
        have z5 : wr.cell? ⟨H + 1, 5, none⟩ = some (.int .i64 0) := cell_of_heap E1.out rfl
        have z6 : wr.cell? ⟨H + 1, 6, none⟩ = some (.string ⟨#[]⟩) := cell_of_heap E1.out rfl
        have g0 : wr.frozen? ⟨H + 1, 0, none⟩ = false := frozen_of_heap E1.out
        have g1 : wr.frozen? ⟨H + 1, 1, none⟩ = false := frozen_of_heap E1.out
        have g2 : wr.frozen? ⟨H + 1, 2, none⟩ = false := frozen_of_heap E1.out
        have g3 : wr.frozen? ⟨H + 1, 3, none⟩ = false := frozen_of_heap E1.out
        have g4 : wr.frozen? ⟨H + 1, 4, none⟩ = false := frozen_of_heap E1.out
        have g5 : wr.frozen? ⟨H + 1, 5, none⟩ = false := frozen_of_heap E1.out
        have g6 : wr.frozen? ⟨H + 1, 6, none⟩ = false := frozen_of_heap E1.out
        go_wp2
        obtain ⟨W, eW⟩ : ∃ W, W = ((((((((wr.setCell ⟨H, 1, none⟩ (.slice aa K c2)).setCell ⟨H + 1, 0, none⟩ (.int .u8 o)).setCell ⟨H + 1, 1, none⟩ (.slice aa K c2)).setCell ⟨H + 1, 2, none⟩ (.int .i64 c)).setCell ⟨H + 1, 3, none⟩ (.int .u8 d.kind)).setCell ⟨H + 1, 4, none⟩ (.bool d.bool)).setCell ⟨H + 1, 5, none⟩ (.int .i64 d.int)).setCell ⟨H + 1, 6, none⟩ (.string d.text)) := ⟨_, rfl⟩
        have hW : W.heap[H + 1]? = some (.cells #[.int .u8 o, .slice aa K c2, .int .i64 c, .int .u8 d.kind, .bool d.bool, .int .i64 d.int, .string d.text] 27 (0, 0)) := by
          rw [eW]
          have h := (heap_set_same (o := 6) (v := .string d.text) (heap_set_same (o := 5) (v := .int .i64 d.int) (heap_set_same (o := 4) (v := .bool d.bool) (heap_set_same (o := 3) (v := .int .u8 d.kind) (heap_set_same (o := 2) (v := .int .i64 c) (heap_set_same (o := 1) (v := .slice aa K c2) (heap_set_same (o := 0) (v := .int .u8 o) ((heap_set_ne (o := 1) (v := .slice aa K c2) (show H + 1 ≠ H by omega)).trans E1.out))))))))
          simpa using h
        have hne : ∀ g, H + 2 ≤ g → W.heap[g]? = wr.heap[g]? := fun g hg => by
          rw [eW]
          simp only [heap_set_ne (show g ≠ H + 1 by omega), heap_set_ne (show g ≠ H by omega)]
        have hbW : Below w.heap.size wr W := by
          rw [eW]
          exact (((((((((Below.refl w.heap.size wr).setCell (p := ⟨H, 1, none⟩) (by show w.heap.size ≤ H; have := EH.out; omega) _).setCell (p := ⟨H + 1, 0, none⟩) (by show w.heap.size ≤ H + 1; have := EH.out; omega) _).setCell (p := ⟨H + 1, 1, none⟩) (by show w.heap.size ≤ H + 1; have := EH.out; omega) _).setCell (p := ⟨H + 1, 2, none⟩) (by show w.heap.size ≤ H + 1; have := EH.out; omega) _).setCell (p := ⟨H + 1, 3, none⟩) (by show w.heap.size ≤ H + 1; have := EH.out; omega) _).setCell (p := ⟨H + 1, 4, none⟩) (by show w.heap.size ≤ H + 1; have := EH.out; omega) _).setCell (p := ⟨H + 1, 5, none⟩) (by show w.heap.size ≤ H + 1; have := EH.out; omega) _).setCell (p := ⟨H + 1, 6, none⟩) (by show w.heap.size ≤ H + 1; have := EH.out; omega) _)
        rw [← eW]
        have HNE := Lib.hid hne
        have HBW := Lib.hid hbW
        have HSZ := Lib.hid (show W.heap.size = wr.heap.size by rw [eW]; simp [World.setCell])
        have HWW := Lib.hid hW
        clear eW hne hbW hW a0 a1 a2 a3 a4 a5 a6 f1 z0 z1 z2 z3 z4 z5 z6 g0 g1 g2 g3 g4 g5 g6
        refine bodyPost_ret (v := .agg #[.int .u8 o, .slice aa K c2, .int .i64 c, .int .u8 d.kind, .bool d.bool, .int .i64 d.int, .string d.text]) (results_cell_row rfl _ _ (H + 1) 27 _ (0, 0) _ rfl HWW.out Tryz.underlying27 rfl (by kernel_rfl)) rfl ?_
        refine ⟨_, rfl, ?_, HB1.out.trans ((HB2.out.mono HB1.out.size).trans HBW.out)⟩
        have hle : w.heap.size ≤ w1.heap.size := HB1.out.size
        refine (HON.out.frame fun g hg _ => HNE.out g (by have := HS1.out; have := hg.1; omega)).wide fun g hg => ⟨by have := hg.1; omega, by have := hg.2; have := HSZ.out; omega⟩
end Go.Proofs.YtolikaginhjbhaaGreatDoor
