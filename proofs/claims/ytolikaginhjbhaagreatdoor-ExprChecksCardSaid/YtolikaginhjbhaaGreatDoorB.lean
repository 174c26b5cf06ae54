import Derived.Test.YtolikaginhjbhaaGreatDoorA
/- LentExpr, LentExprs: copies. -/
namespace Go.Proofs.YtolikaginhjbhaaGreatDoor
open Go.RowKit Go.Pen
attribute [local go_sem ↓] Go.wp_at_zero Go.wp_at_succ

theorem info27 : (Tryz.prog.info? 27).map (fun i => (i.zero, i.size, i.bytes)) = some (some (.agg #[.int .u8 0, .slice none 0 0, .int .i64 0, .int .u8 0, .bool false, .int .i64 0, .string ⟨#[]⟩]), 7, 72) := by kernel_rfl

/-- a part's cells -/
def ET.cells (k : ET) (kv : Value) : List Value := [.int .u8 k.op, kv, .int .i64 k.col, .int .u8 k.lit.kind, .bool k.lit.bool, .int .i64 k.lit.int, .string k.lit.text]

/-- between two numbers -/
def Btw (lo hi : Nat) (g : Nat) : Prop := lo ≤ g ∧ g < hi

/-- the part at seven cells of a row -/
def ElOn (S : Nat → Prop) (w : World) (xs : List Value) (j : Nat) (k : ET) : Prop := ∃ kv, (∀ (t : Nat) x, (k.cells kv)[t]? = some x → xs[j * 7 + t]? = some x) ∧ k.On S w kv

theorem on_of_row {w : World} {base hi : Nat} {v : Value} {ks : List ET} {xs : List Value} (h : w.ownsRow base 27 7 v ks.length xs) (hhi : w.heap.size ≤ hi) (hel : ∀ (j : Nat) k, ks[j]? = some k → ElOn (Btw base hi) w xs j k) (o c : Int) (d : Dat) : (ET.mk o c d ks).On (Btw base hi) w v := by
  rw [ET.On.iff]
  simp only [ET.kids]
  rcases Nat.eq_zero_or_pos ks.length with h0 | h0
  · have hnil : ks = [] := List.length_eq_zero_iff.1 h0
    subst hnil
    rcases h.2 with ⟨hv, -⟩ | ⟨g, cap, cur, hv, -⟩
    · exact ⟨none, 0, hv, fun _ => rfl, fun h => absurd rfl h⟩
    · exact ⟨some ⟨g, 0, none⟩, cap, hv, (fun h => by cases h), fun h => absurd rfl h⟩
  · obtain ⟨g, cap, rfl, hg1, hg2⟩ := h.form h0
    refine ⟨some ⟨g, 0, none⟩, cap, rfl, (fun h => by cases h), fun _ => ⟨g, 0, rfl, ⟨hg1, by omega⟩, ET.Ons.mk fun i k hk => ?_⟩⟩
    obtain ⟨kv, h1, h2⟩ := hel i k hk
    have hc := (ownsRow_heap h).2.2.2
    rw [Nat.zero_add]
    exact ⟨kv, ⟨hc _ _ (h1 0 _ rfl), hc _ _ (h1 1 _ rfl), hc _ _ (h1 2 _ rfl), hc _ _ (h1 3 _ rfl), hc _ _ (h1 4 _ rfl), hc _ _ (h1 5 _ rfl), hc _ _ (h1 6 _ rfl)⟩, h2⟩

/-- the loop's relation: so many have come -/
def LRel (ks : List ET) (w : World) (k : Nat) (v : Value) (wr : World) : Prop :=
  ∃ xs, wr.ownsRow w.heap.size 27 7 v k xs ∧ (∀ (j : Nat) x, j < k → ks[j]? = some x → ∃ lo hi, w.heap.size ≤ lo ∧ hi ≤ wr.heap.size ∧ (∀ g, v.ownBlock = some g → g < lo ∨ hi ≤ g) ∧ ElOn (Btw lo hi) wr xs j x) ∧ Below w.heap.size w wr

theorem lrel_step {ks : List ET} {w wr w3 w4 w5 : World} {k : Nat} {v v' kv : Value} {x : ET} {xs : List Value} (hown : wr.ownsRow w.heap.size 27 7 v k xs)
    (hel : ∀ (j : Nat) x, j < k → ks[j]? = some x → ∃ lo hi, w.heap.size ≤ lo ∧ hi ≤ wr.heap.size ∧ (∀ g, v.ownBlock = some g → g < lo ∨ hi ≤ g) ∧ ElOn (Btw lo hi) wr xs j x) (hb : Below w.heap.size w wr) (hx : ks[k]? = some x)
    (h3 : Below wr.heap.size wr w3) (hat : x.On (Btw wr.heap.size w3.heap.size) w3 kv) (h4 : Below w3.heap.size w3 w4) (h5 : w5.ownsRow w.heap.size 27 7 v' (k + 1) (xs ++ x.cells kv)) (hg : w4.grownBy w5 v.ownBlock) (hv' : ∀ g, v'.ownBlock = some g → v.ownBlock = some g ∨ w4.heap.size ≤ g) : LRel ks w (k + 1) v' w5 := by
  have s3 := h3.size
  have s4 := h4.size
  have s5 := hg.size
  have sb := hb.size
  have keep : ∀ {S : Nat → Prop} {e : ET} {u : Value} {W : World}, e.On S W u → Below W.heap.size W w4 → (∀ g, S g → v.ownBlock ≠ some g) → e.On S w5 u := fun {S e u W} ho hbl hne => by
    refine (ho.below hbl).frame fun g hS hgl => hg.block g hgl fun e => hne g hS e.symm
  refine ⟨_, h5, fun j y hj hy => ?_, ?_⟩
  · have hl := hown.1
    by_cases e : j < k
    · obtain ⟨lo, hi, q1, q2, q3, kv', h1, h2⟩ := hel j y e hy
      refine ⟨lo, hi, q1, by omega, fun g hgv => ?_, kv', fun t z hz => ?_, keep h2 (h3.trans (h4.mono s3)) fun g hS hgv => ?_⟩
      · rcases hv' g hgv with h | h
        · exact q3 g h
        · right; omega
      · have ht := (List.getElem?_eq_some_iff.1 hz).1
        simp only [ET.cells, List.length_cons, List.length_nil] at ht
        rw [List.getElem?_append_left (by omega)]
        exact h1 t z hz
      · have := q3 g hgv
        have := hS.1
        have := hS.2
        omega
    · obtain rfl : j = k := by omega
      rw [hx] at hy; cases hy
      refine ⟨wr.heap.size, w3.heap.size, sb, by omega, fun g hgv => ?_, kv, fun t z hz => ?_, keep hat h4 fun g hS hgv => ?_⟩
      · rcases hv' g hgv with h | h
        · left; exact (hown.lt g h).2
        · right; omega
      · rw [List.getElem?_append_right (by omega), show j * 7 + t - xs.length = t by omega]
        exact hz
      · have := (hown.lt g hgv).2
        have := hS.1
        omega
  · exact ((hb.trans (h3.mono sb)).trans (h4.mono (by omega))).grown hg (by omega) (fun g hg' => (hown.lt g hg').1)

theorem ET.sizes_mem : ∀ {ks : List ET} {k : ET}, k ∈ ks → k.size ≤ ET.sizes ks
  | [], k, h => by cases h
  | x :: ks, k, h => by
    simp only [ET.sizes]
    rcases List.mem_cons.1 h with rfl | h
    · omega
    · have := ET.sizes_mem h; omega
theorem ET.sizes_len : ∀ (ks : List ET), ks.length ≤ ET.sizes ks
  | [] => Nat.zero_le _
  | x :: ks => by
    have := ET.sizes_len ks
    have := x.size_pos
    simp only [ET.sizes, List.length_cons]; omega

def Lent10 (e : ET) : Prop := e.size ≤ 12000 → ∀ (kv : Value) (w : World), e.At w kv → Calls Tryz.prog 10 #[e.agg kv] w fun ev w' => ∃ kv', ev = .returned (e.agg kv') ∧ e.On (Btw w.heap.size w'.heap.size) w' kv' ∧ Below w.heap.size w w'

set_option maxRecDepth 100000 in
set_option maxHeartbeats 1000000 in
theorem lent_40 (ks : List ET) (o c : Int) (d : Dat) (hn : ET.sizes ks ≤ 12000) (ih : ∀ k ∈ ks, Lent10 k) (v : Value) (w : World) (hat : (ET.mk o c d ks).At w v) :
    Calls Tryz.prog 40 #[v] w fun ev w' => ∃ v', ev = .returned v' ∧ (ET.mk o c d ks).On (Btw w.heap.size w'.heap.size) w' v' ∧ Below w.heap.size w w' := by
  obtain ⟨i0, hi0, hz0, hz1, hz2⟩ := info_parts info27
  obtain ⟨a, cc, rfl, -, hks⟩ := ET.On.iff.1 hat
  simp only [ET.kids] at hks ⊢
  have hl := ET.sizes_len ks
  have HKS := Lib.hid hks
  have IH := Lib.hid ih
  obtain ⟨K, eK⟩ : ∃ K, K = ks.length := ⟨_, rfl⟩
  rw [← eK] at hl ⊢
  have EK := Lib.hid eK
  have HN := Lib.hid hn
  have hK : K ≤ 12000 := by omega
  clear hks ih eK hn hl hat
  go_enter Tryz.func40, Tryz.ntmps40
  go_wp2_with fail
  go_loopg [3, 4] K (fun g s3 s4 wr => ∃ i : Nat, i ≤ K ∧ g = K - i ∧ s4 = .int .i64 i ∧ LRel ks w i s3 wr)
  case atStart => exact ⟨0, Nat.zero_le _, by omega, rfl, [], World.ownsRow_nil _ _ _ _, fun j x hj => by omega, Below.refl _ _⟩
  case round =>
    obtain ⟨i, hi, rfl, rfl, hrl⟩ := hrel
    by_cases hlt : i < K
    · obtain ⟨k, hk⟩ : ∃ k, ks[i]? = some k := ⟨ks[i]'(by rw [← EK.out]; exact hlt), List.getElem?_eq_getElem _⟩
      obtain ⟨b, off, rfl, -, hats⟩ := HKS.out (fun e => by rw [e] at hk; simp at hk)
      obtain ⟨kv, hkc, hkat⟩ := hats.get hk
      obtain ⟨a', c', rfl⟩ := hkat.slice
      obtain ⟨xs, hown, hel, hbw⟩ := hrl
      obtain ⟨k0, k1, k2, k3, k4, k5, k6⟩ := hkc.below hbw
      have hct := IH.out k (List.mem_of_getElem? hk) (Nat.le_trans (ET.sizes_mem (List.mem_of_getElem? hk)) HN.out) _ wr (hkat.below hbw)
      unfold ET.agg at hct
      have HCT := Lib.hid hct
      have HK := Lib.hid hk
      have HOW := Lib.hid hown
      have HEL := Lib.hid hel
      have HBW := Lib.hid hbw
      clear hats hkc hkat hct hk hown hel hbw
      go_wp2_with fail
      refine HCT.out.mono ?_
      rintro ev w3 ⟨kv', rfl, hon, hb3⟩
      obtain ⟨a3, c3, rfl⟩ := hon.slice
      have hsz3 := hb3.size
      have hszw := HBW.out.size
      have HON := Lib.hid hon
      have HB3 := Lib.hid hb3
      clear hon hb3 k0 k1 k2 k3 k4 k5 k6 HCT
      go_wp2_with (at_builtin; go_must (refine wpList_append_lies _ rfl _ _ 22 rfl w.heap.size 27 i0 _ 7 72 Tryz.underlying22 hi0 hz0 hz1 hz2 rfl (by decide) u3 i xs rfl ((Below.ownsRow' HB3.out HOW.out).alloc _) ⟨w3.heap.size, 0, none⟩ 1 1 (k.cells (.slice a3 k.kids.length c3)) rfl rfl ?c1 ?c2 (by decide) ?c3 ?c4 ?c5 _ rfl ?_))
      case c1 =>
        intro j u hj
        rw [add_lit, Nat.zero_add]
        exact cell_of_heap (heap_alloc_new _ _) (by rw [List.getElem?_toArray]; exact hj)
      case c2 => intro u hu; simp [ET.cells] at hu; rcases hu with rfl | rfl | rfl | rfl | rfl | rfl | rfl <;> rfl
      case c3 => unfold maxLen; omega
      case c4 => omega
      case c5 => simp; omega
      intro g cap w5 hown5 hgrow hat5 _
      have hstep : LRel ks w (i + 1) (.slice (some ⟨g, 0, none⟩) (i + 1) cap) w5 := by
        refine lrel_step HOW.out HEL.out HBW.out HK.out HB3.out HON.out ((Below.refl _ _).alloc (Nat.le_refl _) _) hown5 hgrow fun g' hg' => ?_
        cases hg'
        rcases hat5 with h | h
        · exact .inl h
        · exact .inr (by rw [World.size_alloc]; exact Nat.le_of_eq h.symm)
      have HS := Lib.hid hstep
      clear hstep hown5 hgrow hat5
      go_wp2
      go_roundg (K - (i + 1))
      case measure => omega
      case rel => exact ⟨i + 1, by omega, rfl, by go_num, HS.out⟩
    · obtain rfl : i = K := by omega
      have HR := Lib.hid hrl
      clear hrl
      go_wp2
      go_ret
      obtain ⟨xs, hown, hel, hbw⟩ := HR.out
      refine ⟨_, rfl, on_of_row (xs := xs) (by rw [← EK.out]; exact hown) (Nat.le_refl _) (fun j k hk => ?_) o c d, hbw⟩
      obtain ⟨lo, hi, q1, q2, -, kv, h1, h2⟩ := hel j k (by rw [EK.out]; exact (List.getElem?_eq_some_iff.1 hk).1) hk
      exact ⟨kv, h1, h2.wide fun g hg => ⟨Nat.le_trans q1 hg.1, Nat.lt_of_lt_of_le hg.2 q2⟩⟩

set_option maxRecDepth 100000 in
set_option maxHeartbeats 1000000 in
theorem lent_10 : ∀ e : ET, Lent10 e := by
  refine ET.ind fun o c d ks ih hn kv w hat => ?_
  simp only [ET.size] at hn
  have h40 := lent_40 ks o c d (by omega) ih kv
  obtain ⟨a, cc, rfl⟩ := hat.slice
  simp only [ET.kids] at *
  obtain ⟨w1, hw1⟩ : ∃ w1, w1 = (w.alloc (.cells #[.int .u8 o, .slice a ks.length cc, .int .i64 c, .int .u8 d.kind, .bool d.bool, .int .i64 d.int, .string d.text] 27)).alloc (.cells #[.int .u8 0, .slice none 0 0, .int .i64 0, .int .u8 0, .bool false, .int .i64 0, .string ⟨#[]⟩] 27) := ⟨_, rfl⟩
  have hb1 : Below w.heap.size w w1 := by rw [hw1]; exact ((Below.refl _ _).alloc (Nat.le_refl _) _).alloc (by simp) _
  have HCT := Lib.hid (h40 w1 (hat.below hb1))
  have HB1 := Lib.hid hb1
  clear h40 hat ih
  unfold ET.agg
  simp only [ET.op, ET.col, ET.lit]
  go_enter Tryz.func10, Tryz.ntmps10
  go_wp2_with fail
  obtain ⟨H, eH⟩ : ∃ H, H = w.heap.size := ⟨_, rfl⟩
  have e0 : w1.heap[H]? = some (.cells #[.int .u8 o, .slice a ks.length cc, .int .i64 c, .int .u8 d.kind, .bool d.bool, .int .i64 d.int, .string d.text] 27 (0, 0)) := by
    rw [hw1, eH, Below.heap_alloc _ _ _ (by simp)]; exact heap_alloc_new _ _
  have e1 : w1.heap[H + 1]? = some (.cells #[.int .u8 0, .slice none 0 0, .int .i64 0, .int .u8 0, .bool false, .int .i64 0, .string ⟨#[]⟩] 27 (0, 0)) := by
    rw [hw1, eH]
    have h := heap_alloc_new (w.alloc (.cells #[.int .u8 o, .slice a ks.length cc, .int .i64 c, .int .u8 d.kind, .bool d.bool, .int .i64 d.int, .string d.text] 27)) (.cells #[.int .u8 0, .slice none 0 0, .int .i64 0, .int .u8 0, .bool false, .int .i64 0, .string ⟨#[]⟩] 27)
    rw [World.size_alloc] at h
    exact h
  have hs1 : w1.heap.size = H + 2 := by rw [hw1, eH]; simp
  rw [← hw1, ← eH]
  have EH := Lib.hid eH
  have HS1 := Lib.hid hs1
  have E0' := Lib.hid e0
  have E1' := Lib.hid e1
  clear hw1 hb1 eH e0 e1 hs1
  refine HCT.out.mono ?_
  rintro ev w2 ⟨v', rfl, hon, hb2⟩
  obtain ⟨aa, c2, rfl⟩ := hon.slice
  simp only [ET.kids]
  have E0 := Lib.hid ((hb2.block H (lt_of_heap E0'.out)).trans E0'.out)
  have E1 := Lib.hid ((hb2.block (H + 1) (lt_of_heap E1'.out)).trans E1'.out)
  have HON := Lib.hid hon
  have HB2 := Lib.hid hb2
  clear hon hb2 HCT E0' E1'
  have a0 : w2.cell? ⟨H, 0, none⟩ = some (.int .u8 o) := cell_of_heap E0.out rfl
  have a1 : w2.cell? ⟨H, 1, none⟩ = some (.slice a ks.length cc) := cell_of_heap E0.out rfl
  have a2 : w2.cell? ⟨H, 2, none⟩ = some (.int .i64 c) := cell_of_heap E0.out rfl
  have a3 : w2.cell? ⟨H, 3, none⟩ = some (.int .u8 d.kind) := cell_of_heap E0.out rfl
  have a4 : w2.cell? ⟨H, 4, none⟩ = some (.bool d.bool) := cell_of_heap E0.out rfl
  have a5 : w2.cell? ⟨H, 5, none⟩ = some (.int .i64 d.int) := cell_of_heap E0.out rfl
  have a6 : w2.cell? ⟨H, 6, none⟩ = some (.string d.text) := cell_of_heap E0.out rfl
  have f1 : w2.frozen? ⟨H, 1, none⟩ = false := frozen_of_heap E0.out
  have z0 : w2.cell? ⟨H + 1, 0, none⟩ = some (.int .u8 0) := cell_of_heap E1.out rfl
  have z1 : w2.cell? ⟨H + 1, 1, none⟩ = some (.slice none 0 0) := cell_of_heap E1.out rfl
  have z2 : w2.cell? ⟨H + 1, 2, none⟩ = some (.int .i64 0) := cell_of_heap E1.out rfl
  have z3 : w2.cell? ⟨H + 1, 3, none⟩ = some (.int .u8 0) := cell_of_heap E1.out rfl
  have z4 : w2.cell? ⟨H + 1, 4, none⟩ = some (.bool false) := cell_of_heap E1.out rfl
  have z5 : w2.cell? ⟨H + 1, 5, none⟩ = some (.int .i64 0) := cell_of_heap E1.out rfl
  have z6 : w2.cell? ⟨H + 1, 6, none⟩ = some (.string ⟨#[]⟩) := cell_of_heap E1.out rfl
  have g0 : w2.frozen? ⟨H + 1, 0, none⟩ = false := frozen_of_heap E1.out
  have g1 : w2.frozen? ⟨H + 1, 1, none⟩ = false := frozen_of_heap E1.out
  have g2 : w2.frozen? ⟨H + 1, 2, none⟩ = false := frozen_of_heap E1.out
  have g3 : w2.frozen? ⟨H + 1, 3, none⟩ = false := frozen_of_heap E1.out
  have g4 : w2.frozen? ⟨H + 1, 4, none⟩ = false := frozen_of_heap E1.out
  have g5 : w2.frozen? ⟨H + 1, 5, none⟩ = false := frozen_of_heap E1.out
  have g6 : w2.frozen? ⟨H + 1, 6, none⟩ = false := frozen_of_heap E1.out
  go_wp2_with fail
  obtain ⟨W, eW⟩ : ∃ W, W = ((((((((w2.setCell ⟨H, 1, none⟩ (.slice aa ks.length c2)).setCell ⟨H + 1, 0, none⟩ (.int .u8 o)).setCell ⟨H + 1, 1, none⟩ (.slice aa ks.length c2)).setCell ⟨H + 1, 2, none⟩ (.int .i64 c)).setCell ⟨H + 1, 3, none⟩ (.int .u8 d.kind)).setCell ⟨H + 1, 4, none⟩ (.bool d.bool)).setCell ⟨H + 1, 5, none⟩ (.int .i64 d.int)).setCell ⟨H + 1, 6, none⟩ (.string d.text)) := ⟨_, rfl⟩
  have hW : W.heap[H + 1]? = some (.cells #[.int .u8 o, .slice aa ks.length c2, .int .i64 c, .int .u8 d.kind, .bool d.bool, .int .i64 d.int, .string d.text] 27 (0, 0)) := by
    rw [eW]
    have h := (heap_set_same (o := 6) (v := .string d.text) (heap_set_same (o := 5) (v := .int .i64 d.int) (heap_set_same (o := 4) (v := .bool d.bool) (heap_set_same (o := 3) (v := .int .u8 d.kind) (heap_set_same (o := 2) (v := .int .i64 c) (heap_set_same (o := 1) (v := .slice aa ks.length c2) (heap_set_same (o := 0) (v := .int .u8 o) ((heap_set_ne (o := 1) (v := .slice aa ks.length c2) (show H + 1 ≠ H by omega)).trans E1.out))))))))
    simpa using h
  have hne : ∀ g, H + 2 ≤ g → W.heap[g]? = w2.heap[g]? := fun g hg => by
    rw [eW]
    simp only [heap_set_ne (show g ≠ H + 1 by omega), heap_set_ne (show g ≠ H by omega)]
  have hbW : Below w.heap.size w2 W := by
    rw [eW]
    exact (((((((((Below.refl w.heap.size w2).setCell (p := ⟨H, 1, none⟩) (by show w.heap.size ≤ H; have := EH.out; omega) _).setCell (p := ⟨H + 1, 0, none⟩) (by show w.heap.size ≤ H + 1; have := EH.out; omega) _).setCell (p := ⟨H + 1, 1, none⟩) (by show w.heap.size ≤ H + 1; have := EH.out; omega) _).setCell (p := ⟨H + 1, 2, none⟩) (by show w.heap.size ≤ H + 1; have := EH.out; omega) _).setCell (p := ⟨H + 1, 3, none⟩) (by show w.heap.size ≤ H + 1; have := EH.out; omega) _).setCell (p := ⟨H + 1, 4, none⟩) (by show w.heap.size ≤ H + 1; have := EH.out; omega) _).setCell (p := ⟨H + 1, 5, none⟩) (by show w.heap.size ≤ H + 1; have := EH.out; omega) _).setCell (p := ⟨H + 1, 6, none⟩) (by show w.heap.size ≤ H + 1; have := EH.out; omega) _)
  rw [← eW]
  have HNE := Lib.hid hne
  have HBW := Lib.hid hbW
  have HSZ := Lib.hid (show W.heap.size = w2.heap.size by rw [eW]; simp [World.setCell])
  have HWW := Lib.hid hW
  clear eW hne hbW hW a0 a1 a2 a3 a4 a5 a6 f1 z0 z1 z2 z3 z4 z5 z6 g0 g1 g2 g3 g4 g5 g6
  refine bodyPost_ret (v := .agg #[.int .u8 o, .slice aa ks.length c2, .int .i64 c, .int .u8 d.kind, .bool d.bool, .int .i64 d.int, .string d.text]) (results_cell_row rfl _ _ (H + 1) 27 _ (0, 0) _ rfl HWW.out Tryz.underlying27 rfl (by kernel_rfl)) rfl ?_
  refine ⟨_, rfl, ?_, HB1.out.trans ((HB2.out.mono HB1.out.size).trans HBW.out)⟩
  have hle : w.heap.size ≤ w1.heap.size := HB1.out.size
  refine (HON.out.frame fun g hg _ => HNE.out g (by have := HS1.out; have := hg.1; omega)).wide fun g hg => ⟨by have := hg.1; omega, by have := hg.2; have := HSZ.out; omega⟩
end Go.Proofs.YtolikaginhjbhaaGreatDoor
