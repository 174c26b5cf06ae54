import Derived.Test.YtolikaginhjbhaaGreatDoorB
/- SameExpr, SameExprs: of the same. -/
namespace Go.Proofs.YtolikaginhjbhaaGreatDoor
open Go.RowKit Go.Pen
attribute [local go_sem ↓] Go.wp_at_zero Go.wp_at_succ

def Same15 (e : ET) : Prop := e.size ≤ 12000 → ∀ (v1 v2 : Value) (w : World), e.At w v1 → e.At w v2 → Calls Tryz.prog 15 #[e.agg v1, e.agg v2] w fun ev w' => ev = .returned (.bool true) ∧ Below w.heap.size w w'

set_option maxRecDepth 100000 in
set_option maxHeartbeats 1000000 in
theorem same_48 (ks : List ET) (o c : Int) (d : Dat) (hn : ET.sizes ks ≤ 12000) (ih : ∀ k ∈ ks, Same15 k) (v1 v2 : Value) (w : World) (h1 : (ET.mk o c d ks).At w v1) (h2 : (ET.mk o c d ks).At w v2) :
    Calls Tryz.prog 48 #[v1, v2] w fun ev w' => ev = .returned (.bool true) ∧ Below w.heap.size w w' := by
  obtain ⟨a1, c1, rfl, -, h1⟩ := ET.On.iff.1 h1
  obtain ⟨a2, c2, rfl, -, h2⟩ := ET.On.iff.1 h2
  simp only [ET.kids] at *
  have hl := ET.sizes_len ks
  have H1 := Lib.hid h1
  have H2 := Lib.hid h2
  have IH := Lib.hid ih
  obtain ⟨K, eK⟩ : ∃ K, K = ks.length := ⟨_, rfl⟩
  rw [← eK] at hl ⊢
  have EK := Lib.hid eK
  have HN := Lib.hid hn
  have hK : K ≤ 12000 := by omega
  clear h1 h2 ih eK hn hl
  go_enter Tryz.func48, Tryz.ntmps48
  go_wp2_with fail
  go_loopg [5] K (fun g s5 wr => ∃ i : Nat, i ≤ K ∧ g = K - i ∧ s5 = .int .i64 i ∧ Below w.heap.size w wr)
  case atStart => exact ⟨0, Nat.zero_le _, by omega, rfl, Below.refl _ _⟩
  case round =>
    obtain ⟨i, hi, rfl, rfl, hbw⟩ := hrel
    by_cases hlt : i < K
    · obtain ⟨k, hk⟩ : ∃ k, ks[i]? = some k := ⟨ks[i]'(by rw [← EK.out]; exact hlt), List.getElem?_eq_getElem _⟩
      have hne : ks ≠ [] := fun e => by rw [e] at hk; simp at hk
      obtain ⟨b1, o1, rfl, -, t1⟩ := H1.out hne
      obtain ⟨b2, o2, rfl, -, t2⟩ := H2.out hne
      obtain ⟨kv1, hk1, hat1⟩ := t1.get hk
      obtain ⟨kv2, hk2, hat2⟩ := t2.get hk
      obtain ⟨a1', c1', rfl⟩ := hat1.slice
      obtain ⟨a2', c2', rfl⟩ := hat2.slice
      obtain ⟨p0, p1, p2, p3, p4, p5, p6⟩ := hk1.below hbw
      obtain ⟨q0, q1, q2, q3, q4, q5, q6⟩ := hk2.below hbw
      have hct : ∀ W, Below w.heap.size w W → _ := fun W hW => IH.out k (List.mem_of_getElem? hk) (Nat.le_trans (ET.sizes_mem (List.mem_of_getElem? hk)) HN.out) _ _ W (hat1.below hW) (hat2.below hW)
      unfold ET.agg at hct
      have HCT := Lib.hid hct
      have HBW := Lib.hid hbw
      clear hk hne t1 t2 hk1 hk2 hat1 hat2 hct hbw
      go_wp2_with fail
      go_region_held3 (fun w' => w'.cell? ⟨b1, o1 + i * 7, none⟩ = some (.int .u8 k.op) ∧ w'.cell? ⟨b1, o1 + i * 7 + 1, none⟩ = some (.slice a1' k.kids.length c1') ∧ w'.cell? ⟨b1, o1 + i * 7 + 2, none⟩ = some (.int .i64 k.col) ∧ w'.cell? ⟨b1, o1 + i * 7 + 3, none⟩ = some (.int .u8 k.lit.kind) ∧ w'.cell? ⟨b1, o1 + i * 7 + 4, none⟩ = some (.bool k.lit.bool) ∧ w'.cell? ⟨b1, o1 + i * 7 + 5, none⟩ = some (.int .i64 k.lit.int) ∧ w'.cell? ⟨b1, o1 + i * 7 + 6, none⟩ = some (.string k.lit.text) ∧ w'.cell? ⟨b2, o2 + i * 7, none⟩ = some (.int .u8 k.op) ∧ w'.cell? ⟨b2, o2 + i * 7 + 1, none⟩ = some (.slice a2' k.kids.length c2') ∧ w'.cell? ⟨b2, o2 + i * 7 + 2, none⟩ = some (.int .i64 k.col) ∧ w'.cell? ⟨b2, o2 + i * 7 + 3, none⟩ = some (.int .u8 k.lit.kind) ∧ w'.cell? ⟨b2, o2 + i * 7 + 4, none⟩ = some (.bool k.lit.bool) ∧ w'.cell? ⟨b2, o2 + i * 7 + 5, none⟩ = some (.int .i64 k.lit.int) ∧ w'.cell? ⟨b2, o2 + i * 7 + 6, none⟩ = some (.string k.lit.text))
        (first | with_reducible exact HT3.out | exact ⟨p0, p1, p2, p3, p4, p5, p6, q0, q1, q2, q3, q4, q5, q6⟩)
        ((go_at_call 15; refine (HCT.out _ ?_).mono ?_; (first | exact ⟨HBW.out.os, HBW.out.tape, HBW.out.output, HBW.out.size, HBW.out.block⟩); rintro ev w3 ⟨rfl, hb3⟩; have HB3 : Hid (Below wr.heap.size wr w3) := ⟨hb3.os, hb3.tape, hb3.output, hb3.size, hb3.block⟩; have HT3 := Lib.hid (And.intro (cell_keep HB3.out p0) (And.intro (cell_keep HB3.out p1) (And.intro (cell_keep HB3.out p2) (And.intro (cell_keep HB3.out p3) (And.intro (cell_keep HB3.out p4) (And.intro (cell_keep HB3.out p5) (And.intro (cell_keep HB3.out p6) (And.intro (cell_keep HB3.out q0) (And.intro (cell_keep HB3.out q1) (And.intro (cell_keep HB3.out q2) (And.intro (cell_keep HB3.out q3) (And.intro (cell_keep HB3.out q4) (And.intro (cell_keep HB3.out q5) (cell_keep HB3.out q6)))))))))))))); clear hb3))
      have HB3w : Hid (Below w.heap.size w w3) := HBW.out.trans (HB3.out.mono HBW.out.size)
      clear HT3 HB3 p0 p1 p2 p3 p4 p5 p6 q0 q1 q2 q3 q4 q5 q6
      go_wp2
      go_roundg (K - (i + 1))
      case measure => omega
      case rel => exact ⟨i + 1, by omega, rfl, by go_num, HB3w.out⟩
    · obtain rfl : i = K := by omega
      have HBW := Lib.hid hbw
      clear hbw
      go_wp2
      go_ret
      exact ⟨rfl, HBW.out⟩

set_option maxRecDepth 100000 in
set_option maxHeartbeats 1000000 in
theorem same_15 : ∀ e : ET, Same15 e := by
  refine ET.ind fun o c d ks ih hn v1 v2 w h1 h2 => ?_
  simp only [ET.size] at hn
  obtain ⟨a1, c1, rfl⟩ := h1.slice
  obtain ⟨a2, c2, rfl⟩ := h2.slice
  simp only [ET.kids] at *
  obtain ⟨w1, hw1⟩ : ∃ w1, w1 = (w.alloc (.cells #[.int .u8 o, .slice a1 ks.length c1, .int .i64 c, .int .u8 d.kind, .bool d.bool, .int .i64 d.int, .string d.text] 27)).alloc (.cells #[.int .u8 o, .slice a2 ks.length c2, .int .i64 c, .int .u8 d.kind, .bool d.bool, .int .i64 d.int, .string d.text] 27) := ⟨_, rfl⟩
  have hb1 : Below w.heap.size w w1 := by rw [hw1]; exact ((Below.refl _ _).alloc (Nat.le_refl _) _).alloc (by simp) _
  have HCT := Lib.hid (same_48 ks o c d (by omega) ih _ _ w1 (h1.below hb1) (h2.below hb1))
  have HB1 := Lib.hid hb1
  obtain ⟨dk, db, di, dt⟩ := d
  clear hb1 h1 h2 ih
  unfold ET.agg
  simp only [ET.op, ET.col, ET.lit]
  go_enter Tryz.func15, Tryz.ntmps15
  go_wp2_with fail
  rw [← hw1]
  refine HCT.out.mono ?_
  rintro ev w2 ⟨rfl, hb2⟩
  have HB2 : Hid (Below w.heap.size w w2) := HB1.out.trans (hb2.mono HB1.out.size)
  clear hb2 hw1 HCT
  go_wp2
  go_ret
  exact ⟨rfl, HB2.out⟩
end Go.Proofs.YtolikaginhjbhaaGreatDoor
