/- lent 4, whole 8. -/
import Derived.Test.YtpjfkfbijimliaaGreatDoorCe
namespace Go.Proofs.YtpjfkfbijimliaaGreatDoor
open Go.RowKit Go.Pen

theorem gsc_len (gs : List GTok) : (gsc gs).length = gs.length * 4 := by
  induction gs with
  | nil => rfl
  | cons x xs ih =>
    have e : gsc (x :: xs) = gc x ++ gsc xs := by simp [gsc]
    rw [e, List.length_append, ih, List.length_cons]
    show 4 + _ = _
    omega

theorem gsc_one (gs : List GTok) : ∀ u ∈ gsc gs, u.oneCell' = true := by
  intro u hu
  simp only [gsc, List.mem_flatMap] at hu
  obtain ⟨g, -, hu⟩ := hu
  simp only [gc, List.mem_cons, List.not_mem_nil, or_false] at hu
  rcases hu with rfl | rfl | rfl | rfl <;> rfl

theorem toks_gsc {w : World} {b o : Nat} {gs : List GTok} (h : ToksAt w b o gs) : ∀ j u, (gsc gs)[j]? = some u → w.cell? ⟨b, o + j, none⟩ = some u := by
  intro j u hj
  have hl := (List.getElem?_eq_some_iff.1 hj).1
  rw [gsc_len] at hl
  obtain ⟨g, hg⟩ : ∃ g, gs[j / 4]? = some g := ⟨_, List.getElem?_eq_getElem (by omega)⟩
  obtain ⟨a0, a1, a2, a3⟩ := gsc_at gs _ g hg
  obtain ⟨h0, h1, h2, h3⟩ := h _ g hg
  have hr : j % 4 = 0 ∨ j % 4 = 1 ∨ j % 4 = 2 ∨ j % 4 = 3 := by omega
  rcases hr with e | e | e | e
  · have e2 : j = j / 4 * 4 := by omega
    rw [e2] at hj ⊢
    rw [a0] at hj; cases hj; exact h0
  · have e2 : j = j / 4 * 4 + 1 := by omega
    rw [e2] at hj ⊢
    rw [a1] at hj; cases hj; rw [← Nat.add_assoc]; exact h1
  · have e2 : j = j / 4 * 4 + 2 := by omega
    rw [e2] at hj ⊢
    rw [a2] at hj; cases hj; rw [← Nat.add_assoc]; exact h2
  · have e2 : j = j / 4 * 4 + 3 := by omega
    rw [e2] at hj ⊢
    rw [a3] at hj; cases hj; rw [← Nat.add_assoc]; exact h3

def markc : List Value := [.int .u8 99, .string ⟨#[]⟩, .int .i64 0, .int .i64 0]

/-- lent tokens: with a marked one behind -/
def Lent (H : Nat) (w : World) (v : Value) (gs : List GTok) : Prop :=
  ∃ g cap, v = .slice (some ⟨g, 0, none⟩) gs.length cap ∧ w.ownsRow H 34 4 (.slice (some ⟨g, 0, none⟩) (gs.length + 1) cap) (gs.length + 1) (gsc gs ++ markc)

set_option maxRecDepth 100000 in
set_option maxHeartbeats 4000000 in
theorem lent_4 (gs : List GTok) (v : Value) (w : World) (hv : TokRow w v gs) (hnil : ∀ c, v = .slice none 0 c → c = 0) (hn : gs.length * 40 ≤ 140737488351232) :
    Calls Tryz.prog 4 #[v] w fun e w' => ∃ v', e = .returned v' ∧ Lent w.heap.size w' v' gs ∧ Below w.heap.size w w' := by
  obtain ⟨i0, hi, hz0, hz1, hz2⟩ := info_parts info37
  obtain ⟨a, c, rfl, hrow⟩ := hv
  obtain ⟨H, hH⟩ : ∃ H, w.heap.size = H := ⟨_, rfl⟩
  obtain ⟨n, hnn⟩ : ∃ n, gs.length = n := ⟨_, rfl⟩
  have hgl := gsc_len gs
  rw [hnn] at hn hgl hnil
  obtain ⟨X, hX⟩ : ∃ X, gsc gs = X := ⟨_, rfl⟩
  have hone := gsc_one gs
  have hcells : ∀ ad, a = some ad → ∀ j u, X[j]? = some u → w.cell? (ad.add j) = some u := by
    intro ad ha j u hj
    rw [← hX] at hj
    have hne : gs ≠ [] := by intro e; subst e; simp [gsc] at hj
    obtain ⟨b, o, ho, -, ht⟩ := hrow hne
    rw [ha] at ho; cases ho
    rw [add_lit]
    exact toks_gsc ht j u hj
  rw [hX] at hgl hone
  have hsome : 0 < n → ∃ ad, a = some ad := by
    intro h0
    obtain ⟨b, o, ho, -⟩ := hrow (by intro e; subst e; simp at hnn; omega)
    exact ⟨_, ho⟩
  unfold Lent
  rw [hH, hnn, hX]
  have HH := Lib.hid hH
  have HCE := Lib.hid hcells
  have HO := Lib.hid hone
  clear hH hnn hrow hX hcells hone
  cases a with
  | none =>
    have hn0 : n = 0 := by
      rcases Nat.eq_zero_or_pos n with h | h
      · exact h
      · obtain ⟨ad, had⟩ := hsome h; cases had
    subst hn0
    obtain rfl := hnil c rfl
    have hX0 : X = [] := List.eq_nil_of_length_eq_zero (by omega)
    subst hX0
    clear hsome hnil
    go_enter Tryz.func4, Tryz.ntmps4
    go_upto_region 3 with fail
    go_wp2_with (at_builtin; go_must (refine wpList_append_own _ rfl _ _ 22 rfl H 34 i0 (.agg #[.int .u8 0, .string ⟨#[]⟩, .int .i64 0, .int .i64 0]) 4 40 Tryz.underlying22 hi hz0 hz1 hz2 rfl (by decide) (.slice none 0 0) 0 [] rfl (World.ownsRow_nil _ _ _ _) ⟨w.heap.size, 0, none⟩ 1 1 markc rfl rfl ?c1 ?c2 ?c3 ?c4 ?c5 ?_))
    case c1 =>
      intro j u hj
      rw [add_lit, Nat.zero_add]
      exact cell_of_heap (heap_alloc_new w _) (by rw [List.getElem?_toArray]; exact hj)
    case c2 => intro u hu; simp [markc] at hu; rcases hu with rfl | rfl | rfl <;> rfl
    case c3 => unfold maxLen; omega
    case c4 => omega
    case c5 => simp; have := HH.out; omega
    intro v2 w2 hown2 hgrow2 _
    obtain ⟨g, cap, rfl⟩ : ∃ g cap, v2 = .slice (some ⟨g, 0, none⟩) 1 cap := by
      rcases hown2.2 with ⟨-, h⟩ | ⟨g, cap, cur, h, -⟩
      · omega
      · exact ⟨g, cap, h⟩
    have hb2 : Below H w w2 := ((Below.refl _ _).alloc (by have := HH.out; omega) _).grown hgrow2 (by simp; have := HH.out; omega) (fun g hg => by cases hg)
    have HB2 := Lib.hid hb2
    have HO2 := Lib.hid hown2
    clear hown2 hgrow2 hb2
    go_wp2_with fail
    go_ret
    exact ⟨_, rfl, ⟨g, cap, rfl, HO2.out⟩, HB2.out⟩
  | some ad =>
    clear hsome hnil
    go_enter Tryz.func4, Tryz.ntmps4
    go_wp2_with (at_builtin; go_must (refine wpList_append_own _ rfl _ _ 22 rfl H 34 i0 (.agg #[.int .u8 0, .string ⟨#[]⟩, .int .i64 0, .int .i64 0]) 4 40 Tryz.underlying22 hi hz0 hz1 hz2 rfl (by decide) (.slice none 0 0) 0 [] rfl (World.ownsRow_nil _ _ _ _) ad n c X rfl hgl (HCE.out ad rfl) HO.out ?c3 ?c4 ?c5 ?_))
    case c3 => unfold maxLen; omega
    case c4 => omega
    case c5 => rw [HH.out]; exact Nat.le_refl _
    intro v1 w1 hown1 hgrow1 _
    obtain ⟨va, vc, rfl⟩ := ownsRow_slice hown1
    have hb1 : Below H w w1 := (Below.refl _ _).grown hgrow1 (by rw [HH.out]; exact Nat.le_refl _) (fun g hg => by cases hg)
    have HB1 := Lib.hid hb1
    have HO1 := Lib.hid hown1
    have hs1 : H ≤ w1.heap.size := by have := hb1.size; have := HH.out; omega
    clear hown1 hgrow1 hb1
    go_wp2_with (at_builtin; go_must (refine wpList_append_own _ rfl _ _ 22 rfl H 34 i0 (.agg #[.int .u8 0, .string ⟨#[]⟩, .int .i64 0, .int .i64 0]) 4 40 Tryz.underlying22 hi hz0 hz1 hz2 rfl (by decide) (.slice va n vc) n X rfl (HO1.out.alloc _) ⟨w1.heap.size, 0, none⟩ 1 1 markc rfl rfl ?c1 ?c2 ?c3 ?c4 ?c5 ?_))
    case c1 =>
      intro j u hj
      rw [add_lit, Nat.zero_add]
      exact cell_of_heap (heap_alloc_new w1 _) (by rw [List.getElem?_toArray]; exact hj)
    case c2 => intro u hu; simp [markc] at hu; rcases hu with rfl | rfl | rfl <;> rfl
    case c3 => unfold maxLen; omega
    case c4 => omega
    case c5 => simp; omega
    intro v2 w2 hown2 hgrow2 _
    obtain ⟨g, cap, rfl⟩ : ∃ g cap, v2 = .slice (some ⟨g, 0, none⟩) (n + 1) cap := by
      rcases hown2.2 with ⟨-, h⟩ | ⟨g, cap, cur, h, -⟩
      · omega
      · exact ⟨g, cap, h⟩
    have hcap := (ownsRow_heap hown2).2.2.1
    have hb2 : Below H w w2 := (HB1.out.alloc hs1 _).grown hgrow2 (by simp; omega) (fun g hg => (HO1.out.lt g hg).1)
    have HB2 := Lib.hid hb2
    have HO2 := Lib.hid hown2
    have q0 : (0 : Int) ≤ (n : Int) := by omega
    have q1 : (n : Int) ≤ (cap : Int) := by omega
    clear hown2 hgrow2 hb2
    go_wp2_with fail
    go_ret
    exact ⟨_, rfl, ⟨g, cap, rfl, HO2.out⟩, HB2.out⟩

theorem lent_row {H : Nat} {w : World} {v : Value} {gs : List GTok} (h : Lent H w v gs) : TokRow w v gs := by
  obtain ⟨g, cap, rfl, ho⟩ := h
  obtain ⟨hbl, -, -, hc⟩ := ownsRow_heap ho
  refine ⟨some ⟨g, 0, none⟩, cap, rfl, fun _ => ⟨g, 0, rfl, hbl, fun i x hx => ?_⟩⟩
  have hi := (List.getElem?_eq_some_iff.1 hx).1
  obtain ⟨a0, a1, a2, a3⟩ := gsc_at gs i x hx
  have hl := gsc_len gs
  simp only [Nat.zero_add]
  exact ⟨hc _ _ (by rw [List.getElem?_append_left (by omega)]; exact a0), hc _ _ (by rw [List.getElem?_append_left (by omega)]; exact a1), hc _ _ (by rw [List.getElem?_append_left (by omega)]; exact a2), hc _ _ (by rw [List.getElem?_append_left (by omega)]; exact a3)⟩

set_option maxRecDepth 100000 in
set_option maxHeartbeats 4000000 in
theorem whole_8 (gs : List GTok) (v v0 : Value) (H : Nat) (w : World) (hl : Lent H w v gs) (hv : TokRow w v0 gs) (hn : gs.length * 40 ≤ 140737488351232) :
    Calls Tryz.prog 8 #[v, v0] w fun e w' => e = .returned (.bool true) ∧ Below w.heap.size w w' := by
  have hrow := lent_row hl
  have hsm := same_14 gs v v0 w hrow hv (by omega)
  obtain ⟨g, cap, rfl, ho⟩ := hl
  obtain ⟨a, c, rfl, -⟩ := hv
  obtain ⟨n, hnn⟩ : ∃ n, gs.length = n := ⟨_, rfl⟩
  have hgl := gsc_len gs
  rw [hnn] at ho hsm hn hgl ⊢
  obtain ⟨hbl, -, hcap, hc⟩ := ownsRow_heap ho
  have c99 : w.cell? ⟨g, n * 4, none⟩ = some (.int .u8 99) := hc (n * 4) _ (by rw [List.getElem?_append_right (by omega), hgl, Nat.sub_self]; rfl)
  have HS := Lib.hid hsm
  have q0 : (0 : Int) ≤ (n : Int) := by omega
  have q1 : (n : Int) + 1 ≤ (cap : Int) := by omega
  have q2 : (n : Int) < (n : Int) + 1 := by omega
  have q3 : (0 : Int) ≤ (n : Int) + 1 := by omega
  have hw1 : IntKind.i64.wrap ((n : Int) + 1) = (n : Int) + 1 := by rw [IntKind.wrap_i64]; omega
  clear hsm hrow ho hc hnn hgl
  go_enter Tryz.func8, Tryz.ntmps8
  go_wp2_with fail
  refine HS.out.mono ?_
  rintro _ w9 ⟨rfl, q, hq⟩
  rw [hq]
  clear hq
  go_wp2_with fail
  go_ret
  exact ⟨rfl, Go.Pen.below_drewN (Below.refl _ _)⟩
end Go.Proofs.YtpjfkfbijimliaaGreatDoor
