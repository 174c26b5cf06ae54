/- Book.Updates 11: a list of updates, with the lists within, laid into a book. -/
import Derived.Test.YtpoilgeffpedoaaOh
namespace Go.Proofs.Ytpoilgeffpedoaa
open Go.RowKit Go.Pen
attribute [local go_sem ↓] Go.wp_at_zero Go.wp_at_succ

/-- a book: at most c lists of each kind, their blocks in U -/
def BookIs (w : World) (B base c : Nat) (U : Nat → Prop) : Prop :=
  base ≤ B ∧ ∃ (v3 v4 v10 : Value) (n3 n4 n10 : Nat) (f3 f4 f10 : Nat → Value) (l3 l4 l10 : Nat → Nat), w.heap[B]? = some (.cells (bookCells v3 v4 v10) 63 (0, 0)) ∧ BkList 111 1 26 base w v3 n3 f3 l3 ∧ BkList 89 4 34 base w v4 n4 f4 l4 ∧ BkList 37 4 29 base w v10 n10 f10 l10 ∧
    n3 ≤ c ∧ n4 ≤ c ∧ n10 ≤ c ∧ (∀ g, SV n3 f3 g → U g) ∧ (∀ g, SV n4 f4 g → U g) ∧ ∀ g, SV n10 f10 g → U g

/-- what turns where a list is laid into a book -/
def BkTurn (base : Nat) (w w' : World) : Prop :=
  Below base w w' ∧ ∀ (g : Nat) (cur : Array Value) (t : TypeId), w.heap[g]? = some (.cells cur t (0, 0)) → (t ≠ 63 ∧ t ≠ 26 ∧ t ≠ 34 ∧ t ≠ 29) → w'.heap[g]? = w.heap[g]?

theorem BkTurn.refl (base : Nat) (w : World) : BkTurn base w w := ⟨Below.refl _ _, fun _ _ _ _ _ => rfl⟩
theorem BkTurn.trans {base : Nat} {w w1 w2 : World} (h : BkTurn base w w1) (h' : BkTurn base w1 w2) : BkTurn base w w2 :=
  ⟨h.1.trans h'.1, fun g cur t hg ht => (h'.2 g cur t ((h.2 g cur t hg ht).trans hg) ht).trans (h.2 g cur t hg ht)⟩

theorem BkTurn.own {base : Nat} {w w1 : World} (h : BkTurn base w w1) {e sz b l : Nat} {y : Value} {ys : List Value} (ho : w.ownsRow b e sz y l ys) (he : e ≠ 63 ∧ e ≠ 26 ∧ e ≠ 34 ∧ e ≠ 29) : w1.ownsRow b e sz y l ys :=
  ownsRow_frame ho fun g hg => by
    obtain ⟨-, -, cur, hc⟩ := ownsRow_block ho hg
    exact h.2 g cur e hc he

theorem BkTurn.of_only {base B : Nat} {w w' : World} {e sz tl n : Nat} {ov : Value} {v : Nat → Value} {ln : Nat → Nat} (hB : base ≤ B) (hb : base ≤ w.heap.size) {cs : Array Value} (hc : w.heap[B]? = some (.cells cs 63 (0, 0))) (hl : BkList e sz tl base w ov n v ln) (htl : tl = 26 ∨ tl = 34 ∨ tl = 29)
    (h : Only (fun g => g = B ∨ ov.ownBlock = some g) w w') : BkTurn base w w' := by
  refine ⟨only_below h hb fun g hg => ?_, fun g cur t hg ht => h.block g (lt_of_heap hg) fun hs => ?_⟩
  · rcases hg with rfl | hg
    · exact hB
    · exact (ownsRow_block hl.outer hg).1
  · rcases hs with rfl | hs
    · exact type_ne hg hc ht.1 rfl
    · obtain ⟨-, -, cur', hc'⟩ := ownsRow_block hl.outer hs
      exact type_ne hg hc' (by rcases htl with rfl | rfl | rfl; exact ht.2.1; exact ht.2.2.1; exact ht.2.2.2) rfl

theorem sv_snoc {n : Nat} {f : Nat → Value} {x : Value} {g : Nat} (h : SV (n + 1) (snoc n f x) g) : SV n f g ∨ x.ownBlock = some g := by
  obtain ⟨i, hi, hv⟩ := h
  unfold snoc at hv
  by_cases e : i = n
  · rw [if_pos e] at hv; exact .inr hv
  · rw [if_neg e] at hv; exact .inl ⟨i, by omega, hv⟩

theorem only_frame {e sz tl base : Nat} {w w' : World} {ov ov' : Value} {n n' : Nat} {v v' : Nat → Value} {ln ln' : Nat → Nat} {e' sz' tl' B : Nat} {cs : Array Value} (hl : BkList e' sz' tl' base w ov' n' v' ln') (ho : Only (fun g => g = B ∨ ov'.ownBlock = some g) w w') (hB : w.heap[B]? = some (.cells cs 63 (0, 0)))
    (h : BkList e sz tl base w ov n v ln) (h1 : e ≠ 63 ∧ tl ≠ 63 ∧ e ≠ tl' ∧ tl ≠ tl') : BkList e sz tl base w' ov n v ln :=
  h.frame fun g cur t hg ht => ho.block g (lt_of_heap hg) fun hs => by
    rcases hs with rfl | hs
    · exact type_ne hg hB (by rcases ht with rfl | rfl; exact h1.1; exact h1.2.1) rfl
    · obtain ⟨-, -, cur', hc'⟩ := ownsRow_block hl.outer hs
      exact type_ne hg hc' (by rcases ht with rfl | rfl; exact h1.2.2.1; exact h1.2.2.2) rfl

theorem words_B (B base c : Nat) (U : Nat → Prop) (x : Value) (L : Nat) (xs : List Value) (w : World) (hk : BookIs w B base c U) (hx : w.ownsRow base 111 1 x L xs) (hL : L ≤ 1000000) (hc : c + 1 ≤ 1000000000) (hU : ∀ g, x.ownBlock = some g → ¬ U g) :
    Calls Try.prog 12 #[.pointer (some ⟨B, 0, none⟩), x] w fun e w' => e = .returned (.tuple #[]) ∧ BookIs w' B base (c + 1) (fun g => U g ∨ x.ownBlock = some g) ∧ BkTurn base w w' := by
  obtain ⟨hB0, v3, v4, v10, n3, n4, n10, f3, f4, f10, l3, l4, l10, hB, h3, h4, h10, k3, k4, k10, u3, u4, u10⟩ := hk
  have hbs : base ≤ w.heap.size := Nat.le_trans hB0 (Nat.le_of_lt (lt_of_heap hB))
  refine (words_12 B base v3 v4 v10 x n3 L f3 l3 xs w hB hbs h3 hx hL (by omega) (fun i hi g hg e => hU g e (u3 g ⟨i, hi, hg⟩))).mono ?_
  rintro e w' ⟨rfl, v3', hB', h3', ho⟩
  refine ⟨rfl, ⟨hB0, v3', v4, v10, n3 + 1, n4, n10, _, f4, f10, _, l4, l10, hB', h3', only_frame h3 ho hB h4 (by decide), only_frame h3 ho hB h10 (by decide), by omega, by omega, by omega, fun g hg => ?_, fun g hg => .inl (u4 g hg), fun g hg => .inl (u10 g hg)⟩, BkTurn.of_only hB0 hbs hB h3 (.inl rfl) ho⟩
  rcases sv_snoc hg with hg | hg
  · exact .inl (u3 g hg)
  · exact .inr hg

theorem row_B (B base c : Nat) (U : Nat → Prop) (x : Value) (L : Nat) (xs : List Value) (w : World) (hk : BookIs w B base c U) (hx : w.ownsRow base 89 4 x L xs) (hL : L ≤ 1000000) (hc : c + 1 ≤ 1000000000) (hU : ∀ g, x.ownBlock = some g → ¬ U g) :
    Calls Try.prog 30 #[.pointer (some ⟨B, 0, none⟩), x] w fun e w' => e = .returned (.tuple #[]) ∧ BookIs w' B base (c + 1) (fun g => U g ∨ x.ownBlock = some g) ∧ BkTurn base w w' := by
  obtain ⟨hB0, v3, v4, v10, n3, n4, n10, f3, f4, f10, l3, l4, l10, hB, h3, h4, h10, k3, k4, k10, u3, u4, u10⟩ := hk
  have hbs : base ≤ w.heap.size := Nat.le_trans hB0 (Nat.le_of_lt (lt_of_heap hB))
  refine (row_30 B base v3 v4 v10 x n4 L f4 l4 xs w hB hbs h4 hx hL (by omega) (fun i hi g hg e => hU g e (u4 g ⟨i, hi, hg⟩))).mono ?_
  rintro e w' ⟨rfl, v4', hB', h4', ho⟩
  refine ⟨rfl, ⟨hB0, v3, v4', v10, n3, n4 + 1, n10, f3, _, f10, l3, _, l10, hB', only_frame h4 ho hB h3 (by decide), h4', only_frame h4 ho hB h10 (by decide), by omega, by omega, by omega, fun g hg => .inl (u3 g hg), fun g hg => ?_, fun g hg => .inl (u10 g hg)⟩, BkTurn.of_only hB0 hbs hB h4 (.inr (.inl rfl)) ho⟩
  rcases sv_snoc hg with hg | hg
  · exact .inl (u4 g hg)
  · exact .inr hg

theorem BookIs.weak {w : World} {B base c c' : Nat} {U U' : Nat → Prop} (h : BookIs w B base c U) (hc : c ≤ c') (hU : ∀ g, U g → U' g) : BookIs w B base c' U' := by
  obtain ⟨hB0, v3, v4, v10, n3, n4, n10, f3, f4, f10, l3, l4, l10, hB, h3, h4, h10, k3, k4, k10, u3, u4, u10⟩ := h
  exact ⟨hB0, v3, v4, v10, n3, n4, n10, f3, f4, f10, l3, l4, l10, hB, h3, h4, h10, by omega, by omega, by omega, fun g hg => hU g (u3 g hg), fun g hg => hU g (u4 g hg), fun g hg => hU g (u10 g hg)⟩

/-- the cells of a list of updates hold blocks that are apart -/
theorem ups_apart {w : World} {lo : Nat} {us : List Up} {xs : List Value} (hl : xs.length = us.length * 4) (hel : ∀ j u, us[j]? = some u → UpIs w lo xs j u) (h0 : ApartAt xs us.length 0) (h2 : ApartAt xs us.length 2)
    {i j g : Nat} {x y : Value} (hx : xs[i]? = some x) (hy : xs[j]? = some y) (gx : x.ownBlock = some g) (gy : y.ownBlock = some g) : i = j := by
  have li := (List.getElem?_eq_some_iff.1 hx).1
  have lj := (List.getElem?_eq_some_iff.1 hy).1
  have kind : ∀ i x, xs[i]? = some x → x.ownBlock = some g → (i % 4 = 0 ∧ ∃ cur : Array Value, w.heap[g]? = some (.cells cur 89 (0, 0))) ∨ (i % 4 = 2 ∧ ∃ cur : Array Value, w.heap[g]? = some (.cells cur 111 (0, 0))) := by
    intro i x hx gx
    have li := (List.getElem?_eq_some_iff.1 hx).1
    have hk : i / 4 < us.length := by omega
    obtain ⟨rv, lv, a0, a1, a2, a3, hr, hlp⟩ := hel (i / 4) us[i / 4] (List.getElem?_eq_getElem hk)
    have hm : i % 4 = 0 ∨ i % 4 = 1 ∨ i % 4 = 2 ∨ i % 4 = 3 := by omega
    rcases hm with hm | hm | hm | hm
    · rw [show 4 * (i / 4) = i by omega, hx] at a0; cases a0
      exact .inl ⟨hm, (ownsRow_block hr gx).2.2⟩
    · rw [show 4 * (i / 4) + 1 = i by omega, hx] at a1; cases a1; cases gx
    · rw [show 4 * (i / 4) + 2 = i by omega, hx] at a2; cases a2
      exact .inr ⟨hm, (ownsRow_block hlp gx).2.2⟩
    · rw [show 4 * (i / 4) + 3 = i by omega, hx] at a3; cases a3; cases gx
  rcases kind i x hx gx with ⟨m1, c1, t1⟩ | ⟨m1, c1, t1⟩ <;> rcases kind j y hy gy with ⟨m2, c2, t2⟩ | ⟨m2, c2, t2⟩
  · have := h0 (i / 4) (j / 4) x y g (by omega) (by omega) (by rw [show 4 * (i / 4) + 0 = i by omega]; exact hx) (by rw [show 4 * (j / 4) + 0 = j by omega]; exact hy) gx gy
    omega
  · exact absurd rfl (type_ne t1 t2 (by decide))
  · exact absurd rfl (type_ne t1 t2 (by decide))
  · have := h2 (i / 4) (j / 4) x y g (by omega) (by omega) (by rw [show 4 * (i / 4) + 2 = i by omega]; exact hx) (by rw [show 4 * (j / 4) + 2 = j by omega]; exact hy) gx gy
    omega

/-- what a list holds, up to a cell -/
def UpTo (xs : List Value) (p : Nat) (U : Nat → Prop) : Nat → Prop := fun g => U g ∨ ∃ (j : Nat) (x : Value), j < p ∧ xs[j]? = some x ∧ x.ownBlock = some g

set_option maxRecDepth 100000 in
set_option maxHeartbeats 4000000 in
theorem updates_B (B base c lo hi : Nat) (U : Nat → Prop) (v : Value) (us : List Up) (w : World) (hk : BookIs w B base c U) (hus : UpsIn w lo hi v us) (hlo : base ≤ lo) (hU : ∀ g, U g → ¬ (lo ≤ g ∧ g < hi)) (hn : us.length ≤ 1000000) (hln : ∀ u ∈ us, u.rn ≤ 1000000 ∧ u.ln ≤ 1000000) (hc : c + 2 * us.length + 1 ≤ 1000000000) :
    Calls Try.prog 11 #[.pointer (some ⟨B, 0, none⟩), v] w fun e w' => e = .returned (.tuple #[]) ∧ BookIs w' B base (c + 2 * us.length + 1) (fun g => U g ∨ lo ≤ g ∧ g < hi) ∧ BkTurn base w w' := by
  obtain ⟨n, en⟩ : ∃ n, n = us.length := ⟨_, rfl⟩
  obtain ⟨xs, hown, hvh, hel, hxh, ha0, ha2⟩ := hus
  have hap := fun {i j g : Nat} {x y : Value} => ups_apart (i := i) (j := j) (g := g) (x := x) (y := y) hown.1 hel ha0 ha2
  have hin : ∀ (j : Nat) x g, xs[j]? = some x → x.ownBlock = some g → lo ≤ g ∧ g < hi := fun j x g hx hg => by
    refine ⟨?_, hxh j x g hx hg⟩
    have lj := (List.getElem?_eq_some_iff.1 hx).1
    have hl := hown.1
    have hk : j / 4 < us.length := by omega
    obtain ⟨rv, lv, a0, a1, a2, a3, hr, hlp⟩ := hel (j / 4) us[j / 4] (List.getElem?_eq_getElem hk)
    have hm : j % 4 = 0 ∨ j % 4 = 1 ∨ j % 4 = 2 ∨ j % 4 = 3 := by omega
    rcases hm with hm | hm | hm | hm
    · rw [show 4 * (j / 4) = j by omega, hx] at a0; cases a0; exact (ownsRow_block hr hg).1
    · rw [show 4 * (j / 4) + 1 = j by omega, hx] at a1; cases a1; cases hg
    · rw [show 4 * (j / 4) + 2 = j by omega, hx] at a2; cases a2; exact (ownsRow_block hlp hg).1
    · rw [show 4 * (j / 4) + 3 = j by omega, hx] at a3; cases a3; cases hg
  obtain ⟨a, ac, rfl⟩ := ownsRow_slice hown
  have HEN := Lib.hid en
  have HOW := Lib.hid hown
  have HEL := Lib.hid hel
  have HAP : Hid (∀ {i j g : Nat} {x y : Value}, xs[i]? = some x → xs[j]? = some y → x.ownBlock = some g → y.ownBlock = some g → i = j) := hap
  have HIN := Lib.hid hin
  have HUU := Lib.hid hU
  have HLN := Lib.hid hln
  have HVH := Lib.hid hvh
  have HK0 : Hid (BookIs w B base (c + 2 * 0) (UpTo xs (4 * 0) U)) := hk.weak (Nat.le_refl _) fun g hg => .inl hg
  rw [← en] at hn hc ⊢
  clear hk hown hel hxh ha0 ha2 hap hin hU hln hvh en
  go_enter Try.func11, Try.ntmps11
  go_wp2_with fail
  go_loopw [4] (fun i wr => ∃ k : Nat, k ≤ n ∧ i = .int .i64 k ∧ BookIs wr B base (c + 2 * k) (UpTo xs (4 * k) U) ∧ BkTurn base w wr) (fun i _ => n - (intOf i).toNat)
  case atStart => exact ⟨0, Nat.zero_le _, rfl, HK0.out, BkTurn.refl _ _⟩
  case round =>
    obtain ⟨k, hkn, rfl, hbk, htu⟩ := hrel
    by_cases hlt : k < n
    · obtain ⟨u, hu⟩ : ∃ u, us[k]? = some u := ⟨us[k]'(by rw [← HEN.out]; exact hlt), List.getElem?_eq_getElem _⟩
      obtain ⟨hrn, hlnn⟩ := HLN.out u (List.mem_of_getElem? hu)
      obtain ⟨rv, lv, x0, -, x2, -, hrv, hlv⟩ := HEL.out k u hu
      obtain ⟨g, cap, hgv, hg0, hgl⟩ := HOW.out.form (by have := HEN.out; omega)
      simp only [Value.slice.injEq] at hgv
      obtain ⟨rfl, -, rfl⟩ := hgv
      obtain ⟨ra, rc, rfl⟩ := ownsRow_slice hrv
      obtain ⟨la, lc, rfl⟩ := ownsRow_slice hlv
      have c0 : wr.cell? ⟨g, k * 4, none⟩ = some (.slice ra u.rn rc) := (ownsRow_heap (htu.own HOW.out (by decide))).2.2.2 _ _ (by rw [show k * 4 = 4 * k by omega]; exact x0)
      have HRV := Lib.hid hrv
      have HLV := Lib.hid hlv
      have HBK := Lib.hid hbk
      have HTU := Lib.hid htu
      have X0 := Lib.hid x0
      have X2 := Lib.hid x2
      clear hu x0 x2 hrv hlv hbk htu
      go_wp2_with fail
      refine (row_B B base (c + 2 * k) _ (.slice ra u.rn rc) u.rn u.row _ HBK.out (ownsRow_lower (HTU.out.own HRV.out (by decide)) hlo) hrn (by omega) (fun g' hg' hs => ?_)).mono ?_
      · rcases hs with hs | ⟨j, y, hj, hy, gy⟩
        · exact HUU.out g' hs (HIN.out _ _ _ X0.out hg')
        · have := HAP.out X0.out hy hg' gy; omega
      rintro _ w1 ⟨rfl, hb1, ht1⟩
      have ht1' := HTU.out.trans ht1
      have c2 : w1.cell? ⟨g, k * 4 + 2, none⟩ = some (.slice la u.ln lc) := (ownsRow_heap (ht1'.own HOW.out (by decide))).2.2.2 _ _ (by rw [show k * 4 = 4 * k by omega]; exact X2.out)
      have HB1 := Lib.hid hb1
      have HT1 := Lib.hid ht1'
      clear c0 hb1 ht1 ht1'
      go_wp2_with fail
      refine (words_B B base (c + 2 * k + 1) _ (.slice la u.ln lc) u.ln u.loops _ HB1.out (ownsRow_lower (HT1.out.own HLV.out (by decide)) hlo) hlnn (by omega) (fun g' hg' hs => ?_)).mono ?_
      · rcases hs with (hs | ⟨j, y, hj, hy, gy⟩) | hs
        · exact HUU.out g' hs (HIN.out _ _ _ X2.out hg')
        · have := HAP.out X2.out hy hg' gy; omega
        · have := HAP.out X2.out X0.out hg' hs; omega
      rintro _ w2 ⟨rfl, hb2, ht2⟩
      have HB2 := Lib.hid hb2
      have HT2 := Lib.hid (HT1.out.trans ht2)
      clear c2 hb2 ht2
      go_wp2
      go_roundw
      case rel =>
        refine ⟨k + 1, hlt, by go_num, HB2.out.weak (by omega) fun g' hg' => ?_, HT2.out⟩
        rcases hg' with ((hs | ⟨j, y, hj, hy, gy⟩) | hs) | hs
        · exact .inl hs
        · exact .inr ⟨j, y, by omega, hy, gy⟩
        · exact .inr ⟨_, _, by omega, X0.out, hs⟩
        · exact .inr ⟨_, _, by omega, X2.out, hs⟩
      case measure => simp [intOf]; omega
    · obtain rfl : k = n := by omega
      have HBK := Lib.hid hbk
      have HTU := Lib.hid htu
      clear hbk htu
      have HOWk : Hid (w.ownsRow lo 37 4 (.slice a k ac) k xs) := by have h := HOW.out; rw [← HEN.out] at h; exact h
      have HVHk : Hid (∀ g, (Value.slice a k ac).ownBlock = some g → g < hi) := by have h := HVH.out; rw [← HEN.out] at h; exact h
      obtain ⟨i0, hfo, hz0, hz1, hz2⟩ := info_parts info29
      obtain ⟨hB0, v3, v4, v10, n3, n4, n10, f3, f4, f10, l3, l4, l10, hB, h3, h4, h10, k3, k4, k10, u3, u4, u10⟩ := HBK.out
      obtain ⟨oa, oc, rfl⟩ := h10.slice
      have hbs : base ≤ wr.heap.size := Nat.le_trans hB0 (Nat.le_of_lt (lt_of_heap hB))
      have c10 := book_at hB 10 _ rfl
      have H3 := Lib.hid h3
      have H4 := Lib.hid h4
      have H10 := Lib.hid h10
      have HB := Lib.hid hB
      have HU3 := Lib.hid u3
      have HU4 := Lib.hid u4
      have HU10 := Lib.hid u10
      clear h3 h4 h10 hB u3 u4 u10
      go_wp2_with (at_builtin; go_must (refine wpList_append_own _ rfl _ _ 58 rfl base 29 i0 (.slice none 0 0) 1 24 Try.underlying58 hfo hz0 hz1 hz2 rfl (by decide) (.slice oa n10 oc) n10 ((List.range n10).map f10) rfl (H10.out.outer.alloc _) ⟨wr.heap.size, 0, none⟩ 1 1 [.slice a k ac] rfl rfl ?c1 ?c2 ?c3 ?c4 ?c5 ?_))
      case c1 =>
        intro j u hj
        rw [add_lit, Nat.zero_add]
        exact cell_of_heap (heap_alloc_new wr _) (by rw [List.getElem?_toArray]; exact hj)
      case c2 => intro u hu; simp at hu; subst hu; rfl
      case c3 => unfold maxLen; omega
      case c4 => omega
      case c5 => simp; omega
      intro v' w2 hown' hgrow _
      obtain ⟨a', c', rfl⟩ := ownsRow_slice hown'
      have hBl := lt_of_heap HB.out
      have hBne : (Value.slice oa n10 oc).ownBlock ≠ some B := fun e => by
        obtain ⟨-, -, cur, hc⟩ := ownsRow_block H10.out.outer e
        exact type_ne hc HB.out (by decide) rfl
      have hB2 : w2.heap[B]? = some (.cells (bookCells v3 v4 (.slice oa n10 oc)) 63 (0, 0)) := by
        rw [hgrow.block B (by simp; omega) (fun e => hBne e.symm), Below.heap_alloc wr _ B hBl]; exact HB.out
      have c10' : w2.cell? ⟨B, 10, none⟩ = some (.slice oa n10 oc) := book_at hB2 10 _ rfl
      have f10' : w2.frozen? ⟨B, 10, none⟩ = false := frozen_of_heap hB2
      have HB2 := Lib.hid hB2
      have ho2 : Only (fun g => g = B ∨ (Value.slice oa n10 oc).ownBlock = some g) wr w2 := Only.grown (Only.of_below ((Below.refl _ _).alloc (Nat.le_refl _) _)) hgrow fun g hg => .inl (.inr hg)
      have HO2 := Lib.hid ho2
      have HOWN := Lib.hid hown'
      clear c10 hown' hgrow hB2 ho2 hBne
      go_wp2_with fail
      go_end0
      have ho3 : Only (fun g => g = B ∨ (Value.slice oa n10 oc).ownBlock = some g) wr (w2.setCell ⟨B, 10, none⟩ (.slice a' (n10 + 1) c')) := HO2.out.set (.inl rfl)
      have ht3 := BkTurn.of_only hB0 hbs HB.out H10.out (.inr (.inr rfl)) ho3
      have hl10 : BkList 37 4 29 base (w2.setCell ⟨B, 10, none⟩ (.slice a' (n10 + 1) c')) (.slice a' (n10 + 1) c') (n10 + 1) (snoc n10 f10 (.slice a k ac)) (snocL n10 l10 k) := by
        refine H10.out.snoc (xs := xs) (ownsRow_lower (HTU.out.own HOWk.out (by decide)) hlo) hn (by omega) (fun i hi' g hg e => ?_) (fun g cur hg => ht3.2 g cur 37 hg (by decide)) (ownsRow_frame HOWN.out fun g hg => ?_)
        · have ht37 := (HTU.out.own HOWk.out (by decide : (37 : Nat) ≠ 63 ∧ (37 : Nat) ≠ 26 ∧ (37 : Nat) ≠ 34 ∧ (37 : Nat) ≠ 29))
          rcases HU10.out g ⟨i, hi', hg⟩ with hs | ⟨j, y, hj, hy, gy⟩
          · exact HUU.out g hs ⟨(ownsRow_block HOWk.out e).1, HVHk.out g e⟩
          · obtain ⟨-, -, cur, hc⟩ := ownsRow_block HOWk.out e
            have lj := (List.getElem?_eq_some_iff.1 hy).1
            have hl := HOWk.out.1
            have hkl := HEN.out
            have hk : j / 4 < us.length := by omega
            obtain ⟨rv, lv, a0, a1, a2, a3, hr, hlp⟩ := HEL.out (j / 4) us[j / 4] (List.getElem?_eq_getElem hk)
            have hm : j % 4 = 0 ∨ j % 4 = 1 ∨ j % 4 = 2 ∨ j % 4 = 3 := by omega
            rcases hm with hm | hm | hm | hm
            · rw [show 4 * (j / 4) = j by omega, hy] at a0; cases a0; obtain ⟨-, -, cur', hc'⟩ := ownsRow_block hr gy; exact type_ne hc hc' (by decide) rfl
            · rw [show 4 * (j / 4) + 1 = j by omega, hy] at a1; cases a1; cases gy
            · rw [show 4 * (j / 4) + 2 = j by omega, hy] at a2; cases a2; obtain ⟨-, -, cur', hc'⟩ := ownsRow_block hlp gy; exact type_ne hc hc' (by decide) rfl
            · rw [show 4 * (j / 4) + 3 = j by omega, hy] at a3; cases a3; cases gy
        · obtain ⟨-, -, cur, hc⟩ := ownsRow_block HOWN.out hg
          exact heap_set_ne (type_ne hc HB2.out (by decide))
      have hup : ∀ g, UpTo xs (4 * k) U g → U g ∨ lo ≤ g ∧ g < hi := fun g hg => by
        rcases hg with hg | ⟨j, y, hj, hy, gy⟩
        · exact .inl hg
        · exact .inr (HIN.out j y g hy gy)
      refine ⟨rfl, ⟨hB0, v3, v4, .slice a' (n10 + 1) c', n3, n4, n10 + 1, f3, f4, _, l3, l4, _, heap_set_same HB2.out, only_frame H10.out ho3 HB.out H3.out (by decide), only_frame H10.out ho3 HB.out H4.out (by decide), hl10, by omega, by omega, by omega, fun g hg => hup g (HU3.out g hg), fun g hg => hup g (HU4.out g hg), fun g hg => ?_⟩, HTU.out.trans ht3⟩
      rcases sv_snoc hg with hg | hg
      · exact hup g (HU10.out g hg)
      · exact .inr ⟨(ownsRow_block HOWk.out hg).1, HVHk.out g hg⟩
end Go.Proofs.Ytpoilgeffpedoaa
