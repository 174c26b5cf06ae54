import Derived.Test.YtolikaginhjbhaaGreatDoorNm
import Derived.Test.YtolikaginhjbhaaGreatDoorM
/- Book.Exprs 29: an expression's lists laid into a book. -/
namespace Go.Proofs.YtolikaginhjbhaaGreatDoor
open Go.RowKit Go.Pen
attribute [local go_sem ↓] Go.wp_at_zero Go.wp_at_succ

/-- a book: at most c lists of each kind, their blocks in U -/
def XBook (w : World) (B base c : Nat) (U : Nat → Prop) : Prop :=
  base ≤ B ∧ ∃ (v2 v12 : Value) (n2 n12 : Nat) (f2 f12 : Nat → Value) (l2 l12 : Nat → Nat), w.heap[B]? = some (.cells (bookCells v2 v12) 73 (0, 0)) ∧ BkList 3 1 44 base w v2 n2 f2 l2 ∧ BkList 27 7 22 base w v12 n12 f12 l12 ∧
    n2 ≤ c ∧ n12 ≤ c ∧ (∀ g, SV n2 f2 g → U g) ∧ ∀ g, SV n12 f12 g → U g

theorem XBook.weak {w : World} {B base c c' : Nat} {U U' : Nat → Prop} (h : XBook w B base c U) (hc : c ≤ c') (hU : ∀ g, U g → U' g) : XBook w B base c' U' := by
  obtain ⟨hB0, v2, v12, n2, n12, f2, f12, l2, l12, hB, h2, h12, k2, k12, u2, u12⟩ := h
  exact ⟨hB0, v2, v12, n2, n12, f2, f12, l2, l12, hB, h2, h12, by omega, by omega, fun g hg => hU g (u2 g hg), fun g hg => hU g (u12 g hg)⟩

theorem sv_snoc {n : Nat} {f : Nat → Value} {x : Value} {g : Nat} (h : SV (n + 1) (snoc n f x) g) : SV n f g ∨ x.ownBlock = some g := by
  obtain ⟨i, hi, hv⟩ := h
  unfold snoc at hv
  by_cases e : i = n
  · rw [if_pos e] at hv; exact .inr hv
  · rw [if_neg e] at hv; exact .inl ⟨i, by omega, hv⟩

theorem ownsRow_raise {w : World} {base e size n : Nat} {v : Value} {xs : List Value} (ho : w.ownsRow 0 e size v n xs) (hb : ∀ g, v.ownBlock = some g → base ≤ g) : w.ownsRow base e size v n xs := by
  refine ⟨ho.1, ?_⟩
  rcases ho.2 with hn | ⟨g, cap, cur, rfl, hb', rest⟩
  · exact .inl hn
  · exact .inr ⟨g, cap, cur, rfl, hb g rfl, rest⟩

theorem ints_X (B base c : Nat) (U : Nat → Prop) (x : Value) (L : Nat) (xs : List Value) (w : World) (hk : XBook w B base c U) (hx : w.ownsRow base 3 1 x L xs) (hL : L ≤ 1000000) (hc : c + 1 ≤ 1000000000) (hU : ∀ g, x.ownBlock = some g → ¬ U g) :
    Calls Tryz.prog 28 #[.pointer (some ⟨B, 0, none⟩), x] w fun e w' => e = .returned (.tuple #[]) ∧ XBook w' B base (c + 1) (fun g => U g ∨ x.ownBlock = some g) ∧ Below base w w' ∧ ∀ (g : Nat) (cur : Array Value), w.heap[g]? = some (.cells cur 27 (0, 0)) → w'.heap[g]? = w.heap[g]? := by
  obtain ⟨hB0, v2, v12, n2, n12, f2, f12, l2, l12, hB, h2, h12, k2, k12, u2, u12⟩ := hk
  have hbs : base ≤ w.heap.size := Nat.le_trans hB0 (Nat.le_of_lt (lt_of_heap hB))
  refine (ints_28 B base v2 v12 x n2 L f2 l2 xs w hB hbs h2 hx hL (by omega) (fun i hi g hg e => hU g e (u2 g ⟨i, hi, hg⟩))).mono ?_
  rintro e w' ⟨rfl, v2', hB', h2', ho⟩
  have hst : ∀ (g : Nat) (cur : Array Value) (t : TypeId), w.heap[g]? = some (.cells cur t (0, 0)) → t ≠ 73 → t ≠ 44 → w'.heap[g]? = w.heap[g]? := fun g cur t hg t1 t2 => ho.block g (lt_of_heap hg) fun hs => by
    rcases hs with rfl | hs
    · exact type_ne hg hB t1 rfl
    · obtain ⟨-, -, cur', hc'⟩ := ownsRow_block h2.outer hs
      exact type_ne hg hc' t2 rfl
  refine ⟨rfl, ⟨hB0, v2', v12, n2 + 1, n12, _, f12, _, l12, hB', h2', h12.frame fun g cur t hg ht => hst g cur t hg (by rcases ht with rfl | rfl <;> decide) (by rcases ht with rfl | rfl <;> decide), by omega, by omega, fun g hg => ?_, fun g hg => .inl (u12 g hg)⟩, only_below ho hbs fun g hg => ?_, fun g cur hg => hst g cur 27 hg (by decide) (by decide)⟩
  · rcases sv_snoc hg with hg | hg
    · exact .inl (u2 g hg)
    · exact .inr hg
  · rcases hg with rfl | hg
    · exact hB0
    · exact (ownsRow_block h2.outer hg).1

theorem own_X (B base c : Nat) (U : Nat → Prop) (w : World) (hk : XBook w B base c U) :
    Calls Tryz.prog 30 #[.pointer (some ⟨B, 0, none⟩)] w fun e w' => e = .returned (.bool true) ∧ Below base w w' := by
  obtain ⟨hB0, v2, v12, n2, n12, f2, f12, l2, l12, hB, h2, h12, k2, k12, u2, u12⟩ := hk
  exact own_30 B base v2 v12 n2 n12 f2 f12 l2 l12 w hB (Nat.le_trans hB0 (Nat.le_of_lt (lt_of_heap hB))) h2 h12

/-- an expression's lists come into a book -/
def Booked (e : ET) : Prop := ∀ (B base m : Nat) (U : Nat → Prop) (v : Value) (vs : List (Value × Nat)) (w : World), XBook w B base m U → e.Lay w v vs → ApartL vs → (∀ g, BlkL vs g → base ≤ g ∧ ¬ U g) → e.size ≤ 1000000 → m + e.size ≤ 1000000000 →
  Calls Tryz.prog 29 #[.pointer (some ⟨B, 0, none⟩), v] w fun ev w' => ev = .returned (.tuple #[]) ∧ XBook w' B base (m + e.size) (fun g => U g ∨ BlkL vs g) ∧ XTurn base w w'

set_option maxRecDepth 100000 in
set_option maxHeartbeats 4000000 in
theorem exprs_29 : ∀ e : ET, Booked e := by
  refine ET.ind fun o c d ks ih B base m U v vs w hk hlay hap hU hsz hm => ?_
  obtain ⟨i0, hi, hz0, hz1, hz2⟩ := info_parts info22L
  simp only [ET.Lay] at hlay
  obtain ⟨us, hls, rfl, xs, how⟩ := hlay
  simp only [ET.size] at hsz hm ⊢
  have hl := ET.sizes_len ks
  obtain ⟨n, en⟩ : ∃ n, n = ks.length := ⟨_, rfl⟩
  obtain ⟨a, cc, rfl⟩ := ownsRow_slice how
  rw [← en] at hls how hap hU hl ⊢
  have hau := (List.pairwise_append.1 hap).1
  have hav : ∀ p ∈ us, ∀ g, p.1.ownBlock = some g → (Value.slice a n cc).ownBlock ≠ some g := fun p hp g hg => (List.pairwise_append.1 hap).2.2 p hp (.slice a n cc, n) (by simp) g hg
  have hUu : ∀ g, BlkL us g → base ≤ g ∧ ¬ U g := fun g hg => hU g hg.left
  have hUv : ∀ g, (Value.slice a n cc).ownBlock = some g → base ≤ g ∧ ¬ U g := fun g hg => hU g ⟨(.slice a n cc, n), by simp, hg⟩
  have hk0 : XBook w B base (m + ET.sizes (ks.take 0)) (fun g => U g ∨ BlkL [] g) := hk.weak (by simp) fun g hg => .inl hg
  have hn : n ≤ 1000000 := by omega
  have EN := Lib.hid en
  have IH := Lib.hid ih
  have HAU := Lib.hid hau
  have HAV := Lib.hid hav
  have HUU := Lib.hid hUu
  have HUV := Lib.hid hUv
  have HK0 := Lib.hid hk0
  have HOW := Lib.hid how
  have HLS : Hid (ET.Lays w (ks.drop 0) (.slice a n cc) 0 us) := by rw [List.drop_zero]; exact hls
  have HSZ := Lib.hid hsz
  have HM := Lib.hid hm
  clear en ih hau hav hUu hUv hk0 how hls hsz hm hk hap hU hl
  go_enter Tryz.func29, Tryz.ntmps29
  go_wp2_with fail
  go_loopg [4] n (fun g s2 wr => ∃ (i : Nat) (u1 u2 : List (Value × Nat)), i ≤ n ∧ g = n - i ∧ s2 = .int .i64 i ∧ us = u1 ++ u2 ∧ ET.Lays w (ks.drop i) (.slice a n cc) i u2 ∧ XBook wr B base (m + ET.sizes (ks.take i)) (fun g => U g ∨ BlkL u1 g) ∧ XTurn base w wr)
  case atStart => exact ⟨0, [], us, Nat.zero_le _, rfl, rfl, rfl, HLS.out, HK0.out, XTurn.refl _ _⟩
  case round =>
    obtain ⟨i, u1, u2, hin, hgi, rfl, hus, hls, hbk, htu⟩ := hrel
    by_cases hlt : i < n
    · obtain ⟨b, cap, hgv, -, -⟩ := HOW.out.form (by omega)
      simp only [Value.slice.injEq] at hgv
      obtain ⟨rfl, -, rfl⟩ := hgv
      have hil : i < ks.length := by rw [← EN.out]; exact hlt
      rw [List.drop_eq_getElem_cons hil] at hls
      simp only [ET.Lays] at hls
      obtain ⟨b', kv, u1', u3, q0, q1, q2, q3, rfl⟩ := hls
      cases q0
      obtain ⟨-, -, cur, hcb⟩ := ownsRow_block HOW.out (g := b) rfl
      have ckv := (q1.frame (w' := wr) fun _ => htu.2 b cur 27 hcb (by decide)).2.1
      have hau := HAU.out
      rw [hus] at hau
      obtain ⟨-, hp23, hp12⟩ := List.pairwise_append.1 hau
      have hkx : ks[i]? = some ks[i] := List.getElem?_eq_getElem hil
      have hst := ET.sizes_take ks i ks[i] hkx
      have hsl := ET.sizes_le ks (i + 1)
      have hsz := HSZ.out
      have hmm := HM.out
      have hcall := IH.out ks[i] (List.getElem_mem hil) B base (m + ET.sizes (ks.take i)) (fun g => U g ∨ BlkL u1 g) kv u1' wr hbk (q2.turn htu) (List.pairwise_append.1 hp23).1 (fun g hg => by
        obtain ⟨h1, h2⟩ := HUU.out g (by rw [hus]; exact hg.left.right)
        refine ⟨h1, fun h => ?_⟩
        rcases h with h | ⟨p, hp, hpg⟩
        · exact h2 h
        · obtain ⟨q, hq, hqg⟩ := hg
          exact hp12 p hp q (by simp [hq]) g hpg hqg) (by omega) (by omega)
      have HCALL := Lib.hid hcall
      have HQ3 := Lib.hid q3
      have HTU := Lib.hid htu
      have HUS := Lib.hid hus
      have HST := Lib.hid hst
      obtain ⟨ka, kn, kc, hkv⟩ := q2.slice
      subst hkv
      clear hcall q1 q2 q3 htu hus hst hsl hsz hmm hkx hau hp23 hp12 hbk hcb
      go_wp2_with fail
      refine HCALL.out.mono ?_
      rintro e w5 ⟨rfl, hb5, ht5⟩
      have HB5 := Lib.hid hb5
      have HT5 := Lib.hid ht5
      clear hb5 ht5 ckv HCALL
      go_wp2_with fail
      go_roundg (n - (i + 1))
      case measure => omega
      case rel =>
        refine ⟨i + 1, u1 ++ u1', u3, by omega, rfl, by go_num, ?_, HQ3.out, HB5.out.weak (by have := HST.out; omega) fun g hg => ?_, HTU.out.trans HT5.out⟩
        · rw [HUS.out, List.append_assoc]
        · rcases hg with (hg | hg) | hg
          · exact .inl hg
          · exact .inr hg.left
          · exact .inr hg.right
    · obtain rfl : i = n := by omega
      rw [List.drop_eq_nil_of_le (by rw [← EN.out]; exact Nat.le_refl _)] at hls
      have hu2 : u2 = [] := by simpa only [ET.Lays] using hls
      subst hu2
      rw [List.append_nil] at hus
      subst hus
      rw [List.take_of_length_le (by rw [← EN.out]; exact Nat.le_refl _)] at hbk
      obtain ⟨hB0, v2, v12, n2, n12, f2, f12, l2, l12, hB, h2, h12, k2, k12, q2, q12⟩ := hbk
      obtain ⟨ya, yc, rfl⟩ := h12.slice
      have hbs : base ≤ wr.heap.size := Nat.le_trans hB0 (Nat.le_of_lt (lt_of_heap hB))
      have howr : wr.ownsRow base 27 7 (.slice a i cc) i xs := ownsRow_raise (ownsRow_frame HOW.out fun g hg => by
        obtain ⟨-, -, cur, hc⟩ := ownsRow_block HOW.out hg
        exact htu.2 g cur 27 hc (by decide)) fun g hg => (HUV.out g hg).1
      have hne : ∀ j, j < n12 → ∀ g, (f12 j).ownBlock = some g → (Value.slice a i cc).ownBlock ≠ some g := fun j hj g hg e => by
        rcases q12 g ⟨j, hj, hg⟩ with h | ⟨p, hp, hpg⟩
        · exact (HUV.out g e).2 h
        · exact HAV.out p hp g hpg e
      have hcnt : n12 + 1 ≤ m + (1 + ET.sizes ks) := by omega
      have hcnt2 : n2 ≤ m + (1 + ET.sizes ks) := by omega
      have hmm := HM.out
      have c12 := book_at hB 12 _ rfl
      have hBl := lt_of_heap hB
      have hBne : (Value.slice ya n12 yc).ownBlock ≠ some B := fun e => by
        obtain ⟨-, -, cur, hc⟩ := ownsRow_block h12.outer e
        exact type_ne hc hB (by decide) rfl
      have hbig : (n12 + 1) * 24 ≤ 140737488355328 := by omega
      have hlen : n12 + 1 ≤ maxLen := by unfold maxLen; omega
      have H12 := Lib.hid h12
      have H2 := Lib.hid h2
      have HB := Lib.hid hB
      have HX := Lib.hid howr
      have HNE := Lib.hid hne
      have HTU := Lib.hid htu
      have HQ2 := Lib.hid q2
      have HQ12 := Lib.hid q12
      have HCNT := Lib.hid hcnt
      have HCNT2 := Lib.hid hcnt2
      have HBL := Lib.hid hBl
      have HBNE := Lib.hid hBne
      clear h12 h2 hB howr hne htu q2 q12 hcnt hcnt2 hmm hls k2 k12 hBl hBne
      go_wp2_with (at_builtin; go_must (refine wpList_append_own _ rfl _ _ 70 rfl base 22 i0 (.slice none 0 0) 1 24 Tryz.underlying70 hi hz0 hz1 hz2 rfl (by decide) (.slice ya n12 yc) n12 ((List.range n12).map f12) rfl (H12.out.outer.alloc _) ⟨wr.heap.size, 0, none⟩ 1 1 [.slice a i cc] rfl rfl ?c1 ?c2 ?c3 ?c4 ?c5 ?_))
      case c2 => rfl
      case c5 => omega
      intro v' w2 hown' hgrow _
      obtain ⟨a', c', rfl⟩ := ownsRow_slice hown'
      have hB2 : w2.heap[B]? = some (.cells (bookCells v2 (.slice ya n12 yc)) 73 (0, 0)) := by
        rw [hgrow.block B (by simp; have := HBL.out; omega) (fun e => HBNE.out e.symm), Below.heap_alloc wr _ B HBL.out]; exact HB.out
      have c12' : w2.cell? ⟨B, 12, none⟩ = some (.slice ya n12 yc) := book_at hB2 12 _ rfl
      have f12' : w2.frozen? ⟨B, 12, none⟩ = false := frozen_of_heap hB2
      have HB2 := Lib.hid hB2
      have ho2 : Only (fun g => g = B ∨ (Value.slice ya n12 yc).ownBlock = some g) wr w2 := Only.grown (Only.of_below ((Below.refl _ _).alloc (Nat.le_refl _) _)) hgrow fun g hg => .inl (.inr hg)
      have HO2 := Lib.hid ho2
      have HOW2 := Lib.hid hown'
      clear c12 hown' hgrow hB2 ho2
      go_wp2_with fail
      go_end0
      have ho7 : Only (fun g => g = B ∨ (Value.slice ya n12 yc).ownBlock = some g) wr (w2.setCell ⟨B, 12, none⟩ (.slice a' (n12 + 1) c')) := HO2.out.set (.inl rfl)
      have hst : ∀ (g : Nat) (cur : Array Value) (t : TypeId), wr.heap[g]? = some (.cells cur t (0, 0)) → t ≠ 73 → t ≠ 22 → (w2.setCell ⟨B, 12, none⟩ (.slice a' (n12 + 1) c')).heap[g]? = wr.heap[g]? := fun g cur t hg t1 t2 => ho7.block g (lt_of_heap hg) fun hs => by
        rcases hs with rfl | hs
        · exact type_ne hg HB.out t1 rfl
        · obtain ⟨-, -, cur', hc'⟩ := ownsRow_block H12.out.outer hs
          exact type_ne hg hc' t2 rfl
      have hbel : Below base wr (w2.setCell ⟨B, 12, none⟩ (.slice a' (n12 + 1) c')) := only_below ho7 hbs fun g hg => by
        rcases hg with rfl | hg
        · exact hB0
        · exact (ownsRow_block H12.out.outer hg).1
      refine ⟨rfl, ⟨hB0, v2, .slice a' (n12 + 1) c', n2, n12 + 1, f2, snoc n12 f12 (.slice a i cc), l2, snocL n12 l12 i, heap_set_same HB2.out, H2.out.frame fun g cur t hg ht => hst g cur t hg (by rcases ht with rfl | rfl <;> decide) (by rcases ht with rfl | rfl <;> decide), ?h1, HCNT2.out, HCNT.out, fun g hg => ?h2, fun g hg => ?h3⟩, HTU.out.trans ⟨hbel, fun g cur t hg ht => hst g cur t hg ht.1 ht.2⟩⟩
      case h1 =>
        refine H12.out.snoc (xs := xs) HX.out hn (by have := HCNT.out; have := HM.out; omega) HNE.out (fun g cur hg => hst g cur 27 hg (by decide) (by decide)) (ownsRow_frame HOW2.out fun g hg => ?_)
        obtain ⟨-, -, cur, hc⟩ := ownsRow_block HOW2.out hg
        exact heap_set_ne (type_ne hc HB2.out (by decide))
      case h2 =>
        rcases HQ2.out g hg with h | h
        · exact .inl h
        · exact .inr h.left
      case h3 =>
        rcases sv_snoc hg with hg | hg
        · rcases HQ12.out g hg with h | h
          · exact .inl h
          · exact .inr h.left
        · exact .inr ⟨(.slice a i cc, i), by simp, hg⟩
end Go.Proofs.YtolikaginhjbhaaGreatDoor
