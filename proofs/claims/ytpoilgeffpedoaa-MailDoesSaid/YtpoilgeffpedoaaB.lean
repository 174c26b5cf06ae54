import Derived.Test.YtpoilgeffpedoaaA
import Derived.Deep.RegionHeld3
import Derived.Deep.DrawnRows
import Derived.Lib.Hide
namespace Go.Proofs.Ytpoilgeffpedoaa
open Go.RowKit Go.Pen
attribute [local go_sem ↓] Go.wp_at_zero Go.wp_at_succ

structure Up where
  row : List Value
  rn : Nat
  epoch : Int
  loops : List Value
  ln : Nat
  diff : Int

structure Up.ok (u : Up) : Prop where
  rn : u.rn ≤ 1073741824
  ln : u.ln ≤ 1073741824
  row : ∀ x ∈ u.row, x.oneCell' = true
  loops : ∀ x ∈ u.loops, x.oneCell' = true

/-- the update at four cells of a row -/
def UpIs (w : World) (base : Nat) (xs : List Value) (j : Nat) (u : Up) : Prop :=
  ∃ rv lv, xs[4 * j]? = some rv ∧ xs[4 * j + 1]? = some (.int .u64 u.epoch) ∧ xs[4 * j + 2]? = some lv ∧ xs[4 * j + 3]? = some (.int .i64 u.diff) ∧ w.ownsRow base 89 4 rv u.rn u.row ∧ w.ownsRow base 111 1 lv u.ln u.loops

def UpsIs (w : World) (base : Nat) (v : Value) (us : List Up) : Prop :=
  ∃ xs, w.ownsRow base 37 4 v us.length xs ∧ ∀ j u, us[j]? = some u → UpIs w base xs j u

theorem oneCell_slice (a : Option Addr) (n c : Nat) : (Value.slice a n c).oneCell' = true := rfl

theorem ups_onecell {w : World} {base : Nat} {v : Value} {us : List Up} {xs : List Value} (h : w.ownsRow base 37 4 v us.length xs) (hel : ∀ j u, us[j]? = some u → UpIs w base xs j u) : ∀ x ∈ xs, x.oneCell' = true := by
  intro x hx
  obtain ⟨i, hi, rfl⟩ := List.getElem_of_mem hx
  have hl := h.1
  have hj : i / 4 < us.length := by omega
  obtain ⟨rv, lv, h0, h1, h2, h3, hr, hlp⟩ := hel (i / 4) us[i / 4] (List.getElem?_eq_getElem hj)
  obtain ⟨ra, rc, rfl⟩ := ownsRow_slice hr
  obtain ⟨la, lc, rfl⟩ := ownsRow_slice hlp
  have hm : i % 4 = 0 ∨ i % 4 = 1 ∨ i % 4 = 2 ∨ i % 4 = 3 := by omega
  have e : xs[i]? = some xs[i] := List.getElem?_eq_getElem hi
  rcases hm with hm | hm | hm | hm
  · rw [show 4 * (i / 4) = i by omega, e] at h0; rw [Option.some.inj h0]; rfl
  · rw [show 4 * (i / 4) + 1 = i by omega, e] at h1; rw [Option.some.inj h1]; rfl
  · rw [show 4 * (i / 4) + 2 = i by omega, e] at h2; rw [Option.some.inj h2]; rfl
  · rw [show 4 * (i / 4) + 3 = i by omega, e] at h3; rw [Option.some.inj h3]; rfl

/-- of the first n of four cells each: those at r lie apart -/
def ApartAt (xs : List Value) (n r : Nat) : Prop := ∀ i j vi vj g, i < n → j < n → xs[4 * i + r]? = some vi → xs[4 * j + r]? = some vj → vi.ownBlock = some g → vj.ownBlock = some g → i = j

/-- a list of updates, its blocks from lo on and below hi, each its own -/
def UpsIn (w : World) (lo hi : Nat) (v : Value) (us : List Up) : Prop :=
  ∃ xs, w.ownsRow lo 37 4 v us.length xs ∧ (∀ g, v.ownBlock = some g → g < hi) ∧ (∀ j u, us[j]? = some u → UpIs w lo xs j u) ∧ (∀ (j : Nat) x g, xs[j]? = some x → x.ownBlock = some g → g < hi) ∧ ApartAt xs us.length 0 ∧ ApartAt xs us.length 2

theorem UpsIn.is {w : World} {lo hi : Nat} {v : Value} {us : List Up} (h : UpsIn w lo hi v us) : UpsIs w lo v us := by
  obtain ⟨xs, h1, -, h2, -⟩ := h
  exact ⟨xs, h1, h2⟩

def ApRel (cur : List Value) (k s : Nat) : Prop := (∀ (j : Nat) x g, j < 4 * k → cur[j]? = some x → x.ownBlock = some g → g < s) ∧ ApartAt cur k 0 ∧ ApartAt cur k 2

theorem apRel_zero (cur : List Value) (s : Nat) : ApRel cur 0 s := ⟨fun j x g h => by omega, fun i j vi vj g h => by omega, fun i j vi vj g h => by omega⟩

theorem apRel_step {cur : List Value} {k s s' : Nat} {v5 v6 : Value} {e1 e3 : Value} (h : ApRel cur k s) (hl : 4 * k + 3 < cur.length) (h1 : cur[4 * k + 1]? = some e1) (h3 : cur[4 * k + 3]? = some e3) (n1 : e1.ownBlock = none) (n3 : e3.ownBlock = none)
    (h5 : ∀ g, v5.ownBlock = some g → s ≤ g ∧ g < s') (h6 : ∀ g, v6.ownBlock = some g → s ≤ g ∧ g < s') (hs : s ≤ s') : ApRel ((cur.set (k * 4) v5).set (k * 4 + 2) v6) (k + 1) s' := by
  obtain ⟨a, b, c⟩ := h
  have get0 : ∀ i, i < 4 * k → ((cur.set (k * 4) v5).set (k * 4 + 2) v6)[i]? = cur[i]? := fun i hi => by
    rw [List.getElem?_set_ne (by omega), List.getElem?_set_ne (by omega)]
  have g0 : ((cur.set (k * 4) v5).set (k * 4 + 2) v6)[4 * k + 0]? = some v5 := by
    rw [List.getElem?_set_ne (by omega), show 4 * k + 0 = k * 4 by omega, List.getElem?_set_self (by omega)]
  have g1 : ((cur.set (k * 4) v5).set (k * 4 + 2) v6)[4 * k + 1]? = some e1 := by
    rw [List.getElem?_set_ne (by omega), List.getElem?_set_ne (by omega)]; exact h1
  have g2 : ((cur.set (k * 4) v5).set (k * 4 + 2) v6)[4 * k + 2]? = some v6 := by
    rw [show 4 * k + 2 = k * 4 + 2 by omega, List.getElem?_set_self (by simp; omega)]
  have g3 : ((cur.set (k * 4) v5).set (k * 4 + 2) v6)[4 * k + 3]? = some e3 := by
    rw [List.getElem?_set_ne (by omega), List.getElem?_set_ne (by omega)]; exact h3
  have ap : ∀ r v, r < 4 → ((cur.set (k * 4) v5).set (k * 4 + 2) v6)[4 * k + r]? = some v → (∀ g, v.ownBlock = some g → s ≤ g) → ApartAt cur k r → ApartAt ((cur.set (k * 4) v5).set (k * 4 + 2) v6) (k + 1) r := by
    intro r v hr hv hg hap i j vi vj g hi hj hvi hvj hgi hgj
    rcases Nat.lt_or_eq_of_le (Nat.le_of_lt_succ hi) with hi | rfl <;> rcases Nat.lt_or_eq_of_le (Nat.le_of_lt_succ hj) with hj | rfl
    · rw [get0 _ (by omega)] at hvi hvj
      exact hap i j vi vj g hi hj hvi hvj hgi hgj
    · rw [get0 _ (by omega)] at hvi
      rw [hv] at hvj; cases hvj
      have := a _ vi g (by omega) hvi hgi
      have := hg g hgj
      omega
    · rw [get0 _ (by omega)] at hvj
      rw [hv] at hvi; cases hvi
      have := a _ vj g (by omega) hvj hgj
      have := hg g hgi
      omega
    · rfl
  refine ⟨fun j x g hj hx hg => ?_, ap 0 v5 (by omega) g0 (fun g hg => (h5 g hg).1) b, ap 2 v6 (by omega) g2 (fun g hg => (h6 g hg).1) c⟩
  by_cases hjk : j < 4 * k
  · rw [get0 j hjk] at hx
    have := a j x g hjk hx hg
    omega
  · have hc : j = 4 * k + 0 ∨ j = 4 * k + 1 ∨ j = 4 * k + 2 ∨ j = 4 * k + 3 := by omega
    rcases hc with rfl | rfl | rfl | rfl
    · rw [g0] at hx; cases hx; exact (h5 g hg).2
    · rw [g1] at hx; cases hx; rw [n1] at hg; cases hg
    · rw [g2] at hx; cases hx; exact (h6 g hg).2
    · rw [g3] at hx; cases hx; rw [n3] at hg; cases hg

/-- the loop's relation: the first k are copied -/
def UpRel (H n : Nat) (us : List Up) (xs : List Value) (w : World) (k : Nat) (wr : World) : Prop :=
  ∃ cur : List Value, wr.heap[H]? = some (.cells cur.toArray 37 (0, 0)) ∧ cur.length = n * 4 ∧ (∀ j u, j < k → us[j]? = some u → UpIs wr H cur j u) ∧ (∀ i, 4 * k ≤ i → cur[i]? = xs[i]?) ∧ Below H w wr ∧ ApRel cur k wr.heap.size

theorem upIs_frame {w w' : World} {base : Nat} {xs : List Value} {j : Nat} {u : Up} (h : UpIs w base xs j u) {G : Nat} {cur : Array Value} {t : TypeId} (hG : w.heap[G]? = some (.cells cur t (0, 0))) (h1 : t ≠ 89) (h2 : t ≠ 111)
    (hf : ∀ g, g < w.heap.size → g ≠ G → w'.heap[g]? = w.heap[g]?) : UpIs w' base xs j u := by
  obtain ⟨rv, lv, a0, a1, a2, a3, hr, hl⟩ := h
  refine ⟨rv, lv, a0, a1, a2, a3, ownsRow_frame hr fun g hg => ?_, ownsRow_frame hl fun g hg => ?_⟩
  · obtain ⟨_, b2, c2, b3⟩ := ownsRow_block hr hg
    exact hf g b2 (fun e => by subst e; rw [hG] at b3; simp at b3; exact h1 b3.2)
  · obtain ⟨_, b2, c2, b3⟩ := ownsRow_block hl hg
    exact hf g b2 (fun e => by subst e; rw [hG] at b3; simp at b3; exact h2 b3.2)

theorem upIs_list {w : World} {base : Nat} {xs ys : List Value} {j : Nat} {u : Up} (h : UpIs w base xs j u) (he : ∀ i, 4 * j ≤ i → i < 4 * j + 4 → ys[i]? = xs[i]?) : UpIs w base ys j u := by
  obtain ⟨rv, lv, a0, a1, a2, a3, hr, hl⟩ := h
  exact ⟨rv, lv, (he _ (by omega) (by omega)).trans a0, (he _ (by omega) (by omega)).trans a1, (he _ (by omega) (by omega)).trans a2, (he _ (by omega) (by omega)).trans a3, hr, hl⟩

theorem upRel_step {H n k : Nat} {us : List Up} {xs : List Value} {w wr w6 : World} {u : Up} {v5 v6 : Value} {cur : List Value}
    (hcur : wr.heap[H]? = some (.cells cur.toArray 37 (0, 0))) (hcl : cur.length = n * 4) (hdone : ∀ j u, j < k → us[j]? = some u → UpIs wr H cur j u) (htodo : ∀ i, 4 * k ≤ i → cur[i]? = xs[i]?) (hbw : Below H w wr) (hap : ApRel cur k wr.heap.size)
    (hk : k < n) (hu : us[k]? = some u) (he1 : xs[4 * k + 1]? = some (.int .u64 u.epoch)) (he3 : xs[4 * k + 3]? = some (.int .i64 u.diff)) (hb : Below wr.heap.size wr w6)
    (ho5 : w6.ownsRow wr.heap.size 89 4 v5 u.rn u.row) (ho6 : w6.ownsRow wr.heap.size 111 1 v6 u.ln u.loops) :
    UpRel H n us xs w (k + 1) ((w6.setCell ⟨H, k * 4, none⟩ v5).setCell ⟨H, k * 4 + 1 + 1, none⟩ v6) := by
  have hlt : H < wr.heap.size := lt_of_heap hcur
  have h6 : w6.heap[H]? = some (.cells cur.toArray 37 (0, 0)) := by rw [hb.block H hlt]; exact hcur
  have h7 := heap_set_same (o := k * 4) (v := v5) h6
  have h8 := heap_set_same (o := k * 4 + 1 + 1) (v := v6) h7
  have hfr : ∀ g, g ≠ H → ((w6.setCell ⟨H, k * 4, none⟩ v5).setCell ⟨H, k * 4 + 1 + 1, none⟩ v6).heap[g]? = w6.heap[g]? := fun g hg => by rw [heap_set_ne hg, heap_set_ne hg]
  refine ⟨((cur.set (k * 4) v5).set (k * 4 + 2) v6), ?_, by simp [hcl], ?_, ?_, ?_, ?_⟩
  · rw [h8]; simp
  · intro j u' hj hu'
    by_cases hjk : j = k
    · subst hjk
      rw [hu] at hu'; cases hu'
      refine ⟨v5, v6, ?_, ?_, ?_, ?_, ?_, ?_⟩
      · rw [List.getElem?_set_ne (by omega), show 4 * j = j * 4 by omega, List.getElem?_set_self (by omega)]
      · rw [List.getElem?_set_ne (by omega), List.getElem?_set_ne (by omega), htodo _ (by omega)]; exact he1
      · rw [show 4 * j + 2 = j * 4 + 2 by omega, List.getElem?_set_self (by simp; omega)]
      · rw [List.getElem?_set_ne (by omega), List.getElem?_set_ne (by omega), htodo _ (by omega)]; exact he3
      · exact ownsRow_frame (ownsRow_lower ho5 (by omega)) fun g hg => hfr g (fun e => by have := (ho5.lt g hg).1; omega)
      · exact ownsRow_frame (ownsRow_lower ho6 (by omega)) fun g hg => hfr g (fun e => by have := (ho6.lt g hg).1; omega)
    · refine upIs_list (xs := cur) (upIs_frame (hdone j u' (by omega) hu') hcur (by decide) (by decide) fun g hg hne => ?_) fun i hi1 hi2 => ?_
      · rw [hfr g hne]; exact hb.block g hg
      · rw [List.getElem?_set_ne (by omega), List.getElem?_set_ne (by omega)]
  · intro i hi
    rw [List.getElem?_set_ne (by omega), List.getElem?_set_ne (by omega)]
    exact htodo i (by omega)
  · exact ((hbw.trans (hb.mono (by omega))).setCell (Nat.le_refl _) _).setCell (Nat.le_refl _) _
  · refine apRel_step hap (by omega) ((htodo _ (by omega)).trans he1) ((htodo _ (by omega)).trans he3) rfl rfl (fun g hg => ?_) (fun g hg => ?_) ?_
    · have := ho5.lt g hg; simpa [World.setCell] using this
    · have := ho6.lt g hg; simpa [World.setCell] using this
    · have := hb.size; simpa [World.setCell] using this

set_option maxRecDepth 100000 in
set_option maxHeartbeats 1000000 in
theorem updates_some (b c n : Nat) (us : List Up) (xs : List Value) (w : World) (hrow : w.ownsRow 0 37 4 (.slice (some ⟨b, 0, none⟩) n c) n xs) (hn : n ≤ 1073741824)
    (hus : us.length = n) (hel : ∀ j u, us[j]? = some u → UpIs w 0 xs j u) (hok : ∀ u ∈ us, u.ok) (hone : ∀ x ∈ xs, x.oneCell' = true) :
    Calls Try.prog 56 #[.slice (some ⟨b, 0, none⟩) n c] w fun e w' => e = .returned (.slice (some ⟨w.heap.size, 0, none⟩) n n) ∧ UpRel w.heap.size n us xs w n w' := by
  obtain ⟨i0, hi, hz0, hz1, hz2⟩ := info_parts info37
  have hmk : ∀ u : World, (Instr.makeSlice 29 (.int .i64 (n : Int)) (.int .i64 (n : Int))).run Try.prog u =
      .ok (.slice (some ⟨u.heap.size, 0, none⟩) n n) (u.alloc (.cells (madeCells #[.slice none 0 0, .int .u64 0, .slice none 0 0, .int .i64 0] (n * 4)) 37)) := fun u => by
    have h := run_make (P := Try.prog) u 29 37 i0 _ Try.underlying29 hi hz0 .i64 .i64 (n : Int) (n : Int) (by omega) (Int.le_refl _) (by rw [hz2]; omega) (by omega)
    have e : ((n : Int)).toNat = n := by omega
    rw [e] at h
    simpa [hz1, Value.cells] using h
  have hbc := ownsRow_heap hrow
  have HR := Lib.hid hrow
  have HU := Lib.hid hus
  have HE := Lib.hid hel
  have HK := Lib.hid hok
  have H1 := Lib.hid hone
  have HB := Lib.hid hbc
  clear hrow hus hel hok hone hbc
  go_enter Try.func56, Try.ntmps56
  go_wp2_with (refine wpList_copy_over (o := ⟨some 11, _, _, _, _, _⟩) rfl (.tmp 9) (.tmp 10) 29 29 rfl 37 i0 Try.underlying29 hi w.heap.size n n ⟨b, 0, none⟩ c rfl rfl (madeCells #[.slice none 0 0, .int .u64 0, .slice none 0 0, .int .i64 0] (n * 4)) 37 ?g xs ?n ?src ?fit ?one ?_)
  case g => exact heap_alloc_new w _
  case n => rw [hz1]; exact HR.out.1
  case src =>
    intro j u hu
    rw [add_lit, Nat.zero_add, World.cell?_of_block (Below.heap_alloc w _ b HB.out.1)]
    exact HB.out.2.2.2 j u hu
  case fit => rw [size_madeCells]; exact HR.out.1
  case one => exact H1.out
  intro w2 hrow2 hgr hsz
  have hb2 : Below w.heap.size w w2 := ((Below.refl _ _).alloc (Nat.le_refl _) _).grown hgr (by simp) (by intro k hk; cases hk; exact Nat.le_refl _)
  have hsz2 : w.heap.size < w2.heap.size := by rw [hsz]; simp
  clear hsz hgr
  obtain ⟨H, hH⟩ : ∃ H, H = w.heap.size := ⟨_, rfl⟩
  rw [← hH] at hrow2 hb2 hsz2 ⊢
  have HH := Lib.hid hH
  clear hH
  have hst : UpRel H n us xs w 0 w2 := ⟨xs, hrow2, HR.out.1, fun j u hj _ => by omega, fun _ _ => rfl, hb2, apRel_zero _ _⟩
  have HST := Lib.hid hst
  clear hst hrow2 hb2 hmk
  go_wp2_with fail
  go_loopw [14] (fun i wr => ∃ k : Nat, k ≤ n ∧ i = .int .i64 k ∧ UpRel H n us xs w k wr) (fun i _ => n - (intOf i).toNat)
  case atStart => exact ⟨0, Nat.zero_le _, rfl, HST.out⟩
  case round =>
    obtain ⟨k, hk, rfl, hr⟩ := hrel
    by_cases hlt : k < n
    · obtain ⟨cur, hcur, hcl, hdone, htodo, hbw, hap⟩ := hr
      obtain ⟨u, hu⟩ : ∃ u, us[k]? = some u := ⟨us[k]'(by rw [HU.out]; exact hlt), List.getElem?_eq_getElem _⟩
      obtain ⟨rv, lv, e0, e1, e2, e3, hr0, hl0⟩ := HE.out k u hu
      have hok' : u.ok := HK.out u (List.mem_of_getElem? hu)
      obtain ⟨ra, rc, rfl⟩ := ownsRow_slice hr0
      obtain ⟨la, lc, rfl⟩ := ownsRow_slice hl0
      have hsz : H < wr.heap.size := lt_of_heap hcur
      have hc0 : wr.cell? ⟨H, k * 4, none⟩ = some (.slice ra u.rn rc) := cell_of_heap hcur (by rw [List.getElem?_toArray, htodo _ (by omega), show k * 4 = 4 * k by omega]; exact e0)
      have hc1 : wr.cell? ⟨H, k * 4 + 1, none⟩ = some (.int .u64 u.epoch) := cell_of_heap hcur (by rw [List.getElem?_toArray, htodo _ (by omega), show k * 4 = 4 * k by omega]; exact e1)
      have hc2 : wr.cell? ⟨H, k * 4 + 2, none⟩ = some (.slice la u.ln lc) := cell_of_heap hcur (by rw [List.getElem?_toArray, htodo _ (by omega), show k * 4 = 4 * k by omega]; exact e2)
      have hc3 : wr.cell? ⟨H, k * 4 + 3, none⟩ = some (.int .i64 u.diff) := cell_of_heap hcur (by rw [List.getElem?_toArray, htodo _ (by omega), show k * 4 = 4 * k by omega]; exact e3)
      have hf0 : wr.frozen? ⟨H, k * 4, none⟩ = false := frozen_of_heap hcur
      have hf2 : wr.frozen? ⟨H, k * 4 + 2, none⟩ = false := frozen_of_heap hcur
      have hHw : H ≤ w.heap.size := by rw [HH.out]; exact Nat.le_refl _
      have hRV : wr.ownsRow 0 89 4 (.slice ra u.rn rc) u.rn u.row := Below.ownsRow hbw hr0 fun g hg => by rw [HH.out]; exact (hr0.lt g hg).2
      have hLV : wr.ownsRow 0 111 1 (.slice la u.ln lc) u.ln u.loops := Below.ownsRow hbw hl0 fun g hg => by rw [HH.out]; exact (hl0.lt g hg).2
      have HC := Lib.hid hcur
      have HD := Lib.hid hdone
      have HT := Lib.hid htodo
      have HL := Lib.hid hcl
      have HAP := Lib.hid hap
      have HUK := Lib.hid hu
      have E1 := Lib.hid e1
      have E3 := Lib.hid e3
      have HRV := Lib.hid hRV
      have HLV := Lib.hid hLV
      obtain ⟨krn, kln, krow, kloops⟩ := hok'
      have KR := Lib.hid krow
      have KL := Lib.hid kloops
      clear hap krow kloops hcur hdone htodo hcl hu e0 e1 e2 e3 hr0 hl0 hRV hLV
      go_wp2_with fail
      obtain ⟨lb, hlb⟩ : ∃ lb, lb = wr.heap.size := ⟨_, rfl⟩
      obtain ⟨w3, hw3⟩ : ∃ w3, w3 = wr.alloc (.cells #[.slice ra u.rn rc, .int .u64 u.epoch, .slice la u.ln lc, .int .i64 u.diff] 37) := ⟨_, rfl⟩
      have hbl : Below wr.heap.size wr w3 := by rw [hw3]; exact (Below.refl _ _).alloc (Nat.le_refl _) _
      have hnew : w3.heap[lb]? = some (.cells #[.slice ra u.rn rc, .int .u64 u.epoch, .slice la u.ln lc, .int .i64 u.diff] 37 (0, 0)) := by rw [hw3, hlb]; exact heap_alloc_new wr _
      have hl0 : w3.cell? ⟨lb, 0, none⟩ = some (.slice ra u.rn rc) := cell_of_heap hnew rfl
      have hl2 : w3.cell? ⟨lb, 2, none⟩ = some (.slice la u.ln lc) := cell_of_heap hnew rfl
      have hls : lb < w3.heap.size := lt_of_heap hnew
      have hc0 : w3.cell? ⟨H, k * 4, none⟩ = some (.slice ra u.rn rc) := (hbl.cell (p := ⟨H, k * 4, none⟩) hsz).trans hc0
      have hc2 : w3.cell? ⟨H, k * 4 + 2, none⟩ = some (.slice la u.ln lc) := (hbl.cell (p := ⟨H, k * 4 + 2, none⟩) hsz).trans hc2
      have hf0 : w3.frozen? ⟨H, k * 4, none⟩ = false := (hbl.frozen (p := ⟨H, k * 4, none⟩) hsz).trans hf0
      have hf2 : w3.frozen? ⟨H, k * 4 + 2, none⟩ = false := (hbl.frozen (p := ⟨H, k * 4 + 2, none⟩) hsz).trans hf2
      have hHs : H < w3.heap.size := Nat.lt_of_lt_of_le hsz hbl.size
      have hRV3 : Hid (w3.drew.ownsRow 0 89 4 (.slice ra u.rn rc) u.rn u.row) := Below.ownsRow' hbl.drew HRV.out
      have hLV3 : Hid (w3.drew.ownsRow 0 111 1 (.slice la u.ln lc) u.ln u.loops) := Below.ownsRow' hbl.drew HLV.out
      have hne : H ≠ lb := by omega
      have HBL := Lib.hid hbl
      have hlbs : lb ≤ wr.heap.size := by omega
      rw [← hw3, ← hlb]
      clear hw3 hlb hnew hbl hc1 hc3
      go_region_held3 (fun w' => w'.cell? ⟨lb, 0, none⟩ = some (.slice ra u.rn rc) ∧ w'.cell? ⟨lb, 2, none⟩ = some (.slice la u.ln lc))
        (first | go_keep | (exact ⟨(hb5.cell (p := ⟨lb, 0, none⟩) hls).trans hl0, (hb5.cell (p := ⟨lb, 2, none⟩) hls).trans hl2⟩) | (exact ⟨(hb56.cell (p := ⟨lb, 0, none⟩) hls).trans hl0, (hb56.cell (p := ⟨lb, 2, none⟩) hls).trans hl2⟩) | (simp only [cell_set_ne hne]; exact ⟨(hb56.cell (p := ⟨lb, 0, none⟩) hls).trans hl0, (hb56.cell (p := ⟨lb, 2, none⟩) hls).trans hl2⟩))
        (first | (go_at_call 58; refine (clone58 _ u.rn u.row _ hRV3.out krn KR.out).mono ?_; rintro e w5 ⟨v5, rfl, ho5, hb5⟩; obtain ⟨a5, c5, rfl⟩ := ownsRow_slice ho5) | (go_at_call 55; refine (clone55 _ u.ln u.loops _ (Below.ownsRow' hb5 hLV3.out) kln KL.out).mono ?_; rintro e w6 ⟨v6, rfl, ho6, hb6⟩; obtain ⟨a6, c6, rfl⟩ := ownsRow_slice ho6; have hb56 := hb5.trans (hb6.mono hb5.size); have q0 := (hb56.cell (p := ⟨H, k * 4, none⟩) hHs).trans hc0; have q2 := (hb56.cell (p := ⟨H, k * 4 + 2, none⟩) hHs).trans hc2; have p0 := (hb56.frozen (p := ⟨H, k * 4, none⟩) hHs).trans hf0; have p2 := (hb56.frozen (p := ⟨H, k * 4 + 2, none⟩) hHs).trans hf2))
      have hstep : UpRel H n us xs w (k + 1) ((w6.setCell ⟨H, k * 4, none⟩ (.slice a5 u.rn c5)).setCell ⟨H, k * 4 + 1 + 1, none⟩ (.slice a6 u.ln c6)) := by
        have hs3 : wr.heap.size ≤ w3.heap.size := HBL.out.size
        have hs5 : w3.heap.size ≤ w5.heap.size := hb5.size
        refine upRel_step HC.out HL.out HD.out HT.out hbw HAP.out hlt HUK.out E1.out E3.out (HBL.out.drew.trans (hb56.mono hs3)) ?_ (ownsRow_lower ho6 (Nat.le_trans hs3 hs5))
        exact Below.ownsRow' hb6 (ownsRow_lower ho5 hs3)
      have HSP := Lib.hid hstep
      clear hstep
      go_wp2
      go_roundw
      case rel => exact ⟨k + 1, hlt, by go_num, HSP.out⟩
      case measure => simp [intOf]; omega
    · obtain rfl : k = n := by omega
      go_wp2
      go_ret
      exact ⟨by rw [← HH.out]; rfl, by rw [← HH.out]; exact hr⟩

theorem upsIn_of_rel {H n : Nat} {us : List Up} {xs : List Value} {w w' : World} (h : UpRel H n us xs w n w') (hus : us.length = n) (hn : n ≤ 1073741824) : UpsIn w' H w'.heap.size (.slice (some ⟨H, 0, none⟩) n n) us := by
  obtain ⟨cur, hcur, hcl, hdone, _, _, hap⟩ := h
  refine ⟨cur, ?_, fun g hg => by cases hg; exact lt_of_heap hcur, fun j u hu => hdone j u (by rw [← hus]; exact (List.getElem?_eq_some_iff.1 hu).1) hu, fun j x g hx hg => hap.1 j x g (by have := (List.getElem?_eq_some_iff.1 hx).1; omega) hx hg, by rw [hus]; exact hap.2.1, by rw [hus]; exact hap.2.2⟩
  rw [hus]
  exact ownsRow_mk (Nat.le_refl _) hcur (Nat.le_refl _) (by unfold maxLen; omega) (by simp [hcl]) (by rw [← hcl]; simp)

set_option maxRecDepth 100000 in
set_option maxHeartbeats 1000000 in
theorem updates_nil (w : World) :
    Calls Try.prog 56 #[.slice none 0 0] w fun e w' => e = .returned (.slice (some ⟨w.heap.size, 0, none⟩) 0 0) ∧ w' = w.alloc (.cells #[] 37) := by
  obtain ⟨i0, hi, hz0, hz1, hz2⟩ := info_parts info37
  have hmk : ∀ u : World, (Instr.makeSlice 29 (.int .i64 0) (.int .i64 0)).run Try.prog u =
      .ok (.slice (some ⟨u.heap.size, 0, none⟩) 0 0) (u.alloc (.cells #[] 37)) := fun u => by
    have h := run_make (P := Try.prog) u 29 37 i0 _ Try.underlying29 hi hz0 .i64 .i64 0 0 (by omega) (Int.le_refl _) (by rw [hz2]; omega) (by omega)
    simpa [hz1, Value.cells, madeCells, Array.range_zero'] using h
  have hcp := fun (u : World) (a : Addr) => run_copy_nil Try.prog u 29 29 3 37 a 0 0 Try.underlying29 (by rw [hi]; rfl)
  go_enter Try.func56, Try.ntmps56
  go_wp2
  go_loopw [14] (fun i wr => i = .int .i64 0 ∧ wr = w.alloc (.cells #[] 37)) (fun i _ => 0)
  case atStart => exact ⟨rfl, rfl⟩
  case round =>
    obtain ⟨rfl, rfl⟩ := hrel
    go_wp2
    go_ret
    exact ⟨rfl, rfl⟩

/-- mail.updates: a copy of its own, whatever came in -/
theorem updates_any (v : Value) (us : List Up) (w : World) (hv : UpsIs w 0 v us) (hn : us.length ≤ 1073741824) (hok : ∀ u ∈ us, u.ok) :
    Calls Try.prog 56 #[v] w fun e w' => ∃ a c, e = .returned (.slice a us.length c) ∧ UpsIn w' w.heap.size w'.heap.size (.slice a us.length c) us ∧ Below w.heap.size w w' := by
  obtain ⟨xs, hrow, hel⟩ := hv
  rcases hrow.2 with ⟨rfl, h0⟩ | ⟨b, c, cur, rfl, _⟩
  · obtain rfl : us = [] := List.eq_nil_of_length_eq_zero h0
    refine (updates_nil w).mono ?_
    rintro e w' ⟨rfl, rfl⟩
    refine ⟨_, _, rfl, ⟨[], ownsRow_mk (cur := #[]) (Nat.le_refl _) (heap_alloc_new w _) (Nat.le_refl _) (Nat.zero_le _) rfl rfl, fun g hg => by cases hg; simp, fun j u hu => by simp at hu, fun j x g hx => by simp at hx, fun i j vi vj g hi => by simp at hi, fun i j vi vj g hi => by simp at hi⟩, (Below.refl _ _).alloc (Nat.le_refl _) _⟩
  · refine (updates_some b c us.length us xs w hrow hn rfl hel hok (ups_onecell hrow hel)).mono ?_
    rintro e w' ⟨rfl, hr⟩
    exact ⟨_, _, rfl, upsIn_of_rel hr rfl hn, hr.choose_spec.2.2.2.2.1⟩
end Go.Proofs.Ytpoilgeffpedoaa
