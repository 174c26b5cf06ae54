/- LentTime 14, LentUpdates 15. -/
import Derived.Test.YtpoilgeffpedoaaPa
namespace Go.Proofs.Ytpoilgeffpedoaa
open Go.RowKit Go.Pen
attribute [local go_sem ↓] Go.wp_at_zero Go.wp_at_succ

set_option maxRecDepth 100000 in
set_option maxHeartbeats 2000000 in
theorem lentTime_14 (ep : Int) (a : Option Addr) (c : Nat) (xs : List Int) (w : World) (hv : WordsAt w (.slice a xs.length c) xs) (hn : xs.length ≤ 1000000) :
    Calls Try.prog 14 #[.agg #[.int .u64 ep, .slice a xs.length c]] w fun e w' => ∃ g, w.heap.size ≤ g ∧ e = .returned (.agg #[.int .u64 ep, .slice (some ⟨g, 0, none⟩) xs.length (xs.length + 2)]) ∧
      w'.ownsRow w.heap.size 111 1 (.slice (some ⟨g, 0, none⟩) (xs.length + 2) (xs.length + 2)) (xs.length + 2) (wordCells xs ++ wordTail) ∧ Below w.heap.size w w' := by
  have HV := Lib.hid hv
  clear hv
  go_enter Try.func14, Try.ntmps14
  go_wp2_with fail
  obtain ⟨B, eB⟩ : ∃ B, B = w.heap.size := ⟨_, rfl⟩
  obtain ⟨w1, hw1⟩ : ∃ w1, w1 = (w.alloc (.cells #[.int .u64 ep, .slice a xs.length c] 28)).alloc (.cells #[.int .u64 0, .slice none 0 0] 28) := ⟨_, rfl⟩
  have hb1 : Below w.heap.size w w1 := by rw [hw1]; exact ((Below.refl _ _).alloc (Nat.le_refl _) _).alloc (by simp) _
  have hs1 : w1.heap.size = B + 2 := by rw [hw1, eB]; simp
  have h1 : w1.heap[B]? = some (.cells #[.int .u64 ep, .slice a xs.length c] 28 (0, 0)) := by
    rw [hw1, eB, Below.heap_alloc _ _ _ (by simp)]; exact heap_alloc_new w _
  have h2 : w1.heap[B + 1]? = some (.cells #[.int .u64 0, .slice none 0 0] 28 (0, 0)) := by
    rw [hw1, eB, show w.heap.size + 1 = (w.alloc (.cells #[.int .u64 ep, .slice a xs.length c] 28)).heap.size by simp]; exact heap_alloc_new _ _
  rw [← hw1, ← eB]
  have HV1 : Hid (WordsAt w1.drew (.slice a xs.length c) xs) := (HV.out.below hb1).below (w' := w1.drew) ⟨rfl, rfl, rfl, Nat.le_refl _, fun _ _ => rfl⟩
  have HB1 := Lib.hid hb1
  have H1 := Lib.hid h1
  have H2 := Lib.hid h2
  have EB := Lib.hid eB
  have c0 : w1.cell? ⟨B, 0, none⟩ = some (.int .u64 ep) := cell_of_heap h1 rfl
  have c1 : w1.cell? ⟨B, 1, none⟩ = some (.slice a xs.length c) := cell_of_heap h1 rfl
  clear hw1 hb1 h1 h2 eB
  go_region_with (go_at_call 33; refine (lentWords_33 _ xs _ HV1.out hn).mono ?_; rintro e w2 ⟨rfl, ho2, hb2⟩; have q0 := (hb2.cell (p := ⟨B, 0, none⟩) (by show B < w1.heap.size; omega)).trans c0; have q1 := (hb2.cell (p := ⟨B, 1, none⟩) (by show B < w1.heap.size; omega)).trans c1; have r2 : w2.heap[B + 1]? = _ := (hb2.block (B + 1) (by show B + 1 < w1.heap.size; omega)).trans H2.out; have p0 : w2.cell? ⟨B + 1, 0, none⟩ = _ := cell_of_heap r2 rfl; have p1 : w2.cell? ⟨B + 1, 1, none⟩ = _ := cell_of_heap r2 rfl; have f0 : w2.frozen? ⟨B + 1, 0, none⟩ = _ := frozen_of_heap r2; have f1 : w2.frozen? ⟨B + 1, 1, none⟩ = _ := frozen_of_heap r2; have R2 := Lib.hid r2; clear r2)
  all_goals
    obtain ⟨w3, hw3⟩ : ∃ w3, w3 = (w2.setCell ⟨B + 1, 0, none⟩ (.int .u64 ep)).setCell ⟨B + 1, 1, none⟩ (.slice (some ⟨B + 2, 0, none⟩) xs.length (xs.length + 2)) := ⟨_, rfl⟩
    have hd : w1.drew.heap.size = B + 2 := hs1
    rw [hd] at ho2
    have r3 : w3.heap[B + 1]? = some (.cells #[.int .u64 ep, .slice (some ⟨B + 2, 0, none⟩) xs.length (xs.length + 2)] 28 (0, 0)) := by
      rw [hw3, heap_set_same (heap_set_same R2.out)]; rfl
    have o3 : w3.ownsRow (B + 2) 111 1 (.slice (some ⟨B + 2, 0, none⟩) (xs.length + 2) (xs.length + 2)) (xs.length + 2) (wordCells xs ++ wordTail) := by
      refine ownsRow_frame ho2 fun g hg => ?_
      obtain rfl : B + 2 = g := Option.some.inj hg
      rw [hw3, heap_set_ne (by omega), heap_set_ne (by omega)]
    have b3 : Below w.heap.size w w3 := by
      have h := HB1.out.trans ((below_undrew hb2).mono (show w.heap.size ≤ w1.heap.size from HB1.out.size))
      rw [hw3]
      exact (h.setCell (show w.heap.size ≤ B + 1 by have := EB.out; omega) _).setCell (show w.heap.size ≤ B + 1 by have := EB.out; omega) _
    rw [← hw3]
    clear hw3 ho2 hb2 q0 q1 p0 p1 f0 f1
    have s0 : w3.cell? ⟨B + 1, 0, none⟩ = some (.int .u64 ep) := cell_of_heap r3 rfl
    have s1 : w3.cell? ⟨B + 1, 1, none⟩ = some (.slice (some ⟨B + 2, 0, none⟩) xs.length (xs.length + 2)) := cell_of_heap r3 rfl
    go_wp2_with fail
    exact bodyPost_ret (v := .agg #[.int .u64 ep, .slice (some ⟨B + 2, 0, none⟩) xs.length (xs.length + 2)]) (by simp [results, Try.results14, go_sem, s0, s1]) rfl ⟨B + 2, by have := EB.out; omega, rfl, ownsRow_lower o3 (by have := EB.out; omega), b3⟩

/-- a lent update at four cells -/
def LentEl (w : World) (lo : Nat) (xs : List Value) (j : Nat) (u : Upd) : Prop :=
  ∃ rb lb, xs[4 * j]? = some (.slice (some ⟨rb, 0, none⟩) u.row.length (u.row.length + 2)) ∧ xs[4 * j + 1]? = some (.int .u64 u.epoch) ∧ xs[4 * j + 2]? = some (.slice (some ⟨lb, 0, none⟩) u.loops.length (u.loops.length + 2)) ∧ xs[4 * j + 3]? = some (.int .i64 u.diff) ∧
    w.ownsRow lo 89 4 (.slice (some ⟨rb, 0, none⟩) (u.row.length + 2) (u.row.length + 2)) (u.row.length + 2) (rowCells u.row ++ rowTail) ∧ w.ownsRow lo 111 1 (.slice (some ⟨lb, 0, none⟩) (u.loops.length + 2) (u.loops.length + 2)) (u.loops.length + 2) (wordCells u.loops ++ wordTail)

def upTail : List Value := [.slice none 0 0, .int .u64 0, .slice none 0 0, .int .i64 91]

theorem LentEl.frame {w w' : World} {lo : Nat} {xs : List Value} {j : Nat} {u : Upd} (h : LentEl w lo xs j u) (hf : ∀ (g : Nat) (cur : Array Value) (t : TypeId), w.heap[g]? = some (.cells cur t (0, 0)) → (t = 89 ∨ t = 111) → w'.heap[g]? = w.heap[g]?) : LentEl w' lo xs j u := by
  obtain ⟨rb, lb, a0, a1, a2, a3, hr, hl⟩ := h
  refine ⟨rb, lb, a0, a1, a2, a3, ownsRow_frame hr fun g hg => ?_, ownsRow_frame hl fun g hg => ?_⟩
  · obtain ⟨-, -, cur, hc⟩ := ownsRow_block hr hg
    exact hf g cur 89 hc (.inl rfl)
  · obtain ⟨-, -, cur, hc⟩ := ownsRow_block hl hg
    exact hf g cur 111 hc (.inr rfl)

theorem LentEl.list {w : World} {lo : Nat} {xs ys : List Value} {j : Nat} {u : Upd} (h : LentEl w lo xs j u) (he : ∀ i, 4 * j ≤ i → i < 4 * j + 4 → ys[i]? = xs[i]?) : LentEl w lo ys j u := by
  obtain ⟨rb, lb, a0, a1, a2, a3, hr, hl⟩ := h
  exact ⟨rb, lb, (he _ (by omega) (by omega)).trans a0, (he _ (by omega) (by omega)).trans a1, (he _ (by omega) (by omega)).trans a2, (he _ (by omega) (by omega)).trans a3, hr, hl⟩

/-- the loop's relation: k are lent -/
def LentRel (H n : Nat) (us : List Upd) (w : World) (k : Nat) (wr : World) : Prop :=
  ∃ xs, wr.ownsRow H 37 4 (.slice (some ⟨H, 0, none⟩) k (n + 1)) k xs ∧ (∀ j u, j < k → us[j]? = some u → LentEl wr H xs j u) ∧ Below H w wr

/-- the end of a round -/
theorem lentRel_step {H n k rb lb : Nat} {us : List Upd} {w wr w6 w7 : World} {u : Upd} {xs : List Value}
    (hown : wr.ownsRow H 37 4 (.slice (some ⟨H, 0, none⟩) k (n + 1)) k xs) (hel : ∀ j u, j < k → us[j]? = some u → LentEl wr H xs j u) (hb : Below H w wr) (hu : us[k]? = some u)
    (h6 : Below wr.heap.size wr w6) (hr : w6.ownsRow H 89 4 (.slice (some ⟨rb, 0, none⟩) (u.row.length + 2) (u.row.length + 2)) (u.row.length + 2) (rowCells u.row ++ rowTail)) (hl : w6.ownsRow H 111 1 (.slice (some ⟨lb, 0, none⟩) (u.loops.length + 2) (u.loops.length + 2)) (u.loops.length + 2) (wordCells u.loops ++ wordTail))
    (h7 : w7.ownsRow H 37 4 (.slice (some ⟨H, 0, none⟩) (k + 1) (n + 1)) (k + 1) (xs ++ [.slice (some ⟨rb, 0, none⟩) u.row.length (u.row.length + 2), .int .u64 u.epoch, .slice (some ⟨lb, 0, none⟩) u.loops.length (u.loops.length + 2), .int .i64 u.diff]))
    (hg : w6.grownBy w7 (some H)) : LentRel H n us w (k + 1) w7 := by
  have hH : H < wr.heap.size := (hown.lt H rfl).2
  have hlen := hown.1
  obtain ⟨-, -, curH, hcH⟩ := ownsRow_block hown (g := H) rfl
  have hcH6 := (h6.block H hH).trans hcH
  have f67 : ∀ (g : Nat) (cur : Array Value) (t : TypeId), w6.heap[g]? = some (.cells cur t (0, 0)) → (t = 89 ∨ t = 111) → w7.heap[g]? = w6.heap[g]? := fun g cur t hc ht =>
    hg.block g (lt_of_heap hc) fun e => by
      cases e
      exact type_ne hc hcH6 (by rcases ht with rfl | rfl <;> decide) rfl
  refine ⟨_, h7, fun j u' hj hu' => ?_, (hb.trans (h6.mono (Nat.le_of_lt hH))).grown hg (by have := h6.size; omega) (by intro k hk; cases hk; exact Nat.le_refl _)⟩
  rcases Nat.lt_or_eq_of_le (Nat.le_of_lt_succ hj) with hj | rfl
  · have h1 : LentEl w6 H xs j u' := (hel j u' hj hu').frame fun g cur t hc _ => h6.block g (lt_of_heap hc)
    refine (h1.frame f67).list fun i h1 h2 => ?_
    rw [List.getElem?_append_left (by omega)]
  · rw [hu] at hu'; cases hu'
    refine LentEl.frame (w := w6) ⟨rb, lb, ?_, ?_, ?_, ?_, hr, hl⟩ f67
    · rw [List.getElem?_append_right (by omega), show 4 * j - xs.length = 0 by omega]; rfl
    · rw [List.getElem?_append_right (by omega), show 4 * j + 1 - xs.length = 1 by omega]; rfl
    · rw [List.getElem?_append_right (by omega), show 4 * j + 2 - xs.length = 2 by omega]; rfl
    · rw [List.getElem?_append_right (by omega), show 4 * j + 3 - xs.length = 3 by omega]; rfl

/-- a list of updates that is lent -/
def LentUps (w : World) (lo g : Nat) (us : List Upd) : Prop :=
  ∃ xs, w.ownsRow lo 37 4 (.slice (some ⟨g, 0, none⟩) (us.length + 1) (us.length + 1)) (us.length + 1) (xs ++ upTail) ∧ xs.length = us.length * 4 ∧ ∀ j u, us[j]? = some u → LentEl w lo xs j u

theorem step_append_fits {P : Program} (w : World) {ops : Array Oper} {o : Oper} {a : Act} {K : Act → World → Prop} {Q : Exit → Act → World → Prop} {E : Prop} (hgd : o.guard = none) (s x : Operand) (t : TypeId)
    (ho : o.op = Op.call { callee := Callee.builtin Builtin.append, args := #[s, x], argTypes := #[t, t] })
    (base : Nat) (e : TypeId) (i : TypeInfo) (size : Nat) (h1 : P.underlying t = some (.slice e)) (h2 : P.info? e = some i) (h4 : i.size = size)
    (g k cap : Nat) (xs : List Value) (hs : a.eval s = .slice (some ⟨g, 0, none⟩) k cap) (hown : w.ownsRow base e size (.slice (some ⟨g, 0, none⟩) k cap) k xs) (ad : Addr) (m c : Nat) (news : List Value) (hx : a.eval x = .slice (some ad) m c) (hn : news.length = m * size)
    (hc : ∀ j u, news[j]? = some u → w.cell? (ad.add j) = some u) (h1c : ∀ u ∈ news, u.oneCell' = true) (b1 : k + m ≤ cap)
    (h : ∀ w', w'.ownsRow base e size (.slice (some ⟨g, 0, none⟩) (k + m) cap) (k + m) (xs ++ news) → w.grownBy w' (some g) → K (a.put o.dst (.slice (some ⟨g, 0, none⟩) (k + m) cap)) w') :
    if Region.wanted o (yielded ops a.tmps) = true then Oper.wp P o a w K Q else E := by
  have hw : Region.wanted o (yielded ops a.tmps) = true := by simp [Region.wanted, hgd]
  rw [if_pos hw]
  obtain ⟨w', hrun, r1, r2⟩ := run_append_fits (P := P) w base t o.type e i size h1 h2 h4 g k cap xs hown ad m c news hn hc h1c b1
  unfold Oper.wp execOp
  simp only [ho, resolve, invoke, builtin, Sem.run_bind, Sem.run_pure, Result.andThen_ok, List.map_toArray, List.map_cons, List.map_nil, hs, hx, hrun]
  exact h w' r1 r2

theorem alloc_reads (w : World) (xs : List Value) (t : TypeId) : ∀ j u, xs[j]? = some u → (w.alloc (.cells xs.toArray t)).cell? ((⟨w.heap.size, 0, none⟩ : Addr).add j) = some u := by
  intro j u hj
  rw [add_lit, Nat.zero_add]
  exact cell_of_heap (heap_alloc_new w _) (by rw [List.getElem?_toArray]; exact hj)

theorem one4 (a b : Option Addr) (n m c d : Nat) (e f : Int) : ∀ u ∈ [Value.slice a n c, .int .u64 e, .slice b m d, .int .i64 f], u.oneCell' = true := by
  intro u hu
  simp at hu
  rcases hu with rfl | rfl | rfl | rfl <;> rfl

theorem keep4 {w w' : World} (h : Below w.heap.size w w') {a0 a1 a2 a3 : Addr} {v0 v1 v2 v3 : Value} (hs : w.cell? a0 = some v0 ∧ w.cell? a1 = some v1 ∧ w.cell? a2 = some v2 ∧ w.cell? a3 = some v3) : w'.cell? a0 = some v0 ∧ w'.cell? a1 = some v1 ∧ w'.cell? a2 = some v2 ∧ w'.cell? a3 = some v3 :=
  ⟨cell_keep h hs.1, cell_keep h hs.2.1, cell_keep h hs.2.2.1, cell_keep h hs.2.2.2⟩

set_option maxRecDepth 100000 in
set_option maxHeartbeats 4000000 in
theorem lentUpdates_15 (v : Value) (us : List Upd) (w : World) (hv : UpsAt w v us) (hn : us.length ≤ 1000000) (hk : ∀ u ∈ us, u.row.length ≤ 1000000 ∧ u.loops.length ≤ 1000000) :
    Calls Try.prog 15 #[v] w fun e w' => e = .returned (.slice (some ⟨w.heap.size, 0, none⟩) us.length (us.length + 1)) ∧ LentUps w' w.heap.size w.heap.size us ∧ Below w.heap.size w w' := by
  obtain ⟨i0, hi, hz0, hz1, hz2⟩ := info_parts info37
  obtain ⟨a, c, rfl⟩ := hv.slice
  have hw : IntKind.i64.wrap ((us.length : Int) + 1) = (us.length : Int) + 1 := IntWalk.i64_in _ (by omega)
  have HV := Lib.hid hv
  have HKK := Lib.hid hk
  obtain ⟨n, en⟩ : ∃ n, n = us.length := ⟨_, rfl⟩
  have EN := Lib.hid en
  rw [← en] at hn hw ⊢
  clear hv hk en
  go_enter Try.func15, Try.ntmps15
  go_wp2_with (at_make; refine wpList_make_own _ rfl _ _ 29 rfl w.heap.size 37 i0 (.agg #[.slice none 0 0, .int .u64 0, .slice none 0 0, .int .i64 0]) 4 Try.underlying29 hi hz0 hz1 .i64 .i64 ((n : Int) + 1) (n + 1) rfl rfl (by omega) (by rw [hz2]; omega) (by unfold maxLen; omega) (Nat.le_refl _) ?_)
  intro w1 ho1 hg1
  have hb1 : Below w.heap.size w w1 := (Below.refl _ _).grown hg1 (Nat.le_refl _) (by intro k hk; cases hk)
  obtain ⟨H, eH⟩ : ∃ H, H = w.heap.size := ⟨_, rfl⟩
  rw [← eH] at ho1 hb1 ⊢
  have hst : LentRel H n us w 0 w1 := ⟨[], ho1, fun j u hj => absurd hj (Nat.not_lt_zero _), hb1⟩
  have HST := Lib.hid hst
  have EH := Lib.hid eH
  clear ho1 hb1 hst hg1 eH
  go_wp2_with fail
  go_loopw [3, 4] (fun x i wr => ∃ k : Nat, k ≤ n ∧ i = .int .i64 k ∧ x = .slice (some ⟨H, 0, none⟩) k (n + 1) ∧ LentRel H n us w k wr) (fun _ i _ => n - (intOf i).toNat)
  case atStart => exact ⟨0, Nat.zero_le _, rfl, rfl, HST.out⟩
  case round =>
    obtain ⟨k, hkn, rfl, rfl, hrl⟩ := hrel
    by_cases hlt : k < n
    · obtain ⟨xs, hown, hel, hbw⟩ := hrl
      obtain ⟨u, hu⟩ : ∃ u, us[k]? = some u := ⟨us[k]'(by rw [← EN.out]; exact hlt), List.getElem?_eq_getElem _⟩
      obtain ⟨kr, kl⟩ := HKK.out u (List.mem_of_getElem? hu)
      have hne : us ≠ [] := by intro e; have := EN.out; rw [e] at this; simp at this; omega
      obtain ⟨_, _, hv1, -, g1⟩ := HV.out
      obtain ⟨ab, ao, e1, g1⟩ := g1 hne
      rw [e1] at hv1
      simp only [Value.slice.injEq] at hv1
      obtain ⟨rfl, z1, z1'⟩ := hv1
      clear z1 z1'
      obtain ⟨rv, lv, q0, q1, q2, q3, hr1, hl1⟩ := g1 k u hu
      obtain ⟨ra, rc, rfl⟩ := hr1.slice
      obtain ⟨la, lc, rfl⟩ := hl1.slice
      have hH : H < wr.heap.size := (hown.lt H rfl).2
      have hbw' : Below w.heap.size w wr := by rw [← EH.out]; exact hbw
      have HRA := Lib.hid (hr1.below hbw')
      have HLA := Lib.hid (hl1.below hbw')
      have p0 := cell_keep hbw' q0
      have p1 := cell_keep hbw' q1
      have p2 := cell_keep hbw' q2
      have p3 := cell_keep hbw' q3
      have HQ := Lib.hid (And.intro q0 (And.intro q1 (And.intro q2 q3)))
      have HOW := Lib.hid hown
      have HEL := Lib.hid hel
      have HBW := Lib.hid hbw
      have HUK := Lib.hid hu
      clear hown hel hbw hbw' hu hne g1 hr1 hl1 q0 q1 q2 q3
      go_wp2
      go_region_held3 (fun w' => w'.cell? ⟨ab, ao + k * 4, none⟩ = some (.slice ra u.row.length rc) ∧ w'.cell? ⟨ab, ao + k * 4 + 1, none⟩ = some (.int .u64 u.epoch) ∧ w'.cell? ⟨ab, ao + k * 4 + 2, none⟩ = some (.slice la u.loops.length lc) ∧ w'.cell? ⟨ab, ao + k * 4 + 3, none⟩ = some (.int .i64 u.diff))
        (first | with_reducible exact HS6.out | with_reducible exact HS5.out | with_reducible exact HS4.out | exact keep4 ((Below.refl _ _).alloc (Nat.le_refl _) _) HS5.out | exact ⟨p0, p1, p2, p3⟩)
        (first | (go_at_call 34; refine (lentRow_34 _ u.row _ (by exact HRA.out.below (drew_below' _ _)) kr).mono ?_; rintro e w4 ⟨rfl, ho4, hb4⟩; have HS4 := Lib.hid (And.intro (cell_keep hb4 p0) (And.intro (cell_keep hb4 p1) (And.intro (cell_keep hb4 p2) (cell_keep hb4 p3)))); have HB4 : Hid (Below wr.heap.size wr w4) := ⟨hb4.os, hb4.tape, hb4.output, hb4.size, hb4.block⟩) | (go_at_call 14; refine (lentTime_14 u.epoch la lc u.loops _ (by exact (HLA.out.below HB4.out)) kl).mono ?_; rintro e w5 ⟨lb, hlb, rfl, ho5, hb5⟩; have HS5 := Lib.hid (And.intro (cell_keep hb5 HS4.out.1) (And.intro (cell_keep hb5 HS4.out.2.1) (And.intro (cell_keep hb5 HS4.out.2.2.1) (cell_keep hb5 HS4.out.2.2.2)))); have HB5 : Hid (Below wr.heap.size wr w5) := HB4.out.trans (hb5.mono HB4.out.size)) | (refine step_append_fits _ rfl (.tmp 16) (.tmp 35) 29 rfl H 37 i0 4 Try.underlying29 hi hz1 H k (n + 1) xs rfl (by exact (Below.ownsRow' HB5.out HOW.out).alloc _) ⟨w5.heap.size, 0, none⟩ 1 1 [.slice (some ⟨wr.heap.size, 0, none⟩) u.row.length (u.row.length + 2), .int .u64 u.epoch, .slice (some ⟨lb, 0, none⟩) u.loops.length (u.loops.length + 2), .int .i64 u.diff] rfl rfl (alloc_reads _ _ _) (one4 _ _ _ _ _ _ _ _) (by omega) ?_; intro w6 ho6 hg6; have hb6 : Below H w w6 := ((HBW.out.trans (HB5.out.mono (Nat.le_of_lt hH))).alloc (Nat.le_trans (Nat.le_of_lt hH) HB5.out.size) _).grown hg6 (by have := HB5.out.size; simp; omega) (by intro k hk; cases hk; exact Nat.le_refl _); have HS6 := Lib.hid (keep4 (by rw [← EH.out]; exact hb6) HQ.out); have HB6 := Lib.hid hb6; clear hb6))
      have hHr := Nat.le_of_lt hH
      have hstep : LentRel H n us w (k + 1) w6 := by
        refine lentRel_step HOW.out HEL.out HBW.out HUK.out (HB5.out.alloc HB5.out.size _) ?_ ?_ ho6 hg6
        · exact (Below.ownsRow' hb5 (ownsRow_lower ho4 hHr)).alloc _
        · exact (ownsRow_lower ho5 (Nat.le_trans hHr HB4.out.size)).alloc _
      have HSP := Lib.hid hstep
      clear hstep ho4 ho5 ho6 hg6 hb4 hb5
      go_wp2
      go_roundw
      case rel => exact ⟨k + 1, hlt, by go_num, rfl, HSP.out⟩
      case measure => simp [intOf]; omega
    · obtain rfl : k = n := by omega
      obtain ⟨xs, hown, hel, hbw⟩ := hrl
      have hH : H < wr.heap.size := (hown.lt H rfl).2
      have HOW := Lib.hid hown
      have HEL := Lib.hid hel
      have HBW := Lib.hid hbw
      clear hown hel hbw
      go_wp2_with (at_builtin; go_must (refine wpList_append_fits _ rfl _ _ 29 rfl H 37 i0 4 Try.underlying29 hi hz1 H k (k + 1) xs rfl (HOW.out.alloc _) ⟨wr.heap.size, 0, none⟩ 1 1 upTail rfl rfl (alloc_reads _ _ _) (one4 _ _ _ _ _ _ _ _) (Nat.le_refl _) ?_))
      intro w7 ho7 hg7
      have hb7 : Below H w w7 := (HBW.out.alloc (Nat.le_of_lt hH) _).grown hg7 (by simp; omega) (by intro k hk; cases hk; exact Nat.le_refl _)
      have hel7 : ∀ j u, us[j]? = some u → LentEl w7 H xs j u := fun j u hu => by
        have hj := (List.getElem?_eq_some_iff.1 hu).1
        obtain ⟨-, -, curH, hcH⟩ := ownsRow_block HOW.out (g := H) rfl
        refine (HEL.out j u (by have := EN.out; omega) hu).frame fun g cur t hc ht => ?_
        rw [hg7.block g (by have := lt_of_heap hc; simp; omega) (fun e => by cases e; exact type_ne hc hcH (by rcases ht with rfl | rfl <;> decide) rfl)]
        exact Below.heap_alloc _ _ _ (lt_of_heap hc)
      have HO7 := Lib.hid ho7
      have HB7 := Lib.hid hb7
      have HE7 := Lib.hid hel7
      clear ho7 hb7 hel7 hg7
      go_wp2_with fail
      rw [← EH.out]
      go_ret
      refine ⟨rfl, ⟨xs, ?_, ?_, HE7.out⟩, HB7.out⟩
      · rw [← EN.out]; exact HO7.out
      · rw [← EN.out]; exact HOW.out.1
end Go.Proofs.Ytpoilgeffpedoaa
