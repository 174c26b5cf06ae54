import Derived.Test.YtpoilgeffpedoaaD
namespace Go.Proofs.Ytpoilgeffpedoaa
open Go.RowKit Go.Pen
attribute [local go_sem ↓] Go.wp_at_zero Go.wp_at_succ

theorem BoxIs.cells {w : World} {B L n r : Nat} (h : BoxIs w B L n r) : w.cell? ⟨B, 0, none⟩ = some (.int .i64 n) ∧ w.cell? ⟨B, 1, none⟩ = some (.int .i64 r) ∧ w.cell? ⟨B, 2, none⟩ = some (.slice (some ⟨L, 0, none⟩) (n * n) (n * n)) :=
  ⟨cell_of_heap h rfl, cell_of_heap h rfl, cell_of_heap h rfl⟩

theorem idx_lt {n i j : Nat} (hi : i < n) (hj : j < n) : i * n + j < n * n := by
  have : (i + 1) * n ≤ n * n := Nat.mul_le_mul_right _ hi
  have e : (i + 1) * n = i * n + n := by rw [Nat.add_mul]; omega
  omega

set_option maxHeartbeats 400000 in
theorem way_in (B L n r i j : Nat) (w : World) (hb : BoxIs w B L n r) (hn : n ≤ 8) (hi : i < n) (hj : j < n) :
    Calls Try.prog 28 #[.pointer (some ⟨B, 0, none⟩), .int .i64 i, .int .i64 j] w fun e w' => e = .returned (.pointer (some ⟨L, (i * n + j) * 3, none⟩)) ∧ ∃ k, w' = w.drewN k := by
  obtain ⟨h0, h1, h2⟩ := hb.cells
  have g1 : (i : Int) < n := by omega
  have g2 : (j : Int) < n := by omega
  have g3 : i * n + j < n * n := idx_lt hi hj
  have g4 : (i : Int) * n ≤ 64 := by
    have : i * n ≤ 8 * 8 := Nat.mul_le_mul (by omega) hn
    have : ((i * n : Nat) : Int) ≤ 64 := by omega
    simpa using this
  have g5 : (0 : Int) ≤ (i : Int) * n := by
    have : (0 : Int) ≤ ((i * n : Nat) : Int) := by omega
    simpa using this
  clear hb
  go_enter Try.func28, Try.ntmps28
  go_wp2
  go_quiet (fail)
  go_wp2
  go_ret
  exact ⟨rfl, _, rfl⟩

set_option maxHeartbeats 400000 in
/-- Len, of a way that is there -/
theorem len_in (B L n r i j : Nat) (s : WaySt) (w : World) (hb : BoxIs w B L n r) (hn : n ≤ 8) (hi : i < n) (hj : j < n) (hw : WayIs w L (i * n + j) r s) :
    Calls Try.prog 24 #[.pointer (some ⟨B, 0, none⟩), .int .i64 i, .int .i64 j] w fun e w' => e = .returned (.int .i64 s.q.length) ∧ ∃ k, w' = w.drewN k := by
  have HB := Lib.hid hb
  have c2 := hw.c2
  clear hb hw
  go_enter Try.func24, Try.ntmps24
  go_wp2_with (go_at_call 28; refine (way_in B L n r i j _ HB.out hn hi hj).mono ?_; rintro e w' ⟨rfl, nq, rfl⟩)
  go_ret
  exact ⟨rfl, _, rfl⟩

/-- a message as an argument -/
def msgVal (m : Msg) (la : Option Addr) (lc : Nat) (ra : Option Addr) (rc : Nat) (ea : Option Addr) (ec : Nat) : Value :=
  .agg #[.int .i64 m.node, .bool m.out, .int .i64 m.port, .int .u64 m.epoch, .slice la m.ln lc, .slice ra m.rows.length rc, .slice ea m.errs.length ec]

set_option maxRecDepth 100000 in
set_option maxHeartbeats 1000000 in
theorem send_full (B L n r i j : Nat) (s : WaySt) (w : World) (hb : BoxIs w B L n r) (hn : n ≤ 8) (hi : i < n) (hj : j < n) (hw : WayIs w L (i * n + j) r s) (hfull : s.q.length = r)
    (c0 c1 c2 c3 c4 c5 c6 : Value) :
    Calls Try.prog 16 #[.pointer (some ⟨B, 0, none⟩), .int .i64 i, .int .i64 j, .agg #[c0, c1, c2, c3, c4, c5, c6]] w fun e w' => e = .returned (.int .u16 5) ∧ Below w.heap.size w w' := by
  obtain ⟨k, hk⟩ : ∃ k, k = i * n + j := ⟨_, rfl⟩
  have hB : B < w.heap.size := lt_of_heap hb
  have hL : L < w.heap.size := lt_of_heap hw.blk.choose_spec
  obtain ⟨b0, b1, b2⟩ := hb.cells
  have w2 := hw.c2
  rw [hfull] at w2
  have hbx : ∀ o, BoxIs (w.alloc o) B L n r := fun o => (Below.heap_alloc w o B hB).trans hb
  have HBX := Lib.hid hbx
  rw [← hk] at w2
  have HK := Lib.hid hk
  clear hb hw hfull hbx b0 b2 hk
  go_enter Try.func16, Try.ntmps16
  go_wp2_with (go_at_call 28; refine (way_in B L n r i j _ (HBX.out _) hn hi hj).mono ?_; rw [← HK.out]; rintro e w' ⟨rfl, nq, rfl⟩)
  go_quiet (fail)
  go_wp2
  go_ret
  exact ⟨rfl, below_drewN (below_drewN ((Below.refl _ _).alloc (Nat.le_refl _) _) _) _⟩

theorem Turn.trans {w w1 w2 : World} {L k : Nat} {rg : Option Nat} {g : Nat} (h : Turn w w1 L k rg) (h' : Turn w1 w2 L k (some g)) (hg : rg = some g ∨ w.heap.size ≤ g) : Turn w w2 L k rg := by
  refine ⟨h'.os.trans h.os, h'.tape.trans h.tape, h'.output.trans h.output, Nat.le_trans h.size h'.size, fun x hx hL hr => ?_, fun o ho => (h'.lcell o ho).trans (h.lcell o ho), fun c hc => ?_⟩
  · rw [h'.block x (Nat.lt_of_lt_of_le hx h.size) hL (fun e => by cases e; rcases hg with hg | hg; exact hr hg; omega)]
    exact h.block x hx hL hr
  · obtain ⟨c', hc'⟩ := h.lblk c hc
    exact h'.lblk c' hc'

theorem mod_ne {fr r j l : Nat} (hj : j < l) (hl : l < r) : (fr + j) % r ≠ (fr + l) % r := by
  intro e
  have h1 : (fr + l) % r = ((fr + j) % r + (l - j)) % r := by
    rw [show fr + l = (fr + j) + (l - j) by omega, Nat.add_mod, Nat.mod_eq_of_lt (show l - j < r by omega)]
  have h2 : (fr + j) % r < r := Nat.mod_lt _ (by omega)
  by_cases h3 : (fr + j) % r + (l - j) < r
  · rw [Nat.mod_eq_of_lt h3] at h1; omega
  · have h4 : ((fr + j) % r + (l - j)) % r = (fr + j) % r + (l - j) - r := by
      rw [Nat.mod_eq_sub_mod (by omega), Nat.mod_eq_of_lt (by omega)]
    omega

/-- seven cells stored -/
def put7 (w : World) (g o : Nat) (v0 v1 v2 v3 v4 v5 v6 : Value) : World :=
  ((((((w.setCell ⟨g, o, none⟩ v0).setCell ⟨g, o + 1, none⟩ v1).setCell ⟨g, o + 2, none⟩ v2).setCell ⟨g, o + 3, none⟩ v3).setCell ⟨g, o + 4, none⟩ v4).setCell ⟨g, o + 5, none⟩ v5).setCell ⟨g, o + 6, none⟩ v6

def cells7 (c : Array Value) (o : Nat) (v0 v1 v2 v3 v4 v5 v6 : Value) : Array Value :=
  ((((((c.setIfInBounds o v0).setIfInBounds (o + 1) v1).setIfInBounds (o + 2) v2).setIfInBounds (o + 3) v3).setIfInBounds (o + 4) v4).setIfInBounds (o + 5) v5).setIfInBounds (o + 6) v6

theorem put7_same {w : World} {g o : Nat} {v0 v1 v2 v3 v4 v5 v6 : Value} {c : Array Value} {t : TypeId} {f : Nat × Nat} (h : w.heap[g]? = some (.cells c t f)) : (put7 w g o v0 v1 v2 v3 v4 v5 v6).heap[g]? = some (.cells (cells7 c o v0 v1 v2 v3 v4 v5 v6) t f) :=
  heap_set_same (heap_set_same (heap_set_same (heap_set_same (heap_set_same (heap_set_same (heap_set_same h))))))
theorem put7_ne {w : World} {g o : Nat} {v0 v1 v2 v3 v4 v5 v6 : Value} {k : Nat} (h : k ≠ g) : (put7 w g o v0 v1 v2 v3 v4 v5 v6).heap[k]? = w.heap[k]? := by
  unfold put7; simp only [heap_set_ne h]
theorem setCell_os (w : World) (a : Addr) (v : Value) : (w.setCell a v).os = w.os := rfl
theorem setCell_tape (w : World) (a : Addr) (v : Value) : (w.setCell a v).tape = w.tape := rfl
theorem setCell_output (w : World) (a : Addr) (v : Value) : (w.setCell a v).output = w.output := rfl
theorem setCell_size (w : World) (a : Addr) (v : Value) : (w.setCell a v).heap.size = w.heap.size := by simp [World.setCell]
theorem put7_size {w : World} {g o : Nat} {v0 v1 v2 v3 v4 v5 v6 : Value} : (put7 w g o v0 v1 v2 v3 v4 v5 v6).heap.size = w.heap.size := by
  simp only [put7, setCell_size]
theorem cells7_size {c : Array Value} {o : Nat} {v0 v1 v2 v3 v4 v5 v6 : Value} : (cells7 c o v0 v1 v2 v3 v4 v5 v6).size = c.size := by simp [cells7]
theorem cells7_out {c : Array Value} {o : Nat} {v0 v1 v2 v3 v4 v5 v6 : Value} {i : Nat} (h : i < o ∨ o + 7 ≤ i) : (cells7 c o v0 v1 v2 v3 v4 v5 v6)[i]? = c[i]? := by
  unfold cells7
  rw [Array.getElem?_setIfInBounds_ne (by omega), Array.getElem?_setIfInBounds_ne (by omega), Array.getElem?_setIfInBounds_ne (by omega), Array.getElem?_setIfInBounds_ne (by omega), Array.getElem?_setIfInBounds_ne (by omega), Array.getElem?_setIfInBounds_ne (by omega), Array.getElem?_setIfInBounds_ne (by omega)]
theorem cells7_in {c : Array Value} {o : Nat} {v0 v1 v2 v3 v4 v5 v6 : Value} (h : o + 7 ≤ c.size) :
    (cells7 c o v0 v1 v2 v3 v4 v5 v6)[o]? = some v0 ∧ (cells7 c o v0 v1 v2 v3 v4 v5 v6)[o + 1]? = some v1 ∧ (cells7 c o v0 v1 v2 v3 v4 v5 v6)[o + 2]? = some v2 ∧ (cells7 c o v0 v1 v2 v3 v4 v5 v6)[o + 3]? = some v3 ∧
    (cells7 c o v0 v1 v2 v3 v4 v5 v6)[o + 4]? = some v4 ∧ (cells7 c o v0 v1 v2 v3 v4 v5 v6)[o + 5]? = some v5 ∧ (cells7 c o v0 v1 v2 v3 v4 v5 v6)[o + 6]? = some v6 := by
  unfold cells7
  refine ⟨?_, ?_, ?_, ?_, ?_, ?_, ?_⟩
  all_goals repeat rw [Array.getElem?_setIfInBounds_ne (by omega)]
  all_goals rw [Array.getElem?_setIfInBounds_self_of_lt (by first | omega | (simp; omega))]
theorem cells7_one {c : Array Value} {o : Nat} {v0 v1 v2 v3 v4 v5 v6 : Value} (h : ∀ x ∈ c, x.oneCell' = true) (h0 : v0.oneCell' = true) (h1 : v1.oneCell' = true) (h2 : v2.oneCell' = true) (h3 : v3.oneCell' = true) (h4 : v4.oneCell' = true) (h5 : v5.oneCell' = true) (h6 : v6.oneCell' = true) :
    ∀ x ∈ cells7 c o v0 v1 v2 v3 v4 v5 v6, x.oneCell' = true := by
  have step : ∀ (c : Array Value) (i : Nat) (v : Value), (∀ x ∈ c, x.oneCell' = true) → v.oneCell' = true → ∀ x ∈ c.setIfInBounds i v, x.oneCell' = true := fun c i v hc hv x hx => by
    rcases Array.mem_or_eq_of_mem_setIfInBounds hx with hx | rfl
    · exact hc x hx
    · exact hv
  exact step _ _ _ (step _ _ _ (step _ _ _ (step _ _ _ (step _ _ _ (step _ _ _ (step _ _ _ h h0) h1) h2) h3) h4) h5) h6

theorem msgAt_put {w : World} {c : Array Value} {o q : Nat} {v0 v1 v2 v3 v4 v5 v6 : Value} {m : Msg} (h : MsgAt w c (q * 7) m) {p : Nat} (hp : p * 7 = o) (hq : q ≠ p) : MsgAt w (cells7 c o v0 v1 v2 v3 v4 v5 v6) (q * 7) m := by
  obtain ⟨la, lc, ra, rc, ea, ec, a0, a1, a2, a3, a4, a5, a6, hm, hk⟩ := h
  have hne : q < p ∨ p < q := by omega
  refine ⟨la, lc, ra, rc, ea, ec, ?_, ?_, ?_, ?_, ?_, ?_, ?_, hm, hk⟩
  all_goals rw [cells7_out (by omega)]; assumption

/-- the end of Send: what is stored is one message more -/
theorem send_end {w w5 : World} {L k r g fr p o7 lo0 : Nat} {q : List Msg} {m : Msg} {la ra ea : Option Addr} {lc rc ec : Nat} {cells : Array Value}
    (hw : WayIs w L k r ⟨some g, fr, q⟩) (hcells : w.heap[g]? = some (.cells cells 31 (0, 0))) (hb : Below w.heap.size w w5)
    (hm : MsgIn w5 lo0 w5.heap.size m (.slice la m.ln lc) (.slice ra m.rows.length rc) (.slice ea m.errs.length ec)) (hok : m.ok) (hp : p = (fr + q.length) % r) (ho : p * 7 = o7) (hroom : q.length < r)
    {W : World} (hW : W = (put7 w5 g o7 (.int .i64 m.node) (.bool m.out) (.int .i64 m.port) (.int .u64 m.epoch) (.slice la m.ln lc) (.slice ra m.rows.length rc) (.slice ea m.errs.length ec)).setCell ⟨L, k * 3 + 2, none⟩ (.int .i64 (q.length + 1))) :
    Turn w W L k (some g) ∧ WayIs W L k r ⟨some g, fr, q ++ [m.at lo0 W.heap.size]⟩ := by
  obtain ⟨lcs, hlcs⟩ := hw.blk
  have hgL : g ≠ L := type_ne hcells hlcs (by decide)
  have hL : L < w.heap.size := lt_of_heap hlcs
  have hg : g < w.heap.size := lt_of_heap hcells
  obtain ⟨cells', hc', hcs, hone, hq⟩ := hw.ring g rfl
  rw [hcells] at hc'
  cases hc'
  have hp' : p < r := by rw [hp]; exact Nat.mod_lt _ (by omega)
  have g5 : w5.heap[g]? = some (.cells cells 31 (0, 0)) := (hb.block g hg).trans hcells
  have l5 : w5.heap[L]? = some (.cells lcs 103 (0, 0)) := (hb.block L hL).trans hlcs
  have gW : W.heap[g]? = some (.cells (cells7 cells o7 (.int .i64 m.node) (.bool m.out) (.int .i64 m.port) (.int .u64 m.epoch) (.slice la m.ln lc) (.slice ra m.rows.length rc) (.slice ea m.errs.length ec)) 31 (0, 0)) := by
    rw [hW, heap_set_ne hgL]; exact put7_same g5
  have lW : W.heap[L]? = some (.cells (lcs.setIfInBounds (k * 3 + 2) (.int .i64 (q.length + 1))) 103 (0, 0)) := by
    rw [hW]
    refine heap_set_same ?_
    rw [put7_ne (Ne.symm hgL)]; exact l5
  have oW : ∀ x, x ≠ g → x ≠ L → W.heap[x]? = w5.heap[x]? := fun x h1 h2 => by
    rw [hW, heap_set_ne h2, put7_ne h1]
  have cW : ∀ o, o ≠ k * 3 + 2 → W.cell? ⟨L, o, none⟩ = w.cell? ⟨L, o, none⟩ := fun o ho => by
    rw [World.cell?, World.cell?, lW, hlcs]
    simp only []
    rw [Array.getElem?_setIfInBounds_ne (by omega)]
  have hlen : k * 3 + 2 < lcs.size := by
    have := hw.c2
    rw [World.cell?, hlcs] at this
    simp only [] at this
    rcases Nat.lt_or_ge (k * 3 + 2) lcs.size with h | h
    · exact h
    · simp [Array.getElem?_eq_none h] at this
  have fW : ∀ (x : Nat) (cur : Array Value) (t : TypeId), w5.heap[x]? = some (.cells cur t (0, 0)) → (t = 37 ∨ t = 89 ∨ t = 111) → W.heap[x]? = w5.heap[x]? := fun x cur t hx ht =>
    oW x (type_ne hx g5 (by rcases ht with rfl | rfl | rfl <;> decide)) (type_ne hx l5 (by rcases ht with rfl | rfl | rfl <;> decide))
  have fw : ∀ (x : Nat) (cur : Array Value) (t : TypeId), w.heap[x]? = some (.cells cur t (0, 0)) → (t = 37 ∨ t = 89 ∨ t = 111) → W.heap[x]? = w.heap[x]? := fun x cur t hx ht => by
    have e := hb.block x (lt_of_heap hx)
    rw [fW x cur t (e.trans hx) ht, e]
  have hWs : W.heap.size = w5.heap.size := by
    have : (put7 w5 g o7 (.int .i64 m.node) (.bool m.out) (.int .i64 m.port) (.int .u64 m.epoch) (.slice la m.ln lc) (.slice ra m.rows.length rc) (.slice ea m.errs.length ec)).heap.size = w5.heap.size := put7_size
    rw [hW, setCell_size, this]
  have hWo : W.os = w5.os ∧ W.tape = w5.tape ∧ W.output = w5.output := by rw [hW]; simp only [put7, setCell_os, setCell_tape, setCell_output, and_self]
  clear hW
  refine ⟨⟨hWo.1.trans hb.os, hWo.2.1.trans hb.tape, hWo.2.2.trans hb.output, ?_, fun x hx h1 h2 => ?_, fun o ho => cW o (by omega), fun c _ => ⟨_, lW⟩⟩, ⟨⟨_, lW⟩, ?_, ?_, ?_, ?_, hw.lt, (fun h => by cases h), fun g' hg' => ?_⟩⟩
  · rw [hWs]; exact hb.size
  · rw [oW x (fun e => h2 (by rw [e])) h1]; exact hb.block x hx
  · rw [cW _ (by omega)]; exact hw.c0
  · rw [cW _ (by omega)]; exact hw.c1
  · refine cell_of_heap lW ?_
    rw [Array.getElem?_setIfInBounds_self_of_lt hlen]
    simp
  · simp only [List.length_append, List.length_singleton]; omega
  · cases hg'
    refine ⟨_, gW, by rw [cells7_size]; exact hcs, cells7_one hone rfl rfl rfl rfl rfl rfl rfl, fun j x hx => ?_⟩
    by_cases hj : j < q.length
    · rw [List.getElem?_append_left hj] at hx
      refine msgAt_put ((hq j x hx).frame fw) ho ?_
      rw [hp]; exact mod_ne hj hroom
    · have hj' : j = q.length := by
        have := (List.getElem?_eq_some_iff.1 hx).1
        simp at this; omega
      subst hj'
      rw [List.getElem?_append_right (Nat.le_refl _)] at hx
      simp at hx
      subst hx
      have hi := cells7_in (c := cells) (o := o7) (v0 := .int .i64 m.node) (v1 := .bool m.out) (v2 := .int .i64 m.port) (v3 := .int .u64 m.epoch) (v4 := .slice la m.ln lc) (v5 := .slice ra m.rows.length rc) (v6 := .slice ea m.errs.length ec) (by omega)
      simp only [] at *
      rw [← hp, ho]
      exact ⟨la, lc, ra, rc, ea, ec, hi.1, hi.2.1, hi.2.2.1, hi.2.2.2.1, hi.2.2.2.2.1, hi.2.2.2.2.2.1, hi.2.2.2.2.2.2, (hm.wide (Nat.le_refl _) (by rw [hWs]; exact Nat.le_refl _)).frame (fun x cur t hx ht _ _ => fW x cur t hx ht), ⟨hok.1, hok.2, hok.3, hok.4, hok.5, hok.6⟩⟩

theorem ring7 {w : World} {g r p : Nat} {cells : Array Value} (h : w.heap[g]? = some (.cells cells 31 (0, 0))) (hs : cells.size = r * 7) (hp : p < r) {o7 : Nat} (ho : p * 7 = o7) :
    ∃ y0 y1 y2 y3 y4 y5 y6, w.cell? ⟨g, o7, none⟩ = some y0 ∧ w.cell? ⟨g, o7 + 1, none⟩ = some y1 ∧ w.cell? ⟨g, o7 + 2, none⟩ = some y2 ∧ w.cell? ⟨g, o7 + 3, none⟩ = some y3 ∧ w.cell? ⟨g, o7 + 4, none⟩ = some y4 ∧ w.cell? ⟨g, o7 + 5, none⟩ = some y5 ∧ w.cell? ⟨g, o7 + 6, none⟩ = some y6 ∧
      w.frozen? ⟨g, o7, none⟩ = false ∧ w.frozen? ⟨g, o7 + 1, none⟩ = false ∧ w.frozen? ⟨g, o7 + 2, none⟩ = false ∧ w.frozen? ⟨g, o7 + 3, none⟩ = false ∧ w.frozen? ⟨g, o7 + 4, none⟩ = false ∧ w.frozen? ⟨g, o7 + 5, none⟩ = false ∧ w.frozen? ⟨g, o7 + 6, none⟩ = false := by
  subst ho
  have hc : ∀ o, o < 7 → w.cell? ⟨g, p * 7 + o, none⟩ = some (cells.getD (p * 7 + o) undef) := fun o ho => cell_of_heap h (by
    have : p * 7 + o < cells.size := by omega
    simp [this])
  exact ⟨_, _, _, _, _, _, _, hc 0 (by omega), hc 1 (by omega), hc 2 (by omega), hc 3 (by omega), hc 4 (by omega), hc 5 (by omega), hc 6 (by omega), frozen_of_heap h, frozen_of_heap h, frozen_of_heap h, frozen_of_heap h, frozen_of_heap h, frozen_of_heap h, frozen_of_heap h⟩


theorem info31 : (Try.prog.info? 31).map (fun i => (i.zero, i.size, i.bytes)) = some (some (.agg #[.int .i64 0, .bool false, .int .i64 0, .int .u64 0, .slice none 0 0, .slice none 0 0, .slice none 0 0]), 7, 104) := by kernel_rfl

theorem made_one {r : Nat} {x : Value} (hx : x ∈ madeCells #[.int .i64 0, .bool false, .int .i64 0, .int .u64 0, .slice none 0 0, .slice none 0 0, .slice none 0 0] (r * 7)) : x.oneCell' = true := by
  simp only [madeCells, Array.mem_map] at hx
  obtain ⟨a, _, rfl⟩ := hx
  have h : a % 7 < 7 := Nat.mod_lt _ (by omega)
  have h7 : a % 7 = 0 ∨ a % 7 = 1 ∨ a % 7 = 2 ∨ a % 7 = 3 ∨ a % 7 = 4 ∨ a % 7 = 5 ∨ a % 7 = 6 := by omega
  show Value.oneCell' ((#[.int .i64 0, .bool false, .int .i64 0, .int .u64 0, .slice none 0 0, .slice none 0 0, .slice none 0 0] : Array Value)[a % 7]!) = true
  rcases h7 with h | h | h | h | h | h | h <;> rw [h] <;> rfl


set_option maxRecDepth 100000 in
set_option maxHeartbeats 2000000 in
theorem send_ring (B L n r i j g : Nat) (s : WaySt) (w : World) (hb : BoxIs w B L n r) (hn : n ≤ 8) (hi : i < n) (hj : j < n) (hw : WayIs w L (i * n + j) r s) (hr : r ≤ 64) (hroom : s.q.length < r) (hg : s.ring = some g)
    (m : Msg) (la : Option Addr) (lc : Nat) (ra : Option Addr) (rc : Nat) (ea : Option Addr) (ec : Nat)
    (hm : MsgIs w 0 m (.slice la m.ln lc) (.slice ra m.rows.length rc) (.slice ea m.errs.length ec)) (hok : m.ok) :
    Calls Try.prog 16 #[.pointer (some ⟨B, 0, none⟩), .int .i64 i, .int .i64 j, .agg #[.int .i64 m.node, .bool m.out, .int .i64 m.port, .int .u64 m.epoch, .slice la m.ln lc, .slice ra m.rows.length rc, .slice ea m.errs.length ec]] w fun e w' =>
      e = .returned (.int .u16 0) ∧ Turn w w' L (i * n + j) (some g) ∧ WayIs w' L (i * n + j) r ⟨some g, s.fr, s.q ++ [m.at w.heap.size w'.heap.size]⟩ := by
  obtain ⟨k, hk⟩ : ∃ k, k = i * n + j := ⟨_, rfl⟩
  have hB : B < w.heap.size := lt_of_heap hb
  obtain ⟨lcs, hlcs⟩ := hw.blk
  have hL : L < w.heap.size := lt_of_heap hlcs
  obtain ⟨b0, b1, b2⟩ := hb.cells
  have hbx : ∀ o, BoxIs (w.alloc o) B L n r := fun o => (Below.heap_alloc w o B hB).trans hb
  have HBX := Lib.hid hbx
  rw [← hk] at hw ⊢
  have HK := Lib.hid hk
  have w0 := hw.c0
  have w1 := hw.c1
  have w2 := hw.c2
  have hfr := hw.lt
  have f2 : w.frozen? ⟨L, k * 3 + 2, none⟩ = false := frozen_of_heap hlcs
  have f0 : w.frozen? ⟨L, k * 3, none⟩ = false := frozen_of_heap hlcs
  rw [hg] at w0
  simp only [ringVal] at w0
  obtain ⟨cells, hcells, hcs, hc1, hq⟩ := hw.ring g hg
  have hgs : g < w.heap.size := lt_of_heap hcells
  have HCS := Lib.hid hcells
  have HSZ := Lib.hid hcs
  clear hcells hcs hc1 hq
  obtain ⟨fr, efr⟩ : ∃ fr, fr = s.fr := ⟨_, rfl⟩
  obtain ⟨len, elen⟩ : ∃ len, len = s.q.length := ⟨_, rfl⟩
  rw [← efr] at w1 hfr
  rw [← elen] at w2 hroom
  have EF := Lib.hid efr
  have EL := Lib.hid elen
  have HM := Lib.hid hm
  have HO := Lib.hid hok
  have HW := Lib.hid hw
  have HG := Lib.hid hg
  have HBB := Lib.hid (show w.heap[B]? = _ from hb)
  have HLC := Lib.hid hlcs
  have p1 : (fr + len) % r < r := Nat.mod_lt _ (by omega)
  obtain ⟨p, hp⟩ : ∃ p, p = (fr + len) % r := ⟨_, rfl⟩
  have hnil := fun (u : World) (a : Option Addr) (n c : Nat) => Lib.run_eql_slice_nil (P := Try.prog) u 101 31 a n c 0 0 Try.underlying101
  clear hb b0 b2 hw hm hok efr elen hk hbx hg hlcs
  go_enter Try.func16, Try.ntmps16
  go_wp2_with (go_at_call 28; refine (way_in B L n r i j _ (HBX.out _) hn hi hj).mono ?_; rw [← HK.out]; rintro e w' ⟨rfl, nw, rfl⟩)
  go_quiet (fail)
  go_wp2_with fail
  obtain ⟨w3, hw3⟩ : ∃ w3, w3 = (w.alloc (.cells #[.int .i64 m.node, .bool m.out, .int .i64 m.port, .int .u64 m.epoch, .slice la m.ln lc, .slice ra m.rows.length rc, .slice ea m.errs.length ec] 31)).drewN (nw + nq) := ⟨_, rfl⟩
  have hb3 : Below w.heap.size w w3 := by rw [hw3]; exact below_drewN ((Below.refl _ _).alloc (Nat.le_refl _) _) _
  have hmb : w3.heap[w.heap.size]? = some (.cells #[.int .i64 m.node, .bool m.out, .int .i64 m.port, .int .u64 m.epoch, .slice la m.ln lc, .slice ra m.rows.length rc, .slice ea m.errs.length ec] 31 (0, 0)) := by
    rw [hw3]; exact heap_alloc_new w _
  have HR3 : Hid (w3.heap[g]? = some (.cells cells 31 (0, 0))) := (hb3.block g hgs).trans HCS.out
  have HL3 : Hid (∃ lcs, w3.heap[L]? = some (.cells lcs 103 (0, 0))) := ⟨lcs, (hb3.block L hL).trans HLC.out⟩
  have HB33 : Hid (w3.heap[B]? = some (.cells #[.int .i64 n, .int .i64 r, .slice (some ⟨L, 0, none⟩) (n * n) (n * n)] 94 (0, 0))) := (hb3.block B hB).trans HBB.out
  have HMW : Hid (MsgIs w3 0 m (.slice la m.ln lc) (.slice ra m.rows.length rc) (.slice ea m.errs.length ec)) := HM.out.below hb3
  have HT3 : Hid (Turn w w3 L k (some g)) := Turn.of_below hb3 hL
  have HW3 : Hid (WayIs w3 L k r ⟨some g, fr, s.q⟩) := by
    have h := HW.out.below hb3
    rw [show s = ⟨some g, fr, s.q⟩ by rw [← HG.out, EF.out]] at h; exact h
  have hgm : g ≠ w.heap.size := by omega
  have hs3 : w.heap.size < w3.heap.size := lt_of_heap hmb
  have l0 : w3.cell? ⟨L, k * 3, none⟩ = some (.slice (some ⟨g, 0, none⟩) r r) := HW3.out.c0
  have l1 : w3.cell? ⟨L, k * 3 + 1, none⟩ = some (.int .i64 fr) := HW3.out.c1
  have l2 : w3.cell? ⟨L, k * 3 + 2, none⟩ = some (.int .i64 len) := by rw [EL.out]; exact HW3.out.c2
  have l3 : w3.cell? ⟨B, 1, none⟩ = some (.int .i64 r) := cell_of_heap HB33.out rfl
  have hL3 : L < w3.heap.size := by omega
  have hB3 : B < w3.heap.size := by omega
  have hg3 : g < w3.heap.size := lt_of_heap HR3.out
  obtain ⟨mb, emb⟩ : ∃ mb, mb = w.heap.size := ⟨_, rfl⟩
  rw [← hw3]
  rw [← emb]
  rw [← emb] at hmb hgm
  have m0 : w3.cell? ⟨mb, 0, none⟩ = some (.int .i64 m.node) := cell_of_heap hmb rfl
  have m1 : w3.cell? ⟨mb, 1, none⟩ = some (.bool m.out) := cell_of_heap hmb rfl
  have m2 : w3.cell? ⟨mb, 2, none⟩ = some (.int .i64 m.port) := cell_of_heap hmb rfl
  have m3 : w3.cell? ⟨mb, 3, none⟩ = some (.int .u64 m.epoch) := cell_of_heap hmb rfl
  have m4 : w3.cell? ⟨mb, 4, none⟩ = some (.slice la m.ln lc) := cell_of_heap hmb rfl
  have m5 : w3.cell? ⟨mb, 5, none⟩ = some (.slice ra m.rows.length rc) := cell_of_heap hmb rfl
  have m6 : w3.cell? ⟨mb, 6, none⟩ = some (.slice ea m.errs.length ec) := cell_of_heap hmb rfl
  have hms : mb < w3.heap.size := lt_of_heap hmb
  have EMB := Lib.hid emb
  have x1 : IntKind.i64.wrap ((fr : Int) + len) = (fr : Int) + len := IntWalk.i64_in _ (by omega)
  have x2 : ((fr : Int) + len).tmod r = (p : Int) := by
    rw [Int.tmod_eq_emod_of_nonneg (by omega), hp]; simp
  have x3 : IntKind.i64.wrap (p : Int) = p := IntWalk.i64_in _ (by omega)
  have x4 : (p : Int) < r := by omega
  have x5 : (0 : Int) ≤ p := by omega
  have x6 : ¬ r = 0 := by omega
  have hpr : p < r := by omega
  obtain ⟨o7, ho7⟩ : ∃ o7, p * 7 = o7 := ⟨_, rfl⟩
  have HP := Lib.hid hp
  have hgL : g ≠ L := type_ne HR3.out HL3.out.choose_spec (by decide)
  have hgB : g ≠ B := type_ne HR3.out HB33.out (by decide)
  have HMD : Hid (MsgIs w3.drew 0 m (.slice la m.ln lc) (.slice ra m.rows.length rc) (.slice ea m.errs.length ec)) := HMW.out.below (w' := w3.drew) ⟨rfl, rfl, rfl, Nat.le_refl _, fun _ _ => rfl⟩
  clear hw3 hmb emb hp p1 w0 w1 w2 b1
  go_region_held3 (fun w' => w'.cell? ⟨L, k * 3, none⟩ = some (.slice (some ⟨g, 0, none⟩) r r) ∧ w'.cell? ⟨L, k * 3 + 1, none⟩ = some (.int .i64 fr) ∧ w'.cell? ⟨L, k * 3 + 2, none⟩ = some (.int .i64 len) ∧ w'.cell? ⟨B, 1, none⟩ = some (.int .i64 r) ∧
      w'.cell? ⟨mb, 0, none⟩ = some (.int .i64 m.node) ∧ w'.cell? ⟨mb, 1, none⟩ = some (.bool m.out) ∧ w'.cell? ⟨mb, 2, none⟩ = some (.int .i64 m.port) ∧ w'.cell? ⟨mb, 3, none⟩ = some (.int .u64 m.epoch) ∧ w'.cell? ⟨mb, 4, none⟩ = some (.slice la m.ln lc) ∧ w'.cell? ⟨mb, 5, none⟩ = some (.slice ra m.rows.length rc) ∧ w'.cell? ⟨mb, 6, none⟩ = some (.slice ea m.errs.length ec))
    (first | with_reducible exact HS5.out | (simp only [cell_set_ne hgL, cell_set_ne hgB, cell_set_ne hgm]; with_reducible exact HS5.out) | exact ⟨l0, l1, l2, l3, m0, m1, m2, m3, m4, m5, m6⟩)
    (first | (go_at_call 35; refine (copied_any m la lc ra rc ea ec _ (HMD.out) HO.out).mono ?_; rintro e w5 ⟨la', lc', ra', rc', ea', ec', rfl, hm5, hb5⟩; obtain ⟨y0, y1, y2, y3, y4, y5, y6, hy0, hy1, hy2, hy3, hy4, hy5, hy6, hz0, hz1, hz2, hz3, hz4, hz5, hz6⟩ := ring7 (p := p) ((hb5.block g hg3).trans HR3.out) HSZ.out hpr ho7; have hS5 := And.intro ((hb5.cell (p := ⟨L, k * 3, none⟩) hL3).trans l0) (And.intro ((hb5.cell (p := ⟨L, k * 3 + 1, none⟩) hL3).trans l1) (And.intro ((hb5.cell (p := ⟨L, k * 3 + 2, none⟩) hL3).trans l2) (And.intro ((hb5.cell (p := ⟨B, 1, none⟩) hB3).trans l3) (And.intro ((hb5.cell (p := ⟨mb, 0, none⟩) hms).trans m0) (And.intro ((hb5.cell (p := ⟨mb, 1, none⟩) hms).trans m1) (And.intro ((hb5.cell (p := ⟨mb, 2, none⟩) hms).trans m2) (And.intro ((hb5.cell (p := ⟨mb, 3, none⟩) hms).trans m3) (And.intro ((hb5.cell (p := ⟨mb, 4, none⟩) hms).trans m4) (And.intro ((hb5.cell (p := ⟨mb, 5, none⟩) hms).trans m5) ((hb5.cell (p := ⟨mb, 6, none⟩) hms).trans m6)))))))))); have HS5 := Lib.hid hS5; clear hS5))
  obtain ⟨w6, hw6⟩ : ∃ w6, w6 = put7 w5 g o7 (.int .i64 m.node) (.bool m.out) (.int .i64 m.port) (.int .u64 m.epoch) (.slice la' m.ln lc') (.slice ra' m.rows.length rc') (.slice ea' m.errs.length ec') := ⟨_, rfl⟩
  have q2 : w6.cell? ⟨L, k * 3 + 2, none⟩ = some (.int .i64 len) := by
    rw [hw6, put7]; simp only [cell_set_ne hgL]; exact (hb5.cell (p := ⟨L, k * 3 + 2, none⟩) hL3).trans l2
  obtain ⟨lx, hlx⟩ := HL3.out
  have e5 : w6.heap[L]? = some (.cells lx 103 (0, 0)) := by
    rw [hw6, put7_ne (Ne.symm hgL), hb5.block L hL3]; exact hlx
  have f6 : w6.frozen? ⟨L, k * 3 + 2, none⟩ = false := frozen_of_heap e5
  have HW6 := Lib.hid hw6
  unfold put7 at hw6
  rw [← hw6]
  clear hw6 e5 hlx hy0 hy1 hy2 hy3 hy4 hy5 hy6 hz0 hz1 hz2 hz3 hz4 hz5 hz6 x1 x2 x3 x4 x5 x6
  go_wp2
  go_ret
  have hlen : ((s.q.length : Nat) : Int) + 1 = (len : Int) + 1 := by rw [EL.out]
  obtain ⟨ht, hwy⟩ := send_end (m := m) HW3.out HR3.out (below_undrew hb5) (hm5.wide HT3.out.size (Nat.le_refl _)) HO.out (by rw [HP.out, EL.out]) ho7 (by rw [← EL.out]; exact hroom) (W := w6.setCell ⟨L, k * 3 + 2, none⟩ (.int .i64 ((len : Int) + 1))) (by rw [HW6.out, hlen])
  rw [EF.out] at hwy
  exact ⟨rfl, HT3.out.trans ht (.inl rfl), hwy⟩


set_option maxRecDepth 100000 in
set_option maxHeartbeats 2000000 in
theorem send_made (B L n r i j : Nat) (s : WaySt) (w : World) (hb : BoxIs w B L n r) (hn : n ≤ 8) (hi : i < n) (hj : j < n) (hw : WayIs w L (i * n + j) r s) (hr : r ≤ 64) (hroom : s.q.length < r) (hg : s.ring = none)
    (m : Msg) (la : Option Addr) (lc : Nat) (ra : Option Addr) (rc : Nat) (ea : Option Addr) (ec : Nat)
    (hm : MsgIs w 0 m (.slice la m.ln lc) (.slice ra m.rows.length rc) (.slice ea m.errs.length ec)) (hok : m.ok) :
    Calls Try.prog 16 #[.pointer (some ⟨B, 0, none⟩), .int .i64 i, .int .i64 j, .agg #[.int .i64 m.node, .bool m.out, .int .i64 m.port, .int .u64 m.epoch, .slice la m.ln lc, .slice ra m.rows.length rc, .slice ea m.errs.length ec]] w fun e w' =>
      ∃ g, w.heap.size ≤ g ∧ e = .returned (.int .u16 0) ∧ Turn w w' L (i * n + j) none ∧ WayIs w' L (i * n + j) r ⟨some g, s.fr, s.q ++ [m.at w.heap.size w'.heap.size]⟩ := by
  obtain ⟨k, hk⟩ : ∃ k, k = i * n + j := ⟨_, rfl⟩
  have hB : B < w.heap.size := lt_of_heap hb
  obtain ⟨lcs, hlcs⟩ := hw.blk
  have hL : L < w.heap.size := lt_of_heap hlcs
  obtain ⟨b0, b1, b2⟩ := hb.cells
  have hbx : ∀ o, BoxIs (w.alloc o) B L n r := fun o => (Below.heap_alloc w o B hB).trans hb
  have HBX := Lib.hid hbx
  rw [← hk] at hw ⊢
  have HK := Lib.hid hk
  have w0 := hw.c0
  have w1 := hw.c1
  have w2 := hw.c2
  have hfr := hw.lt
  have f2 : w.frozen? ⟨L, k * 3 + 2, none⟩ = false := frozen_of_heap hlcs
  have f0 : w.frozen? ⟨L, k * 3, none⟩ = false := frozen_of_heap hlcs
  rw [hg] at w0
  simp only [ringVal] at w0
  obtain ⟨i0, hi0, hz0, hz1, hz2⟩ := info_parts info31
  have hmk : ∀ u : World, (Instr.makeSlice 101 (.int .i64 (r : Int)) (.int .i64 (r : Int))).run Try.prog u =
      .ok (.slice (some ⟨u.heap.size, 0, none⟩) r r) (u.alloc (.cells (madeCells #[.int .i64 0, .bool false, .int .i64 0, .int .u64 0, .slice none 0 0, .slice none 0 0, .slice none 0 0] (r * 7)) 31)) := fun u => by
    have h := run_make (P := Try.prog) u 101 31 i0 _ Try.underlying101 hi0 hz0 .i64 .i64 (r : Int) (r : Int) (by omega) (Int.le_refl _) (by rw [hz2]; omega) (by omega)
    have e : ((r : Int)).toNat = r := by omega
    rw [e] at h
    simpa [hz1, Value.cells] using h
  obtain ⟨fr, efr⟩ : ∃ fr, fr = s.fr := ⟨_, rfl⟩
  obtain ⟨len, elen⟩ : ∃ len, len = s.q.length := ⟨_, rfl⟩
  rw [← efr] at w1 hfr
  rw [← elen] at w2 hroom
  have EF := Lib.hid efr
  have EL := Lib.hid elen
  have HM := Lib.hid hm
  have HO := Lib.hid hok
  have HW := Lib.hid hw
  have HG := Lib.hid hg
  have HBB := Lib.hid (show w.heap[B]? = _ from hb)
  have HLC := Lib.hid hlcs
  have p1 : (fr + len) % r < r := Nat.mod_lt _ (by omega)
  obtain ⟨p, hp⟩ : ∃ p, p = (fr + len) % r := ⟨_, rfl⟩
  have hnil := fun (u : World) (a : Option Addr) (n c : Nat) => Lib.run_eql_slice_nil (P := Try.prog) u 101 31 a n c 0 0 Try.underlying101
  clear hb b0 b2 hw hm hok efr elen hk hbx hg hlcs
  go_enter Try.func16, Try.ntmps16
  go_wp2_with (go_at_call 28; refine (way_in B L n r i j _ (HBX.out _) hn hi hj).mono ?_; rw [← HK.out]; rintro e w' ⟨rfl, nw, rfl⟩)
  go_quiet (fail)
  go_wp2_with fail
  obtain ⟨g, eg⟩ : ∃ g, g = w.heap.size + 1 := ⟨_, rfl⟩
  obtain ⟨cells, ecells⟩ : ∃ cells, cells = madeCells #[.int .i64 0, .bool false, .int .i64 0, .int .u64 0, .slice none 0 0, .slice none 0 0, .slice none 0 0] (r * 7) := ⟨_, rfl⟩
  obtain ⟨wa, hwa⟩ : ∃ wa, wa = (w.alloc (.cells #[.int .i64 m.node, .bool m.out, .int .i64 m.port, .int .u64 m.epoch, .slice la m.ln lc, .slice ra m.rows.length rc, .slice ea m.errs.length ec] 31)).drewN (nw + nq) := ⟨_, rfl⟩
  obtain ⟨wb, hwb⟩ : ∃ wb, wb = wa.setCell ⟨L, k * 3, none⟩ (.slice (some ⟨g, 0, none⟩) r r) := ⟨_, rfl⟩
  obtain ⟨w3, hw3⟩ : ∃ w3, w3 = wb.alloc (.cells cells 31) := ⟨_, rfl⟩
  have hba : Below w.heap.size w wa := by rw [hwa]; exact below_drewN ((Below.refl _ _).alloc (Nat.le_refl _) _) _
  have hmba : wa.heap[w.heap.size]? = some (.cells #[.int .i64 m.node, .bool m.out, .int .i64 m.port, .int .u64 m.epoch, .slice la m.ln lc, .slice ra m.rows.length rc, .slice ea m.errs.length ec] 31 (0, 0)) := by
    rw [hwa]; exact heap_alloc_new w _
  have hla : wa.heap[L]? = some (.cells lcs 103 (0, 0)) := (hba.block L hL).trans HLC.out
  have hgL0 : g ≠ L := by omega
  have hmL : w.heap.size ≠ L := by omega
  have hsa : wa.heap.size = w.heap.size + 1 := by rw [hwa]; show (World.alloc _ _).heap.size = _; simp
  have hsb : wb.heap.size = w.heap.size + 1 := by rw [hwb, setCell_size, hsa]
  have h3b : ∀ x, x < w.heap.size + 1 → w3.heap[x]? = wb.heap[x]? := fun x hx => by rw [hw3]; exact Below.heap_alloc _ _ _ (by omega)
  have hmb : w3.heap[w.heap.size]? = some (.cells #[.int .i64 m.node, .bool m.out, .int .i64 m.port, .int .u64 m.epoch, .slice la m.ln lc, .slice ra m.rows.length rc, .slice ea m.errs.length ec] 31 (0, 0)) := by rw [h3b _ (by omega), hwb, heap_set_ne hmL]; exact hmba
  have HR3 : Hid (w3.heap[g]? = some (.cells cells 31 (0, 0))) := show _ = _ by rw [hw3, eg, ← hsb]; exact heap_alloc_new _ _
  have hl3 : w3.heap[L]? = some (.cells (lcs.setIfInBounds (k * 3) (.slice (some ⟨g, 0, none⟩) r r)) 103 (0, 0)) := by rw [h3b _ (by omega), hwb]; exact heap_set_same hla
  have HL3 : Hid (∃ lcs, w3.heap[L]? = some (.cells lcs 103 (0, 0))) := ⟨_, hl3⟩
  have hBL : B ≠ L := type_ne HBB.out HLC.out (by decide)
  have HB33 : Hid (w3.heap[B]? = some (.cells #[.int .i64 n, .int .i64 r, .slice (some ⟨L, 0, none⟩) (n * n) (n * n)] 94 (0, 0))) := show _ = _ by rw [h3b _ (by omega), hwb, heap_set_ne hBL]; exact (hba.block B hB).trans HBB.out
  have hsz3 : w3.heap.size = w.heap.size + 2 := by
    have h := congrArg (fun x : World => x.heap.size) hw3
    simp at h; omega
  have hfr3 : ∀ x, x < w.heap.size → x ≠ L → w3.heap[x]? = w.heap[x]? := fun x hx hL' => by rw [h3b _ (by omega), hwb, heap_set_ne hL']; exact hba.block x hx
  have HMW : Hid (MsgIs w3 0 m (.slice la m.ln lc) (.slice ra m.rows.length rc) (.slice ea m.errs.length ec)) := HM.out.frame fun x cur t hx ht => hfr3 x (lt_of_heap hx) (type_ne hx HLC.out (by rcases ht with rfl | rfl | rfl <;> decide))
  have hlt0 : k * 3 < lcs.size := by
    have h := w0
    rw [World.cell?, HLC.out] at h
    rcases Nat.lt_or_ge (k * 3) lcs.size with h' | h'
    · exact h'
    · simp [Array.getElem?_eq_none h'] at h
  have hcl : ∀ o, o ≠ k * 3 → w3.cell? ⟨L, o, none⟩ = w.cell? ⟨L, o, none⟩ := fun o ho => by
    rw [World.cell?, World.cell?, hl3, HLC.out]
    simp only []
    rw [Array.getElem?_setIfInBounds_ne (by omega)]
  have HT3 : Hid (Turn w w3 L k none) := by
    refine ⟨?_, ?_, ?_, by omega, fun x hx h1 _ => hfr3 x hx h1, fun o ho => hcl o (by omega), fun c _ => ⟨_, hl3⟩⟩
    · rw [hw3, hwb]; exact hba.os
    · rw [hw3, hwb]; exact hba.tape
    · rw [hw3, hwb]; exact hba.output
  have q0 : s.q = [] := HW.out.empty HG.out
  have HSZ : Hid (cells.size = r * 7) := show _ = _ by rw [ecells, size_madeCells]
  have HW3 : Hid (WayIs w3 L k r ⟨some g, fr, s.q⟩) := by
    refine ⟨⟨_, hl3⟩, ?_, ?_, ?_, HW.out.len, hfr, (fun h => by cases h), fun g' hg' => ?_⟩
    · refine cell_of_heap hl3 ?_
      rw [Array.getElem?_setIfInBounds_self_of_lt hlt0]; rfl
    · rw [hcl _ (by omega)]; exact w1
    · rw [hcl _ (by omega)]; rw [EL.out] at w2; exact w2
    · cases hg'
      refine ⟨cells, HR3.out, HSZ.out, ?_, fun j' m' h' => ?_⟩
      · intro x hx
        rw [ecells] at hx
        exact made_one hx
      · simp only [] at h'; rw [q0] at h'; simp at h'
  have hgm : g ≠ w.heap.size := by omega
  have hs3 : w.heap.size < w3.heap.size := lt_of_heap hmb
  have hgw : w.heap.size ≤ g := by omega
  rw [← ecells, ← eg, ← hwa, ← hwb, ← hw3]
  have HEG := Lib.hid eg
  clear hba hmba hla hl3 hsz3 hfr3 hcl q0 hmk hwa hwb ecells hlt0 eg hBL hgL0 hmL hsa hsb h3b
  have l0 : w3.cell? ⟨L, k * 3, none⟩ = some (.slice (some ⟨g, 0, none⟩) r r) := HW3.out.c0
  have l1 : w3.cell? ⟨L, k * 3 + 1, none⟩ = some (.int .i64 fr) := HW3.out.c1
  have l2 : w3.cell? ⟨L, k * 3 + 2, none⟩ = some (.int .i64 len) := by rw [EL.out]; exact HW3.out.c2
  have l3 : w3.cell? ⟨B, 1, none⟩ = some (.int .i64 r) := cell_of_heap HB33.out rfl
  have hL3 : L < w3.heap.size := by omega
  have hB3 : B < w3.heap.size := by omega
  have hg3 : g < w3.heap.size := lt_of_heap HR3.out
  obtain ⟨mb, emb⟩ : ∃ mb, mb = w.heap.size := ⟨_, rfl⟩
  
  rw [← emb]
  rw [← emb] at hmb hgm
  have m0 : w3.cell? ⟨mb, 0, none⟩ = some (.int .i64 m.node) := cell_of_heap hmb rfl
  have m1 : w3.cell? ⟨mb, 1, none⟩ = some (.bool m.out) := cell_of_heap hmb rfl
  have m2 : w3.cell? ⟨mb, 2, none⟩ = some (.int .i64 m.port) := cell_of_heap hmb rfl
  have m3 : w3.cell? ⟨mb, 3, none⟩ = some (.int .u64 m.epoch) := cell_of_heap hmb rfl
  have m4 : w3.cell? ⟨mb, 4, none⟩ = some (.slice la m.ln lc) := cell_of_heap hmb rfl
  have m5 : w3.cell? ⟨mb, 5, none⟩ = some (.slice ra m.rows.length rc) := cell_of_heap hmb rfl
  have m6 : w3.cell? ⟨mb, 6, none⟩ = some (.slice ea m.errs.length ec) := cell_of_heap hmb rfl
  have hms : mb < w3.heap.size := lt_of_heap hmb
  have EMB := Lib.hid emb
  have x1 : IntKind.i64.wrap ((fr : Int) + len) = (fr : Int) + len := IntWalk.i64_in _ (by omega)
  have x2 : ((fr : Int) + len).tmod r = (p : Int) := by
    rw [Int.tmod_eq_emod_of_nonneg (by omega), hp]; simp
  have x3 : IntKind.i64.wrap (p : Int) = p := IntWalk.i64_in _ (by omega)
  have x4 : (p : Int) < r := by omega
  have x5 : (0 : Int) ≤ p := by omega
  have x6 : ¬ r = 0 := by omega
  have hpr : p < r := by omega
  obtain ⟨o7, ho7⟩ : ∃ o7, p * 7 = o7 := ⟨_, rfl⟩
  have HP := Lib.hid hp
  have hgL : g ≠ L := type_ne HR3.out HL3.out.choose_spec (by decide)
  have hgB : g ≠ B := type_ne HR3.out HB33.out (by decide)
  have HMD : Hid (MsgIs w3.drew 0 m (.slice la m.ln lc) (.slice ra m.rows.length rc) (.slice ea m.errs.length ec)) := HMW.out.below (w' := w3.drew) ⟨rfl, rfl, rfl, Nat.le_refl _, fun _ _ => rfl⟩
  clear hw3 hmb emb hp p1 w0 w1 w2 b1
  go_region_held3 (fun w' => w'.cell? ⟨L, k * 3, none⟩ = some (.slice (some ⟨g, 0, none⟩) r r) ∧ w'.cell? ⟨L, k * 3 + 1, none⟩ = some (.int .i64 fr) ∧ w'.cell? ⟨L, k * 3 + 2, none⟩ = some (.int .i64 len) ∧ w'.cell? ⟨B, 1, none⟩ = some (.int .i64 r) ∧
      w'.cell? ⟨mb, 0, none⟩ = some (.int .i64 m.node) ∧ w'.cell? ⟨mb, 1, none⟩ = some (.bool m.out) ∧ w'.cell? ⟨mb, 2, none⟩ = some (.int .i64 m.port) ∧ w'.cell? ⟨mb, 3, none⟩ = some (.int .u64 m.epoch) ∧ w'.cell? ⟨mb, 4, none⟩ = some (.slice la m.ln lc) ∧ w'.cell? ⟨mb, 5, none⟩ = some (.slice ra m.rows.length rc) ∧ w'.cell? ⟨mb, 6, none⟩ = some (.slice ea m.errs.length ec))
    (first | with_reducible exact HS5.out | (simp only [cell_set_ne hgL, cell_set_ne hgB, cell_set_ne hgm]; with_reducible exact HS5.out) | exact ⟨l0, l1, l2, l3, m0, m1, m2, m3, m4, m5, m6⟩)
    (first | (go_at_call 35; refine (copied_any m la lc ra rc ea ec _ (HMD.out) HO.out).mono ?_; rintro e w5 ⟨la', lc', ra', rc', ea', ec', rfl, hm5, hb5⟩; obtain ⟨y0, y1, y2, y3, y4, y5, y6, hy0, hy1, hy2, hy3, hy4, hy5, hy6, hz0, hz1, hz2, hz3, hz4, hz5, hz6⟩ := ring7 (p := p) ((hb5.block g hg3).trans HR3.out) HSZ.out hpr ho7; have hS5 := And.intro ((hb5.cell (p := ⟨L, k * 3, none⟩) hL3).trans l0) (And.intro ((hb5.cell (p := ⟨L, k * 3 + 1, none⟩) hL3).trans l1) (And.intro ((hb5.cell (p := ⟨L, k * 3 + 2, none⟩) hL3).trans l2) (And.intro ((hb5.cell (p := ⟨B, 1, none⟩) hB3).trans l3) (And.intro ((hb5.cell (p := ⟨mb, 0, none⟩) hms).trans m0) (And.intro ((hb5.cell (p := ⟨mb, 1, none⟩) hms).trans m1) (And.intro ((hb5.cell (p := ⟨mb, 2, none⟩) hms).trans m2) (And.intro ((hb5.cell (p := ⟨mb, 3, none⟩) hms).trans m3) (And.intro ((hb5.cell (p := ⟨mb, 4, none⟩) hms).trans m4) (And.intro ((hb5.cell (p := ⟨mb, 5, none⟩) hms).trans m5) ((hb5.cell (p := ⟨mb, 6, none⟩) hms).trans m6)))))))))); have HS5 := Lib.hid hS5; clear hS5))
  obtain ⟨w6, hw6⟩ : ∃ w6, w6 = put7 w5 g o7 (.int .i64 m.node) (.bool m.out) (.int .i64 m.port) (.int .u64 m.epoch) (.slice la' m.ln lc') (.slice ra' m.rows.length rc') (.slice ea' m.errs.length ec') := ⟨_, rfl⟩
  have q2 : w6.cell? ⟨L, k * 3 + 2, none⟩ = some (.int .i64 len) := by
    rw [hw6, put7]; simp only [cell_set_ne hgL]; exact (hb5.cell (p := ⟨L, k * 3 + 2, none⟩) hL3).trans l2
  obtain ⟨lx, hlx⟩ := HL3.out
  have e5 : w6.heap[L]? = some (.cells lx 103 (0, 0)) := by
    rw [hw6, put7_ne (Ne.symm hgL), hb5.block L hL3]; exact hlx
  have f6 : w6.frozen? ⟨L, k * 3 + 2, none⟩ = false := frozen_of_heap e5
  have HW6 := Lib.hid hw6
  unfold put7 at hw6
  rw [← hw6]
  clear hw6 e5 hlx hy0 hy1 hy2 hy3 hy4 hy5 hy6 hz0 hz1 hz2 hz3 hz4 hz5 hz6 x1 x2 x3 x4 x5 x6
  go_wp2
  go_ret
  have hlen : ((s.q.length : Nat) : Int) + 1 = (len : Int) + 1 := by rw [EL.out]
  obtain ⟨ht, hwy⟩ := send_end (m := m) HW3.out HR3.out (below_undrew hb5) (hm5.wide HT3.out.size (Nat.le_refl _)) HO.out (by rw [HP.out, EL.out]) ho7 (by rw [← EL.out]; exact hroom) (W := w6.setCell ⟨L, k * 3 + 2, none⟩ (.int .i64 ((len : Int) + 1))) (by rw [HW6.out, hlen])
  rw [EF.out] at hwy
  exact ⟨g, hgw, rfl, HT3.out.trans ht (.inr hgw), hwy⟩

end Go.Proofs.Ytpoilgeffpedoaa
