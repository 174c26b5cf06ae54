import Derived.Test.YtpoilgeffpedoaaG
namespace Go.Proofs.Ytpoilgeffpedoaa
open Go.RowKit Go.Pen
attribute [local go_sem ↓] Go.wp_at_zero Go.wp_at_succ

/-- the message of one number -/
def msgOf (n : Int) : Msg := { node := 0, out := false, port := 0, epoch := 0, loops := [], ln := 0, rows := [⟨[.int .u8 3, .bool false, .int .i64 n, .string ⟨#[]⟩], 1, 0, [], 0, 1⟩], errs := [] }

theorem msgOf_ok (n : Int) : (msgOf n).ok := by
  refine ⟨by simp [msgOf], by simp [msgOf], by simp [msgOf], by simp [msgOf], ?_, by simp [msgOf]⟩
  intro u hu
  simp only [msgOf, List.mem_singleton] at hu
  subst hu
  refine ⟨by simp, by simp, ?_, by simp⟩
  intro x hx
  simp at hx
  rcases hx with rfl | rfl | rfl | rfl <;> rfl

set_option maxHeartbeats 400000 in
theorem message_any (n : Int) (w : World) :
    Calls Try.prog 27 #[.int .i64 n] w fun e w' => e = .returned (.agg #[.int .i64 0, .bool false, .int .i64 0, .int .u64 0, .slice none 0 0, .slice (some ⟨w.heap.size + 2, 0, none⟩) 1 1, .slice none 0 0]) ∧
      MsgIs w' 0 (msgOf n) (.slice none 0 0) (.slice (some ⟨w.heap.size + 2, 0, none⟩) 1 1) (.slice none 0 0) ∧ Below w.heap.size w w' := by
  go_enter Try.func27, Try.ntmps27
  go_wp2
  refine bodyPost_ret (v := .agg #[.int .i64 0, .bool false, .int .i64 0, .int .u64 0, .slice none 0 0, .slice (some ⟨w.heap.size + 2, 0, none⟩) 1 1, .slice none 0 0]) (by simp [results, Try.results27, go_sem]) rfl ⟨rfl, ?_, ?_⟩
  · obtain ⟨w1, hw1⟩ : ∃ w1, w1 = w.alloc (.cells #[.int .i64 0, .bool false, .int .i64 0, .int .u64 0, .slice none 0 0, .slice (some ⟨w.heap.size + 2, 0, none⟩) 1 1, .slice none 0 0] 31) := ⟨_, rfl⟩
    have h1 : w1.heap.size = w.heap.size + 1 := by rw [hw1]; simp
    have e1 : (w1.alloc (.cells #[.int .u8 3, .bool false, .int .i64 n, .string ⟨#[]⟩] 89)).heap[w.heap.size + 1]? = some (.cells #[.int .u8 3, .bool false, .int .i64 n, .string ⟨#[]⟩] 89 (0, 0)) := by
      rw [← h1]; exact heap_alloc_new _ _
    have h2 : (w1.alloc (.cells #[.int .u8 3, .bool false, .int .i64 n, .string ⟨#[]⟩] 89)).heap.size = w.heap.size + 2 := by simp [h1]
    rw [← hw1]
    have e2 : ((w1.alloc (.cells #[.int .u8 3, .bool false, .int .i64 n, .string ⟨#[]⟩] 89)).alloc (.cells #[.slice (some ⟨w.heap.size + 1, 0, none⟩) 1 1, .int .u64 0, .slice none 0 0, .int .i64 1] 37)).heap[w.heap.size + 2]? = some (.cells #[.slice (some ⟨w.heap.size + 1, 0, none⟩) 1 1, .int .u64 0, .slice none 0 0, .int .i64 1] 37 (0, 0)) := by
      rw [← h2]; exact heap_alloc_new _ _
    refine ⟨World.ownsRow_nil _ _ _ _, ⟨[.slice (some ⟨w.heap.size + 1, 0, none⟩) 1 1, .int .u64 0, .slice none 0 0, .int .i64 1], ownsRow_mk (Nat.zero_le _) e2 (Nat.le_refl _) (by unfold maxLen; omega) rfl rfl, ?_⟩, ⟨[], World.ownsRow_nil _ _ _ _, fun j u hu => by simp [msgOf] at hu⟩⟩
    intro j u hu
    have hj : j = 0 := by
      have := (List.getElem?_eq_some_iff.1 hu).1
      simp [msgOf] at this; omega
    subst hj
    simp only [msgOf, List.getElem?_cons_zero, Option.some.injEq] at hu
    subst hu
    refine ⟨_, _, rfl, rfl, rfl, rfl, ?_, World.ownsRow_nil _ _ _ _⟩
    refine World.ownsRow.alloc (ownsRow_mk (Nat.zero_le _) e1 (Nat.le_refl _) (by unfold maxLen; omega) rfl rfl) _
  · exact (((Below.refl _ _).alloc (Nat.le_refl _) _).alloc (by simp) _).alloc (by simp; omega) _

theorem Ways.keep {b : Nat} {w w' : World} {D : Nat → Nat → Prop} {r : Nat → Nat} {σ : Nat → Nat → WaySt} (h : Ways b w D r σ) {L k : Nat} (hD : D L k) (ht : Turn w w' L k (σ L k).ring) {x : Nat} {c : Array Value} {t : TypeId}
    (hx : w.heap[x]? = some (.cells c t (0, 0))) (h1 : t ≠ 31) (h2 : t ≠ 103) : w'.heap[x]? = some (.cells c t (0, 0)) := by
  have hw := h.1 L k hD
  obtain ⟨lc, hlc⟩ := hw.blk
  rw [ht.block x (lt_of_heap hx) (type_ne hx hlc h2) fun e => ?_]
  · exact hx
  · obtain ⟨cells, hc, _⟩ := hw.ring x e
    exact type_ne hx hc h1 rfl

theorem send_yes (b B L n r i j : Nat) (D : Nat → Nat → Prop) (σ : Nat → Nat → WaySt) (w : World) (hb : BoxIs w B L n r) (hn : n ≤ 8) (hi : i < n) (hj : j < n) (hr : r ≤ 64) (hW : Ways b w D (fun _ => r) σ) (hD : D L (i * n + j))
    (hroom : (σ L (i * n + j)).q.length < r) (m : Msg) (la : Option Addr) (lc : Nat) (ra : Option Addr) (rc : Nat) (ea : Option Addr) (ec : Nat)
    (hm : MsgIs w 0 m (.slice la m.ln lc) (.slice ra m.rows.length rc) (.slice ea m.errs.length ec)) (hok : m.ok) :
    Calls Try.prog 16 #[.pointer (some ⟨B, 0, none⟩), .int .i64 i, .int .i64 j, .agg #[.int .i64 m.node, .bool m.out, .int .i64 m.port, .int .u64 m.epoch, .slice la m.ln lc, .slice ra m.rows.length rc, .slice ea m.errs.length ec]] w fun e w' =>
      e = .returned (.int .u16 0) ∧ ∃ s, s.q = (σ L (i * n + j)).q ++ [m.at w.heap.size w'.heap.size] ∧ Ways b w' D (fun _ => r) (upd σ L (i * n + j) s) ∧ Turn w w' L (i * n + j) (σ L (i * n + j)).ring := by
  have hw := hW.1 L _ hD
  cases hg : (σ L (i * n + j)).ring with
  | none =>
    refine (send_made B L n r i j _ w hb hn hi hj hw hr hroom hg m la lc ra rc ea ec hm hok).mono ?_
    rintro e w' ⟨g, hgs, rfl, ht, hwy⟩
    rw [← hg] at ht
    rw [← hg]
    exact ⟨rfl, _, rfl, hW.turn hD ht hwy (.inr ⟨g, rfl, hgs⟩), ht⟩
  | some g =>
    refine (send_ring B L n r i j g _ w hb hn hi hj hw hr hroom hg m la lc ra rc ea ec hm hok).mono ?_
    rintro e w' ⟨rfl, ht, hwy⟩
    rw [← hg] at ht
    exact ⟨rfl, _, rfl, hW.turn hD ht hwy (.inl hg.symm), by rw [← hg]; exact ht⟩

theorem send_no (b B L n r i j : Nat) (D : Nat → Nat → Prop) (σ : Nat → Nat → WaySt) (w : World) (hb : BoxIs w B L n r) (hn : n ≤ 8) (hi : i < n) (hj : j < n) (hW : Ways b w D (fun _ => r) σ) (hD : D L (i * n + j))
    (hfull : (σ L (i * n + j)).q.length = r) (c0 c1 c2 c3 c4 c5 c6 : Value) :
    Calls Try.prog 16 #[.pointer (some ⟨B, 0, none⟩), .int .i64 i, .int .i64 j, .agg #[c0, c1, c2, c3, c4, c5, c6]] w fun e w' => e = .returned (.int .u16 5) ∧ Below w.heap.size w w' :=
  send_full B L n r i j _ w hb hn hi hj (hW.1 L _ hD) hfull c0 c1 c2 c3 c4 c5 c6

theorem take_yes (b B L n r i j : Nat) (D : Nat → Nat → Prop) (σ : Nat → Nat → WaySt) (w : World) (hb : BoxIs w B L n r) (hn : n ≤ 8) (hi : i < n) (hj : j < n) (hr : r ≤ 64) (hW : Ways b w D (fun _ => r) σ) (hD : D L (i * n + j)) (m : Msg) (q : List Msg)
    (hq : (σ L (i * n + j)).q = m :: q) :
    Calls Try.prog 9 #[.pointer (some ⟨B, 0, none⟩), .int .i64 i, .int .i64 j] w fun e w' => ∃ la lc ra rc ea ec, e = .returned (.tuple #[.agg #[.int .i64 m.node, .bool m.out, .int .i64 m.port, .int .u64 m.epoch, .slice la m.ln lc, .slice ra m.rows.length rc, .slice ea m.errs.length ec], .int .u16 0]) ∧
      MsgIn w' m.lo m.hi m (.slice la m.ln lc) (.slice ra m.rows.length rc) (.slice ea m.errs.length ec) ∧ ∃ s, s.q = q ∧ Ways b w' D (fun _ => r) (upd σ L (i * n + j) s) ∧ Turn w w' L (i * n + j) (σ L (i * n + j)).ring := by
  have hw := hW.1 L _ hD
  cases hg : (σ L (i * n + j)).ring with
  | none =>
    have := hw.empty hg
    rw [hq] at this; cases this
  | some g =>
    refine (take_some B L n r i j g _ m q w hb hn hi hj hw hr hq hg).mono ?_
    rintro e w' ⟨la, lc, ra, rc, ea, ec, rfl, hm, ht, hwy⟩
    rw [← hg] at ht
    exact ⟨la, lc, ra, rc, ea, ec, rfl, hm, _, rfl, hW.turn hD ht hwy (.inl hg.symm), by rw [← hg]; exact ht⟩

theorem made_get (z : Array Value) (N k c : Nat) (hz : z.size = 3) (hk : k < N) (hc : c < 3) : (madeCells z (N * 3))[k * 3 + c]? = z[c]? := by
  have h1 : k * 3 + c < N * 3 := by omega
  have h2 : (k * 3 + c) % 3 = c := by omega
  simp [madeCells, h1, hz, h2, hc]

/-- a box that has just been made -/
theorem ways_new (b : Nat) (w : World) (n r : Nat) (h3 : 1 ≤ r) (hbs : b ≤ w.heap.size) (D : Nat → Nat → Prop) (σ : Nat → Nat → WaySt) (hW : Ways b w D (fun _ => r) σ) :
    Ways b ((w.alloc (.cells (madeCells #[.slice none 0 0, .int .i64 0, .int .i64 0] (n * n * 3)) 103)).alloc (.cells #[.int .i64 n, .int .i64 r, .slice (some ⟨w.heap.size, 0, none⟩) (n * n) (n * n)] 94))
      (fun L k => D L k ∨ L = w.heap.size ∧ k < n * n) (fun _ => r) (fun L k => if L = w.heap.size then ⟨none, 0, []⟩ else σ L k) := by
  obtain ⟨w1, hw1⟩ : ∃ w1, w1 = w.alloc (.cells (madeCells #[.slice none 0 0, .int .i64 0, .int .i64 0] (n * n * 3)) 103) := ⟨_, rfl⟩
  have h1 : w1.heap.size = w.heap.size + 1 := by rw [hw1]; simp
  have e1 : w1.heap[w.heap.size]? = some (.cells (madeCells #[.slice none 0 0, .int .i64 0, .int .i64 0] (n * n * 3)) 103 (0, 0)) := by rw [hw1]; exact heap_alloc_new _ _
  rw [← hw1]
  have hb1 : Below w.heap.size w w1 := by rw [hw1]; exact (Below.refl _ _).alloc (Nat.le_refl _) _
  have hb : Below w.heap.size w (w1.alloc (.cells #[.int .i64 n, .int .i64 r, .slice (some ⟨w.heap.size, 0, none⟩) (n * n) (n * n)] 94)) := hb1.alloc (by omega) _
  have hlt : ∀ L k, D L k → L < w.heap.size := fun L k hD => lt_of_heap (hW.1 L k hD).blk.choose_spec
  refine ⟨fun L k hD => ?_, fun L k L' k' g h1 h2 e1 e2 => ?_, fun L k hD => ?_⟩
  · rcases hD with hD | ⟨rfl, hk⟩
    · have := hlt L k hD
      simp only [if_neg (show L ≠ w.heap.size by omega)]
      exact (hW.1 L k hD).below hb
    · simp only [if_true]
      have e2 := (Below.heap_alloc w1 (.cells #[.int .i64 n, .int .i64 r, .slice (some ⟨w.heap.size, 0, none⟩) (n * n) (n * n)] 94) w.heap.size (by omega)).trans e1
      have hm := fun c hc => made_get #[.slice none 0 0, .int .i64 0, .int .i64 0] (n * n) k c rfl hk hc
      refine ⟨⟨_, e2⟩, cell_of_heap e2 (hm 0 (by omega)), cell_of_heap e2 (hm 1 (by omega)), cell_of_heap e2 (hm 2 (by omega)), Nat.zero_le _, h3, fun _ => rfl, (fun g hg => by cases hg)⟩
  · rcases h1 with h1 | ⟨rfl, hk1⟩
    · have l1 := hlt L k h1
      simp only [if_neg (show L ≠ w.heap.size by omega)] at e1
      rcases h2 with h2 | ⟨rfl, hk2⟩
      · have l2 := hlt L' k' h2
        simp only [if_neg (show L' ≠ w.heap.size by omega)] at e2
        exact hW.2.1 L k L' k' g h1 h2 e1 e2
      · simp at e2
    · simp at e1
  · rcases hD with hD | ⟨rfl, hk⟩
    · have := hlt L k hD
      simp only [if_neg (show L ≠ w.heap.size by omega)]
      exact hW.2.2 L k hD
    · simp only [if_true]
      exact ⟨hbs, fun g hg => by cases hg⟩

theorem ways_none (b : Nat) (w : World) (r : Nat → Nat) (σ : Nat → Nat → WaySt) : Ways b w (fun _ _ => False) r σ := ⟨fun _ _ h => h.elim, fun _ _ _ _ _ h => h.elim, fun _ _ h => h.elim⟩
end Go.Proofs.Ytpoilgeffpedoaa
