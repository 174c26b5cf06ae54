import Derived.Test.YtpoilgeffpedoaaRa
/- What the program's calls do to the state. -/
namespace Go.Proofs.Ytpoilgeffpedoaa
open Go.RowKit Go.Pen
attribute [local go_sem ↓] Go.wp_at_zero Go.wp_at_succ

theorem send_yes' (b B L n r i j : Nat) (D : Nat → Nat → Prop) (σ : Nat → Nat → WaySt) (w : World) (hb : BoxIs w B L n r) (hn : n ≤ 8) (hi : i < n) (hj : j < n) (hr : r ≤ 64) (hW : Ways b w D (fun _ => r) σ) (hD : D L (i * n + j))
    (hroom : (σ L (i * n + j)).q.length < r) (m : Msg) (la : Option Addr) (lc : Nat) (ra : Option Addr) (rc : Nat) (ea : Option Addr) (ec : Nat)
    (hm : MsgIs w 0 m (.slice la m.ln lc) (.slice ra m.rows.length rc) (.slice ea m.errs.length ec)) (hok : m.ok) :
    Calls Try.prog 16 #[.pointer (some ⟨B, 0, none⟩), .int .i64 i, .int .i64 j, .agg #[.int .i64 m.node, .bool m.out, .int .i64 m.port, .int .u64 m.epoch, .slice la m.ln lc, .slice ra m.rows.length rc, .slice ea m.errs.length ec]] w fun e w' =>
      e = .returned (.int .u16 0) ∧ ∃ s, s.q = (σ L (i * n + j)).q ++ [m.at w.heap.size w'.heap.size] ∧ Ways b w' D (fun _ => r) (upd σ L (i * n + j) s) ∧ Turn w w' L (i * n + j) (σ L (i * n + j)).ring ∧ (s.ring = (σ L (i * n + j)).ring ∨ ∃ g, s.ring = some g ∧ w.heap.size ≤ g) := by
  have hw := hW.1 L _ hD
  cases hg : (σ L (i * n + j)).ring with
  | none =>
    refine (send_made B L n r i j _ w hb hn hi hj hw hr hroom hg m la lc ra rc ea ec hm hok).mono ?_
    rintro e w' ⟨g, hgs, rfl, ht, hwy⟩
    rw [← hg] at ht
    rw [← hg]
    exact ⟨rfl, _, rfl, hW.turn hD ht hwy (.inr ⟨g, rfl, hgs⟩), ht, .inr ⟨g, rfl, hgs⟩⟩
  | some g =>
    refine (send_ring B L n r i j g _ w hb hn hi hj hw hr hroom hg m la lc ra rc ea ec hm hok).mono ?_
    rintro e w' ⟨rfl, ht, hwy⟩
    rw [← hg] at ht
    exact ⟨rfl, _, rfl, hW.turn hD ht hwy (.inl hg.symm), by rw [← hg]; exact ht, .inl rfl⟩

theorem take_yes' (b B L n r i j : Nat) (D : Nat → Nat → Prop) (σ : Nat → Nat → WaySt) (w : World) (hb : BoxIs w B L n r) (hn : n ≤ 8) (hi : i < n) (hj : j < n) (hr : r ≤ 64) (hW : Ways b w D (fun _ => r) σ) (hD : D L (i * n + j)) (m : Msg) (q : List Msg)
    (hq : (σ L (i * n + j)).q = m :: q) :
    Calls Try.prog 9 #[.pointer (some ⟨B, 0, none⟩), .int .i64 i, .int .i64 j] w fun e w' => ∃ la lc ra rc ea ec, e = .returned (.tuple #[.agg #[.int .i64 m.node, .bool m.out, .int .i64 m.port, .int .u64 m.epoch, .slice la m.ln lc, .slice ra m.rows.length rc, .slice ea m.errs.length ec], .int .u16 0]) ∧
      MsgIn w' m.lo m.hi m (.slice la m.ln lc) (.slice ra m.rows.length rc) (.slice ea m.errs.length ec) ∧ ∃ s, s.q = q ∧ Ways b w' D (fun _ => r) (upd σ L (i * n + j) s) ∧ Turn w w' L (i * n + j) (σ L (i * n + j)).ring ∧ s.ring = (σ L (i * n + j)).ring := by
  have hw := hW.1 L _ hD
  cases hg : (σ L (i * n + j)).ring with
  | none =>
    have := hw.empty hg
    rw [hq] at this; cases this
  | some g =>
    refine (take_some B L n r i j g _ m q w hb hn hi hj hw hr hq hg).mono ?_
    rintro e w' ⟨la, lc, ra, rc, ea, ec, rfl, hm, ht, hwy⟩
    rw [← hg] at ht
    exact ⟨la, lc, ra, rc, ea, ec, rfl, hm, _, rfl, hW.turn hD ht hwy (.inl hg.symm), by rw [← hg]; exact ht, rfl⟩

theorem way_ne {n i k i' k' : Nat} (_ : i < n) (hk : k < n) (hi' : i' < n) (hk' : k' < n) (h : i' * n + k' = i * n + k) : i' = i ∧ k' = k := by
  have h1 : (i' * n + k') / n = i' := by rw [Nat.mul_comm, Nat.mul_add_div (by omega), Nat.div_eq_of_lt hk', Nat.add_zero]
  have h2 : (i * n + k) / n = i := by rw [Nat.mul_comm, Nat.mul_add_div (by omega), Nat.div_eq_of_lt hk, Nat.add_zero]
  rw [h, h2] at h1
  subst h1
  omega

theorem St.turn {C : Cfg} {K : AMsg → Prop} {w w' : World} {s : Sta} (h : St C K w s) {i k : Nat} (hi : i < C.n) (hk : k < C.n) (ht : Turn w w' C.PL (i * C.n + k) (s.σ C.PL (i * C.n + k)).ring) {sw : WaySt} (hW : Ways C.b w' C.D (fun _ => C.r) (upd s.σ C.PL (i * C.n + k) sw))
    (hr : sw.ring = (s.σ C.PL (i * C.n + k)).ring ∨ ∃ g, sw.ring = some g ∧ w.heap.size ≤ g) {q' : List AMsg} (hq : sw.q.map Msg.core = q'.map AMsg.raw) (hK : ∀ m ∈ q', K m)
    (hspan : ∀ (j : Nat) m, sw.q[j]? = some m → C.b ≤ m.lo ∧ m.hi ≤ w'.heap.size ∧ ∀ g, s.U g → ¬ (m.lo ≤ g ∧ g < m.hi)) (hap : ∀ (j : Nat) m (j' : Nat) m', sw.q[j]? = some m → sw.q[j']? = some m' → j ≠ j' → m.hi ≤ m'.lo ∨ m'.hi ≤ m.lo)
    (hap2 : ∀ (j : Nat) m p' (j' : Nat) m', sw.q[j]? = some m → p' < C.n * C.n → p' ≠ i * C.n + k → (s.σ C.PL p').q[j']? = some m' → m.hi ≤ m'.lo ∨ m'.hi ≤ m.lo) :
    St C K w' { s with σ := upd s.σ C.PL (i * C.n + k) sw, QP := put2 s.QP i k q' } := by
  have hD := h.wayIn hi hk
  have keep := fun {x : Nat} {c : Array Value} {t : TypeId} (hx : w.heap[x]? = some (.cells c t (0, 0))) h1 h2 => h.ways.keep hD ht hx h1 h2
  have hwL := h.ways.1 _ _ hD
  obtain ⟨lc, hlc⟩ := hwL.blk
  have hps := fun {p : Nat} (hp : p ≠ i * C.n + k) => upd_ne (σ := s.σ) (L := C.PL) (k := i * C.n + k) (L' := C.PL) (k' := p) (s := sw) (fun e => hp e.2)
  refine ⟨Nat.le_trans h.base ht.size, keep h.box (by decide) (by decide), h.low, hW, ?_, ?_, ?_, ?_, fun g hg => ⟨(h.ulim g hg).1, Nat.lt_of_lt_of_le (h.ulim g hg).2 ht.size⟩, ?_, ?_, ?_, h.argR, h.nn⟩
  · refine h.ref.frame (fun g cur t hg ht' => ?_) fun i' k' g hi' hk' hg => ?_
    · rw [hg]; exact keep hg (by rcases ht' with rfl | rfl | rfl <;> decide) (by rcases ht' with rfl | rfl | rfl <;> decide)
    · obtain ⟨cells, hc⟩ := (h.ref.que i' k' hi' hk').block hg
      exact ht.block g (lt_of_heap hc) (type_ne hc hlc (by decide)) fun e => h.ring _ g (idx_lt hi hk) e i' k' hi' hk' hg
  · intro i' k' hi' hk'
    by_cases e : i' = i ∧ k' = k
    · obtain ⟨rfl, rfl⟩ := e
      simp only [upd_same, put2_same]; exact hq
    · have hne : i' * C.n + k' ≠ i * C.n + k := fun e2 => e (way_ne hi hk hi' hk' e2)
      simp only [hps hne, put2_ne e]
      exact h.same i' k' hi' hk'
  · intro p g hp hg i' k' hi' hk' hv
    by_cases e : p = i * C.n + k
    · subst e
      simp only [upd_same] at hg
      rcases hr with hr | ⟨g', hr, hgs⟩
      · exact h.ring _ g hp (hr ▸ hg) i' k' hi' hk' hv
      · obtain ⟨cells, hc⟩ := (h.ref.que i' k' hi' hk').block hv
        have := lt_of_heap hc
        rw [hr] at hg; cases hg; omega
    · simp only [hps e] at hg
      exact h.ring p g hp hg i' k' hi' hk' hv
  · refine h.book.frame (fun g cur t hg ht' => ?_) fun g cur t hg ht' _ => ?_
    · rw [hg]; exact keep hg (by rcases ht' with rfl | rfl | rfl | rfl <;> decide) (by rcases ht' with rfl | rfl | rfl | rfl <;> decide)
    · rw [hg]; exact keep hg (by rcases ht' with rfl | rfl | rfl <;> decide) (by rcases ht' with rfl | rfl | rfl <;> decide)
  · intro p j m hp hm
    by_cases e : p = i * C.n + k
    · subst e
      simp only [upd_same] at hm
      exact hspan j m hm
    · simp only [hps e] at hm
      obtain ⟨h1, h2, h3⟩ := h.span p j m hp hm
      exact ⟨h1, Nat.le_trans h2 ht.size, h3⟩
  · intro p j m p' j' m' hp hp' hm hm' hne
    by_cases e : p = i * C.n + k <;> by_cases e' : p' = i * C.n + k
    · subst e; subst e'
      simp only [upd_same] at hm hm'
      exact hap j m j' m' hm hm' fun e => hne ⟨rfl, e⟩
    · subst e
      simp only [upd_same] at hm
      simp only [hps e'] at hm'
      exact hap2 j m p' j' m' hm hp' e' hm'
    · subst e'
      simp only [upd_same] at hm'
      simp only [hps e] at hm
      exact (hap2 j' m' p j m hm' hp e hm).symm
    · simp only [hps e] at hm
      simp only [hps e'] at hm'
      exact h.apart p j m p' j' m' hp hp' hm hm' hne
  · intro i' k' m hi' hk' hm
    by_cases e : i' = i ∧ k' = k
    · obtain ⟨rfl, rfl⟩ := e
      simp only [put2_same] at hm; exact hK m hm
    · simp only [put2_ne e] at hm
      exact h.argP i' k' m hi' hk' hm

/-- nothing that is queued, or in the book, lies between lo and hi -/
def Free (C : Cfg) (s : Sta) (lo hi : Nat) : Prop :=
  (∀ g, s.U g → ¬ (lo ≤ g ∧ g < hi)) ∧ ∀ p (j : Nat) m, p < C.n * C.n → (s.σ C.PL p).q[j]? = some m → m.hi ≤ lo ∨ hi ≤ m.lo

/-- what lies behind all that there is -/
theorem St.fresh {C : Cfg} {K : AMsg → Prop} {w : World} {s : Sta} (h : St C K w s) (hi : Nat) : Free C s w.heap.size hi :=
  ⟨fun g hg => by have := (h.ulim g hg).2; omega, fun p j m hp hm => .inl (h.span p j m hp hm).2.1⟩

theorem AMsg.raw_ok {w : World} {m : AMsg} (h : m.there w) : m.raw.ok := by
  have up : ∀ us : List Upd, (∀ u ∈ us, u.row.length ≤ 3000 ∧ u.loops.length ≤ 3000) → ∀ u ∈ us.map Upd.raw, u.ok := by
    intro us hk u hu
    obtain ⟨x, hx, rfl⟩ := List.mem_map.1 hu
    have := hk x hx
    exact ⟨by show x.row.length ≤ _; omega, by show x.loops.length ≤ _; omega, rowCells_one x.row, wordCells_one x.loops⟩
  refine ⟨by show m.loops.length ≤ _; have := h.l1; omega, wordCells_one m.loops, by simp only [AMsg.raw, List.length_map]; have := h.l2; omega, by simp only [AMsg.raw, List.length_map]; have := h.l3; omega, up _ h.k2, up _ h.k3⟩

/-- Send, where there is room -/
theorem st_send {C : Cfg} {K : AMsg → Prop} {w : World} {s : Sta} (h : St C K w s) {i k : Nat} (hi : i < C.n) (hk : k < C.n) (m : AMsg) (hm : K m) (hok : m.raw.ok) (la : Option Addr) (lc : Nat) (ra : Option Addr) (rc : Nat) (ea : Option Addr) (ec : Nat)
    (hl : MsgIs w 0 m.raw (.slice la m.loops.length lc) (.slice ra m.rows.length rc) (.slice ea m.errs.length ec)) (hroom : (s.QP i k).length < C.r) (lo hi' : Nat) (hfree : Free C s lo hi') (hhi : hi' ≤ w.heap.size) :
    Calls Try.prog 16 #[.pointer (some ⟨C.PB, 0, none⟩), .int .i64 i, .int .i64 k, .agg #[.int .i64 m.node, .bool m.out, .int .i64 m.port, .int .u64 m.epoch, .slice la m.loops.length lc, .slice ra m.rows.length rc, .slice ea m.errs.length ec]] w fun e w' =>
      e = .returned (.int .u16 0) ∧ ∃ σ', St C K w' { s with σ := σ', QP := put2 s.QP i k (s.QP i k ++ [m]) } ∧ Free C { s with σ := σ', QP := put2 s.QP i k (s.QP i k ++ [m]) } lo hi' ∧ Turn w w' C.PL (i * C.n + k) (s.σ C.PL (i * C.n + k)).ring := by
  have e1 : m.raw.rows.length = m.rows.length := by simp [AMsg.raw]
  have e2 : m.raw.errs.length = m.errs.length := by simp [AMsg.raw]
  have hc := send_yes' C.b C.PB C.PL C.n C.r i k C.D s.σ w h.box h.nn.2.1 hi hk h.nn.2.2.2 h.ways (h.wayIn hi hk) (by rw [map_len h hi hk]; exact hroom) m.raw la lc ra rc ea ec (by rw [e1, e2]; exact hl) hok
  rw [e1, e2] at hc
  refine hc.mono ?_
  rintro e w' ⟨rfl, sw, hsq, hW, ht, hring⟩
  have hsz := ht.size
  have hspan : ∀ (j : Nat) x, sw.q[j]? = some x → (s.σ C.PL (i * C.n + k)).q[j]? = some x ∨ (j = (s.σ C.PL (i * C.n + k)).q.length ∧ x = m.raw.at w.heap.size w'.heap.size) := fun j x hx => by
    rw [hsq] at hx
    by_cases hj : j < (s.σ C.PL (i * C.n + k)).q.length
    · rw [List.getElem?_append_left hj] at hx; exact .inl hx
    · rw [List.getElem?_append_right (by omega)] at hx
      have hj' := (List.getElem?_eq_some_iff.1 hx).1
      simp at hj'
      have : j = (s.σ C.PL (i * C.n + k)).q.length := by omega
      subst this
      simp at hx
      exact .inr ⟨rfl, hx.symm⟩
  have hp := idx_lt hi hk
  refine ⟨rfl, _, h.turn hi hk ht hW hring (q' := s.QP i k ++ [m]) ?_ ?_ ?_ ?_ ?_, ⟨hfree.1, fun p j x hp' hx => ?_⟩, ht⟩
  · rw [hsq, List.map_append, List.map_append, h.same i k hi hk]; rfl
  · intro x hx
    rcases List.mem_append.1 hx with hx | hx
    · exact h.argP i k x hi hk hx
    · simp at hx; subst hx; exact hm
  · intro j x hx
    rcases hspan j x hx with hx | ⟨-, rfl⟩
    · obtain ⟨a1, a2, a3⟩ := h.span _ j x hp hx
      exact ⟨a1, Nat.le_trans a2 hsz, a3⟩
    · exact ⟨h.base, Nat.le_refl _, fun g hg hh => by have := (h.ulim g hg).2; have := hh.1; simp only [Msg.at] at this; omega⟩
  · intro j x j' x' hx hx' hne
    rcases hspan j x hx with hx | ⟨e1, rfl⟩ <;> rcases hspan j' x' hx' with hx' | ⟨e2, rfl⟩
    · exact h.apart _ j x _ j' x' hp hp hx hx' fun e => hne e.2
    · exact .inl (h.span _ j x hp hx).2.1
    · exact .inr (h.span _ j' x' hp hx').2.1
    · omega
  · intro j x p' j' x' hx hp' hne hx'
    rcases hspan j x hx with hx | ⟨e1, rfl⟩
    · exact h.apart _ j x _ j' x' hp hp' hx hx' fun e => hne e.1.symm
    · exact .inr (h.span p' j' x' hp' hx').2.1
  · by_cases e : p = i * C.n + k
    · subst e
      simp only [upd_same] at hx
      rcases hspan j x hx with hx | ⟨e1, rfl⟩
      · exact hfree.2 _ j x hp hx
      · exact .inr hhi
    · simp only [upd_ne (σ := s.σ) (L := C.PL) (k := i * C.n + k) (L' := C.PL) (k' := p) (s := sw) (fun e2 => e e2.2)] at hx
      exact hfree.2 p j x hp' hx

/-- Take, where there is one -/
theorem st_take {C : Cfg} {K : AMsg → Prop} {w : World} {s : Sta} (h : St C K w s) {i k : Nat} (hi : i < C.n) (hk : k < C.n) (m : AMsg) (qs : List AMsg) (hq : s.QP i k = m :: qs) :
    Calls Try.prog 9 #[.pointer (some ⟨C.PB, 0, none⟩), .int .i64 i, .int .i64 k] w fun e w' => ∃ la lc ra rc ea ec, e = .returned (.tuple #[.agg #[.int .i64 m.node, .bool m.out, .int .i64 m.port, .int .u64 m.epoch, .slice la m.loops.length lc, .slice ra m.rows.length rc, .slice ea m.errs.length ec], .int .u16 0]) ∧
      ∃ σ' lo hi', St C K w' { s with σ := σ', QP := put2 s.QP i k qs } ∧ MsgIn w' lo hi' m.raw (.slice la m.loops.length lc) (.slice ra m.rows.length rc) (.slice ea m.errs.length ec) ∧ C.b ≤ lo ∧ hi' ≤ w'.heap.size ∧ Free C { s with σ := σ', QP := put2 s.QP i k qs } lo hi' ∧ Below C.b w w' ∧ Turn w w' C.PL (i * C.n + k) (s.σ C.PL (i * C.n + k)).ring := by
  have hs := h.same i k hi hk
  rw [hq] at hs
  obtain ⟨x, q, hxq, hx, hqq⟩ : ∃ x q, (s.σ C.PL (i * C.n + k)).q = x :: q ∧ x.core = m.raw ∧ q.map Msg.core = qs.map AMsg.raw := by
    cases hc : (s.σ C.PL (i * C.n + k)).q with
    | nil => rw [hc] at hs; cases hs
    | cons x q => rw [hc] at hs; simp only [List.map_cons, List.cons.injEq] at hs; exact ⟨x, q, rfl, hs.1, hs.2⟩
  have hp := idx_lt hi hk
  have hc := take_yes' C.b C.PB C.PL C.n C.r i k C.D s.σ w h.box h.nn.2.1 hi hk h.nn.2.2.2 h.ways (h.wayIn hi hk) x q hxq
  have f1 : x.node = m.node := congrArg Msg.node hx
  have f2 : x.out = m.out := congrArg Msg.out hx
  have f3 : x.port = m.port := congrArg Msg.port hx
  have f4 : x.epoch = m.epoch := congrArg Msg.epoch hx
  have f5 : x.ln = m.loops.length := congrArg Msg.ln hx
  have f6 : x.rows = m.raw.rows := by have := congrArg Msg.rows hx; exact this
  have f7 : x.errs = m.raw.errs := by have := congrArg Msg.errs hx; exact this
  have f8 : x.loops = m.raw.loops := by have := congrArg Msg.loops hx; exact this
  have e1 : m.raw.rows.length = m.rows.length := by simp [AMsg.raw]
  have e2 : m.raw.errs.length = m.errs.length := by simp [AMsg.raw]
  rw [f1, f2, f3, f4, f5, f6, f7, e1, e2] at hc
  refine hc.mono ?_
  rintro e w' ⟨la, lc, ra, rc, ea, ec, rfl, hmi, sw, hsq, hW, ht, hring⟩
  have hmi' : MsgIn w' x.lo x.hi m.raw (.slice la m.loops.length lc) (.slice ra m.rows.length rc) (.slice ea m.errs.length ec) := by
    obtain ⟨a, b, q1, q2, q3, q4, q5, q6, q7⟩ := hmi
    rw [f6] at q6
    rw [f7] at q7
    rw [f5, f8] at q4
    exact ⟨a, b, q1, q2, q3, q4, q5, q6, q7⟩
  have old : ∀ (j : Nat) y, sw.q[j]? = some y → (s.σ C.PL (i * C.n + k)).q[j + 1]? = some y := fun j y hy => by
    rw [hsq] at hy; rw [hxq, List.getElem?_cons_succ]; exact hy
  have h0 : (s.σ C.PL (i * C.n + k)).q[0]? = some x := by rw [hxq]; rfl
  obtain ⟨b1, b2, b3⟩ := h.span _ 0 x hp h0
  refine ⟨la, lc, ra, rc, ea, ec, rfl, _, x.lo, x.hi, h.turn hi hk ht hW (.inl hring) (q' := qs) ?_ ?_ ?_ ?_ ?_, hmi', b1, Nat.le_trans b2 ht.size, ⟨b3, fun p j y hp' hy => ?_⟩, h.ways.turn_below (h.wayIn hi hk) ht, ht⟩
  · rw [hsq]; exact hqq
  · intro y hy
    exact h.argP i k y hi hk (by rw [hq]; exact List.mem_cons_of_mem _ hy)
  · intro j y hy
    obtain ⟨a1, a2, a3⟩ := h.span _ _ y hp (old j y hy)
    exact ⟨a1, Nat.le_trans a2 ht.size, a3⟩
  · intro j y j' y' hy hy' hne
    exact h.apart _ _ y _ _ y' hp hp (old j y hy) (old j' y' hy') fun e => hne (by omega)
  · intro j y p' j' y' hy hp' hne hy'
    exact h.apart _ _ y _ _ y' hp hp' (old j y hy) hy' fun e => hne e.1.symm
  · by_cases e : p = i * C.n + k
    · subst e
      simp only [upd_same] at hy
      exact (h.apart _ _ x _ _ y hp hp h0 (old j y hy) fun e => by omega).symm
    · simp only [upd_ne (σ := s.σ) (L := C.PL) (k := i * C.n + k) (L' := C.PL) (k' := p) (s := sw) (fun e2 => e e2.2)] at hy
      exact (h.apart _ _ x _ _ y hp hp' h0 hy fun e2 => e e2.1.symm).symm

theorem st_take_none {C : Cfg} {K : AMsg → Prop} {w : World} {s : Sta} (h : St C K w s) {i k : Nat} (hi : i < C.n) (hk : k < C.n) (hq : s.QP i k = []) :
    Calls Try.prog 9 #[.pointer (some ⟨C.PB, 0, none⟩), .int .i64 i, .int .i64 k] w fun e w' => e = .returned (.tuple #[.agg #[.int .i64 0, .bool false, .int .i64 0, .int .u64 0, .slice none 0 0, .slice none 0 0, .slice none 0 0], .int .u16 91]) ∧ St C K w' s ∧ Below w.heap.size w w' := by
  refine (take_none C.PB C.PL C.n C.r i k _ w h.box h.nn.2.1 hi hk (h.ways.1 _ _ (h.wayIn hi hk)) ?_).mono ?_
  · have := map_len h hi hk
    rw [hq] at this
    exact List.eq_nil_of_length_eq_zero this
  · rintro e w' ⟨rfl, hb⟩
    exact ⟨rfl, h.below hb, hb⟩

theorem st_take_out {C : Cfg} {K : AMsg → Prop} {w : World} {s : Sta} (h : St C K w s) {i k : Int} (hn : ¬ InBox C.n i k) :
    Calls Try.prog 9 #[.pointer (some ⟨C.PB, 0, none⟩), .int .i64 i, .int .i64 k] w fun e w' => e = .returned (.tuple #[.agg #[.int .i64 0, .bool false, .int .i64 0, .int .u64 0, .slice none 0 0, .slice none 0 0, .slice none 0 0], .int .u16 90]) ∧ St C K w' s ∧ Below w.heap.size w w' := by
  refine (take_out C.PB C.PL C.n C.r i k w h.box hn).mono ?_
  rintro e w' ⟨rfl, hb⟩
  exact ⟨rfl, h.below hb, hb⟩

theorem st_send_full {C : Cfg} {K : AMsg → Prop} {w : World} {s : Sta} (h : St C K w s) {i k : Nat} (hi : i < C.n) (hk : k < C.n) (hq : ¬ (s.QP i k).length < C.r) (c0 c1 c2 c3 c4 c5 c6 : Value) :
    Calls Try.prog 16 #[.pointer (some ⟨C.PB, 0, none⟩), .int .i64 i, .int .i64 k, .agg #[c0, c1, c2, c3, c4, c5, c6]] w fun e w' => e = .returned (.int .u16 5) ∧ St C K w' s ∧ Below w.heap.size w w' := by
  refine (send_full C.PB C.PL C.n C.r i k _ w h.box h.nn.2.1 hi hk (h.ways.1 _ _ (h.wayIn hi hk)) ?_ c0 c1 c2 c3 c4 c5 c6).mono ?_
  · have := map_len h hi hk
    have h2 : (s.σ C.PL (i * C.n + k)).q.length ≤ C.r := (h.ways.1 _ _ (h.wayIn hi hk)).len
    omega
  · rintro e w' ⟨rfl, hb⟩
    exact ⟨rfl, h.below hb, hb⟩

theorem st_send_out {C : Cfg} {K : AMsg → Prop} {w : World} {s : Sta} (h : St C K w s) {i k : Int} (hn : ¬ InBox C.n i k) (c0 c1 c2 c3 c4 c5 c6 : Value) :
    Calls Try.prog 16 #[.pointer (some ⟨C.PB, 0, none⟩), .int .i64 i, .int .i64 k, .agg #[c0, c1, c2, c3, c4, c5, c6]] w fun e w' => e = .returned (.int .u16 90) ∧ St C K w' s ∧ Below w.heap.size w w' := by
  refine (send_out C.PB C.PL C.n C.r i k w h.box hn c0 c1 c2 c3 c4 c5 c6).mono ?_
  rintro e w' ⟨rfl, hb⟩
  exact ⟨rfl, h.below hb, hb⟩

/-- how many there are on a way -/
def lenAt (n : Nat) (q : Nat → Nat → List AMsg) (i k : Int) : Nat := if 0 ≤ i ∧ i < n ∧ 0 ≤ k ∧ k < n then (q i.toNat k.toNat).length else 0

theorem lenAt_in {n : Nat} {q : Nat → Nat → List AMsg} {i k : Nat} (hi : i < n) (hk : k < n) : lenAt n q i k = (q i k).length := by
  unfold lenAt
  rw [if_pos (by omega)]; simp
theorem lenAt_out {n : Nat} {q : Nat → Nat → List AMsg} {i k : Int} (h : ¬ InBox n i k) : lenAt n q i k = 0 := by
  unfold lenAt
  exact if_neg h

theorem inBox_nat {n : Nat} {i k : Int} (h : InBox n i k) : ∃ i' k' : Nat, i = i' ∧ k = k' ∧ i' < n ∧ k' < n := by
  obtain ⟨h1, h2, h3, h4⟩ := h
  exact ⟨i.toNat, k.toNat, by omega, by omega, by omega, by omega⟩

theorem st_len {C : Cfg} {K : AMsg → Prop} {w : World} {s : Sta} (h : St C K w s) (i k : Int) :
    Calls Try.prog 24 #[.pointer (some ⟨C.PB, 0, none⟩), .int .i64 i, .int .i64 k] w fun e w' => e = .returned (.int .i64 (lenAt C.n s.QP i k)) ∧ St C K w' s ∧ Below w.heap.size w w' := by
  by_cases hin : InBox C.n i k
  · obtain ⟨i', k', rfl, rfl, hi, hk⟩ := inBox_nat hin
    refine (len_in C.PB C.PL C.n C.r i' k' _ w h.box h.nn.2.1 hi hk (h.ways.1 _ _ (h.wayIn hi hk))).mono ?_
    rintro e w' ⟨rfl, nq, rfl⟩
    have hb : Below w.heap.size w (w.drewN nq) := below_drewN (Below.refl _ _) _
    refine ⟨?_, h.below hb, hb⟩
    rw [map_len h hi hk, lenAt_in hi hk]
  · refine (len_out C.PB C.PL C.n C.r i k w h.box hin).mono ?_
    rintro e w' ⟨rfl, hb⟩
    refine ⟨?_, h.below hb, hb⟩
    rw [lenAt_out hin]; rfl

theorem st_rlen {C : Cfg} {K : AMsg → Prop} {w : World} {s : Sta} (h : St C K w s) (i k : Int) :
    Calls Try.prog 25 #[.pointer (some ⟨C.RB, 0, none⟩), .int .i64 i, .int .i64 k] w fun e w' => e = .returned (.int .i64 (lenAt C.n s.QR i k)) ∧ St C K w' s ∧ Below w.heap.size w w' := by
  by_cases hin : InBox C.n i k
  · obtain ⟨i', k', rfl, rfl, hi, hk⟩ := inBox_nat hin
    refine (rlen_yes i' k' w h.ref hi hk).mono ?_
    rintro e w' ⟨rfl, hb⟩
    refine ⟨?_, h.below hb, hb⟩
    rw [lenAt_in hi hk]
  · refine (rlen_no i k w h.ref hin).mono ?_
    rintro e w' ⟨rfl, hb⟩
    refine ⟨?_, h.below hb, hb⟩
    rw [lenAt_out hin]; rfl

/-- the reference's queues have turned -/
theorem St.rturn {C : Cfg} {K : AMsg → Prop} {w w' : World} {s : Sta} (h : St C K w s) {i k : Nat} (hi : i < C.n) (hk : k < C.n) {v' : Value} {q' : List AMsg} (href : RefIs C.b w' C.RB C.RQ C.RR C.n C.r (put2 s.V i k v') (put2 s.QR i k q'))
    (ho : Only (fun g => g = C.RR i ∨ (s.V i k).ownBlock = some g) w w') (hv : ∀ g, v'.ownBlock = some g → (s.V i k).ownBlock = some g ∨ w.heap.size ≤ g) (hK : ∀ m ∈ q', K m) :
    St C K w' { s with V := put2 s.V i k v', QR := put2 s.QR i k q' } := by
  obtain ⟨rc, hrc, -⟩ := h.ref.row i hi
  have keep : ∀ (g : Nat) (cur : Array Value) (t : TypeId), w.heap[g]? = some (.cells cur t (0, 0)) → t ≠ 101 → t ≠ 31 → w'.heap[g]? = w.heap[g]? := fun g cur t hg h1 h2 => by
    refine ho.block g (lt_of_heap hg) fun e => ?_
    rcases e with e | e
    · exact type_ne hg hrc h1 e
    · obtain ⟨cells, hc⟩ := (h.ref.que i k hi hk).block e
      exact type_ne hg hc h2 rfl
  have hrg : ∀ p g, p < C.n * C.n → (s.σ C.PL p).ring = some g → w'.heap[g]? = w.heap[g]? := fun p g hp hg => by
    obtain ⟨cells, hc, -⟩ := (h.ways.1 C.PL p ⟨rfl, hp⟩).ring g hg
    refine ho.block g (lt_of_heap hc) fun e => ?_
    rcases e with e | e
    · exact type_ne hc hrc (by decide) e
    · exact h.ring p g hp hg i k hi hk e
  refine ⟨Nat.le_trans h.base ho.size, show _ = _ from (keep _ _ _ h.box (by decide) (by decide)).trans h.box, h.low, ⟨fun L p hD => ?_, h.ways.2⟩, href, h.same, fun p g hp hg i' k' hi' hk' hvv => ?_, ?_, fun g hg => ⟨(h.ulim g hg).1, Nat.lt_of_lt_of_le (h.ulim g hg).2 ho.size⟩, fun p j m hp hm => ⟨(h.span p j m hp hm).1, Nat.le_trans (h.span p j m hp hm).2.1 ho.size, (h.span p j m hp hm).2.2⟩, h.apart, h.argP, fun i' k' m hi' hk' hm => ?_, h.nn⟩
  · have hw := h.ways.1 L p hD
    obtain ⟨rfl, hp⟩ := hD
    obtain ⟨lc, hlc⟩ := hw.blk
    exact hw.frameIn (keep _ _ _ hlc (by decide) (by decide)) (fun g hg => hrg p g hp hg) fun m hm g cur t hg ht _ _ => keep g cur t hg (by rcases ht with rfl | rfl | rfl <;> decide) (by rcases ht with rfl | rfl | rfl <;> decide)
  · by_cases e : i' = i ∧ k' = k
    · obtain ⟨rfl, rfl⟩ := e
      simp only [put2_same] at hvv
      rcases hv g hvv with hvv | hvv
      · exact h.ring p g hp hg i' k' hi' hk' hvv
      · obtain ⟨cells, hc, -⟩ := (h.ways.1 C.PL p ⟨rfl, hp⟩).ring g hg
        have := lt_of_heap hc; omega
    · simp only [put2_ne e] at hvv
      exact h.ring p g hp hg i' k' hi' hk' hvv
  · exact h.book.frame (fun g cur t hg ht => keep g cur t hg (by rcases ht with rfl | rfl | rfl | rfl <;> decide) (by rcases ht with rfl | rfl | rfl | rfl <;> decide)) fun g cur t hg ht _ => keep g cur t hg (by rcases ht with rfl | rfl | rfl <;> decide) (by rcases ht with rfl | rfl | rfl <;> decide)
  · by_cases e : i' = i ∧ k' = k
    · obtain ⟨rfl, rfl⟩ := e
      simp only [put2_same] at hm; exact hK m hm
    · simp only [put2_ne e] at hm
      exact h.argR i' k' m hi' hk' hm
end Go.Proofs.Ytpoilgeffpedoaa
