import Derived.Test.YtpoilgeffpedoaaRe
/- The calls whatever they answer. -/
namespace Go.Proofs.Ytpoilgeffpedoaa
open Go.RowKit Go.Pen
attribute [local go_sem ↓] Go.wp_at_zero Go.wp_at_succ

instance inBoxDec (n : Nat) (i k : Int) : Decidable (InBox n i k) := by unfold InBox; infer_instance

def AMsg.zero : AMsg := { node := 0, out := false, port := 0, epoch := 0, la := none, lc := 0, loops := [], ra := none, rc := 0, rows := [], ea := none, ec := 0, errs := [] }

/-- what Take answers, and what is left -/
def takeP (n : Nat) (q : Nat → Nat → List AMsg) (i k : Int) : AMsg × Nat × (Nat → Nat → List AMsg) :=
  if InBox n i k then match q i.toNat k.toNat with
    | [] => (AMsg.zero, 91, q)
    | m :: qs => (m, 0, put2 q i.toNat k.toNat qs)
  else (AMsg.zero, 90, q)

/-- what Send answers, and what there is then -/
def sendP (n r : Nat) (q : Nat → Nat → List AMsg) (i k : Int) (m : AMsg) : Nat × (Nat → Nat → List AMsg) :=
  if InBox n i k then if (q i.toNat k.toNat).length < r then (0, put2 q i.toNat k.toNat (q i.toNat k.toNat ++ [m])) else (5, q) else (90, q)

theorem inBox_of {n i k : Nat} (hi : i < n) (hk : k < n) : InBox n i k := ⟨by omega, by omega, by omega, by omega⟩

theorem takeP_nil {n : Nat} {q : Nat → Nat → List AMsg} {i k : Nat} (hi : i < n) (hk : k < n) (h : q i k = []) : takeP n q i k = (AMsg.zero, 91, q) := by
  unfold takeP; rw [if_pos (inBox_of hi hk)]; simp [h]
theorem takeP_cons {n : Nat} {q : Nat → Nat → List AMsg} {i k : Nat} {m : AMsg} {qs : List AMsg} (hi : i < n) (hk : k < n) (h : q i k = m :: qs) : takeP n q i k = (m, 0, put2 q i k qs) := by
  unfold takeP; rw [if_pos (inBox_of hi hk)]; simp [h]
theorem takeP_out {n : Nat} {q : Nat → Nat → List AMsg} {i k : Int} (h : ¬ InBox n i k) : takeP n q i k = (AMsg.zero, 90, q) := by
  unfold takeP; rw [if_neg h]
theorem sendP_yes {n r : Nat} {q : Nat → Nat → List AMsg} {i k : Nat} {m : AMsg} (hi : i < n) (hk : k < n) (h : (q i k).length < r) : sendP n r q i k m = (0, put2 q i k (q i k ++ [m])) := by
  unfold sendP; rw [if_pos (inBox_of hi hk)]; simp [h]
theorem sendP_full {n r : Nat} {q : Nat → Nat → List AMsg} {i k : Nat} {m : AMsg} (hi : i < n) (hk : k < n) (h : ¬ (q i k).length < r) : sendP n r q i k m = (5, q) := by
  unfold sendP; rw [if_pos (inBox_of hi hk)]; simp only [Int.toNat_natCast, if_neg h]
theorem sendP_out {n r : Nat} {q : Nat → Nat → List AMsg} {i k : Int} {m : AMsg} (h : ¬ InBox n i k) : sendP n r q i k m = (90, q) := by
  unfold sendP; rw [if_neg h]

theorem code_small (n : Nat) (q : Nat → Nat → List AMsg) (i k : Int) : (takeP n q i k).2.1 ≤ 91 := by
  unfold takeP
  split
  · split <;> simp
  · simp
theorem code_small' (n r : Nat) (q : Nat → Nat → List AMsg) (i k : Int) (m : AMsg) : (sendP n r q i k m).1 ≤ 90 := by
  unfold sendP
  split
  · split <;> simp
  · simp

theorem zero_in (w : World) (b : Nat) : MsgIn w b b AMsg.zero.raw (.slice none 0 0) (.slice none 0 0) (.slice none 0 0) := by
  have hu : UpsIn w b b (.slice none 0 0) [] := ⟨[], World.ownsRow_nil _ _ _ _, (fun g hg => by cases hg), fun j u hu => by simp at hu, fun j x g hx => by simp at hx, fun i j vi vj g hi => by simp at hi, fun i j vi vj g hi => by simp at hi⟩
  exact ⟨b, b, Nat.le_refl _, Nat.le_refl _, Nat.le_refl _, World.ownsRow_nil _ _ _ _, (fun g hg => by cases hg), hu, hu⟩

theorem zero_there (w : World) : AMsg.zero.there w :=
  ⟨⟨none, 0, rfl, fun _ => rfl, fun h => absurd rfl h⟩, ⟨none, 0, rfl, fun _ => rfl, fun h => absurd rfl h⟩, ⟨none, 0, rfl, fun _ => rfl, fun h => absurd rfl h⟩, by simp [AMsg.zero], by simp [AMsg.zero], by simp [AMsg.zero], fun u hu => by simp [AMsg.zero] at hu, fun u hu => by simp [AMsg.zero] at hu⟩

theorem free_none {C : Cfg} {s : Sta} (b : Nat) (h : ∀ p (j : Nat) m, p < C.n * C.n → (s.σ C.PL p).q[j]? = some m → m.hi ≤ b) : Free C s b b :=
  ⟨fun g _ hh => by omega, fun p j m hp hm => .inl (h p j m hp hm)⟩

theorem turn_only {C : Cfg} {s : Sta} {w w' : World} {i k : Nat} (hi : i < C.n) (hk : k < C.n) (ht : Turn w w' C.PL (i * C.n + k) (s.σ C.PL (i * C.n + k)).ring) : Only (ProgBlk C s) w w' :=
  ⟨ht.os, ht.tape, ht.output, ht.size, fun g hg hn => ht.block g hg (fun e => hn (.inl e)) fun e => hn (.inr ⟨_, idx_lt hi hk, e⟩)⟩

/-- Take -/
theorem st_take_any {C : Cfg} {K : AMsg → Prop} {w : World} {s : Sta} (h : St C K w s) (i k : Int) {P : AMsg × Nat × (Nat → Nat → List AMsg)} (hP : takeP C.n s.QP i k = P) :
    Calls Try.prog 9 #[.pointer (some ⟨C.PB, 0, none⟩), .int .i64 i, .int .i64 k] w fun e w' => ∃ la lc ra rc ea ec, e = .returned (.tuple #[.agg #[.int .i64 P.1.node, .bool P.1.out, .int .i64 P.1.port, .int .u64 P.1.epoch, .slice la P.1.loops.length lc, .slice ra P.1.rows.length rc, .slice ea P.1.errs.length ec], .int .u16 P.2.1]) ∧
      ∃ σ' lo hi', St C K w' { s with σ := σ', QP := P.2.2 } ∧ MsgIn w' lo hi' P.1.raw (.slice la P.1.loops.length lc) (.slice ra P.1.rows.length rc) (.slice ea P.1.errs.length ec) ∧ C.b ≤ lo ∧ hi' ≤ w'.heap.size ∧ Free C { s with σ := σ', QP := P.2.2 } lo hi' ∧ Below C.b w w' ∧ Only (ProgBlk C s) w w' := by
  by_cases hin : InBox C.n i k
  · obtain ⟨i', k', rfl, rfl, hi, hk⟩ := inBox_nat hin
    cases hq : s.QP i' k' with
    | nil =>
      rw [takeP_nil hi hk hq] at hP
      subst hP
      refine (st_take_none h hi hk hq).mono ?_
      rintro e w' ⟨rfl, hs, hb⟩
      exact ⟨none, 0, none, 0, none, 0, rfl, s.σ, w'.heap.size, w'.heap.size, hs, zero_in _ _, hs.base, Nat.le_refl _, free_none _ fun p j m hp hm => (hs.span p j m hp hm).2.1, hb.mono h.base, Only.of_below hb⟩
    | cons m qs =>
      rw [takeP_cons hi hk hq] at hP
      subst hP
      refine (st_take h hi hk m qs hq).mono ?_
      rintro e w' ⟨la, lc, ra, rc, ea, ec, rfl, σ', lo, hi', hs, hm, h1, h2, h3, h4, ht⟩
      exact ⟨la, lc, ra, rc, ea, ec, rfl, σ', lo, hi', hs, hm, h1, h2, h3, h4, turn_only hi hk ht⟩
  · rw [takeP_out hin] at hP
    subst hP
    refine (st_take_out h hin).mono ?_
    rintro e w' ⟨rfl, hs, hb⟩
    exact ⟨none, 0, none, 0, none, 0, rfl, s.σ, w'.heap.size, w'.heap.size, hs, zero_in _ _, hs.base, Nat.le_refl _, free_none _ fun p j m hp hm => (hs.span p j m hp hm).2.1, hb.mono h.base, Only.of_below hb⟩

theorem St.room {C : Cfg} {K : AMsg → Prop} {w : World} {s : Sta} (h : St C K w s) {i k : Nat} (hi : i < C.n) (hk : k < C.n) : (s.QP i k).length ≤ C.r := by
  rw [← map_len h hi hk]
  exact (h.ways.1 _ _ (h.wayIn hi hk)).len

/-- the reference's Take -/
theorem st_rtake_any {C : Cfg} {K : AMsg → Prop} {w : World} {s : Sta} (h : St C K w s) (i k : Int) (hroom : ∀ i k, i < C.n → k < C.n → (s.QR i k).length ≤ C.r) {P : AMsg × Nat × (Nat → Nat → List AMsg)} (hP : takeP C.n s.QR i k = P) :
    Calls Try.prog 10 #[.pointer (some ⟨C.RB, 0, none⟩), .int .i64 i, .int .i64 k] w fun e w' => e = .returned (.tuple #[msgAgg P.1, .int .i64 P.2.1]) ∧ ∃ V', St C K w' { s with V := V', QR := P.2.2 } ∧ Below C.b w w' ∧ Only (RefBlk C s) w w' := by
  by_cases hin : InBox C.n i k
  · obtain ⟨i', k', rfl, rfl, hi, hk⟩ := inBox_nat hin
    cases hq : s.QR i' k' with
    | nil =>
      rw [takeP_nil hi hk hq] at hP
      subst hP
      refine (st_rtake_none h hi hk hq).mono ?_
      rintro e w' ⟨rfl, hs, hb⟩
      exact ⟨rfl, s.V, hs, hb.mono h.base, Only.of_below hb⟩
    | cons m qs =>
      rw [takeP_cons hi hk hq] at hP
      subst hP
      refine (st_rtake h hi hk m qs hq ?_).mono ?_
      · have := hroom i' k' hi hk
        rw [hq] at this
        have := h.nn.2.2.2
        simp at *; omega
      · rintro e w' ⟨rfl, V', hs, hb, ho⟩
        exact ⟨rfl, V', hs, hb, ho⟩
  · rw [takeP_out hin] at hP
    subst hP
    refine (st_rtake_out h hin).mono ?_
    rintro e w' ⟨rfl, hs, hb⟩
    exact ⟨rfl, s.V, hs, hb.mono h.base, Only.of_below hb⟩

/-- Send -/
theorem st_send_any {C : Cfg} {K : AMsg → Prop} {w : World} {s : Sta} (h : St C K w s) (i k : Int) (m : AMsg) (hm : K m) (hok : m.raw.ok) (la : Option Addr) (lc : Nat) (ra : Option Addr) (rc : Nat) (ea : Option Addr) (ec : Nat)
    (hl : MsgIs w 0 m.raw (.slice la m.loops.length lc) (.slice ra m.rows.length rc) (.slice ea m.errs.length ec)) (lo hi' : Nat) (hfree : Free C s lo hi') (hhi : hi' ≤ w.heap.size) {P : Nat × (Nat → Nat → List AMsg)} (hP : sendP C.n C.r s.QP i k m = P) :
    Calls Try.prog 16 #[.pointer (some ⟨C.PB, 0, none⟩), .int .i64 i, .int .i64 k, .agg #[.int .i64 m.node, .bool m.out, .int .i64 m.port, .int .u64 m.epoch, .slice la m.loops.length lc, .slice ra m.rows.length rc, .slice ea m.errs.length ec]] w fun e w' =>
      e = .returned (.int .u16 P.1) ∧ ∃ σ', St C K w' { s with σ := σ', QP := P.2 } ∧ Free C { s with σ := σ', QP := P.2 } lo hi' ∧ Below C.b w w' ∧ Only (ProgBlk C s) w w' := by
  by_cases hin : InBox C.n i k
  · obtain ⟨i', k', rfl, rfl, hi, hk⟩ := inBox_nat hin
    by_cases hr : (s.QP i' k').length < C.r
    · rw [sendP_yes hi hk hr] at hP
      subst hP
      refine (st_send h hi hk m hm hok la lc ra rc ea ec hl hr lo hi' hfree hhi).mono ?_
      rintro e w' ⟨rfl, σ', hs, hf, ht⟩
      exact ⟨rfl, σ', hs, hf, h.ways.turn_below (h.wayIn hi hk) ht, turn_only hi hk ht⟩
    · rw [sendP_full hi hk hr] at hP
      subst hP
      refine (st_send_full h hi hk hr _ _ _ _ _ _ _).mono ?_
      rintro e w' ⟨rfl, hs, hb⟩
      exact ⟨rfl, s.σ, hs, hfree, hb.mono h.base, Only.of_below hb⟩
  · rw [sendP_out hin] at hP
    subst hP
    refine (st_send_out h hin _ _ _ _ _ _ _).mono ?_
    rintro e w' ⟨rfl, hs, hb⟩
    exact ⟨rfl, s.σ, hs, hfree, hb.mono h.base, Only.of_below hb⟩

/-- the reference's Send -/
theorem st_rsend_any {C : Cfg} {K : AMsg → Prop} {w : World} {s : Sta} (h : St C K w s) (i k : Int) (m : AMsg) (hm : K m) {P : Nat × (Nat → Nat → List AMsg)} (hP : sendP C.n C.r s.QR i k m = P) :
    Calls Try.prog 21 #[.pointer (some ⟨C.RB, 0, none⟩), .int .i64 i, .int .i64 k, msgAgg m] w fun e w' => e = .returned (.int .i64 P.1) ∧ ∃ V', St C K w' { s with V := V', QR := P.2 } ∧ Below C.b w w' ∧ Only (RefBlk C s) w w' := by
  by_cases hin : InBox C.n i k
  · obtain ⟨i', k', rfl, rfl, hi, hk⟩ := inBox_nat hin
    by_cases hr : (s.QR i' k').length < C.r
    · rw [sendP_yes hi hk hr] at hP
      subst hP
      refine (st_rsend h hi hk m hm hr).mono ?_
      rintro e w' ⟨rfl, V', hs, hb, ho⟩
      exact ⟨rfl, V', hs, hb, ho⟩
    · rw [sendP_full hi hk hr] at hP
      subst hP
      refine (st_rsend_full h hi hk m hr).mono ?_
      rintro e w' ⟨rfl, hs, hb⟩
      exact ⟨rfl, s.V, hs, hb.mono h.base, Only.of_below hb⟩
  · rw [sendP_out hin] at hP
    subst hP
    refine (st_rsend_out h hin m).mono ?_
    rintro e w' ⟨rfl, hs, hb⟩
    exact ⟨rfl, s.V, hs, hb.mono h.base, Only.of_below hb⟩

/-- same, of a message and what it is a copy of -/
theorem st_same {w : World} {m : AMsg} {lo : Nat} {la ra ea : Option Addr} {lc rc ec : Nat} (hm : MsgIs w lo m.raw (.slice la m.loops.length lc) (.slice ra m.rows.length rc) (.slice ea m.errs.length ec)) (ht : m.there w) :
    Calls Try.prog 13 #[.agg #[.int .i64 m.node, .bool m.out, .int .i64 m.port, .int .u64 m.epoch, .slice la m.loops.length lc, .slice ra m.rows.length rc, .slice ea m.errs.length ec], msgAgg m] w fun e w' => e = .returned (.bool true) ∧ Below w.heap.size w w' := by
  have f : ∀ us : List Upd, (∀ u ∈ us, u.row.length ≤ 3000 ∧ u.loops.length ≤ 3000) → ∀ u ∈ us, u.fit := fun us h u hu => ⟨by have := h u hu; omega, by have := h u hu; omega⟩
  exact same_yes m.node m.out m.port m.epoch m.loops m.rows m.errs la m.la ra m.ra ea m.ea lc m.lc rc m.rc ec m.ec w (wordsAt_of_owns hm.loops) ht.loops (upsAt_of_is hm.rows) ht.rows (upsAt_of_is hm.errs) ht.errs (by have := ht.l1; omega) (by have := ht.l2; omega) (by have := ht.l3; omega) (f _ ht.k2) (f _ ht.k3)

theorem takeP_there {C : Cfg} {w0 w : World} {s : Sta} (h : St C (fun m => m.there w0) w s) (i k : Int) : (takeP C.n s.QP i k).1.there w0 := by
  by_cases hin : InBox C.n i k
  · obtain ⟨i', k', rfl, rfl, hi, hk⟩ := inBox_nat hin
    cases hq : s.QP i' k' with
    | nil => rw [takeP_nil hi hk hq]; exact zero_there w0
    | cons m qs =>
      rw [takeP_cons hi hk hq]
      exact h.argP i' k' m hi hk (by rw [hq]; exact List.mem_cons_self)
  · rw [takeP_out hin]; exact zero_there w0

theorem St.keepP {C : Cfg} {K : AMsg → Prop} {w w' : World} {s : Sta} (h : St C K w s) (ho : Only (ProgBlk C s) w w') {x : Nat} {c : Array Value} {t : TypeId} (hx : w.heap[x]? = some (.cells c t (0, 0))) (h1 : t ≠ 103) (h2 : t ≠ 31) : w'.heap[x]? = some (.cells c t (0, 0)) := by
  rw [ho.block x (lt_of_heap hx) fun e => ?_]
  · exact hx
  · obtain ⟨cur, t', hc, ht⟩ := h.progBlk e
    rcases ht with rfl | rfl
    · exact type_ne hx hc h1 rfl
    · exact type_ne hx hc h2 rfl

theorem St.keepR {C : Cfg} {K : AMsg → Prop} {w w' : World} {s : Sta} (h : St C K w s) (ho : Only (RefBlk C s) w w') {x : Nat} {c : Array Value} {t : TypeId} (hx : w.heap[x]? = some (.cells c t (0, 0))) (h1 : t ≠ 101) (h2 : t ≠ 31) : w'.heap[x]? = some (.cells c t (0, 0)) := by
  rw [ho.block x (lt_of_heap hx) fun e => ?_]
  · exact hx
  · obtain ⟨cur, t', hc, ht⟩ := h.refBlk e
    rcases ht with rfl | rfl
    · exact type_ne hx hc h1 rfl
    · exact type_ne hx hc h2 rfl

/-- a block that was made behind the state -/
theorem St.newR {C : Cfg} {K : AMsg → Prop} {w0 w w' : World} {s s0 : Sta} (h0 : St C K w0 s0) (hV : s.V = s0.V) (ho : Only (RefBlk C s) w w') {x : Nat} (hx : x < w.heap.size) (h1 : w0.heap.size ≤ x) : w'.heap[x]? = w.heap[x]? :=
  ho.block x hx fun e => by
    have e' : RefBlk C s0 x := by unfold RefBlk at *; rw [← hV]; exact e
    obtain ⟨cur, t', hc, -⟩ := h0.refBlk e'
    have := lt_of_heap hc; omega

theorem St.newP {C : Cfg} {K : AMsg → Prop} {w0 w w' : World} {s s0 : Sta} (h0 : St C K w0 s0) (hV : s.σ = s0.σ) (ho : Only (ProgBlk C s) w w') {x : Nat} (hx : x < w.heap.size) (h1 : w0.heap.size ≤ x) : w'.heap[x]? = w.heap[x]? :=
  ho.block x hx fun e => by
    have e' : ProgBlk C s0 x := by unfold ProgBlk at *; rw [← hV]; exact e
    obtain ⟨cur, t', hc, -⟩ := h0.progBlk e'
    have := lt_of_heap hc; omega

/-- Book.Updates of a message's list -/
theorem st_upds {C : Cfg} {K : AMsg → Prop} {w : World} {s : Sta} (h : St C K w s) {lo hi : Nat} {a : Option Addr} {c : Nat} {us : List Upd} (hus : UpsIn w lo hi (.slice a us.length c) (us.map Upd.raw)) (hlo : C.b ≤ lo) (hhi : hi ≤ w.heap.size) (hfree : Free C s lo hi) (hn : us.length ≤ 3000) (hln : ∀ u ∈ us, u.row.length ≤ 3000 ∧ u.loops.length ≤ 3000) (hc : s.c ≤ 900000000) :
    Calls Try.prog 11 #[.pointer (some ⟨C.BB, 0, none⟩), .slice a us.length c] w fun e w' => e = .returned (.tuple #[]) ∧ St C K w' { s with U := fun g => s.U g ∨ lo ≤ g ∧ g < hi, c := s.c + 2 * us.length + 1 } ∧ BkTurn C.b w w' := by
  have hc := st_updates h hus hlo hhi hfree (by simpa using hn) (fun u hu => by
    obtain ⟨x, hx, rfl⟩ := List.mem_map.1 hu
    exact hln x hx) hc
  rw [List.length_map] at hc
  exact hc
end Go.Proofs.Ytpoilgeffpedoaa
