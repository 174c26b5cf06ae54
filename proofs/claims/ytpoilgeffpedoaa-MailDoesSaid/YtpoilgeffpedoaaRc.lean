import Derived.Test.YtpoilgeffpedoaaRb
/- What the reference's calls, the book's and the owner's writing do to the state. -/
namespace Go.Proofs.Ytpoilgeffpedoaa
open Go.RowKit Go.Pen
attribute [local go_sem ↓] Go.wp_at_zero Go.wp_at_succ

/-- the blocks that the reference writes -/
def RefBlk (C : Cfg) (s : Sta) (g : Nat) : Prop := (∃ i, i < C.n ∧ g = C.RR i) ∨ ∃ i k, i < C.n ∧ k < C.n ∧ (s.V i k).ownBlock = some g

theorem st_rsend {C : Cfg} {K : AMsg → Prop} {w : World} {s : Sta} (h : St C K w s) {i k : Nat} (hi : i < C.n) (hk : k < C.n) (m : AMsg) (hm : K m) (hroom : (s.QR i k).length < C.r) :
    Calls Try.prog 21 #[.pointer (some ⟨C.RB, 0, none⟩), .int .i64 i, .int .i64 k, msgAgg m] w fun e w' => e = .returned (.int .i64 0) ∧ ∃ V', St C K w' { s with V := V', QR := put2 s.QR i k (s.QR i k ++ [m]) } ∧ Below C.b w w' ∧ Only (RefBlk C s) w w' := by
  refine (rsend_yes i k m w h.ref hi hk h.nn.2.2.2 hroom).mono ?_
  rintro e w' ⟨rfl, v', href, ho, hv⟩
  refine ⟨rfl, _, h.rturn hi hk href ho hv fun x hx => ?_, only_below ho h.base fun g hg => ?_, ho.wide fun g hg => ?_⟩
  · rcases List.mem_append.1 hx with hx | hx
    · exact h.argR i k x hi hk hx
    · simp at hx; subst hx; exact hm
  · rcases hg with rfl | hg
    · exact h.ref.low.2.2.1 i hi
    · exact h.ref.low.2.2.2 i k g hi hk hg
  · rcases hg with rfl | hg
    · exact .inl ⟨i, hi, rfl⟩
    · exact .inr ⟨i, k, hi, hk, hg⟩

theorem st_rsend_full {C : Cfg} {K : AMsg → Prop} {w : World} {s : Sta} (h : St C K w s) {i k : Nat} (hi : i < C.n) (hk : k < C.n) (m : AMsg) (hroom : ¬ (s.QR i k).length < C.r) :
    Calls Try.prog 21 #[.pointer (some ⟨C.RB, 0, none⟩), .int .i64 i, .int .i64 k, msgAgg m] w fun e w' => e = .returned (.int .i64 5) ∧ St C K w' s ∧ Below w.heap.size w w' := by
  refine (rsend_full i k m w h.ref hi hk (by omega)).mono ?_
  rintro e w' ⟨rfl, hb⟩
  exact ⟨rfl, h.below hb, hb⟩

theorem st_rsend_out {C : Cfg} {K : AMsg → Prop} {w : World} {s : Sta} (h : St C K w s) {i k : Int} (hn : ¬ InBox C.n i k) (m : AMsg) :
    Calls Try.prog 21 #[.pointer (some ⟨C.RB, 0, none⟩), .int .i64 i, .int .i64 k, msgAgg m] w fun e w' => e = .returned (.int .i64 90) ∧ St C K w' s ∧ Below w.heap.size w w' := by
  refine (rsend_no i k m w h.ref hn).mono ?_
  rintro e w' ⟨rfl, hb⟩
  exact ⟨rfl, h.below hb, hb⟩

/-- the blocks that the program writes -/
def ProgBlk (C : Cfg) (s : Sta) (g : Nat) : Prop := g = C.PL ∨ ∃ p, p < C.n * C.n ∧ (s.σ C.PL p).ring = some g

theorem St.refBlk {C : Cfg} {K : AMsg → Prop} {w : World} {s : Sta} (h : St C K w s) {g : Nat} (hg : RefBlk C s g) : ∃ (cur : Array Value) (t : TypeId), w.heap[g]? = some (.cells cur t (0, 0)) ∧ (t = 101 ∨ t = 31) := by
  rcases hg with ⟨i, hi, rfl⟩ | ⟨i, k, hi, hk, hg⟩
  · obtain ⟨rc, hrc, -⟩ := h.ref.row i hi
    exact ⟨rc, 101, hrc, .inl rfl⟩
  · obtain ⟨cells, hc⟩ := (h.ref.que i k hi hk).block hg
    exact ⟨cells, 31, hc, .inr rfl⟩

theorem St.progBlk {C : Cfg} {K : AMsg → Prop} {w : World} {s : Sta} (h : St C K w s) {g : Nat} (hg : ProgBlk C s g) : ∃ (cur : Array Value) (t : TypeId), w.heap[g]? = some (.cells cur t (0, 0)) ∧ (t = 103 ∨ t = 31) := by
  rcases hg with rfl | ⟨p, hp, hg⟩
  · obtain ⟨lc, hlc⟩ := (h.ways.1 C.PL 0 ⟨rfl, Nat.mul_pos (by have := h.nn.1; omega) (by have := h.nn.1; omega)⟩).blk
    exact ⟨lc, 103, hlc, .inl rfl⟩
  · obtain ⟨cells, hc, -⟩ := (h.ways.1 C.PL p ⟨rfl, hp⟩).ring g hg
    exact ⟨cells, 31, hc, .inr rfl⟩

theorem st_rtake {C : Cfg} {K : AMsg → Prop} {w : World} {s : Sta} (h : St C K w s) {i k : Nat} (hi : i < C.n) (hk : k < C.n) (m : AMsg) (qs : List AMsg) (hq : s.QR i k = m :: qs) (hl : qs.length ≤ 64) :
    Calls Try.prog 10 #[.pointer (some ⟨C.RB, 0, none⟩), .int .i64 i, .int .i64 k] w fun e w' => e = .returned (.tuple #[msgAgg m, .int .i64 0]) ∧ ∃ V', St C K w' { s with V := V', QR := put2 s.QR i k qs } ∧ Below C.b w w' ∧ Only (RefBlk C s) w w' := by
  refine (rtake_yes i k m qs w h.ref hi hk hq hl).mono ?_
  rintro e w' ⟨rfl, v', href, ho, hv⟩
  refine ⟨rfl, _, h.rturn hi hk href ho hv fun x hx => h.argR i k x hi hk (by rw [hq]; exact List.mem_cons_of_mem _ hx), only_below ho h.base fun g hg => ?_, ho.wide fun g hg => ?_⟩
  · rcases hg with rfl | hg
    · exact h.ref.low.2.2.1 i hi
    · exact h.ref.low.2.2.2 i k g hi hk hg
  · rcases hg with rfl | hg
    · exact .inl ⟨i, hi, rfl⟩
    · exact .inr ⟨i, k, hi, hk, hg⟩

theorem st_rtake_none {C : Cfg} {K : AMsg → Prop} {w : World} {s : Sta} (h : St C K w s) {i k : Nat} (hi : i < C.n) (hk : k < C.n) (hq : s.QR i k = []) :
    Calls Try.prog 10 #[.pointer (some ⟨C.RB, 0, none⟩), .int .i64 i, .int .i64 k] w fun e w' => e = .returned (.tuple #[.agg #[.int .i64 0, .bool false, .int .i64 0, .int .u64 0, .slice none 0 0, .slice none 0 0, .slice none 0 0], .int .i64 91]) ∧ St C K w' s ∧ Below w.heap.size w w' := by
  refine (rtake_none i k w h.ref hi hk hq).mono ?_
  rintro e w' ⟨rfl, hb⟩
  exact ⟨rfl, h.below hb, hb⟩

theorem st_rtake_out {C : Cfg} {K : AMsg → Prop} {w : World} {s : Sta} (h : St C K w s) {i k : Int} (hn : ¬ InBox C.n i k) :
    Calls Try.prog 10 #[.pointer (some ⟨C.RB, 0, none⟩), .int .i64 i, .int .i64 k] w fun e w' => e = .returned (.tuple #[.agg #[.int .i64 0, .bool false, .int .i64 0, .int .u64 0, .slice none 0 0, .slice none 0 0, .slice none 0 0], .int .i64 90]) ∧ St C K w' s ∧ Below w.heap.size w w' := by
  refine (rtake_no i k w h.ref hn).mono ?_
  rintro e w' ⟨rfl, hb⟩
  exact ⟨rfl, h.below hb, hb⟩

/-- the owner's writing over what lies where nothing is held -/
theorem St.spoil {C : Cfg} {K : AMsg → Prop} {w w' : World} {s : Sta} (h : St C K w s) {lo hi : Nat} (hs : Sp (SpB w lo hi) w w') (hfree : Free C s lo hi) : St C K w' s := by
  refine h.frame hs.1.size (fun g cur t hg ht => hs.1.block g (lt_of_heap hg) fun hb => ?_) fun g cur t hg ht hu => hs.1.block g (lt_of_heap hg) fun hb => ?_
  · obtain ⟨-, -, cur', t', hc, ht'⟩ := hb
    rw [hg] at hc; cases hc
    rcases ht' with rfl | rfl | rfl <;> simp at ht
  · rcases hu with hu | ⟨p, j, m, hp, hm, h1, h2⟩
    · exact hfree.1 g hu ⟨hb.1, hb.2.1⟩
    · have := hfree.2 p j m hp hm
      have := hb.1
      have := hb.2.1
      omega

/-- the book has turned, and holds what lies between lo and hi too -/
theorem St.booked {C : Cfg} {K : AMsg → Prop} {w w' : World} {s : Sta} (h : St C K w s) {lo hi c' : Nat} {U' : Nat → Prop} (hb : BookIs w' C.BB C.b c' U') (ht : BkTurn C.b w w') (hU : ∀ g, U' g → s.U g ∨ lo ≤ g ∧ g < hi) (hlo : C.b ≤ lo) (hhi : hi ≤ w.heap.size) (hfree : Free C s lo hi) :
    St C K w' { s with U := U', c := c' } := by
  have hsz := ht.1.size
  have fr : ∀ (g : Nat) (cur : Array Value) (t : TypeId), w.heap[g]? = some (.cells cur t (0, 0)) → (t ≠ 63 ∧ t ≠ 26 ∧ t ≠ 34 ∧ t ≠ 29) → w'.heap[g]? = w.heap[g]? := ht.2
  refine ⟨Nat.le_trans h.base hsz, show _ = _ from (fr _ _ _ h.box (by decide)).trans h.box, h.low, ⟨fun L k hD => ?_, h.ways.2⟩, ?_, h.same, h.ring, hb, fun g hg => ?_, fun p j m hp hm => ⟨(h.span p j m hp hm).1, Nat.le_trans (h.span p j m hp hm).2.1 hsz, fun g hg hh => ?_⟩, h.apart, h.argP, h.argR, h.nn⟩
  · have hw := h.ways.1 L k hD
    obtain ⟨rfl, hk⟩ := hD
    obtain ⟨lc, hlc⟩ := hw.blk
    refine hw.frameIn (fr _ _ _ hlc (by decide)) (fun g hg => ?_) fun m hm g cur t hg ht' _ _ => fr g cur t hg (by rcases ht' with rfl | rfl | rfl <;> decide)
    obtain ⟨cells, hc, -⟩ := hw.ring g hg
    exact fr _ _ _ hc (by decide)
  · refine h.ref.frame (fun g cur t hg ht' => fr g cur t hg (by rcases ht' with rfl | rfl | rfl <;> decide)) fun i k g hi hk hg => ?_
    obtain ⟨cells, hc⟩ := (h.ref.que i k hi hk).block hg
    exact fr _ _ _ hc (by decide)
  · rcases hU g hg with hg | hg
    · exact ⟨(h.ulim g hg).1, Nat.lt_of_lt_of_le (h.ulim g hg).2 hsz⟩
    · exact ⟨by omega, by omega⟩
  · rcases hU g hg with hg | hg
    · exact (h.span p j m hp hm).2.2 g hg hh
    · have := hfree.2 p j m hp hm; omega

theorem Free.sub {C : Cfg} {s : Sta} {lo hi a b : Nat} (h : Free C s lo hi) (h1 : lo ≤ a) (h2 : b ≤ hi) : Free C s a b :=
  ⟨fun g hg hh => h.1 g hg ⟨by omega, by omega⟩, fun p j m hp hm => by have := h.2 p j m hp hm; omega⟩

theorem Free.add {C : Cfg} {s : Sta} {a b lo hi c' : Nat} {U' : Nat → Prop} (h : Free C s a b) (hU : ∀ g, U' g → s.U g ∨ lo ≤ g ∧ g < hi) (hd : b ≤ lo ∨ hi ≤ a) : Free C { s with U := U', c := c' } a b :=
  ⟨fun g hg hh => by
    rcases hU g hg with hg | hg
    · exact h.1 g hg hh
    · omega, h.2⟩

theorem st_updates {C : Cfg} {K : AMsg → Prop} {w : World} {s : Sta} (h : St C K w s) {lo hi : Nat} {v : Value} {us : List Up} (hus : UpsIn w lo hi v us) (hlo : C.b ≤ lo) (hhi : hi ≤ w.heap.size) (hfree : Free C s lo hi) (hn : us.length ≤ 3000) (hln : ∀ u ∈ us, u.rn ≤ 3000 ∧ u.ln ≤ 3000) (hc : s.c ≤ 900000000) :
    Calls Try.prog 11 #[.pointer (some ⟨C.BB, 0, none⟩), v] w fun e w' => e = .returned (.tuple #[]) ∧ St C K w' { s with U := fun g => s.U g ∨ lo ≤ g ∧ g < hi, c := s.c + 2 * us.length + 1 } ∧ BkTurn C.b w w' := by
  refine (updates_B C.BB C.b s.c lo hi s.U v us w h.book hus hlo (fun g hg => hfree.1 g hg) (by omega) (fun u hu => by have := hln u hu; omega) (by omega)).mono ?_
  rintro e w' ⟨rfl, hb, ht⟩
  exact ⟨rfl, h.booked hb ht (fun g hg => hg) hlo hhi hfree, ht⟩

theorem st_words {C : Cfg} {K : AMsg → Prop} {w : World} {s : Sta} (h : St C K w s) {lo hi L : Nat} {x : Value} {xs : List Value} (hx : w.ownsRow lo 111 1 x L xs) (hxh : ∀ g, x.ownBlock = some g → g < hi) (hlo : C.b ≤ lo) (hhi : hi ≤ w.heap.size) (hfree : Free C s lo hi) (hn : L ≤ 3000) (hc : s.c ≤ 900000000) :
    Calls Try.prog 12 #[.pointer (some ⟨C.BB, 0, none⟩), x] w fun e w' => e = .returned (.tuple #[]) ∧ St C K w' { s with U := fun g => s.U g ∨ x.ownBlock = some g, c := s.c + 1 } ∧ BkTurn C.b w w' := by
  refine (words_B C.BB C.b s.c s.U x L xs w h.book (ownsRow_lower hx hlo) (by omega) (by omega) (fun g hg hu => hfree.1 g hu ⟨(hx.lt g hg).1, hxh g hg⟩)).mono ?_
  rintro e w' ⟨rfl, hb, ht⟩
  refine ⟨rfl, h.booked hb ht (fun g hg => ?_) hlo hhi hfree, ht⟩
  rcases hg with hg | hg
  · exact .inl hg
  · exact .inr ⟨(hx.lt g hg).1, hxh g hg⟩
end Go.Proofs.Ytpoilgeffpedoaa
