import Derived.Test.YtpoilgeffpedoaaJ
import Derived.Test.YtpoilgeffpedoaaK
namespace Go.Proofs.Ytpoilgeffpedoaa
open Go.RowKit Go.Pen
attribute [local go_sem ↓] Go.wp_at_zero Go.wp_at_succ

def sendCode (q : List Msg) (r : Nat) : Int := if q.length < r then 0 else 5
def sendQ (q : List Msg) (m : Msg) (r : Nat) : List Msg := if q.length < r then q ++ [m] else q
def zeroMsg : Msg := { node := 0, out := false, port := 0, epoch := 0, loops := [], ln := 0, rows := [], errs := [] }
def takeMsg (q : List Msg) : Msg := q.headD zeroMsg
def takeCode (q : List Msg) : Int := if q.isEmpty then 91 else 0

theorem zeroMsg_is (w : World) : MsgIs w 0 zeroMsg (.slice none 0 0) (.slice none 0 0) (.slice none 0 0) :=
  ⟨World.ownsRow_nil _ _ _ _, ⟨[], World.ownsRow_nil _ _ _ _, fun j u hu => by simp [zeroMsg] at hu⟩, ⟨[], World.ownsRow_nil _ _ _ _, fun j u hu => by simp [zeroMsg] at hu⟩⟩

theorem upd_self (σ : Nat → Nat → WaySt) (L k : Nat) : upd σ L k (σ L k) = σ := by
  funext L' k'
  unfold upd
  split
  · rename_i h; rw [h.1, h.2]
  · rfl

theorem send_uni (b B L n r i j : Nat) (D : Nat → Nat → Prop) (σ : Nat → Nat → WaySt) (w : World) (hb : BoxIs w B L n r) (hn : n ≤ 8) (hi : i < n) (hj : j < n) (hr : r ≤ 64) (hW : Ways b w D (fun _ => r) σ) (hD : D L (i * n + j))
    (m : Msg) (la : Option Addr) (lc : Nat) (ra : Option Addr) (rc : Nat) (ea : Option Addr) (ec : Nat)
    (hm : MsgIs w 0 m (.slice la m.ln lc) (.slice ra m.rows.length rc) (.slice ea m.errs.length ec)) (hok : m.ok) :
    Calls Try.prog 16 #[.pointer (some ⟨B, 0, none⟩), .int .i64 i, .int .i64 j, .agg #[.int .i64 m.node, .bool m.out, .int .i64 m.port, .int .u64 m.epoch, .slice la m.ln lc, .slice ra m.rows.length rc, .slice ea m.errs.length ec]] w fun e w' =>
      e = .returned (.int .u16 (sendCode (σ L (i * n + j)).q r)) ∧ ∃ s, s.q = sendQ (σ L (i * n + j)).q m r ∧ Ways b w' D (fun _ => r) (upd σ L (i * n + j) s) ∧ Turn w w' L (i * n + j) (σ L (i * n + j)).ring := by
  by_cases h : (σ L (i * n + j)).q.length < r
  · refine (send_yes b B L n r i j D σ w hb hn hi hj hr hW hD h m la lc ra rc ea ec hm hok).mono ?_
    rintro e w' ⟨rfl, s, hs, hW', ht⟩
    exact ⟨by rw [sendCode, if_pos h], s, by rw [sendQ, if_pos h]; exact hs, hW', ht⟩
  · have hl : (σ L (i * n + j)).q.length ≤ r := (hW.1 L _ hD).len
    refine (send_no b B L n r i j D σ w hb hn hi hj hW hD (by omega) _ _ _ _ _ _ _).mono ?_
    rintro e w' ⟨rfl, hb'⟩
    refine ⟨by rw [sendCode, if_neg h], σ L (i * n + j), by rw [sendQ, if_neg h], ?_, ?_⟩
    · rw [upd_self]; exact hW.below hb'
    · exact Turn.of_below hb' (lt_of_heap (hW.1 L _ hD).blk.choose_spec)

theorem take_uni (b B L n r i j : Nat) (D : Nat → Nat → Prop) (σ : Nat → Nat → WaySt) (w : World) (hb : BoxIs w B L n r) (hn : n ≤ 8) (hi : i < n) (hj : j < n) (hr : r ≤ 64) (hW : Ways b w D (fun _ => r) σ) (hD : D L (i * n + j)) :
    Calls Try.prog 9 #[.pointer (some ⟨B, 0, none⟩), .int .i64 i, .int .i64 j] w fun e w' => ∃ la lc ra rc ea ec, e = .returned (.tuple #[.agg #[.int .i64 (takeMsg (σ L (i * n + j)).q).node, .bool (takeMsg (σ L (i * n + j)).q).out, .int .i64 (takeMsg (σ L (i * n + j)).q).port, .int .u64 (takeMsg (σ L (i * n + j)).q).epoch, .slice la (takeMsg (σ L (i * n + j)).q).ln lc, .slice ra (takeMsg (σ L (i * n + j)).q).rows.length rc, .slice ea (takeMsg (σ L (i * n + j)).q).errs.length ec], .int .u16 (takeCode (σ L (i * n + j)).q)]) ∧
      MsgIs w' 0 (takeMsg (σ L (i * n + j)).q) (.slice la (takeMsg (σ L (i * n + j)).q).ln lc) (.slice ra (takeMsg (σ L (i * n + j)).q).rows.length rc) (.slice ea (takeMsg (σ L (i * n + j)).q).errs.length ec) ∧
      ∃ s, s.q = (σ L (i * n + j)).q.tail ∧ Ways b w' D (fun _ => r) (upd σ L (i * n + j) s) ∧ Turn w w' L (i * n + j) (σ L (i * n + j)).ring := by
  cases hq : (σ L (i * n + j)).q with
  | nil =>
    refine (take_none B L n r i j _ w hb hn hi hj (hW.1 L _ hD) hq).mono ?_
    rintro e w' ⟨rfl, hb'⟩
    refine ⟨none, 0, none, 0, none, 0, rfl, zeroMsg_is _, σ L (i * n + j), by rw [hq]; rfl, ?_, ?_⟩
    · rw [upd_self]; exact hW.below hb'
    · exact Turn.of_below hb' (lt_of_heap (hW.1 L _ hD).blk.choose_spec)
  | cons m q =>
    refine (take_yes b B L n r i j D σ w hb hn hi hj hr hW hD m q hq).mono ?_
    rintro e w' ⟨la, lc, ra, rc, ea, ec, rfl, hm, s, hs, hW', ht⟩
    exact ⟨la, lc, ra, rc, ea, ec, rfl, hm, s, hs, hW', ht⟩

/-- a message that reads as data -/
def Plain (m : Msg) : Prop := ∃ (loops : List Int) (rows errs : List Upd), m.loops = loops.map (Value.int .u32) ∧ m.ln = loops.length ∧ m.rows = rows.map Upd.raw ∧ m.errs = errs.map Upd.raw ∧
  loops.length ≤ 1073741824 ∧ rows.length ≤ 1073741824 ∧ errs.length ≤ 1073741824 ∧ (∀ u ∈ rows, u.fit) ∧ (∀ u ∈ errs, u.fit)

theorem plain_msgOf (n : Int) : Plain (msgOf n) := by
  refine ⟨[], [⟨[⟨3, false, n, ⟨#[]⟩⟩], 0, [], 1⟩], [], rfl, rfl, rfl, rfl, by simp, by simp, by simp, ?_, by simp⟩
  intro u hu
  simp only [List.mem_singleton] at hu
  subst hu
  exact ⟨by simp, by simp⟩
theorem plain_zero : Plain zeroMsg := ⟨[], [], [], rfl, rfl, rfl, rfl, by simp, by simp, by simp, by simp, by simp⟩

/-- two readings of one message are the same -/
theorem same_msg (m : Msg) (hp : Plain m) (la1 la2 ra1 ra2 ea1 ea2 : Option Addr) (lc1 lc2 rc1 rc2 ec1 ec2 : Nat) (w : World)
    (h1 : MsgIs w 0 m (.slice la1 m.ln lc1) (.slice ra1 m.rows.length rc1) (.slice ea1 m.errs.length ec1)) (h2 : MsgIs w 0 m (.slice la2 m.ln lc2) (.slice ra2 m.rows.length rc2) (.slice ea2 m.errs.length ec2)) :
    Calls Try.prog 13 #[.agg #[.int .i64 m.node, .bool m.out, .int .i64 m.port, .int .u64 m.epoch, .slice la1 m.ln lc1, .slice ra1 m.rows.length rc1, .slice ea1 m.errs.length ec1], .agg #[.int .i64 m.node, .bool m.out, .int .i64 m.port, .int .u64 m.epoch, .slice la2 m.ln lc2, .slice ra2 m.rows.length rc2, .slice ea2 m.errs.length ec2]] w fun e w' => e = .returned (.bool true) ∧ Below w.heap.size w w' := by
  obtain ⟨loops, rows, errs, e1, e2, e3, e4, k1, k2, k3, f1, f2⟩ := hp
  obtain ⟨nd, ot, pt, ep, lps, ln, rws, ers⟩ := m
  simp only at e1 e2 e3 e4
  subst e1 e2 e3 e4
  have a1 := h1.loops
  have a2 := h2.loops
  have b1 := upsAt_of_is h1.rows
  have b2 := upsAt_of_is h2.rows
  have c1 := upsAt_of_is h1.errs
  have c2 := upsAt_of_is h2.errs
  simp only [List.length_map] at a1 a2 b1 b2 c1 c2 ⊢
  exact same_yes nd ot pt ep loops rows errs la1 la2 ra1 ra2 ea1 ea2 lc1 lc2 rc1 rc2 ec1 ec2 w (wordsAt_of_owns a1) (wordsAt_of_owns a2) b1 b2 c1 c2 k1 k2 k3 f1 f2

/-- what holds at each round of MailApart -/
def ApRel (b B1 L1 B2 L2 r : Nat) (w : World) (wr : World) : Prop :=
  ∃ σ : Nat → Nat → WaySt, Ways b wr (fun L k => (L = L1 ∨ L = L2) ∧ k < 9) (fun _ => r) σ ∧ BoxIs wr B1 L1 3 r ∧ BoxIs wr B2 L2 3 r ∧ (∀ L k m, (L = L1 ∨ L = L2) → k < 9 → m ∈ (σ L k).q → Plain m) ∧ (σ L1 5).q = (σ L2 5).q ∧ Below b w wr

theorem ApRel.below {b B1 L1 B2 L2 r : Nat} {w wr w' : World} (h : ApRel b B1 L1 B2 L2 r w wr) (hb : Below wr.heap.size wr w') (hbs : b ≤ wr.heap.size) : ApRel b B1 L1 B2 L2 r w w' := by
  obtain ⟨σ, h1, h2, h3, h4, h5, h6⟩ := h
  exact ⟨σ, h1.below hb, (hb.block B1 (lt_of_heap h2)).trans h2, (hb.block B2 (lt_of_heap h3)).trans h3, h4, h5, h6.trans (hb.mono hbs)⟩

theorem plain_sendQ {q : List Msg} {m : Msg} {r : Nat} (h : ∀ x ∈ q, Plain x) (hm : Plain m) : ∀ x ∈ sendQ q m r, Plain x := by
  intro x hx
  unfold sendQ at hx
  split at hx
  · rcases List.mem_append.1 hx with hx | hx
    · exact h x hx
    · simp at hx; subst hx; exact hm
  · exact h x hx
theorem plain_takeMsg {q : List Msg} (h : ∀ x ∈ q, Plain x) : Plain (takeMsg q) := by
  cases q with
  | nil => exact plain_zero
  | cons m q => exact h m (by simp)

theorem Ways.msg {b : Nat} {w w' : World} {D : Nat → Nat → Prop} {r : Nat → Nat} {σ : Nat → Nat → WaySt} (h : Ways b w D r σ) {L k : Nat} (hD : D L k) (ht : Turn w w' L k (σ L k).ring) {m : Msg} {lv rv ev : Value} (hm : MsgIs w 0 m lv rv ev) : MsgIs w' 0 m lv rv ev :=
  hm.frame fun g cur t hg htt => by
    rw [h.keep hD ht hg (by rcases htt with rfl | rfl | rfl <;> decide) (by rcases htt with rfl | rfl | rfl <;> decide), hg]

theorem len_any (B L n r i j : Nat) (s : WaySt) (w : World) (hb : BoxIs w B L n r) (hn : n ≤ 8) (hi : i < n) (hj : j < n) (hw : WayIs w L (i * n + j) r s) :
    Calls Try.prog 24 #[.pointer (some ⟨B, 0, none⟩), .int .i64 i, .int .i64 j] w fun e w' => e = .returned (.int .i64 s.q.length) ∧ Below w.heap.size w w' :=
  (len_in B L n r i j s w hb hn hi hj hw).mono fun _ _ ⟨he, m, hm⟩ => ⟨he, by rw [hm]; exact drew_below _ _⟩

set_option maxRecDepth 100000 in
set_option maxHeartbeats 4000000 in
theorem apart_walk (c : Int) (hc : 0 ≤ c ∧ c ≤ 255) (sa : Option Addr) (bl off len cap : Nat) (zs : List Int) (hz : zs.length = len) (w : World) (hlen : len ≤ 400) (hsa : 0 < len → sa = some ⟨bl, off, none⟩ ∧ bl < w.heap.size)
    (hcell : ∀ i x, zs[i]? = some x → w.cell? ⟨bl, off + i, none⟩ = some (.int .u16 x) ∧ 0 ≤ x ∧ x ≤ 65535) :
    Calls Try.prog 5 #[.int .u8 c, .slice sa len cap] w fun e w' => e = .returned (.bool true) ∧ Below w.heap.size w w' := by
  obtain ⟨r, hr⟩ : ∃ r : Nat, c % 4 + 1 = (r : Int) := ⟨(c % 4 + 1).toNat, by omega⟩
  have r1 : 1 ≤ r := by omega
  have r5 : r ≤ 4 := by omega
  have HC := Lib.hid hcell
  have HSA := Lib.hid hsa
  have HZ := Lib.hid hz
  clear hcell hz hsa
  have hd5 : decide (400 < (len : Int)) = false := by simp; omega
  go_enter Try.func5, Try.ntmps5
  go_wp2_with fail
  refine (known_any _).mono ?_
  rintro e w1 ⟨rfl, hb1⟩
  have HB1 := Lib.hid hb1
  clear hb1
  go_wp2_with fail
  refine (new_box w.heap.size 3 r (fun _ _ => False) (fun _ _ => ⟨none, 0, []⟩) w1 (by omega) (by omega) r1 (by omega) HB1.out.size (ways_none _ _ _ _)).mono ?_
  rintro e w2 ⟨rfl, hBx2, hW2, hb2⟩
  obtain ⟨b, hb⟩ : ∃ b, b = w.heap.size := ⟨_, rfl⟩
  obtain ⟨L1, hL1⟩ : ∃ L1, L1 = w1.heap.size := ⟨_, rfl⟩
  obtain ⟨B1, hB1⟩ : ∃ B1, B1 = L1 + 1 := ⟨_, rfl⟩
  rw [← hb, ← hL1] at hW2
  rw [← hL1, ← hB1] at hBx2
  rw [← hL1, ← hB1]
  have Hb2 : Hid (Below b w w2) := show Below b w w2 by rw [hb]; exact HB1.out.trans (hb2.mono HB1.out.size)
  have HBx2 := Lib.hid hBx2
  have HW2 := Lib.hid hW2
  have Hbw := Lib.hid hb
  clear hb2 hBx2 hW2 hL1 hB1 hb
  go_wp2_with fail
  have hbs2 : b ≤ w2.heap.size := by have := Hb2.out.size; have := Hbw.out; omega
  refine (new_box b 3 r _ _ w2 (by omega) (by omega) r1 (by omega) hbs2 HW2.out).mono ?_
  rintro e w3 ⟨rfl, hBx3, hW3, hb3⟩
  have hL12 : L1 < w2.heap.size := lt_of_heap (HW2.out.1 L1 0 (.inr ⟨rfl, by omega⟩)).blk.choose_spec
  obtain ⟨L2, hL2⟩ : ∃ L2, L2 = w2.heap.size := ⟨_, rfl⟩
  obtain ⟨B2, hB2⟩ : ∃ B2, B2 = L2 + 1 := ⟨_, rfl⟩
  rw [← hL2] at hW3 hL12
  rw [← hL2, ← hB2] at hBx3
  rw [← hL2, ← hB2]
  have hst : ApRel b B1 L1 B2 L2 r w w3 := by
    refine ⟨_, hW3.sub (fun L k h => ?_), (hb3.block B1 (lt_of_heap HBx2.out)).trans HBx2.out, hBx3, ?_, ?_, Hb2.out.trans (hb3.mono hbs2)⟩
    · obtain ⟨h1 | h1, hk⟩ := h
      · exact .inl (.inr ⟨h1, hk⟩)
      · exact .inr ⟨h1, hk⟩
    · intro L k m hL hk hm
      simp at hm
    · simp
  have hne12 : L1 ≠ L2 := by omega
  have HST := Lib.hid hst
  clear hst hBx3 hW3 hb3 hL2 hB2 hL12
  go_wp2_with fail
  go_loopw [10] (fun i wr => ∃ t : Nat, t ≤ len ∧ i = .int .i64 t ∧ ApRel b B1 L1 B2 L2 r w wr) (fun i _ => len - (intOf i).toNat)
  case atStart => exact ⟨0, Nat.zero_le _, rfl, HST.out⟩
  case round =>
    obtain ⟨t, ht, rfl, hrel⟩ := hrel
    by_cases hlt : t < len
    · obtain ⟨hsae, hbl⟩ := HSA.out (by omega)
      subst hsae
      clear HSA
      obtain ⟨x, hx⟩ : ∃ x, zs[t]? = some x := ⟨zs[t]'(by rw [HZ.out]; exact hlt), List.getElem?_eq_getElem _⟩
      obtain ⟨hxc, hx0, hx1⟩ := HC.out t x hx
      obtain ⟨σ, hW, hBa, hBb, hpl, h55, hbw⟩ := hrel
      have hblb : bl < b := by rw [Hbw.out]; exact hbl
      have hxw := (hbw.cell (p := ⟨bl, off + t, none⟩) hblb).trans hxc
      obtain ⟨f, hf⟩ : ∃ f : Nat, x / 2 % 3 = (f : Int) := ⟨(x / 2 % 3).toNat, by omega⟩
      obtain ⟨g, hg⟩ : ∃ g : Nat, x / 8 % 3 = (g : Int) := ⟨(x / 8 % 3).toNat, by omega⟩
      have hfn : f < 3 := by omega
      have hgn : g < 3 := by omega
      have hkN : f * 3 + g < 9 := by omega
      have hbsr : b ≤ wr.heap.size := by have := hbw.size; have := Hbw.out; omega
      have HW := Lib.hid hW
      have HBA := Lib.hid hBa
      have HBB := Lib.hid hBb
      have HPL := Lib.hid hpl
      have H55 := Lib.hid h55
      have HBW := Lib.hid hbw
      clear hW hBa hBb hpl h55 hbw hx hxc
      by_cases hp : x % 2 = 0
      · have hpb : (x % 2 == 0) = true := by simp [hp]
        clear hp
        by_cases hmine : f = 1 ∧ g = 2
        · obtain ⟨rfl, rfl⟩ := hmine
          go_wp2_with fail
          refine (message_any (t : Int) _).mono ?_
          rintro e w5 ⟨rfl, hm5, hb5⟩
          have HM5 := Lib.hid hm5
          have HB5 := Lib.hid hb5
          clear hm5 hb5 hxw
          go_wp2_with fail
          obtain ⟨mb, emb⟩ : ∃ mb, mb = w5.heap.size := ⟨_, rfl⟩
          obtain ⟨w6, hw6⟩ : ∃ w6, w6 = w5.alloc (.cells #[.int .i64 0, .bool false, .int .i64 0, .int .u64 0, .slice none 0 0, .slice (some ⟨wr.heap.size + 2, 0, none⟩) 1 1, .slice none 0 0] 31) := ⟨_, rfl⟩
          have hb56 : Below w5.heap.size w5 w6 := by rw [hw6]; exact (Below.refl _ _).alloc (Nat.le_refl _) _
          have hmb : w6.heap[mb]? = some (.cells #[.int .i64 0, .bool false, .int .i64 0, .int .u64 0, .slice none 0 0, .slice (some ⟨wr.heap.size + 2, 0, none⟩) 1 1, .slice none 0 0] 31 (0, 0)) := by rw [hw6, emb]; exact heap_alloc_new _ _
          rw [← hw6]
          have hs5 : wr.heap.size ≤ w5.heap.size := HB5.out.size
          have HB6 : Hid (Below wr.heap.size wr w6) := HB5.out.trans (hb56.mono hs5)
          have HM6 := Lib.hid (HM5.out.below hb56)
          have HW6 := Lib.hid (HW.out.below HB6.out)
          have HA6 : Hid (BoxIs w6 B1 L1 3 r) := show _ = _ from (HB6.out.block B1 (lt_of_heap HBA.out)).trans HBA.out
          have HBB6 : Hid (BoxIs w6 B2 L2 3 r) := show _ = _ from (HB6.out.block B2 (lt_of_heap HBB.out)).trans HBB.out
          have HL6 : Hid (Below b w w6) := HBW.out.trans (HB6.out.mono hbsr)
          have HMB := Lib.hid hmb
          have HSM : Hid (wr.heap.size ≤ mb) := show wr.heap.size ≤ mb by omega
          rw [← emb]
          clear hb56 hmb hw6 hs5 emb
          refine (send_uni b B1 L1 3 r 1 2 _ σ w6 HA6.out (by omega) hfn hgn (by omega) HW6.out ⟨.inl rfl, hkN⟩ (msgOf (t : Int)) _ _ _ _ _ _ HM6.out (msgOf_ok _)).mono ?_
          rintro e w7 ⟨he, s7, hs7, hW7, ht7⟩
          obtain ⟨cd, ecd⟩ : ∃ cd, cd = sendCode (σ L1 5).q r := ⟨_, rfl⟩
          rw [← ecd] at he
          subst he
          have HA7 : Hid (BoxIs w7 B1 L1 3 r) := HW6.out.keep ⟨.inl rfl, hkN⟩ ht7 HA6.out (by decide) (by decide)
          have HBB7 : Hid (BoxIs w7 B2 L2 3 r) := HW6.out.keep ⟨.inl rfl, hkN⟩ ht7 HBB6.out (by decide) (by decide)
          have HL7 : Hid (Below b w w7) := HL6.out.trans (HW6.out.turn_below ⟨.inl rfl, hkN⟩ ht7)
          have HM7 := Lib.hid (HW6.out.msg ⟨.inl rfl, by omega⟩ ht7 HM6.out)
          have k7 : w7.heap[mb]? = _ := (ht7.block mb (lt_of_heap HMB.out) (fun e => by
              have h1 := lt_of_heap (HW.out.1 L1 5 ⟨.inl rfl, by omega⟩).blk.choose_spec
              have h2 := HSM.out
              omega) (fun e => by
              obtain ⟨_, h1, _⟩ := (HW.out.1 L1 5 ⟨.inl rfl, by omega⟩).ring mb e
              have h2 := HSM.out
              have h3 := lt_of_heap h1
              omega)).trans HMB.out
          have m0 := cell_of_heap (o := 0) k7 rfl
          have m1 := cell_of_heap (o := 1) k7 rfl
          have m2 := cell_of_heap (o := 2) k7 rfl
          have m3 := cell_of_heap (o := 3) k7 rfl
          have m4 := cell_of_heap (o := 4) k7 rfl
          have m5 := cell_of_heap (o := 5) k7 rfl
          have m6 := cell_of_heap (o := 6) k7 rfl
          have HW7 := Lib.hid hW7
          have HS7 := Lib.hid hs7
          have ECD := Lib.hid ecd
          clear hW7 hs7 ht7 k7 ecd
          go_wp2_with fail
          refine (send_uni b B2 L2 3 r 1 2 _ (upd σ L1 5 s7) w7 HBB7.out (by omega) (by omega) (by omega) (by omega) HW7.out ⟨.inr rfl, by omega⟩ (msgOf (t : Int)) none 0 (some ⟨wr.heap.size + 2, 0, none⟩) 1 none 0 HM7.out (msgOf_ok _)).mono ?_
          rintro e wz ⟨he, s8, hs8, hW8, ht8⟩
          rw [show 1 * 3 + 2 = 5 from rfl, upd_ne (by omega)] at he hs8
          rw [← H55.out] at he hs8
          rw [← ECD.out] at he
          subst he
          have hcc : (cd != cd) = false := by simp
          have HZA : Hid (BoxIs wz B1 L1 3 r) := HW7.out.keep ⟨.inr rfl, by omega⟩ ht8 HA7.out (by decide) (by decide)
          have HZB : Hid (BoxIs wz B2 L2 3 r) := HW7.out.keep ⟨.inr rfl, by omega⟩ ht8 HBB7.out (by decide) (by decide)
          have HZL : Hid (Below b w wz) := HL7.out.trans (HW7.out.turn_below ⟨.inr rfl, by omega⟩ ht8)
          obtain ⟨σz, hσz⟩ : ∃ σz, σz = upd (upd σ L1 5 s7) L2 (1 * 3 + 2) s8 := ⟨_, rfl⟩
          rw [← hσz] at hW8
          have HZW := Lib.hid hW8
          have HZP : Hid (∀ L k m, (L = L1 ∨ L = L2) → k < 9 → m ∈ (σz L k).q → Plain m) := fun L k m hL hk hm => by
            rw [hσz, show 1 * 3 + 2 = 5 from rfl] at hm
            by_cases he2 : L = L2 ∧ k = 5
            · obtain ⟨rfl, rfl⟩ := he2
              rw [upd_same, hs8] at hm
              exact plain_sendQ (fun x hx => HPL.out L1 5 x (.inl rfl) (by omega) hx) (plain_msgOf _) m hm
            · rw [upd_ne he2] at hm
              by_cases he : L = L1 ∧ k = 5
              · obtain ⟨rfl, rfl⟩ := he
                rw [upd_same, HS7.out] at hm
                exact plain_sendQ (fun x hx => HPL.out _ _ x (.inl rfl) hk hx) (plain_msgOf _) m hm
              · rw [upd_ne he] at hm; exact HPL.out L k m hL hk hm
          have HZ5 : Hid ((σz L1 5).q = (σz L2 5).q) := show _ = _ by
            rw [hσz, show 1 * 3 + 2 = 5 from rfl, upd_ne (by omega), upd_same, upd_same, hs8, HS7.out]
          clear hs8 hW8 ht8 hσz m0 m1 m2 m3 m4 m5 m6 HA7 HBB7 HL7
          go_wp2_with fail
          refine (len_any B1 L1 3 r 1 2 (σz L1 5) wz HZA.out (by omega) (by omega) (by omega) (HZW.out.1 L1 5 ⟨.inl rfl, by omega⟩)).mono ?_
          rintro e wy ⟨rfl, hby⟩
          have HYB : Hid (BoxIs wy B2 L2 3 r) := show _ = _ from (hby.block B2 (lt_of_heap HZB.out)).trans HZB.out
          have HYW := Lib.hid (HZW.out.below hby)
          have HBY := Lib.hid hby
          clear hby
          go_wp2_with fail
          refine (len_any B2 L2 3 r 1 2 (σz L2 5) wy HYB.out (by omega) (by omega) (by omega) (HYW.out.1 L2 5 ⟨.inr rfl, by omega⟩)).mono ?_
          rintro e wx ⟨rfl, hbx⟩
          have hleq : (((σz L1 5).q.length : Int) != ((σz L2 5).q.length : Int)) = false := by rw [HZ5.out]; simp
          have HRX : Hid (ApRel b B1 L1 B2 L2 r w wx) := by
            have hz0 : ApRel b B1 L1 B2 L2 r w wz := ⟨σz, HZW.out, HZA.out, HZB.out, HZP.out, HZ5.out, HZL.out⟩
            have hzs : b ≤ wz.heap.size := by have := HZL.out.size; have := Hbw.out; omega
            exact (hz0.below HBY.out hzs).below hbx (by have := HBY.out.size; omega)
          clear hbx
          go_wp2_with fail
          go_roundw
          case rel => exact ⟨t + 1, hlt, by go_num, HRX.out⟩
          case measure => simp [intOf]; omega
        · have hcases : (((f : Int) == 1) = true ∧ ((g : Int) == 2) = false) ∨ ((f : Int) == 1) = false := by
            by_cases h2 : f = 1
            · exact .inl ⟨by simp [h2], beq_eq_false_iff_ne.2 (by omega)⟩
            · exact .inr (beq_eq_false_iff_ne.2 (by omega))
          have hk5 : f * 3 + g ≠ 5 := by omega
          clear hmine
          rcases hcases with ⟨hq1, hq2⟩ | hq1
          all_goals
            go_wp2_with fail
            refine (message_any (t : Int) _).mono ?_
            rintro e w5 ⟨rfl, hm5, hb5⟩
            have HM5 := Lib.hid hm5
            have HB5 := Lib.hid hb5
            clear hm5 hb5 hxw
            go_wp2_with fail
            obtain ⟨mb, emb⟩ : ∃ mb, mb = w5.heap.size := ⟨_, rfl⟩
            obtain ⟨w6, hw6⟩ : ∃ w6, w6 = w5.alloc (.cells #[.int .i64 0, .bool false, .int .i64 0, .int .u64 0, .slice none 0 0, .slice (some ⟨wr.heap.size + 2, 0, none⟩) 1 1, .slice none 0 0] 31) := ⟨_, rfl⟩
            have hb56 : Below w5.heap.size w5 w6 := by rw [hw6]; exact (Below.refl _ _).alloc (Nat.le_refl _) _
            have hmb : w6.heap[mb]? = some (.cells #[.int .i64 0, .bool false, .int .i64 0, .int .u64 0, .slice none 0 0, .slice (some ⟨wr.heap.size + 2, 0, none⟩) 1 1, .slice none 0 0] 31 (0, 0)) := by rw [hw6, emb]; exact heap_alloc_new _ _
            rw [← hw6]
            have hs5 : wr.heap.size ≤ w5.heap.size := HB5.out.size
            have HB6 : Hid (Below wr.heap.size wr w6) := HB5.out.trans (hb56.mono hs5)
            have HM6 := Lib.hid (HM5.out.below hb56)
            have HW6 := Lib.hid (HW.out.below HB6.out)
            have HA6 : Hid (BoxIs w6 B1 L1 3 r) := show _ = _ from (HB6.out.block B1 (lt_of_heap HBA.out)).trans HBA.out
            have HBB6 : Hid (BoxIs w6 B2 L2 3 r) := show _ = _ from (HB6.out.block B2 (lt_of_heap HBB.out)).trans HBB.out
            have HL6 : Hid (Below b w w6) := HBW.out.trans (HB6.out.mono hbsr)
            have HMB := Lib.hid hmb
            have HSM : Hid (wr.heap.size ≤ mb) := show wr.heap.size ≤ mb by omega
            rw [← emb]
            clear hb56 hmb hw6 hs5 emb
            refine (send_uni b B1 L1 3 r f g _ σ w6 HA6.out (by omega) hfn hgn (by omega) HW6.out ⟨.inl rfl, hkN⟩ (msgOf (t : Int)) _ _ _ _ _ _ HM6.out (msgOf_ok _)).mono ?_
            rintro e w7 ⟨he, s7, hs7, hW7, ht7⟩
            obtain ⟨cd, ecd⟩ : ∃ cd, cd = sendCode (σ L1 (f * 3 + g)).q r := ⟨_, rfl⟩
            rw [← ecd] at he
            subst he
            have HA7 : Hid (BoxIs w7 B1 L1 3 r) := HW6.out.keep ⟨.inl rfl, hkN⟩ ht7 HA6.out (by decide) (by decide)
            have HBB7 : Hid (BoxIs w7 B2 L2 3 r) := HW6.out.keep ⟨.inl rfl, hkN⟩ ht7 HBB6.out (by decide) (by decide)
            have HL7 : Hid (Below b w w7) := HL6.out.trans (HW6.out.turn_below ⟨.inl rfl, hkN⟩ ht7)
            obtain ⟨σz, hσz⟩ : ∃ σz, σz = upd σ L1 (f * 3 + g) s7 := ⟨_, rfl⟩
            rw [← hσz] at hW7
            have HZW := Lib.hid hW7
            have HZP : Hid (∀ L k m, (L = L1 ∨ L = L2) → k < 9 → m ∈ (σz L k).q → Plain m) := fun L k m hL hk hm => by
              rw [hσz] at hm
              by_cases he : L = L1 ∧ k = f * 3 + g
              · obtain ⟨rfl, rfl⟩ := he
                rw [upd_same, hs7] at hm
                exact plain_sendQ (fun x hx => HPL.out _ _ x (.inl rfl) hk hx) (plain_msgOf _) m hm
              · rw [upd_ne he] at hm; exact HPL.out L k m hL hk hm
            have HZ5 : Hid ((σz L1 5).q = (σz L2 5).q) := show _ = _ by rw [hσz, upd_ne (by omega), upd_ne (by omega)]; exact H55.out
            obtain ⟨wz, ewz⟩ : ∃ wz, wz = w7 := ⟨_, rfl⟩
            subst ewz
            have HZA := HA7
            have HZB := HBB7
            have HZL := HL7
            clear hs7 hW7 ht7 hσz ecd HA7 HBB7 HL7
            go_wp2_with fail
            refine (len_any B1 L1 3 r 1 2 (σz L1 5) wz HZA.out (by omega) (by omega) (by omega) (HZW.out.1 L1 5 ⟨.inl rfl, by omega⟩)).mono ?_
            rintro e wy ⟨rfl, hby⟩
            have HYB : Hid (BoxIs wy B2 L2 3 r) := show _ = _ from (hby.block B2 (lt_of_heap HZB.out)).trans HZB.out
            have HYW := Lib.hid (HZW.out.below hby)
            have HBY := Lib.hid hby
            clear hby
            go_wp2_with fail
            refine (len_any B2 L2 3 r 1 2 (σz L2 5) wy HYB.out (by omega) (by omega) (by omega) (HYW.out.1 L2 5 ⟨.inr rfl, by omega⟩)).mono ?_
            rintro e wx ⟨rfl, hbx⟩
            have hleq : (((σz L1 5).q.length : Int) != ((σz L2 5).q.length : Int)) = false := by rw [HZ5.out]; simp
            have HRX : Hid (ApRel b B1 L1 B2 L2 r w wx) := by
              have hz0 : ApRel b B1 L1 B2 L2 r w wz := ⟨σz, HZW.out, HZA.out, HZB.out, HZP.out, HZ5.out, HZL.out⟩
              have hzs : b ≤ wz.heap.size := by have := HZL.out.size; have := Hbw.out; omega
              exact (hz0.below HBY.out hzs).below hbx (by have := HBY.out.size; omega)
            clear hbx
            go_wp2_with fail
            go_roundw
            case rel => exact ⟨t + 1, hlt, by go_num, HRX.out⟩
            case measure => simp [intOf]; omega
      · have hpb : (x % 2 == 0) = false := by simp [hp]
        clear hp
        by_cases hmine : f = 1 ∧ g = 2
        · obtain ⟨rfl, rfl⟩ := hmine
          go_wp2_with fail
          refine (take_uni b B1 L1 3 r 1 2 _ σ wr HBA.out (by omega) hfn hgn (by omega) HW.out ⟨.inl rfl, hkN⟩).mono ?_
          rintro e w7 ⟨la, lc, ra, rc, ea, ec, he, hm7, s7, hs7, hW7, ht7⟩
          obtain ⟨cd, ecd⟩ : ∃ cd, cd = takeCode (σ L1 5).q := ⟨_, rfl⟩
          obtain ⟨m, em⟩ : ∃ m, m = takeMsg (σ L1 5).q := ⟨_, rfl⟩
          rw [← ecd, ← em] at he
          rw [← em] at hm7
          subst he
          have HM7 := Lib.hid hm7
          have HA7 : Hid (BoxIs w7 B1 L1 3 r) := HW.out.keep ⟨.inl rfl, hkN⟩ ht7 HBA.out (by decide) (by decide)
          have HBB7 : Hid (BoxIs w7 B2 L2 3 r) := HW.out.keep ⟨.inl rfl, hkN⟩ ht7 HBB.out (by decide) (by decide)
          have HL7 : Hid (Below b w w7) := HBW.out.trans (HW.out.turn_below ⟨.inl rfl, hkN⟩ ht7)
          have HW7 := Lib.hid hW7
          have HS7 := Lib.hid hs7
          have ECD := Lib.hid ecd
          have EM := Lib.hid em
          clear hm7 hs7 hW7 ht7 ecd em hxw
          go_wp2_with fail
          obtain ⟨mb, emb⟩ : ∃ mb, mb = w7.heap.size := ⟨_, rfl⟩
          obtain ⟨w8, hw8⟩ : ∃ w8, w8 = w7.alloc (.cells #[.int .i64 m.node, .bool m.out, .int .i64 m.port, .int .u64 m.epoch, .slice la m.ln lc, .slice ra m.rows.length rc, .slice ea m.errs.length ec] 31) := ⟨_, rfl⟩
          have hb78 : Below w7.heap.size w7 w8 := by rw [hw8]; exact (Below.refl _ _).alloc (Nat.le_refl _) _
          have hmb : w8.heap[mb]? = some (.cells #[.int .i64 m.node, .bool m.out, .int .i64 m.port, .int .u64 m.epoch, .slice la m.ln lc, .slice ra m.rows.length rc, .slice ea m.errs.length ec] 31 (0, 0)) := by rw [hw8, emb]; exact heap_alloc_new _ _
          have hmw : ∀ g, (upd σ L1 5 s7 L2 5).ring = some g → g ≠ mb := fun g hg => by
            obtain ⟨_, h1, _⟩ := (HW7.out.1 L2 5 ⟨.inr rfl, by omega⟩).ring g hg
            have := lt_of_heap h1; omega
          have hmL : mb ≠ L2 := by have := lt_of_heap (HW7.out.1 L2 5 ⟨.inr rfl, by omega⟩).blk.choose_spec; omega
          rw [← hw8, ← emb]
          have hbs7 : b ≤ w7.heap.size := by have := HL7.out.size; have := Hbw.out; omega
          have HM8 := Lib.hid (HM7.out.below hb78)
          have HW8 := Lib.hid (HW7.out.below hb78)
          have HA8 : Hid (BoxIs w8 B1 L1 3 r) := show _ = _ from (hb78.block B1 (lt_of_heap HA7.out)).trans HA7.out
          have HBB8 : Hid (BoxIs w8 B2 L2 3 r) := show _ = _ from (hb78.block B2 (lt_of_heap HBB7.out)).trans HBB7.out
          have HL8 : Hid (Below b w w8) := HL7.out.trans (hb78.mono hbs7)
          have HMB := Lib.hid hmb
          clear hw8 hb78 hmb emb
          refine (take_uni b B2 L2 3 r 1 2 _ (upd σ L1 5 s7) w8 HBB8.out (by omega) (by omega) (by omega) (by omega) HW8.out ⟨.inr rfl, by omega⟩).mono ?_
          rintro e w9 ⟨la', lc', ra', rc', ea', ec', he, hm9, s9, hs9, hW9, ht9⟩
          rw [show 1 * 3 + 2 = 5 from rfl] at he hm9 hs9 hW9 ht9
          rw [upd_ne (L' := L2) (by omega), ← H55.out, ← ECD.out, ← EM.out] at he
          rw [upd_ne (L' := L2) (by omega), ← H55.out, ← EM.out] at hm9
          rw [upd_ne (L' := L2) (by omega), ← H55.out] at hs9
          subst he
          have HA9 : Hid (BoxIs w9 B1 L1 3 r) := HW8.out.keep ⟨.inr rfl, by omega⟩ ht9 HA8.out (by decide) (by decide)
          have HBB9 : Hid (BoxIs w9 B2 L2 3 r) := HW8.out.keep ⟨.inr rfl, by omega⟩ ht9 HBB8.out (by decide) (by decide)
          have HL9 : Hid (Below b w w9) := HL8.out.trans (HW8.out.turn_below ⟨.inr rfl, by omega⟩ ht9)
          have HM9 := Lib.hid hm9
          have HM89 := Lib.hid (HW8.out.msg ⟨.inr rfl, by omega⟩ ht9 HM8.out)
          have k9 : w9.heap[mb]? = some (.cells #[.int .i64 m.node, .bool m.out, .int .i64 m.port, .int .u64 m.epoch, .slice la m.ln lc, .slice ra m.rows.length rc, .slice ea m.errs.length ec] 31 (0, 0)) := (ht9.block mb (lt_of_heap HMB.out) hmL (fun e => hmw mb e rfl)).trans HMB.out
          have HK9 := Lib.hid k9
          have HW9 := Lib.hid hW9
          have HS9 := Lib.hid hs9
          have n0 := cell_of_heap (o := 0) k9 rfl
          have n1 := cell_of_heap (o := 1) k9 rfl
          have n2 := cell_of_heap (o := 2) k9 rfl
          have n3 := cell_of_heap (o := 3) k9 rfl
          have n4 := cell_of_heap (o := 4) k9 rfl
          have n5 := cell_of_heap (o := 5) k9 rfl
          have n6 := cell_of_heap (o := 6) k9 rfl
          have hmbs : mb < w9.heap.size := lt_of_heap k9
          have hcc : (cd != cd) = false := by simp
          clear hm9 k9 hW9 hs9 ht9 hmw hmL
          go_wp2_with fail
          obtain ⟨wa, hwa⟩ : ∃ wa, wa = w9.alloc (.cells #[.int .i64 m.node, .bool m.out, .int .i64 m.port, .int .u64 m.epoch, .slice la' m.ln lc', .slice ra' m.rows.length rc', .slice ea' m.errs.length ec'] 31) := ⟨_, rfl⟩
          have hb9a : Below w9.heap.size w9 wa := by rw [hwa]; exact (Below.refl _ _).alloc (Nat.le_refl _) _
          rw [← hwa]
          have hbs9 : b ≤ w9.heap.size := by have := HL9.out.size; have := Hbw.out; omega
          have hplm : Plain m := by rw [EM.out]; exact plain_takeMsg (fun x hx => HPL.out L1 5 x (.inl rfl) (by omega) hx)
          have HPM := Lib.hid hplm
          have HB9a := Lib.hid hb9a
          clear hwa hb9a hplm n0 n1 n2 n3 n4 n5 n6
          refine (same_msg m HPM.out la la' ra ra' ea ea' lc lc' rc rc' ec ec' _ (HM89.out.below HB9a.out) (HM9.out.below HB9a.out)).mono ?_
          rintro e wz ⟨rfl, hbz⟩
          have HB9z : Hid (Below w9.heap.size w9 wz) := HB9a.out.trans (hbz.mono HB9a.out.size)
          obtain ⟨σz, hσz⟩ : ∃ σz, σz = upd (upd σ L1 5 s7) L2 5 s9 := ⟨_, rfl⟩
          have HZW : Hid (Ways b wz (fun L k => (L = L1 ∨ L = L2) ∧ k < 9) (fun _ => r) σz) := show Ways _ _ _ _ _ by rw [hσz]; exact HW9.out.below HB9z.out
          have HZA : Hid (BoxIs wz B1 L1 3 r) := show _ = _ from (HB9z.out.block B1 (lt_of_heap HA9.out)).trans HA9.out
          have HZB : Hid (BoxIs wz B2 L2 3 r) := show _ = _ from (HB9z.out.block B2 (lt_of_heap HBB9.out)).trans HBB9.out
          have HZL : Hid (Below b w wz) := HL9.out.trans (HB9z.out.mono hbs9)
          have HZP : Hid (∀ L k m, (L = L1 ∨ L = L2) → k < 9 → m ∈ (σz L k).q → Plain m) := fun L k m hL hk hm => by
            rw [hσz] at hm
            by_cases he2 : L = L2 ∧ k = 5
            · obtain ⟨rfl, rfl⟩ := he2
              rw [upd_same, HS9.out] at hm
              exact HPL.out L1 5 m (.inl rfl) (by omega) (List.mem_of_mem_tail hm)
            · rw [upd_ne he2] at hm
              by_cases he : L = L1 ∧ k = 5
              · obtain ⟨rfl, rfl⟩ := he
                rw [upd_same, HS7.out] at hm
                exact HPL.out _ _ m (.inl rfl) hk (List.mem_of_mem_tail hm)
              · rw [upd_ne he] at hm; exact HPL.out L k m hL hk hm
          have HZ5 : Hid ((σz L1 5).q = (σz L2 5).q) := show _ = _ by
            rw [hσz, upd_ne (L' := L1) (by omega), upd_same, upd_same, HS9.out, HS7.out]
          clear hbz hσz
          go_wp2_with fail
          refine (len_any B1 L1 3 r 1 2 (σz L1 5) wz HZA.out (by omega) (by omega) (by omega) (HZW.out.1 L1 5 ⟨.inl rfl, by omega⟩)).mono ?_
          rintro e wy ⟨rfl, hby⟩
          have HYB : Hid (BoxIs wy B2 L2 3 r) := show _ = _ from (hby.block B2 (lt_of_heap HZB.out)).trans HZB.out
          have HYW := Lib.hid (HZW.out.below hby)
          have HBY := Lib.hid hby
          clear hby
          go_wp2_with fail
          refine (len_any B2 L2 3 r 1 2 (σz L2 5) wy HYB.out (by omega) (by omega) (by omega) (HYW.out.1 L2 5 ⟨.inr rfl, by omega⟩)).mono ?_
          rintro e wx ⟨rfl, hbx⟩
          have hleq : (((σz L1 5).q.length : Int) != ((σz L2 5).q.length : Int)) = false := by rw [HZ5.out]; simp
          have HRX : Hid (ApRel b B1 L1 B2 L2 r w wx) := by
            have hz0 : ApRel b B1 L1 B2 L2 r w wz := ⟨σz, HZW.out, HZA.out, HZB.out, HZP.out, HZ5.out, HZL.out⟩
            have hzs : b ≤ wz.heap.size := by have := HZL.out.size; have := Hbw.out; omega
            exact (hz0.below HBY.out hzs).below hbx (by have := HBY.out.size; omega)
          clear hbx
          go_wp2_with fail
          go_roundw
          case rel => exact ⟨t + 1, hlt, by go_num, HRX.out⟩
          case measure => simp [intOf]; omega
        · have hcases : (((f : Int) == 1) = true ∧ ((g : Int) == 2) = false) ∨ ((f : Int) == 1) = false := by
            by_cases h2 : f = 1
            · exact .inl ⟨by simp [h2], beq_eq_false_iff_ne.2 (by omega)⟩
            · exact .inr (beq_eq_false_iff_ne.2 (by omega))
          have hk5 : f * 3 + g ≠ 5 := by omega
          clear hmine
          rcases hcases with ⟨hq1, hq2⟩ | hq1
          all_goals
            go_wp2_with fail
            refine (take_uni b B1 L1 3 r f g _ σ wr HBA.out (by omega) hfn hgn (by omega) HW.out ⟨.inl rfl, hkN⟩).mono ?_
            rintro e w7 ⟨la, lc, ra, rc, ea, ec, he, hm7, s7, hs7, hW7, ht7⟩
            obtain ⟨cd, ecd⟩ : ∃ cd, cd = takeCode (σ L1 (f * 3 + g)).q := ⟨_, rfl⟩
            obtain ⟨m, em⟩ : ∃ m, m = takeMsg (σ L1 (f * 3 + g)).q := ⟨_, rfl⟩
            rw [← ecd, ← em] at he
            rw [← em] at hm7
            subst he
            have HM7 := Lib.hid hm7
            have HA7 : Hid (BoxIs w7 B1 L1 3 r) := HW.out.keep ⟨.inl rfl, hkN⟩ ht7 HBA.out (by decide) (by decide)
            have HBB7 : Hid (BoxIs w7 B2 L2 3 r) := HW.out.keep ⟨.inl rfl, hkN⟩ ht7 HBB.out (by decide) (by decide)
            have HL7 : Hid (Below b w w7) := HBW.out.trans (HW.out.turn_below ⟨.inl rfl, hkN⟩ ht7)
            have HW7 := Lib.hid hW7
            have HS7 := Lib.hid hs7
            have ECD := Lib.hid ecd
            have EM := Lib.hid em
            clear hm7 hs7 hW7 ht7 ecd em hxw
            go_wp2_with fail
            have HRX : Hid (ApRel b B1 L1 B2 L2 r w w7) := by
              refine ⟨upd σ L1 (f * 3 + g) s7, HW7.out, HA7.out, HBB7.out, fun L k m hL hk hm => ?_, ?_, HL7.out⟩
              · by_cases he : L = L1 ∧ k = f * 3 + g
                · obtain ⟨rfl, rfl⟩ := he
                  rw [upd_same, HS7.out] at hm
                  exact HPL.out _ _ m (.inl rfl) hk (List.mem_of_mem_tail hm)
                · rw [upd_ne he] at hm; exact HPL.out L k m hL hk hm
              · rw [upd_ne (by omega), upd_ne (by omega)]; exact H55.out
            have hbs7 : b ≤ w7.heap.size := by have := HL7.out.size; have := Hbw.out; omega
            go_roundw
            case rel => exact ⟨t + 1, hlt, by go_num, HRX.out.below ((Below.refl _ _).alloc (Nat.le_refl _) _) hbs7⟩
            case measure => simp [intOf]; omega
    · obtain rfl : t = len := by omega
      go_wp2
      go_ret
      refine ⟨rfl, ?_⟩
      obtain ⟨_, _, _, _, _, _, hbw⟩ := hrel
      rw [← Hbw.out]; exact hbw

set_option maxRecDepth 100000 in
set_option maxHeartbeats 1000000 in
theorem apart_long (c : Int) (sa : Option Addr) (len cap : Nat) (w : World) (hlen : 400 < len) (hm : len ≤ 9223372036854775807) :
    Calls Try.prog 5 #[.int .u8 c, .slice sa len cap] w fun e w' => e = .returned (.bool true) ∧ Below w.heap.size w w' := by
  have hd5 : decide (400 < (len : Int)) = true := by simp; omega
  go_enter Try.func5, Try.ntmps5
  go_wp2_with fail
  refine (known_any _).mono ?_
  rintro e w1 ⟨rfl, hb1⟩
  go_wp2_with fail
  go_ret
  exact ⟨rfl, hb1⟩
end Go.Proofs.Ytpoilgeffpedoaa
