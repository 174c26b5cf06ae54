import Derived.Test.YtpoilgeffpedoaaI
namespace Go.Proofs.Ytpoilgeffpedoaa
open Go.RowKit Go.Pen
attribute [local go_sem ↓] Go.wp_at_zero Go.wp_at_succ

theorem info2 : (Try.prog.info? 2).map (fun i => (i.zero, i.size, i.bytes)) = some (some (.int .i64 0), 1, 8) := by kernel_rfl

/-- messages of numbers in a row -/
def qOf (a b : Nat) : List Msg := (List.range (b - a)).map fun j => msgOf ((a + j : Nat) : Int)
theorem qOf_length (a b : Nat) : (qOf a b).length = b - a := by simp [qOf]
theorem qOf_snoc {a b : Nat} (h : a ≤ b) : qOf a (b + 1) = qOf a b ++ [msgOf (b : Int)] := by
  unfold qOf
  rw [show b + 1 - a = (b - a) + 1 by omega, List.range_succ, List.map_append]
  simp only [List.map_cons, List.map_nil]
  rw [show a + (b - a) = b by omega]
theorem qOf_cons {a b : Nat} (h : a < b) : qOf a b = msgOf (a : Int) :: qOf (a + 1) b := by
  unfold qOf
  rw [show b - a = (b - (a + 1)) + 1 by omega, List.range_succ_eq_map, List.map_cons, List.map_map]
  congr 1
  apply List.map_congr_left
  intro j _
  simp only [Function.comp_apply]
  congr 1
  omega

/-- what holds at each round of MailOrder -/
def OrdRel (b B L S T n r : Nat) (w : World) (t : Nat) (wr : World) : Prop :=
  ∃ (σ : Nat → Nat → WaySt) (sent taken : Nat → Nat) (cs ct : Array Value), Ways b wr (fun L' k => L' = L ∧ k < n * n) (fun _ => r) σ ∧ BoxIs wr B L n r ∧
    wr.heap[S]? = some (.cells cs 2 (0, 0)) ∧ wr.heap[T]? = some (.cells ct 2 (0, 0)) ∧ cs.size = n * n ∧ ct.size = n * n ∧
    (∀ k, k < n * n → cs[k]? = some (.int .i64 (sent k)) ∧ ct[k]? = some (.int .i64 (taken k)) ∧ taken k ≤ sent k ∧ sent k ≤ t ∧ (σ L k).q = qOf (taken k) (sent k)) ∧ Below b w wr

theorem Ways.sub {b : Nat} {w : World} {D D' : Nat → Nat → Prop} {r : Nat → Nat} {σ : Nat → Nat → WaySt} (h : Ways b w D r σ) (hs : ∀ L k, D' L k → D L k) : Ways b w D' r σ :=
  ⟨fun L k hD => h.1 L k (hs L k hD), fun L k L' k' g h1 h2 e1 e2 => h.2.1 L k L' k' g (hs _ _ h1) (hs _ _ h2) e1 e2, fun L k hD => h.2.2 L k (hs L k hD)⟩

theorem made_one_get (N k : Nat) (hk : k < N) : (madeCells #[.int .i64 0] N)[k]? = some (.int .i64 0) := by
  simp [madeCells, hk, Nat.mod_one]

/-- a block of another type has turned: the ways stand -/
theorem Ways.other {b : Nat} {w w' : World} {D : Nat → Nat → Prop} {r : Nat → Nat} {σ : Nat → Nat → WaySt} (h : Ways b w D r σ) {S : Nat} {cs : Array Value} {t : TypeId} (hS : w.heap[S]? = some (.cells cs t (0, 0))) (ht : t ≠ 31 ∧ t ≠ 103 ∧ t ≠ 37 ∧ t ≠ 89 ∧ t ≠ 111)
    (ho : ∀ x, x < w.heap.size → x ≠ S → w'.heap[x]? = w.heap[x]?) : Ways b w' D r σ := by
  refine ⟨fun L k hD => ?_, h.2⟩
  have hw := h.1 L k hD
  obtain ⟨lc, hlc⟩ := hw.blk
  have hl : w'.heap[L]? = w.heap[L]? := ho L (lt_of_heap hlc) (type_ne hlc hS (Ne.symm ht.2.1))
  refine hw.frame ⟨lc, hl.trans hlc⟩ (fun o _ _ => World.cell?_of_block hl) (fun g hg => ?_) fun g cur t' hg ht' => ?_
  · obtain ⟨cells, h1, _⟩ := hw.ring g hg
    exact ho g (lt_of_heap h1) (type_ne h1 hS (Ne.symm ht.1))
  · refine ho g (lt_of_heap hg) (type_ne hg hS ?_)
    rcases ht' with rfl | rfl | rfl
    · exact Ne.symm ht.2.2.1
    · exact Ne.symm ht.2.2.2.1
    · exact Ne.symm ht.2.2.2.2

theorem OrdRel.below {b B L S T n r : Nat} {w wr w' : World} {t t' : Nat} (h : OrdRel b B L S T n r w t wr) (hb : Below wr.heap.size wr w') (htt : t ≤ t') (hbs : b ≤ wr.heap.size) : OrdRel b B L S T n r w t' w' := by
  obtain ⟨σ, sent, taken, cs, ct, h1, h2, h3, h4, h5, h6, h7, h8⟩ := h
  refine ⟨σ, sent, taken, cs, ct, h1.below hb, (hb.block B (lt_of_heap h2)).trans h2, (hb.block S (lt_of_heap h3)).trans h3, (hb.block T (lt_of_heap h4)).trans h4, h5, h6, fun k hk => ?_, h8.trans (hb.mono hbs)⟩
  obtain ⟨a1, a2, a3, a4, a5⟩ := h7 k hk
  exact ⟨a1, a2, a3, by omega, a5⟩

theorem drew_below (w : World) (n : Nat) : Below w.heap.size w (w.drewN n) := below_drewN (Below.refl _ _) _

/-- one more is sent -/
theorem ord_sent {b B L S T n r t k : Nat} {w w5 : World} {σ : Nat → Nat → WaySt} {s : WaySt} {sent taken : Nat → Nat} {cs ct : Array Value} (hk : k < n * n)
    (hW : Ways b w5 (fun L' k => L' = L ∧ k < n * n) (fun _ => r) (upd σ L k s)) (hs : s.q = (σ L k).q ++ [msgOf (sent k : Int)]) (hB : BoxIs w5 B L n r)
    (hS : w5.heap[S]? = some (.cells cs 2 (0, 0))) (hT : w5.heap[T]? = some (.cells ct 2 (0, 0))) (hST : S ≠ T) (hc : cs.size = n * n) (hct : ct.size = n * n)
    (hall : ∀ k, k < n * n → cs[k]? = some (.int .i64 (sent k)) ∧ ct[k]? = some (.int .i64 (taken k)) ∧ taken k ≤ sent k ∧ sent k ≤ t ∧ (σ L k).q = qOf (taken k) (sent k)) (hbw : Below b w w5) (hbS : b ≤ S) :
    OrdRel b B L S T n r w (t + 1) (w5.setCell ⟨S, k, none⟩ (.int .i64 ((sent k : Int) + 1))) := by
  have hf : ∀ x, x ≠ S → (w5.setCell ⟨S, k, none⟩ (.int .i64 ((sent k : Int) + 1))).heap[x]? = w5.heap[x]? := fun x hx => heap_set_ne hx
  refine ⟨upd σ L k s, fun j => if j = k then sent k + 1 else sent j, taken, _, ct, hW.other hS (by decide) (fun x _ hx => hf x hx), (hf B (type_ne hB hS (by decide))).trans hB, heap_set_same hS, (hf T (Ne.symm hST)).trans hT, by simpa using hc, hct, fun j hj => ?_, hbw.setCell hbS _⟩
  obtain ⟨a1, a2, a3, a4, a5⟩ := hall j hj
  by_cases hjk : j = k
  · subst hjk
    rw [upd_same, hs, a5]
    simp only [if_true]
    refine ⟨?_, a2, by omega, by omega, (qOf_snoc a3).symm⟩
    rw [Array.getElem?_setIfInBounds_self_of_lt (by omega)]
    simp
  · rw [upd_ne (by omega)]
    simp only [if_neg hjk]
    exact ⟨by rw [Array.getElem?_setIfInBounds_ne (by omega)]; exact a1, a2, a3, by omega, a5⟩

/-- one more is taken -/
theorem ord_taken {b B L S T n r t k : Nat} {w w5 : World} {σ : Nat → Nat → WaySt} {s : WaySt} {sent taken : Nat → Nat} {cs ct : Array Value} (hk : k < n * n)
    (hW : Ways b w5 (fun L' k => L' = L ∧ k < n * n) (fun _ => r) (upd σ L k s)) (hs : s.q = qOf (taken k + 1) (sent k)) (hlt : taken k < sent k) (hB : BoxIs w5 B L n r)
    (hS : w5.heap[S]? = some (.cells cs 2 (0, 0))) (hT : w5.heap[T]? = some (.cells ct 2 (0, 0))) (hST : S ≠ T) (hc : cs.size = n * n) (hct : ct.size = n * n)
    (hall : ∀ k, k < n * n → cs[k]? = some (.int .i64 (sent k)) ∧ ct[k]? = some (.int .i64 (taken k)) ∧ taken k ≤ sent k ∧ sent k ≤ t ∧ (σ L k).q = qOf (taken k) (sent k)) (hbw : Below b w w5) (hbT : b ≤ T) :
    OrdRel b B L S T n r w (t + 1) (w5.setCell ⟨T, k, none⟩ (.int .i64 ((taken k : Int) + 1))) := by
  have hf : ∀ x, x ≠ T → (w5.setCell ⟨T, k, none⟩ (.int .i64 ((taken k : Int) + 1))).heap[x]? = w5.heap[x]? := fun x hx => heap_set_ne hx
  refine ⟨upd σ L k s, sent, fun j => if j = k then taken k + 1 else taken j, cs, _, hW.other hT (by decide) (fun x _ hx => hf x hx), (hf B (type_ne hB hT (by decide))).trans hB, (hf S hST).trans hS, heap_set_same hT, hc, by simpa using hct, fun j hj => ?_, hbw.setCell hbT _⟩
  obtain ⟨a1, a2, a3, a4, a5⟩ := hall j hj
  by_cases hjk : j = k
  · subst hjk
    rw [upd_same, hs]
    simp only [if_true]
    refine ⟨a1, ?_, by omega, by omega, by first | rfl | trivial⟩
    rw [Array.getElem?_setIfInBounds_self_of_lt (by omega)]
    simp
  · rw [upd_ne (by omega)]
    simp only [if_neg hjk]
    exact ⟨a1, by rw [Array.getElem?_setIfInBounds_ne (by omega)]; exact a2, a3, by omega, a5⟩

set_option maxRecDepth 100000 in
set_option maxHeartbeats 4000000 in
theorem order_walk (a c : Int) (ha : 0 ≤ a ∧ a ≤ 255) (hc : 0 ≤ c ∧ c ≤ 255) (sa : Option Addr) (bl off len cap : Nat) (zs : List Int) (hz : zs.length = len) (w : World) (hlen : len ≤ 500) (hsa : 0 < len → sa = some ⟨bl, off, none⟩ ∧ bl < w.heap.size)
    (hcell : ∀ i x, zs[i]? = some x → w.cell? ⟨bl, off + i, none⟩ = some (.int .u16 x) ∧ 0 ≤ x ∧ x ≤ 65535) :
    Calls Try.prog 4 #[.int .u8 a, .int .u8 c, .slice sa len cap] w fun e w' => e = .returned (.bool true) ∧ Below w.heap.size w w' := by
  obtain ⟨n, hn⟩ : ∃ n : Nat, a % 4 + 1 = (n : Int) := ⟨(a % 4 + 1).toNat, by omega⟩
  obtain ⟨r, hr⟩ : ∃ r : Nat, c % 5 + 1 = (r : Int) := ⟨(c % 5 + 1).toNat, by omega⟩
  have n1 : 1 ≤ n := by omega
  have n4 : n ≤ 4 := by omega
  have r1 : 1 ≤ r := by omega
  have r5 : r ≤ 5 := by omega
  obtain ⟨N, eN⟩ : ∃ N, N = n * n := ⟨_, rfl⟩
  have hN : N ≤ 16 := by rw [eN]; exact Nat.mul_le_mul n4 n4
  have hNI : (n : Int) * n = (N : Int) := by rw [eN]; simp
  obtain ⟨i0, hi0, hz0, hz1, hz2⟩ := info_parts info2
  have hmk : ∀ u : World, (Instr.makeSlice 85 (.int .i64 (N : Int)) (.int .i64 (N : Int))).run Try.prog u =
      .ok (.slice (some ⟨u.heap.size, 0, none⟩) N N) (u.alloc (.cells (madeCells #[.int .i64 0] N) 2)) := fun u => by
    have h := run_make (P := Try.prog) u 85 2 i0 _ Try.underlying85 hi0 hz0 .i64 .i64 (N : Int) (N : Int) (by omega) (Int.le_refl _) (by rw [hz2]; omega) (by omega)
    have e : ((N : Int)).toNat = N := by omega
    rw [e] at h
    simpa [hz1, Value.cells] using h
  have HC := Lib.hid hcell
  have HSA := Lib.hid hsa
  have HZ := Lib.hid hz
  have EN := Lib.hid eN
  clear hcell hz eN hsa
  go_enter Try.func4, Try.ntmps4
  go_wp2_with fail
  refine (known_any _).mono ?_
  rintro e w1 ⟨rfl, hb1⟩
  have hd5 : decide (500 < (len : Int)) = false := by simp; omega
  go_wp2_with fail
  refine (new_box w.heap.size n r (fun _ _ => False) (fun _ _ => ⟨none, 0, []⟩) w1 n1 (by omega) r1 (by omega) hb1.size (ways_none _ _ _ _)).mono ?_
  rintro e w2 ⟨rfl, hB2, hW2, hb2⟩
  obtain ⟨b, hb⟩ : ∃ b, b = w.heap.size := ⟨_, rfl⟩
  obtain ⟨L, hL⟩ : ∃ L, L = w1.heap.size := ⟨_, rfl⟩
  obtain ⟨B, hB⟩ : ∃ B, B = L + 1 := ⟨_, rfl⟩
  rw [← hb, ← hL] at hW2
  rw [← hL, ← hB] at hB2
  rw [← hL, ← hB]
  have hb12 : Below b w w2 := by rw [hb]; exact hb1.trans (hb2.mono hb1.size)
  have hW2' := hW2.sub (D' := fun L' k => L' = L ∧ k < n * n) (fun L' k h => .inr h)
  obtain ⟨σ, hσ⟩ : ∃ σ : Nat → Nat → WaySt, σ = fun L' k => if L' = L then (⟨none, 0, []⟩ : WaySt) else ⟨none, 0, []⟩ := ⟨_, rfl⟩
  rw [← hσ] at hW2'
  have hq2 : ∀ k, (σ L k).q = [] := fun k => by rw [hσ]; simp
  have HW2 := Lib.hid hW2'
  have HQ2 := Lib.hid hq2
  have HB2 := Lib.hid hB2
  have Hb2 := Lib.hid hb12
  have Hbw := Lib.hid hb
  clear hW2 hW2' hq2 hσ hB2 hb12 hb1 hb2 hL hB hb
  go_wp2_with fail
  obtain ⟨S, hS⟩ : ∃ S, S = w2.heap.size := ⟨_, rfl⟩
  obtain ⟨w3, hw3⟩ : ∃ w3, w3 = w2.alloc (.cells (madeCells #[.int .i64 0] N) 2) := ⟨_, rfl⟩
  obtain ⟨w4, hw4⟩ : ∃ w4, w4 = w3.alloc (.cells (madeCells #[.int .i64 0] N) 2) := ⟨_, rfl⟩
  rw [← hw3, ← hw4, ← hS]
  have hs3 : w3.heap.size = S + 1 := by rw [hw3, hS]; simp
  have hb4 : Below w2.heap.size w2 w4 := by rw [hw4, hw3]; exact ((Below.refl _ _).alloc (Nat.le_refl _) _).alloc (by simp) _
  have hS4 : w4.heap[S]? = some (.cells (madeCells #[.int .i64 0] N) 2 (0, 0)) := by rw [hw4, Below.heap_alloc _ _ _ (by omega), hw3, hS]; exact heap_alloc_new _ _
  have hT4 : w4.heap[S + 1]? = some (.cells (madeCells #[.int .i64 0] N) 2 (0, 0)) := by rw [hw4, ← hs3]; exact heap_alloc_new _ _
  have hbs2 : b ≤ w2.heap.size := by have := Hb2.out.size; have := Hbw.out; omega
  have hst : OrdRel b B L S (S + 1) n r w 0 w4 := by
    refine ⟨σ, fun _ => 0, fun _ => 0, _, _, HW2.out.below hb4, (hb4.block B (lt_of_heap HB2.out)).trans HB2.out, hS4, hT4, by rw [size_madeCells, EN.out], by rw [size_madeCells, EN.out], fun k hk => ?_, Hb2.out.trans (hb4.mono hbs2)⟩
    rw [← EN.out] at hk
    exact ⟨made_one_get N k hk, made_one_get N k hk, Nat.le_refl _, Nat.le_refl _, HQ2.out k⟩
  have hbS : b ≤ S := by omega
  have HST := Lib.hid hst
  clear hst hb4 hS4 hT4 hw3 hw4 hs3 hmk hS
  obtain ⟨T, hT⟩ : ∃ T, T = S + 1 := ⟨_, rfl⟩
  rw [← hT] at HST ⊢
  have hbT : b ≤ T := by omega
  have hST : S ≠ T := by omega
  clear hT
  go_loopw [13] (fun i wr => ∃ t : Nat, t ≤ len ∧ i = .int .i64 t ∧ OrdRel b B L S T n r w t wr) (fun i _ => len - (intOf i).toNat)
  case atStart => exact ⟨0, Nat.zero_le _, rfl, HST.out⟩
  case round =>
    obtain ⟨t, ht, rfl, hrel⟩ := hrel
    by_cases hlt : t < len
    · obtain ⟨hsae, hbl⟩ := HSA.out (by omega)
      subst hsae
      clear HSA
      obtain ⟨x, hx⟩ : ∃ x, zs[t]? = some x := ⟨zs[t]'(by rw [HZ.out]; exact hlt), List.getElem?_eq_getElem _⟩
      obtain ⟨hxc, hx0, hx1⟩ := HC.out t x hx
      have HREL := Lib.hid hrel
      obtain ⟨σ, sent, taken, cs, ct, hW, hBx, hSx, hTx, hcs, hct, hall, hbw⟩ := hrel
      have hblb : bl < b := by rw [Hbw.out]; exact hbl
      have hxw := (hbw.cell (p := ⟨bl, off + t, none⟩) hblb).trans hxc
      obtain ⟨f, hf⟩ : ∃ f : Nat, x / 2 % (n : Int) = f := ⟨(x / 2 % (n : Int)).toNat, by have := Int.emod_nonneg (x / 2) (show (n : Int) ≠ 0 by omega); omega⟩
      obtain ⟨g, hg⟩ : ∃ g : Nat, x / 16 % (n : Int) = g := ⟨(x / 16 % (n : Int)).toNat, by have := Int.emod_nonneg (x / 16) (show (n : Int) ≠ 0 by omega); omega⟩
      have hfn : f < n := by have := Int.emod_lt_of_pos (x / 2) (show (0 : Int) < n by omega); omega
      have hgn : g < n := by have := Int.emod_lt_of_pos (x / 16) (show (0 : Int) < n by omega); omega
      obtain ⟨k, hk⟩ : ∃ k, k = f * n + g := ⟨_, rfl⟩
      have hkN : k < n * n := by rw [hk]; exact idx_lt hfn hgn
      have hkI : (f : Int) * n + g = (k : Int) := by rw [hk]; simp
      have hfnI : (f : Int) * n ≤ 16 ∧ (0 : Int) ≤ (f : Int) * n := by omega
      obtain ⟨e1, e2, e3, e4, e5⟩ := hall k hkN
      obtain ⟨sk, hsk⟩ : ∃ sk, sk = sent k := ⟨_, rfl⟩
      obtain ⟨tk, htk⟩ : ∃ tk, tk = taken k := ⟨_, rfl⟩
      rw [← hsk] at e1 e3 e4
      rw [← htk] at e2 e3
      have cS : wr.cell? ⟨S, k, none⟩ = some (.int .i64 sk) := cell_of_heap hSx e1
      have cT : wr.cell? ⟨T, k, none⟩ = some (.int .i64 tk) := cell_of_heap hTx e2
      have kN : k < N := by rw [EN.out]; exact hkN
      have ESK := Lib.hid hsk
      have ETK := Lib.hid htk
      have E5 := Lib.hid e5
      have HALL := Lib.hid hall
      have HW := Lib.hid hW
      have HBX := Lib.hid hBx
      have HSX := Lib.hid hSx
      have HTX := Lib.hid hTx
      have HCS := Lib.hid hcs
      have HCT := Lib.hid hct
      have HBW := Lib.hid hbw
      have HK := Lib.hid hk
      have fS : wr.frozen? ⟨S, k, none⟩ = false := frozen_of_heap hSx
      have fT : wr.frozen? ⟨T, k, none⟩ = false := frozen_of_heap hTx
      clear hsk htk e5 hall hW hBx hSx hTx hcs hct hbw hk hx hxc e1 e2
      have hn0 : ¬ n = 0 := by omega
      by_cases hp : x % 2 = 0
      · have hpb : (x % 2 == 0) = true := by simp [hp]
        clear hp
        have hql : (σ L k).q.length = sk - tk := by rw [E5.out, qOf_length, ESK.out, ETK.out]
        have hqr : sk - tk ≤ r := by have := (HW.out.1 L k ⟨rfl, hkN⟩).len; rw [hql] at this; exact this
        have HQL := Lib.hid hql
        clear hql
        go_wp2_with fail
        refine (message_any (sk : Int) _).mono ?_
        rintro e w5 ⟨rfl, hm5, hb5⟩
        have hbsr : b ≤ wr.heap.size := by have := HBW.out.size; have := Hbw.out; omega
        have HB5 : Hid (BoxIs w5 B L n r) := show _ = _ from (hb5.block B (lt_of_heap HBX.out)).trans HBX.out
        have HS5 : Hid (w5.heap[S]? = some (.cells cs 2 (0, 0))) := (hb5.block S (lt_of_heap HSX.out)).trans HSX.out
        have HT5 : Hid (w5.heap[T]? = some (.cells ct 2 (0, 0))) := (hb5.block T (lt_of_heap HTX.out)).trans HTX.out
        have HW5 := Lib.hid (HW.out.below hb5)
        have Hb5 := Lib.hid hb5
        have HM5 := Lib.hid hm5
        have HBW5 : Hid (Below b w w5) := HBW.out.trans (hb5.mono hbsr)
        clear hb5 hm5 cS cT fS fT hxw
        by_cases hroom : sk - tk < r
        · go_wp2_with fail
          refine (send_yes b B L n r f g _ σ w5 HB5.out (by omega) hfn hgn (by omega) HW5.out (by rw [← HK.out]; exact ⟨rfl, hkN⟩) (by rw [← HK.out, HQL.out]; exact hroom) (msgOf (sk : Int)) _ _ _ _ _ _ HM5.out (msgOf_ok _)).mono ?_
          rintro e w6 ⟨rfl, s6, hs6, hW6, ht6⟩
          rw [← HK.out] at hs6 hW6 ht6
          have hBox6 : BoxIs w6 B L n r := HW5.out.keep ⟨rfl, hkN⟩ ht6 HB5.out (by decide) (by decide)
          have hS6 : w6.heap[S]? = some (.cells cs 2 (0, 0)) := HW5.out.keep ⟨rfl, hkN⟩ ht6 HS5.out (by decide) (by decide)
          have hT6 : w6.heap[T]? = some (.cells ct 2 (0, 0)) := HW5.out.keep ⟨rfl, hkN⟩ ht6 HT5.out (by decide) (by decide)
          have hbw6 : Below b w w6 := HBW5.out.trans (HW5.out.turn_below ⟨rfl, hkN⟩ ht6)
          have hrel6 := ord_sent hkN hW6 (by rw [hs6, ESK.out]) hBox6 hS6 hT6 hST HCS.out HCT.out HALL.out hbw6 hbS
          rw [← ESK.out] at hrel6
          obtain ⟨z1, z2, z3⟩ := HALL.out k hkN
          clear z3
          have cS6 : w6.cell? ⟨S, k, none⟩ = some (.int .i64 sk) := by rw [ESK.out]; exact cell_of_heap hS6 z1
          have cT6 : w6.cell? ⟨T, k, none⟩ = some (.int .i64 tk) := by rw [ETK.out]; exact cell_of_heap hT6 z2
          have fS6 : w6.frozen? ⟨S, k, none⟩ = false := frozen_of_heap hS6
          have hroomI : decide ((sk : Int) - tk < r) = true := by simp; omega
          have hway : WayIs (w6.setCell ⟨S, k, none⟩ (.int .i64 ((sk : Int) + 1))) L k r s6 := by
            have h := (hW6.other (w' := w6.setCell ⟨S, k, none⟩ (.int .i64 ((sk : Int) + 1))) hS6 (by decide) (fun x _ hx => heap_set_ne hx)).1 L k ⟨rfl, hkN⟩
            rw [upd_same] at h; exact h
          have hbox : BoxIs (w6.setCell ⟨S, k, none⟩ (.int .i64 ((sk : Int) + 1))) B L n r := (heap_set_ne (type_ne hBox6 hS6 (by decide))).trans hBox6
          have hlen6 : s6.q.length = sk + 1 - tk := by
            rw [hs6, List.length_append, HQL.out]; simp; omega
          have cS7 : (w6.setCell ⟨S, k, none⟩ (.int .i64 ((sk : Int) + 1))).cell? ⟨S, k, none⟩ = some (.int .i64 ((sk : Int) + 1)) := World.cell?_setCell_same _ _ _ cS6
          have cT7 : (w6.setCell ⟨S, k, none⟩ (.int .i64 ((sk : Int) + 1))).cell? ⟨T, k, none⟩ = some (.int .i64 tk) := (cell_set_ne hST).trans cT6
          have HREL6 := Lib.hid hrel6
          have HWAY := Lib.hid hway
          have HBOX := Lib.hid hbox
          have HCS7 := Lib.hid cS7
          have HCT7 := Lib.hid cT7
          have HL6 := Lib.hid hlen6
          clear hs6 hW6 ht6 hBox6 hS6 hT6 hbw6 hrel6 z1 z2 hway hbox cS7 cT7 hlen6
          go_wp2_with fail
          go_quiet (fail)
          go_wp2_with fail
          obtain ⟨w8, hw8⟩ : ∃ w8, w8 = (w6.drewN nq).setCell ⟨S, k, none⟩ (.int .i64 ((sk : Int) + 1)) := ⟨_, rfl⟩
          have e8 : w8 = (w6.setCell ⟨S, k, none⟩ (.int .i64 ((sk : Int) + 1))).drewN nq := by rw [hw8]; rfl
          rw [← hw8]
          have hb78 : Below (w6.setCell ⟨S, k, none⟩ (.int .i64 ((sk : Int) + 1))).heap.size (w6.setCell ⟨S, k, none⟩ (.int .i64 ((sk : Int) + 1))) w8 := by rw [e8]; exact drew_below _ _
          have c8S : w8.cell? ⟨S, k, none⟩ = some (.int .i64 ((sk : Int) + 1)) := by rw [e8]; exact HCS7.out
          have c8T : w8.cell? ⟨T, k, none⟩ = some (.int .i64 tk) := by rw [e8]; exact HCT7.out
          have hlq : Hid (∀ m, WayIs (w8.drewN m) L (f * n + g) r s6) := fun m => by rw [← HK.out]; exact (HWAY.out.below hb78).below (drew_below _ _)
          have hbq : Hid (∀ m, BoxIs (w8.drewN m) B L n r) := fun m => by rw [e8]; exact HBOX.out
          have hrel8 : Hid (∀ m, OrdRel b B L S T n r w (t + 1) (w8.drewN m)) := fun m => by
            have hz : b ≤ (w6.setCell ⟨S, k, none⟩ (.int .i64 ((sk : Int) + 1))).heap.size := by
              rw [setCell_size]; have h1 : S < w6.heap.size := World.block_lt_of_cell? w6 _ cS6; omega
            exact (HREL6.out.below hb78 (Nat.le_refl _) hz).below (drew_below _ _) (Nat.le_refl _) (by rw [e8]; exact hz)
          have hb1 : ((s6.q.length : Int) != (sk : Int) + 1 - tk) = false := by rw [HL6.out]; simp; omega
          clear hw8 e8 hb78 cS6 cT6 fS6
          go_quiet ((go_at_call 24; exact Calls.quiet_of (len_in B L n r f g s6 _ (hbq.out _) (by omega) hfn hgn (hlq.out _))))
          go_wp2_with fail
          go_roundw
          case rel => exact ⟨t + 1, hlt, by go_num, hrel8.out _⟩
          case measure => simp [intOf]; omega
        · go_wp2_with fail
          refine (send_no b B L n r f g _ σ w5 HB5.out (by omega) hfn hgn HW5.out (by rw [← HK.out]; exact ⟨rfl, hkN⟩) (by rw [← HK.out, HQL.out]; omega) _ _ _ _ _ _ _).mono ?_
          rintro e w6 ⟨rfl, hb6⟩
          obtain ⟨z1, z2, z3⟩ := HALL.out k hkN
          clear z3
          have hS6 : w6.heap[S]? = some (.cells cs 2 (0, 0)) := (hb6.block S (lt_of_heap HS5.out)).trans HS5.out
          have hT6 : w6.heap[T]? = some (.cells ct 2 (0, 0)) := (hb6.block T (lt_of_heap HT5.out)).trans HT5.out
          have cS6 : w6.cell? ⟨S, k, none⟩ = some (.int .i64 sk) := by rw [ESK.out]; exact cell_of_heap hS6 z1
          have cT6 : w6.cell? ⟨T, k, none⟩ = some (.int .i64 tk) := by rw [ETK.out]; exact cell_of_heap hT6 z2
          have hroomI : decide ((sk : Int) - tk < r) = false := by simp; omega
          have hlq : Hid (∀ m, WayIs (w6.drewN m) L (f * n + g) r (σ L k)) := fun m => by rw [← HK.out]; exact ((HW5.out.1 L k ⟨rfl, hkN⟩).below hb6).below (drew_below _ _)
          have hbq : Hid (∀ m, BoxIs (w6.drewN m) B L n r) := fun m => show _ = _ from (hb6.block B (lt_of_heap HB5.out)).trans HB5.out
          have hrel8 : Hid (∀ m, OrdRel b B L S T n r w (t + 1) (w6.drewN m)) := fun m => by
            have hz5 : b ≤ w5.heap.size := by have := Hb5.out.size; omega
            have hz6 : b ≤ w6.heap.size := by have := hb6.size; omega
            exact ((HREL.out.below Hb5.out (Nat.le_succ _) hbsr).below hb6 (Nat.le_refl _) hz5).below (drew_below _ _) (Nat.le_refl _) hz6
          have hb1 : (((σ L k).q.length : Int) != (sk : Int) - tk) = false := by rw [HQL.out]; simp; omega
          clear hb6 hS6 hT6 z1 z2
          go_wp2_with fail
          go_quiet (fail)
          go_wp2_with fail
          obtain ⟨w8, hw8⟩ : ∃ w8, w8 = w6.drewN nq := ⟨_, rfl⟩
          have c8S : w8.cell? ⟨S, k, none⟩ = some (.int .i64 sk) := by rw [hw8]; exact cS6
          have c8T : w8.cell? ⟨T, k, none⟩ = some (.int .i64 tk) := by rw [hw8]; exact cT6
          have hlq8 : Hid (∀ m, WayIs (w8.drewN m) L (f * n + g) r (σ L k)) := fun m => by rw [hw8, World.drewN_drewN]; exact hlq.out _
          have hbq8 : Hid (∀ m, BoxIs (w8.drewN m) B L n r) := fun m => by rw [hw8, World.drewN_drewN]; exact hbq.out _
          have hr8 : Hid (∀ m, OrdRel b B L S T n r w (t + 1) (w8.drewN m)) := fun m => by rw [hw8, World.drewN_drewN]; exact hrel8.out _
          rw [← hw8]
          clear hw8 cS6 cT6 hlq hbq hrel8
          go_quiet ((go_at_call 24; exact Calls.quiet_of (len_in B L n r f g (σ L k) _ (hbq8.out _) (by omega) hfn hgn (hlq8.out _))))
          go_wp2_with fail
          go_roundw
          case rel => exact ⟨t + 1, hlt, by go_num, hr8.out _⟩
          case measure => simp [intOf]; omega
      · have hpb : (x % 2 == 0) = false := by simp [hp]
        clear hp
        have hql : (σ L k).q.length = sk - tk := by rw [E5.out, qOf_length, ESK.out, ETK.out]
        have HQL := Lib.hid hql
        have hbsr : b ≤ wr.heap.size := by have := HBW.out.size; have := Hbw.out; omega
        clear hql cS cT fS fT
        by_cases hsome : tk < sk
        · go_wp2_with fail
          refine (take_yes b B L n r f g _ σ wr HBX.out (by omega) hfn hgn (by omega) HW.out (by rw [← HK.out]; exact ⟨rfl, hkN⟩) (msgOf (tk : Int)) (qOf (tk + 1) sk) (by rw [← HK.out, E5.out, ← ESK.out, ← ETK.out]; exact qOf_cons hsome)).mono ?_
          rintro e w6 ⟨la, lc, ra, rc, ea, ec, rfl, hm6, s6, hs6, hW6, ht6⟩
          rw [← HK.out] at hW6 ht6
          rw [show (msgOf (tk : Int)).rows.length = 1 from rfl] at hm6
          obtain ⟨u, d, dc, rfl, hu, hd, cu, cd⟩ := msg_open hm6
          have hBox6 : BoxIs w6 B L n r := HW.out.keep ⟨rfl, hkN⟩ ht6 HBX.out (by decide) (by decide)
          have hS6 : w6.heap[S]? = some (.cells cs 2 (0, 0)) := HW.out.keep ⟨rfl, hkN⟩ ht6 HSX.out (by decide) (by decide)
          have hT6 : w6.heap[T]? = some (.cells ct 2 (0, 0)) := HW.out.keep ⟨rfl, hkN⟩ ht6 HTX.out (by decide) (by decide)
          have hbw6 : Below b w w6 := HBW.out.trans (HW.out.turn_below ⟨rfl, hkN⟩ ht6)
          have HBox6 := Lib.hid hBox6
          have HS6 := Lib.hid hS6
          have HT6 := Lib.hid hT6
          have HBW6 := Lib.hid hbw6
          have HW6 := Lib.hid hW6
          have HSQ := Lib.hid hs6
          clear hBox6 hS6 hT6 hbw6 hW6 hs6 hm6 ht6 hxw
          go_wp2_with fail
          obtain ⟨w7, hw7⟩ : ∃ w7, w7 = w6.alloc (.cells #[.int .i64 (msgOf (tk : Int)).node, .bool (msgOf (tk : Int)).out, .int .i64 (msgOf (tk : Int)).port, .int .u64 (msgOf (tk : Int)).epoch, .slice la (msgOf (tk : Int)).ln lc, .slice (some ⟨u, 0, none⟩) (msgOf (tk : Int)).rows.length rc, .slice ea (msgOf (tk : Int)).errs.length ec] 31) := ⟨_, rfl⟩
          obtain ⟨mb, emb⟩ : ∃ mb, mb = w6.heap.size := ⟨_, rfl⟩
          have hb67 : Below w6.heap.size w6 w7 := by rw [hw7]; exact (Below.refl _ _).alloc (Nat.le_refl _) _
          have hmb : w7.heap[mb]? = some (.cells #[.int .i64 0, .bool false, .int .i64 0, .int .u64 0, .slice la 0 lc, .slice (some ⟨u, 0, none⟩) 1 rc, .slice ea 0 ec] 31 (0, 0)) := by rw [hw7, emb]; exact heap_alloc_new _ _
          rw [← hw7, ← emb]
          obtain ⟨z1, z2, z3⟩ := HALL.out k hkN
          clear z3
          have hS7 : w7.heap[S]? = some (.cells cs 2 (0, 0)) := (hb67.block S (lt_of_heap HS6.out)).trans HS6.out
          have hT7 : w7.heap[T]? = some (.cells ct 2 (0, 0)) := (hb67.block T (lt_of_heap HT6.out)).trans HT6.out
          have cS7 : w7.cell? ⟨S, k, none⟩ = some (.int .i64 sk) := by rw [ESK.out]; exact cell_of_heap hS7 z1
          have cT7 : w7.cell? ⟨T, k, none⟩ = some (.int .i64 tk) := by rw [ETK.out]; exact cell_of_heap hT7 z2
          have fT7 : w7.frozen? ⟨T, k, none⟩ = false := frozen_of_heap hT7
          have c5 : w7.cell? ⟨mb, 5, none⟩ = some (.slice (some ⟨u, 0, none⟩) 1 rc) := cell_of_heap hmb rfl
          have cu7 := (hb67.cell (p := ⟨u, 0, none⟩) hu).trans cu
          have cd7 := (hb67.cell (p := ⟨d, 2, none⟩) hd).trans cd
          have hsomeI : decide ((tk : Int) < (sk : Int)) = true := by simp; omega
          have HW7 : Hid (Ways b w7 (fun L' k => L' = L ∧ k < n * n) (fun _ => r) (upd σ L k s6)) := HW6.out.below hb67
          have HBox7 : Hid (BoxIs w7 B L n r) := show _ = _ from (hb67.block B (lt_of_heap HBox6.out)).trans HBox6.out
          have hbs6 : b ≤ w6.heap.size := by have := HBW6.out.size; have := Hbw.out; omega
          have HBW7 : Hid (Below b w w7) := HBW6.out.trans (hb67.mono hbs6)
          have HS7 := Lib.hid hS7
          have HT7 := Lib.hid hT7
          clear hw7 emb hb67 hmb z1 z2 hS7 hT7 cu cd
          go_quiet (fail)
          go_wp2_with fail
          obtain ⟨w8, hw8⟩ : ∃ w8, w8 = (w7.drewN nq).setCell ⟨T, k, none⟩ (.int .i64 ((tk : Int) + 1)) := ⟨_, rfl⟩
          have e8 : w8 = (w7.setCell ⟨T, k, none⟩ (.int .i64 ((tk : Int) + 1))).drewN nq := by rw [hw8]; rfl
          rw [← hw8]
          have hb78 : Below (w7.setCell ⟨T, k, none⟩ (.int .i64 ((tk : Int) + 1))).heap.size (w7.setCell ⟨T, k, none⟩ (.int .i64 ((tk : Int) + 1))) w8 := by rw [e8]; exact drew_below _ _
          have c8T : w8.cell? ⟨T, k, none⟩ = some (.int .i64 ((tk : Int) + 1)) := by rw [e8]; exact World.cell?_setCell_same _ _ _ cT7
          have c8S : w8.cell? ⟨S, k, none⟩ = some (.int .i64 sk) := by rw [e8]; exact (cell_set_ne (Ne.symm hST)).trans cS7
          have hway : WayIs (w7.setCell ⟨T, k, none⟩ (.int .i64 ((tk : Int) + 1))) L k r s6 := by
            have h := (HW7.out.other (w' := w7.setCell ⟨T, k, none⟩ (.int .i64 ((tk : Int) + 1))) HT7.out (by decide) (fun x _ hx => heap_set_ne hx)).1 L k ⟨rfl, hkN⟩
            rw [upd_same] at h; exact h
          have hlq : Hid (∀ m, WayIs (w8.drewN m) L (f * n + g) r s6) := fun m => by rw [← HK.out]; exact (hway.below hb78).below (drew_below _ _)
          have hbq : Hid (∀ m, BoxIs (w8.drewN m) B L n r) := fun m => by rw [e8]; exact (heap_set_ne (type_ne HBox7.out HT7.out (by decide))).trans HBox7.out
          have hrel7 := ord_taken hkN HW7.out (by rw [HSQ.out, ESK.out, ETK.out]) (by rw [← ESK.out, ← ETK.out]; exact hsome) HBox7.out HS7.out HT7.out hST HCS.out HCT.out HALL.out HBW7.out hbT
          rw [← ETK.out] at hrel7
          have hr8 : Hid (∀ m, OrdRel b B L S T n r w (t + 1) (w8.drewN m)) := fun m => by
            have hz : b ≤ (w7.setCell ⟨T, k, none⟩ (.int .i64 ((tk : Int) + 1))).heap.size := by
              rw [setCell_size]; have h1 : T < w7.heap.size := World.block_lt_of_cell? w7 _ cT7; omega
            exact (hrel7.below hb78 (Nat.le_refl _) hz).below (drew_below _ _) (Nat.le_refl _) (by rw [e8]; exact hz)
          have hb1 : ((s6.q.length : Int) != (sk : Int) - ((tk : Int) + 1)) = false := by rw [HSQ.out, qOf_length]; simp; omega
          clear hw8 e8 hb78 cS7 cT7 fT7 hway hrel7 c5 cu7 cd7
          go_quiet ((go_at_call 24; exact Calls.quiet_of (len_in B L n r f g s6 _ (hbq.out _) (by omega) hfn hgn (hlq.out _))))
          go_wp2_with fail
          go_roundw
          case rel => exact ⟨t + 1, hlt, by go_num, hr8.out _⟩
          case measure => simp [intOf]; omega
        · go_wp2_with fail
          refine (take_none B L n r f g (σ L (f * n + g)) wr HBX.out (by omega) hfn hgn (HW.out.1 L _ (by rw [← HK.out]; exact ⟨rfl, hkN⟩)) (by rw [← HK.out]; exact List.eq_nil_of_length_eq_zero (by rw [HQL.out]; omega))).mono ?_
          rintro e w6 ⟨rfl, hb6⟩
          have HB6 := Lib.hid hb6
          clear hb6 hxw
          go_wp2_with fail
          obtain ⟨w7, hw7⟩ : ∃ w7, w7 = w6.alloc (.cells #[.int .i64 0, .bool false, .int .i64 0, .int .u64 0, .slice none 0 0, .slice none 0 0, .slice none 0 0] 31) := ⟨_, rfl⟩
          have hb67 : Below wr.heap.size wr w7 := by rw [hw7]; exact HB6.out.alloc HB6.out.size _
          rw [← hw7]
          obtain ⟨z1, z2, z3⟩ := HALL.out k hkN
          clear z3
          have hS7 : w7.heap[S]? = some (.cells cs 2 (0, 0)) := (hb67.block S (lt_of_heap HSX.out)).trans HSX.out
          have hT7 : w7.heap[T]? = some (.cells ct 2 (0, 0)) := (hb67.block T (lt_of_heap HTX.out)).trans HTX.out
          have cS7 : w7.cell? ⟨S, k, none⟩ = some (.int .i64 sk) := by rw [ESK.out]; exact cell_of_heap hS7 z1
          have cT7 : w7.cell? ⟨T, k, none⟩ = some (.int .i64 tk) := by rw [ETK.out]; exact cell_of_heap hT7 z2
          have hsomeI : decide ((tk : Int) < (sk : Int)) = false := by simp; omega
          have hlq : Hid (∀ m, WayIs (w7.drewN m) L (f * n + g) r (σ L k)) := fun m => by rw [← HK.out]; exact ((HW.out.1 L k ⟨rfl, hkN⟩).below hb67).below (drew_below _ _)
          have hbq : Hid (∀ m, BoxIs (w7.drewN m) B L n r) := fun m => show _ = _ from (hb67.block B (lt_of_heap HBX.out)).trans HBX.out
          have hr8 : Hid (∀ m, OrdRel b B L S T n r w (t + 1) (w7.drewN m)) := fun m => by
            have hz7 : b ≤ w7.heap.size := by have := hb67.size; omega
            exact (HREL.out.below hb67 (Nat.le_succ _) hbsr).below (drew_below _ _) (Nat.le_refl _) hz7
          have hb1 : (((σ L k).q.length : Int) != (sk : Int) - tk) = false := by rw [HQL.out]; simp; omega
          clear hw7 hb67 z1 z2 hS7 hT7
          go_quiet (fail)
          go_wp2_with fail
          obtain ⟨w8, hw8⟩ : ∃ w8, w8 = w7.drewN nq := ⟨_, rfl⟩
          have c8S : w8.cell? ⟨S, k, none⟩ = some (.int .i64 sk) := by rw [hw8]; exact cS7
          have c8T : w8.cell? ⟨T, k, none⟩ = some (.int .i64 tk) := by rw [hw8]; exact cT7
          have hlq8 : Hid (∀ m, WayIs (w8.drewN m) L (f * n + g) r (σ L k)) := fun m => by rw [hw8, World.drewN_drewN]; exact hlq.out _
          have hbq8 : Hid (∀ m, BoxIs (w8.drewN m) B L n r) := fun m => by rw [hw8, World.drewN_drewN]; exact hbq.out _
          have hr88 : Hid (∀ m, OrdRel b B L S T n r w (t + 1) (w8.drewN m)) := fun m => by rw [hw8, World.drewN_drewN]; exact hr8.out _
          rw [← hw8]
          clear hw8 cS7 cT7 hlq hbq hr8
          go_quiet ((go_at_call 24; exact Calls.quiet_of (len_in B L n r f g (σ L k) _ (hbq8.out _) (by omega) hfn hgn (hlq8.out _))))
          go_wp2_with fail
          go_roundw
          case rel => exact ⟨t + 1, hlt, by go_num, hr88.out _⟩
          case measure => simp [intOf]; omega
    · obtain rfl : t = len := by omega
      go_wp2
      go_ret
      refine ⟨rfl, ?_⟩
      obtain ⟨_, _, _, _, _, _, _, _, _, _, _, _, hbw⟩ := hrel
      rw [← Hbw.out]; exact hbw

set_option maxRecDepth 100000 in
set_option maxHeartbeats 1000000 in
theorem order_long (a c : Int) (sa : Option Addr) (len cap : Nat) (w : World) (hlen : 500 < len) (hm : len ≤ 9223372036854775807) :
    Calls Try.prog 4 #[.int .u8 a, .int .u8 c, .slice sa len cap] w fun e w' => e = .returned (.bool true) ∧ Below w.heap.size w w' := by
  have hd5 : decide (500 < (len : Int)) = true := by simp; omega
  go_enter Try.func4, Try.ntmps4
  go_wp2_with fail
  refine (known_any _).mono ?_
  rintro e w1 ⟨rfl, hb1⟩
  go_wp2_with fail
  go_ret
  exact ⟨rfl, hb1⟩
end Go.Proofs.Ytpoilgeffpedoaa
