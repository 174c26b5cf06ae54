/- LexPlaces' walk. -/
import Derived.Test.YtpjfkfbijimliaaDoorX
import Derived.Test.YtpjfkfbijimliaaDoorZa
namespace Go.Proofs.YtpjfkfbijimliaaDoor
open Go.RowKit Go.Pen

def lastI (ts : List Tok) (m : Nat) : Int := if m = 0 then -1 else ((ts.getD (m - 1) ⟨0, [], 0, 0⟩).at_ : Int)

theorem lastI_lt {ts : List Tok} {m : Nat} {t : Tok} (hp : ts.Pairwise (fun a b => a.at_ < b.at_)) (ht : ts[m]? = some t) : lastI ts m < (t.at_ : Int) := by
  unfold lastI
  split
  · omega
  · rename_i h0
    have hm := (List.getElem?_eq_some_iff.1 ht).1
    have h1 := List.pairwise_iff_getElem.1 hp (m - 1) m (by omega) hm (by omega)
    have h2 : ts[m] = t := (List.getElem?_eq_some_iff.1 ht).2
    rw [List.getD_eq_getElem?_getD, List.getElem?_eq_getElem (by omega : m - 1 < ts.length)]
    simp only [Option.getD_some]
    rw [h2] at h1
    omega

theorem lastI_succ {ts : List Tok} {m : Nat} {t : Tok} (ht : ts[m]? = some t) : lastI ts (m + 1) = (t.at_ : Int) := by
  unfold lastI
  rw [if_neg (by omega), Nat.add_sub_cancel, List.getD_eq_getElem?_getD, ht]
  rfl

def PlRel (ts : List Tok) (w1 : World) (m : Nat) (last : Value) (wr : World) : Prop := last = .int .i64 (lastI ts m) ∧ Below w1.heap.size w1 wr

/-- the copy of a token that a round makes -/
structure TokCopy (wr w2 : World) (q : Nat) (kd : Int) (tx : ByteArray) (nm a : Int) : Prop where
  below : Below wr.heap.size wr w2
  e0 : w2.cell? ⟨q, 0, none⟩ = some (.int .u8 kd)
  e1 : w2.cell? ⟨q, 1, none⟩ = some (.string tx)
  e2 : w2.cell? ⟨q, 2, none⟩ = some (.int .i64 nm)
  e3 : w2.cell? ⟨q, 3, none⟩ = some (.int .i64 a)
  lt : q < w2.heap.size

theorem tokCopy_mk {wr w2 : World} {q : Nat} {kd : Int} {tx : ByteArray} {nm a : Int} (hq : wr.heap.size = q) (hw : wr.alloc (.cells #[.int .u8 kd, .string tx, .int .i64 nm, .int .i64 a] 37) = w2) : TokCopy wr w2 q kd tx nm a := by
  subst hq hw
  have h := heap_alloc_new wr (.cells #[.int .u8 kd, .string tx, .int .i64 nm, .int .i64 a] 37 (0, 0))
  exact ⟨(Below.refl _ _).alloc (Nat.le_refl _) _, cell_of_heap h rfl, cell_of_heap h rfl, cell_of_heap h rfl, cell_of_heap h rfl, lt_of_heap h⟩

theorem pl_step {ts : List Tok} {w1 wr w2 : World} {m n : Nat} {l : Int} (hl : lastI ts (m + 1) = l) (hb : Below w1.heap.size w1 wr) (hb2 : Below wr.heap.size wr w2) (hlt : m < n) {x : Int} (hx : x = (m : Int) + 1) :
    (∃ m', m' ≤ n ∧ Value.int .i64 x = .int .i64 (m' : Int) ∧ PlRel ts w1 m' (.int .i64 l) w2) ∧ n - (intOf (.int .i64 x)).toNat < n - (intOf (.int .i64 (m : Int))).toNat := by
  subst hx
  refine ⟨⟨m + 1, hlt, by simp, by rw [hl], hb.trans (hb2.mono hb.size)⟩, by simp [intOf]; omega⟩

set_option maxRecDepth 100000 in
set_option maxHeartbeats 4000000 in
theorem places_err (s : ByteArray) (w : World) (hg : Glob w) (h10 : 10 ≤ w.heap.size) (a c : Nat) (he : lexed s.data.toList = .err a c) :
    Calls Tryd.prog 6 #[.string s] w fun e w' => e = .returned (.bool true) ∧ Below w.heap.size w w' := by
  have hl := lex_11 s w hg h10
  have HL := Lib.hid hl
  have HG := Lib.hid hg
  have HE := Lib.hid he
  obtain ⟨h1, h2, h3⟩ := lexed_err he
  rw [len_list] at h2
  clear hl hg he
  have hne : ((c : Int) != 0) = true := by simp; omega
  have hd1 : decide ((a : Int) ≤ 16384) = true := by simp; omega
  go_enter Tryd.func6, Tryd.ntmps6
  go_wp2_with fail
  refine HL.out.mono ?_
  intro e w1 hp
  rw [LexPost, HE.out] at hp
  obtain ⟨rfl, hb⟩ := hp
  have hk := known_13 w1 (HG.out.below hb h10) (by have := hb.size; omega)
  have HK := Lib.hid hk
  have HB := Lib.hid hb
  clear hk hb
  go_wp2_with fail
  refine HK.out.mono ?_
  rintro _ w2 ⟨rfl, hb2⟩
  have HB2 := Lib.hid (HB.out.trans (hb2.mono HB.out.size))
  clear hb2
  by_cases hlt : a < s.size
  · have hd2 : decide ((a : Int) < (s.size : Int)) = true := by simpa using hlt
    go_wp2_with fail
    go_ret
    exact ⟨rfl, HB2.out⟩
  · have hd2 : decide ((a : Int) < (s.size : Int)) = false := by simpa using hlt
    have hc : c = 162 := by omega
    subst hc
    go_wp2_with fail
    go_ret
    exact ⟨rfl, HB2.out⟩

set_option maxRecDepth 100000 in
set_option maxHeartbeats 8000000 in
theorem places_ok (s : ByteArray) (w : World) (hg : Glob w) (h10 : 10 ≤ w.heap.size) (ts : List Tok) (he : lexed s.data.toList = .ok ts) :
    Calls Tryd.prog 6 #[.string s] w fun e w' => e = .returned (.bool true) ∧ Below w.heap.size w w' := by
  have hl := lex_11 s w hg h10
  have HL := Lib.hid hl
  have HG := Lib.hid hg
  have HE := Lib.hid he
  obtain ⟨h1, h2, h3⟩ := lexed_ok he
  rw [len_list] at h1
  have HS := Lib.hid h2
  have HPW := Lib.hid h3
  clear hl hg he h2 h3
  go_enter Tryd.func6, Tryd.ntmps6
  go_wp2_with fail
  refine HL.out.mono ?_
  intro e w1 hp
  rw [LexPost, HE.out] at hp
  obtain ⟨v, rfl, ho, hb⟩ := hp
  obtain ⟨va, vc, rfl⟩ := ownsRow_slice ho
  have HO := Lib.hid ho
  have HB := Lib.hid hb
  obtain ⟨n, hn⟩ : ∃ n, ts.length = n := ⟨_, rfl⟩
  rw [hn]
  have HN := Lib.hid hn
  have hn4 : n ≤ 9223372036854775807 := by
    rcases ho.2 with ⟨-, h⟩ | ⟨g, cap, cur, -, -, -, h5, h6, -⟩
    · omega
    · unfold maxLen at h6; omega
  clear ho hb hn HL
  go_wp2_with fail
  go_loopw [6, 7] (fun l i wr => ∃ m : Nat, m ≤ n ∧ i = .int .i64 m ∧ PlRel ts w1 m l wr) (fun _ i _ => n - (intOf i).toNat)
  case atStart => exact ⟨0, Nat.zero_le _, rfl, rfl, Below.refl _ _⟩
  case round =>
    obtain ⟨m, hm, rfl, rfl, hbr⟩ := hrel
    have HBR := Lib.hid hbr
    rcases Nat.lt_or_ge m n with hlt | hge
    · have hd : decide ((m : Int) < (n : Int)) = true := by simpa using hlt
      obtain ⟨t, ht⟩ : ∃ t, ts[m]? = some t := ⟨_, List.getElem?_eq_getElem (by have := HN.out; omega)⟩
      obtain ⟨b, rfl⟩ : ∃ b, va = some ⟨b, 0, none⟩ := by
        rcases HO.out.2 with ⟨-, h⟩ | ⟨g, cap, cur, h, -⟩
        · have := HN.out; omega
        · cases h; exact ⟨g, rfl⟩
      obtain ⟨hbl, -, -, hc⟩ := ownsRow_heap HO.out
      obtain ⟨a0, a1, a2, a3⟩ := toksc_at ts m t ht
      have hlast := lastI_lt HPW.out ht
      have HLS := Lib.hid (lastI_succ ht)
      have hst := HS.out t (List.mem_of_getElem? ht)
      obtain ⟨x0, xs, hx, -⟩ := drop_cons (s := s) (j := t.at_) (by have := hst.1; rwa [len_list] at this)
      have hkd := stands_kind hst hx
      have hat : t.at_ < s.size := by have := hst.1; rwa [len_list] at this
      have hget := get_of_drop hx hat
      have c0 := (hbr.cell (p := ⟨b, m * 4, none⟩) hbl).trans (hc _ _ a0)
      have c1 := (hbr.cell (p := ⟨b, m * 4 + 1, none⟩) hbl).trans (hc _ _ a1)
      have c2 := (hbr.cell (p := ⟨b, m * 4 + 2, none⟩) hbl).trans (hc _ _ a2)
      have c3 := (hbr.cell (p := ⟨b, m * 4 + 3, none⟩) hbl).trans (hc _ _ a3)
      have HX := Lib.hid hx
      obtain ⟨kd, tx, nm, at_⟩ := t
      simp only [] at c0 c1 c2 c3 hlast hkd hat hget HX HLS
      have dl : decide ((at_ : Int) ≤ lastI ts m) = false := by simp; omega
      have ds : decide ((s.size : Int) ≤ (at_ : Int)) = false := by simp; omega
      have i0 : (0 : Int) ≤ (at_ : Int) := by omega
      have i1 : (at_ : Int) < (s.size : Int) := by omega
      clear hc a0 a1 a2 a3 ht hst hx hbr
      generalize lastI ts m = L at dl hlast ⊢
      rcases hkd with ⟨rfl, hdg, h39⟩ | ⟨rfl, hdg, h39, hwd⟩ | ⟨rfl, hdg, h39⟩ | ⟨rfl, hdg, h39, hpre⟩
      · obtain ⟨g1, g2⟩ := dig_iff hdg
        have e1 : decide ((48 : Int) ≤ (x0.toNat : Int)) = true := by simp; omega
        have e2 : decide ((x0.toNat : Int) ≤ 57) = true := by simp; omega
        have e3 : ((x0.toNat : Int) == 39) = false := by simp; omega
        clear hdg h39
        go_wp2_with fail
        generalize hw2 : World.alloc _ _ = w2
        obtain ⟨q, hq⟩ : ∃ q, wr.heap.size = q := ⟨_, rfl⟩
        have htc := tokCopy_mk hq hw2
        rw [hq]
        obtain ⟨tb, t0, t1, t2, t3, tq⟩ := htc
        have HTB := Lib.hid tb
        clear hw2 hq tb c0 c1 c2 c3
        go_quiet (fail)
        go_wp2_with fail
        exact pl_step HLS.out HBR.out (Go.Pen.below_drewN HTB.out) hlt rfl
      · have hnd : decide ((48 : Int) ≤ (x0.toNat : Int)) = false ∨ (decide ((48 : Int) ≤ (x0.toNat : Int)) = true ∧ decide ((x0.toNat : Int) ≤ 57) = false) := by
          simp [dig] at hdg; simp; omega
        have e3 : ((x0.toNat : Int) == 39) = false := by simp; omega
        have hwo := word_18 ⟨tx.toArray⟩
        have hwe : wordB (⟨tx.toArray⟩ : ByteArray).data.toList = true := hwd
        rw [hwe] at hwo
        have HW := Lib.hid hwo
        clear hdg h39 hwd hwo hwe
        rcases hnd with e1 | ⟨e1, e2⟩ <;> (
        go_wp2_with fail
        generalize hw2 : World.alloc _ _ = w2
        obtain ⟨q, hq⟩ : ∃ q, wr.heap.size = q := ⟨_, rfl⟩
        have htc := tokCopy_mk hq hw2
        rw [hq]
        obtain ⟨tb, t0, t1, t2, t3, tq⟩ := htc
        have HTB := Lib.hid tb
        clear hw2 hq tb c0 c1 c2 c3
        go_quiet (fail)
        go_wp2_with fail
        refine (HW.out _).mono ?_
        rintro _ w3 ⟨rfl, hb3⟩
        have HB3 := Lib.hid (HTB.out.trans ((below_undrewN hb3).mono HTB.out.size))
        clear hb3
        go_wp2_with fail
        exact pl_step HLS.out HBR.out HB3.out hlt rfl)
      · have e1 : decide ((48 : Int) ≤ (x0.toNat : Int)) = false := by simp; omega
        have e3 : ((x0.toNat : Int) == 39) = true := by simp; omega
        clear hdg h39
        go_wp2_with fail
        generalize hw2 : World.alloc _ _ = w2
        obtain ⟨q, hq⟩ : ∃ q, wr.heap.size = q := ⟨_, rfl⟩
        have htc := tokCopy_mk hq hw2
        rw [hq]
        obtain ⟨tb, t0, t1, t2, t3, tq⟩ := htc
        have HTB := Lib.hid tb
        clear hw2 hq tb c0 c1 c2 c3
        go_quiet (fail)
        go_wp2_with fail
        exact pl_step HLS.out HBR.out (Go.Pen.below_drewN HTB.out) hlt rfl
      · have hnd : decide ((48 : Int) ≤ (x0.toNat : Int)) = false ∨ (decide ((48 : Int) ≤ (x0.toNat : Int)) = true ∧ decide ((x0.toNat : Int) ≤ 57) = false) := by
          simp [dig] at hdg; simp; omega
        have e3 : ((x0.toNat : Int) == 39) = false := by simp; omega
        have hpl := hpre.length_le
        rw [← HX.out, List.length_drop, len_list] at hpl
        have hext : s.extract at_ (at_ + tx.length) = ⟨tx.toArray⟩ := by
          rw [ext_to, Nat.add_sub_cancel_left, HX.out, ← List.prefix_iff_eq_take.1 hpre]
        have hsz : (⟨tx.toArray⟩ : ByteArray).size = tx.length := by simp [ByteArray.size]
        have dq : decide ((s.size : Int) - (at_ : Int) < (tx.length : Int)) = false := by simp; omega
        have b1 : IntKind.i64.wrap ((at_ : Int) + (tx.length : Int)) = (at_ : Int) + (tx.length : Int) := IntWalk.i64_in _ (by omega)
        have b2 : IntKind.i64.wrap ((s.size : Int) - (at_ : Int)) = (s.size : Int) - (at_ : Int) := IntWalk.i64_in _ (by omega)
        have b3 : (at_ : Int) ≤ (at_ : Int) + (tx.length : Int) := by omega
        have b4 : (at_ : Int) + (tx.length : Int) ≤ (s.size : Int) := by omega
        have b5 : ((at_ : Int) + (tx.length : Int)).toNat = at_ + tx.length := by omega
        clear hdg h39 hpre hpl
        rcases hnd with e1 | ⟨e1, e2⟩ <;> (
        go_wp2_with fail
        generalize hw2 : World.alloc _ _ = w2
        obtain ⟨q, hq⟩ : ∃ q, wr.heap.size = q := ⟨_, rfl⟩
        have htc := tokCopy_mk hq hw2
        rw [hq]
        obtain ⟨tb, t0, t1, t2, t3, tq⟩ := htc
        have HTB := Lib.hid tb
        clear hw2 hq tb c0 c1 c2 c3
        go_quiet (fail)
        clear b1 b2 b5 hext
        go_wp2_with fail
        exact pl_step HLS.out HBR.out (Go.Pen.below_drewN HTB.out) hlt rfl)
    · have hd : decide ((m : Int) < (n : Int)) = false := by simp; omega
      have hk := known_13 wr (HG.out.below (HB.out.trans (hbr.mono HB.out.size)) h10) (by have := HB.out.size; have := hbr.size; omega)
      have HK := Lib.hid hk
      clear hk hbr
      go_wp2_with fail
      refine HK.out.mono ?_
      rintro _ w2 ⟨rfl, hb2⟩
      go_wp2_with fail
      go_ret
      exact ⟨rfl, HB.out.trans ((HBR.out.trans (hb2.mono HBR.out.size)).mono HB.out.size)⟩
end Go.Proofs.YtpjfkfbijimliaaDoor
