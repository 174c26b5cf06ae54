import Derived.Test.YtpjfkfbijimliaaGreatDoorO
namespace Go.Proofs.YtpjfkfbijimliaaGreatDoor
open Go.RowKit Go.Pen

theorem tw_all (p : UInt8 → Bool) : ∀ (l : Bytes), ∀ x ∈ l.takeWhile p, p x = true
  | [], x, hx => by simp at hx
  | c :: cs, x, hx => by
    rw [List.takeWhile_cons] at hx
    split at hx
    · rename_i h
      rcases List.mem_cons.1 hx with rfl | hx
      · exact h
      · exact tw_all p cs x hx
    · simp at hx

def tokv (t : Tok) : Value := .agg #[.int .u8 t.kind, .string ⟨t.text.toArray⟩, .int .i64 t.number, .int .i64 t.at_]
def noTok (k : Nat) : Value := .agg #[.int .u8 0, .string ⟨#[]⟩, .int .i64 0, .int .i64 k]

def TokPost (B : Nat) (s : ByteArray) (k : Nat) (w : World) (e : Ending) (w' : World) : Prop :=
  match tok k (s.data.toList.drop k) with
  | .ok (t, m) => e = .returned (.tuple #[tokv t, .int .u16 0]) ∧ Moved B s (k + m) w w'
  | .error c => e = .returned (.tuple #[noTok k, .int .u16 c]) ∧ ∃ k', Moved B s k' w w'

theorem moved_drew1 {B : Nat} {s : ByteArray} {j : Nat} {w wr : World} (h : Moved B s j w wr) : Moved B s j w wr.drew := ⟨h.below.drew, h.lex, h.rest⟩

theorem moved_hi {B : Nat} {s : ByteArray} {k g o : Nat} {v : Value} {w w' : World} (h : Moved B s k w w') (hg : w.heap.size ≤ g) (hB : B < w.heap.size) : Moved B s k w (w'.setCell ⟨g, o, none⟩ v) := by
  refine ⟨h.below.setCell (by show B ≤ g; omega) _, ?_, fun x hx hne => ?_⟩
  · show (World.setCell _ _ _).heap[B]? = _
    rw [heap_set_ne (by omega)]; exact h.lex
  · rw [heap_set_ne (by omega)]; exact h.rest x hx hne

theorem moved_from {B : Nat} {s : ByteArray} {k : Nat} {w w1 w2 : World} (hb : Below w.heap.size w w1) (hB : B < w.heap.size) (h : Moved B s k w1 w2) : Moved B s k w w2 := by
  refine ⟨(hb.mono (Nat.le_of_lt hB)).trans h.below, h.lex, fun x hx hne => ?_⟩
  rw [h.rest x (Nat.lt_of_lt_of_le hx hb.size) hne]
  exact hb.block x hx

def zTok : Obj := .cells #[.int .u8 0, .string ⟨#[]⟩, .int .i64 0, .int .i64 0] 34 (0, 0)
def kTok (k : Nat) : Obj := .cells #[.int .u8 0, .string ⟨#[]⟩, .int .i64 0, .int .i64 k] 34 (0, 0)
/-- the two tokens that the call has made -/
def Two (w : World) (H k : Nat) : Prop := w.heap[H]? = some zTok ∧ w.heap[H + 1]? = some (kTok k)

theorem Two.below {w w' : World} {H k : Nat} (h : Two w H k) (hb : Below w.heap.size w w') : Two w' H k :=
  ⟨(hb.block H (lt_of_heap h.1)).trans h.1, (hb.block (H + 1) (lt_of_heap h.2)).trans h.2⟩
theorem Two.moved {w w' : World} {H k B : Nat} {s : ByteArray} {j : Nat} (h : Two w H k) (hb : Moved B s j w w') (hB : B < H) : Two w' H k :=
  ⟨(hb.rest H (lt_of_heap h.1) (by omega)).trans h.1, (hb.rest (H + 1) (lt_of_heap h.2) (by omega)).trans h.2⟩

structure TwoCells (w : World) (H k : Nat) : Prop where
  a0 : w.cell? ⟨H, 0, none⟩ = some (.int .u8 0)
  a1 : w.cell? ⟨H, 1, none⟩ = some (.string ⟨#[]⟩)
  a2 : w.cell? ⟨H, 2, none⟩ = some (.int .i64 0)
  a3 : w.cell? ⟨H, 3, none⟩ = some (.int .i64 0)
  b0 : w.cell? ⟨H + 1, 0, none⟩ = some (.int .u8 0)
  b1 : w.cell? ⟨H + 1, 1, none⟩ = some (.string ⟨#[]⟩)
  b2 : w.cell? ⟨H + 1, 2, none⟩ = some (.int .i64 0)
  b3 : w.cell? ⟨H + 1, 3, none⟩ = some (.int .i64 k)
  fa : ∀ o, w.frozen? ⟨H, o, none⟩ = false
  fb : ∀ o, w.frozen? ⟨H + 1, o, none⟩ = false

theorem Two.cells {w : World} {H k : Nat} (h : Two w H k) : TwoCells w H k :=
  ⟨cell_of_heap h.1 rfl, cell_of_heap h.1 rfl, cell_of_heap h.1 rfl, cell_of_heap h.1 rfl, cell_of_heap h.2 rfl, cell_of_heap h.2 rfl, cell_of_heap h.2 rfl, cell_of_heap h.2 rfl, fun _ => frozen_of_heap h.1, fun _ => frozen_of_heap h.2⟩

set_option maxRecDepth 100000 in
set_option maxHeartbeats 4000000 in
theorem token_25 (B : Nat) (s : ByteArray) (k : Nat) (w : World) (hB : LexIs w B s k) (hk : k < s.size) (hs : s.size ≤ 16384) (hg : Glob w) (h11 : 10 ≤ B) :
    Calls Tryz.prog 33 #[.pointer (some ⟨B, 0, none⟩)] w (TokPost B s k w) := by
  obtain ⟨H, hH⟩ : ∃ H, w.heap.size = H := ⟨_, rfl⟩
  have hBH : B < H := hH ▸ lt_of_heap hB
  have HH := Lib.hid hH
  have HG := Lib.hid hg
  have hc0 : w.cell? ⟨B, 0, none⟩ = some (.string s) := cell_of_heap hB rfl
  have hc1 : w.cell? ⟨B, 1, none⟩ = some (.int .i64 k) := cell_of_heap hB rfl
  have hBl : B < w.heap.size := lt_of_heap hB
  obtain ⟨c, cs, hcs, -⟩ := drop_cons hk
  have hget := get_of_drop hcs hk
  have HC := Lib.hid hcs
  clear hg hH hcs
  go_enter Tryz.func33, Tryz.ntmps33
  go_wp2_with fail
  go_quiet (fail)
  go_wp2_with fail
  rw [HH.out]
  generalize hw1 : World.drewN _ _ = w1
  have hb1 : Below w.heap.size w w1 := by
    rw [← hw1]
    exact Go.Pen.below_drewN (((Below.refl _ _).alloc (Nat.le_refl _) _).alloc (by simp) _)
  have ht1 : Two w1 H k := by
    rw [← hw1, ← HH.out]
    refine ⟨?_, ?_⟩
    · show ((World.alloc _ _).alloc _).heap[w.heap.size]? = _
      rw [Below.heap_alloc _ _ _ (by simp)]
      exact heap_alloc_new w _
    · have hz : (w.alloc zTok).heap.size = w.heap.size + 1 := by simp
      rw [← hz]
      exact heap_alloc_new (w.alloc zTok) _
  have hL1 : LexIs w1 B s k := (hb1.block B hBl).trans hB
  have HB1 := Lib.hid hb1
  have HT1 := Lib.hid ht1
  clear hw1 hc0 hc1 hget hb1 ht1 hBl
  have hBw : B < w.heap.size := lt_of_heap hB
  refine (digit_33 c w1).mono ?_
  rintro _ wx ⟨rfl, hwx⟩
  rw [hwx]
  clear hwx
  cases hdg : dig c
  · go_wp2_with fail
    refine (letter_34 c w1).mono ?_
    rintro _ wx ⟨rfl, hwx⟩
    rw [hwx]
    clear hwx
    cases hlt : let_ c
    · by_cases h39 : c.toNat = 39
      · have he39 : ((c.toNat : Int) == 39) = true := by simp; omega
        have htx := text_44 B s k w1 hL1 hk hs (HG.out.below HB1.out (by omega)) h11
        have HX := Lib.hid htx
        have HT : Hid (tok k (s.data.toList.drop k) = match txr (s.data.toList.drop (k + 1)) with
            | .error e => .error e
            | .ok (t, n) => .ok (⟨3, t, 0, k⟩, n + 1)) := Lib.hid (by
          have h1 : s.data.toList.drop (k + 1) = cs := by
            have := congrArg List.tail HC.out
            rwa [List.tail_drop] at this
          rw [h1, HC.out, tok, hdg, if_neg (by decide), hlt, if_neg (by decide), if_pos h39]
          cases txr cs <;> rfl)
        clear htx h39
        go_wp2_with fail
        refine HX.out.mono ?_
        intro e w2 hp
        rw [TxtPost] at hp
        cases htr : txr (s.data.toList.drop (k + 1)) with
        | error x =>
          rw [htr] at hp
          have HT' := HT.out
          rw [htr] at HT'
          have HT2 := Lib.hid HT'
          have hx : x = 161 ∨ x = 162 := by
            rw [txr] at htr
            split at htr
            · cases htr; exact .inl rfl
            · split at htr
              · cases htr; exact .inl rfl
              · split at htr
                · cases htr; exact .inr rfl
                · cases htr
          obtain ⟨rfl, k', hm2⟩ := hp
          have hm3 := moved_from HB1.out hBw hm2
          obtain ⟨a0, a1, a2, a3, b0, b1, b2, b3, fa, fb⟩ := (HT1.out.moved hm2 hBH).cells
          have fa0 := fa 0
          have fa1 := fa 1
          have fa2 := fa 2
          have fa3 := fa 3
          clear fa fb HT HT' htr hm2
          have hq' : w.heap.size ≤ H := by have := HH.out; omega
          have HQ := Lib.hid hq'
          clear hq'
          rcases hx with rfl | rfl
          · go_wp2_with fail
            refine bodyPost_ret (v := .tuple #[noTok k, .int .u16 161]) (by simp [results, Tryz.results33, go_sem, noTok, a0, a1, a2, a3]) rfl ?_
            rw [TokPost, HT2.out]
            exact ⟨rfl, _, moved_hi (moved_hi (moved_hi (moved_hi hm3 HQ.out hBw) HQ.out hBw) HQ.out hBw) HQ.out hBw⟩
          · go_wp2_with fail
            refine bodyPost_ret (v := .tuple #[noTok k, .int .u16 162]) (by simp [results, Tryz.results33, go_sem, noTok, a0, a1, a2, a3]) rfl ?_
            rw [TokPost, HT2.out]
            exact ⟨rfl, _, moved_hi (moved_hi (moved_hi (moved_hi hm3 HQ.out hBw) HQ.out hBw) HQ.out hBw) HQ.out hBw⟩
        | ok tn =>
          obtain ⟨t, n⟩ := tn
          rw [htr] at hp
          have HT' := HT.out
          rw [htr] at HT'
          have HT2 := Lib.hid HT'
          obtain ⟨rfl, hm2⟩ := hp
          have hm3 := moved_from HB1.out hBw hm2
          obtain ⟨a0, a1, a2, a3, b0, b1, b2, b3, fa, fb⟩ := (HT1.out.moved hm2 hBH).cells
          have fa0 := fa 0
          have fa1 := fa 1
          have fa2 := fa 2
          have fa3 := fa 3
          have fb0 := fb 0
          have fb1 := fb 1
          clear fa fb HT HT' htr hm2
          have HM3 := Lib.hid hm3
          clear hm3
          go_wp2_with fail
          refine bodyPost_ret (v := .tuple #[tokv ⟨3, t, 0, k⟩, .int .u16 0]) (by simp [results, Tryz.results33, go_sem, tokv, a0, a1, a2, a3]) rfl ?_
          rw [TokPost, HT2.out]
          refine ⟨rfl, ?_⟩
          have hq : w.heap.size ≤ H + 1 := by have := HH.out; omega
          have hq' : w.heap.size ≤ H := by have := HH.out; omega
          rw [show k + (n + 1) = k + 1 + n by omega]
          exact moved_hi (moved_hi (moved_hi (moved_hi (moved_hi (moved_hi HM3.out hq hBw) hq hBw) hq' hBw) hq' hBw) hq' hBw) hq' hBw
      · have he39 : ((c.toNat : Int) == 39) = false := by simp; omega
        have hsn := sign_39 B s k w1 hL1 (Nat.le_of_lt hk) (HG.out.below HB1.out (by omega)).spaces
        obtain ⟨S, hS⟩ : ∃ S, sgn (s.data.toList.drop k) = S := ⟨_, rfl⟩
        rw [hS] at hsn
        have HX := Lib.hid hsn
        have hSl : S.length ≤ s.size - k := by
          have := (sgn_prefix (s.data.toList.drop k)).length_le
          rw [hS, List.length_drop, len_list] at this
          exact this
        have HT2 : Hid (tok k (s.data.toList.drop k) = .ok (⟨4, S, 0, k⟩, S.length)) := Lib.hid (by
          rw [← hS, HC.out, tok, hdg, if_neg (by decide), hlt, if_neg (by decide), if_neg h39])
        clear hsn hS h39
        go_wp2_with fail
        refine HX.out.mono ?_
        rintro _ w2 ⟨rfl, hb2⟩
        have hm2 := moved_below (Moved.refl hL1) hb2
        have hm3 := moved_from HB1.out hBw hm2
        have ht2 := HT1.out.moved hm2 hBH
        obtain ⟨a0, a1, a2, a3, b0, b1, b2, b3, fa, fb⟩ := ht2.cells
        have fb0 := fb 0
        have fb1 := fb 1
        have HT3 := Lib.hid ht2
        have HM3 := Lib.hid hm3
        clear fa fb hb2 hm2 hm3 ht2 a0 a1 a2 a3
        go_wp2_with fail
        generalize hw3 : World.setCell _ _ _ = w3
        have hq : w.heap.size ≤ H + 1 := by have := HH.out; omega
        have hq' : w.heap.size ≤ H := by have := HH.out; omega
        have hm4 : Moved B s k w w3 := by
          rw [← hw3]; exact moved_hi (moved_hi HM3.out hq hBw) hq hBw
        have e1 : w3.heap[H]? = some zTok := by
          rw [← hw3, heap_set_ne (by omega), heap_set_ne (by omega)]; exact HT3.out.1
        have e2 : w3.heap[H + 1]? = some (.cells #[.int .u8 4, .string ⟨S.toArray⟩, .int .i64 0, .int .i64 k] 34 (0, 0)) := by
          rw [← hw3]; exact heap_set_same (heap_set_same HT3.out.2)
        clear hw3 b0 b1 b2 b3 fb0 fb1
        have hL2 := hm4.lex
        have l1 : w3.cell? ⟨B, 1, none⟩ = some (.int .i64 k) := cell_of_heap hL2 rfl
        have fl1 : w3.frozen? ⟨B, 1, none⟩ = false := frozen_of_heap hL2
        have a0 : w3.cell? ⟨H, 0, none⟩ = some (.int .u8 0) := cell_of_heap e1 rfl
        have a1 : w3.cell? ⟨H, 1, none⟩ = some (.string ⟨#[]⟩) := cell_of_heap e1 rfl
        have a2 : w3.cell? ⟨H, 2, none⟩ = some (.int .i64 0) := cell_of_heap e1 rfl
        have a3 : w3.cell? ⟨H, 3, none⟩ = some (.int .i64 0) := cell_of_heap e1 rfl
        have fa0 : w3.frozen? ⟨H, 0, none⟩ = false := frozen_of_heap e1
        have fa1 : w3.frozen? ⟨H, 1, none⟩ = false := frozen_of_heap e1
        have fa2 : w3.frozen? ⟨H, 2, none⟩ = false := frozen_of_heap e1
        have fa3 : w3.frozen? ⟨H, 3, none⟩ = false := frozen_of_heap e1
        have b0 : w3.cell? ⟨H + 1, 0, none⟩ = some (.int .u8 4) := cell_of_heap e2 rfl
        have b1 : w3.cell? ⟨H + 1, 1, none⟩ = some (.string ⟨S.toArray⟩) := cell_of_heap e2 rfl
        have b2 : w3.cell? ⟨H + 1, 2, none⟩ = some (.int .i64 0) := cell_of_heap e2 rfl
        have b3 : w3.cell? ⟨H + 1, 3, none⟩ = some (.int .i64 k) := cell_of_heap e2 rfl
        have hn1 : B ≠ H + 1 := by omega
        have hn2 : B ≠ H := by omega
        have HM4 := Lib.hid hm4
        clear hm4 hL2 e1 e2
        have hsz : (⟨S.toArray⟩ : ByteArray).size = S.length := by simp [ByteArray.size]
        have hwr : IntKind.i64.wrap ((k : Int) + (S.length : Int)) = (k : Int) + (S.length : Int) := IntWalk.i64_in _ (by omega)
        go_region
        go_wp2_with fail
        refine bodyPost_ret (v := .tuple #[tokv ⟨4, S, 0, k⟩, .int .u16 0]) (by simp [results, Tryz.results33, go_sem, tokv, a0, a1, a2, a3]) rfl ?_
        rw [TokPost, HT2.out]
        refine ⟨rfl, ?_⟩
        refine moved_drew1 (moved_hi (moved_hi (moved_hi (moved_hi ?_ hq' hBw) hq' hBw) hq' hBw) hq' hBw)
        exact moved_put HM4.out (by omega)
    · have hle := run_le ldg (s.data.toList.drop k)
      rw [List.length_drop, len_list] at hle
      obtain ⟨D, hD⟩ : ∃ D, (s.data.toList.drop k).takeWhile ldg = D := ⟨_, rfl⟩
      have hrun := run_41_42 B s k w1 hL1 (Nat.le_of_lt hk) hs
      rw [hD] at hle hrun
      have HT : Hid (tok k (s.data.toList.drop k) = if 32 < D.length then .error 162 else .ok (⟨1, D.map low, 0, k⟩, D.length)) := Lib.hid (by
        rw [← hD, HC.out, tok, hdg, if_neg (by decide), hlt, if_pos rfl])
      have HR := Lib.hid hrun
      clear hrun hD
      have hsz : (⟨D.toArray⟩ : ByteArray).size = D.length := by simp [ByteArray.size]
      go_wp2_with fail
      refine HR.out.mono ?_
      rintro _ w2 ⟨rfl, hm2⟩
      have hm2w := moved_from HB1.out hBw hm2
      have ht2 := HT1.out.moved hm2 hBH
      have HT3 := Lib.hid ht2
      by_cases hbig : 32 < D.length
      · have hd : decide ((32 : Int) < (D.length : Int)) = true := by simp; omega
        have HT' := HT.out
        rw [if_pos hbig] at HT'
        have HT2 := Lib.hid HT'
        obtain ⟨a0, a1, a2, a3, b0, b1, b2, b3, fa, fb⟩ := ht2.cells
        have fa0 := fa 0
        have fa1 := fa 1
        have fa2 := fa 2
        have fa3 := fa 3
        clear fa fb ht2 HT HT' hm2
        have HM3 := Lib.hid hm2w
        clear hm2w
        go_wp2_with fail
        refine bodyPost_ret (v := .tuple #[noTok k, .int .u16 162]) (by simp [results, Tryz.results33, go_sem, noTok, a0, a1, a2, a3]) rfl ?_
        rw [TokPost, HT2.out]
        have hq' : w.heap.size ≤ H := by have := HH.out; omega
        exact ⟨rfl, _, moved_hi (moved_hi (moved_hi (moved_hi HM3.out hq' hBw) hq' hBw) hq' hBw) hq' hBw⟩
      · have hd : decide ((32 : Int) < (D.length : Int)) = false := by simp; omega
        have HT' := HT.out
        rw [if_neg hbig] at HT'
        have HT2 := Lib.hid HT'
        have HM2 := Lib.hid hm2w
        have hsm := small_43 ⟨D.toArray⟩ w2 (by omega)
        have HS := Lib.hid hsm
        clear ht2 HT HT' hm2 hm2w hsm
        go_wp2_with fail
        refine HS.out.mono ?_
        rintro _ w3 ⟨rfl, hb3⟩
        have hm3 := moved_below HM2.out hb3
        obtain ⟨a0, a1, a2, a3, b0, b1, b2, b3, fa, fb⟩ := (HT3.out.below hb3).cells
        have fa0 := fa 0
        have fa1 := fa 1
        have fa2 := fa 2
        have fa3 := fa 3
        have fb0 := fb 0
        have fb1 := fb 1
        clear fa fb hb3
        have HM3 := Lib.hid hm3
        clear hm3
        go_wp2_with fail
        refine bodyPost_ret (v := .tuple #[tokv ⟨1, D.map low, 0, k⟩, .int .u16 0]) (by simp [results, Tryz.results33, go_sem, tokv, a0, a1, a2, a3]) rfl ?_
        rw [TokPost, HT2.out]
        refine ⟨rfl, ?_⟩
        have hq : w.heap.size ≤ H + 1 := by have := HH.out; omega
        have hq' : w.heap.size ≤ H := by have := HH.out; omega
        exact moved_hi (moved_hi (moved_hi (moved_hi (moved_hi (moved_hi HM3.out hq hBw) hq hBw) hq' hBw) hq' hBw) hq' hBw) hq' hBw
  · have hall : ∀ x ∈ (s.data.toList.drop k).takeWhile dig, dig x = true := tw_all dig _
    have hne : (s.data.toList.drop k).takeWhile dig ≠ [] := by rw [HC.out, List.takeWhile_cons, hdg]; simp
    have hle := run_le dig (s.data.toList.drop k)
    rw [List.length_drop, len_list] at hle
    obtain ⟨D, hD⟩ : ∃ D, (s.data.toList.drop k).takeWhile dig = D := ⟨_, rfl⟩
    have hrun := run_41_33 B s k w1 hL1 (Nat.le_of_lt hk) hs
    rw [hD] at hall hne hle hrun
    have HT : Hid (tok k (s.data.toList.drop k) = if num D ≤ 9223372036854775807 then .ok (⟨2, [], num D, k⟩, D.length) else .error 162) := Lib.hid (by
      rw [← hD, HC.out, tok, hdg, if_pos rfl])
    have HA := Lib.hid hall
    have HN := Lib.hid hne
    have HR := Lib.hid hrun
    clear hall hne hrun hD
    go_wp2_with fail
    refine HR.out.mono ?_
    rintro _ w2 ⟨rfl, hm2⟩
    go_wp2_with fail
    have hm2w := moved_from HB1.out hBw hm2
    have hg2 := HG.out.below hm2w.below h11
    refine (parse_40 ⟨D.toArray⟩ w2 (by simp [ByteArray.size]; omega) HN.out HA.out hg2.errs).mono ?_
    rintro e w3 ⟨he, hb3⟩
    have hm3 := moved_below hm2w hb3
    have ht3 := (HT1.out.moved hm2 hBH).below hb3
    have hve : (⟨D.toArray⟩ : ByteArray).data.toList = D := rfl
    rw [hve] at he
    clear hg2 hm2 hm2w hb3 hve HR
    obtain ⟨a0, a1, a2, a3, b0, b1, b2, b3, fa, fb⟩ := ht3.cells
    have fa0 := fa 0
    have fa1 := fa 1
    have fa2 := fa 2
    have fa3 := fa 3
    have fb0 := fb 0
    have fb2 := fb 2
    clear fa fb ht3
    by_cases hbig : num D ≤ 9223372036854775807
    · rw [if_pos hbig] at he
      subst he
      have HT' := HT.out
      rw [if_pos hbig] at HT'
      have HT2 := Lib.hid HT'
      obtain ⟨N, hN⟩ : ∃ N, num D = N := ⟨_, rfl⟩
      rw [hN]
      rw [hN] at HT2
      clear HT HT' hbig hN
      go_wp2_with fail
      refine bodyPost_ret (v := .tuple #[tokv ⟨2, [], N, k⟩, .int .u16 0]) (by simp [results, Tryz.results33, go_sem, tokv, a0, a1, a2, a3]) rfl ?_
      rw [TokPost, HT2.out]
      refine ⟨rfl, ?_⟩
      have hq : w.heap.size ≤ H + 1 := by have := HH.out; omega
      have hq' : w.heap.size ≤ H := by have := HH.out; omega
      exact moved_hi (moved_hi (moved_hi (moved_hi (moved_hi (moved_hi hm3 hq hBw) hq hBw) hq' hBw) hq' hBw) hq' hBw) hq' hBw
    · rw [if_neg hbig] at he
      obtain ⟨x, a, rfl⟩ := he
      have HT' := HT.out
      rw [if_neg hbig] at HT'
      have HT2 := Lib.hid HT'
      clear HT HT' hbig
      go_wp2_with fail
      refine bodyPost_ret (v := .tuple #[noTok k, .int .u16 162]) (by simp [results, Tryz.results33, go_sem, noTok, a0, a1, a2, a3]) rfl ?_
      rw [TokPost, HT2.out]
      have hq' : w.heap.size ≤ H := by have := HH.out; omega
      exact ⟨rfl, _, moved_hi (moved_hi (moved_hi (moved_hi hm3 hq' hBw) hq' hBw) hq' hBw) hq' hBw⟩
end Go.Proofs.YtpjfkfbijimliaaGreatDoor
