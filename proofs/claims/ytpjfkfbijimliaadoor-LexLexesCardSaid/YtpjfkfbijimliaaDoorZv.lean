/- The reference's one: a token. -/
import Derived.Test.YtpjfkfbijimliaaDoorZu
import Derived.Test.YtpjfkfbijimliaaDoorQ
namespace Go.Proofs.YtpjfkfbijimliaaDoor
open Go.RowKit Go.Pen

def OneV (k : Nat) (l : Bytes) : Value :=
  match tok k l with
  | .ok (t, m) => .tuple #[tokv t, .int .i64 ((k + m : Nat) : Int), .int .i64 0]
  | .error e => .tuple #[noTok 0, .int .i64 0, .int .i64 (e : Nat)]

theorem oneV_ok {k m : Nat} {l : Bytes} {t : Tok} (h : tok k l = .ok (t, m)) : OneV k l = .tuple #[tokv t, .int .i64 ((k + m : Nat) : Int), .int .i64 0] := by rw [OneV, h]
theorem oneV_err {k e : Nat} {l : Bytes} (h : tok k l = .error e) : OneV k l = .tuple #[noTok 0, .int .i64 0, .int .i64 (e : Nat)] := by rw [OneV, h]

def RunAt (p : UInt8 → Bool) (s : ByteArray) (k j : Nat) : Prop :=
  k ≤ j ∧ j ≤ s.size ∧ j + ((s.data.toList.drop j).takeWhile p).length = k + ((s.data.toList.drop k).takeWhile p).length

theorem runAt_step {p : UInt8 → Bool} {s : ByteArray} {k j : Nat} {c : UInt8} {cs : Bytes} (h : RunAt p s k j) (hlt : j < s.size) (hc : s.data.toList.drop j = c :: cs) (hp : p c = true) : RunAt p s k (j + 1) := by
  obtain ⟨h1, h2, h3⟩ := h
  have hd : s.data.toList.drop (j + 1) = cs := by rw [← List.drop_drop, hc]; rfl
  refine ⟨by omega, hlt, ?_⟩
  rw [← h3, hd, hc, List.takeWhile_cons, hp]
  simp only [if_true, List.length_cons]
  omega

theorem runAt_stop {p : UInt8 → Bool} {s : ByteArray} {k j : Nat} {c : UInt8} {cs : Bytes} (h : RunAt p s k j) (hc : s.data.toList.drop j = c :: cs) (hp : p c = false) : j = k + ((s.data.toList.drop k).takeWhile p).length := by
  rw [← h.2.2, hc, List.takeWhile_cons, hp]; rfl

theorem runAt_end {p : UInt8 → Bool} {s : ByteArray} {k j : Nat} (h : RunAt p s k j) (hge : s.size ≤ j) : j = k + ((s.data.toList.drop k).takeWhile p).length := by
  rw [← h.2.2, List.drop_of_length_le (by rw [len_list]; exact hge)]; rfl

/-- the token that is handed back lies in a block of its own -/
structure OneB (w w1 : World) (q : Nat) : Prop where
  below : Below w.heap.size w w1
  hi : w.heap.size ≤ q
  blk : w1.heap[q]? = some (.cells #[.int .u8 0, .string ⟨#[]⟩, .int .i64 0, .int .i64 0] 37 (0, 0))

theorem OneB.then {w w1 w2 : World} {q : Nat} (h : OneB w w1 q) (hb : Below w1.heap.size w1 w2) : OneB w w2 q :=
  ⟨h.below.trans (hb.mono h.below.size), h.hi, (hb.block q (lt_of_heap h.blk)).trans h.blk⟩

theorem below_set4 {w w1 : World} {q : Nat} (h : OneB w w1 q) (a b c d : Value) : Below w.heap.size w ((((w1.setCell ⟨q, 0, none⟩ a).setCell ⟨q, 1, none⟩ b).setCell ⟨q, 2, none⟩ c).setCell ⟨q, 3, none⟩ d) :=
  (((h.below.setCell h.hi a).setCell h.hi b).setCell h.hi c).setCell h.hi d

set_option maxRecDepth 100000 in
set_option maxHeartbeats 16000000 in
theorem one_30 (s : ByteArray) (k : Nat) (w : World) (hk : k < s.size) (hs : s.size ≤ 16384) :
    Calls Tryd.prog 30 #[.string s, .int .i64 k] w fun e w' => e = .returned (OneV k (s.data.toList.drop k)) ∧ Below w.heap.size w w' := by
  obtain ⟨c, cs, hcs, hcs'⟩ := drop_cons hk
  have hget := get_of_drop hcs hk
  have b1 : (0 : Int) ≤ (k : Int) := by omega
  have b2 : (k : Int) < (s.size : Int) := by omega
  obtain ⟨V, hV⟩ : ∃ V, OneV k (s.data.toList.drop k) = V := ⟨_, rfl⟩
  rw [hV]
  have HV := Lib.hid hV
  have HC := Lib.hid hcs
  have HC' := Lib.hid hcs'
  clear hV hcs hcs'
  go_enter Tryd.func30, Tryd.ntmps30
  go_wp2_with fail
  generalize hw1 : World.alloc _ _ = w1
  obtain ⟨q, hq⟩ : ∃ q, w.heap.size = q := ⟨_, rfl⟩
  have ho1 : OneB w w1 q := by
    refine ⟨by rw [← hw1]; exact (Below.refl _ _).alloc (Nat.le_refl _) _, by omega, ?_⟩
    rw [← hw1, ← hq]; exact heap_alloc_new _ _
  rw [hq]
  have HO := Lib.hid ho1
  clear hw1 ho1 hq
  refine (digit_27 c w1).mono ?_
  rintro _ wx ⟨rfl, hwx⟩
  rw [hwx]
  clear hwx
  cases hdg : dig c
  · go_wp2_with fail
    refine (letter_28 c w1).mono ?_
    rintro _ wx ⟨rfl, hwx⟩
    rw [hwx]
    clear hwx
    cases hlt : let_ c
    · by_cases h39 : c.toNat = 39
      · have he39 : ((c.toNat : Int) == 39) = true := by simp; omega
        have hx := text_48 s k w1 hk hs
        obtain ⟨TV, hTV⟩ : ∃ TV, txtV k (s.data.toList.drop (k + 1)) = TV := ⟨_, rfl⟩
        rw [hTV] at hx
        have HX := Lib.hid hx
        have HTV := Lib.hid hTV
        have HT : Hid (tok k (s.data.toList.drop k) = match txr (s.data.toList.drop (k + 1)) with
            | .error e => .error e
            | .ok (t, n) => .ok (⟨3, t, 0, k⟩, n + 1)) := Lib.hid (by
          rw [HC'.out, HC.out, tok, hdg, if_neg (by decide), hlt, if_neg (by decide), if_pos h39]
          cases txr cs <;> rfl)
        clear hx hTV h39
        cases hta : txt (s.data.toList.drop (k + 1)).length (s.data.toList.drop (k + 1)) with
        | none =>
          have hTV := HTV.out
          rw [txtV_none hta] at hTV
          subst hTV
          have HE : Hid (tok k (s.data.toList.drop k) = .error 161) := Lib.hid (by rw [HT.out, txr, hta])
          clear hta HT
          go_wp2_with fail
          refine HX.out.mono ?_
          rintro _ w2 ⟨rfl, hb2⟩
          have HO2 := Lib.hid (HO.out.then hb2)
          clear hb2
          have f0 : w2.frozen? ⟨q, 0, none⟩ = false := frozen_of_heap HO2.out.blk
          have f1 : w2.frozen? ⟨q, 1, none⟩ = false := frozen_of_heap HO2.out.blk
          have f2 : w2.frozen? ⟨q, 2, none⟩ = false := frozen_of_heap HO2.out.blk
          have f3 : w2.frozen? ⟨q, 3, none⟩ = false := frozen_of_heap HO2.out.blk
          have a0 : w2.cell? ⟨q, 0, none⟩ = some (.int .u8 0) := cell_of_heap HO2.out.blk rfl
          have a1 : w2.cell? ⟨q, 1, none⟩ = some (.string ⟨#[]⟩) := cell_of_heap HO2.out.blk rfl
          have a2 : w2.cell? ⟨q, 2, none⟩ = some (.int .i64 0) := cell_of_heap HO2.out.blk rfl
          have a3 : w2.cell? ⟨q, 3, none⟩ = some (.int .i64 0) := cell_of_heap HO2.out.blk rfl
          go_wp2_with fail
          refine bodyPost_ret (v := .tuple #[noTok 0, .int .i64 0, .int .i64 161]) (by simp [results, Tryd.results30, go_sem, noTok, a0, a1, a2, a3]) rfl ⟨?_, below_set4 HO2.out _ _ _ _⟩
          rw [← HV.out, oneV_err HE.out]
          rfl
        | some p =>
          obtain ⟨t, n⟩ := p
          cases hvd : Lib.validD t with
          | false =>
            have hTV := HTV.out
            rw [txtV_bad hta hvd] at hTV
            subst hTV
            have HE : Hid (tok k (s.data.toList.drop k) = .error 161) := Lib.hid (by rw [HT.out, txr, hta]; simp only []; rw [hvd]; rfl)
            clear hta HT
            go_wp2_with fail
            refine HX.out.mono ?_
            rintro _ w2 ⟨rfl, hb2⟩
            have HO2 := Lib.hid (HO.out.then hb2)
            clear hb2
            have f0 : w2.frozen? ⟨q, 0, none⟩ = false := frozen_of_heap HO2.out.blk
            have f1 : w2.frozen? ⟨q, 1, none⟩ = false := frozen_of_heap HO2.out.blk
            have f2 : w2.frozen? ⟨q, 2, none⟩ = false := frozen_of_heap HO2.out.blk
            have f3 : w2.frozen? ⟨q, 3, none⟩ = false := frozen_of_heap HO2.out.blk
            have a0 : w2.cell? ⟨q, 0, none⟩ = some (.int .u8 0) := cell_of_heap HO2.out.blk rfl
            have a1 : w2.cell? ⟨q, 1, none⟩ = some (.string ⟨#[]⟩) := cell_of_heap HO2.out.blk rfl
            have a2 : w2.cell? ⟨q, 2, none⟩ = some (.int .i64 0) := cell_of_heap HO2.out.blk rfl
            have a3 : w2.cell? ⟨q, 3, none⟩ = some (.int .i64 0) := cell_of_heap HO2.out.blk rfl
            go_wp2_with fail
            refine bodyPost_ret (v := .tuple #[noTok 0, .int .i64 0, .int .i64 161]) (by simp [results, Tryd.results30, go_sem, noTok, a0, a1, a2, a3]) rfl ⟨?_, below_set4 HO2.out _ _ _ _⟩
            rw [← HV.out, oneV_err HE.out]
            rfl
          | true =>
            have hTV := HTV.out
            rw [txtV_ok hta hvd] at hTV
            subst hTV
            have hle := txt_le hta
            rw [List.length_drop, len_list] at hle
            by_cases hlong : 1000 < t.length
            · have HE : Hid (tok k (s.data.toList.drop k) = .error 162) := Lib.hid (by rw [HT.out, txr, hta]; simp only []; rw [hvd, if_neg (by decide), if_pos hlong])
              have hsz : (⟨t.toArray⟩ : ByteArray).size = t.length := by simp [ByteArray.size]
              have dl : decide ((1000 : Int) < (t.length : Int)) = true := by simp; omega
              clear hta HT
              go_wp2_with fail
              refine HX.out.mono ?_
              rintro _ w2 ⟨rfl, hb2⟩
              have HO2 := Lib.hid (HO.out.then hb2)
              clear hb2
              have f0 : w2.frozen? ⟨q, 0, none⟩ = false := frozen_of_heap HO2.out.blk
              have f1 : w2.frozen? ⟨q, 1, none⟩ = false := frozen_of_heap HO2.out.blk
              have f2 : w2.frozen? ⟨q, 2, none⟩ = false := frozen_of_heap HO2.out.blk
              have f3 : w2.frozen? ⟨q, 3, none⟩ = false := frozen_of_heap HO2.out.blk
              have a0 : w2.cell? ⟨q, 0, none⟩ = some (.int .u8 0) := cell_of_heap HO2.out.blk rfl
              have a1 : w2.cell? ⟨q, 1, none⟩ = some (.string ⟨#[]⟩) := cell_of_heap HO2.out.blk rfl
              have a2 : w2.cell? ⟨q, 2, none⟩ = some (.int .i64 0) := cell_of_heap HO2.out.blk rfl
              have a3 : w2.cell? ⟨q, 3, none⟩ = some (.int .i64 0) := cell_of_heap HO2.out.blk rfl
              have dneg : decide (((k + 1 + n : Nat) : Int) < 0) = false := by simp; omega
              go_wp2_with fail
              refine bodyPost_ret (v := .tuple #[noTok 0, .int .i64 0, .int .i64 162]) (by simp [results, Tryd.results30, go_sem, noTok, a0, a1, a2, a3]) rfl ⟨?_, below_set4 HO2.out _ _ _ _⟩
              rw [← HV.out, oneV_err HE.out]
              rfl
            · have HE : Hid (tok k (s.data.toList.drop k) = .ok (⟨3, t, 0, k⟩, n + 1)) := Lib.hid (by rw [HT.out, txr, hta]; simp only []; rw [hvd, if_neg (by decide), if_neg hlong])
              have hsz : (⟨t.toArray⟩ : ByteArray).size = t.length := by simp [ByteArray.size]
              have dl : decide ((1000 : Int) < (t.length : Int)) = false := by simp; omega
              clear hta HT
              go_wp2_with fail
              refine HX.out.mono ?_
              rintro _ w2 ⟨rfl, hb2⟩
              have HO2 := Lib.hid (HO.out.then hb2)
              clear hb2
              have f0 : w2.frozen? ⟨q, 0, none⟩ = false := frozen_of_heap HO2.out.blk
              have f1 : w2.frozen? ⟨q, 1, none⟩ = false := frozen_of_heap HO2.out.blk
              have f2 : w2.frozen? ⟨q, 2, none⟩ = false := frozen_of_heap HO2.out.blk
              have f3 : w2.frozen? ⟨q, 3, none⟩ = false := frozen_of_heap HO2.out.blk
              have a0 : w2.cell? ⟨q, 0, none⟩ = some (.int .u8 0) := cell_of_heap HO2.out.blk rfl
              have a1 : w2.cell? ⟨q, 1, none⟩ = some (.string ⟨#[]⟩) := cell_of_heap HO2.out.blk rfl
              have a2 : w2.cell? ⟨q, 2, none⟩ = some (.int .i64 0) := cell_of_heap HO2.out.blk rfl
              have a3 : w2.cell? ⟨q, 3, none⟩ = some (.int .i64 0) := cell_of_heap HO2.out.blk rfl
              have dneg : decide (((k + 1 + n : Nat) : Int) < 0) = false := by simp; omega
              go_wp2_with fail
              refine bodyPost_ret (v := .tuple #[tokv ⟨3, t, 0, k⟩, .int .i64 ((k + 1 + n : Nat) : Int), .int .i64 0]) (by simp [results, Tryd.results30, go_sem, tokv, a0, a1, a2, a3]) rfl ⟨?_, below_set4 HO2.out _ _ _ _⟩
              rw [← HV.out, oneV_ok HE.out]
              first | rfl | (congr 4; omega) | (simp; omega)
      · have he39 : ((c.toNat : Int) == 39) = false := by simp; omega
        have hx := sign_29 s k w1 (Nat.le_of_lt hk) hs
        obtain ⟨S, hS⟩ : ∃ S, sgn (s.data.toList.drop k) = S := ⟨_, rfl⟩
        rw [hS] at hx
        have HX := Lib.hid hx
        have hSl : S.length ≤ s.size - k := by
          have := (sgn_prefix (s.data.toList.drop k)).length_le
          rw [hS, List.length_drop, len_list] at this
          exact this
        have HE : Hid (tok k (s.data.toList.drop k) = .ok (⟨4, S, 0, k⟩, S.length)) := Lib.hid (by
          rw [← hS, HC.out, tok, hdg, if_neg (by decide), hlt, if_neg (by decide), if_neg h39])
        have hsz : (⟨S.toArray⟩ : ByteArray).size = S.length := by simp [ByteArray.size]
        clear hx hS h39
        go_wp2_with fail
        refine HX.out.mono ?_
        rintro _ w2 ⟨rfl, hb2⟩
        have HO2 := Lib.hid (HO.out.then hb2)
        clear hb2
        have f0 : w2.frozen? ⟨q, 0, none⟩ = false := frozen_of_heap HO2.out.blk
        have f1 : w2.frozen? ⟨q, 1, none⟩ = false := frozen_of_heap HO2.out.blk
        have f2 : w2.frozen? ⟨q, 2, none⟩ = false := frozen_of_heap HO2.out.blk
        have f3 : w2.frozen? ⟨q, 3, none⟩ = false := frozen_of_heap HO2.out.blk
        have a0 : w2.cell? ⟨q, 0, none⟩ = some (.int .u8 0) := cell_of_heap HO2.out.blk rfl
        have a1 : w2.cell? ⟨q, 1, none⟩ = some (.string ⟨#[]⟩) := cell_of_heap HO2.out.blk rfl
        have a2 : w2.cell? ⟨q, 2, none⟩ = some (.int .i64 0) := cell_of_heap HO2.out.blk rfl
        have a3 : w2.cell? ⟨q, 3, none⟩ = some (.int .i64 0) := cell_of_heap HO2.out.blk rfl
        go_wp2_with fail
        refine bodyPost_ret (v := .tuple #[tokv ⟨4, S, 0, k⟩, .int .i64 ((k : Int) + (S.length : Int)), .int .i64 0]) (by simp [results, Tryd.results30, go_sem, tokv, a0, a1, a2, a3]) rfl ⟨?_, below_set4 HO2.out _ _ _ _⟩
        rw [← HV.out, oneV_ok HE.out]
        first | rfl | (congr 4; omega) | (simp; omega)
    · have hrun : RunAt ldg s k k := ⟨Nat.le_refl _, Nat.le_of_lt hk, rfl⟩
      have HRUN := Lib.hid hrun
      clear hrun
      go_wp2_with fail
      go_loopw [8] (fun i wr => ∃ j : Nat, i = .int .i64 j ∧ RunAt ldg s k j ∧ wr = w1) (fun i _ => s.size - (intOf i).toNat)
      case atStart => exact ⟨k, rfl, HRUN.out, rfl⟩
      case round =>
        obtain ⟨j, rfl, hr, hwr⟩ := hrel
        rw [hwr]
        clear hwr HRUN
        have hkj := hr.1
        have hjs := hr.2.1
        have HR := Lib.hid hr
        clear hr
        by_cases hlt2 : j < s.size
        · have hd : decide ((j : Int) < (s.size : Int)) = true := by simp; omega
          obtain ⟨x, xs, hx, -⟩ := drop_cons hlt2
          have hgx := get_of_drop hx hlt2
          have HXX := Lib.hid hx
          clear hx
          go_wp2_with fail
          refine (letter_28 x w1).mono ?_
          rintro _ wx ⟨rfl, hwx⟩
          rw [hwx]
          clear hwx
          cases hlx : let_ x
          · go_wp2_with fail
            refine (digit_27 x w1).mono ?_
            rintro _ wx ⟨rfl, hwx⟩
            rw [hwx]
            clear hwx
            cases hdx : dig x
            · have hj := runAt_stop HR.out HXX.out (by simp [ldg, hlx, hdx])
              obtain ⟨T, hT⟩ : ∃ T, (s.data.toList.drop k).takeWhile ldg = T := ⟨_, rfl⟩
              rw [hT] at hj
              have hjT : j - k = T.length := by omega
              have hext : s.extract k j = ⟨T.toArray⟩ := by rw [← hT]; exact run_ext (by rw [hT]; exact hj)
              have hTs : (⟨T.toArray⟩ : ByteArray).size ≤ 16384 := by simp [ByteArray.size]; omega
              have HTT := Lib.hid hT
              have HJT := Lib.hid hjT
              have HJ := Lib.hid hj
              clear hT hjT hj
              have s1 : (k : Int) ≤ (j : Int) := by omega
              have s2 : (j : Int) ≤ (s.size : Int) := by omega
              by_cases h32 : 32 < T.length
              · have dl : decide ((32 : Int) < (j : Int) - (k : Int)) = true := by have := HJT.out; simp; omega
                have HE : Hid (tok k (s.data.toList.drop k) = .error 162) := Lib.hid (by
                  have := HTT.out
                  rw [HC.out] at this ⊢
                  rw [tok, hdg, if_neg (by decide), if_pos hlt, this, if_pos h32])
                have HO2 := HO
                clear hext hTs
                have f0 : w1.frozen? ⟨q, 0, none⟩ = false := frozen_of_heap HO2.out.blk
                have f1 : w1.frozen? ⟨q, 1, none⟩ = false := frozen_of_heap HO2.out.blk
                have f2 : w1.frozen? ⟨q, 2, none⟩ = false := frozen_of_heap HO2.out.blk
                have f3 : w1.frozen? ⟨q, 3, none⟩ = false := frozen_of_heap HO2.out.blk
                have a0 : w1.cell? ⟨q, 0, none⟩ = some (.int .u8 0) := cell_of_heap HO2.out.blk rfl
                have a1 : w1.cell? ⟨q, 1, none⟩ = some (.string ⟨#[]⟩) := cell_of_heap HO2.out.blk rfl
                have a2 : w1.cell? ⟨q, 2, none⟩ = some (.int .i64 0) := cell_of_heap HO2.out.blk rfl
                have a3 : w1.cell? ⟨q, 3, none⟩ = some (.int .i64 0) := cell_of_heap HO2.out.blk rfl
                go_wp2_with fail
                refine bodyPost_ret (v := .tuple #[noTok 0, .int .i64 0, .int .i64 162]) (by simp [results, Tryd.results30, go_sem, noTok, a0, a1, a2, a3]) rfl ⟨?_, below_set4 HO2.out _ _ _ _⟩
                rw [← HV.out, oneV_err HE.out]
                rfl
              · have dl : decide ((32 : Int) < (j : Int) - (k : Int)) = false := by have := HJT.out; simp; omega
                have HE : Hid (tok k (s.data.toList.drop k) = .ok (⟨1, T.map low, 0, k⟩, T.length)) := Lib.hid (by
                  have := HTT.out
                  rw [HC.out] at this ⊢
                  rw [tok, hdg, if_neg (by decide), if_pos hlt, this, if_neg h32])
                have hsm := small_47 ⟨T.toArray⟩ w1 hTs
                have HSM := Lib.hid hsm
                clear hsm hTs
                go_wp2_with fail
                refine HSM.out.mono ?_
                rintro _ w2 ⟨rfl, hb2⟩
                have HO2 := Lib.hid (HO.out.then hb2)
                clear hb2 hext
                have f0 : w2.frozen? ⟨q, 0, none⟩ = false := frozen_of_heap HO2.out.blk
                have f1 : w2.frozen? ⟨q, 1, none⟩ = false := frozen_of_heap HO2.out.blk
                have f2 : w2.frozen? ⟨q, 2, none⟩ = false := frozen_of_heap HO2.out.blk
                have f3 : w2.frozen? ⟨q, 3, none⟩ = false := frozen_of_heap HO2.out.blk
                have a0 : w2.cell? ⟨q, 0, none⟩ = some (.int .u8 0) := cell_of_heap HO2.out.blk rfl
                have a1 : w2.cell? ⟨q, 1, none⟩ = some (.string ⟨#[]⟩) := cell_of_heap HO2.out.blk rfl
                have a2 : w2.cell? ⟨q, 2, none⟩ = some (.int .i64 0) := cell_of_heap HO2.out.blk rfl
                have a3 : w2.cell? ⟨q, 3, none⟩ = some (.int .i64 0) := cell_of_heap HO2.out.blk rfl
                go_wp2_with fail
                refine bodyPost_ret (v := .tuple #[tokv ⟨1, T.map low, 0, k⟩, .int .i64 (j : Int), .int .i64 0]) (by simp [results, Tryd.results30, go_sem, tokv, a0, a1, a2, a3]) rfl ⟨?_, below_set4 HO2.out _ _ _ _⟩
                rw [← HV.out, oneV_ok HE.out]
                rw [← HJ.out]
            · go_wp2_with fail
              exact ⟨⟨j + 1, by simp, runAt_step HR.out hlt2 HXX.out (by simp [ldg, hdx]), trivial⟩, by simp [intOf]; omega⟩
          · go_wp2_with fail
            exact ⟨⟨j + 1, by simp, runAt_step HR.out hlt2 HXX.out (by simp [ldg, hlx]), trivial⟩, by simp [intOf]; omega⟩
        · have hd : decide ((j : Int) < (s.size : Int)) = false := by simp; omega
          have hj := runAt_end HR.out (by omega)
          obtain ⟨T, hT⟩ : ∃ T, (s.data.toList.drop k).takeWhile ldg = T := ⟨_, rfl⟩
          rw [hT] at hj
          have hjT : j - k = T.length := by omega
          have hext : s.extract k j = ⟨T.toArray⟩ := by rw [← hT]; exact run_ext (by rw [hT]; exact hj)
          have hTs : (⟨T.toArray⟩ : ByteArray).size ≤ 16384 := by simp [ByteArray.size]; omega
          have HTT := Lib.hid hT
          have HJT := Lib.hid hjT
          have HJ := Lib.hid hj
          clear hT hjT hj
          have s1 : (k : Int) ≤ (j : Int) := by omega
          have s2 : (j : Int) ≤ (s.size : Int) := by omega
          by_cases h32 : 32 < T.length
          · have dl : decide ((32 : Int) < (j : Int) - (k : Int)) = true := by have := HJT.out; simp; omega
            have HE : Hid (tok k (s.data.toList.drop k) = .error 162) := Lib.hid (by
              have := HTT.out
              rw [HC.out] at this ⊢
              rw [tok, hdg, if_neg (by decide), if_pos hlt, this, if_pos h32])
            have HO2 := HO
            clear hext hTs
            have f0 : w1.frozen? ⟨q, 0, none⟩ = false := frozen_of_heap HO2.out.blk
            have f1 : w1.frozen? ⟨q, 1, none⟩ = false := frozen_of_heap HO2.out.blk
            have f2 : w1.frozen? ⟨q, 2, none⟩ = false := frozen_of_heap HO2.out.blk
            have f3 : w1.frozen? ⟨q, 3, none⟩ = false := frozen_of_heap HO2.out.blk
            have a0 : w1.cell? ⟨q, 0, none⟩ = some (.int .u8 0) := cell_of_heap HO2.out.blk rfl
            have a1 : w1.cell? ⟨q, 1, none⟩ = some (.string ⟨#[]⟩) := cell_of_heap HO2.out.blk rfl
            have a2 : w1.cell? ⟨q, 2, none⟩ = some (.int .i64 0) := cell_of_heap HO2.out.blk rfl
            have a3 : w1.cell? ⟨q, 3, none⟩ = some (.int .i64 0) := cell_of_heap HO2.out.blk rfl
            go_wp2_with fail
            refine bodyPost_ret (v := .tuple #[noTok 0, .int .i64 0, .int .i64 162]) (by simp [results, Tryd.results30, go_sem, noTok, a0, a1, a2, a3]) rfl ⟨?_, below_set4 HO2.out _ _ _ _⟩
            rw [← HV.out, oneV_err HE.out]
            rfl
          · have dl : decide ((32 : Int) < (j : Int) - (k : Int)) = false := by have := HJT.out; simp; omega
            have HE : Hid (tok k (s.data.toList.drop k) = .ok (⟨1, T.map low, 0, k⟩, T.length)) := Lib.hid (by
              have := HTT.out
              rw [HC.out] at this ⊢
              rw [tok, hdg, if_neg (by decide), if_pos hlt, this, if_neg h32])
            have hsm := small_47 ⟨T.toArray⟩ w1 hTs
            have HSM := Lib.hid hsm
            clear hsm hTs
            go_wp2_with fail
            refine HSM.out.mono ?_
            rintro _ w2 ⟨rfl, hb2⟩
            have HO2 := Lib.hid (HO.out.then hb2)
            clear hb2 hext
            have f0 : w2.frozen? ⟨q, 0, none⟩ = false := frozen_of_heap HO2.out.blk
            have f1 : w2.frozen? ⟨q, 1, none⟩ = false := frozen_of_heap HO2.out.blk
            have f2 : w2.frozen? ⟨q, 2, none⟩ = false := frozen_of_heap HO2.out.blk
            have f3 : w2.frozen? ⟨q, 3, none⟩ = false := frozen_of_heap HO2.out.blk
            have a0 : w2.cell? ⟨q, 0, none⟩ = some (.int .u8 0) := cell_of_heap HO2.out.blk rfl
            have a1 : w2.cell? ⟨q, 1, none⟩ = some (.string ⟨#[]⟩) := cell_of_heap HO2.out.blk rfl
            have a2 : w2.cell? ⟨q, 2, none⟩ = some (.int .i64 0) := cell_of_heap HO2.out.blk rfl
            have a3 : w2.cell? ⟨q, 3, none⟩ = some (.int .i64 0) := cell_of_heap HO2.out.blk rfl
            go_wp2_with fail
            refine bodyPost_ret (v := .tuple #[tokv ⟨1, T.map low, 0, k⟩, .int .i64 (j : Int), .int .i64 0]) (by simp [results, Tryd.results30, go_sem, tokv, a0, a1, a2, a3]) rfl ⟨?_, below_set4 HO2.out _ _ _ _⟩
            rw [← HV.out, oneV_ok HE.out]
            rw [← HJ.out]
  · have hrun : RunAt dig s k k := ⟨Nat.le_refl _, Nat.le_of_lt hk, rfl⟩
    have HRUN := Lib.hid hrun
    clear hrun
    go_wp2_with fail
    go_loopw [8] (fun i wr => ∃ j : Nat, i = .int .i64 j ∧ RunAt dig s k j ∧ wr = w1) (fun i _ => s.size - (intOf i).toNat)
    case atStart => exact ⟨k, rfl, HRUN.out, rfl⟩
    case round =>
      obtain ⟨j, rfl, hr, hwr⟩ := hrel
      rw [hwr]
      clear hwr HRUN
      have hkj := hr.1
      have hjs := hr.2.1
      have HR := Lib.hid hr
      clear hr
      by_cases hlt2 : j < s.size
      · have hd : decide ((j : Int) < (s.size : Int)) = true := by simp; omega
        obtain ⟨x, xs, hx, -⟩ := drop_cons hlt2
        have hgx := get_of_drop hx hlt2
        have HXX := Lib.hid hx
        clear hx
        go_wp2_with fail
        refine (digit_27 x w1).mono ?_
        rintro _ wx ⟨rfl, hwx⟩
        rw [hwx]
        clear hwx
        cases hdx : dig x
        · have hj := runAt_stop HR.out HXX.out hdx
          obtain ⟨T, hT⟩ : ∃ T, (s.data.toList.drop k).takeWhile dig = T := ⟨_, rfl⟩
          rw [hT] at hj
          have hext : s.extract k j = ⟨T.toArray⟩ := by rw [← hT]; exact run_ext (by rw [hT]; exact hj)
          have hTs : (⟨T.toArray⟩ : ByteArray).size ≤ 16384 := by simp [ByteArray.size]; omega
          have hall : ∀ c ∈ (⟨T.toArray⟩ : ByteArray).data.toList, dig c = true := by
            show ∀ c ∈ T, dig c = true
            rw [← hT]; exact tw_all dig _
          have hnm := number_46 ⟨T.toArray⟩ w1 hTs hall
          have htl : (⟨T.toArray⟩ : ByteArray).data.toList = T := rfl
          rw [htl] at hnm
          have HTT := Lib.hid hT
          have HJ := Lib.hid hj
          have HNM := Lib.hid hnm
          clear hT hj hTs hall hnm htl
          have s1 : (k : Int) ≤ (j : Int) := by omega
          have s2 : (j : Int) ≤ (s.size : Int) := by omega
          by_cases hmax : num T ≤ 9223372036854775807
          · have HE : Hid (tok k (s.data.toList.drop k) = .ok (⟨2, [], num T, k⟩, T.length)) := Lib.hid (by
              have := HTT.out
              rw [HC.out] at this ⊢
              rw [tok, if_pos hdg, this, if_pos hmax])
            have hN := HNM.out
            rw [if_pos hmax] at hN
            have HN := Lib.hid hN
            clear hN
            go_wp2_with fail
            refine HN.out.mono ?_
            rintro _ wx ⟨rfl, hwx⟩
            rw [hwx]
            clear hwx hext
            have HO2 := HO
            have f0 : w1.frozen? ⟨q, 0, none⟩ = false := frozen_of_heap HO2.out.blk
            have f1 : w1.frozen? ⟨q, 1, none⟩ = false := frozen_of_heap HO2.out.blk
            have f2 : w1.frozen? ⟨q, 2, none⟩ = false := frozen_of_heap HO2.out.blk
            have f3 : w1.frozen? ⟨q, 3, none⟩ = false := frozen_of_heap HO2.out.blk
            have a0 : w1.cell? ⟨q, 0, none⟩ = some (.int .u8 0) := cell_of_heap HO2.out.blk rfl
            have a1 : w1.cell? ⟨q, 1, none⟩ = some (.string ⟨#[]⟩) := cell_of_heap HO2.out.blk rfl
            have a2 : w1.cell? ⟨q, 2, none⟩ = some (.int .i64 0) := cell_of_heap HO2.out.blk rfl
            have a3 : w1.cell? ⟨q, 3, none⟩ = some (.int .i64 0) := cell_of_heap HO2.out.blk rfl
            go_wp2_with fail
            refine bodyPost_ret (v := .tuple #[tokv ⟨2, [], num T, k⟩, .int .i64 (j : Int), .int .i64 0]) (by simp [results, Tryd.results30, go_sem, tokv, a0, a1, a2, a3]) rfl ⟨?_, below_set4 HO2.out _ _ _ _⟩
            rw [← HV.out, oneV_ok HE.out]
            rw [← HJ.out]
          · have HE : Hid (tok k (s.data.toList.drop k) = .error 162) := Lib.hid (by
              have := HTT.out
              rw [HC.out] at this ⊢
              rw [tok, if_pos hdg, this, if_neg hmax])
            have hN := HNM.out
            rw [if_neg hmax] at hN
            have HN := Lib.hid hN
            clear hN
            go_wp2_with fail
            refine HN.out.mono ?_
            rintro _ wx ⟨rfl, hwx⟩
            rw [hwx]
            clear hwx hext
            have HO2 := HO
            have f0 : w1.frozen? ⟨q, 0, none⟩ = false := frozen_of_heap HO2.out.blk
            have f1 : w1.frozen? ⟨q, 1, none⟩ = false := frozen_of_heap HO2.out.blk
            have f2 : w1.frozen? ⟨q, 2, none⟩ = false := frozen_of_heap HO2.out.blk
            have f3 : w1.frozen? ⟨q, 3, none⟩ = false := frozen_of_heap HO2.out.blk
            have a0 : w1.cell? ⟨q, 0, none⟩ = some (.int .u8 0) := cell_of_heap HO2.out.blk rfl
            have a1 : w1.cell? ⟨q, 1, none⟩ = some (.string ⟨#[]⟩) := cell_of_heap HO2.out.blk rfl
            have a2 : w1.cell? ⟨q, 2, none⟩ = some (.int .i64 0) := cell_of_heap HO2.out.blk rfl
            have a3 : w1.cell? ⟨q, 3, none⟩ = some (.int .i64 0) := cell_of_heap HO2.out.blk rfl
            go_wp2_with fail
            refine bodyPost_ret (v := .tuple #[noTok 0, .int .i64 0, .int .i64 162]) (by simp [results, Tryd.results30, go_sem, noTok, a0, a1, a2, a3]) rfl ⟨?_, below_set4 HO2.out _ _ _ _⟩
            rw [← HV.out, oneV_err HE.out]
            rfl
        · go_wp2_with fail
          exact ⟨⟨j + 1, by simp, runAt_step HR.out hlt2 HXX.out hdx, trivial⟩, by simp [intOf]; omega⟩
      · have hd : decide ((j : Int) < (s.size : Int)) = false := by simp; omega
        have hj := runAt_end HR.out (by omega)
        obtain ⟨T, hT⟩ : ∃ T, (s.data.toList.drop k).takeWhile dig = T := ⟨_, rfl⟩
        rw [hT] at hj
        have hext : s.extract k j = ⟨T.toArray⟩ := by rw [← hT]; exact run_ext (by rw [hT]; exact hj)
        have hTs : (⟨T.toArray⟩ : ByteArray).size ≤ 16384 := by simp [ByteArray.size]; omega
        have hall : ∀ c ∈ (⟨T.toArray⟩ : ByteArray).data.toList, dig c = true := by
          show ∀ c ∈ T, dig c = true
          rw [← hT]; exact tw_all dig _
        have hnm := number_46 ⟨T.toArray⟩ w1 hTs hall
        have htl : (⟨T.toArray⟩ : ByteArray).data.toList = T := rfl
        rw [htl] at hnm
        have HTT := Lib.hid hT
        have HJ := Lib.hid hj
        have HNM := Lib.hid hnm
        clear hT hj hTs hall hnm htl
        have s1 : (k : Int) ≤ (j : Int) := by omega
        have s2 : (j : Int) ≤ (s.size : Int) := by omega
        by_cases hmax : num T ≤ 9223372036854775807
        · have HE : Hid (tok k (s.data.toList.drop k) = .ok (⟨2, [], num T, k⟩, T.length)) := Lib.hid (by
            have := HTT.out
            rw [HC.out] at this ⊢
            rw [tok, if_pos hdg, this, if_pos hmax])
          have hN := HNM.out
          rw [if_pos hmax] at hN
          have HN := Lib.hid hN
          clear hN
          go_wp2_with fail
          refine HN.out.mono ?_
          rintro _ wx ⟨rfl, hwx⟩
          rw [hwx]
          clear hwx hext
          have HO2 := HO
          have f0 : w1.frozen? ⟨q, 0, none⟩ = false := frozen_of_heap HO2.out.blk
          have f1 : w1.frozen? ⟨q, 1, none⟩ = false := frozen_of_heap HO2.out.blk
          have f2 : w1.frozen? ⟨q, 2, none⟩ = false := frozen_of_heap HO2.out.blk
          have f3 : w1.frozen? ⟨q, 3, none⟩ = false := frozen_of_heap HO2.out.blk
          have a0 : w1.cell? ⟨q, 0, none⟩ = some (.int .u8 0) := cell_of_heap HO2.out.blk rfl
          have a1 : w1.cell? ⟨q, 1, none⟩ = some (.string ⟨#[]⟩) := cell_of_heap HO2.out.blk rfl
          have a2 : w1.cell? ⟨q, 2, none⟩ = some (.int .i64 0) := cell_of_heap HO2.out.blk rfl
          have a3 : w1.cell? ⟨q, 3, none⟩ = some (.int .i64 0) := cell_of_heap HO2.out.blk rfl
          go_wp2_with fail
          refine bodyPost_ret (v := .tuple #[tokv ⟨2, [], num T, k⟩, .int .i64 (j : Int), .int .i64 0]) (by simp [results, Tryd.results30, go_sem, tokv, a0, a1, a2, a3]) rfl ⟨?_, below_set4 HO2.out _ _ _ _⟩
          rw [← HV.out, oneV_ok HE.out]
          rw [← HJ.out]
        · have HE : Hid (tok k (s.data.toList.drop k) = .error 162) := Lib.hid (by
            have := HTT.out
            rw [HC.out] at this ⊢
            rw [tok, if_pos hdg, this, if_neg hmax])
          have hN := HNM.out
          rw [if_neg hmax] at hN
          have HN := Lib.hid hN
          clear hN
          go_wp2_with fail
          refine HN.out.mono ?_
          rintro _ wx ⟨rfl, hwx⟩
          rw [hwx]
          clear hwx hext
          have HO2 := HO
          have f0 : w1.frozen? ⟨q, 0, none⟩ = false := frozen_of_heap HO2.out.blk
          have f1 : w1.frozen? ⟨q, 1, none⟩ = false := frozen_of_heap HO2.out.blk
          have f2 : w1.frozen? ⟨q, 2, none⟩ = false := frozen_of_heap HO2.out.blk
          have f3 : w1.frozen? ⟨q, 3, none⟩ = false := frozen_of_heap HO2.out.blk
          have a0 : w1.cell? ⟨q, 0, none⟩ = some (.int .u8 0) := cell_of_heap HO2.out.blk rfl
          have a1 : w1.cell? ⟨q, 1, none⟩ = some (.string ⟨#[]⟩) := cell_of_heap HO2.out.blk rfl
          have a2 : w1.cell? ⟨q, 2, none⟩ = some (.int .i64 0) := cell_of_heap HO2.out.blk rfl
          have a3 : w1.cell? ⟨q, 3, none⟩ = some (.int .i64 0) := cell_of_heap HO2.out.blk rfl
          go_wp2_with fail
          refine bodyPost_ret (v := .tuple #[noTok 0, .int .i64 0, .int .i64 162]) (by simp [results, Tryd.results30, go_sem, noTok, a0, a1, a2, a3]) rfl ⟨?_, below_set4 HO2.out _ _ _ _⟩
          rw [← HV.out, oneV_err HE.out]
          rfl
end Go.Proofs.YtpjfkfbijimliaaDoor
