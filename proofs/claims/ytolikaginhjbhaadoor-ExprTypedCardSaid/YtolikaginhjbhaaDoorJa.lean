import Derived.Test.YtolikaginhjbhaaDoorGc
import Derived.Test.YtolikaginhjbhaaDoorUi
import Derived.Test.YtolikaginhjbhaaDoorS
import Derived.Test.YtolikaginhjbhaaDoorFd
/- row.Pick; all numbers below one. -/
namespace Go.Proofs.YtolikaginhjbhaaDoor
open Go.RowKit Go.Pen
attribute [local go_sem ↓] Go.wp_at_zero Go.wp_at_succ

theorem rowCells_snoc (ds : List Dat) (d : Dat) : rowCells (ds ++ [d]) = rowCells ds ++ d.cells := by simp [rowCells]

/-- is a number that of a column? -/
def inRow (n : Nat) (c : Int) : Bool := decide (0 ≤ c) && decide (c < n)
def pickOk (n : Nat) (cols : List Int) : Bool := decide (cols.length ≤ 32) && cols.all (inRow n)
def pickD (r : List Dat) (c : Int) : Dat := r.getD c.toNat Dat.zero
def pick (r : List Dat) (cols : List Int) : List Dat := cols.map (pickD r)
def PickPost (r : List Dat) (cols : List Int) (w : World) (ev : Ending) (w' : World) : Prop :=
  ∃ (a : Option Addr) (n c : Nat), ev = .returned (.tuple #[.slice a n c, .int .u16 (if pickOk r.length cols = true then 0 else 20)]) ∧ (pickOk r.length cols = true → n = (pick r cols).length ∧ RowAt w' (.slice a n c) (pick r cols)) ∧ Below w.heap.size w w'
theorem pick_no {r : List Dat} {cols : List Int} {w w' : World} (h : pickOk r.length cols = false) (hb : Below w.heap.size w w') : PickPost r cols w (.returned (.tuple #[.slice none 0 0, .int .u16 20])) w' :=
  ⟨none, 0, 0, by rw [h]; rfl, (fun h2 => by rw [h] at h2; cases h2), hb⟩

set_option maxRecDepth 100000 in
set_option maxHeartbeats 2000000 in
theorem pick_7 (r : List Dat) (cols : List Int) (v vc : Value) (w : World) (hr : RowAt w v r) (hc : IntsOn (fun _ => True) w cols vc) (hcl : cols.length ≤ 17592186043904) :
    Calls Tryd.prog 7 #[v, vc] w (PickPost r cols w) := by
  obtain ⟨i0, hi0, hz0, hz1, hz2⟩ := info_parts info25
  obtain ⟨ra, rc, rfl, -, hri⟩ := hr
  obtain ⟨ca, cc, rfl, -, hci⟩ := hc
  obtain ⟨K, eK⟩ : ∃ K, K = cols.length := ⟨_, rfl⟩
  obtain ⟨N, eN⟩ : ∃ N, N = r.length := ⟨_, rfl⟩
  rw [← eK] at hcl ⊢
  rw [← eN]
  have EK := Lib.hid eK
  have EN := Lib.hid eN
  have HRI := Lib.hid hri
  have HCI := Lib.hid hci
  clear hri hci eK eN
  by_cases h32 : 32 < K
  · have hno : pickOk r.length cols = false := by
      have := EK.out
      simp only [pickOk, Bool.and_eq_false_iff, decide_eq_false_iff_not]
      left; omega
    have HNO := Lib.hid hno
    clear hno
    go_enter Tryd.func7, Tryd.ntmps7
    go_wp2_with fail
    go_ret2
    exact pick_no HNO.out (Below.refl _ _)
  go_enter Tryd.func7, Tryd.ntmps7
  go_wp2_with (at_make; refine wpList_make_own _ rfl _ _ 29 rfl w.heap.size 25 i0 (.agg #[.int .u8 0, .bool false, .int .i64 0, .string .empty]) 4 Tryd.underlying29 hi0 hz0 hz1 .i64 .i64 (K : Int) K rfl rfl (by omega) (by rw [hz2]; omega) (by unfold maxLen; omega) (Nat.le_refl _) ?_)
  intro w1 ho1 hg1
  have hb1 : Below w.heap.size w w1 := (Below.refl _ _).grown hg1 (Nat.le_refl _) (by intro k hk; cases hk)
  have HO1 := Lib.hid ho1
  have HB1 := Lib.hid hb1
  clear ho1 hb1 hg1
  go_wp2_with fail
  go_loopg [6, 17] K (fun g s6 s17 wr => ∃ (i : Nat), i ≤ K ∧ g = K - i ∧ s17 = .int .i64 i ∧ wr.ownsRow w.heap.size 25 4 s6 i (rowCells ((cols.take i).map (pickD r))) ∧ (cols.take i).all (inRow r.length) = true ∧ Below w.heap.size w wr)
  case atStart => exact ⟨0, Nat.zero_le _, rfl, rfl, HO1.out, rfl, HB1.out⟩
  case round =>
    obtain ⟨i, hi, rfl, rfl, hown, hall, hbr⟩ := hrel
    have HOW := Lib.hid hown
    have HALL := Lib.hid hall
    have HBR := Lib.hid hbr
    clear hown hall
    by_cases hlt : i < K
    · obtain ⟨c, hcx⟩ : ∃ c, cols[i]? = some c := ⟨cols[i]'(by rw [← EK.out]; exact hlt), List.getElem?_eq_getElem _⟩
      obtain ⟨cb, co, rfl, -, hcs⟩ := HCI.out (fun e => by rw [e] at hcx; simp at hcx)
      have k0 := cell_keep hbr (hcs i c hcx)
      have HCX := Lib.hid hcx
      clear hcs hcx hbr
      by_cases hin : inRow r.length c = true
      rotate_left
      · have hno : pickOk r.length cols = false := by
          simp only [pickOk, Bool.and_eq_false_iff]
          right
          cases hq : cols.all (inRow r.length)
          · rfl
          · exact absurd (List.all_eq_true.1 hq c (List.mem_of_getElem? HCX.out)) hin
        have hb2 : c < 0 ∨ (N : Int) ≤ c := by
          have := EN.out
          simp only [inRow, Bool.and_eq_true, decide_eq_true_eq] at hin
          omega
        have HNO := Lib.hid hno
        clear hno hin
        by_cases hc0 : c < 0
        · go_wp2_with fail
          go_ret2
          exact pick_no HNO.out HBR.out
        · have hc1 : (N : Int) ≤ c := by omega
          clear hb2
          go_wp2_with fail
          go_ret2
          exact pick_no HNO.out HBR.out
      · have hin' := hin
        simp only [inRow, Bool.and_eq_true, decide_eq_true_eq] at hin'
        have hc0 : ¬ c < 0 := by omega
        have hc1 : ¬ (N : Int) ≤ c := by have := EN.out; omega
        have hc2 : c < (N : Int) := by omega
        have hc3 : 0 ≤ c := by omega
        obtain ⟨x, hx⟩ : ∃ x, r[c.toNat]? = some x := ⟨r[c.toNat]'(by omega), List.getElem?_eq_getElem _⟩
        obtain ⟨b, off, rfl, -, hrs⟩ := HRI.out (fun e => by rw [e] at hx; simp at hx)
        obtain ⟨q0, q1, q2, q3⟩ := hrs _ _ hx
        have q0 := cell_keep HBR.out q0
        have q1 := cell_keep HBR.out q1
        have q2 := cell_keep HBR.out q2
        have q3 := cell_keep HBR.out q3
        have hpk : pickD r c = x := by simp only [pickD, List.getD_eq_getElem?_getD, hx]; rfl
        have HPK := Lib.hid hpk
        have HIN := Lib.hid hin
        have xc : (c.toNat : Int) = c := by omega
        obtain ⟨XS, hXS⟩ : ∃ XS, XS = rowCells ((cols.take i).map (pickD r)) := ⟨_, rfl⟩
        rw [← hXS] at HOW
        have HXS := Lib.hid hXS
        have szw : w.heap.size ≤ wr.heap.size := HBR.out.size
        clear hrs hx hin' hin hpk hXS
        go_wp2_with (at_builtin; go_must (refine wpList_append_lies _ rfl _ _ 29 rfl w.heap.size 25 i0 _ 4 32 Tryd.underlying29 hi0 hz0 hz1 hz2 rfl (by decide) u6 i XS rfl (HOW.out.alloc _) ⟨wr.heap.size, 0, none⟩ 1 1 x.cells rfl rfl ?c1 ?c2 (by decide) ?c3 ?c4 ?c5 _ rfl ?_))
        case c1 =>
          intro j u hj
          simpa [Dat.cells] using hj
        case c2 => intro u hu; simp [Dat.cells] at hu; rcases hu with rfl | rfl | rfl | rfl <;> rfl
        case c3 => unfold maxLen; omega
        case c4 => omega
        case c5 => first | omega | (simp; omega)
        intro g cap w5 hown5 hgrow hat5 _
        have ub : Below w.heap.size w w5 := (HBR.out.alloc HBR.out.size _).grown hgrow (by simp; omega) (fun g hg => (HOW.out.lt g hg).1)
        have htk : (cols.take (i + 1)).map (pickD r) = (cols.take i).map (pickD r) ++ [x] := by
          rw [List.take_succ_eq_append_getElem (List.getElem?_eq_some_iff.1 HCX.out).1, List.map_append, (List.getElem?_eq_some_iff.1 HCX.out).2]
          simp [HPK.out]
        have hal : (cols.take (i + 1)).all (inRow r.length) = true := by
          rw [List.take_succ_eq_append_getElem (List.getElem?_eq_some_iff.1 HCX.out).1, List.all_append, HALL.out, (List.getElem?_eq_some_iff.1 HCX.out).2]
          simp [HIN.out]
        rw [HXS.out, ← rowCells_snoc, ← htk] at hown5
        have UB := Lib.hid ub
        have UO := Lib.hid hown5
        have UA := Lib.hid hal
        clear ub hown5 hgrow hat5 htk hal
        go_wp2
        go_roundg (K - (i + 1))
        case measure => omega
        case rel => exact ⟨i + 1, by omega, rfl, by go_num, UO.out, UA.out, UB.out⟩
    · obtain rfl : K = i := by omega
      clear hbr
      go_wp2
      go_ret2
      have hw : cols.take K = cols := List.take_of_length_le (by rw [EK.out]; exact Nat.le_refl _)
      have ho := HOW.out
      have ha := HALL.out
      rw [hw] at ho ha
      have hok : pickOk r.length cols = true := by
        have := EK.out
        simp only [pickOk, Bool.and_eq_true, decide_eq_true_eq]
        exact ⟨by omega, ha⟩
      obtain ⟨a, c, hv⟩ := ownsRow_slice ho
      refine ⟨a, K, c, by rw [hok]; exact congrArg (fun x => Ending.returned (.tuple #[x, .int .u16 0])) hv, fun _ => ⟨by simp [pick, EK.out], ?_⟩, HBR.out⟩
      rw [← hv]
      exact rowAt_of_owns ho

/-- the numbers below one -/
def allBelow (n : Nat) : List Int := (List.range n).map (fun (i : Nat) => (i : Int))

set_option maxRecDepth 100000 in
set_option maxHeartbeats 2000000 in
theorem all_11 (n : Nat) (w : World) (hn : n ≤ 1000000) : Calls Tryd.prog 11 #[.int .i64 n] w fun ev w' => ∃ (a : Option Addr) (c : Nat), ev = .returned (.slice a n c) ∧ IntsAt w' (.slice a n c) (allBelow n) ∧ Below w.heap.size w w' := by
  obtain ⟨i0, hi0, hz0, hz1, hz2⟩ := info_parts info3
  go_enter Tryd.func11, Tryd.ntmps11
  go_wp2_with fail
  go_loopg [3, 4] n (fun g s3 s4 wr => ∃ (i : Nat), i ≤ n ∧ g = n - i ∧ s4 = .int .i64 i ∧ wr.ownsRow w.heap.size 3 1 s3 i ((allBelow i).map (Value.int .i64)) ∧ Below w.heap.size w wr)
  case atStart => exact ⟨0, Nat.zero_le _, rfl, rfl, World.ownsRow_nil _ _ _ _, Below.refl _ _⟩
  case round =>
    obtain ⟨i, hi, rfl, rfl, hown, hbr⟩ := hrel
    have HOW := Lib.hid hown
    have HBR := Lib.hid hbr
    by_cases hlt : i < n
    · have szw : w.heap.size ≤ wr.heap.size := HBR.out.size
      obtain ⟨XS, hXS⟩ : ∃ XS, XS = (allBelow i).map (Value.int .i64) := ⟨_, rfl⟩
      rw [← hXS] at HOW
      have HXS := Lib.hid hXS
      clear hown hbr hXS
      go_wp2_with (at_builtin; go_must (refine wpList_append_lies _ rfl _ _ 30 rfl w.heap.size 3 i0 _ 1 8 Tryd.underlying30 hi0 hz0 hz1 hz2 rfl (by decide) u3 i XS rfl (HOW.out.alloc _) ⟨wr.heap.size, 0, none⟩ 1 1 [.int .i64 (i : Int)] rfl rfl ?c1 ?c2 (by decide) ?c3 ?c4 ?c5 _ rfl ?_))
      case c1 =>
        intro j u hj
        rw [add_lit, Nat.zero_add]
        exact cell_of_heap (heap_alloc_new _ _) (by simpa [Dat.cells] using hj)
      case c2 => intro u hu; simp at hu; subst hu; rfl
      case c3 => unfold maxLen; omega
      case c4 => omega
      case c5 => first | omega | (simp; omega)
      intro g cap w5 hown5 hgrow hat5 _
      have ub : Below w.heap.size w w5 := (HBR.out.alloc HBR.out.size _).grown hgrow (by simp; omega) (fun g hg => (HOW.out.lt g hg).1)
      have htk : (allBelow (i + 1)).map (Value.int .i64) = (allBelow i).map (Value.int .i64) ++ [.int .i64 (i : Int)] := by
        simp [allBelow, List.range_succ]
      rw [HXS.out, ← htk] at hown5
      have UB := Lib.hid ub
      have UO := Lib.hid hown5
      clear ub hown5 hgrow hat5 htk
      go_wp2
      go_roundg (n - (i + 1))
      case measure => omega
      case rel => exact ⟨i + 1, by omega, rfl, by go_num, UO.out, UB.out⟩
    · obtain rfl : n = i := by omega
      clear hbr hown
      go_wp2
      go_ret
      obtain ⟨a, c, hv⟩ := ownsRow_slice HOW.out
      refine ⟨a, c, congrArg Ending.returned hv, ?_, HBR.out⟩
      rw [← hv]
      exact intsAt_of_owns HOW.out
end Go.Proofs.YtolikaginhjbhaaDoor
