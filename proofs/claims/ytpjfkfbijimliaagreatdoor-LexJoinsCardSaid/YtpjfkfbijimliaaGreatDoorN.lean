import Derived.Test.YtpjfkfbijimliaaGreatDoorL
import Derived.Test.YtpjfkfbijimliaaGreatDoorP
import Derived.Deep.RegionHeld3
import Derived.IntWalk
import Derived.Deep.RegionWith
namespace Go.Proofs.YtpjfkfbijimliaaGreatDoor
open Go.RowKit Go.Pen

/-- the variables that hold errors -/
def ErrS (w : World) : Prop := ∃ ev, w.cell? ⟨6, 0, none⟩ = some ev ∧ (ev = .nilIface ∨ ∃ te pe, ev = .iface te pe)

def nPU : ByteArray := ⟨#[80, 97, 114, 115, 101, 85, 105, 110, 116]⟩

set_option maxRecDepth 100000 in
set_option maxHeartbeats 2000000 in
theorem parse_82_yes (t : ByteArray) (a b : UInt8) (ht : t.data.toList = [a, b]) (w : World) (hy : 0 ≤ hexv a ∧ 0 ≤ hexv b) :
    Calls Tryz.prog 87 #[.string t, .int .i64 16, .int .i64 8] w fun e w' => e = .returned (.tuple #[.int .u64 (16 * hexv a + hexv b), .nilIface]) ∧ Below w.heap.size w w' := by
  have hp := parse_76 t a b ht w
  rw [if_pos hy] at hp
  have HP := Lib.hid hp
  clear hp ht
  go_enter Tryz.func87, Tryz.ntmps87
  go_wp2_with fail
  refine HP.out.mono ?_
  rintro _ w1 ⟨rfl, hb⟩
  go_wp2_with fail
  exact bodyPost_ret (v := .tuple #[.int .u64 (16 * hexv a + hexv b), .nilIface]) (by simp [results, Tryz.results87, go_sem]) rfl ⟨rfl, hb⟩

set_option maxRecDepth 100000 in
set_option maxHeartbeats 2000000 in
theorem parse_82_no (t : ByteArray) (a b : UInt8) (ht : t.data.toList = [a, b]) (w : World) (hy : ¬ (0 ≤ hexv a ∧ 0 ≤ hexv b)) (he : ErrS w) :
    Calls Tryz.prog 87 #[.string t, .int .i64 16, .int .i64 8] w fun e w' => ∃ N, e = .returned (.tuple #[.int .u64 0, .iface 119 (.pointer (some ⟨N, 0, none⟩))]) ∧ Below w.heap.size w w' := by
  have hp := parse_76 t a b ht w
  rw [if_neg hy] at hp
  have HP := Lib.hid hp
  have hsz : t.size = 2 := by rw [← len_list, ht]; rfl
  have HZ := Lib.hid hsz
  obtain ⟨ev, hv, hev⟩ := he
  have HV := Lib.hid hv
  have HE := Lib.hid hev
  clear hp ht hsz hv hev
  go_enter Tryz.func87, Tryz.ntmps87
  go_wp2_with fail
  refine HP.out.mono ?_
  rintro _ w1 ⟨rfl, hb⟩
  go_wp2_with fail
  have hv4 : w1.cell? ⟨6, 0, none⟩ = some ev := (hb.cell (p := ⟨6, 0, none⟩) (World.block_lt_of_cell? w _ HV.out)).trans HV.out
  refine (Tryz.strconv_toError_syntax nPU t 16 8 ev w1 (by rw [HZ.out]; omega) hv4 HE.out).mono ?_
  rintro _ w2 ⟨N, rfl, -, -, hb2⟩
  clear hv4
  go_wp2_with fail
  exact bodyPost_ret (v := .tuple #[.int .u64 0, .iface 119 (.pointer (some ⟨N, 0, none⟩))]) (by simp [results, Tryz.results87, go_sem]) rfl ⟨N, rfl, hb.trans (hb2.mono hb.size)⟩

theorem esc_idx (c : UInt8) : Lib.indexByte (⟨#[92, 110, 114, 116]⟩ : ByteArray).data.toList ((c.toNat : Int)).toNat.toUInt8 = if c.toNat = 92 then 0 else if c.toNat = 110 then 1 else if c.toNat = 114 then 2 else if c.toNat = 116 then 3 else -1 := by
  have h : ((c.toNat : Int)).toNat.toUInt8 = c := by simp
  rw [h]
  by_cases h1 : c.toNat = 92
  · obtain rfl : c = 92 := UInt8.toNat_inj.1 h1
    decide
  by_cases h2 : c.toNat = 110
  · obtain rfl : c = 110 := UInt8.toNat_inj.1 h2
    decide
  by_cases h3 : c.toNat = 114
  · obtain rfl : c = 114 := UInt8.toNat_inj.1 h3
    decide
  by_cases h4 : c.toNat = 116
  · obtain rfl : c = 116 := UInt8.toNat_inj.1 h4
    decide
  have e1 : ((92 : UInt8) == c) = false := by rw [beq_eq_false_iff_ne]; rintro rfl; exact h1 rfl
  have e2 : ((110 : UInt8) == c) = false := by rw [beq_eq_false_iff_ne]; rintro rfl; exact h2 rfl
  have e3 : ((114 : UInt8) == c) = false := by rw [beq_eq_false_iff_ne]; rintro rfl; exact h3 rfl
  have e4 : ((116 : UInt8) == c) = false := by rw [beq_eq_false_iff_ne]; rintro rfl; exact h4 rfl
  simp [Lib.indexByte, e1, e2, e3, e4, h1, h2, h3, h4]

theorem esc_simple {c b : UInt8} {cs : Bytes} (h : esc1 c = some b) : esc (c :: cs) = some (b, 1) := by simp only [esc, h]
theorem esc_bad {c : UInt8} {cs : Bytes} (h : esc1 c = none) (h' : ¬ c.toNat = 120) : esc (c :: cs) = none := by simp only [esc, h, if_neg h']
theorem esc_short {c : UInt8} {cs : Bytes} (h : esc1 c = none) (hl : cs.length < 2) : esc (c :: cs) = none := by
  match cs, hl with
  | [], _ => simp only [esc, h]; split <;> rfl
  | [a], _ => simp only [esc, h]; split <;> rfl
theorem esc_hex {c a b : UInt8} {cs : Bytes} (h : esc1 c = none) (h' : c.toNat = 120) : esc (c :: a :: b :: cs) = if 0 ≤ hexv a ∧ 0 ≤ hexv b then some ((16 * hexv a + hexv b).toNat.toUInt8, 3) else none := by simp only [esc, h, if_pos h']

theorem ext_two {s : ByteArray} {j x y : Nat} {a b : UInt8} {r : Bytes} (h : s.data.toList.drop j = a :: b :: r) (hx : x = j) (hy : y = j + 2) : (s.extract x y).data.toList = [a, b] := by
  subst hx hy
  rw [ext_take, h]; rfl

theorem hex_byte {a b : UInt8} (h : 0 ≤ hexv a ∧ 0 ≤ hexv b) : IntKind.u8.wrap (16 * hexv a + hexv b) = ((16 * hexv a + hexv b).toNat.toUInt8).toNat ∧ 0 ≤ 16 * hexv a + hexv b ∧ 16 * hexv a + hexv b ≤ 255 := by
  have la := hexv_le a
  have lb := hexv_le b
  obtain ⟨n, hn⟩ : ∃ n : Nat, 16 * hexv a + hexv b = n := ⟨(16 * hexv a + hexv b).toNat, by omega⟩
  have h255 : n ≤ 255 := by omega
  rw [hn]
  refine ⟨?_, by omega, by omega⟩
  have h1 : ((n : Int)).toNat.toUInt8.toNat = n := by simp; omega
  rw [h1]
  simp [IntKind.wrap, IntKind.signed, IntKind.bits]
  omega

theorem moved_below {B : Nat} {s : ByteArray} {j : Nat} {w w1 w2 : World} (h : Moved B s j w w1) (hb : Below w1.heap.size w1 w2) : Moved B s j w w2 := by
  have hB := lt_of_heap h.lex
  refine ⟨h.below.trans (hb.mono (Nat.le_of_lt hB)), (hb.block B hB).trans h.lex, fun g hg hne => ?_⟩
  rw [hb.block g (Nat.lt_of_lt_of_le hg h.below.size)]
  exact h.rest g hg hne

theorem moved_put {B : Nat} {s : ByteArray} {j j' : Nat} {x : Int} {w wr : World} (h : Moved B s j w wr) (hx : x = j') : Moved B s j' w (wr.setCell ⟨B, 1, none⟩ (.int .i64 x)) := by
  subst hx
  exact moved_set (n := 0) h

/-- what escape leaves -/
def EscPost (B : Nat) (s : ByteArray) (k : Nat) (w : World) (e : Ending) (w' : World) : Prop :=
  match esc (s.data.toList.drop k) with
  | some (b, m) => e = .returned (.tuple #[.int .u8 b.toNat, .bool true]) ∧ Moved B s (k + m) w w'
  | none => (∃ x : Int, e = .returned (.tuple #[.int .u8 x, .bool false])) ∧ ∃ k', Moved B s k' w w'

set_option maxRecDepth 100000 in
set_option maxHeartbeats 2000000 in
theorem escape_64 (B : Nat) (s : ByteArray) (k : Nat) (w : World) (hB : LexIs w B s k) (hk : k ≤ s.size) (hs : s.size ≤ 16384) (he : ErrS w) (h11 : 10 ≤ B) :
    Calls Tryz.prog 71 #[.pointer (some ⟨B, 0, none⟩)] w (EscPost B s k w) := by
  have hc0 : w.cell? ⟨B, 0, none⟩ = some (.string s) := cell_of_heap hB rfl
  have hc1 : w.cell? ⟨B, 1, none⟩ = some (.int .i64 k) := cell_of_heap hB rfl
  have hfz : w.frozen? ⟨B, 1, none⟩ = false := frozen_of_heap hB
  by_cases hlt : k < s.size
  · obtain ⟨c, cs, hcs, hcs'⟩ := drop_cons hlt
    have hget := get_of_drop hcs hlt
    have hne : ((k : Int) == (s.size : Int)) = false := by simp; omega
    have HC := Lib.hid hcs
    have HD := Lib.hid hcs'
    clear hcs hcs'
    go_enter Tryz.func71, Tryz.ntmps71
    go_wp2_with fail
    go_quiet (fail)
    go_wp2_with fail
    go_quiet (fail)
    go_wp2_with fail
    refine (Tryz.strings_IndexByte _ _ _).mono ?_
    rintro _ _ ⟨rfl, rfl⟩
    rw [esc_idx]
    generalize hw1 : World.setCell _ _ _ = w1
    have hm1 : Moved B s (k + 1) w w1 := by rw [← hw1]; exact moved_set (Moved.refl hB)
    clear hw1
    by_cases h92 : c.toNat = 92
    · rw [if_pos h92]
      go_wp2_with fail
      refine bodyPost_ret (v := .tuple #[.int .u8 92, .bool true]) (by simp [results, Tryz.results71, go_sem]; rfl) rfl ?_
      rw [EscPost, HC.out, esc_simple (b := 92) (by rw [esc1, if_pos h92])]
      exact ⟨rfl, hm1⟩
    rw [if_neg h92]
    by_cases h110 : c.toNat = 110
    · rw [if_pos h110]
      go_wp2_with fail
      refine bodyPost_ret (v := .tuple #[.int .u8 10, .bool true]) (by simp [results, Tryz.results71, go_sem]; rfl) rfl ?_
      rw [EscPost, HC.out, esc_simple (b := 10) (by rw [esc1, if_neg h92, if_pos h110])]
      exact ⟨rfl, hm1⟩
    rw [if_neg h110]
    by_cases h114 : c.toNat = 114
    · rw [if_pos h114]
      go_wp2_with fail
      refine bodyPost_ret (v := .tuple #[.int .u8 13, .bool true]) (by simp [results, Tryz.results71, go_sem]; rfl) rfl ?_
      rw [EscPost, HC.out, esc_simple (b := 13) (by rw [esc1, if_neg h92, if_neg h110, if_pos h114])]
      exact ⟨rfl, hm1⟩
    rw [if_neg h114]
    by_cases h116 : c.toNat = 116
    · rw [if_pos h116]
      go_wp2_with fail
      refine bodyPost_ret (v := .tuple #[.int .u8 9, .bool true]) (by simp [results, Tryz.results71, go_sem]; rfl) rfl ?_
      rw [EscPost, HC.out, esc_simple (b := 9) (by rw [esc1, if_neg h92, if_neg h110, if_neg h114, if_pos h116])]
      exact ⟨rfl, hm1⟩
    rw [if_neg h116]
    have he1 : esc1 c = none := by rw [esc1, if_neg h92, if_neg h110, if_neg h114, if_neg h116]
    have HE1 := Lib.hid he1
    clear he1
    clear hc0 hc1 hfz h92 h110 h114 h116 hne
    have hL := hm1.lex
    have hc0 : w1.cell? ⟨B, 0, none⟩ = some (.string s) := cell_of_heap hL rfl
    have hc1 : w1.cell? ⟨B, 1, none⟩ = some (.int .i64 ((k + 1 : Nat) : Int)) := cell_of_heap hL rfl
    have hfz : w1.frozen? ⟨B, 1, none⟩ = false := frozen_of_heap hL
    by_cases h120 : c.toNat = 120
    · have hx : ((c.toNat : Int) != 120) = false := by simp; omega
      by_cases hfit : k + 3 ≤ s.size
      · have hd : decide ((s.size : Int) < ((k + 1 : Nat) : Int) + 2) = false := by simp; omega
        go_wp2_with fail
        go_quiet (fail)
        go_wp2_with fail
        generalize hw2 : World.drewN _ _ = w2
        have hm2 : Moved B s (k + 1) w w2 := by rw [← hw2]; exact moved_drew hm1
        clear hw2 hc0 hc1 hfz hL
        have hL := hm2.lex
        have hc0 : w2.cell? ⟨B, 0, none⟩ = some (.string s) := cell_of_heap hL rfl
        have hc1 : w2.cell? ⟨B, 1, none⟩ = some (.int .i64 ((k + 1 : Nat) : Int)) := cell_of_heap hL rfl
        obtain ⟨a, b, r, hab⟩ : ∃ a b r, s.data.toList.drop (k + 1) = a :: b :: r := by
          obtain ⟨a, xs, h1, h2⟩ := drop_cons (s := s) (j := k + 1) (by omega)
          obtain ⟨b, ys, h3, -⟩ := drop_cons (s := s) (j := k + 1 + 1) (by omega)
          exact ⟨a, b, ys, by rw [h1, ← h2, h3]⟩
        have HAB := Lib.hid hab
        clear hab
        have hBl : B < w2.heap.size := lt_of_heap hL
        have heS : ErrS w2 := by
          obtain ⟨ev, h1, h2⟩ := he
          exact ⟨ev, (hm2.below.cell (p := ⟨6, 0, none⟩) (by show 6 < B; omega)).trans h1, h2⟩
        have HES := Lib.hid heS
        clear heS he hL
        obtain ⟨j, hj⟩ : ∃ j, k + 1 = j := ⟨_, rfl⟩
        rw [hj] at hc1 HAB hm2
        have hj3 : j + 2 ≤ s.size := by omega
        have HJ := Lib.hid hj
        clear hj hd hx hget hfit
        have b1 : (0 : Int) ≤ (j : Int) := by omega
        have b2 : (j : Int) ≤ (j : Int) + 2 := by omega
        have b3 : (j : Int) + 2 ≤ (s.size : Int) := by omega
        have b5 : ((j : Int) + 2).toNat = j + 2 := by omega
        have b4 : IntKind.i64.wrap ((j : Int) + 2) = (j : Int) + 2 := IntWalk.i64_in _ (by omega)
        by_cases hy : 0 ≤ hexv a ∧ 0 ≤ hexv b
        · have HY := Lib.hid hy
          clear hy
          go_region_held3 (fun w' => w'.cell? ⟨B, 0, none⟩ = some (.string s) ∧ w'.cell? ⟨B, 1, none⟩ = some (.int .i64 (j : Int)))
            (first | go_keep | (exact ⟨(hb5.cell (p := ⟨B, 0, none⟩) hBl).trans hc0, (hb5.cell (p := ⟨B, 1, none⟩) hBl).trans hc1⟩))
            (first | (go_at_call 87; refine (parse_82_yes _ a b (ext_two HAB.out (by first | rfl | omega) (by first | rfl | omega)) _ HY.out).mono ?_; rintro e w5 ⟨rfl, hb5⟩))
          clear b1 b2 b3 b4 b5
          have hm5 : Moved B s j w w5 := by
            refine moved_below hm2 ?_
            first | exact hb5 | exact below_undrew hb5 | exact below_undrewN hb5
          have HM5 := Lib.hid hm5
          have hL := hm5.lex
          clear hc0 hc1 hb5
          have hc1 : w5.cell? ⟨B, 1, none⟩ = some (.int .i64 (j : Int)) := cell_of_heap hL rfl
          have hfz : w5.frozen? ⟨B, 1, none⟩ = false := frozen_of_heap hL
          obtain ⟨hx1, hx2, hx3⟩ := hex_byte HY.out
          obtain ⟨X, hX⟩ : ∃ X, 16 * hexv a + hexv b = X := ⟨_, rfl⟩
          rw [hX] at hx1 hx2 hx3 ⊢
          have HX := Lib.hid hX
          have HX1 := Lib.hid hx1
          clear hX hx1 hm5 hL
          go_wp2_with fail
          go_quiet (fail)
          go_wp2_with fail
          refine bodyPost_ret (v := .tuple #[.int .u8 X, .bool true]) (by simp [results, Tryz.results71, go_sem]) rfl ?_
          rw [EscPost, HC.out, ← HD.out, HJ.out, HAB.out, esc_hex HE1.out h120, if_pos HY.out, HX.out]
          refine ⟨?_, ?_⟩
          · rw [← HX1.out, IntWalk.u8_in X (by omega)]
          · have := HJ.out
            exact moved_drew (moved_put HM5.out (by omega))
        · have HY := Lib.hid hy
          clear hy
          go_region_held3 (fun w' => w'.cell? ⟨B, 0, none⟩ = some (.string s) ∧ w'.cell? ⟨B, 1, none⟩ = some (.int .i64 (j : Int)))
            (first | go_keep | (exact ⟨(hb5.cell (p := ⟨B, 0, none⟩) hBl).trans hc0, (hb5.cell (p := ⟨B, 1, none⟩) hBl).trans hc1⟩))
            (first | (go_at_call 87; refine (parse_82_no _ a b (ext_two HAB.out (by first | rfl | omega) (by first | rfl | omega)) _ HY.out (by exact HES.out)).mono ?_; rintro e w5 ⟨N, rfl, hb5⟩))
          clear b1 b2 b3 b4 b5
          have hm5 : Moved B s j w w5 := by
            refine moved_below hm2 ?_
            first | exact hb5 | exact below_undrew hb5 | exact below_undrewN hb5
          have HM5 := Lib.hid hm5
          have hL := hm5.lex
          clear hc0 hc1 hb5
          have hc1 : w5.cell? ⟨B, 1, none⟩ = some (.int .i64 (j : Int)) := cell_of_heap hL rfl
          have hfz : w5.frozen? ⟨B, 1, none⟩ = false := frozen_of_heap hL
          clear hm5 hL
          go_wp2_with fail
          go_quiet (fail)
          go_wp2_with fail
          refine bodyPost_ret (v := .tuple #[.int .u8 0, .bool false]) (by simp [results, Tryz.results71, go_sem]) rfl ?_
          rw [EscPost, HC.out, ← HD.out, HJ.out, HAB.out, esc_hex HE1.out h120, if_neg HY.out]
          exact ⟨⟨0, rfl⟩, j + 2, moved_drew (moved_put HM5.out (by omega))⟩
      · have hd : decide ((s.size : Int) < ((k + 1 : Nat) : Int) + 2) = true := by simp; omega
        go_wp2_with fail
        go_quiet (fail)
        go_wp2_with fail
        refine bodyPost_ret (v := .tuple #[.int .u8 0, .bool false]) (by simp [results, Tryz.results71, go_sem]) rfl ?_
        have hcl : cs.length < 2 := by rw [← HD.out, List.length_drop, len_list]; omega
        rw [EscPost, HC.out, esc_short HE1.out hcl]
        exact ⟨⟨0, rfl⟩, k + 1, moved_drew hm1⟩
    · have hx : ((c.toNat : Int) != 120) = true := by simp; omega
      go_wp2_with fail
      go_quiet (fail)
      go_wp2_with fail
      refine bodyPost_ret (v := .tuple #[.int .u8 0, .bool false]) (by simp [results, Tryz.results71, go_sem]) rfl ?_
      rw [EscPost, HC.out, esc_bad HE1.out h120]
      exact ⟨⟨0, rfl⟩, k + 1, moved_drew hm1⟩
  · have h0 : s.data.toList.drop k = [] := List.drop_of_length_le (by rw [len_list]; omega)
    have hne : ((k : Int) == (s.size : Int)) = true := by simp; omega
    go_enter Tryz.func71, Tryz.ntmps71
    go_wp2_with fail
    go_quiet (fail)
    go_wp2_with fail
    refine bodyPost_ret (v := .tuple #[.int .u8 0, .bool false]) (by simp [results, Tryz.results71, go_sem]) rfl ?_
    rw [EscPost, h0]
    exact ⟨⟨0, rfl⟩, k, moved_drew (Moved.refl hB)⟩
end Go.Proofs.YtpjfkfbijimliaaGreatDoor
