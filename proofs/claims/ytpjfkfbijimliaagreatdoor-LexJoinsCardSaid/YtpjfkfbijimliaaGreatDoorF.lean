import Derived.Test.YtpjfkfbijimliaaGreatDoorE
namespace Go.Proofs.YtpjfkfbijimliaaGreatDoor
open Go.RowKit Go.Pen

def ldg (c : UInt8) : Bool := let_ c || dig c
theorem lit_42 (c : UInt8) (w : World) : Calls Tryz.prog 51 #[.int .u8 c.toNat] w fun e w' => e = .returned (.bool (ldg c)) ∧ w' = w := by
  go_enter Tryz.func51, Tryz.ntmps51
  go_wp2_with fail
  refine (letter_34 c _).mono ?_
  rintro _ _ ⟨rfl, rfl⟩
  cases hlt : let_ c
  · go_wp2_with fail
    refine (digit_33 c _).mono ?_
    rintro _ _ ⟨rfl, rfl⟩
    go_wp2_with fail
    go_ret
    exact ⟨by simp [ldg, hlt], rfl⟩
  · go_wp2_with fail
    go_ret
    exact ⟨by simp [ldg, hlt], rfl⟩

theorem ext_to (s : ByteArray) (k j : Nat) : (s.extract k j) = ⟨((s.data.toList.drop k).take (j - k)).toArray⟩ := Lib.extract_eq s k j

theorem takeWhile_take {p : UInt8 → Bool} {l : Bytes} {m : Nat} (h : (l.takeWhile p).length = m) : l.take m = l.takeWhile p := by
  have h1 := List.prefix_iff_eq_take.1 (List.takeWhile_prefix p (l := l))
  rw [h] at h1
  exact h1.symm

theorem run_ext {p : UInt8 → Bool} {s : ByteArray} {k j : Nat} (he : j = k + ((s.data.toList.drop k).takeWhile p).length) : s.extract k j = ⟨((s.data.toList.drop k).takeWhile p).toArray⟩ := by
  rw [ext_to, takeWhile_take]
  omega

def RunRel (p : UInt8 → Bool) (B : Nat) (s : ByteArray) (k : Nat) (w wr : World) : Prop :=
  ∃ j, k ≤ j ∧ j ≤ s.size ∧ Moved B s j w wr ∧ j + ((s.data.toList.drop j).takeWhile p).length = k + ((s.data.toList.drop k).takeWhile p).length

theorem run_round {p : UInt8 → Bool} {B : Nat} {s : ByteArray} {k j n : Nat} {x : Int} {w wr : World} {c : UInt8} {cs : Bytes} (hm : Moved B s j w wr) (hkj : k ≤ j) (hlt : j < s.size) (hx : x = ((j + 1 : Nat) : Int)) (hcs : s.data.toList.drop j = c :: cs) (hcs' : s.data.toList.drop (j + 1) = cs) (hp : p c = true) (he : j + ((s.data.toList.drop j).takeWhile p).length = k + ((s.data.toList.drop k).takeWhile p).length) :
    RunRel p B s k w ((wr.drewN n).setCell ⟨B, 1, none⟩ (.int .i64 x)) ∧ s.size - lexPos ((wr.drewN n).setCell ⟨B, 1, none⟩ (.int .i64 x)) B < s.size - lexPos wr B := by
  subst hx
  have hm' : Moved B s (j + 1) w ((wr.drewN n).setCell ⟨B, 1, none⟩ (.int .i64 ((j + 1 : Nat) : Int))) := moved_set hm
  refine ⟨⟨j + 1, by omega, hlt, hm', ?_⟩, ?_⟩
  · rw [← he, hcs', hcs, List.takeWhile_cons, hp]
    simp only [if_true, List.length_cons]
    omega
  · rw [lexPos_of hm'.lex, lexPos_of hm.lex]
    omega

set_option maxRecDepth 100000 in
set_option maxHeartbeats 2000000 in
theorem run_41_33 (B : Nat) (s : ByteArray) (k : Nat) (w : World) (hB : LexIs w B s k) (hk : k ≤ s.size) (hs : s.size ≤ 16384) :
    Calls Tryz.prog 50 #[.pointer (some ⟨B, 0, none⟩), .func (.func 35) #[] #[]] w fun e w' => e = .returned (.string ⟨((s.data.toList.drop k).takeWhile dig).toArray⟩) ∧ Moved B s (k + ((s.data.toList.drop k).takeWhile dig).length) w w' := by
  have hb1 : w.cell? ⟨B, 1, none⟩ = some (.int .i64 k) := cell_of_heap hB rfl
  go_enter Tryz.func50, Tryz.ntmps50
  go_wp2_with fail
  go_loopw [] (fun wr => RunRel dig B s k w wr) (fun wr => s.size - lexPos wr B)
  case atStart => exact ⟨k, Nat.le_refl _, hk, Moved.refl hB, rfl⟩
  case round =>
    obtain ⟨j, hkj, hj, hm, he⟩ := hrel
    clear hb1
    have hL := hm.lex
    have hc0 : wr.cell? ⟨B, 0, none⟩ = some (.string s) := cell_of_heap hL rfl
    have hc1 : wr.cell? ⟨B, 1, none⟩ = some (.int .i64 j) := cell_of_heap hL rfl
    have hfz : wr.frozen? ⟨B, 1, none⟩ = false := frozen_of_heap hL
    by_cases hlt : j < s.size
    · have hd : decide ((j : Int) < (s.size : Int)) = true := by simpa using hlt
      obtain ⟨c, cs, hcs, hcs'⟩ := drop_cons hlt
      have hget := get_of_drop hcs hlt
      go_wp2_with fail
      go_quiet ((go_at_call 35; exact Calls.quiet_of_same (digit_33 c _)))
      cases hp : dig c
      · have he0 : j = k + ((s.data.toList.drop k).takeWhile dig).length := by
          rw [← he, hcs, List.takeWhile_cons, hp]; rfl
        have hx := run_ext he0
        have hE := he0.symm
        clear he hcs hget he0
        go_wp2_with fail
        go_quiet (fail)
        go_wp2_with fail
        rw [hE, ← hx]
        go_ret
        exact ⟨rfl, by first | exact moved_drew hm | exact moved_drew (moved_drew hm)⟩
      · go_wp2_with fail
        exact run_round hm hkj hlt rfl hcs hcs' hp he
    · have hd : decide ((j : Int) < (s.size : Int)) = false := by simpa using hlt
      have he0 : j = k + ((s.data.toList.drop k).takeWhile dig).length := by
        rw [← he, List.drop_of_length_le (by rw [len_list]; omega)]; rfl
      have hx := run_ext he0
      have hE := he0.symm
      clear he he0
      go_wp2_with fail
      go_quiet (fail)
      go_wp2_with fail
      go_quiet (fail)
      go_wp2_with fail
      rw [hE, ← hx]
      go_ret
      exact ⟨rfl, by first | exact moved_drew hm | exact moved_drew (moved_drew hm)⟩

set_option maxRecDepth 100000 in
set_option maxHeartbeats 2000000 in
theorem run_41_42 (B : Nat) (s : ByteArray) (k : Nat) (w : World) (hB : LexIs w B s k) (hk : k ≤ s.size) (hs : s.size ≤ 16384) :
    Calls Tryz.prog 50 #[.pointer (some ⟨B, 0, none⟩), .func (.func 51) #[] #[]] w fun e w' => e = .returned (.string ⟨((s.data.toList.drop k).takeWhile ldg).toArray⟩) ∧ Moved B s (k + ((s.data.toList.drop k).takeWhile ldg).length) w w' := by
  have hb1 : w.cell? ⟨B, 1, none⟩ = some (.int .i64 k) := cell_of_heap hB rfl
  go_enter Tryz.func50, Tryz.ntmps50
  go_wp2_with fail
  go_loopw [] (fun wr => RunRel ldg B s k w wr) (fun wr => s.size - lexPos wr B)
  case atStart => exact ⟨k, Nat.le_refl _, hk, Moved.refl hB, rfl⟩
  case round =>
    obtain ⟨j, hkj, hj, hm, he⟩ := hrel
    clear hb1
    have hL := hm.lex
    have hc0 : wr.cell? ⟨B, 0, none⟩ = some (.string s) := cell_of_heap hL rfl
    have hc1 : wr.cell? ⟨B, 1, none⟩ = some (.int .i64 j) := cell_of_heap hL rfl
    have hfz : wr.frozen? ⟨B, 1, none⟩ = false := frozen_of_heap hL
    by_cases hlt : j < s.size
    · have hd : decide ((j : Int) < (s.size : Int)) = true := by simpa using hlt
      obtain ⟨c, cs, hcs, hcs'⟩ := drop_cons hlt
      have hget := get_of_drop hcs hlt
      go_wp2_with fail
      go_quiet ((go_at_call 51; exact Calls.quiet_of_same (lit_42 c _)))
      cases hp : ldg c
      · have he0 : j = k + ((s.data.toList.drop k).takeWhile ldg).length := by
          rw [← he, hcs, List.takeWhile_cons, hp]; rfl
        have hx := run_ext he0
        have hE := he0.symm
        clear he hcs hget he0
        go_wp2_with fail
        go_quiet (fail)
        go_wp2_with fail
        rw [hE, ← hx]
        go_ret
        exact ⟨rfl, by first | exact moved_drew hm | exact moved_drew (moved_drew hm)⟩
      · go_wp2_with fail
        exact run_round hm hkj hlt rfl hcs hcs' hp he
    · have hd : decide ((j : Int) < (s.size : Int)) = false := by simpa using hlt
      have he0 : j = k + ((s.data.toList.drop k).takeWhile ldg).length := by
        rw [← he, List.drop_of_length_le (by rw [len_list]; omega)]; rfl
      have hx := run_ext he0
      have hE := he0.symm
      clear he he0
      go_wp2_with fail
      go_quiet (fail)
      go_wp2_with fail
      go_quiet (fail)
      go_wp2_with fail
      rw [hE, ← hx]
      go_ret
      exact ⟨rfl, by first | exact moved_drew hm | exact moved_drew (moved_drew hm)⟩

end Go.Proofs.YtpjfkfbijimliaaGreatDoor
