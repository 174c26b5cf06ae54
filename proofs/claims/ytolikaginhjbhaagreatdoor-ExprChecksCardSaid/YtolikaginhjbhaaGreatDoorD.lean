import Derived.Test.YtolikaginhjbhaaGreatDoorC
import Derived.Laws.Bits64b
import Derived.IntWalk
/- kids: has an operator so many? -/
namespace Go.Proofs.YtolikaginhjbhaaGreatDoor
open Go.RowKit Go.Pen
attribute [local go_sem ↓] Go.wp_at_zero Go.wp_at_succ

theorem and1 (n : Nat) (hn : n ≤ 140737488355328) : bits BinOp.and IntKind.i64 (n : Int) 1 = ((n % 2 : Nat) : Int) := by
  have h1 : (BitVec.ofInt 64 (n : Int)).toNat = n := by
    rw [BitVec.ofInt_natCast, BitVec.toNat_ofNat]; exact Nat.mod_eq_of_lt (by omega)
  have h2 : (BitVec.ofInt 64 (1 : Int)).toNat = 1 := by decide
  show IntKind.i64.wrap ((BitVec.ofInt 64 (n : Int) &&& BitVec.ofInt 64 (1 : Int)).toNat : Int) = _
  rw [BitVec.toNat_and, h1, h2, Nat.and_one_is_mod]
  exact IntWalk.i64_in _ (by omega)

set_option maxRecDepth 100000 in
set_option maxHeartbeats 1000000 in
theorem kids_53 (op : Int) (n : Nat) (w : World) (h0 : 0 ≤ op) (hn : n ≤ 140737488355328) : Calls Tryz.prog 53 #[.int .u8 op, .int .i64 n] w fun e w' => e = .returned (.bool (kidsOk op n)) ∧ w' = w := by
  have hb := and1 n hn
  by_cases e1 : op = 1
  · subst e1
    go_enter Tryz.func53, Tryz.ntmps53
    go_wp2
    all_goals (go_ret; refine ⟨?_, rfl⟩; simp [kidsOk]; (try (rw [Bool.eq_iff_iff]; simp)); (try (first | omega | (intro h1; omega) | (intro h1 h2; omega) | (intro h1 h2 h3; omega) | (constructor <;> intro h1 <;> omega))))
  by_cases e2 : op = 2
  · subst e2
    go_enter Tryz.func53, Tryz.ntmps53
    go_wp2
    all_goals (go_ret; refine ⟨?_, rfl⟩; simp [kidsOk]; (try (rw [Bool.eq_iff_iff]; simp)); (try (first | omega | (intro h1; omega) | (intro h1 h2; omega) | (intro h1 h2 h3; omega) | (constructor <;> intro h1 <;> omega))))
  by_cases e23 : op = 23
  · subst e23
    go_enter Tryz.func53, Tryz.ntmps53
    go_wp2
    all_goals (go_ret; refine ⟨?_, rfl⟩; simp [kidsOk]; (try (rw [Bool.eq_iff_iff]; simp)); (try (first | omega | (intro h1; omega) | (intro h1 h2; omega) | (intro h1 h2 h3; omega) | (constructor <;> intro h1 <;> omega))))
  by_cases e3 : op = 3
  · subst e3
    go_enter Tryz.func53, Tryz.ntmps53
    go_wp2
    all_goals (go_ret; refine ⟨?_, rfl⟩; simp [kidsOk]; (try (rw [Bool.eq_iff_iff]; simp)); (try (first | omega | (intro h1; omega) | (intro h1 h2; omega) | (intro h1 h2 h3; omega) | (constructor <;> intro h1 <;> omega))))
  by_cases e10 : op = 10
  · subst e10
    go_enter Tryz.func53, Tryz.ntmps53
    go_wp2
    all_goals (go_ret; refine ⟨?_, rfl⟩; simp [kidsOk]; (try (rw [Bool.eq_iff_iff]; simp)); (try (first | omega | (intro h1; omega) | (intro h1 h2; omega) | (intro h1 h2 h3; omega) | (constructor <;> intro h1 <;> omega))))
  by_cases e17 : op = 17
  · subst e17
    go_enter Tryz.func53, Tryz.ntmps53
    go_wp2
    all_goals (go_ret; refine ⟨?_, rfl⟩; simp [kidsOk]; (try (rw [Bool.eq_iff_iff]; simp)); (try (first | omega | (intro h1; omega) | (intro h1 h2; omega) | (intro h1 h2 h3; omega) | (constructor <;> intro h1 <;> omega))))
  by_cases e20 : op = 20
  · subst e20
    go_enter Tryz.func53, Tryz.ntmps53
    go_wp2
    all_goals (go_ret; refine ⟨?_, rfl⟩; simp [kidsOk]; (try (rw [Bool.eq_iff_iff]; simp)); (try (first | omega | (intro h1; omega) | (intro h1 h2; omega) | (intro h1 h2 h3; omega) | (constructor <;> intro h1 <;> omega))))
  by_cases e21 : op = 21
  · subst e21
    go_enter Tryz.func53, Tryz.ntmps53
    go_wp2
    all_goals (go_ret; refine ⟨?_, rfl⟩; simp [kidsOk]; (try (rw [Bool.eq_iff_iff]; simp)); (try (first | omega | (intro h1; omega) | (intro h1 h2; omega) | (intro h1 h2 h3; omega) | (constructor <;> intro h1 <;> omega))))
  by_cases e22 : op = 22
  · subst e22
    go_enter Tryz.func53, Tryz.ntmps53
    go_wp2
    all_goals (go_ret; refine ⟨?_, rfl⟩; simp [kidsOk]; (try (rw [Bool.eq_iff_iff]; simp)); (try (first | omega | (intro h1; omega) | (intro h1 h2; omega) | (intro h1 h2 h3; omega) | (constructor <;> intro h1 <;> omega))))
  by_cases e0 : op = 0
  · subst e0
    go_enter Tryz.func53, Tryz.ntmps53
    go_wp2
    all_goals (go_ret; refine ⟨?_, rfl⟩; simp [kidsOk]; (try (rw [Bool.eq_iff_iff]; simp)); (try (first | omega | (intro h1; omega) | (intro h1 h2; omega) | (intro h1 h2 h3; omega) | (constructor <;> intro h1 <;> omega))))
  by_cases hlt : op < 21
  · go_enter Tryz.func53, Tryz.ntmps53
    go_wp2
    all_goals (go_ret; refine ⟨?_, rfl⟩; simp [kidsOk, e1, e2, e23, e3, e10, e17, e20, e21, e22]; (try (rw [Bool.eq_iff_iff]; simp)); (try (first | omega | (intro h1; omega) | (intro h1 h2; omega) | (intro h1 h2 h3; omega) | (constructor <;> intro h1 <;> omega))))
  · go_enter Tryz.func53, Tryz.ntmps53
    go_wp2
    all_goals (go_ret; refine ⟨?_, rfl⟩; simp [kidsOk, e1, e2, e23, e3, e10, e17, e20, e21, e22]; (try (rw [Bool.eq_iff_iff]; simp)); (try (first | omega | (intro h1; omega) | (intro h1 h2; omega) | (intro h1 h2 h3; omega) | (constructor <;> intro h1 <;> omega))))

set_option maxRecDepth 100000 in
set_option maxHeartbeats 1000000 in
theorem kids_104 (op : Int) (n : Nat) (w : World) (h0 : 0 ≤ op) (hn : n ≤ 140737488355328) : Calls Tryz.prog 104 #[.int .u8 op, .int .i64 n] w fun e w' => e = .returned (.bool (kidsOk op n)) ∧ w' = w := by
  by_cases e1 : op = 1
  · subst e1
    go_enter Tryz.func104, Tryz.ntmps104
    go_wp2
    all_goals (go_ret; refine ⟨?_, rfl⟩; simp [kidsOk]; (try (rw [Bool.eq_iff_iff]; simp)); (try (first | omega | (intro h1; omega) | (intro h1 h2; omega) | (intro h1 h2 h3; omega) | (constructor <;> intro h1 <;> omega))))
  by_cases e2 : op = 2
  · subst e2
    go_enter Tryz.func104, Tryz.ntmps104
    go_wp2
    all_goals (go_ret; refine ⟨?_, rfl⟩; simp [kidsOk]; (try (rw [Bool.eq_iff_iff]; simp)); (try (first | omega | (intro h1; omega) | (intro h1 h2; omega) | (intro h1 h2 h3; omega) | (constructor <;> intro h1 <;> omega))))
  by_cases e23 : op = 23
  · subst e23
    go_enter Tryz.func104, Tryz.ntmps104
    go_wp2
    all_goals (go_ret; refine ⟨?_, rfl⟩; simp [kidsOk]; (try (rw [Bool.eq_iff_iff]; simp)); (try (first | omega | (intro h1; omega) | (intro h1 h2; omega) | (intro h1 h2 h3; omega) | (constructor <;> intro h1 <;> omega))))
  by_cases e3 : op = 3
  · subst e3
    go_enter Tryz.func104, Tryz.ntmps104
    go_wp2
    all_goals (go_ret; refine ⟨?_, rfl⟩; simp [kidsOk]; (try (rw [Bool.eq_iff_iff]; simp)); (try (first | omega | (intro h1; omega) | (intro h1 h2; omega) | (intro h1 h2 h3; omega) | (constructor <;> intro h1 <;> omega))))
  by_cases e10 : op = 10
  · subst e10
    go_enter Tryz.func104, Tryz.ntmps104
    go_wp2
    all_goals (go_ret; refine ⟨?_, rfl⟩; simp [kidsOk]; (try (rw [Bool.eq_iff_iff]; simp)); (try (first | omega | (intro h1; omega) | (intro h1 h2; omega) | (intro h1 h2 h3; omega) | (constructor <;> intro h1 <;> omega))))
  by_cases e17 : op = 17
  · subst e17
    go_enter Tryz.func104, Tryz.ntmps104
    go_wp2
    all_goals (go_ret; refine ⟨?_, rfl⟩; simp [kidsOk]; (try (rw [Bool.eq_iff_iff]; simp)); (try (first | omega | (intro h1; omega) | (intro h1 h2; omega) | (intro h1 h2 h3; omega) | (constructor <;> intro h1 <;> omega))))
  by_cases e20 : op = 20
  · subst e20
    go_enter Tryz.func104, Tryz.ntmps104
    go_wp2
    all_goals (go_ret; refine ⟨?_, rfl⟩; simp [kidsOk]; (try (rw [Bool.eq_iff_iff]; simp)); (try (first | omega | (intro h1; omega) | (intro h1 h2; omega) | (intro h1 h2 h3; omega) | (constructor <;> intro h1 <;> omega))))
  by_cases e21 : op = 21
  · subst e21
    go_enter Tryz.func104, Tryz.ntmps104
    go_wp2
    all_goals (go_ret; refine ⟨?_, rfl⟩; simp [kidsOk]; (try (rw [Bool.eq_iff_iff]; simp)); (try (first | omega | (intro h1; omega) | (intro h1 h2; omega) | (intro h1 h2 h3; omega) | (constructor <;> intro h1 <;> omega))))
  by_cases e22 : op = 22
  · subst e22
    go_enter Tryz.func104, Tryz.ntmps104
    go_wp2
    all_goals (go_ret; refine ⟨?_, rfl⟩; simp [kidsOk]; (try (rw [Bool.eq_iff_iff]; simp)); (try (first | omega | (intro h1; omega) | (intro h1 h2; omega) | (intro h1 h2 h3; omega) | (constructor <;> intro h1 <;> omega))))
  by_cases e0 : op = 0
  · subst e0
    go_enter Tryz.func104, Tryz.ntmps104
    go_wp2
    all_goals (go_ret; refine ⟨?_, rfl⟩; simp [kidsOk]; (try (rw [Bool.eq_iff_iff]; simp)); (try (first | omega | (intro h1; omega) | (intro h1 h2; omega) | (intro h1 h2 h3; omega) | (constructor <;> intro h1 <;> omega))))
  by_cases hlt : op < 21
  · go_enter Tryz.func104, Tryz.ntmps104
    go_wp2
    all_goals (go_ret; refine ⟨?_, rfl⟩; simp [kidsOk, e1, e2, e23, e3, e10, e17, e20, e21, e22]; (try (rw [Bool.eq_iff_iff]; simp)); (try (first | omega | (intro h1; omega) | (intro h1 h2; omega) | (intro h1 h2 h3; omega) | (constructor <;> intro h1 <;> omega))))
  · go_enter Tryz.func104, Tryz.ntmps104
    go_wp2
    all_goals (go_ret; refine ⟨?_, rfl⟩; simp [kidsOk, e1, e2, e23, e3, e10, e17, e20, e21, e22]; (try (rw [Bool.eq_iff_iff]; simp)); (try (first | omega | (intro h1; omega) | (intro h1 h2; omega) | (intro h1 h2 h3; omega) | (constructor <;> intro h1 <;> omega))))
end Go.Proofs.YtolikaginhjbhaaGreatDoor
