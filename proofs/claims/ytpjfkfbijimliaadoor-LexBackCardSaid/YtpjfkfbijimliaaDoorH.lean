import Derived.Test.YtpjfkfbijimliaaDoorG
namespace Go.Proofs.YtpjfkfbijimliaaDoor
open Go.RowKit Go.Pen

def numStep (n : Nat) (c : UInt8) : Nat := 10 * n + (c.toNat - 48)
def numFrom (n : Nat) (l : Bytes) : Nat := l.foldl numStep n
def num (l : Bytes) : Nat := numFrom 0 l

theorem numFrom_nil (n : Nat) : numFrom n [] = n := by unfold numFrom; exact List.foldl_nil
theorem numFrom_cons (n : Nat) (c : UInt8) (cs : Bytes) : numFrom n (c :: cs) = numFrom (numStep n c) cs := by unfold numFrom; exact List.foldl_cons ..
theorem le_numFrom (l : Bytes) : ∀ (n : Nat), n ≤ numFrom n l := by
  induction l with
  | nil => exact fun n => by rw [numFrom_nil]; exact Nat.le_refl _
  | cons c cs ih => exact fun n => by rw [numFrom_cons]; refine Nat.le_trans ?_ (ih _); rw [numStep]; omega

set_option maxRecDepth 100000 in
set_option maxHeartbeats 2000000 in
theorem number_46 (t : ByteArray) (w : World) (hs : t.size ≤ 16384) (hdg : ∀ c ∈ t.data.toList, dig c = true) :
    Calls Tryd.prog 46 #[.string t] w fun e w' => e = .returned (if num t.data.toList ≤ 9223372036854775807 then .tuple #[.int .i64 (num t.data.toList), .bool true] else .tuple #[.int .i64 0, .bool false]) ∧ w' = w := by
  obtain ⟨N, hN⟩ : ∃ N, num t.data.toList = N := ⟨_, rfl⟩
  rw [hN]
  go_enter Tryd.func46, Tryd.ntmps46
  go_wp2_with fail
  go_loop [4, 5] (fun a i => ∃ m n : Nat, m ≤ t.size ∧ i = .int .i64 m ∧ a = .int .u64 n ∧ n ≤ 9223372036854775807 ∧ numFrom n (t.data.toList.drop m) = N) (fun _ i => t.size - (intOf i).toNat)
  case atStart => exact ⟨0, 0, Nat.zero_le _, rfl, rfl, by omega, hN⟩
  case round =>
    obtain ⟨m, n, hm, rfl, rfl, hn, he⟩ := hrel
    clear hN
    rcases Nat.lt_or_ge m t.size with hlt | hge
    · have hd : decide ((m : Int) < (t.size : Int)) = true := by simpa using hlt
      obtain ⟨c, cs, hcs, hcs'⟩ := drop_cons hlt
      have hget := get_of_drop hcs hlt
      have hc := hdg c (List.mem_of_mem_drop (by rw [hcs]; exact List.mem_cons_self))
      have hc1 : 48 ≤ c.toNat ∧ c.toNat ≤ 57 := by simpa [dig] using hc
      obtain ⟨h48, h57⟩ := hc1
      obtain ⟨d, hdd⟩ : ∃ d : Nat, (c.toNat : Int) - 48 = d := ⟨c.toNat - 48, by omega⟩
      have hd9 : d ≤ 9 := by omega
      rw [hcs, numFrom_cons, numStep, show c.toNat - 48 = d by omega] at he
      have hcd : (c.toNat : Int) = 48 + d := by omega
      by_cases hbig : 10 * n + d ≤ 9223372036854775807
      · have ht1 : decide (((9223372036854775807 : Int) - (d : Int)).tdiv 10 < (n : Int)) = false := by
          rw [Int.tdiv_eq_ediv_of_nonneg (by omega)]; simp; omega
        go_wp2_with fail
        exact ⟨⟨m + 1, 10 * n + d, hlt, by simp, by congr 1; omega, hbig, by rw [hcs']; exact he⟩, by simp [intOf]; omega⟩
      · have ht1 : decide (((9223372036854775807 : Int) - (d : Int)).tdiv 10 < (n : Int)) = true := by
          rw [Int.tdiv_eq_ediv_of_nonneg (by omega)]; simp; omega
        have hN : ¬ N ≤ 9223372036854775807 := by
          have := le_numFrom cs (10 * n + d); omega
        go_wp2_with fail
        exact bodyPost_ret (v := .tuple #[.int .i64 0, .bool false]) (by simp [results, Tryd.results46, go_sem]) rfl ⟨rfl, rfl⟩
    · have hd : decide ((m : Int) < (t.size : Int)) = false := by simp; omega
      have h0 : t.data.toList.drop m = [] := List.drop_of_length_le (by rw [len_list]; omega)
      rw [h0, numFrom_nil] at he
      subst he
      go_wp2_with fail
      exact bodyPost_ret (v := .tuple #[.int .i64 n, .bool true]) (by simp [results, Tryd.results46, go_sem]) rfl ⟨rfl, rfl⟩
end Go.Proofs.YtpjfkfbijimliaaDoor
