import Derived.Test.YtpjfkfbijimliaaDoorB
namespace Go.Proofs.YtpjfkfbijimliaaDoor
open Go.RowKit Go.Pen

theorem get_of_drop {s : ByteArray} {j : Nat} {c : UInt8} {cs : Bytes} (hc : s.data.toList.drop j = c :: cs) (h : j < s.size) : s[j]'h = c := by
  have h' : j < s.data.toList.length := by rw [len_list]; exact h
  rw [List.drop_eq_getElem_cons h'] at hc
  exact (List.cons.inj hc).1

theorem blk_nat (c : UInt8) : blk c = (((c.toNat : Int) == 32) || ((c.toNat : Int) == 9) || ((c.toNat : Int) == 13) || ((c.toNat : Int) == 10)) := by
  have h : ∀ n : Nat, n < 256 → (c == n.toUInt8) = ((c.toNat : Int) == (n : Int)) := fun n hn => by
    rw [Bool.eq_iff_iff, beq_iff_eq, beq_iff_eq]
    constructor
    · rintro rfl; simp; omega
    · intro e; apply UInt8.toNat_inj.1; simp; omega
  have h1 := h 32 (by omega)
  have h2 := h 9 (by omega)
  have h3 := h 13 (by omega)
  have h4 := h 10 (by omega)
  exact congr (congrArg _ (congr (congrArg _ (congr (congrArg _ h1) h2)) h3)) h4

theorem sk_true_end {l : Bytes} (h : l = [] ∨ l.head? = some 10) : sk true l = sk false l := by
  rcases h with rfl | h
  · rfl
  · cases l with
    | nil => rfl
    | cons c cs => obtain rfl : c = 10 := by simpa using h
                   simp [sk, blk]

theorem byte_eq {c : UInt8} {n : Nat} (hn : n < 256) : (c == n.toUInt8) = ((c.toNat : Int) == (n : Int)) := by
  rw [Bool.eq_iff_iff, beq_iff_eq, beq_iff_eq]
  constructor
  · rintro rfl; simp; omega
  · intro e; apply UInt8.toNat_inj.1; simp; omega

theorem blank_round {s : ByteArray} {j j' K : Nat} {x : Int} (hlt : j < s.size) (hx : x = (j' : Int)) (hj : j < j') (hj' : j' ≤ s.size) (he : j' + sk false (s.data.toList.drop j') = K) :
    (∃ j_1, j_1 ≤ s.size ∧ Value.int IntKind.i64 x = Value.int IntKind.i64 (j_1 : Nat) ∧ j_1 + sk false (s.data.toList.drop j_1) = K) ∧ s.size - (intOf (Value.int IntKind.i64 x)).toNat < s.size - (intOf (Value.int IntKind.i64 j)).toNat := by
  subst hx
  refine ⟨⟨j', hj', rfl, he⟩, ?_⟩
  simp [intOf]
  omega

theorem dash_cases {s : ByteArray} {j : Nat} {c : UInt8} {cs : Bytes} (hcs' : s.data.toList.drop (j + 1) = cs) :
    ((c == 45 && cs.head? == some 45) = true ∧ (c.toNat : Int) = 45 ∧ ∃ h : j + 1 < s.size, ((s[j + 1]'h).toNat : Int) = 45) ∨
    ((c == 45 && cs.head? == some 45) = false ∧ (¬ (c.toNat : Int) = 45 ∨ ((c.toNat : Int) = 45 ∧ (¬ j + 1 < s.size ∨ ∃ h : j + 1 < s.size, ¬ ((s[j + 1]'h).toNat : Int) = 45)))) := by
  have h45 := byte_eq (c := c) (n := 45) (by omega)
  have e45 : (45 : Nat).toUInt8 = 45 := rfl
  rw [e45] at h45
  by_cases h1 : (c.toNat : Int) = 45
  · rw [h45, h1]
    by_cases h2 : j + 1 < s.size
    · obtain ⟨d, ds, hd, -⟩ := drop_cons h2
      have hg := get_of_drop hd h2
      rw [hcs'] at hd
      subst hd
      have h46 := byte_eq (c := d) (n := 45) (by omega)
      rw [e45] at h46
      by_cases h3 : (d.toNat : Int) = 45
      · left
        refine ⟨?_, rfl, h2, by rw [hg]; exact h3⟩
        have : (d == 45) = true := by rw [h46, h3]; rfl
        have : d = 45 := eq_of_beq this
        subst this
        rfl
      · right
        refine ⟨?_, Or.inr ⟨rfl, Or.inr ⟨h2, by rw [hg]; exact h3⟩⟩⟩
        have h4 : ¬ d = 45 := fun e => h3 (by subst e; rfl)
        simp [h4]
    · right
      refine ⟨?_, Or.inr ⟨rfl, Or.inl h2⟩⟩
      have : cs = [] := by rw [← hcs']; exact List.drop_of_length_le (by rw [len_list]; omega)
      subst this
      rfl
  · right
    refine ⟨?_, Or.inl h1⟩
    rw [h45]
    have : ((c.toNat : Int) == ((45 : Nat) : Int)) = false := by simpa using h1
    rw [this]; rfl

set_option maxRecDepth 100000 in
set_option maxHeartbeats 2000000 in
theorem blank_26 (s : ByteArray) (k : Nat) (w : World) (hk : k ≤ s.size) (hs : s.size ≤ 16384) :
    Calls Tryd.prog 26 #[.string s, .int .i64 k] w fun e w' => e = .returned (.int .i64 ((k + sk false (s.data.toList.drop k) : Nat) : Int)) ∧ w' = w := by
  obtain ⟨K, hK⟩ : ∃ K, K = k + sk false (s.data.toList.drop k) := ⟨_, rfl⟩
  rw [← hK]
  go_enter Tryd.func26, Tryd.ntmps26
  go_wp2_with fail
  go_loop [1] (fun i => ∃ j : Nat, j ≤ s.size ∧ i = .int .i64 j ∧ j + sk false (s.data.toList.drop j) = K) (fun i => s.size - (intOf i).toNat)
  case atStart => exact ⟨k, hk, rfl, hK.symm⟩
  case round =>
    obtain ⟨j, hj, rfl, he⟩ := hrel
    clear hK
    by_cases hlt : j < s.size
    · have hd : decide ((j : Int) < (s.size : Int)) = true := by simpa using hlt
      obtain ⟨c, cs, hcs, hcs'⟩ := drop_cons hlt
      have hget := get_of_drop hcs hlt
      have hbn := blk_nat c
      by_cases hb : blk c = true
      · have hr : j + 1 + sk false (s.data.toList.drop (j + 1)) = K := by
          rw [← he, hcs, hcs']
          simp only [sk, hb, if_true]
          omega
        have h4 : (c.toNat : Int) = 32 ∨ (c.toNat : Int) = 9 ∨ (c.toNat : Int) = 13 ∨ (c.toNat : Int) = 10 := by rw [hb] at hbn; simpa [or_assoc] using hbn.symm
        clear hbn
        rcases h4 with h4 | h4 | h4 | h4 <;> (go_wp2_with fail; exact blank_round hlt (by omega) (Nat.lt_succ_self _) hlt hr)
      · have hb' : blk c = false := by simpa using hb
        rw [hb'] at hbn
        have h4 : ¬ (c.toNat : Int) = 32 ∧ ¬ (c.toNat : Int) = 9 ∧ ¬ (c.toNat : Int) = 13 ∧ ¬ (c.toNat : Int) = 10 := by
          have := hbn.symm
          simp only [Bool.or_eq_false_iff, beq_eq_false_iff_ne] at this
          exact ⟨this.1.1.1, this.1.1.2, this.1.2, this.2⟩
        obtain ⟨h32, h9, h13, h10⟩ := h4
        have g32 : ((c.toNat : Int) == 32) = false := by simpa using h32
        have g9 : ((c.toNat : Int) == 9) = false := by simpa using h9
        have g13 : ((c.toNat : Int) == 13) = false := by simpa using h13
        have g10 : ((c.toNat : Int) == 10) = false := by simpa using h10
        clear hbn
        rcases dash_cases (c := c) hcs' with ⟨hp, h45, hl1, hn1⟩ | ⟨hp, hno⟩
        · have hd1 : decide ((j : Int) + 1 < (s.size : Int)) = true := by simp; omega
          have hj0 : j + sk true (s.data.toList.drop j) = K := by rw [← he, hcs, sk_dash hb' hp]
          go_wp2_with fail
          go_loop [1] (fun i => ∃ j' : Nat, j ≤ j' ∧ j' ≤ s.size ∧ i = .int .i64 j' ∧ j' + sk true (s.data.toList.drop j') = K) (fun i => s.size - (intOf i).toNat)
          case atStart => exact ⟨j, Nat.le_refl _, hj, rfl, hj0⟩
          case round =>
            obtain ⟨j', hjj, hj', rfl, he'⟩ := hrel
            by_cases hlt' : j' < s.size
            · have hd' : decide ((j' : Int) < (s.size : Int)) = true := by simpa using hlt'
              obtain ⟨c', cs', hcs2, hcs2'⟩ := drop_cons hlt'
              have hget' := get_of_drop hcs2 hlt'
              by_cases h10' : (c'.toNat : Int) = 10
              · have hne : j < j' := by
                  rcases Nat.lt_or_eq_of_le hjj with h | h
                  · exact h
                  · subst h; rw [hcs] at hcs2; cases hcs2; omega
                have hc10 : c' = 10 := UInt8.toNat_inj.1 (by rw [show (10 : UInt8).toNat = 10 from rfl]; omega)
                go_wp2_with fail
                refine blank_round hlt rfl hne hj' ?_
                rw [← he', hcs2, hc10, sk_true_end (Or.inr rfl)]
              · go_wp2_with fail
                have hc10 : (c' == 10) = false := by rw [byte_eq (n := 10) (by omega) |> (fun h => (h : (c' == 10) = _))]; simpa using h10'
                refine ⟨⟨j' + 1, by omega, hlt', by simp, ?_⟩, by simp [intOf]; omega⟩
                rw [← he', hcs2, hcs2']
                simp only [sk, hc10, Bool.false_eq_true, if_false]
                omega
            · have hd' : decide ((j' : Int) < (s.size : Int)) = false := by simpa using hlt'
              go_wp2_with fail
              refine blank_round hlt rfl (by omega) hj' ?_
              rw [← he', sk_true_end (Or.inl (List.drop_of_length_le (by rw [len_list]; omega)))]
        · have h0 : sk false (c :: cs) = 0 := by simp only [sk, hb', hp, Bool.false_eq_true, if_false]
          rw [hcs, h0, Nat.add_zero] at he
          subst he
          rcases hno with h45 | ⟨h45, hd1 | ⟨hd1, hn1⟩⟩
          · have h45' : ((c.toNat : Int) == 45) = false := by simpa using h45
            go_wp2_with fail
            go_ret
            exact ⟨rfl, rfl⟩
          · have hd2 : decide ((j : Int) + 1 < (s.size : Int)) = false := by simp; omega
            go_wp2_with fail
            go_ret
            exact ⟨rfl, rfl⟩
          · have hd2 : decide ((j : Int) + 1 < (s.size : Int)) = true := by simp; omega
            go_wp2_with fail
            go_ret
            exact ⟨rfl, rfl⟩
    · have hd : decide ((j : Int) < (s.size : Int)) = false := by simpa using hlt
      have h0 : s.data.toList.drop j = [] := List.drop_of_length_le (by rw [len_list]; omega)
      rw [h0] at he
      have h1 : sk false [] = 0 := rfl
      rw [h1, Nat.add_zero] at he
      subst he
      go_wp2_with fail
      go_ret
      exact ⟨rfl, rfl⟩
end Go.Proofs.YtpjfkfbijimliaaDoor
