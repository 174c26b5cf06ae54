import Derived.Test.YtpjfkfbijimliaaGreatDoorB
namespace Go.Proofs.YtpjfkfbijimliaaGreatDoor
open Go.RowKit Go.Pen

theorem get_of_drop {s : ByteArray} {j : Nat} {c : UInt8} {cs : Bytes} (hc : s.data.toList.drop j = c :: cs) (h : j < s.size) : s[j]'h = c := by
  have h' : j < s.data.toList.length := by rw [len_list]; exact h
  rw [List.drop_eq_getElem_cons h'] at hc
  exact (List.cons.inj hc).1

theorem blk_nat (c : UInt8) : blk c = (((c.toNat : Int) == 32) || ((c.toNat : Int) == 9) || ((c.toNat : Int) == 13) || ((c.toNat : Int) == 10)) := by
  have h : ∀ n : Nat, n < 256 → (c == n.toUInt8) = ((c.toNat : Int) == (n : Int)) := fun n hn => by
    rw [Bool.eq_iff_iff, beq_iff_eq, beq_iff_eq]
    constructor
    · rintro rfl; simp; omega
    · intro e; apply UInt8.toNat_inj.1; simp; omega
  have h1 := h 32 (by omega)
  have h2 := h 9 (by omega)
  have h3 := h 13 (by omega)
  have h4 := h 10 (by omega)
  exact congr (congrArg _ (congr (congrArg _ (congr (congrArg _ h1) h2)) h3)) h4

theorem sk_true_end {l : Bytes} (h : l = [] ∨ l.head? = some 10) : sk true l = sk false l := by
  rcases h with rfl | h
  · rfl
  · cases l with
    | nil => rfl
    | cons c cs => obtain rfl : c = 10 := by simpa using h
                   simp [sk, blk]

theorem byte_eq {c : UInt8} {n : Nat} (hn : n < 256) : (c == n.toUInt8) = ((c.toNat : Int) == (n : Int)) := by
  rw [Bool.eq_iff_iff, beq_iff_eq, beq_iff_eq]
  constructor
  · rintro rfl; simp; omega
  · intro e; apply UInt8.toNat_inj.1; simp; omega

theorem blank_round {s : ByteArray} {j j' K : Nat} {x : Int} (hlt : j < s.size) (hx : x = (j' : Int)) (hj : j < j') (hj' : j' ≤ s.size) (he : j' + sk false (s.data.toList.drop j') = K) :
    (∃ j_1, j_1 ≤ s.size ∧ Value.int IntKind.i64 x = Value.int IntKind.i64 (j_1 : Nat) ∧ j_1 + sk false (s.data.toList.drop j_1) = K) ∧ s.size - (intOf (Value.int IntKind.i64 x)).toNat < s.size - (intOf (Value.int IntKind.i64 j)).toNat := by
  subst hx
  refine ⟨⟨j', hj', rfl, he⟩, ?_⟩
  simp [intOf]
  omega

theorem dash_cases {s : ByteArray} {j : Nat} {c : UInt8} {cs : Bytes} (hcs' : s.data.toList.drop (j + 1) = cs) :
    ((c == 45 && cs.head? == some 45) = true ∧ (c.toNat : Int) = 45 ∧ ∃ h : j + 1 < s.size, ((s[j + 1]'h).toNat : Int) = 45) ∨
    ((c == 45 && cs.head? == some 45) = false ∧ (¬ (c.toNat : Int) = 45 ∨ ((c.toNat : Int) = 45 ∧ (¬ j + 1 < s.size ∨ ∃ h : j + 1 < s.size, ¬ ((s[j + 1]'h).toNat : Int) = 45)))) := by
  have h45 := byte_eq (c := c) (n := 45) (by omega)
  have e45 : (45 : Nat).toUInt8 = 45 := rfl
  rw [e45] at h45
  by_cases h1 : (c.toNat : Int) = 45
  · rw [h45, h1]
    by_cases h2 : j + 1 < s.size
    · obtain ⟨d, ds, hd, -⟩ := drop_cons h2
      have hg := get_of_drop hd h2
      rw [hcs'] at hd
      subst hd
      have h46 := byte_eq (c := d) (n := 45) (by omega)
      rw [e45] at h46
      by_cases h3 : (d.toNat : Int) = 45
      · left
        refine ⟨?_, rfl, h2, by rw [hg]; exact h3⟩
        have : (d == 45) = true := by rw [h46, h3]; rfl
        have : d = 45 := eq_of_beq this
        subst this
        rfl
      · right
        refine ⟨?_, Or.inr ⟨rfl, Or.inr ⟨h2, by rw [hg]; exact h3⟩⟩⟩
        have h4 : ¬ d = 45 := fun e => h3 (by subst e; rfl)
        simp [h4]
    · right
      refine ⟨?_, Or.inr ⟨rfl, Or.inl h2⟩⟩
      have : cs = [] := by rw [← hcs']; exact List.drop_of_length_le (by rw [len_list]; omega)
      subst this
      rfl
  · right
    refine ⟨?_, Or.inl h1⟩
    rw [h45]
    have : ((c.toNat : Int) == ((45 : Nat) : Int)) = false := by simpa using h1
    rw [this]; rfl

end Go.Proofs.YtpjfkfbijimliaaGreatDoor
