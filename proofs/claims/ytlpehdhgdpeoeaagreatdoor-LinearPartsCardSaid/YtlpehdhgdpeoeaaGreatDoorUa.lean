import Derived.Test.YtlpehdhgdpeoeaaGreatDoorFb
/- What an expression comes to fits; products. No program in sight. -/
namespace Go.Proofs.YtlpehdhgdpeoeaaGreatDoor
open Go.RowKit Go.Pen Go.Shelf

theorem mul_in {x y : Int} (h0 : y ≠ 0) (hx : -9223372036854775808 ≤ x ∧ x ≤ 9223372036854775807) (h : -9223372036854775808 ≤ x * y ∧ x * y ≤ 9223372036854775807) : wrap64 (Int.tdiv (wrap64 (x * y)) y) = x := by
  have hw : wrap64 (x * y) = x * y := by unfold wrap64; omega
  rw [hw, Int.mul_tdiv_cancel x h0]
  unfold wrap64; omega

theorem mul_out {x y : Int} (h0 : y ≠ 0) (hx : -9223372036854775808 ≤ x ∧ x ≤ 9223372036854775807) (hy : -9223372036854775808 ≤ y ∧ y ≤ 9223372036854775807) (h : ¬ (-9223372036854775808 ≤ x * y ∧ x * y ≤ 9223372036854775807)) (h1 : wrap64 (Int.tdiv (wrap64 (x * y)) y) = x) : y = -1 ∧ x = -9223372036854775808 := by
  by_cases e1 : y = -1
  · subst e1
    exact ⟨rfl, by omega⟩
  · exfalso
    have hc : -9223372036854775808 ≤ wrap64 (x * y) ∧ wrap64 (x * y) ≤ 9223372036854775807 := by unfold wrap64; omega
    have hr := tdiv_range hc h0 e1
    have hq : Int.tdiv (wrap64 (x * y)) y = x := by
      refine Eq.trans ?_ h1
      generalize Int.tdiv (wrap64 (x * y)) y = q at hr
      unfold wrap64; omega
    have hm := Int.mul_tdiv_add_tmod (wrap64 (x * y)) y
    rw [hq] at hm
    have ha : (Int.tmod (wrap64 (x * y)) y).natAbs = (wrap64 (x * y)).natAbs % y.natAbs := Int.natAbs_tmod _ _
    have hl : (wrap64 (x * y)).natAbs % y.natAbs < y.natAbs := Nat.mod_lt _ (by omega)
    rw [Int.mul_comm y x] at hm
    generalize Int.tmod (wrap64 (x * y)) y = m at *
    generalize x * y = P at *
    clear hq h1 hr hc
    unfold wrap64 at *
    omega

theorem mul_law {x y : Int} (h0 : y ≠ 0) (hx : -9223372036854775808 ≤ x ∧ x ≤ 9223372036854775807) (hy : -9223372036854775808 ≤ y ∧ y ≤ 9223372036854775807) :
    ((wrap64 (Int.tdiv (wrap64 (x * y)) y) ≠ x ∨ (x = -1 ∧ y = -9223372036854775808)) ∨ (y = -1 ∧ x = -9223372036854775808)) ↔ ¬ (-9223372036854775808 ≤ x * y ∧ x * y ≤ 9223372036854775807) := by
  constructor
  · rintro ((h | ⟨rfl, rfl⟩) | ⟨rfl, rfl⟩) hin
    · exact h (mul_in h0 hx hin)
    · omega
    · omega
  · intro h
    by_cases h1 : wrap64 (Int.tdiv (wrap64 (x * y)) y) = x
    · exact .inr (mul_out h0 hx hy h h1)
    · exact .inl (.inl h1)

/-- what comes of something fits -/
def ResOk (v : Res) : Prop := v.1.fits ∧ v.2 ≤ 65535
theorem zero_fits : Dat.zero.fits := ⟨⟨by decide, by decide⟩, ⟨by decide, by decide⟩, by decide⟩
theorem bad_ok {n : Nat} (h : n ≤ 65535) : ResOk (bad n) := ⟨zero_fits, h⟩
theorem nul_ok : ResOk (nul, 0) := ⟨⟨⟨by decide, by decide⟩, ⟨by decide, by decide⟩, by decide⟩, by decide⟩
theorem boo_ok (b : Bool) : ResOk (boo b, 0) := ⟨⟨⟨by show (0 : Int) ≤ 2; decide, by show (2 : Int) ≤ 255; decide⟩, ⟨by show _ ≤ (0 : Int); decide, by show (0 : Int) ≤ _; decide⟩, by show (0 : Nat) ≤ _; omega⟩, Nat.zero_le _⟩
theorem num_ok {n : Int} (h : -9223372036854775808 ≤ n ∧ n ≤ 9223372036854775807) : ResOk (num n, 0) := ⟨⟨⟨by show (0 : Int) ≤ 3; decide, by show (3 : Int) ≤ 255; decide⟩, h, by show (0 : Nat) ≤ _; omega⟩, Nat.zero_le _⟩
theorem txt_ok {t : ByteArray} (h : t.size ≤ 140737488355328) : ResOk (txt t, 0) := ⟨⟨⟨by show (0 : Int) ≤ 4; decide, by show (4 : Int) ≤ 255; decide⟩, ⟨by show _ ≤ (0 : Int); decide, by show (0 : Int) ≤ _; decide⟩, h⟩, Nat.zero_le _⟩
theorem ov_ok (n : Int) : ResOk (ov n) := by
  unfold ov
  split
  · next h => exact num_ok h
  · exact bad_ok (by decide)
theorem both_ok {k : Int} {a b : Dat} {r : Res} (h : ResOk r) : ResOk (both k a b r) := by
  unfold both
  split
  · exact bad_ok (by decide)
  · split
    · exact nul_ok
    · exact h
theorem sole_ok {k : Int} {a : Dat} {r : Res} (h : ResOk r) : ResOk (sole k a r) := by
  unfold sole
  split
  · exact bad_ok (by decide)
  · split
    · exact nul_ok
    · exact h
theorem runesN_le : ∀ (n : Nat) (l : List UInt8), runesN n l ≤ n
  | 0, _ => Nat.le_refl _
  | _ + 1, [] => Nat.zero_le _
  | n + 1, c :: cs => by
    have := runesN_le n ((c :: cs).drop (Lib.decodeL (c :: cs)).2)
    simp only [runesN]; omega
theorem tmod_range {x y : Int} (hx : -9223372036854775808 ≤ x ∧ x ≤ 9223372036854775807) : -9223372036854775808 ≤ Int.tmod x y ∧ Int.tmod x y ≤ 9223372036854775807 := by
  have hn : (Int.tmod x y).natAbs = x.natAbs % y.natAbs := Int.natAbs_tmod x y
  have hl := Nat.mod_le x.natAbs y.natAbs
  by_cases h : 0 ≤ x
  · omega
  · have h2 : Int.tmod x y ≤ 0 := by
      have := Int.tmod_nonneg y (a := -x) (by omega)
      rw [Int.neg_tmod] at this
      omega
    omega
theorem tdiv_range2 {x y : Int} (hx : -9223372036854775808 ≤ x ∧ x ≤ 9223372036854775807) (h0 : y ≠ 0) (h1 : y ≠ -1) : -9223372036854775808 ≤ Int.tdiv x y ∧ Int.tdiv x y ≤ 9223372036854775807 := tdiv_range hx h0 h1

theorem oneD_ok {o : Int} {a : Dat} (ha : a.fits) : ResOk (oneD o a) := by
  unfold oneD
  split
  · exact sole_ok (ov_ok _)
  · split
    · refine sole_ok (num_ok ?_)
      have h1 := runesN_le a.text.data.toList.length a.text.data.toList
      have h2 : a.text.data.toList.length = a.text.size := by simp
      have h3 := ha.2.2
      unfold runes
      omega
    · exact sole_ok (boo_ok _)
theorem compD_ok (o : Int) (a b : Dat) : ResOk (compD o a b) := by
  unfold compD
  split
  · exact bad_ok (by decide)
  · split
    · exact nul_ok
    · split
      · exact bad_ok (by decide)
      · exact boo_ok _
theorem twoD_ok {o : Int} {a b : Dat} (ha : a.fits) : ResOk (twoD o a b) := by
  unfold twoD
  split
  · exact both_ok (ov_ok _)
  · split
    · exact both_ok (ov_ok _)
    · split
      · exact both_ok (ov_ok _)
      · split
        · unfold divD
          refine both_ok ?_
          split
          · exact bad_ok (by decide)
          · exact ov_ok _
        · split
          · unfold modD
            refine both_ok ?_
            split
            · exact bad_ok (by decide)
            · exact num_ok (tmod_range ha.2.1)
          · split
            · unfold catD
              refine both_ok ?_
              split
              · exact bad_ok (by decide)
              · next h =>
                refine txt_ok ?_
                show (a.text.data.toList ++ b.text.data.toList).toArray.size ≤ _
                rw [List.size_toArray, List.length_append, Array.length_toList, Array.length_toList]
                have h1 : a.text.size = a.text.data.size := rfl
                have h2 : b.text.size = b.text.data.size := rfl
                omega
            · exact compD_ok _ _ _
theorem told_ok {r : Res} (h : ResOk r) : ResOk (told r) := by
  unfold told
  split
  · exact h
  · split
    · exact bad_ok (by decide)
    · exact bad_ok h.2
theorem truth_ok {v : Res} (h : ResOk v) : (truth v).1 ≤ 65535 := by
  unfold truth
  split
  · exact h.2
  · split
    · show 31 ≤ 65535; decide
    · show 0 ≤ 65535; decide
theorem logic_ok (stop : Bool) : ∀ (vs : List Res) (so : Bool), (∀ v ∈ vs, ResOk v) → ResOk (logic stop so vs)
  | [], so, _ => by
    cases so
    · exact boo_ok _
    · exact nul_ok
  | v :: vs, so, h => by
    simp only [logic]
    split
    · exact bad_ok (truth_ok (h v List.mem_cons_self))
    · split
      · exact boo_ok _
      · exact logic_ok stop vs _ fun x hx => h x (List.mem_cons_of_mem _ hx)
theorem choice_ok : ∀ (n : Nat) (vs : List Res), vs.length ≤ n → (∀ v ∈ vs, ResOk v) → ResOk (choice vs)
  | _, [], _, _ => bad_ok (by decide)
  | _, [v], _, h => h v List.mem_cons_self
  | 0, _ :: _ :: _, hn, _ => by simp at hn
  | n + 1, c :: v :: vs, hn, h => by
    simp only [choice]
    split
    · exact bad_ok (truth_ok (h c List.mem_cons_self))
    · split
      · exact h v (List.mem_cons_of_mem _ List.mem_cons_self)
      · exact choice_ok n vs (by simp at hn; omega) fun x hx => h x (List.mem_cons_of_mem _ (List.mem_cons_of_mem _ hx))
theorem coal_ok : ∀ (vs : List Res), (∀ v ∈ vs, ResOk v) → ResOk (coal vs)
  | [], _ => nul_ok
  | v :: vs, h => by
    simp only [coal]
    split
    · exact h v List.mem_cons_self
    · exact coal_ok vs fun x hx => h x (List.mem_cons_of_mem _ hx)
theorem restV_ok {o : Int} {vs : List Res} (h : ∀ v ∈ vs, ResOk v) : ResOk (restV o vs) := by
  cases vs with
  | nil => exact bad_ok (by decide)
  | cons a t =>
    simp only [restV]
    split
    · exact bad_ok (h a List.mem_cons_self).2
    · split
      · exact boo_ok _
      · cases t with
        | nil => exact told_ok (oneD_ok (h a List.mem_cons_self).1)
        | cons b t =>
          simp only
          split
          · exact bad_ok (h b (List.mem_cons_of_mem _ List.mem_cons_self)).2
          · exact told_ok (twoD_ok (h a List.mem_cons_self).1)

/-- what an expression that may be comes to fits -/
theorem val_ok (r : List Dat) (hr : ∀ d ∈ r, d.fits) : ∀ (e : ET) (deep : Nat), e.fits → e.good okD deep = true → ResOk (e.val r) := by
  refine ET.ind fun o c d ks ih deep hf hg => ?_
  simp only [ET.good, Bool.and_eq_true, decide_eq_true_eq, ET.goods_iff] at hg
  obtain ⟨⟨hown, -⟩, hgs⟩ := hg
  simp only [ET.fits, ET.fitss_iff] at hf
  obtain ⟨-, -, hd, -, hfs⟩ := hf
  have hvs : ∀ v ∈ ET.vals r ks, ResOk v := by
    rw [ET.vals_map]
    intro v hv
    obtain ⟨k, hk, rfl⟩ := List.mem_map.1 hv
    exact ih k hk (deep + 1) (hfs k hk) (hgs k hk)
  simp only [ET.val]
  split
  · refine ⟨?_, Nat.zero_le _⟩
    show (r.getD c.toNat Dat.zero).fits
    rw [List.getD_eq_getElem?_getD]
    cases hx : r[c.toNat]? with
    | none => exact zero_fits
    | some x => exact hr x (List.mem_of_getElem? hx)
  · split
    · exact ⟨hd, Nat.zero_le _⟩
    · split
      · next h23 =>
        subst h23
        have h5 := ((own_mk hown).2.2.2.2.1 rfl).2
        exact bad_ok (by omega)
      · split
        · exact logic_ok _ _ _ hvs
        · split
          · exact choice_ok _ _ (Nat.le_refl _) hvs
          · split
            · exact coal_ok _ hvs
            · exact restV_ok hvs
end Go.Proofs.YtlpehdhgdpeoeaaGreatDoor
