import Derived.Test.YtlpehdhgdpeoeaaGreatDoorLa
import Derived.Test.YtlpehdhgdpeoeaaGreatDoorUi
/- What an expression comes to without an error is a datum that may be. No program in sight. -/
namespace Go.Proofs.YtlpehdhgdpeoeaaGreatDoor
open Go.RowKit Go.Pen

theorem lv_append : ∀ (k v : Nat) (cs m : Bytes) (x : Nat), lv v cs k = some x → lv v (cs ++ m) k = some x
  | 0, v, cs, m, x, h => by simpa [lv] using h
  | k + 1, v, [], m, x, h => by simp [lv] at h
  | k + 1, v, d :: ds, m, x, h => by
    simp only [List.cons_append, lv] at h ⊢
    split at h
    · next hd => rw [if_pos hd]; exact lv_append k _ ds m x h
    · cases h
theorem longN_append {c : UInt8} {cs m : Bytes} (h : longN (c :: cs) ≠ 0) : longN (c :: (cs ++ m)) = longN (c :: cs) := by
  simp only [longN] at h ⊢
  split
  · rfl
  · next h1 =>
    rw [if_neg h1] at h
    cases hh : headN c.toNat with
    | none => rfl
    | some p =>
      obtain ⟨n, v⟩ := p
      rw [hh] at h
      simp only at h ⊢
      by_cases h2 : cs.length + 1 < n
      · rw [if_pos h2] at h; exact absurd rfl h
      · rw [if_neg h2] at h ⊢
        have h3 : ¬ (cs ++ m).length + 1 < n := by rw [List.length_append]; omega
        rw [if_neg h3]
        cases hl : lv v cs (n - 1) with
        | none => rw [hl] at h; exact absurd rfl h
        | some x => rw [lv_append _ _ _ _ _ hl]
theorem valid_join : ∀ (n : Nat) (l m : Bytes), l.length ≤ n → Lib.validD l = true → Lib.validD m = true → Lib.validD (l ++ m) = true
  | _, [], m, _, _, h => h
  | 0, c :: cs, m, hn, _, _ => by simp at hn
  | n + 1, c :: cs, m, hn, hl, hm => by
    rw [valid_long] at hl
    rw [List.cons_append, valid_long]
    by_cases h0 : longN (c :: cs) = 0
    · rw [if_pos h0] at hl; cases hl
    · rw [if_neg h0] at hl
      rw [longN_append h0, if_neg h0]
      have hle := longN_le (c := c) (cs := cs)
      rw [show (c :: (cs ++ m)).drop (longN (c :: cs)) = (c :: cs).drop (longN (c :: cs)) ++ m from by
        rw [← List.cons_append, List.drop_append_of_le_length (by simpa using hle)]]
      exact valid_join n _ m (by simp only [List.length_drop, List.length_cons] at hn ⊢; omega) hl hm
theorem okD_text {d : Dat} (h : okD d = true) : Lib.validD d.text.data.toList = true := by
  have h := (show chkD d = 0 by simpa [okD] using h)
  unfold chkD at h
  split at h
  · cases h
  · split at h
    · cases h
    · split at h
      · cases h
      · next h3 => simpa using h3

/-- without an error: a datum that may be -/
def Sane (v : Res) : Prop := v.2 = 0 → okD v.1 = true
theorem okD_nm' (n : Int) : okD (num n) = true := by simp [okD, chkD, num]; rfl
theorem sane_bad {n : Nat} (h : n ≠ 0) : Sane (bad n) := fun e => absurd e h
theorem sane_nul : Sane (nul, 0) := fun _ => rfl
theorem sane_boo (b : Bool) : Sane (boo b, 0) := fun _ => by cases b <;> rfl
theorem sane_num (n : Int) : Sane (num n, 0) := fun _ => okD_nm' n
theorem sane_ov (n : Int) : Sane (ov n) := by
  unfold ov
  split
  · exact sane_num n
  · exact sane_bad (by decide)
theorem sane_told {r : Res} (h : Sane r) : Sane (told r) := by
  unfold told
  split
  · exact h
  · next h0 => split
               · exact sane_bad (by decide)
               · exact sane_bad h0
theorem isK_ok {k : Int} {d : Dat} (h : isK k d = true) : okD d = true := by
  simp only [isK, Bool.and_eq_true] at h
  exact h.1
theorem sane_both {k : Int} {a b : Dat} {r : Res} (h : okD a = true → okD b = true → Sane r) : Sane (both k a b r) := by
  unfold both
  split
  · exact sane_bad (by decide)
  · next hk =>
    have hk : isK k a = true ∧ isK k b = true := by simpa using hk
    split
    · exact sane_nul
    · exact h (isK_ok hk.1) (isK_ok hk.2)
theorem sane_sole {k : Int} {a : Dat} {r : Res} (h : Sane r) : Sane (sole k a r) := by
  unfold sole
  split
  · exact sane_bad (by decide)
  · split
    · exact sane_nul
    · exact h
theorem sane_one (o : Int) (a : Dat) : Sane (oneD o a) := by
  unfold oneD
  split
  · exact sane_sole (sane_ov _)
  · split
    · exact sane_sole (sane_num _)
    · exact sane_sole (sane_boo _)
theorem sane_cat (a b : Dat) : Sane (catD a b) := by
  refine sane_both fun ha hb => ?_
  split
  · exact sane_bad (by decide)
  · next hz =>
    intro _
    have hv := valid_join _ _ b.text.data.toList (Nat.le_refl _) (okD_text ha) (okD_text hb)
    have hz' : ¬ 1000 < (⟨(a.text.data.toList ++ b.text.data.toList).toArray⟩ : ByteArray).size := by
      show ¬ 1000 < (a.text.data.toList ++ b.text.data.toList).toArray.size
      rw [List.size_toArray, List.length_append]
      have e1 := len_list a.text
      have e2 := len_list b.text
      omega
    have hz2 : chkD (txt ⟨(a.text.data.toList ++ b.text.data.toList).toArray⟩) = 0 := by
      unfold chkD txt
      simp only
      rw [if_neg (by decide), if_neg (by simp), if_neg (by simp [hv]), if_neg hz']
    simp [okD, hz2]
theorem sane_comp (o : Int) (a b : Dat) : Sane (compD o a b) := by
  unfold compD
  split
  · exact sane_bad (by decide)
  · split
    · exact sane_nul
    · split
      · exact sane_bad (by decide)
      · exact sane_boo _
theorem sane_two (o : Int) (a b : Dat) : Sane (twoD o a b) := by
  unfold twoD
  split
  · exact sane_both fun _ _ => sane_ov _
  · split
    · exact sane_both fun _ _ => sane_ov _
    · split
      · exact sane_both fun _ _ => sane_ov _
      · split
        · refine sane_both fun _ _ => ?_
          split
          · exact sane_bad (by decide)
          · exact sane_ov _
        · split
          · refine sane_both fun _ _ => ?_
            split
            · exact sane_bad (by decide)
            · exact sane_num _
          · split
            · exact sane_cat a b
            · exact sane_comp o a b
theorem sane_logic (stop : Bool) : ∀ (vs : List Res) (so : Bool), Sane (logic stop so vs)
  | [], so => by
    unfold logic
    split
    · exact sane_nul
    · exact sane_boo _
  | v :: vs, so => by
    unfold logic
    split
    · next h => exact sane_bad h
    · split
      · exact sane_boo _
      · exact sane_logic stop vs _
theorem sane_choice : ∀ (n : Nat) (vs : List Res), vs.length ≤ n → vs.length % 2 = 1 → (∀ v ∈ vs, Sane v) → Sane (choice vs)
  | _, [], _, h, _ => by simp at h
  | _, [v], _, _, h => by unfold choice; exact h v (by simp)
  | 0, c :: v :: vs, hn, _, _ => by simp at hn
  | n + 1, c :: v :: vs, hn, hl, h => by
    unfold choice
    split
    · next h0 => exact sane_bad h0
    · split
      · exact h v (by simp)
      · exact sane_choice n vs (by simp at hn; omega) (by simp at hl; omega) fun x hx => h x (by simp [hx])
theorem sane_coal : ∀ (vs : List Res), (∀ v ∈ vs, Sane v) → Sane (coal vs)
  | [], _ => by unfold coal; exact sane_nul
  | v :: vs, h => by
    unfold coal
    split
    · exact h v (by simp)
    · exact sane_coal vs fun x hx => h x (by simp [hx])
theorem sane_rest (o : Int) (vs : List Res) (hn : vs ≠ []) (h : ∀ v ∈ vs, Sane v) : Sane (restV o vs) := by
  cases vs with
  | nil => exact absurd rfl hn
  | cons a t =>
    simp only [restV]
    split
    · next h0 => exact sane_bad h0
    · split
      · exact sane_boo _
      · cases t with
        | nil => exact sane_told (sane_one _ _)
        | cons b t =>
          simp only
          split
          · next h0 => exact sane_bad h0
          · exact sane_told (sane_two _ _ _)

theorem val_sane (r : List Dat) (hr : ∀ d ∈ r, okD d = true) : ∀ (e : ET) (deep : Nat), e.good okD deep = true → e.within r.length = true → Sane (e.val r) := by
  refine ET.ind fun o c d ks ih deep hg hw => ?_
  simp only [ET.good, Bool.and_eq_true, decide_eq_true_eq, ET.goods_iff] at hg
  simp only [ET.within, Bool.and_eq_true, ET.withins_iff, Bool.not_eq_true', Bool.and_eq_false_iff, decide_eq_false_iff_not] at hw
  have hkids := own_kids hg.1.1
  have hvs : ∀ v ∈ ET.vals r ks, Sane v := by
    rw [ET.vals_map]
    intro v hv
    obtain ⟨k, hk, rfl⟩ := List.mem_map.1 hv
    exact ih k hk (deep + 1) (hg.2 k hk) (hw.2 k hk)
  have hlen : (ET.vals r ks).length = ks.length := by rw [ET.vals_map, List.length_map]
  unfold ET.val
  split
  · next o1 =>
    subst o1
    have hcn := own_col_nn hg.1.1
    have hc : c < r.length := by
      rcases hw.1 with h | h
      · exact absurd rfl h
      · omega
    obtain ⟨x, hx⟩ : ∃ x, r[c.toNat]? = some x := ⟨r[c.toNat]'(by omega), List.getElem?_eq_getElem _⟩
    intro _
    simp only [List.getD_eq_getElem?_getD, hx]
    exact hr x (List.mem_of_getElem? hx)
  · split
    · next o2 => subst o2; exact fun _ => (own_mk hg.1.1).2.2.2.1 rfl
    · split
      · next o3 =>
        subst o3
        have := (own_mk hg.1.1).2.2.2.2.1 rfl
        exact sane_bad (by omega)
      · next o1 o2 o3 =>
        split
        · exact sane_logic _ _ _
        · split
          · next o4 =>
            subst o4
            refine sane_choice _ _ (Nat.le_refl _) ?_ hvs
            rw [hlen]
            unfold kidsOk at hkids
            rw [if_neg (by decide), if_neg (by decide), if_pos rfl] at hkids
            simp at hkids
            omega
          · split
            · exact sane_coal _ hvs
            · refine sane_rest _ _ (fun e => ?_) hvs
              have h0 : ks.length = 0 := by rw [← hlen, e]; rfl
              rw [h0] at hkids
              unfold kidsOk at hkids
              rw [if_neg (by omega)] at hkids
              repeat' split at hkids
              all_goals simp at hkids
theorem eval_sane (r : List Dat) (hr : ∀ d ∈ r, okD d = true) (e : ET) : Sane (evalR r e) := by
  unfold evalR
  split
  · next h =>
    have hg := h.1
    simp only [ET.may, Bool.and_eq_true] at hg
    split
    · exact val_sane r hr e _ hg.1 h.2
    · next h0 => exact sane_bad h0
  · exact sane_bad (by decide)
end Go.Proofs.YtlpehdhgdpeoeaaGreatDoor
