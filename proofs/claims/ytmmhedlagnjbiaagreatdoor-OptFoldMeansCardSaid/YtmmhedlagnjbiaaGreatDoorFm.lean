import Derived.Test.YtmmhedlagnjbiaaGreatDoorFa
import Derived.Test.YtmmhedlagnjbiaaGreatDoorUm
/- our texts, shortened by program (pack.py) -/
namespace Go.Proofs.YtmmhedlagnjbiaaGreatDoor
open Go.RowKit Go.Pen
def litE (d : Dat) : ET := .mk 2 0 d []
def ET.isLit (e : ET) : Bool := decide (e.op = 2)
def ET.tru (b : Bool) (e : ET) : Bool := decide (e.op = 2) && decide (e.lit.kind = 2) && (e.lit.bool == b)
def ET.nil (e : ET) : Bool := decide (e.op = 2) && decide (e.lit.kind = 1)
def ET.full (e : ET) : Bool := decide (e.op = 2) && !decide (e.lit.kind = 1)
def caseS (o c : Int) (d : Dat) : List ET → Option ET
 | a :: b :: l => if a.tru true = true then some b else if a.tru false = true ∨ a.nil = true then (match l with
  | [x] => some x
  | l => some (.mk o c d l)) else none
 | _ => none
def logicS (o : Int) : List ET → Option ET
 | [a, b] => if a.tru (decide (o = 18)) = true then some b else if a.tru (!decide (o = 18)) = true ∨ b.tru (decide (o = 18)) = true then some a else none
 | _ => none
def cutS (o c : Int) (d : Dat) (ks : List ET) : Option ET :=
 if ks.findIdx ET.full + 1 < ks.length then some (.mk o c d (ks.take (ks.findIdx ET.full + 1))) else none
def coalP (o c : Int) (d : Dat) : List ET → Option ET
 | [] => none
 | [a] => some a
 | a :: b :: l => if a.nil = true then some (.mk o c d (b :: l)) else cutS o c d (a :: b :: l)
def coalR (o c : Int) (d : Dat) (ks : List ET) : Option ET :=
 match cutS o c d ks with
 | some x => some x
 | none => match ks with
  | [] => none
  | [a] => some a
  | a :: b :: l => if a.nil = true then some (.mk o c d (b :: l)) else none
def stepS (coal : Int → Int → Dat → List ET → Option ET) : ET → Option ET
 | .mk o c d ks => if ks.isEmpty = true then none
  else if ks.all ET.isLit = true ∧ (ET.val [] (.mk o c d ks)).2 = 0 then some (litE (ET.val [] (.mk o c d ks)).1)
  else if o = 18 ∨ o = 19 then logicS o ks else if o = 21 then caseS o c d ks else if o = 22 then coal o c d ks else none
def stepP : ET → Option ET := stepS coalP
def stepR : ET → Option ET := stepS coalR
def loopS (step : ET → Option ET) : Nat → ET → ET
 | 0, e => e
 | n + 1, e => match step e with
  | none => e
  | some x => loopS step n x
mutual
def ET.fold (step : ET → Option ET) : ET → ET
 | .mk o c d ks => loopS step (1 + ET.sizes (ET.folds step ks)) (.mk o c d (ET.folds step ks))
def ET.folds (step : ET → Option ET) : List ET → List ET
 | [] => []
 | k :: ks => k.fold step :: ET.folds step ks
end
theorem ET.folds_map (step : ET → Option ET) : ∀ ks : List ET, ET.folds step ks = ks.map (ET.fold step)
 | [] => rfl
 | k :: ks => by simp [ET.folds, ET.folds_map step ks]
theorem sizes_mem {k : ET} : ∀ {ks : List ET}, k ∈ ks → k.size ≤ ET.sizes ks
 | x :: ks, h => by
  simp only [ET.sizes]
  rcases List.mem_cons.1 h with rfl | h
  ·omega
  ·have := sizes_mem h; omega
theorem sizes_take : ∀ (ks : List ET) (n : Nat), n < ks.length → ET.sizes (ks.take n) < ET.sizes ks
 | x :: ks, 0, h => by simp only [List.take_zero, ET.sizes]; have := x.size_pos; omega
 | x :: ks, n + 1, h => by
  simp only [List.take_succ_cons, ET.sizes]
  have := sizes_take ks n (by simpa using h); omega
theorem cutS_some {o c : Int} {d : Dat} {ks : List ET} {e : ET} (h : cutS o c d ks = some e) : ∃ n, 0 < n ∧ n < ks.length ∧ e = .mk o c d (ks.take n) := by
 unfold cutS at h
 split at h
 ·next h1 => cases h; exact ⟨_, Nat.succ_pos _, h1, rfl⟩
 ·cases h
theorem logicS_some {o : Int} {ks : List ET} {e : ET} (h : logicS o ks = some e) : e ∈ ks := by
 unfold logicS at h
 split at h
 ·split at h
  ·cases h; simp
  ·split at h
   ·cases h; simp
   ·cases h
 ·cases h
theorem caseS_some {o c : Int} {d : Dat} {ks : List ET} {e : ET} (h : caseS o c d ks = some e) : e ∈ ks ∨ (e = .mk o c d (ks.drop 2) ∧ 2 ≤ ks.length ∧ ks.length ≠ 3) := by
 match ks, h with
 | [], h => cases h
 | [a], h => cases h
 | a :: b :: l, h =>
  simp only [caseS] at h
  by_cases h1 : a.tru true = true
  ·rw [if_pos h1] at h; cases h; simp
  ·rw [if_neg h1] at h
   by_cases h2 : a.tru false = true ∨ a.nil = true
   ·rw [if_pos h2] at h
    match l, h with
    | [], h => cases h; exact .inr ⟨rfl, by simp, by simp⟩
    | [x], h => cases h; simp
    | x :: y :: l, h => cases h; exact .inr ⟨rfl, by simp, by simp⟩
   ·rw [if_neg h2] at h; cases h
theorem coalP_some {o c : Int} {d : Dat} {ks : List ET} {e : ET} (h : coalP o c d ks = some e) : e ∈ ks ∨ ∃ l, e = .mk o c d l ∧ l ≠ [] ∧ (∀ k ∈ l, k ∈ ks) ∧ ET.sizes l < ET.sizes ks := by
 unfold coalP at h
 split at h
 ·cases h
 ·cases h; simp
 ·next a b l =>
  split at h
  ·cases h
   refine .inr ⟨_, rfl, by simp, fun k hk => List.mem_cons_of_mem _ hk, ?_⟩
   have := a.size_pos
   simp only [ET.sizes]; omega
  ·obtain ⟨n, h0, h1, rfl⟩ := cutS_some h
   refine .inr ⟨_, rfl, fun h2 => ?_, fun k hk => List.mem_of_mem_take hk, sizes_take _ _ h1⟩
   have := congrArg List.length h2
   rw [List.length_take] at this
   simp only [List.length_nil] at this
   omega
theorem coalR_some {o c : Int} {d : Dat} {ks : List ET} {e : ET} (h : coalR o c d ks = some e) : e ∈ ks ∨ ∃ l, e = .mk o c d l ∧ l ≠ [] ∧ (∀ k ∈ l, k ∈ ks) ∧ ET.sizes l < ET.sizes ks := by
 unfold coalR at h
 split at h
 ·next x hx =>
  cases h
  obtain ⟨n, h0, h1, rfl⟩ := cutS_some hx
  refine .inr ⟨_, rfl, fun h2 => ?_, fun k hk => List.mem_of_mem_take hk, sizes_take _ _ h1⟩
  have := congrArg List.length h2
  rw [List.length_take] at this
  simp only [List.length_nil] at this
  omega
 ·split at h
  ·cases h
  ·cases h; simp
  ·next a b l hx =>
   split at h
   ·cases h
    refine .inr ⟨_, rfl, by simp, fun k hk => List.mem_cons_of_mem _ hk, ?_⟩
    have := a.size_pos
    simp only [ET.sizes]; omega
   ·cases h
def CoalOk (coal : Int → Int → Dat → List ET → Option ET) : Prop := ∀ (o c : Int) (d : Dat) (ks : List ET) (e : ET), coal o c d ks = some e → e ∈ ks ∨ ∃ l, e = .mk o c d l ∧ l ≠ [] ∧ (∀ k ∈ l, k ∈ ks) ∧ ET.sizes l < ET.sizes ks
theorem stepS_some {coal : Int → Int → Dat → List ET → Option ET} (hc : CoalOk coal) {o c : Int} {d : Dat} {ks : List ET} {e : ET} (hk : kidsOk o ks.length = true) (h : stepS coal (.mk o c d ks) = some e) :
  (e = litE (ET.val [] (.mk o c d ks)).1 ∧ ks.all ET.isLit = true ∧ (ET.val [] (.mk o c d ks)).2 = 0 ∧ ks ≠ []) ∨ e ∈ ks ∨
   ∃ l, e = .mk o c d l ∧ l ≠ [] ∧ (∀ k ∈ l, k ∈ ks) ∧ ET.sizes l < ET.sizes ks ∧ kidsOk o l.length = true := by
 have hne : ks ≠ [] := by
  intro e; subst e; simp only [stepS, List.isEmpty_nil, if_true] at h; cases h
 have hem : ¬ ks.isEmpty = true := by simpa using hne
 simp only [stepS] at h
 rw [if_neg hem] at h
 by_cases h1 : ks.all ET.isLit = true ∧ (ET.val [] (.mk o c d ks)).2 = 0
 ·rw [if_pos h1] at h; cases h; exact .inl ⟨rfl, h1.1, h1.2, hne⟩
 rw [if_neg h1] at h
 by_cases h2 : o = 18 ∨ o = 19
 ·rw [if_pos h2] at h; exact .inr (.inl (logicS_some h))
 rw [if_neg h2] at h
 by_cases h4 : o = 21
 ·rw [if_pos h4] at h
  subst h4
  rcases caseS_some h with h | ⟨h, h2, h3⟩
  ·exact .inr (.inl h)
  ·refine .inr (.inr ⟨_, h, ?_, fun k hk => List.mem_of_mem_drop hk, ?_, ?_⟩)
   ·intro h5
    have := congrArg List.length h5
    rw [List.length_drop] at this
    simp only [List.length_nil] at this
    simp [kidsOk] at hk
    omega
   ·match ks, h2 with
    | a :: b :: l, _ =>
     have := a.size_pos
     have := b.size_pos
     simp only [List.drop_succ_cons, List.drop_zero, ET.sizes]; omega
   ·rw [List.length_drop]
    simp [kidsOk] at hk ⊢
    omega
 rw [if_neg h4] at h
 by_cases h5 : o = 22
 ·rw [if_pos h5] at h
  subst h5
  rcases hc _ _ _ _ _ h with h | ⟨l, h1, h2, h3, h4⟩
  ·exact .inr (.inl h)
  ·refine .inr (.inr ⟨l, h1, h2, h3, h4, ?_⟩)
   simp [kidsOk]
   exact List.length_pos_iff.2 h2
 ·rw [if_neg h5] at h; cases h
theorem coalOk_P : CoalOk coalP := fun _ _ _ _ _ h => coalP_some h
theorem coalOk_R : CoalOk coalR := fun _ _ _ _ _ h => coalR_some h
theorem step_size {coal : Int → Int → Dat → List ET → Option ET} (hc : CoalOk coal) {o c : Int} {d : Dat} {ks : List ET} {e : ET} (hk : kidsOk o ks.length = true) (h : stepS coal (.mk o c d ks) = some e) : e.size < (ET.mk o c d ks).size := by
 simp only [ET.size]
 rcases stepS_some hc hk h with ⟨rfl, _, _, hne⟩ | h | ⟨l, rfl, _, _, h, _⟩
 ·simp only [litE, ET.size, ET.sizes]
  obtain ⟨a, t, rfl⟩ := List.exists_cons_of_ne_nil hne
  have := a.size_pos
  simp only [ET.sizes]; omega
 ·have := sizes_mem h; omega
 ·simp only [ET.size]; omega
theorem good_mono {ok : Dat → Bool} : ∀ (e : ET) (deep deep' : Nat), deep' ≤ deep → e.good ok deep = true → e.good ok deep' = true := by
 refine ET.ind fun o c d ks ih deep deep' hle h => ?_
 simp only [ET.good, Bool.and_eq_true, decide_eq_true_eq, ET.goods_iff] at h ⊢
 exact ⟨⟨h.1.1, by omega⟩, fun k hk => ih k hk _ _ (by omega) (h.2 k hk)⟩
theorem own_with {ok : Dat → Bool} {o c : Int} {d : Dat} {ks l : List ET} (h : ET.own ok (.mk o c d ks) = true) (hl : kidsOk o l.length = true) : ET.own ok (.mk o c d l) = true := by
 simp only [ET.own, ET.op, ET.col, ET.lit, ET.kids, Bool.and_eq_true] at h ⊢
 exact ⟨⟨hl, h.1.2⟩, h.2⟩
theorem own_litE {d : Dat} (h : okD d = true) : ET.own okD (litE d) = true := by
 simp [litE, ET.own, ET.op, ET.col, ET.lit, ET.kids, kidsOk, h]
end Go.Proofs.YtmmhedlagnjbiaaGreatDoor
namespace Go.Proofs.YtmmhedlagnjbiaaGreatDoor
open Go.RowKit Go.Pen
theorem lv_append : ∀ (k v : Nat) (cs m : Bytes) (x : Nat), lv v cs k = some x → lv v (cs ++ m) k = some x
  | 0, v, cs, m, x, h => by simpa [lv] using h
  | k + 1, v, [], m, x, h => by simp [lv] at h
  | k + 1, v, d :: ds, m, x, h => by
    simp only [List.cons_append, lv] at h ⊢
    split at h
    · next hd => rw [if_pos hd]; exact lv_append k _ ds m x h
    · cases h
theorem longN_append {c : UInt8} {cs m : Bytes} (h : longN (c :: cs) ≠ 0) : longN (c :: (cs ++ m)) = longN (c :: cs) := by
  simp only [longN] at h ⊢
  split
  · rfl
  · next h1 =>
    rw [if_neg h1] at h
    cases hh : headN c.toNat with
    | none => rfl
    | some p =>
      obtain ⟨n, v⟩ := p
      rw [hh] at h
      simp only at h ⊢
      by_cases h2 : cs.length + 1 < n
      · rw [if_pos h2] at h; exact absurd rfl h
      · rw [if_neg h2] at h ⊢
        have h3 : ¬ (cs ++ m).length + 1 < n := by rw [List.length_append]; omega
        rw [if_neg h3]
        cases hl : lv v cs (n - 1) with
        | none => rw [hl] at h; exact absurd rfl h
        | some x => rw [lv_append _ _ _ _ _ hl]
theorem valid_join : ∀ (n : Nat) (l m : Bytes), l.length ≤ n → Lib.validD l = true → Lib.validD m = true → Lib.validD (l ++ m) = true
  | _, [], m, _, _, h => h
  | 0, c :: cs, m, hn, _, _ => by simp at hn
  | n + 1, c :: cs, m, hn, hl, hm => by
    rw [valid_long] at hl
    rw [List.cons_append, valid_long]
    by_cases h0 : longN (c :: cs) = 0
    · rw [if_pos h0] at hl; cases hl
    · rw [if_neg h0] at hl
      rw [longN_append h0, if_neg h0]
      have hle := longN_le (c := c) (cs := cs)
      rw [show (c :: (cs ++ m)).drop (longN (c :: cs)) = (c :: cs).drop (longN (c :: cs)) ++ m from by
        rw [← List.cons_append, List.drop_append_of_le_length (by simpa using hle)]]
      exact valid_join n _ m (by simp only [List.length_drop, List.length_cons] at hn ⊢; omega) hl hm
theorem okD_text {d : Dat} (h : okD d = true) : Lib.validD d.text.data.toList = true := by
  have h := (show chkD d = 0 by simpa [okD] using h)
  unfold chkD at h
  split at h
  · cases h
  · split at h
    · cases h
    · split at h
      · cases h
      · next h3 => simpa using h3
def Sane (v : Res) : Prop := v.2 = 0 → okD v.1 = true
theorem okD_nm' (n : Int) : okD (num n) = true := by simp [okD, chkD, num]; rfl
theorem sane_bad {n : Nat} (h : n ≠ 0) : Sane (bad n) := fun e => absurd e h
theorem sane_nul : Sane (nul, 0) := fun _ => rfl
theorem sane_boo (b : Bool) : Sane (boo b, 0) := fun _ => by cases b <;> rfl
theorem sane_num (n : Int) : Sane (num n, 0) := fun _ => okD_nm' n
theorem sane_ov (n : Int) : Sane (ov n) := by
  unfold ov
  split
  · exact sane_num n
  · exact sane_bad (by decide)
theorem sane_told {r : Res} (h : Sane r) : Sane (told r) := by
  unfold told
  split
  · exact h
  · next h0 => split
               · exact sane_bad (by decide)
               · exact sane_bad h0
theorem isK_ok {k : Int} {d : Dat} (h : isK k d = true) : okD d = true := by
  simp only [isK, Bool.and_eq_true] at h
  exact h.1
theorem sane_both {k : Int} {a b : Dat} {r : Res} (h : okD a = true → okD b = true → Sane r) : Sane (both k a b r) := by
  unfold both
  split
  · exact sane_bad (by decide)
  · next hk =>
    have hk : isK k a = true ∧ isK k b = true := by simpa using hk
    split
    · exact sane_nul
    · exact h (isK_ok hk.1) (isK_ok hk.2)
theorem sane_sole {k : Int} {a : Dat} {r : Res} (h : Sane r) : Sane (sole k a r) := by
  unfold sole
  split
  · exact sane_bad (by decide)
  · split
    · exact sane_nul
    · exact h
theorem sane_one (o : Int) (a : Dat) : Sane (oneD o a) := by
  unfold oneD
  split
  · exact sane_sole (sane_ov _)
  · split
    · exact sane_sole (sane_num _)
    · exact sane_sole (sane_boo _)
theorem sane_cat (a b : Dat) : Sane (catD a b) := by
  refine sane_both fun ha hb => ?_
  split
  · exact sane_bad (by decide)
  · next hz =>
    intro _
    have hv := valid_join _ _ b.text.data.toList (Nat.le_refl _) (okD_text ha) (okD_text hb)
    have hz' : ¬ 1000 < (⟨(a.text.data.toList ++ b.text.data.toList).toArray⟩ : ByteArray).size := by
      show ¬ 1000 < (a.text.data.toList ++ b.text.data.toList).toArray.size
      rw [List.size_toArray, List.length_append]
      have e1 := len_list a.text
      have e2 := len_list b.text
      omega
    have hz2 : chkD (txt ⟨(a.text.data.toList ++ b.text.data.toList).toArray⟩) = 0 := by
      unfold chkD txt
      simp only
      rw [if_neg (by decide), if_neg (by simp), if_neg (by simp [hv]), if_neg hz']
    simp [okD, hz2]
theorem sane_comp (o : Int) (a b : Dat) : Sane (compD o a b) := by
  unfold compD
  split
  · exact sane_bad (by decide)
  · split
    · exact sane_nul
    · split
      · exact sane_bad (by decide)
      · exact sane_boo _
theorem sane_two (o : Int) (a b : Dat) : Sane (twoD o a b) := by
  unfold twoD
  split
  · exact sane_both fun _ _ => sane_ov _
  · split
    · exact sane_both fun _ _ => sane_ov _
    · split
      · exact sane_both fun _ _ => sane_ov _
      · split
        · refine sane_both fun _ _ => ?_
          split
          · exact sane_bad (by decide)
          · exact sane_ov _
        · split
          · refine sane_both fun _ _ => ?_
            split
            · exact sane_bad (by decide)
            · exact sane_num _
          · split
            · exact sane_cat a b
            · exact sane_comp o a b
theorem sane_logic (stop : Bool) : ∀ (vs : List Res) (so : Bool), Sane (logic stop so vs)
  | [], so => by
    unfold logic
    split
    · exact sane_nul
    · exact sane_boo _
  | v :: vs, so => by
    unfold logic
    split
    · next h => exact sane_bad h
    · split
      · exact sane_boo _
      · exact sane_logic stop vs _
theorem sane_choice : ∀ (n : Nat) (vs : List Res), vs.length ≤ n → vs.length % 2 = 1 → (∀ v ∈ vs, Sane v) → Sane (choice vs)
  | _, [], _, h, _ => by simp at h
  | _, [v], _, _, h => by unfold choice; exact h v (by simp)
  | 0, c :: v :: vs, hn, _, _ => by simp at hn
  | n + 1, c :: v :: vs, hn, hl, h => by
    unfold choice
    split
    · next h0 => exact sane_bad h0
    · split
      · exact h v (by simp)
      · exact sane_choice n vs (by simp at hn; omega) (by simp at hl; omega) fun x hx => h x (by simp [hx])
theorem sane_coal : ∀ (vs : List Res), (∀ v ∈ vs, Sane v) → Sane (coal vs)
  | [], _ => by unfold coal; exact sane_nul
  | v :: vs, h => by
    unfold coal
    split
    · exact h v (by simp)
    · exact sane_coal vs fun x hx => h x (by simp [hx])
theorem sane_rest (o : Int) (vs : List Res) (hn : vs ≠ []) (h : ∀ v ∈ vs, Sane v) : Sane (restV o vs) := by
  cases vs with
  | nil => exact absurd rfl hn
  | cons a t =>
    simp only [restV]
    split
    · next h0 => exact sane_bad h0
    · split
      · exact sane_boo _
      · cases t with
        | nil => exact sane_told (sane_one _ _)
        | cons b t =>
          simp only
          split
          · next h0 => exact sane_bad h0
          · exact sane_told (sane_two _ _ _)
theorem val_sane (r : List Dat) (hr : ∀ d ∈ r, okD d = true) : ∀ (e : ET) (deep : Nat), e.good okD deep = true → e.within r.length = true → Sane (e.val r) := by
  refine ET.ind fun o c d ks ih deep hg hw => ?_
  simp only [ET.good, Bool.and_eq_true, decide_eq_true_eq, ET.goods_iff] at hg
  simp only [ET.within, Bool.and_eq_true, ET.withins_iff, Bool.not_eq_true', Bool.and_eq_false_iff, decide_eq_false_iff_not] at hw
  have hkids := own_kids hg.1.1
  have hvs : ∀ v ∈ ET.vals r ks, Sane v := by
    rw [ET.vals_map]
    intro v hv
    obtain ⟨k, hk, rfl⟩ := List.mem_map.1 hv
    exact ih k hk (deep + 1) (hg.2 k hk) (hw.2 k hk)
  have hlen : (ET.vals r ks).length = ks.length := by rw [ET.vals_map, List.length_map]
  unfold ET.val
  split
  · next o1 =>
    subst o1
    have hcn := own_col_nn hg.1.1
    have hc : c < r.length := by
      rcases hw.1 with h | h
      · exact absurd rfl h
      · omega
    obtain ⟨x, hx⟩ : ∃ x, r[c.toNat]? = some x := ⟨r[c.toNat]'(by omega), List.getElem?_eq_getElem _⟩
    intro _
    simp only [List.getD_eq_getElem?_getD, hx]
    exact hr x (List.mem_of_getElem? hx)
  · split
    · next o2 => subst o2; exact fun _ => (own_mk hg.1.1).2.2.2.1 rfl
    · split
      · next o3 =>
        subst o3
        have := (own_mk hg.1.1).2.2.2.2.1 rfl
        exact sane_bad (by omega)
      · next o1 o2 o3 =>
        split
        · exact sane_logic _ _ _
        · split
          · next o4 =>
            subst o4
            refine sane_choice _ _ (Nat.le_refl _) ?_ hvs
            rw [hlen]
            unfold kidsOk at hkids
            rw [if_neg (by decide), if_neg (by decide), if_pos rfl] at hkids
            simp at hkids
            omega
          · split
            · exact sane_coal _ hvs
            · refine sane_rest _ _ (fun e => ?_) hvs
              have h0 : ks.length = 0 := by rw [← hlen, e]; rfl
              rw [h0] at hkids
              unfold kidsOk at hkids
              rw [if_neg (by omega)] at hkids
              repeat' split at hkids
              all_goals simp at hkids
theorem eval_sane (r : List Dat) (hr : ∀ d ∈ r, okD d = true) (e : ET) : Sane (evalR r e) := by
  unfold evalR
  split
  · next h =>
    have hg := h.1
    simp only [ET.may, Bool.and_eq_true] at hg
    split
    · exact val_sane r hr e _ hg.1 h.2
    · next h0 => exact sane_bad h0
  · exact sane_bad (by decide)
end Go.Proofs.YtmmhedlagnjbiaaGreatDoor
namespace Go.Proofs.YtmmhedlagnjbiaaGreatDoor
open Go.RowKit Go.Pen
theorem text_empty {t : ByteArray} (h : t.data.toList = []) : t = ⟨#[]⟩ := by
 cases t with
 | mk a => cases a with
  | mk l => simp at h; subst h; rfl
theorem okD_inv {d : Dat} (h : okD d = true) : (1 ≤ d.kind ∧ d.kind ≤ 4) ∧ (d.kind ≠ 2 → d.bool = false) ∧ (d.kind ≠ 3 → d.int = 0) ∧ (d.kind ≠ 4 → d.text = ⟨#[]⟩) := by
 unfold okD at h
 have h : chkD d = 0 := by simpa using h
 unfold chkD at h
 split at h
 ·cases h
 ·next h1 =>
  split at h
  ·cases h
  ·next h2 =>
   refine ⟨by omega, fun hk => ?_, fun hk => ?_, fun hk => ?_⟩
   ·cases hb : d.bool with
    | false => rfl
    | true => exact absurd (.inl ⟨hk, hb⟩) h2
   ·by_cases hi : d.int = 0
    ·exact hi
    ·exact absurd (.inr (.inl ⟨hk, hi⟩)) h2
   ·by_cases hi : d.text.data.toList = []
    ·exact text_empty hi
    ·exact absurd (.inr (.inr ⟨hk, hi⟩)) h2
theorem okD_nul_eq {d : Dat} (h : okD d = true) (hk : d.kind = 1) : d = nul := by
 obtain ⟨_, h1, h2, h3⟩ := okD_inv h
 cases d with
 | mk k b i t =>
  simp only at hk h1 h2 h3
  subst hk
  rw [h1 (by decide), h2 (by decide), h3 (by decide)]; rfl
theorem okD_boo_eq {d : Dat} (h : okD d = true) (hk : d.kind = 2) : d = boo d.bool := by
 obtain ⟨_, h1, h2, h3⟩ := okD_inv h
 cases d with
 | mk k b i t =>
  simp only at hk h1 h2 h3
  subst hk
  rw [h2 (by decide), h3 (by decide)]; rfl
theorem good_inv {o c : Int} {d : Dat} {ks : List ET} {deep : Nat} (h : (ET.mk o c d ks).good okD deep = true) : ET.own okD (.mk o c d ks) = true ∧ deep ≤ 60 ∧ ∀ k ∈ ks, k.good okD (deep + 1) = true := by
 simpa only [ET.good, Bool.and_eq_true, decide_eq_true_eq, ET.goods_iff, and_assoc] using h
theorem good_mk {o c : Int} {d : Dat} {ks : List ET} {deep : Nat} (h1 : ET.own okD (.mk o c d ks) = true) (h2 : deep ≤ 60) (h3 : ∀ k ∈ ks, k.good okD (deep + 1) = true) : (ET.mk o c d ks).good okD deep = true := by
 simp only [ET.good, Bool.and_eq_true, decide_eq_true_eq, ET.goods_iff]
 exact ⟨⟨h1, h2⟩, h3⟩
theorem good_kid {k : ET} {deep : Nat} {o c : Int} {d : Dat} {ks : List ET} (h : (ET.mk o c d ks).good okD deep = true) (hk : k ∈ ks) : k.good okD deep = true := good_mono k _ _ (by omega) ((good_inv h).2.2 k hk)
theorem lit_of_good {e : ET} {deep : Nat} (hg : e.good okD deep = true) (hl : e.op = 2) : e = litE e.lit ∧ okD e.lit = true := by
 cases e with
 | mk o c d ks =>
  simp only [ET.op] at hl
  subst hl
  obtain ⟨h1, _, _⟩ := good_inv hg
  obtain ⟨h2, _, h3, h4, _⟩ := own_mk h1
  have h5 : ks = [] := by
   simp [kidsOk] at h2
   exact h2
  subst h5
  rw [h3 (by decide)]
  exact ⟨rfl, h4 rfl⟩
theorem val_litE (r : List Dat) (d : Dat) : (litE d).val r = (d, 0) := by simp [litE, ET.val]
theorem within_litE (n : Int) (d : Dat) : (litE d).within n = true := by simp [litE, ET.within, ET.withins]
theorem good_litE {d : Dat} {deep : Nat} (h : okD d = true) (hd : deep ≤ 60) : (litE d).good okD deep = true := good_mk (own_litE h) hd (by intro k hk; cases hk)
theorem within_inv {n o c : Int} {d : Dat} {ks : List ET} (h : (ET.mk o c d ks).within n = true) : (o = 1 → c < n) ∧ ∀ k ∈ ks, k.within n = true := by
 simp only [ET.within, Bool.and_eq_true, ET.withins_iff, Bool.not_eq_true', Bool.and_eq_false_iff, decide_eq_false_iff_not] at h
 exact ⟨fun e => by rcases h.1 with h | h; exact absurd e h; omega, h.2⟩
theorem within_mk {n o c : Int} {d : Dat} {ks : List ET} (h1 : o = 1 → c < n) (h2 : ∀ k ∈ ks, k.within n = true) : (ET.mk o c d ks).within n = true := by
 simp only [ET.within, Bool.and_eq_true, ET.withins_iff, Bool.not_eq_true', Bool.and_eq_false_iff, decide_eq_false_iff_not]
 exact ⟨by by_cases e : o = 1; exact .inr (by have := h1 e; omega); exact .inl e, h2⟩
theorem lits_val {o c : Int} {d : Dat} {ks : List ET} {deep : Nat} (r : List Dat) (hg : (ET.mk o c d ks).good okD deep = true) (hne : ks ≠ []) (hl : ks.all ET.isLit = true) :
  (ET.mk o c d ks).val r = (ET.mk o c d ks).val [] ∧ (ET.mk o c d ks).within 0 = true := by
 have hk : ∀ k ∈ ks, k = litE k.lit := fun k hk => (lit_of_good (good_kid hg hk) (by have := List.all_eq_true.1 hl k hk; simpa [ET.isLit] using this)).1
 have ho : o ≠ 1 := by
  intro e; subst e
  have := (own_mk (good_inv hg).1).1
  simp [kidsOk] at this
  exact hne this
 have hv : ET.vals r ks = ET.vals [] ks := by
  rw [ET.vals_map, ET.vals_map]
  refine List.map_congr_left fun k hm => ?_
  rw [hk k hm, val_litE, val_litE]
 refine ⟨?_, within_mk (fun e => absurd e ho) fun k hm => by rw [hk k hm]; exact within_litE _ _⟩
 simp only [ET.val, hv, if_neg ho]
theorem step_good {coal : Int → Int → Dat → List ET → Option ET} (hc : CoalOk coal) {e x : ET} {deep : Nat} (hg : e.good okD deep = true) (h : stepS coal e = some x) : x.good okD deep = true := by
 cases e with
 | mk o c d ks =>
  obtain ⟨h1, h2, h3⟩ := good_inv hg
  rcases stepS_some hc (own_mk h1).1 h with ⟨rfl, hl, h0, hne⟩ | h | ⟨l, rfl, _, hm, _, hk⟩
  ·refine good_litE (val_sane [] (by intro d hd; cases hd) _ _ hg (lits_val [] hg hne hl).2 h0) h2
  ·exact good_kid hg h
  ·exact good_mk (own_with h1 hk) h2 fun k hk => h3 k (hm k hk)
theorem step_within {coal : Int → Int → Dat → List ET → Option ET} (hc : CoalOk coal) {e x : ET} {deep : Nat} {n : Int} (hg : e.good okD deep = true) (hw : e.within n = true) (h : stepS coal e = some x) : x.within n = true := by
 cases e with
 | mk o c d ks =>
  obtain ⟨h1, h2, h3⟩ := good_inv hg
  obtain ⟨w1, w2⟩ := within_inv hw
  rcases stepS_some hc (own_mk h1).1 h with ⟨rfl, hl, h0, hne⟩ | h | ⟨l, rfl, _, hm, _, hk⟩
  ·exact within_litE _ _
  ·exact w2 _ h
  ·exact within_mk w1 fun k hk => w2 k (hm k hk)
theorem tru_eq {a : ET} {b : Bool} {deep : Nat} (hg : a.good okD deep = true) (h : a.tru b = true) : a = litE (boo b) := by
 simp only [ET.tru, Bool.and_eq_true, decide_eq_true_eq, beq_iff_eq] at h
 obtain ⟨h1, h2⟩ := lit_of_good hg h.1.1
 rw [h1]
 exact congrArg litE ((okD_boo_eq h2 h.1.2).trans (by rw [h.2]))
theorem nil_eq {a : ET} {deep : Nat} (hg : a.good okD deep = true) (h : a.nil = true) : a = litE nul := by
 simp only [ET.nil, Bool.and_eq_true, decide_eq_true_eq] at h
 obtain ⟨h1, h2⟩ := lit_of_good hg h.1
 rw [h1]
 exact congrArg litE (okD_nul_eq h2 h.2)
theorem truth_cases {v : Res} (hs : Sane v) (h0 : v.2 = 0) (h : (truth v).1 = 0) : v = (nul, 0) ∨ ∃ b, v = (boo b, 0) := by
 unfold truth at h
 rw [if_neg (by omega)] at h
 split at h
 ·cases h
 ·next h1 =>
  have ho := hs h0
  obtain ⟨⟨h2, h3⟩, _⟩ := okD_inv ho
  obtain ⟨d, n⟩ := v
  simp only at h0 ho h1 h2
  subst h0
  by_cases hk : d.kind = 1
  ·left; rw [okD_nul_eq ho hk]
  ·have : d.kind = 2 := by
    have : ¬ 2 < d.kind := fun h => h1 (.inr h)
    omega
   right; exact ⟨d.bool, by rw [← okD_boo_eq ho this]⟩
theorem truth_err {v : Res} (h : (truth v).1 = 0) : v.2 = 0 := by
 unfold truth at h
 split at h
 ·next h1 => exact absurd h h1
 ·next h1 => omega
theorem truth_nul : truth (nul, 0) = (0, false, true) := rfl
theorem truth_boo (b : Bool) : truth (boo b, 0) = (0, b, false) := by cases b <;> rfl
theorem bad_ne {n : Nat} (h : (bad n).2 = 0) : n = 0 := h
theorem logic_one {t : Bool} {v : Res} (hs : Sane v) (h0 : (logic (!t) false [v]).2 = 0) : logic (!t) false [v] = v := by
 by_cases h1 : (truth v).1 = 0
 ·rcases truth_cases hs (truth_err h1) h1 with rfl | ⟨b, rfl⟩
  ·cases t <;> rfl
  ·cases t <;> cases b <;> rfl
 ·simp only [logic, if_pos h1] at h0
  exact absurd (bad_ne h0) h1
theorem logic_two1 {t : Bool} {v : Res} (hs : Sane v) (h0 : (logic (!t) false [(boo t, 0), v]).2 = 0) : v = logic (!t) false [(boo t, 0), v] := by
 have h1 : logic (!t) false [(boo t, 0), v] = logic (!t) false [v] := by cases t <;> rfl
 rw [h1] at h0 ⊢
 rw [logic_one hs h0]
theorem logic_two2 (t : Bool) (v : Res) : (boo (!t), 0) = logic (!t) false [(boo (!t), 0), v] := by cases t <;> rfl
theorem logic_two3 {t : Bool} {v : Res} (hs : Sane v) (h0 : (logic (!t) false [v, (boo t, 0)]).2 = 0) : v = logic (!t) false [v, (boo t, 0)] := by
 by_cases h1 : (truth v).1 = 0
 ·rcases truth_cases hs (truth_err h1) h1 with rfl | ⟨b, rfl⟩
  ·cases t <;> rfl
  ·cases t <;> cases b <;> rfl
 ·unfold logic at h0
  rw [if_pos h1] at h0
  exact absurd (bad_ne h0) h1
theorem logic_val {o : Int} (ho : o = 18 ∨ o = 19) {ks : List ET} {x : ET} {r : List Dat} {deep : Nat} (hg : ∀ k ∈ ks, k.good okD deep = true) (hs : ∀ k ∈ ks, Sane (k.val r)) (h : logicS o ks = some x)
  (h0 : (logic (decide (o = 19)) false (ks.map (ET.val r))).2 = 0) : x.val r = logic (decide (o = 19)) false (ks.map (ET.val r)) := by
 have h18 : decide (o = 19) = !decide (o = 18) := by rcases ho with rfl | rfl <;> rfl
 rw [h18] at h0 ⊢
 unfold logicS at h
 generalize decide (o = 18) = t at *
 match ks, h with
 | [], h => cases h
 | [a], h => cases h
 | a :: b :: c :: l, h => cases h
 | [a, b], h =>
  simp only [List.map_cons, List.map_nil] at h0 ⊢
  simp only at h
  by_cases h1 : a.tru t = true
  ·rw [if_pos h1] at h; cases h
   rw [tru_eq (hg a (by simp)) h1, val_litE] at h0 ⊢
   exact logic_two1 (hs _ (by simp)) h0
  ·rw [if_neg h1] at h
   by_cases h2 : a.tru (!t) = true ∨ b.tru t = true
   ·rw [if_pos h2] at h; cases h
    rcases h2 with h2 | h2
    ·rw [tru_eq (hg _ (by simp)) h2, val_litE]
     exact logic_two2 _ _
    ·rw [tru_eq (hg b (by simp)) h2, val_litE] at h0 ⊢
     exact logic_two3 (hs _ (by simp)) h0
   ·rw [if_neg h2] at h; cases h
theorem val_logic {o c : Int} {d : Dat} {ks : List ET} (r : List Dat) (ho : o = 18 ∨ o = 19) : (ET.mk o c d ks).val r = logic (decide (o = 19)) false (ks.map (ET.val r)) := by
 simp only [ET.val, ET.vals_map]
 rw [if_neg (by omega), if_neg (by omega), if_neg (by omega), if_pos ho]
theorem val_choice {c : Int} {d : Dat} {ks : List ET} (r : List Dat) : (ET.mk 21 c d ks).val r = choice (ks.map (ET.val r)) := by
 simp only [ET.val, ET.vals_map]
 rw [if_neg (by omega), if_neg (by omega), if_neg (by omega), if_neg (by omega), if_pos trivial]
theorem val_coal {c : Int} {d : Dat} {ks : List ET} (r : List Dat) : (ET.mk 22 c d ks).val r = coal (ks.map (ET.val r)) := by
 simp only [ET.val, ET.vals_map]
 rw [if_neg (by omega), if_neg (by omega), if_neg (by omega), if_neg (by omega), if_neg (by omega), if_pos trivial]
theorem choice_val {c : Int} {d : Dat} {ks : List ET} {x : ET} {r : List Dat} {deep : Nat} (hg : ∀ k ∈ ks, k.good okD deep = true) (hn : 3 ≤ ks.length) (h : caseS 21 c d ks = some x) : x.val r = choice (ks.map (ET.val r)) := by
 match ks, h, hn with
 | a :: b :: y :: l, h, _ =>
  simp only [caseS] at h
  simp only [List.map_cons]
  by_cases h1 : a.tru true = true
  ·rw [if_pos h1] at h; cases h
   rw [tru_eq (hg a (by simp)) h1, val_litE]
   rfl
  ·rw [if_neg h1] at h
   by_cases h2 : a.tru false = true ∨ a.nil = true
   ·rw [if_pos h2] at h
    have h3 : choice (ET.val r a :: ET.val r b :: ET.val r y :: l.map (ET.val r)) = choice (ET.val r y :: l.map (ET.val r)) := by
     rcases h2 with h2 | h2
     ·rw [tru_eq (hg a (by simp)) h2, val_litE]; rfl
     ·rw [nil_eq (hg a (by simp)) h2, val_litE]; rfl
    rw [h3]
    match l, h with
    | [], h => cases h; rfl
    | z :: l, h => cases h; rw [val_choice]; rfl
   ·rw [if_neg h2] at h; cases h
theorem coal_take (r : List Dat) {deep : Nat} : ∀ (ks : List ET), (∀ k ∈ ks, k.good okD deep = true) → coal ((ks.take (ks.findIdx ET.full + 1)).map (ET.val r)) = coal (ks.map (ET.val r))
 | [], _ => rfl
 | a :: l, hg => by
  rw [List.findIdx_cons]
  cases hf : a.full with
  | true =>
   simp only [cond_true, Nat.zero_add, List.take_succ_cons, List.take_zero, List.map_cons, List.map_nil, coal]
   simp only [ET.full, Bool.and_eq_true, decide_eq_true_eq, Bool.not_eq_true', decide_eq_false_iff_not] at hf
   rw [(lit_of_good (hg a (by simp)) hf.1).1, val_litE]
   rw [if_pos (.inr hf.2), if_pos (.inr hf.2)]
  | false =>
   simp only [cond_false, List.take_succ_cons, List.map_cons, coal]
   rw [coal_take r l fun k hk => hg k (List.mem_cons_of_mem _ hk)]
theorem coalP_val {c : Int} {d : Dat} {ks : List ET} {x : ET} {r : List Dat} {deep : Nat} (hg : ∀ k ∈ ks, k.good okD deep = true) (hs : ∀ k ∈ ks, Sane (k.val r)) (h : coalP 22 c d ks = some x)
  (h0 : (coal (ks.map (ET.val r))).2 = 0) : x.val r = coal (ks.map (ET.val r)) := by
 match ks, h with
 | [], h => cases h
 | [a], h =>
  cases h
  simp only [List.map_cons, List.map_nil, coal] at h0 ⊢
  by_cases h1 : (ET.val r x).2 ≠ 0 ∨ (ET.val r x).1.kind ≠ 1
  ·rw [if_pos h1]
  ·rw [if_neg h1]
   have h2 : (ET.val r x).2 = 0 := by omega
   have h3 : (ET.val r x).1.kind = 1 := by omega
   have h4 := okD_nul_eq (hs x (by simp) h2) h3
   exact Prod.ext h4 h2
 | a :: b :: l, h =>
  simp only [coalP] at h
  by_cases h1 : a.nil = true
  ·rw [if_pos h1] at h; cases h
   rw [val_coal]
   simp only [List.map_cons]
   rw [nil_eq (hg a (by simp)) h1, val_litE]
   rfl
  ·rw [if_neg h1] at h
   unfold cutS at h
   split at h
   ·cases h
    rw [val_coal, coal_take r _ hg]
   ·cases h
theorem step_val {e x : ET} {r : List Dat} {deep : Nat} (hr : ∀ d ∈ r, okD d = true) (hg : e.good okD deep = true) (hw : e.within r.length = true) (h : stepP e = some x) (h0 : (e.val r).2 = 0) : x.val r = e.val r := by
 cases e with
 | mk o c d ks =>
  obtain ⟨g1, g2, g3⟩ := good_inv hg
  obtain ⟨w1, w2⟩ := within_inv hw
  have hs : ∀ k ∈ ks, Sane (k.val r) := fun k hk => val_sane r hr k _ (g3 k hk) (w2 k hk)
  have hne : ks ≠ [] := by
   intro e; subst e; simp only [stepP, stepS, List.isEmpty_nil, if_true] at h; cases h
  have hem : ¬ ks.isEmpty = true := by simpa using hne
  simp only [stepP, stepS] at h
  rw [if_neg hem] at h
  by_cases h1 : ks.all ET.isLit = true ∧ (ET.val [] (.mk o c d ks)).2 = 0
  ·rw [if_pos h1] at h; cases h
   rw [val_litE, (lits_val r hg hne h1.1).1]
   exact Prod.ext rfl h1.2.symm
  rw [if_neg h1] at h
  by_cases h2 : o = 18 ∨ o = 19
  ·rw [if_pos h2] at h
   rw [val_logic r h2] at h0 ⊢
   exact logic_val h2 g3 hs h h0
  rw [if_neg h2] at h
  by_cases h4 : o = 21
  ·rw [if_pos h4] at h
   subst h4
   rw [val_choice]
   refine choice_val g3 ?_ h
   have := (own_mk g1).1
   simp [kidsOk] at this
   omega
  rw [if_neg h4] at h
  by_cases h5 : o = 22
  ·rw [if_pos h5] at h
   subst h5
   rw [val_coal] at h0 ⊢
   exact coalP_val g3 hs h h0
  ·rw [if_neg h5] at h; cases h
end Go.Proofs.YtmmhedlagnjbiaaGreatDoor
namespace Go.Proofs.YtmmhedlagnjbiaaGreatDoor
open Go.RowKit Go.Pen
theorem logic_map {f g : ET → Res} (stop : Bool) : ∀ (ks : List ET) (so : Bool), (∀ k ∈ ks, (f k).2 = 0 → g k = f k) → (logic stop so (ks.map f)).2 = 0 → logic stop so (ks.map g) = logic stop so (ks.map f)
 | [], _, _, _ => rfl
 | k :: ks, so, h, h0 => by
  simp only [List.map_cons, logic] at h0 ⊢
  by_cases h1 : (truth (f k)).1 = 0
  ·rw [h k (by simp) (truth_err h1)]
   rw [if_neg (by simp [h1])] at h0 ⊢
   by_cases h2 : (truth (f k)).2.2 = false ∧ (truth (f k)).2.1 = stop
   ·rw [if_pos h2]; rw [if_neg (by simp [h1]), if_pos h2]
   ·rw [if_neg h2] at h0 ⊢
    rw [if_neg (by simp [h1]), if_neg h2]
    exact logic_map stop ks _ (fun k hk => h k (List.mem_cons_of_mem _ hk)) h0
  ·rw [if_pos h1] at h0
   exact absurd (bad_ne h0) h1
theorem coal_map {f g : ET → Res} : ∀ (ks : List ET), (∀ k ∈ ks, (f k).2 = 0 → g k = f k) → (coal (ks.map f)).2 = 0 → coal (ks.map g) = coal (ks.map f)
 | [], _, _ => rfl
 | k :: ks, h, h0 => by
  simp only [List.map_cons, coal] at h0 ⊢
  by_cases h1 : (f k).2 = 0
  ·rw [h k (by simp) h1]
   by_cases h2 : (f k).2 ≠ 0 ∨ (f k).1.kind ≠ 1
   ·rw [if_pos h2, if_pos h2]
   ·rw [if_neg h2] at h0
    rw [if_neg h2, if_neg h2]
    exact coal_map ks (fun k hk => h k (List.mem_cons_of_mem _ hk)) h0
  ·rw [if_pos (.inl h1)] at h0
   exact absurd h0 h1
theorem choice_map {f g : ET → Res} : ∀ (n : Nat) (ks : List ET), ks.length ≤ n → (∀ k ∈ ks, (f k).2 = 0 → g k = f k) → (choice (ks.map f)).2 = 0 → choice (ks.map g) = choice (ks.map f)
 | _, [], _, _, _ => rfl
 | _, [k], _, h, h0 => by
  simp only [List.map_cons, List.map_nil, choice] at h0 ⊢
  exact h k (by simp) h0
 | n + 2, k :: x :: ks, hn, h, h0 => by
  simp only [List.map_cons, choice] at h0 ⊢
  by_cases h1 : (truth (f k)).1 = 0
  ·rw [h k (by simp) (truth_err h1)]
   have e1 : ¬ ((truth (f k)).1 ≠ 0) := by omega
   rw [if_neg e1] at h0
   rw [if_neg e1, if_neg e1]
   by_cases h2 : (truth (f k)).2.1 = true
   ·rw [if_pos h2] at h0
    rw [if_pos h2, if_pos h2]
    exact h x (by simp) h0
   ·rw [if_neg h2] at h0
    rw [if_neg h2, if_neg h2]
    exact choice_map n ks (by simpa using hn) (fun k hk => h k (by simp [hk])) h0
  ·rw [if_pos h1] at h0
   exact absurd (bad_ne h0) h1
 | 1, k :: x :: ks, hn, _, _ => by simp at hn
theorem rest_map {f g : ET → Res} (o : Int) : ∀ (ks : List ET), (∀ k ∈ ks, (f k).2 = 0 → g k = f k) → (restV o (ks.map f)).2 = 0 → restV o (ks.map g) = restV o (ks.map f)
 | [], _, _ => rfl
 | k :: ks, h, h0 => by
  simp only [List.map_cons, restV] at h0 ⊢
  by_cases h1 : (f k).2 = 0
  ·rw [h k (by simp) h1]
   have e1 : ¬ ((f k).2 ≠ 0) := by omega
   rw [if_neg e1] at h0
   rw [if_neg e1, if_neg e1]
   by_cases h2 : o = 20
   ·rw [if_pos h2, if_pos h2]
   ·rw [if_neg h2] at h0
    rw [if_neg h2, if_neg h2]
    match ks, h, h0 with
    | [], _, _ => rfl
    | x :: ks, h, h0 =>
     simp only [List.map_cons] at h0 ⊢
     by_cases h3 : (f x).2 = 0
     ·rw [h x (by simp) h3]
     ·rw [if_pos h3] at h0
      exact absurd (bad_ne h0) h3
  ·rw [if_pos h1] at h0
   exact absurd (bad_ne h0) h1
theorem val_map {o c : Int} {d : Dat} {ks : List ET} {r : List Dat} (F : ET → ET) (h : ∀ k ∈ ks, (k.val r).2 = 0 → (F k).val r = k.val r) (h0 : ((ET.mk o c d ks).val r).2 = 0) :
  (ET.mk o c d (ks.map F)).val r = (ET.mk o c d ks).val r := by
 simp only [ET.val, ET.vals_map, List.map_map] at h0 ⊢
 by_cases o1 : o = 1
 ·rw [if_pos o1, if_pos o1]
 rw [if_neg o1] at h0
 rw [if_neg o1, if_neg o1]
 by_cases o2 : o = 2
 ·rw [if_pos o2, if_pos o2]
 rw [if_neg o2] at h0
 rw [if_neg o2, if_neg o2]
 by_cases o3 : o = 23
 ·rw [if_pos o3, if_pos o3]
 rw [if_neg o3] at h0
 rw [if_neg o3, if_neg o3]
 by_cases o4 : o = 18 ∨ o = 19
 ·rw [if_pos o4] at h0
  rw [if_pos o4, if_pos o4]
  exact logic_map _ _ _ h h0
 rw [if_neg o4] at h0
 rw [if_neg o4, if_neg o4]
 by_cases o5 : o = 21
 ·rw [if_pos o5] at h0
  rw [if_pos o5, if_pos o5]
  exact choice_map _ _ (Nat.le_refl _) h h0
 rw [if_neg o5] at h0
 rw [if_neg o5, if_neg o5]
 by_cases o6 : o = 22
 ·rw [if_pos o6] at h0
  rw [if_pos o6, if_pos o6]
  exact coal_map _ h h0
 rw [if_neg o6] at h0
 rw [if_neg o6, if_neg o6]
 exact rest_map _ _ h h0
theorem loop_none {step : ET → Option ET} {e : ET} (h : step e = none) : ∀ n, loopS step n e = e
 | 0 => rfl
 | n + 1 => by simp only [loopS, h]
theorem loop_some {step : ET → Option ET} {e x : ET} (h : step e = some x) (n : Nat) : loopS step (n + 1) e = loopS step n x := by simp only [loopS, h]
theorem loop_keeps {step : ET → Option ET} {P : ET → Prop} (hP : ∀ e x, P e → step e = some x → P x) : ∀ (n : Nat) (e : ET), P e → P (loopS step n e)
 | 0, _, h => h
 | n + 1, e, h => by
  cases hs : step e with
  | none => rw [loop_none hs]; exact h
  | some x => rw [loop_some hs]; exact loop_keeps hP n x (hP e x h hs)
theorem map_good {o c : Int} {d : Dat} {ks : List ET} {deep : Nat} {F : ET → ET} (hg : (ET.mk o c d ks).good okD deep = true) (hF : ∀ k ∈ ks, (F k).good okD (deep + 1) = true) : (ET.mk o c d (ks.map F)).good okD deep = true := by
 obtain ⟨h1, h2, h3⟩ := good_inv hg
 refine good_mk (own_with h1 ?_) h2 ?_
 ·rw [List.length_map]; exact (own_mk h1).1
 ·intro k hk
  obtain ⟨x, hx, rfl⟩ := List.mem_map.1 hk
  exact hF x hx
theorem fold_good {coal : Int → Int → Dat → List ET → Option ET} (hc : CoalOk coal) : ∀ (e : ET) (deep : Nat), e.good okD deep = true → (e.fold (stepS coal)).good okD deep = true := by
 refine ET.ind fun o c d ks ih deep hg => ?_
 simp only [ET.fold, ET.folds_map]
 exact loop_keeps (P := fun e => e.good okD deep = true) (fun e x h hs => step_good hc h hs) _ _ (map_good hg fun k hk => ih k hk _ ((good_inv hg).2.2 k hk))
theorem fold_within {coal : Int → Int → Dat → List ET → Option ET} (hc : CoalOk coal) (n : Int) : ∀ (e : ET) (deep : Nat), e.good okD deep = true → e.within n = true → (e.fold (stepS coal)).within n = true := by
 refine ET.ind fun o c d ks ih deep hg hw => ?_
 simp only [ET.fold, ET.folds_map]
 obtain ⟨w1, w2⟩ := within_inv hw
 refine (loop_keeps (P := fun e => e.good okD deep = true ∧ e.within n = true) (fun e x h hs => ⟨step_good hc h.1 hs, step_within hc h.1 h.2 hs⟩) _ _ ⟨map_good hg fun k hk => fold_good hc k _ ((good_inv hg).2.2 k hk), within_mk w1 fun k hk => ?_⟩).2
 obtain ⟨x, hx, rfl⟩ := List.mem_map.1 hk
 exact ih x hx _ ((good_inv hg).2.2 x hx) (w2 x hx)
theorem sizes_map_le {F : ET → ET} : ∀ {ks : List ET}, (∀ k ∈ ks, (F k).size ≤ k.size) → ET.sizes (ks.map F) ≤ ET.sizes ks
 | [], _ => Nat.le_refl _
 | k :: ks, h => by
  simp only [List.map_cons, ET.sizes]
  have := h k (by simp)
  have := sizes_map_le (ks := ks) fun k hk => h k (List.mem_cons_of_mem _ hk)
  omega
theorem step_size' {coal : Int → Int → Dat → List ET → Option ET} (hc : CoalOk coal) {e x : ET} {deep : Nat} (hg : e.good okD deep = true) (h : stepS coal e = some x) : x.size < e.size := by
 cases e with
 | mk o c d ks => exact step_size hc (own_mk (good_inv hg).1).1 h
theorem fold_size {coal : Int → Int → Dat → List ET → Option ET} (hc : CoalOk coal) : ∀ (e : ET) (deep : Nat), e.good okD deep = true → (e.fold (stepS coal)).size ≤ e.size := by
 refine ET.ind fun o c d ks ih deep hg => ?_
 simp only [ET.fold, ET.folds_map]
 refine (loop_keeps (P := fun e => e.good okD deep = true ∧ e.size ≤ (ET.mk o c d ks).size) (fun e x h hs => ⟨step_good hc h.1 hs, by have := step_size' hc h.1 hs; omega⟩) _ _ ⟨map_good hg fun k hk => fold_good hc k _ ((good_inv hg).2.2 k hk), ?_⟩).2
 simp only [ET.size]
 have := sizes_map_le (F := ET.fold (stepS coal)) (ks := ks) fun k hk => ih k hk _ ((good_inv hg).2.2 k hk)
 omega
theorem fold_may {coal : Int → Int → Dat → List ET → Option ET} (hc : CoalOk coal) {e : ET} (h : e.may okD = true) : (e.fold (stepS coal)).may okD = true := by
 simp only [ET.may, Bool.and_eq_true, decide_eq_true_eq] at h ⊢
 exact ⟨fold_good hc e _ h.1, Nat.le_trans (fold_size hc e _ h.1) h.2⟩
theorem fold_val {r : List Dat} (hr : ∀ d ∈ r, okD d = true) : ∀ (e : ET) (deep : Nat), e.good okD deep = true → e.within r.length = true → (e.val r).2 = 0 → (e.fold stepP).val r = e.val r := by
 refine ET.ind fun o c d ks ih deep hg hw h0 => ?_
 simp only [ET.fold, ET.folds_map]
 have hk : (ET.mk o c d (ks.map (ET.fold stepP))).val r = (ET.mk o c d ks).val r := val_map _ (fun k hk => ih k hk _ ((good_inv hg).2.2 k hk) ((within_inv hw).2 k hk)) h0
 refine (loop_keeps (P := fun e => e.good okD deep = true ∧ e.within r.length = true ∧ e.val r = (ET.mk o c d ks).val r) (fun e x h hs => ⟨step_good coalOk_P h.1 hs, step_within coalOk_P h.1 h.2.1 hs, ?_⟩) _ _
  ⟨map_good hg fun k hk => fold_good coalOk_P k _ ((good_inv hg).2.2 k hk), within_mk (within_inv hw).1 fun k hk => ?_, hk⟩).2.2
 ·rw [← h.2.2] at h0 ⊢
  exact step_val hr h.1 h.2.1 hs h0
 ·obtain ⟨x, hx, rfl⟩ := List.mem_map.1 hk
  exact fold_within coalOk_P _ x _ ((good_inv hg).2.2 x hx) ((within_inv hw).2 x hx)
mutual
def ET.nf (step : ET → Option ET) : ET → Prop
 | .mk o c d ks => step (.mk o c d ks) = none ∧ ET.nfs step ks
def ET.nfs (step : ET → Option ET) : List ET → Prop
 | [] => True
 | k :: ks => k.nf step ∧ ET.nfs step ks
end
theorem ET.nfs_iff {step : ET → Option ET} : ∀ {ks : List ET}, ET.nfs step ks ↔ ∀ k ∈ ks, k.nf step
 | [] => by simp [ET.nfs]
 | k :: ks => by simp [ET.nfs, ET.nfs_iff (ks := ks)]
theorem nf_none {step : ET → Option ET} {e : ET} (h : e.nf step) : step e = none := by cases e; exact h.1
theorem nf_fold {step : ET → Option ET} : ∀ (e : ET), e.nf step → e.fold step = e := by
 refine ET.ind fun o c d ks ih h => ?_
 simp only [ET.fold, ET.folds_map]
 have hk : ks.map (ET.fold step) = ks := by
  have : ks.map (ET.fold step) = ks.map id := List.map_congr_left fun k hk => ih k hk (ET.nfs_iff.1 h.2 k hk)
  rw [this, List.map_id]
 rw [hk]
 exact loop_none h.1 _
theorem step_lit {coal : Int → Int → Dat → List ET → Option ET} (d : Dat) : stepS coal (litE d) = none := rfl
theorem loop_nf {coal : Int → Int → Dat → List ET → Option ET} (hc : CoalOk coal) (deep : Nat) : ∀ (n : Nat) (o c : Int) (d : Dat) (ks : List ET), (ET.mk o c d ks).size ≤ n → (ET.mk o c d ks).good okD deep = true → (∀ k ∈ ks, k.nf (stepS coal)) → (loopS (stepS coal) n (.mk o c d ks)).nf (stepS coal)
 | 0, o, c, d, ks, hn, _, _ => by have := (ET.mk o c d ks).size_pos; omega
 | n + 1, o, c, d, ks, hn, hg, hk => by
  cases hs : stepS coal (.mk o c d ks) with
  | none => rw [loop_none hs]; exact ⟨hs, ET.nfs_iff.2 hk⟩
  | some x =>
   rw [loop_some hs]
   have hz := step_size' hc hg hs
   have hg' := step_good hc hg hs
   rcases stepS_some hc (own_mk (good_inv hg).1).1 hs with ⟨rfl, _, _, _⟩ | h | ⟨l, rfl, _, hm, _, _⟩
   ·rw [loop_none (step_lit _)]; exact ⟨step_lit _, trivial⟩
   ·rw [loop_none (nf_none (hk x h))]; exact hk x h
   ·exact loop_nf hc deep n o c d l (by omega) hg' fun k h => hk k (hm k h)
theorem fold_nf {coal : Int → Int → Dat → List ET → Option ET} (hc : CoalOk coal) : ∀ (e : ET) (deep : Nat), e.good okD deep = true → (e.fold (stepS coal)).nf (stepS coal) := by
 refine ET.ind fun o c d ks ih deep hg => ?_
 simp only [ET.fold, ET.folds_map]
 refine loop_nf hc deep _ _ _ _ _ (by simp only [ET.size]; omega) (map_good hg fun k hk => fold_good hc k _ ((good_inv hg).2.2 k hk)) fun k hk => ?_
 obtain ⟨x, hx, rfl⟩ := List.mem_map.1 hk
 exact ih x hx _ ((good_inv hg).2.2 x hx)
theorem fold_fold {coal : Int → Int → Dat → List ET → Option ET} (hc : CoalOk coal) {e : ET} {deep : Nat} (hg : e.good okD deep = true) : (e.fold (stepS coal)).fold (stepS coal) = e.fold (stepS coal) := nf_fold _ (fold_nf hc e deep hg)
def ET.end (e : ET) : ET := loopS stepP e.size e
theorem loop_fuel {coal : Int → Int → Dat → List ET → Option ET} (hc : CoalOk coal) {deep : Nat} : ∀ (n : Nat) (e : ET), e.size ≤ n → e.good okD deep = true → ∀ m, e.size ≤ m → loopS (stepS coal) n e = loopS (stepS coal) m e
 | 0, e, h, _, _, _ => by have := e.size_pos; omega
 | n + 1, e, h, hg, 0, h' => by have := e.size_pos; omega
 | n + 1, e, h, hg, m + 1, h' => by
  cases hs : stepS coal e with
  | none => rw [loop_none hs, loop_none hs]
  | some x =>
   rw [loop_some hs, loop_some hs]
   have := step_size' hc hg hs
   exact loop_fuel hc n x (by omega) (step_good hc hg hs) m (by omega)
theorem end_step {e x : ET} {deep : Nat} (hg : e.good okD deep = true) (h : stepP e = some x) : e.end = x.end := by
 have hz := step_size' coalOk_P hg h
 unfold ET.end
 obtain ⟨n, hn⟩ : ∃ n, e.size = n + 1 := ⟨e.size - 1, by have := e.size_pos; omega⟩
 rw [hn, loop_some h]
 exact loop_fuel coalOk_P n x (by omega) (step_good coalOk_P hg h) _ (Nat.le_refl _)
theorem stepS_22 {coal : Int → Int → Dat → List ET → Option ET} {c : Int} {d : Dat} {ks : List ET} (hne : ks ≠ []) : stepS coal (.mk 22 c d ks) = if ks.all ET.isLit = true ∧ (ET.val [] (.mk 22 c d ks)).2 = 0 then some (litE (ET.val [] (.mk 22 c d ks)).1) else coal 22 c d ks := by
 have e1 : ¬ ks.isEmpty = true := by simpa using hne
 simp only [stepS]
 rw [if_neg e1]
 by_cases h : ks.all ET.isLit = true ∧ (ET.val [] (.mk 22 c d ks)).2 = 0
 ·rw [if_pos h, if_pos h]
 ·rw [if_neg h, if_neg h, if_neg (show ¬ ((22 : Int) = 18 ∨ (22 : Int) = 19) by decide), if_neg (show ¬ ((22 : Int) = 21) by decide), if_pos trivial]
theorem good_22 {c : Int} {d : Dat} {ks l : List ET} {deep : Nat} (hg : (ET.mk 22 c d ks).good okD deep = true) (hl : ∀ k ∈ l, k ∈ ks) (hne : l ≠ []) : (ET.mk 22 c d l).good okD deep = true := by
 obtain ⟨h1, h2, h3⟩ := good_inv hg
 refine good_mk (own_with h1 ?_) h2 fun k hk => h3 k (hl k hk)
 simp [kidsOk]
 exact List.length_pos_iff.2 hne
theorem drop_end {c : Int} {d : Dat} {a b : ET} {l : List ET} {deep : Nat} (hg : (ET.mk 22 c d (a :: b :: l)).good okD deep = true) (ha : a.nil = true) : (ET.mk 22 c d (a :: b :: l)).end = (ET.mk 22 c d (b :: l)).end := by
 have he := nil_eq (good_kid hg (by simp)) ha
 have hv : (ET.mk 22 c d (a :: b :: l)).val [] = (ET.mk 22 c d (b :: l)).val [] := by
  rw [val_coal, val_coal]; simp only [List.map_cons]; rw [he, val_litE]; rfl
 have hl : (a :: b :: l).all ET.isLit = (b :: l).all ET.isLit := by
  rw [List.all_cons (a := a), he]; rfl
 have s1 := stepS_22 (coal := coalP) (c := c) (d := d) (ks := a :: b :: l) (by simp)
 have s2 := stepS_22 (coal := coalP) (c := c) (d := d) (ks := b :: l) (by simp)
 rw [hv, hl] at s1
 by_cases h : (b :: l).all ET.isLit = true ∧ (ET.val [] (.mk 22 c d (b :: l))).2 = 0
 ·rw [if_pos h] at s1 s2
  rw [end_step hg s1, end_step (good_22 hg (fun k hk => List.mem_cons_of_mem _ hk) (by simp)) s2]
 ·rw [if_neg h] at s1
  simp only [coalP, if_pos ha] at s1
  exact end_step hg s1
theorem full_not_nil {a : ET} (h : a.full = true) : a.nil = false := by
 simp only [ET.full, ET.nil, Bool.and_eq_true, Bool.not_eq_true', decide_eq_true_eq, decide_eq_false_iff_not, Bool.and_eq_false_iff] at h ⊢
 exact .inr h.2
theorem not_lit {a : ET} (h : a.full = false) (h' : a.nil = false) : a.isLit = false := by
 simp only [ET.full, ET.nil, ET.isLit, Bool.not_eq_false', decide_eq_true_eq, decide_eq_false_iff_not, Bool.and_eq_false_iff] at h h' ⊢
 omega
theorem cut_end {c : Int} {d : Dat} {deep : Nat} : ∀ (ks : List ET), (ET.mk 22 c d ks).good okD deep = true → ks.findIdx ET.full + 1 ≤ ks.length → (ET.mk 22 c d (ks.take (ks.findIdx ET.full + 1))).end = (ET.mk 22 c d ks).end
 | [], _, h => by simp at h
 | [a], _, h => by
  have : [a].findIdx ET.full = 0 := by simp only [List.length_cons, List.length_nil] at h; omega
  rw [this]; rfl
 | a :: b :: l, hg, h => by
  have s1 := stepS_22 (coal := coalP) (c := c) (d := d) (ks := a :: b :: l) (by simp)
  cases hf : a.full with
  | true =>
   have hi : (a :: b :: l).findIdx ET.full = 0 := by rw [List.findIdx_cons, hf]; rfl
   rw [hi]
   simp only [Nat.zero_add, List.take_succ_cons, List.take_zero]
   have hg1 : (ET.mk 22 c d [a]).good okD deep = true := good_22 hg (by intro k hk; simp at hk; subst hk; simp) (by simp)
   have hq := hf
   simp only [ET.full, Bool.and_eq_true, decide_eq_true_eq, Bool.not_eq_true', decide_eq_false_iff_not] at hq
   have he := (lit_of_good (good_kid hg (k := a) (by simp)) hq.1).1
   by_cases h1 : (a :: b :: l).all ET.isLit = true ∧ (ET.val [] (.mk 22 c d (a :: b :: l))).2 = 0
   ·rw [if_pos h1] at s1
    have s2 := stepS_22 (coal := coalP) (c := c) (d := d) (ks := [a]) (by simp)
    have v1 : (ET.mk 22 c d (a :: b :: l)).val [] = (a.lit, 0) := by
     rw [val_coal]; simp only [List.map_cons, coal]; rw [he, val_litE]
     exact if_pos (.inr hq.2)
    have v2 : (ET.mk 22 c d [a]).val [] = (a.lit, 0) := by
     rw [val_coal]; simp only [List.map_cons, coal]; rw [he, val_litE]
     exact if_pos (.inr hq.2)
    rw [v2, if_pos ⟨by simp [ET.isLit, hq.1], rfl⟩] at s2
    rw [v1] at s1
    rw [end_step hg s1, end_step hg1 s2]
   ·rw [if_neg h1] at s1
    simp only [coalP, full_not_nil hf, Bool.false_eq_true, if_false, cutS] at s1
    rw [hi, if_pos (by simp)] at s1
    exact (end_step hg s1).symm
  | false =>
   have hi : (a :: b :: l).findIdx ET.full = (b :: l).findIdx ET.full + 1 := by rw [List.findIdx_cons, hf]; rfl
   cases hn : a.nil with
   | true =>
    rw [hi] at h ⊢
    have hg2 : (ET.mk 22 c d (b :: l)).good okD deep = true := good_22 hg (fun k hk => List.mem_cons_of_mem _ hk) (by simp)
    have ih := cut_end (b :: l) hg2 (by simpa using h)
    rw [drop_end hg hn, ← ih]
    simp only [List.take_succ_cons]
    refine drop_end (good_22 hg ?_ (by simp)) hn
    intro k hk
    rcases List.mem_cons.1 hk with rfl | hk
    ·simp
    ·rcases List.mem_cons.1 hk with rfl | hk
     ·simp
     ·simp [List.mem_of_mem_take hk]
   | false =>
    have hnl : ¬ ((a :: b :: l).all ET.isLit = true ∧ (ET.val [] (.mk 22 c d (a :: b :: l))).2 = 0) := fun hh => by
     have := List.all_eq_true.1 hh.1 a (by simp)
     rw [not_lit hf hn] at this
     cases this
    rw [if_neg hnl] at s1
    simp only [coalP, hn, Bool.false_eq_true, if_false, cutS] at s1
    by_cases hlt : (a :: b :: l).findIdx ET.full + 1 < (a :: b :: l).length
    ·rw [if_pos hlt] at s1
     exact (end_step hg s1).symm
    ·rw [List.take_of_length_le (by omega)]
theorem stepR_none {e : ET} (h : stepR e = none) : stepP e = none := by
 cases e with
 | mk o c d ks =>
  simp only [stepR, stepP, stepS] at h ⊢
  by_cases h1 : ks.isEmpty = true
  ·rw [if_pos h1]
  rw [if_neg h1] at h ⊢
  by_cases h2 : ks.all ET.isLit = true ∧ (ET.val [] (.mk o c d ks)).2 = 0
  ·rw [if_pos h2] at h; cases h
  rw [if_neg h2] at h ⊢
  by_cases h3 : o = 18 ∨ o = 19
  ·rw [if_pos h3] at h ⊢; exact h
  rw [if_neg h3] at h ⊢
  by_cases h4 : o = 21
  ·rw [if_pos h4] at h ⊢; exact h
  rw [if_neg h4] at h ⊢
  by_cases h5 : o = 22
  ·rw [if_pos h5] at h ⊢
   unfold coalR at h
   split at h
   ·cases h
   ·next hc =>
    match ks, h with
    | [], _ => rfl
    | a :: b :: l, h =>
     simp only at h
     by_cases h6 : a.nil = true
     ·rw [if_pos h6] at h; cases h
     ·simp only [coalP]
      rw [if_neg h6]; exact hc
  ·rw [if_neg h5]
theorem stepR_end {e x : ET} {deep : Nat} (hg : e.good okD deep = true) (h : stepR e = some x) : x.end = e.end := by
 cases e with
 | mk o c d ks =>
  by_cases h5 : o = 22
  ·subst h5
   have hne : ks ≠ [] := by intro e; subst e; cases h
   have s1 := stepS_22 (coal := coalR) (c := c) (d := d) (ks := ks) hne
   have s2 := stepS_22 (coal := coalP) (c := c) (d := d) (ks := ks) hne
   have h : stepS coalR (.mk 22 c d ks) = some x := h
   rw [h] at s1
   by_cases h2 : ks.all ET.isLit = true ∧ (ET.val [] (.mk 22 c d ks)).2 = 0
   ·rw [if_pos h2] at s1 s2
    exact (end_step hg (s2.trans s1.symm)).symm
   rw [if_neg h2] at s1 s2
   unfold coalR at s1
   split at s1
   ·next y hy =>
    cases s1
    unfold cutS at hy
    split at hy
    ·next hlt =>
     cases hy
     exact cut_end ks hg (by omega)
    ·cases hy
   ·match ks, s1 with
    | [a], s1 =>
     cases s1
     exact (end_step hg s2).symm
    | a :: b :: l, s1 =>
     simp only at s1
     by_cases h6 : a.nil = true
     ·rw [if_pos h6] at s1; cases s1
      exact (drop_end hg h6).symm
     ·rw [if_neg h6] at s1; cases s1
  ·refine (end_step hg ?_).symm
   simp only [stepR, stepP, stepS] at h ⊢
   rw [if_neg h5] at h ⊢
   exact h
theorem loopR_end {deep : Nat} : ∀ (n : Nat) (e : ET), e.size ≤ n → e.good okD deep = true → loopS stepR n e = e.end
 | 0, e, h, _ => by have := e.size_pos; omega
 | n + 1, e, h, hg => by
  cases hs : stepR e with
  | none => rw [loop_none hs]; unfold ET.end; rw [loop_none (stepR_none hs)]
  | some x =>
   rw [loop_some hs]
   have := step_size' coalOk_R hg hs
   rw [loopR_end n x (by omega) (step_good coalOk_R hg hs)]
   exact stepR_end hg hs
theorem foldR_eq : ∀ (e : ET) (deep : Nat), e.good okD deep = true → e.fold stepR = e.fold stepP := by
 refine ET.ind fun o c d ks ih deep hg => ?_
 simp only [ET.fold, ET.folds_map]
 have hk : ks.map (ET.fold stepR) = ks.map (ET.fold stepP) := List.map_congr_left fun k hk => ih k hk _ ((good_inv hg).2.2 k hk)
 rw [hk]
 exact loopR_end _ _ (by simp only [ET.size]; omega) (map_good hg fun k hk => fold_good coalOk_P k _ ((good_inv hg).2.2 k hk))
end Go.Proofs.YtmmhedlagnjbiaaGreatDoor
namespace Go.Proofs.YtmmhedlagnjbiaaGreatDoor
open Go.RowKit Go.Pen
def zeroE : ET := .mk 0 0 Dat.zero []
def foldE (e : ET) : ET := if e.may okD = true then e.fold stepP else zeroE
def foldN (e : ET) : Nat := if e.may okD = true then 0 else 30
def rfoldE (e : ET) : ET := if e.may okD = true then e.fold stepR else zeroE
theorem rfold_eq (e : ET) : rfoldE e = foldE e := by
 unfold rfoldE foldE
 split
 ·next h =>
  simp only [ET.may, Bool.and_eq_true] at h
  exact foldR_eq e _ h.1
 ·rfl
theorem foldE_may {e : ET} (h : e.may okD = true) : (foldE e).may okD = true := by
 unfold foldE; rw [if_pos h]; exact fold_may coalOk_P h
theorem fold_again {e : ET} (h : e.may okD = true) : foldE (foldE e) = foldE e := by
 have h1 := foldE_may h
 have h2 : foldE e = e.fold stepP := by unfold foldE; rw [if_pos h]
 have h3 : foldE (foldE e) = (foldE e).fold stepP := by rw [foldE, if_pos h1]
 rw [h3, h2]
 simp only [ET.may, Bool.and_eq_true] at h
 exact fold_fold coalOk_P h.1
theorem fold_means {r : List Dat} {e : ET} (hr : ∀ d ∈ r, okD d = true) (h0 : (evalR r e).2 = 0) : evalR r (foldE e) = evalR r e := by
 unfold evalR at h0
 by_cases h1 : e.may okD = true ∧ e.within r.length = true
 ·rw [if_pos h1] at h0
  by_cases h2 : (e.val r).2 = 0
  ·have hm := foldE_may h1.1
   have h3 : foldE e = e.fold stepP := by unfold foldE; rw [if_pos h1.1]
   have hg := h1.1
   simp only [ET.may, Bool.and_eq_true] at hg
   have hv := fold_val hr e _ hg.1 h1.2 h2
   have hw := fold_within coalOk_P r.length e _ hg.1 h1.2
   rw [h3] at hm ⊢
   unfold evalR
   rw [if_pos h1, if_pos ⟨hm, hw⟩, show (e.fold stepP).val r = e.val r from hv]
  ·rw [if_neg h2] at h0
   exact absurd h0 h2
 ·rw [if_neg h1] at h0; cases h0
end Go.Proofs.YtmmhedlagnjbiaaGreatDoor
