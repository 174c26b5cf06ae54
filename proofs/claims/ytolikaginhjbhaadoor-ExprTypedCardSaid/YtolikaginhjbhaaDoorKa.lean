import Derived.Test.YtolikaginhjbhaaDoorJb
import Derived.Test.YtolikaginhjbhaaDoorUi
/- Types of expressions; what has a type comes to null or to that type. No program in sight. -/
namespace Go.Proofs.YtolikaginhjbhaaDoor
open Go.RowKit Go.Pen

/-- one type of two -/
def fitsT (a b : Int) : Option Int := if a = 1 then some b else if b = 1 ∨ a = b then some a else none
/-- one type of many -/
def allT : Int → List Int → Option Int
  | k, [] => some k
  | k, x :: l => match fitsT k x with
    | none => none
    | some k' => allT k' l
def asksT (o : Int) : Int := if o = 3 ∨ o = 4 ∨ o = 5 ∨ o = 6 ∨ o = 7 ∨ o = 8 then 3 else if o = 9 ∨ o = 10 then 4 else if o = 17 ∨ o = 18 ∨ o = 19 then 2 else 1
def givesT (o : Int) : Int := if o = 3 ∨ o = 4 ∨ o = 5 ∨ o = 6 ∨ o = 7 ∨ o = 8 ∨ o = 10 then 3 else if o = 9 then 4 else 2
/-- the conditions' types, the values' -/
def whensT : List Int → List Int
  | c :: _ :: l => c :: whensT l
  | _ => []
def thensT : List Int → List Int
  | _ :: v :: l => v :: thensT l
  | [v] => [v]
  | [] => []
def restT (o : Int) (l : List Int) : Option Int :=
  if o = 20 then some 2 else if o = 22 then allT 1 l
  else if o = 21 then (match allT 2 (whensT l) with
    | none => none
    | some _ => allT 1 (thensT l))
  else match allT (asksT o) l with
    | none => none
    | some _ => some (givesT o)
mutual
def ET.typ (cols : List Int) : ET → Option Int
  | .mk o c d ks => if o = 1 then some (if 2 ≤ cols.getD c.toNat 0 ∧ cols.getD c.toNat 0 ≤ 4 then cols.getD c.toNat 0 else 1) else if o = 2 then some d.kind else if o = 23 then some 1
    else match ET.typs cols ks with
      | none => none
      | some l => restT o l
def ET.typs (cols : List Int) : List ET → Option (List Int)
  | [] => some []
  | k :: ks => match k.typ cols with
    | none => none
    | some t => match ET.typs cols ks with
      | none => none
      | some l => some (t :: l)
end

theorem fitsT_some {a b k : Int} (h : fitsT a b = some k) : (a ≠ 1 → k = a) ∧ (b = 1 ∨ b = k) := by
  unfold fitsT at h
  split at h
  · next e => cases h; exact ⟨fun h => absurd e h, .inr rfl⟩
  · split at h
    · next e1 e2 =>
      cases h
      exact ⟨fun _ => rfl, by rcases e2 with h | h; exact .inl h; exact .inr h.symm⟩
    · cases h
theorem allT_some : ∀ {l : List Int} {a k : Int}, allT a l = some k → (a ≠ 1 → k = a) ∧ ∀ x ∈ l, x = 1 ∨ x = k
  | [], a, k, h => by simp only [allT] at h; cases h; exact ⟨fun _ => rfl, fun x hx => by cases hx⟩
  | x :: l, a, k, h => by
    simp only [allT] at h
    split at h
    · cases h
    · next k' hk =>
      obtain ⟨h1, h2⟩ := fitsT_some hk
      obtain ⟨h3, h4⟩ := allT_some h
      refine ⟨fun ha => ?_, fun y hy => ?_⟩
      · have := h1 ha
        subst this
        exact h3 ha
      · rcases List.mem_cons.1 hy with rfl | hy
        · rcases h2 with h2 | h2
          · exact .inl h2
          · by_cases e : y = 1
            · exact .inl e
            · right; subst h2; exact (h3 e).symm
        · exact h4 y hy

/-- what a value of a type is: no datum that may not be; null, or of that type; never an error of the wrong type -/
def Sound (k : Int) (v : Res) : Prop := (v.2 = 0 ∧ okD v.1 = true ∧ (v.1.kind = 1 ∨ v.1.kind = k)) ∨ v.2 = 10 ∨ v.2 = 11 ∨ v.2 = 12
/-- no error at all -/
def Calm (k : Int) (v : Res) : Prop := v.2 = 0 ∧ okD v.1 = true ∧ (v.1.kind = 1 ∨ v.1.kind = k)
theorem Calm.sound {k : Int} {v : Res} (h : Calm k v) : Sound k v := .inl h
theorem okD_nul : okD nul = true := rfl
theorem okD_boo (b : Bool) : okD (boo b) = true := by cases b <;> rfl
theorem okD_nm (n : Int) : okD (num n) = true := by simp [okD, okD_num]
theorem calm_nul (k : Int) : Calm k (nul, 0) := ⟨rfl, okD_nul, .inl rfl⟩
theorem calm_boo (b : Bool) : Calm 2 (boo b, 0) := ⟨rfl, okD_boo b, .inr rfl⟩
theorem calm_num (n : Int) : Calm 3 (num n, 0) := ⟨rfl, okD_nm n, .inr rfl⟩
theorem sound_ov (n : Int) : Sound 3 (ov n) := by
  unfold ov
  split
  · exact .inl (calm_num n)
  · exact .inr (.inl rfl)
theorem isK_of {k : Int} {d : Dat} (h : okD d = true) (hk : d.kind = 1 ∨ d.kind = k) : isK k d = true := by
  simp only [isK, h, Bool.true_and, Bool.or_eq_true, decide_eq_true_eq]
  exact hk.symm
theorem both_sound {k t : Int} {a b : Dat} {r : Res} (ha : isK k a = true) (hb : isK k b = true) (hr : Sound t r) : Sound t (both k a b r) := by
  unfold both
  rw [if_neg (by simp [ha, hb])]
  split
  · exact .inl (calm_nul t)
  · exact hr
theorem sole_sound {k t : Int} {a : Dat} {r : Res} (ha : isK k a = true) (hr : Sound t r) : Sound t (sole k a r) := by
  unfold sole
  rw [if_neg (by simp [ha])]
  split
  · exact .inl (calm_nul t)
  · exact hr
theorem sole_calm {k t : Int} {a : Dat} {r : Res} (ha : isK k a = true) (hr : Calm t r) : Calm t (sole k a r) := by
  unfold sole
  rw [if_neg (by simp [ha])]
  split
  · exact calm_nul t
  · exact hr
theorem told_sound {k : Int} {r : Res} (h : Sound k r) : Sound k (told r) := by
  unfold told
  split
  · exact h
  · next h0 =>
    rcases h with h | h | h | h
    · exact absurd h.1 h0
    · rw [if_neg (by omega)]; exact .inr (.inl h)
    · rw [if_neg (by omega)]; exact .inr (.inr (.inl h))
    · rw [if_neg (by omega)]; exact .inr (.inr (.inr h))
theorem told_calm {k : Int} {r : Res} (h : Calm k r) : Calm k (told r) := by
  unfold told
  rw [if_pos h.1]
  exact h
/-- a comparison of two of one type -/
theorem comp_calm {o k1 k2 k : Int} {a b : Dat} (ha : okD a = true) (hb : okD b = true) (h1 : a.kind = 1 ∨ a.kind = k1) (h2 : b.kind = 1 ∨ b.kind = k2) (h : allT 1 [k1, k2] = some k) : Calm 2 (compD o a b) := by
  have hm := (allT_some h).2
  have e1 := hm k1 (by simp)
  have e2 := hm k2 (by simp)
  unfold compD
  rw [if_neg (by simp [ha, hb])]
  split
  · exact calm_nul 2
  · next hn =>
    rw [if_neg (fun hne => hne (by omega))]
    exact calm_boo _
/-- a condition of the type of truth values, or null -/
theorem truth_sound {k : Int} {v : Res} (h : Sound k v) (hk : k = 1 ∨ k = 2) : (truth v).1 = 0 ∧ v.2 = 0 ∨ (truth v).1 = 10 ∨ (truth v).1 = 11 ∨ (truth v).1 = 12 := by
  rcases h with h | h | h | h
  · left
    refine ⟨?_, h.1⟩
    have h2 : ¬ 2 < v.1.kind := by rcases h.2.2 with e | e <;> omega
    simp [truth, h.1, h.2.1, h2]
  · right; left; simp [truth, h]
  · right; right; left; simp [truth, h]
  · right; right; right; simp [truth, h]
theorem bad_sound {k : Int} {n : Nat} (h : n = 10 ∨ n = 11 ∨ n = 12) : Sound k (bad n) := .inr h
end Go.Proofs.YtolikaginhjbhaaDoor
/- What has a type comes to null or to that type: the law. No program in sight. -/
namespace Go.Proofs.YtolikaginhjbhaaDoor
open Go.RowKit Go.Pen

theorem lv_append : ∀ (k v : Nat) (cs m : Bytes) (x : Nat), lv v cs k = some x → lv v (cs ++ m) k = some x
  | 0, v, cs, m, x, h => by simpa [lv] using h
  | k + 1, v, [], m, x, h => by simp [lv] at h
  | k + 1, v, d :: ds, m, x, h => by
    simp only [List.cons_append, lv] at h ⊢
    split at h
    · next hd => rw [if_pos hd]; exact lv_append k _ ds m x h
    · cases h
theorem longN_append {c : UInt8} {cs m : Bytes} (h : longN (c :: cs) ≠ 0) : longN (c :: (cs ++ m)) = longN (c :: cs) := by
  simp only [longN] at h ⊢
  split
  · rfl
  · next h1 =>
    rw [if_neg h1] at h
    cases hh : headN c.toNat with
    | none => rfl
    | some p =>
      obtain ⟨n, v⟩ := p
      rw [hh] at h
      simp only at h ⊢
      by_cases h2 : cs.length + 1 < n
      · rw [if_pos h2] at h; exact absurd rfl h
      · rw [if_neg h2] at h ⊢
        have h3 : ¬ (cs ++ m).length + 1 < n := by rw [List.length_append]; omega
        rw [if_neg h3]
        cases hl : lv v cs (n - 1) with
        | none => rw [hl] at h; exact absurd rfl h
        | some x => rw [lv_append _ _ _ _ _ hl]
theorem valid_join : ∀ (n : Nat) (l m : Bytes), l.length ≤ n → Lib.validD l = true → Lib.validD m = true → Lib.validD (l ++ m) = true
  | _, [], m, _, _, h => h
  | 0, c :: cs, m, hn, _, _ => by simp at hn
  | n + 1, c :: cs, m, hn, hl, hm => by
    rw [valid_long] at hl
    rw [List.cons_append, valid_long]
    by_cases h0 : longN (c :: cs) = 0
    · rw [if_pos h0] at hl; cases hl
    · rw [if_neg h0] at hl
      rw [longN_append h0, if_neg h0]
      have hle := longN_le (c := c) (cs := cs)
      rw [show (c :: (cs ++ m)).drop (longN (c :: cs)) = (c :: cs).drop (longN (c :: cs)) ++ m from by
        rw [← List.cons_append, List.drop_append_of_le_length (by simpa using hle)]]
      exact valid_join n _ m (by simp only [List.length_drop, List.length_cons] at hn ⊢; omega) hl hm

theorem okD_text {d : Dat} (h : okD d = true) : Lib.validD d.text.data.toList = true := by
  have h := (show chkD d = 0 by simpa [okD] using h)
  unfold chkD at h
  split at h
  · cases h
  · split at h
    · cases h
    · split at h
      · cases h
      · next h3 => simpa using h3
theorem cat_sound {a b : Dat} (ha : okD a = true) (hb : okD b = true) (h1 : a.kind = 1 ∨ a.kind = 4) (h2 : b.kind = 1 ∨ b.kind = 4) : Sound 4 (catD a b) := by
  unfold catD both
  rw [if_neg (by simp [isK_of ha h1, isK_of hb h2])]
  split
  · exact .inl (calm_nul 4)
  · split
    · exact .inr (.inr (.inr rfl))
    · next hz =>
      left
      refine ⟨rfl, ?_, .inr rfl⟩
      have hv := valid_join _ _ b.text.data.toList (Nat.le_refl _) (okD_text ha) (okD_text hb)
      have hz' : ¬ 1000 < (⟨(a.text.data.toList ++ b.text.data.toList).toArray⟩ : ByteArray).size := by
        show ¬ 1000 < (a.text.data.toList ++ b.text.data.toList).toArray.size
        rw [List.size_toArray, List.length_append]
        have e1 := len_list a.text
        have e2 := len_list b.text
        omega
      have hz2 : chkD (txt ⟨(a.text.data.toList ++ b.text.data.toList).toArray⟩) = 0 := by
        unfold chkD txt
        simp only
        rw [if_neg (by decide), if_neg (by simp), if_neg (by simp [hv]), if_neg hz']
      simp [okD, hz2]

/-- an operator of one whose argument is of its type -/
theorem one_calm {o : Int} {a : Dat} {k : Int} (ho : o = 10 ∨ o = 17) (ha : okD a = true) (hk : a.kind = 1 ∨ a.kind = k) (ht : allT (asksT o) [k] = some k) : Calm (givesT o) (oneD o a) := by
  have hm := allT_some ht
  rcases ho with rfl | rfl
  · have hk4 : a.kind = 1 ∨ a.kind = 4 := by
      rcases hk with h | h
      · exact .inl h
      · have := hm.1 (by decide)
        exact .inr (h.trans this)
    exact sole_calm (isK_of ha hk4) (calm_num _)
  · have hk2 : a.kind = 1 ∨ a.kind = 2 := by
      rcases hk with h | h
      · exact .inl h
      · have := hm.1 (by decide)
        exact .inr (h.trans this)
    exact sole_calm (isK_of ha hk2) (calm_boo _)
theorem asks_of {o k1 t : Int} {l : List Int} (h : allT (asksT o) l = some t) (hm : k1 ∈ l) (hne : asksT o ≠ 1) {d : Dat} (hd : d.kind = 1 ∨ d.kind = k1) : d.kind = 1 ∨ d.kind = asksT o := by
  obtain ⟨h1, h2⟩ := allT_some h
  have e := h1 hne
  rcases hd with h | h
  · exact .inl h
  · rcases h2 k1 hm with g | g
    · exact .inl (h.trans g)
    · exact .inr (by rw [h, g, e])

theorem logic_sound (stop : Bool) : ∀ (vs : List Res) (ts : List Int) (so : Bool), vs.length = ts.length → (∀ t ∈ ts, t = 1 ∨ t = 2) → (∀ (i : Nat) v t, vs[i]? = some v → ts[i]? = some t → Sound t v) → Sound 2 (logic stop so vs)
  | [], _, so, _, _, _ => by
    simp only [logic]
    split
    · exact .inl (calm_nul 2)
    · exact .inl (calm_boo _)
  | v :: vs, [], _, h, _, _ => by simp at h
  | v :: vs, t :: ts, so, hl, ht, h => by
    simp only [logic]
    have hv := h 0 v t rfl rfl
    rcases truth_sound hv (ht t (by simp)) with ⟨e, -⟩ | e
    · rw [if_neg (fun g => g e)]
      split
      · exact .inl (calm_boo _)
      · exact logic_sound stop vs ts _ (by simpa using hl) (fun x hx => ht x (by simp [hx])) (fun i v t h1 h2 => h (i + 1) v t (by simpa using h1) (by simpa using h2))
    · rw [if_pos (by omega)]
      exact bad_sound e
theorem logic_calm (stop : Bool) : ∀ (vs : List Res) (ts : List Int) (so : Bool), vs.length = ts.length → (∀ t ∈ ts, t = 1 ∨ t = 2) → (∀ (i : Nat) v t, vs[i]? = some v → ts[i]? = some t → Calm t v) → Calm 2 (logic stop so vs)
  | [], _, so, _, _, _ => by
    simp only [logic]
    split
    · exact calm_nul 2
    · exact calm_boo _
  | v :: vs, [], _, h, _, _ => by simp at h
  | v :: vs, t :: ts, so, hl, ht, h => by
    simp only [logic]
    have hv := h 0 v t rfl rfl
    have e : (truth v).1 = 0 := by
      rcases truth_sound hv.sound (ht t (by simp)) with ⟨e, -⟩ | e
      · exact e
      · have h2 : ¬ 2 < v.1.kind := by rcases hv.2.2 with g | g <;> rcases ht t (by simp) with q | q <;> omega
        simp [truth, hv.1, hv.2.1, h2]
    rw [if_neg (fun g => g e)]
    split
    · exact calm_boo _
    · exact logic_calm stop vs ts _ (by simpa using hl) (fun x hx => ht x (by simp [hx])) (fun i v t h1 h2 => h (i + 1) v t (by simpa using h1) (by simpa using h2))
end Go.Proofs.YtolikaginhjbhaaDoor
/- What has a type comes to null or to that type: all expressions. No program in sight. -/
namespace Go.Proofs.YtolikaginhjbhaaDoor
open Go.RowKit Go.Pen

theorem Sound.wide {t k : Int} {v : Res} (h : Sound t v) (ht : t = 1 ∨ t = k) : Sound k v := by
  rcases h with h | h
  · left
    refine ⟨h.1, h.2.1, ?_⟩
    rcases h.2.2 with e | e
    · exact .inl e
    · rcases ht with g | g
      · exact .inl (e.trans g)
      · exact .inr (e.trans g)
  · exact .inr h
theorem Calm.wide {t k : Int} {v : Res} (h : Calm t v) (ht : t = 1 ∨ t = k) : Calm k v := by
  refine ⟨h.1, h.2.1, ?_⟩
  rcases h.2.2 with e | e
  · exact .inl e
  · rcases ht with g | g
    · exact .inl (e.trans g)
    · exact .inr (e.trans g)

theorem choice_sound (k : Int) : ∀ (n : Nat) (vs : List Res) (ts : List Int), vs.length ≤ n → vs.length = ts.length → vs.length % 2 = 1 → (∀ t ∈ whensT ts, t = 1 ∨ t = 2) → (∀ t ∈ thensT ts, t = 1 ∨ t = k) → (∀ (i : Nat) v t, vs[i]? = some v → ts[i]? = some t → Sound t v) → Sound k (choice vs)
  | _, [], _, _, _, h, _, _, _ => by simp at h
  | _, [v], [t], _, _, _, _, h2, h => by
    simp only [choice]
    exact (h 0 v t rfl rfl).wide (h2 t (by simp [thensT]))
  | _, [v], [], _, h, _, _, _, _ => by simp at h
  | _, [v], _ :: _ :: _, _, h, _, _, _, _ => by simp at h
  | 0, _ :: _ :: _, _, h, _, _, _, _, _ => by simp at h
  | n + 1, c :: v :: vs, [], _, h, _, _, _, _ => by simp at h
  | n + 1, c :: v :: vs, [_], _, h, _, _, _, _ => by simp at h
  | n + 1, c :: v :: vs, tc :: tv :: ts, hn, hl, ho, h1, h2, h => by
    simp only [choice]
    have hc := h 0 c tc rfl rfl
    rcases truth_sound hc (h1 tc (by simp [whensT])) with ⟨e, -⟩ | e
    · rw [if_neg (fun g => g e)]
      split
      · exact (h 1 v tv rfl rfl).wide (h2 tv (by simp [thensT]))
      · exact choice_sound k n vs ts (by simp at hn; omega) (by simpa using hl) (by simp at ho; omega) (fun t ht => h1 t (by simp [whensT, ht])) (fun t ht => h2 t (by simp [thensT, ht])) (fun i v t g1 g2 => h (i + 2) v t (by simpa using g1) (by simpa using g2))
    · rw [if_pos (by omega)]
      exact bad_sound e
theorem truth_calm {k : Int} {v : Res} (h : Calm k v) (hk : k = 1 ∨ k = 2) : (truth v).1 = 0 := by
  have h2 : ¬ 2 < v.1.kind := by rcases h.2.2 with g | g <;> rcases hk with q | q <;> omega
  simp [truth, h.1, h.2.1, h2]
theorem choice_calm (k : Int) : ∀ (n : Nat) (vs : List Res) (ts : List Int), vs.length ≤ n → vs.length = ts.length → vs.length % 2 = 1 → (∀ t ∈ whensT ts, t = 1 ∨ t = 2) → (∀ t ∈ thensT ts, t = 1 ∨ t = k) → (∀ (i : Nat) v t, vs[i]? = some v → ts[i]? = some t → Calm t v) → Calm k (choice vs)
  | _, [], _, _, _, h, _, _, _ => by simp at h
  | _, [v], [t], _, _, _, _, h2, h => by
    simp only [choice]
    exact (h 0 v t rfl rfl).wide (h2 t (by simp [thensT]))
  | _, [v], [], _, h, _, _, _, _ => by simp at h
  | _, [v], _ :: _ :: _, _, h, _, _, _, _ => by simp at h
  | 0, _ :: _ :: _, _, h, _, _, _, _, _ => by simp at h
  | n + 1, c :: v :: vs, [], _, h, _, _, _, _ => by simp at h
  | n + 1, c :: v :: vs, [_], _, h, _, _, _, _ => by simp at h
  | n + 1, c :: v :: vs, tc :: tv :: ts, hn, hl, ho, h1, h2, h => by
    simp only [choice]
    have e := truth_calm (h 0 c tc rfl rfl) (h1 tc (by simp [whensT]))
    rw [if_neg (fun g => g e)]
    split
    · exact (h 1 v tv rfl rfl).wide (h2 tv (by simp [thensT]))
    · exact choice_calm k n vs ts (by simp at hn; omega) (by simpa using hl) (by simp at ho; omega) (fun t ht => h1 t (by simp [whensT, ht])) (fun t ht => h2 t (by simp [thensT, ht])) (fun i v t g1 g2 => h (i + 2) v t (by simpa using g1) (by simpa using g2))
theorem coal_sound (k : Int) : ∀ (vs : List Res) (ts : List Int), vs.length = ts.length → (∀ t ∈ ts, t = 1 ∨ t = k) → (∀ (i : Nat) v t, vs[i]? = some v → ts[i]? = some t → Sound t v) → Sound k (coal vs)
  | [], _, _, _, _ => by simp only [coal]; exact .inl (calm_nul k)
  | v :: vs, [], h, _, _ => by simp at h
  | v :: vs, t :: ts, hl, ht, h => by
    simp only [coal]
    split
    · exact (h 0 v t rfl rfl).wide (ht t (by simp))
    · exact coal_sound k vs ts (by simpa using hl) (fun x hx => ht x (by simp [hx])) (fun i v t g1 g2 => h (i + 1) v t (by simpa using g1) (by simpa using g2))
theorem coal_calm (k : Int) : ∀ (vs : List Res) (ts : List Int), vs.length = ts.length → (∀ t ∈ ts, t = 1 ∨ t = k) → (∀ (i : Nat) v t, vs[i]? = some v → ts[i]? = some t → Calm t v) → Calm k (coal vs)
  | [], _, _, _, _ => by simp only [coal]; exact calm_nul k
  | v :: vs, [], h, _, _ => by simp at h
  | v :: vs, t :: ts, hl, ht, h => by
    simp only [coal]
    split
    · exact (h 0 v t rfl rfl).wide (ht t (by simp))
    · exact coal_calm k vs ts (by simpa using hl) (fun x hx => ht x (by simp [hx])) (fun i v t g1 g2 => h (i + 1) v t (by simpa using g1) (by simpa using g2))

theorem typs_get {cols : List Int} : ∀ {ks : List ET} {l : List Int}, ET.typs cols ks = some l → l.length = ks.length ∧ ∀ (i : Nat) k, ks[i]? = some k → ∃ t, l[i]? = some t ∧ k.typ cols = some t
  | [], l, h => by simp only [ET.typs] at h; cases h; exact ⟨rfl, fun i k hk => by simp at hk⟩
  | k :: ks, l, h => by
    simp only [ET.typs] at h
    cases h1 : k.typ cols with
    | none => rw [h1] at h; cases h
    | some t =>
      rw [h1] at h
      cases h2 : ET.typs cols ks with
      | none => rw [h2] at h; cases h
      | some l' =>
        rw [h2] at h
        cases h
        obtain ⟨hl, hg⟩ := typs_get h2
        refine ⟨by simp [hl], fun i x hx => ?_⟩
        cases i with
        | zero => simp at hx; subst hx; exact ⟨t, rfl, h1⟩
        | succ i => simpa using hg i x (by simpa using hx)

mutual
/-- has it an operator that tells whatever error? -/
def ET.fails : ET → Bool
  | .mk o _ _ ks => decide (o = 23) || ET.failss ks
def ET.failss : List ET → Bool
  | [] => false
  | k :: ks => k.fails || ET.failss ks
end
theorem failss_iff : ∀ {ks : List ET}, ET.failss ks = false ↔ ∀ k ∈ ks, k.fails = false
  | [] => by simp [ET.failss]
  | k :: ks => by simp [ET.failss, failss_iff (ks := ks)]
mutual
/-- has it none of the operators that may fail? -/
def ET.safe : ET → Bool
  | .mk o _ _ ks => !(decide (3 ≤ o) && decide (o ≤ 9)) && !decide (o = 23) && ET.safes ks
def ET.safes : List ET → Bool
  | [] => true
  | k :: ks => k.safe && ET.safes ks
end
theorem safes_iff : ∀ {ks : List ET}, ET.safes ks = true ↔ ∀ k ∈ ks, k.safe = true
  | [] => by simp [ET.safes]
  | k :: ks => by simp [ET.safes, safes_iff (ks := ks)]
end Go.Proofs.YtolikaginhjbhaaDoor
/- What has a type comes to null or to that type: the law. No program in sight. -/
namespace Go.Proofs.YtolikaginhjbhaaDoor
open Go.RowKit Go.Pen

theorem Sound.cases {k : Int} {v : Res} (h : Sound k v) : Calm k v ∨ (v.2 ≠ 0 ∧ (v.2 = 10 ∨ v.2 = 11 ∨ v.2 = 12)) := by
  rcases h with h | h | h | h
  · exact .inl h
  · exact .inr ⟨by omega, .inl h⟩
  · exact .inr ⟨by omega, .inr (.inl h)⟩
  · exact .inr ⟨by omega, .inr (.inr h)⟩

/-- an operator of two, its arguments of its types -/
theorem two_sound {o k1 k2 t : Int} {a b : Dat} (ho : o = 4 ∨ o = 5 ∨ o = 6 ∨ o = 7 ∨ o = 8 ∨ o = 9 ∨ 11 ≤ o ∧ o ≤ 16) (ha : okD a = true) (hb : okD b = true) (h1 : a.kind = 1 ∨ a.kind = k1) (h2 : b.kind = 1 ∨ b.kind = k2) (ht : allT (asksT o) [k1, k2] = some t) : Sound (givesT o) (twoD o a b) := by
  rcases ho with rfl | rfl | rfl | rfl | rfl | rfl | ⟨g1, g2⟩
  · have e1 := asks_of ht (k1 := k1) (by simp) (by decide) h1
    have e2 := asks_of ht (k1 := k2) (by simp) (by decide) h2
    exact both_sound (isK_of ha e1) (isK_of hb e2) (sound_ov _)
  · have e1 := asks_of ht (k1 := k1) (by simp) (by decide) h1
    have e2 := asks_of ht (k1 := k2) (by simp) (by decide) h2
    exact both_sound (isK_of ha e1) (isK_of hb e2) (sound_ov _)
  · have e1 := asks_of ht (k1 := k1) (by simp) (by decide) h1
    have e2 := asks_of ht (k1 := k2) (by simp) (by decide) h2
    exact both_sound (isK_of ha e1) (isK_of hb e2) (sound_ov _)
  · have e1 := asks_of ht (k1 := k1) (by simp) (by decide) h1
    have e2 := asks_of ht (k1 := k2) (by simp) (by decide) h2
    refine both_sound (t := 3) (r := if b.int = 0 then bad 11 else ov (Int.tdiv a.int b.int)) (isK_of ha e1) (isK_of hb e2) ?_
    split
    · exact .inr (.inr (.inl rfl))
    · exact sound_ov _
  · have e1 := asks_of ht (k1 := k1) (by simp) (by decide) h1
    have e2 := asks_of ht (k1 := k2) (by simp) (by decide) h2
    refine both_sound (t := 3) (r := if b.int = 0 then bad 11 else (num (Int.tmod a.int b.int), 0)) (isK_of ha e1) (isK_of hb e2) ?_
    split
    · exact .inr (.inr (.inl rfl))
    · exact .inl (calm_num _)
  · have e1 := asks_of ht (k1 := k1) (by simp) (by decide) h1
    have e2 := asks_of ht (k1 := k2) (by simp) (by decide) h2
    exact cat_sound ha hb e1 e2
  · have ha1 : asksT o = 1 := by unfold asksT; rw [if_neg (by omega), if_neg (by omega), if_neg (by omega)]
    have hg : givesT o = 2 := by unfold givesT; rw [if_neg (by omega), if_neg (by omega)]
    have htw : twoD o a b = compD o a b := by unfold twoD; rw [if_neg (by omega), if_neg (by omega), if_neg (by omega), if_neg (by omega), if_neg (by omega), if_neg (by omega)]
    rw [ha1] at ht
    rw [hg, htw]
    exact .inl (comp_calm ha hb h1 h2 ht)
theorem two_calm {o k1 k2 t : Int} {a b : Dat} (g1 : 11 ≤ o) (g2 : o ≤ 16) (ha : okD a = true) (hb : okD b = true) (h1 : a.kind = 1 ∨ a.kind = k1) (h2 : b.kind = 1 ∨ b.kind = k2) (ht : allT (asksT o) [k1, k2] = some t) : Calm (givesT o) (twoD o a b) := by
  have ha1 : asksT o = 1 := by unfold asksT; rw [if_neg (by omega), if_neg (by omega), if_neg (by omega)]
  have hg : givesT o = 2 := by unfold givesT; rw [if_neg (by omega), if_neg (by omega)]
  have htw : twoD o a b = compD o a b := by unfold twoD; rw [if_neg (by omega), if_neg (by omega), if_neg (by omega), if_neg (by omega), if_neg (by omega), if_neg (by omega)]
  rw [ha1] at ht
  rw [hg, htw]
  exact comp_calm ha hb h1 h2 ht
theorem one_sound {o k1 t : Int} {a : Dat} (ho : o = 3 ∨ o = 10 ∨ o = 17) (ha : okD a = true) (h1 : a.kind = 1 ∨ a.kind = k1) (ht : allT (asksT o) [k1] = some t) : Sound (givesT o) (oneD o a) := by
  rcases ho with rfl | rfl | rfl
  · exact sole_sound (isK_of ha (asks_of ht (k1 := k1) (by simp) (by decide) h1)) (sound_ov _)
  · exact sole_sound (isK_of ha (asks_of ht (k1 := k1) (by simp) (by decide) h1)) (.inl (calm_num _))
  · exact sole_sound (isK_of ha (asks_of ht (k1 := k1) (by simp) (by decide) h1)) (.inl (calm_boo _))
theorem one_calm' {o k1 t : Int} {a : Dat} (ho : o = 10 ∨ o = 17) (ha : okD a = true) (h1 : a.kind = 1 ∨ a.kind = k1) (ht : allT (asksT o) [k1] = some t) : Calm (givesT o) (oneD o a) := by
  rcases ho with rfl | rfl
  · exact sole_calm (isK_of ha (asks_of ht (k1 := k1) (by simp) (by decide) h1)) (calm_num _)
  · exact sole_calm (isK_of ha (asks_of ht (k1 := k1) (by simp) (by decide) h1)) (calm_boo _)

theorem own_lit_ok {c : Int} {d : Dat} {ks : List ET} (h : ET.own okD (.mk 2 c d ks) = true) : okD d = true := (own_mk h).2.2.2.1 rfl

theorem chk_kind' {d : Dat} (h : okD d = true) : 1 ≤ d.kind ∧ d.kind ≤ 4 := by
  have h := (show chkD d = 0 by simpa [okD] using h)
  unfold chkD at h
  split at h
  · cases h
  · omega

/-- at each operator: its parts of their types, it is of its own -/
theorem step_sound (r : List Dat) (hr : ∀ d ∈ r, okD d = true) (o c : Int) (d : Dat) (ks : List ET) (k : Int) (hown : ET.own okD (.mk o c d ks) = true) (hc : o = 1 → c < r.length) (hf : o ≠ 23)
    (ht : (ET.mk o c d ks).typ (r.map Dat.kind) = some k) :
    (∀ l, ET.typs (r.map Dat.kind) ks = some l → (∀ (i : Nat) v t, (ET.vals r ks)[i]? = some v → l[i]? = some t → Sound t v) → Sound k ((ET.mk o c d ks).val r)) ∧
    (¬ (3 ≤ o ∧ o ≤ 9) → ∀ l, ET.typs (r.map Dat.kind) ks = some l → (∀ (i : Nat) v t, (ET.vals r ks)[i]? = some v → l[i]? = some t → Calm t v) → Calm k ((ET.mk o c d ks).val r)) := by
  have hkids := own_kids hown
  simp only [ET.typ] at ht
  by_cases o1 : o = 1
  · subst o1
    rw [if_pos rfl] at ht
    have hcn := own_col_nn hown
    have hclt := hc rfl
    obtain ⟨x, hx⟩ : ∃ x, r[c.toNat]? = some x := ⟨r[c.toNat]'(by omega), List.getElem?_eq_getElem _⟩
    have hok := hr x (List.mem_of_getElem? hx)
    have hkd := chk_kind' hok
    have hm : (r.map Dat.kind).getD c.toNat 0 = x.kind := by rw [List.getD_eq_getElem?_getD, List.getElem?_map, hx]; rfl
    have hv : (ET.mk 1 c d ks).val r = (x, 0) := by
      simp only [ET.val, if_pos, List.getD_eq_getElem?_getD, hx]
      rfl
    rw [hm] at ht
    have hcalm : Calm k (x, 0) := by
      refine ⟨rfl, hok, ?_⟩
      have ht := Option.some.inj ht
      show x.kind = 1 ∨ x.kind = k
      split at ht
      · exact .inr ht
      · left; omega
    rw [hv]
    exact ⟨fun _ _ _ => .inl hcalm, fun _ _ _ _ => hcalm⟩
  rw [if_neg o1] at ht
  by_cases o2 : o = 2
  · subst o2
    rw [if_pos rfl] at ht
    have hok := own_lit_ok hown
    have hv : (ET.mk 2 c d ks).val r = (d, 0) := by simp [ET.val]
    have hcalm : Calm k (d, 0) := ⟨rfl, hok, .inr (Option.some.inj ht)⟩
    rw [hv]
    exact ⟨fun _ _ _ => .inl hcalm, fun _ _ _ _ => hcalm⟩
  rw [if_neg o2, if_neg hf] at ht
  cases hl : ET.typs (r.map Dat.kind) ks with
  | none => rw [hl] at ht; cases ht
  | some l =>
    rw [hl] at ht
    simp only [restT] at ht
    obtain ⟨hlen, hget⟩ := typs_get hl
    have hvl : (ET.vals r ks).length = l.length := by rw [ET.vals_map, List.length_map, hlen]
    by_cases o18 : o = 18 ∨ o = 19
    · have hv : (ET.mk o c d ks).val r = logic (decide (o = 19)) false (ET.vals r ks) := by
        simp only [ET.val]; rw [if_neg o1, if_neg o2, if_neg hf, if_pos o18]
      have hk : (∀ t ∈ l, t = 1 ∨ t = 2) ∧ k = 2 := by
        rw [if_neg (by omega), if_neg (by omega), if_neg (by omega)] at ht
        have ha : asksT o = 2 := by rcases o18 with rfl | rfl <;> rfl
        have hg : givesT o = 2 := by rcases o18 with rfl | rfl <;> rfl
        rw [ha, hg] at ht
        cases hq : allT 2 l with
        | none => rw [hq] at ht; cases ht
        | some t =>
          rw [hq] at ht
          have h := allT_some hq
          have := h.1 (by decide)
          subst this
          exact ⟨h.2, (Option.some.inj ht).symm⟩
      rw [hv, hk.2]
      refine ⟨fun l' h1 h2 => ?_, fun _ l' h1 h2 => ?_⟩
      · cases h1; exact logic_sound _ _ l _ hvl hk.1 h2
      · cases h1; exact logic_calm _ _ l _ hvl hk.1 h2
    by_cases o21 : o = 21
    · subst o21
      have hv : (ET.mk 21 c d ks).val r = choice (ET.vals r ks) := by simp [ET.val]
      have hodd : (ET.vals r ks).length % 2 = 1 := by
        rw [ET.vals_map, List.length_map]
        simp [kidsOk] at hkids
        omega
      have hk : (∀ t ∈ whensT l, t = 1 ∨ t = 2) ∧ (∀ t ∈ thensT l, t = 1 ∨ t = k) := by
        rw [if_neg (by decide), if_neg (by decide), if_pos rfl] at ht
        cases hq : allT 2 (whensT l) with
        | none => rw [hq] at ht; cases ht
        | some t =>
          rw [hq] at ht
          have h := allT_some hq
          have := h.1 (by decide)
          subst this
          exact ⟨h.2, (allT_some ht).2⟩
      rw [hv]
      refine ⟨fun l' h1 h2 => ?_, fun _ l' h1 h2 => ?_⟩
      · cases h1; exact choice_sound k _ _ l (Nat.le_refl _) hvl hodd hk.1 hk.2 h2
      · cases h1; exact choice_calm k _ _ l (Nat.le_refl _) hvl hodd hk.1 hk.2 h2
    by_cases o22 : o = 22
    · subst o22
      have hv : (ET.mk 22 c d ks).val r = coal (ET.vals r ks) := by simp [ET.val]
      rw [if_neg (by decide), if_pos rfl] at ht
      have hk := (allT_some ht).2
      rw [hv]
      refine ⟨fun l' h1 h2 => ?_, fun _ l' h1 h2 => ?_⟩
      · cases h1; exact coal_sound k _ l hvl hk h2
      · cases h1; exact coal_calm k _ l hvl hk h2
    have hv : (ET.mk o c d ks).val r = restV o (ET.vals r ks) := by
      simp only [ET.val]
      rw [if_neg o1, if_neg o2, if_neg hf, if_neg o18, if_neg o21, if_neg o22]
    rw [hv]
    by_cases hone : o = 3 ∨ o = 10 ∨ o = 17 ∨ o = 20
    · have hl1 : ks.length = 1 := by
        simp only [kidsOk] at hkids
        rw [if_neg (by omega), if_pos hone] at hkids
        simpa using hkids
      obtain ⟨k1, rfl⟩ : ∃ k, ks = [k] := List.length_eq_one_iff.1 hl1
      obtain ⟨t1, rfl⟩ : ∃ t, l = [t] := List.length_eq_one_iff.1 (by rw [hlen]; rfl)
      have hvs : ET.vals r [k1] = [k1.val r] := rfl
      by_cases o20 : o = 20
      · subst o20
        rw [if_pos rfl] at ht
        have hk2 := (Option.some.inj ht).symm
        subst hk2
        refine ⟨fun l' h1 h2 => ?_, fun _ l' h1 h2 => ?_⟩
        · cases h1
          have h := h2 0 _ _ (by rw [hvs]; rfl) rfl
          rw [hvs]
          simp only [restV]
          rcases h.cases with h | ⟨h, h'⟩
          · rw [if_neg (fun g => g h.1), if_pos trivial]; exact .inl (calm_boo _)
          · rw [if_pos h]; exact bad_sound h'
        · cases h1
          have h := h2 0 _ _ (by rw [hvs]; rfl) rfl
          rw [hvs]
          simp only [restV]
          rw [if_neg (fun g => g h.1), if_pos trivial]; exact calm_boo _
      · rw [if_neg o20, if_neg o22, if_neg o21] at ht
        cases hq : allT (asksT o) [t1] with
        | none => rw [hq] at ht; cases ht
        | some t =>
          rw [hq] at ht
          have hk2 := (Option.some.inj ht).symm
          subst hk2
          refine ⟨fun l' h1 h2 => ?_, fun hsf l' h1 h2 => ?_⟩
          · cases h1
            have h := h2 0 _ _ (by rw [hvs]; rfl) rfl
            rw [hvs]
            simp only [restV]
            rcases h.cases with h | ⟨h, h'⟩
            · rw [if_neg (fun g => g h.1), if_neg o20]
              exact told_sound (one_sound (by omega) h.2.1 h.2.2 hq)
            · rw [if_pos h]; exact bad_sound h'
          · cases h1
            have h := h2 0 _ _ (by rw [hvs]; rfl) rfl
            rw [hvs]
            simp only [restV]
            rw [if_neg (fun g => g h.1), if_neg o20]
            exact told_calm (one_calm' (by omega) h.2.1 h.2.2 hq)
    · have hl2 : ks.length = 2 ∧ 0 < o ∧ o < 21 := by
        simp only [kidsOk] at hkids
        rw [if_neg (by omega), if_neg hone, if_neg o21, if_neg o22] at hkids
        simp at hkids
        exact ⟨hkids.2, hkids.1.1, hkids.1.2⟩
      obtain ⟨k1, k2, rfl⟩ : ∃ k1 k2, ks = [k1, k2] := len_two hl2.1
      obtain ⟨t1, t2, rfl⟩ : ∃ t1 t2, l = [t1, t2] := by
        rcases l with _ | ⟨a, _ | ⟨b, _ | ⟨c, t⟩⟩⟩
        · simp at hlen
        · simp at hlen
        · exact ⟨a, b, rfl⟩
        · simp at hlen
      have hvs : ET.vals r [k1, k2] = [k1.val r, k2.val r] := rfl
      rw [if_neg (by omega), if_neg o22, if_neg o21] at ht
      cases hq : allT (asksT o) [t1, t2] with
      | none => rw [hq] at ht; cases ht
      | some t =>
        rw [hq] at ht
        have hk2 := (Option.some.inj ht).symm
        subst hk2
        have h20 : ¬ o = 20 := by omega
        refine ⟨fun l' h1 h2 => ?_, fun hsf l' h1 h2 => ?_⟩
        · cases h1
          have g1 := h2 0 _ _ (by rw [hvs]; rfl) rfl
          have g2 := h2 1 _ _ (by rw [hvs]; rfl) rfl
          rw [hvs]
          simp only [restV]
          rcases g1.cases with h | ⟨h, h'⟩
          · rw [if_neg (fun g => g h.1), if_neg h20]
            rcases g2.cases with q | ⟨q, q'⟩
            · rw [if_neg (fun g => g q.1)]
              exact told_sound (two_sound (by omega) h.2.1 q.2.1 h.2.2 q.2.2 hq)
            · rw [if_pos q]; exact bad_sound q'
          · rw [if_pos h]; exact bad_sound h'
        · cases h1
          have g1 := h2 0 _ _ (by rw [hvs]; rfl) rfl
          have g2 := h2 1 _ _ (by rw [hvs]; rfl) rfl
          rw [hvs]
          simp only [restV]
          rw [if_neg (fun g => g g1.1), if_neg h20, if_neg (fun g => g g2.1)]
          exact told_calm (two_calm (by omega) (by omega) g1.2.1 g2.2.1 g1.2.2 g2.2.2 hq)
end Go.Proofs.YtolikaginhjbhaaDoor
/- What has a type comes to null or to that type: every expression. No program in sight. -/
namespace Go.Proofs.YtolikaginhjbhaaDoor
open Go.RowKit Go.Pen

/-- what has a type, no column too many and no operator that tells whatever error, is of that type; what is safe is so without an error -/
theorem typed_sound (r : List Dat) (hr : ∀ d ∈ r, okD d = true) : ∀ (e : ET) (deep : Nat) (k : Int), e.good okD deep = true → e.within r.length = true → e.fails = false → e.typ (r.map Dat.kind) = some k → Sound k (e.val r) ∧ (e.safe = true → Calm k (e.val r)) := by
  refine ET.ind fun o c d ks ih deep k hg hw hfl ht => ?_
  simp only [ET.good, Bool.and_eq_true, decide_eq_true_eq, ET.goods_iff] at hg
  simp only [ET.within, Bool.and_eq_true, ET.withins_iff, Bool.not_eq_true', Bool.and_eq_false_iff, decide_eq_false_iff_not] at hw
  simp only [ET.fails, Bool.or_eq_false_iff, decide_eq_false_iff_not, failss_iff] at hfl
  have hc : o = 1 → c < r.length := fun e => by
    rcases hw.1 with h | h
    · exact absurd e h
    · omega
  obtain ⟨s1, s2⟩ := step_sound r hr o c d ks k hg.1.1 hc hfl.1 ht
  have hleaf : ∀ l, ET.typs (r.map Dat.kind) ks = some l → (∀ (i : Nat) v t, (ET.vals r ks)[i]? = some v → l[i]? = some t → Sound t v ∧ ((∀ x ∈ ks, x.safe = true) → Calm t v)) := fun l hl i v t hv hlt => by
    obtain ⟨hlen, hget⟩ := typs_get hl
    rw [ET.vals_map, List.getElem?_map] at hv
    cases hk : ks[i]? with
    | none => rw [hk] at hv; cases hv
    | some x =>
      rw [hk] at hv
      cases hv
      obtain ⟨t', g1, g2⟩ := hget i x hk
      rw [hlt] at g1
      cases g1
      have hm := List.mem_of_getElem? hk
      have h := ih x hm (deep + 1) t (hg.2 x hm) (hw.2 x hm) (hfl.2 x hm) g2
      exact ⟨h.1, fun hs => h.2 (hs x hm)⟩
  by_cases hl : ∃ l, ET.typs (r.map Dat.kind) ks = some l
  · obtain ⟨l, hl⟩ := hl
    refine ⟨s1 l hl fun i v t a b => (hleaf l hl i v t a b).1, fun hs => ?_⟩
    simp only [ET.safe, Bool.and_eq_true, Bool.not_eq_true', Bool.and_eq_false_iff, decide_eq_false_iff_not, safes_iff] at hs
    exact s2 (by omega) l hl fun i v t a b => (hleaf l hl i v t a b).2 hs.2
  · exfalso
    have hn : ET.typs (r.map Dat.kind) ks = none := by
      cases h : ET.typs (r.map Dat.kind) ks with
      | none => rfl
      | some l => exact absurd ⟨l, h⟩ hl
    have hko := own_kids hg.1.1
    have hks : o = 1 ∨ o = 2 → ks = [] := fun h => by
      have : ks.length = 0 := by
        unfold kidsOk at hko
        rw [if_pos (by omega)] at hko
        simpa using hko
      exact List.eq_nil_of_length_eq_zero this
    by_cases h12 : o = 1 ∨ o = 2
    · rw [hks h12] at hn
      cases hn
    · simp only [ET.typ] at ht
      rw [if_neg (by omega), if_neg (by omega), if_neg hfl.1, hn] at ht
      cases ht

/-- the errors that an expression tells without the operator that tells whatever error -/
def Err (n : Nat) : Prop := n = 0 ∨ n = 10 ∨ n = 11 ∨ n = 12 ∨ n = 31
def Err' (n : Nat) : Prop := n = 0 ∨ n = 10 ∨ n = 11 ∨ n = 12 ∨ n = 13
theorem err_told {r : Res} (h : Err' r.2) : Err (told r).2 := by
  unfold told
  split
  · next e => exact .inl e
  · next e =>
    split
    · exact .inr (.inr (.inr (.inr rfl)))
    · show Err r.2
      unfold Err' at h; unfold Err; omega
theorem err_both {k : Int} {a b : Dat} {r : Res} (h : Err' r.2) : Err' (both k a b r).2 := by
  unfold both
  split
  · exact .inr (.inr (.inr (.inr rfl)))
  · split
    · exact .inl rfl
    · exact h
theorem err_sole {k : Int} {a : Dat} {r : Res} (h : Err' r.2) : Err' (sole k a r).2 := by
  unfold sole
  split
  · exact .inr (.inr (.inr (.inr rfl)))
  · split
    · exact .inl rfl
    · exact h
theorem err_ov (n : Int) : Err' (ov n).2 := by
  unfold ov
  split
  · exact .inl rfl
  · exact .inr (.inl rfl)
theorem err_one (o : Int) (a : Dat) : Err' (oneD o a).2 := by
  unfold oneD
  split
  · exact err_sole (err_ov _)
  · split
    · exact err_sole (.inl rfl)
    · exact err_sole (.inl rfl)
theorem err_two (o : Int) (a b : Dat) : Err' (twoD o a b).2 := by
  unfold twoD
  split
  · exact err_both (err_ov _)
  split
  · exact err_both (err_ov _)
  split
  · exact err_both (err_ov _)
  split
  · refine err_both (r := if b.int = 0 then bad 11 else ov (Int.tdiv a.int b.int)) ?_
    split
    · exact .inr (.inr (.inl rfl))
    · exact err_ov _
  split
  · refine err_both (r := if b.int = 0 then bad 11 else (num (Int.tmod a.int b.int), 0)) ?_
    split
    · exact .inr (.inr (.inl rfl))
    · exact .inl rfl
  split
  · unfold catD
    refine err_both ?_
    split
    · exact .inr (.inr (.inr (.inl rfl)))
    · exact .inl rfl
  · unfold compD
    split
    · exact .inr (.inr (.inr (.inr rfl)))
    split
    · exact .inl rfl
    split
    · exact .inr (.inr (.inr (.inr rfl)))
    · exact .inl rfl
theorem err_truth {v : Res} (h : Err v.2) : Err (truth v).1 := by
  unfold truth
  split
  · exact h
  · split
    · exact .inr (.inr (.inr (.inr rfl)))
    · exact .inl rfl
theorem err_logic (stop : Bool) : ∀ (so : Bool) (vs : List Res), (∀ v ∈ vs, Err v.2) → Err (logic stop so vs).2
  | so, [], _ => by
    simp only [logic]
    split
    · exact .inl rfl
    · exact .inl rfl
  | so, v :: vs, h => by
    simp only [logic]
    split
    · exact err_truth (h v (by simp))
    · split
      · exact .inl rfl
      · exact err_logic stop _ vs fun x hx => h x (by simp [hx])
theorem err_choice : ∀ (vs : List Res), (∀ v ∈ vs, Err v.2) → Err (choice vs).2
  | [], _ => .inl rfl
  | [v], h => h v (by simp)
  | c :: v :: vs, h => by
    simp only [choice]
    split
    · exact err_truth (h c (by simp))
    · split
      · exact h v (by simp)
      · exact err_choice vs fun x hx => h x (by simp [hx])
theorem err_coal : ∀ (vs : List Res), (∀ v ∈ vs, Err v.2) → Err (coal vs).2
  | [], _ => .inl rfl
  | v :: vs, h => by
    simp only [coal]
    split
    · exact h v (by simp)
    · exact err_coal vs fun x hx => h x (by simp [hx])
theorem err_rest (o : Int) : ∀ (vs : List Res), (∀ v ∈ vs, Err v.2) → Err (restV o vs).2
  | [], _ => .inl rfl
  | [a], h => by
    simp only [restV]
    split
    · exact h a (by simp)
    · split
      · exact .inl rfl
      · exact err_told (err_one _ _)
  | a :: b :: vs, h => by
    simp only [restV]
    split
    · exact h a (by simp)
    · split
      · exact .inl rfl
      · split
        · exact h b (by simp)
        · exact err_told (err_two _ _ _)
theorem val_err (r : List Dat) : ∀ (e : ET), e.fails = false → Err (e.val r).2 := by
  refine ET.ind fun o c d ks ih hfl => ?_
  simp only [ET.fails, Bool.or_eq_false_iff, decide_eq_false_iff_not, failss_iff] at hfl
  have hvs : ∀ v ∈ ET.vals r ks, Err v.2 := fun v hv => by
    rw [ET.vals_map] at hv
    obtain ⟨k, hk, rfl⟩ := List.mem_map.1 hv
    exact ih k hk (hfl.2 k hk)
  simp only [ET.val]
  split
  · exact .inl rfl
  split
  · exact .inl rfl
  split
  · next h => exact absurd h hfl.1
  split
  · exact err_logic _ _ _ hvs
  split
  · exact err_choice _ hvs
  split
  · exact err_coal _ hvs
  · exact err_rest _ _ hvs

/-- what Type answers: a kind and an error -/
def typeR (r : List Dat) (e : ET) : Int × Nat := if e.may okD = true ∧ e.within r.length = true then (match e.typ (r.map Dat.kind) with
  | none => (0, 31)
  | some k => (k, 0)) else (0, 30)
/-- what Safe answers -/
def safeR (e : ET) : Bool := e.may okD && e.safe
/-- the law: function 4 -/
theorem typed_law {r : List Dat} {e : ET} (hr : ∀ d ∈ r, okD d = true) (hf : e.fails = false) :
    if (typeR r e).2 = 30 then (evalR r e).2 = 30 else if (typeR r e).2 = 31 then (evalR r e).2 ≠ 30
      else (evalR r e).2 ≠ 30 ∧ (evalR r e).2 ≠ 31 ∧ ¬ (safeR e = true ∧ (evalR r e).2 ≠ 0) ∧ ((evalR r e).2 ≠ 0 ∨ (evalR r e).1.kind = 1 ∨ (evalR r e).1.kind = (typeR r e).1) := by
  unfold typeR evalR
  by_cases h : e.may okD = true ∧ e.within r.length = true
  · rw [if_pos h, if_pos h]
    have he := val_err r e hf
    have hv : (if (e.val r).2 = 0 then e.val r else bad (e.val r).2).2 = (e.val r).2 := by split <;> rfl
    cases ht : e.typ (r.map Dat.kind) with
    | none =>
      simp only [hv]
      unfold Err at he
      simp only [show ¬ (31 : Nat) = 30 by decide, if_false, if_true]
      omega
    | some k =>
      simp only [hv, show ¬ (0 : Nat) = 30 by decide, show ¬ (0 : Nat) = 31 by decide, if_false]
      obtain ⟨hs, hc⟩ := typed_sound r hr e 1 k (ET.may_good h.1) h.2 hf ht
      refine ⟨by unfold Err at he; omega, ?_, ?_, ?_⟩
      · rcases hs with g | g | g | g
        · rw [g.1]; decide
        · rw [g]; decide
        · rw [g]; decide
        · rw [g]; decide
      · intro ⟨g1, g2⟩
        simp only [safeR, Bool.and_eq_true] at g1
        exact g2 (hc g1.2).1
      · rcases hs with g | g
        · right; rw [if_pos g.1]; exact g.2.2
        · left; omega
  · rw [if_neg h, if_neg h]
    simp [bad]
end Go.Proofs.YtolikaginhjbhaaDoor
