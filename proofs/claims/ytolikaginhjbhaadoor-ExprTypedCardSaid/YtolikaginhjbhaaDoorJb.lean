import Derived.Test.YtolikaginhjbhaaDoorJa
/- An expression with other columns, over a row. No program in sight. -/
namespace Go.Proofs.YtolikaginhjbhaaDoor
open Go.RowKit Go.Pen

mutual
theorem ET.turn_size (cols : List Int) : ∀ e : ET, (e.turn cols).size = e.size
  | .mk o c d ks => by simp only [ET.turn, ET.size, ET.turns_size cols ks]
theorem ET.turns_size (cols : List Int) : ∀ ks : List ET, ET.sizes (ET.turns cols ks) = ET.sizes ks
  | [] => rfl
  | k :: ks => by simp only [ET.turns, ET.sizes, ET.turn_size cols k, ET.turns_size cols ks]
end

theorem own_turn {o c : Int} {d : Dat} {ks : List ET} {cols : List Int} (h : ET.own okD (.mk o c d ks) = true) (ht : o = 1 → 0 ≤ cols.getD c.toNat 0 ∧ cols.getD c.toNat 0 ≤ 9999) : ET.own okD (.mk o (if o = 1 then cols.getD c.toNat 0 else c) d (ET.turns cols ks)) = true := by
  by_cases e : o = 1
  · subst e
    have hq := ht rfl
    simp only [ET.own, ET.op, ET.col, ET.lit, ET.kids, ET.turns_len, Bool.and_eq_true] at h ⊢
    refine ⟨⟨h.1.1, ?_⟩, h.2⟩
    simp only [if_true, decide_eq_true_eq]
    exact hq
  · have e' : (o = 1) = False := by simp [e]
    simp only [ET.own, ET.op, ET.col, ET.lit, ET.kids, ET.turns_len, Bool.and_eq_true, e', if_false] at h ⊢
    exact h

theorem good_turn (cols : List Int) : ∀ (e : ET) (deep : Nat), e.good okD deep = true → e.tok cols = true → (e.turn cols).good okD deep = true := by
  refine ET.ind fun o c d ks ih deep hg ht => ?_
  simp only [ET.good, Bool.and_eq_true, decide_eq_true_eq, ET.goods_iff] at hg
  simp only [ET.tok, Bool.and_eq_true, ET.toks_iff, Bool.or_eq_true, Bool.not_eq_true', decide_eq_false_iff_not, decide_eq_true_eq] at ht
  simp only [ET.turn, ET.good, Bool.and_eq_true, decide_eq_true_eq, ET.goods_iff]
  refine ⟨⟨own_turn hg.1.1 fun e => ?_, hg.1.2⟩, fun k hk => ?_⟩
  · rcases ht.1 with h | h
    · exact absurd e h
    · exact h
  · rw [ET.turns_map] at hk
    obtain ⟨k', hk', rfl⟩ := List.mem_map.1 hk
    exact ih k' hk' (deep + 1) (hg.2 k' hk') (ht.2 k' hk')
theorem may_turn {cols : List Int} {e : ET} (h : e.may okD = true) (ht : e.tok cols = true) : (e.turn cols).may okD = true := by
  simp only [ET.may, Bool.and_eq_true, decide_eq_true_eq] at h ⊢
  exact ⟨good_turn cols e 1 h.1 ht, by rw [ET.turn_size]; exact h.2⟩

theorem cols_at {n : Nat} {cols : List Int} {c : Int} (ha : cols.all (inRow n) = true) (h0 : 0 ≤ c) (h1 : c < cols.length) : ∃ x, cols[c.toNat]? = some x ∧ cols.getD c.toNat 0 = x ∧ 0 ≤ x ∧ x < n := by
  obtain ⟨x, hx⟩ : ∃ x, cols[c.toNat]? = some x := ⟨cols[c.toNat]'(by omega), List.getElem?_eq_getElem _⟩
  have h := List.all_eq_true.1 ha x (List.mem_of_getElem? hx)
  simp only [inRow, Bool.and_eq_true, decide_eq_true_eq] at h
  exact ⟨x, hx, by rw [List.getD_eq_getElem?_getD, hx]; rfl, h⟩

theorem within_turn {n : Nat} {cols : List Int} (ha : cols.all (inRow n) = true) : ∀ (e : ET) (deep : Nat), e.good okD deep = true → e.within cols.length = true → (e.turn cols).within n = true := by
  refine ET.ind fun o c d ks ih deep hg hw => ?_
  simp only [ET.good, Bool.and_eq_true, decide_eq_true_eq, ET.goods_iff] at hg
  simp only [ET.within, Bool.and_eq_true, ET.withins_iff, Bool.not_eq_true', Bool.and_eq_false_iff, decide_eq_false_iff_not] at hw
  simp only [ET.turn, ET.within, Bool.and_eq_true, ET.withins_iff, Bool.not_eq_true', Bool.and_eq_false_iff, decide_eq_false_iff_not]
  refine ⟨?_, fun k hk => ?_⟩
  · by_cases e : o = 1
    · right
      subst e
      have hc0 := own_col_nn hg.1.1
      have hc1 : c < cols.length := by
        rcases hw.1 with h | h
        · exact absurd rfl h
        · omega
      obtain ⟨x, -, hx, h0, h1⟩ := cols_at ha hc0 hc1
      rw [if_pos rfl, hx]
      omega
    · left; exact e
  · rw [ET.turns_map] at hk
    obtain ⟨k', hk', rfl⟩ := List.mem_map.1 hk
    exact ih k' hk' (deep + 1) (hg.2 k' hk') (hw.2 k' hk')

/-- the value over the row, with other columns; over the picked row -/
theorem val_turn {r : List Dat} {cols : List Int} (ha : cols.all (inRow r.length) = true) : ∀ (e : ET) (deep : Nat), e.good okD deep = true → e.within cols.length = true → (e.turn cols).val r = e.val (pick r cols) := by
  refine ET.ind fun o c d ks ih deep hg hw => ?_
  simp only [ET.good, Bool.and_eq_true, decide_eq_true_eq, ET.goods_iff] at hg
  simp only [ET.within, Bool.and_eq_true, ET.withins_iff, Bool.not_eq_true', Bool.and_eq_false_iff, decide_eq_false_iff_not] at hw
  have hvs : ET.vals r (ET.turns cols ks) = ET.vals (pick r cols) ks := by
    rw [ET.vals_map, ET.vals_map, ET.turns_map, List.map_map]
    exact List.map_congr_left fun k hk => ih k hk (deep + 1) (hg.2 k hk) (hw.2 k hk)
  simp only [ET.turn, ET.val, hvs]
  by_cases e : o = 1
  · subst e
    have hc0 := own_col_nn hg.1.1
    have hc1 : c < cols.length := by
      rcases hw.1 with h | h
      · exact absurd rfl h
      · omega
    obtain ⟨x, hxx, hx, h0, h1⟩ := cols_at ha hc0 hc1
    simp only [if_true]
    rw [hx]
    have : (pick r cols).getD c.toNat Dat.zero = r.getD x.toNat Dat.zero := by
      rw [List.getD_eq_getElem?_getD, pick, List.getElem?_map, hxx]
      rfl
    rw [this]
  · simp only [if_neg e]

theorem allBelow_len (n : Nat) : (allBelow n).length = n := by simp [allBelow]
theorem allBelow_at {n : Nat} {c : Int} (h0 : 0 ≤ c) (h1 : c < n) : (allBelow n).getD c.toNat 0 = c := by
  rw [List.getD_eq_getElem?_getD, allBelow, List.getElem?_map, List.getElem?_range (by omega)]
  simp; omega

/-- with its own columns it is itself -/
theorem turn_all {n : Nat} : ∀ (e : ET) (deep : Nat), e.good okD deep = true → e.within n = true → e.turn (allBelow n) = e ∧ e.tok (allBelow n) = true := by
  refine ET.ind fun o c d ks ih deep hg hw => ?_
  have hown := hg
  simp only [ET.good, Bool.and_eq_true, decide_eq_true_eq, ET.goods_iff] at hg
  simp only [ET.within, Bool.and_eq_true, ET.withins_iff, Bool.not_eq_true', Bool.and_eq_false_iff, decide_eq_false_iff_not] at hw
  have hks : ET.turns (allBelow n) ks = ks := by
    rw [ET.turns_map]
    conv => rhs; rw [← List.map_id ks]
    exact List.map_congr_left fun k hk => (ih k hk (deep + 1) (hg.2 k hk) (hw.2 k hk)).1
  have hcol : o = 1 → (allBelow n).getD c.toNat 0 = c ∧ 0 ≤ c ∧ c ≤ 9999 := fun e => by
    subst e
    have hc0 := (own_mk hg.1.1).2.1 rfl
    have hc1 : c < n := by
      rcases hw.1 with h | h
      · exact absurd rfl h
      · omega
    exact ⟨allBelow_at hc0.1 hc1, hc0⟩
  refine ⟨?_, ?_⟩
  · simp only [ET.turn, hks]
    by_cases e : o = 1
    · rw [if_pos e, (hcol e).1]
    · rw [if_neg e]
  · simp only [ET.tok, Bool.and_eq_true, ET.toks_iff, Bool.or_eq_true, Bool.not_eq_true', decide_eq_false_iff_not, decide_eq_true_eq]
    refine ⟨?_, fun k hk => (ih k hk (deep + 1) (hg.2 k hk) (hw.2 k hk)).2⟩
    by_cases e : o = 1
    · right; rw [(hcol e).1]; exact (hcol e).2
    · left; exact e

/-- ExprPicked's plain law -/
theorem picked_law {r : List Dat} {cols : List Int} {e : ET} (hp : pickOk r.length cols = true) (ht : rTurnN cols e = 0) :
    rTurn cols e = e.turn cols ∧ evalR r (e.turn cols) = evalR (pick r cols) e ∧ rTurn (allBelow r.length) (e.turn cols) = e.turn cols ∧ rTurnN (allBelow r.length) (e.turn cols) = 0 := by
  have hy : e.may okD = true ∧ e.within cols.length = true ∧ e.tok cols = true := by
    by_cases h : e.may okD = true ∧ e.within cols.length = true ∧ e.tok cols = true
    · exact h
    · rw [(rTurn_no h).2] at ht; cases ht
  simp only [pickOk, Bool.and_eq_true] at hp
  have hg := ET.may_good hy.1
  have hm := may_turn hy.1 hy.2.2
  have hw := within_turn hp.2 e 1 hg hy.2.1
  have hgt := ET.may_good hm
  have hall := turn_all (e.turn cols) 1 hgt hw
  have hy2 : (e.turn cols).may okD = true ∧ (e.turn cols).within (allBelow r.length).length = true ∧ (e.turn cols).tok (allBelow r.length) = true := ⟨hm, by rw [allBelow_len]; exact hw, hall.2⟩
  refine ⟨(rTurn_yes hy).1, ?_, by rw [(rTurn_yes hy2).1, hall.1], (rTurn_yes hy2).2⟩
  unfold evalR
  have hl : (pick r cols).length = cols.length := by simp [pick]
  have hy3 : e.may okD = true ∧ e.within ((pick r cols).length : Nat) = true := ⟨hy.1, by rw [hl]; exact hy.2.1⟩
  rw [if_pos ⟨hm, hw⟩, val_turn hp.2 e 1 hg hy.2.1, if_pos hy3]
end Go.Proofs.YtolikaginhjbhaaDoor
