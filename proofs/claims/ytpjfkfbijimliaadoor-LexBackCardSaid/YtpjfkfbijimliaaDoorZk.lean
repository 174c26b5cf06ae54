/- The lexer on texts that are cut and put together: plain laws. -/
import Derived.Test.YtpjfkfbijimliaaDoorZa
namespace Go.Proofs.YtpjfkfbijimliaaDoor
open Go.RowKit Go.Pen

/-- what stands behind a token may be this in place of that -/
def Fol (r r' : Bytes) : Prop :=
  r'.head? = r.head? ∨ r' = [] ∨ (∃ c, r'.head? = some c ∧ blk c = true) ∨ (∃ c d, r'.head? = some c ∧ r.head? = some d ∧ let_ c = true ∧ let_ d = true)

theorem Fol.refl (r : Bytes) : Fol r r := .inl rfl

theorem byte_all {p : UInt8 → Prop} [DecidablePred p] (h : ∀ n : Fin 256, p (UInt8.ofNat n.val)) (c : UInt8) : p c := by
  have h2 := h ⟨c.toNat, c.toNat_lt⟩
  simp only [UInt8.ofNat_toNat] at h2
  exact h2

set_option maxRecDepth 100000 in
theorem blk_facts (c : UInt8) : blk c = true → dig c = false ∧ ldg c = false ∧ let_ c = false ∧ c.toNat ≠ 39 ∧ c.toNat ≠ 62 ∧ c.toNat ≠ 61 ∧ c.toNat ≠ 124 ∧ c.toNat ≠ 45 :=
  byte_all (p := fun c => blk c = true → dig c = false ∧ ldg c = false ∧ let_ c = false ∧ c.toNat ≠ 39 ∧ c.toNat ≠ 62 ∧ c.toNat ≠ 61 ∧ c.toNat ≠ 124 ∧ c.toNat ≠ 45) (by decide) c

set_option maxRecDepth 100000 in
theorem let_facts (c : UInt8) : let_ c = true → dig c = false ∧ blk c = false ∧ c.toNat ≠ 39 ∧ c.toNat ≠ 62 ∧ c.toNat ≠ 61 ∧ c.toNat ≠ 124 ∧ c.toNat ≠ 45 :=
  byte_all (p := fun c => let_ c = true → dig c = false ∧ blk c = false ∧ c.toNat ≠ 39 ∧ c.toNat ≠ 62 ∧ c.toNat ≠ 61 ∧ c.toNat ≠ 124 ∧ c.toNat ≠ 45) (by decide) c

theorem fol_not {p : UInt8 → Bool} (hb : ∀ c, blk c = true → p c = false) (hl : (∀ c, let_ c = true → p c = false) ∨ (∀ c, let_ c = true → p c = true)) {r r' : Bytes} (h : Fol r r')
    (hr : ∀ c, r.head? = some c → p c = false) : ∀ c, r'.head? = some c → p c = false := by
  intro c hc
  rcases h with h | h | ⟨d, h, hd⟩ | ⟨d, e, h, he, hd, he'⟩
  · exact hr c (h ▸ hc)
  · subst h; cases hc
  · rw [h] at hc; cases hc; exact hb _ hd
  · rw [h] at hc; cases hc
    rcases hl with hl | hl
    · exact hl _ hd
    · have := hr e he; rw [hl e he'] at this; cases this

theorem tw_stop {p : UInt8 → Bool} : ∀ {l : Bytes}, ∀ c, (l.drop (l.takeWhile p).length).head? = some c → p c = false
  | [], c, h => by simp at h
  | x :: xs, c, h => by
    rw [List.takeWhile_cons] at h
    split at h
    · exact tw_stop c (by simpa using h)
    · rename_i hx
      simp at h
      subst h
      simpa using hx

theorem tw_cut {p : UInt8 → Bool} {l r' : Bytes} (hr : ∀ c, r'.head? = some c → p c = false) : (l.take (l.takeWhile p).length ++ r').takeWhile p = l.takeWhile p := by
  rw [takeWhile_take rfl, List.takeWhile_append_of_pos (tw_all p l)]
  have : r'.takeWhile p = [] := by
    cases r' with
    | nil => rfl
    | cons x xs => rw [List.takeWhile_cons, hr x rfl]; rfl
  rw [this, List.append_nil]

theorem txt_mono : ∀ {f f' : Nat} {l t : Bytes} {n : Nat}, txt f l = some (t, n) → n ≤ f' → txt f' l = some (t, n)
  | 0, _, _, _, _, h, _ => by cases h
  | f + 1, 0, _, _, _, h, h' => by have := txt_le h; omega
  | f + 1, f' + 1, [], _, _, h, _ => by cases h
  | f + 1, f' + 1, c :: cs, t, n, h, hf => by
    rw [txt] at h ⊢
    split at h
    · rename_i h1
      rw [if_pos h1]
      split at h
      · rename_i h2
        rw [if_pos h2]
        obtain ⟨⟨t', n'⟩, h3, h4⟩ := Option.map_eq_some_iff.1 h
        have h5 : n' + 2 = n := congrArg Prod.snd h4
        rw [txt_mono h3 (by omega), Option.map_some, h4]
      · rename_i h2; rw [if_neg h2]; exact h
    · rename_i h1
      rw [if_neg h1]
      split at h
      · rename_i h2
        rw [if_pos h2]
        split at h
        · cases h
        · rename_i b k h3
          obtain ⟨⟨t', n'⟩, h4, h5⟩ := Option.map_eq_some_iff.1 h
          have h6 : n' + 1 + k = n := congrArg Prod.snd h5
          rw [txt_mono h4 (by omega), Option.map_some, h5]
      · rename_i h2
        rw [if_neg h2]
        obtain ⟨⟨t', n'⟩, h4, h5⟩ := Option.map_eq_some_iff.1 h
        have h6 : n' + 1 = n := congrArg Prod.snd h5
        rw [txt_mono h4 (by omega), Option.map_some, h5]

theorem esc_cut {l : Bytes} {b : UInt8} {k j : Nat} (r' : Bytes) (h : esc l = some (b, k)) (hj : k ≤ j) : esc (l.take j ++ r') = some (b, k) := by
  have hk := esc_le h
  cases l with
  | nil => cases h
  | cons c cs =>
    obtain ⟨j, rfl⟩ : ∃ i, j = i + 1 := ⟨j - 1, by omega⟩
    rw [List.take_succ_cons, List.cons_append]
    unfold esc at h ⊢
    simp only [] at h ⊢
    cases he : esc1 c with
    | some x => rw [he] at h; exact h
    | none =>
      rw [he] at h
      simp only [] at h ⊢
      split at h
      · rename_i h1
        rw [if_pos h1]
        cases cs with
        | nil => cases h
        | cons x xs =>
          cases xs with
          | nil => cases h
          | cons y ys =>
            simp only [] at h
            split at h
            · rename_i h2
              cases h
              obtain ⟨j, rfl⟩ : ∃ i, j = i + 2 := ⟨j - 2, by omega⟩
              simp only [List.take_succ_cons, List.cons_append]
              rw [if_pos h2]
            · cases h
      · cases h

theorem txt_cut : ∀ {f : Nat} {l t r' : Bytes} {n : Nat}, txt f l = some (t, n) → r'.head? ≠ some 39 → txt f (l.take n ++ r') = some (t, n)
  | 0, _, _, _, _, h, _ => by cases h
  | f + 1, [], _, _, _, h, _ => by cases h
  | f + 1, c :: cs, t, r', n, h, hr => by
    have hn := txt_le h
    rw [txt] at h
    split at h
    · rename_i h1
      split at h
      · rename_i h2
        obtain ⟨⟨t', n'⟩, h3, h4⟩ := Option.map_eq_some_iff.1 h
        simp only [Prod.mk.injEq] at h4
        obtain ⟨h4, h5⟩ := h4
        cases cs with
        | nil => simp at h2
        | cons d ds =>
          rw [← h5, List.take_succ_cons, List.take_succ_cons, List.cons_append, List.cons_append, txt, if_pos h1, if_pos (by simpa using h2), List.tail_cons, txt_cut (by simpa using h3) hr, Option.map_some, ← h4]
      · rename_i h2
        cases h
        rw [List.take_succ_cons, List.take_zero, List.cons_append, List.nil_append, txt, if_pos h1, if_neg hr]
    · rename_i h1
      split at h
      · rename_i h2
        split at h
        · cases h
        · rename_i b k h3
          obtain ⟨⟨t', n'⟩, h4, h5⟩ := Option.map_eq_some_iff.1 h
          simp only [Prod.mk.injEq] at h5
          obtain ⟨h5, h6⟩ := h5
          have hk := esc_le h3
          have e : n = (k + n') + 1 := by omega
          have e2 : (List.take (k + n') cs ++ r').drop k = (cs.drop k).take n' ++ r' := by
            rw [List.drop_append_of_le_length (by rw [List.length_take]; omega), List.drop_take, Nat.add_sub_cancel_left]
          rw [e, List.take_succ_cons, List.cons_append, txt, if_neg h1, if_pos h2, esc_cut r' h3 (by omega)]
          simp only []
          rw [e2, txt_cut h4 hr, Option.map_some]
          simp only [Option.some.injEq, Prod.mk.injEq]
          exact ⟨h5, by omega⟩
      · rename_i h2
        obtain ⟨⟨t', n'⟩, h4, h5⟩ := Option.map_eq_some_iff.1 h
        simp only [Prod.mk.injEq] at h5
        obtain ⟨h5, h6⟩ := h5
        rw [← h6, List.take_succ_cons, List.cons_append, txt, if_neg h1, if_neg h2, txt_cut h4 hr, Option.map_some]
        simp only [h5]

theorem txt_stop : ∀ {f : Nat} {l t : Bytes} {n : Nat}, txt f l = some (t, n) → (l.drop n).head? ≠ some 39
  | 0, _, _, _, h => by cases h
  | f + 1, [], _, _, h => by cases h
  | f + 1, c :: cs, t, n, h => by
    rw [txt] at h
    split at h
    · split at h
      · obtain ⟨⟨t', n'⟩, h3, h4⟩ := Option.map_eq_some_iff.1 h
        have h5 : n' + 2 = n := congrArg Prod.snd h4
        have := txt_stop h3
        rw [← h5, List.drop_succ_cons, Nat.add_comm n' 1, ← List.drop_drop, List.drop_one]
        exact this
      · rename_i h2
        cases h
        rw [List.drop_succ_cons, List.drop_zero]
        exact h2
    · split at h
      · split at h
        · cases h
        · rename_i b k h3
          obtain ⟨⟨t', n'⟩, h4, h5⟩ := Option.map_eq_some_iff.1 h
          have h6 : n' + 1 + k = n := congrArg Prod.snd h5
          have := txt_stop h4
          rw [List.drop_drop] at this
          have e : n = (k + n') + 1 := by omega
          rw [e, List.drop_succ_cons]
          exact this
      · obtain ⟨⟨t', n'⟩, h4, h5⟩ := Option.map_eq_some_iff.1 h
        have h6 : n' + 1 = n := congrArg Prod.snd h5
        rw [← h6, List.drop_succ_cons]
        exact txt_stop h4

theorem txr_cut {l t r' : Bytes} {n : Nat} (h : txr l = .ok (t, n)) (hr : r'.head? ≠ some 39) : txr (l.take n ++ r') = .ok (t, n) := by
  rw [txr] at h
  split at h
  · cases h
  · rename_i t2 n2 ht
    have hle := txt_le ht
    split at h
    · cases h
    · rename_i h1
      split at h
      · cases h
      · rename_i h2
        cases h
        have h3 := txt_cut ht hr
        have h4 := txt_mono h3 (txt_le h3).2.1
        rw [txr, h4]
        simp only []
        rw [if_neg h1, if_neg h2]

theorem sgn_mem {l : Bytes} (h : sgn l ≠ []) : sgn l ∈ sgs := by
  unfold sgn at h ⊢
  cases hf : sgs.find? fun x => x.isPrefixOf l with
  | none => rw [hf] at h; exact absurd rfl h
  | some x => exact List.mem_of_find?_eq_some hf

theorem sgn_60 (r : Bytes) : sgn (60 :: r) = if r.head? = some 62 then [60, 62] else if r.head? = some 61 then [60, 61] else [60] := by
  cases r with
  | nil => rfl
  | cons d ds =>
    by_cases h1 : d = 62
    · subst h1; rfl
    · by_cases h2 : d = 61
      · subst h2; rfl
      · have e1 : ((62 : UInt8) == d) = false := by rw [beq_eq_false_iff_ne]; exact fun e => h1 e.symm
        have e2 : ((61 : UInt8) == d) = false := by rw [beq_eq_false_iff_ne]; exact fun e => h2 e.symm
        simp [sgn, sgs, List.find?, List.isPrefixOf, e1, e2, h1, h2]

theorem sgn_62 (r : Bytes) : sgn (62 :: r) = if r.head? = some 61 then [62, 61] else [62] := by
  cases r with
  | nil => rfl
  | cons d ds =>
    by_cases h2 : d = 61
    · subst h2; rfl
    · have e2 : ((61 : UInt8) == d) = false := by rw [beq_eq_false_iff_ne]; exact fun e => h2 e.symm
      simp [sgn, sgs, List.find?, List.isPrefixOf, e2, h2]

theorem fol_ne {r r' : Bytes} {d : UInt8} (hf : Fol r r') (hb : blk d = false) (hl : let_ d = false) (h : r.head? ≠ some d) : r'.head? ≠ some d := by
  rcases hf with h' | h' | ⟨c, h', hc⟩ | ⟨c, e, h', he, hc, he'⟩
  · rw [h']; exact h
  · subst h'; simp
  · rw [h']; intro e; cases e; rw [hb] at hc; cases hc
  · rw [h']; intro e; cases e; rw [hl] at hc; cases hc

theorem sgn_cut {l r' : Bytes} (h : sgn l ≠ []) (hf : Fol (l.drop (sgn l).length) r') : sgn (sgn l ++ r') = sgn l := by
  have hm := sgn_mem h
  have hp := sgn_prefix l
  generalize hx : sgn l = x at hm hp hf ⊢
  obtain ⟨r, rfl⟩ := hp
  rw [List.drop_left] at hf
  simp only [sgs, List.mem_cons, List.not_mem_nil, or_false] at hm
  rcases hm with rfl | rfl | rfl | rfl | rfl | rfl | rfl | rfl | rfl | rfl | rfl | rfl | rfl | rfl | rfl | rfl | rfl
  case inr.inr.inr.inr.inr.inr.inr.inr.inr.inr.inl =>
    have e1 : sgn (60 :: r) = [60] := hx
    rw [sgn_60] at e1
    show sgn (60 :: r') = [60]
    rw [sgn_60]
    have n1 : r.head? ≠ some 62 := fun e => by rw [if_pos e] at e1; cases e1
    rw [if_neg n1] at e1
    have n2 : r.head? ≠ some 61 := fun e => by rw [if_pos e] at e1; cases e1
    rw [if_neg (fol_ne hf (by decide) (by decide) n1), if_neg (fol_ne hf (by decide) (by decide) n2)]
  case inr.inr.inr.inr.inr.inr.inr.inr.inr.inr.inr.inl =>
    have e1 : sgn (62 :: r) = [62] := hx
    rw [sgn_62] at e1
    show sgn (62 :: r') = [62]
    rw [sgn_62]
    have n2 : r.head? ≠ some 61 := fun e => by rw [if_pos e] at e1; cases e1
    rw [if_neg (fol_ne hf (by decide) (by decide) n2)]
  all_goals rfl

theorem tok_cut {k m : Nat} {l r' : Bytes} {t : Tok} (hb : beg l = true) (h : tok k l = .ok (t, m)) (hf : Fol (l.drop m) r') : tok k (l.take m ++ r') = .ok (t, m) ∧ beg (l.take m ++ r') = true := by
  obtain ⟨h1, h2, -⟩ := tok_le hb h
  cases l with
  | nil => cases hb
  | cons c cs =>
    rw [tok] at h
    split at h
    · rename_i hd
      split at h
      · rename_i hn
        cases h
        have hw := tw_cut (p := dig) (l := c :: cs) (r' := r') (fol_not (fun c hc => (blk_facts c hc).1) (.inl fun c hc => (let_facts c hc).1) hf tw_stop)
        generalize hL : (c :: cs).take ((c :: cs).takeWhile dig).length ++ r' = L at hw ⊢
        obtain ⟨m, hm⟩ : ∃ m, ((c :: cs).takeWhile dig).length = m + 1 := ⟨_, (Nat.succ_pred_eq_of_pos h1).symm⟩
        rw [hm, List.take_succ_cons, List.cons_append] at hL
        subst hL
        rw [tok, if_pos hd, hw, if_pos hn]
        exact ⟨rfl, by rw [beg, hd]; simp⟩
      · cases h
    · rename_i hd
      split at h
      · rename_i hl
        split at h
        · cases h
        · rename_i hn
          cases h
          have hw := tw_cut (p := ldg) (l := c :: cs) (r' := r') (fol_not (fun c hc => (blk_facts c hc).2.1) (.inr fun c hc => by simp [ldg, hc]) hf tw_stop)
          generalize hL : (c :: cs).take ((c :: cs).takeWhile ldg).length ++ r' = L at hw ⊢
          obtain ⟨m, hm⟩ : ∃ m, ((c :: cs).takeWhile ldg).length = m + 1 := ⟨_, (Nat.succ_pred_eq_of_pos h1).symm⟩
          rw [hm, List.take_succ_cons, List.cons_append] at hL
          subst hL
          rw [tok, if_neg hd, if_pos hl, hw, if_neg hn]
          exact ⟨rfl, by rw [beg, hl]; simp⟩
      · rename_i hl
        split at h
        · rename_i h39
          split at h
          · cases h
          · rename_i t2 n2 hx
            cases h
            rw [List.drop_succ_cons] at hf
            have h3 : r'.head? ≠ some 39 := by
              rw [txr] at hx
              split at hx
              · cases hx
              · rename_i t3 n3 ht
                split at hx
                · cases hx
                · split at hx
                  · cases hx
                  · cases hx
                    exact fol_ne hf (by decide) (by decide) (txt_stop ht)
            rw [List.take_succ_cons, List.cons_append, tok, if_neg hd, if_neg hl, if_pos h39, txr_cut hx h3]
            refine ⟨rfl, ?_⟩
            have : (c == 39) = true := by rw [beq_iff_eq]; exact UInt8.toNat_inj.1 h39
            rw [beg, this]; simp
        · rename_i h39
          cases h
          have h0 : sgn (c :: cs) ≠ [] := fun e => by rw [e] at h1; simp at h1
          have hc := sgn_cut h0 hf
          have hp := List.prefix_iff_eq_take.1 (sgn_prefix (c :: cs))
          rw [← hp]
          obtain ⟨x, xs, hxs⟩ : ∃ x xs, sgn (c :: cs) = x :: xs := List.exists_cons_of_ne_nil h0
          have hxc : x = c := by
            have := sgn_prefix (c :: cs)
            rw [hxs] at this
            exact (List.cons_prefix_cons.1 this).1
          subst hxc
          rw [hxs] at hc ⊢
          rw [List.cons_append] at hc ⊢
          rw [tok, if_neg hd, if_neg hl, if_neg h39, hc]
          refine ⟨rfl, ?_⟩
          rw [beg, hc]; simp
end Go.Proofs.YtpjfkfbijimliaaDoor
