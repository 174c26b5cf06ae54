/- Capitals in words: plain law. -/
import Derived.Test.YtpjfkfbijimliaaDoorZn
namespace Go.Proofs.YtpjfkfbijimliaaDoor
open Go.RowKit Go.Pen

/-- a place within a word -/
def InWord (ts : List Tok) (p : Nat) : Prop := ∃ t ∈ ts, t.kind = 1 ∧ t.at_ ≤ p ∧ p < t.at_ + t.text.length

/-- the second text is the first, but for letters that are written large within words -/
def Caps (ts : List Tok) (s s' : Bytes) : Prop :=
  s'.length = s.length ∧ ∀ p c, s[p]? = some c → ∃ c', s'[p]? = some c' ∧ (c' = c ∨ (InWord ts p ∧ let_ c = true ∧ let_ c' = true ∧ low c' = low c))

theorem caps_same {ts : List Tok} {s s' : Bytes} (h : Caps ts s s') {a b : Nat} (hn : ∀ p, a ≤ p → p < b → ¬ InWord ts p) : (s'.drop a).take (b - a) = (s.drop a).take (b - a) := by
  refine List.ext_getElem? fun i => ?_
  rw [List.getElem?_take, List.getElem?_take]
  split
  · rw [List.getElem?_drop, List.getElem?_drop]
    cases hc : s[a + i]? with
    | none =>
      have := List.getElem?_eq_none_iff.1 hc
      exact List.getElem?_eq_none (by rw [h.1]; exact this)
    | some c =>
      obtain ⟨c', h1, h2⟩ := h.2 _ _ hc
      rcases h2 with rfl | ⟨h3, -⟩
      · exact h1
      · exact absurd h3 (hn _ (by omega) (by omega))
  · rfl

theorem caps_fol {ts : List Tok} {s s' : Bytes} (h : Caps ts s s') (a : Nat) : Fol (s.drop a) (s'.drop a) := by
  rw [Fol, List.head?_drop, List.head?_drop]
  cases hc : s[a]? with
  | none =>
    have := List.getElem?_eq_none_iff.1 hc
    exact .inl (List.getElem?_eq_none (by rw [h.1]; exact this))
  | some c =>
    obtain ⟨c', h1, h2⟩ := h.2 _ _ hc
    rcases h2 with rfl | ⟨-, h3, h4, -⟩
    · exact .inl h1
    · exact .inr (.inr (.inr ⟨c', c, h1, rfl, h4, h3⟩))



theorem ldg_of_let {c : UInt8} (h : let_ c = true) : ldg c = true := by simp [ldg, h]

/-- a run of letters and digits, some written large -/
theorem word_caps {l l' : Bytes} {m : Nat} (hl : l'.length = l.length) (hm : (l.takeWhile ldg).length = m) (h : ∀ (p : Nat) (c : UInt8), l[p]? = some c → ∃ c', l'[p]? = some c' ∧ (c' = c ∨ (let_ c = true ∧ let_ c' = true ∧ low c' = low c))) :
    (l'.takeWhile ldg).length = m ∧ (l'.takeWhile ldg).map low = (l.takeWhile ldg).map low := by
  induction l generalizing l' m with
  | nil =>
    cases l' with
    | nil => exact ⟨hm, rfl⟩
    | cons x xs => simp at hl
  | cons c cs ih =>
    cases l' with
    | nil => simp at hl
    | cons x xs =>
      have ht : ∀ (p : Nat) (c : UInt8), cs[p]? = some c → ∃ c', xs[p]? = some c' ∧ (c' = c ∨ (let_ c = true ∧ let_ c' = true ∧ low c' = low c)) := fun p c hc => by
        obtain ⟨c', h1, h2⟩ := h (p + 1) c (by rw [List.getElem?_cons_succ]; exact hc)
        rw [List.getElem?_cons_succ] at h1
        exact ⟨c', h1, h2⟩
      obtain ⟨x', h1, h2⟩ := h 0 c rfl
      cases h1
      rw [List.takeWhile_cons] at hm ⊢
      rw [List.takeWhile_cons]
      have hx : ldg x = ldg c ∧ low x = low c := by
        rcases h2 with rfl | ⟨h3, h4, h5⟩
        · exact ⟨rfl, rfl⟩
        · exact ⟨by rw [ldg_of_let h3, ldg_of_let h4], h5⟩
      rw [hx.1]
      cases hg : ldg c with
      | false => rw [hg] at hm; simp at hm; subst hm; exact ⟨rfl, rfl⟩
      | true =>
        rw [hg] at hm
        simp only [if_true, List.length_cons] at hm
        obtain ⟨h3, h4⟩ := ih (m := m - 1) (by simpa using hl) (by omega) ht
        simp only [if_true, List.length_cons, List.map_cons, hx.2, h4]
        exact ⟨by omega, trivial⟩

/-- of a word: how many bytes it takes -/
theorem tok_word {k m : Nat} {c : UInt8} {cs : Bytes} {t : Tok} (h : tok k (c :: cs) = .ok (t, m)) (hk : t.kind = 1) :
    dig c = false ∧ let_ c = true ∧ m = ((c :: cs).takeWhile ldg).length ∧ m ≤ 32 ∧ t = ⟨1, ((c :: cs).takeWhile ldg).map low, 0, k⟩ := by
  rw [tok] at h
  split at h
  · split at h
    · cases h; cases hk
    · cases h
  · rename_i hd
    split at h
    · rename_i hl
      split at h
      · cases h
      · rename_i h32
        cases h
        exact ⟨by simpa using hd, hl, rfl, by omega, rfl⟩
    · split at h
      · split at h
        · cases h
        · cases h; cases hk
      · cases h; cases hk

theorem caps_law {s s' : Bytes} {ts0 : List Tok} (hC : Caps ts0 s s') : ∀ (f n k : Nat) (ts : List Tok), s.length - k < f → k ≤ s.length → (∀ p, k ≤ p → InWord ts0 p → InWord ts p) → lxf n k (s.drop k) = .ok ts → lxf n k (s'.drop k) = .ok ts
  | 0, _, _, _, h, _, _, _ => by omega
  | f + 1, n, k, ts, hf, hk, hw, h => by
    have hlen := hC.1
    rcases lxf_ok h with ⟨rfl, h1⟩ | ⟨t, m, us, rfl, h4, hb, ht, hr⟩
    · have := caps_same hC (a := k) (b := s.length) (fun p h1 _ h2 => by obtain ⟨t, ht, -⟩ := hw p h1 h2; cases ht)
      rw [List.take_of_length_le (by rw [List.length_drop, hlen]; exact Nat.le_refl _), List.take_of_length_le (by rw [List.length_drop]; exact Nat.le_refl _)] at this
      rw [this, h]
    · have hjl := sk_le false (s.drop k)
      have hle := tok_le hb ht
      have hne : (s.drop k).drop (sk false (s.drop k)) ≠ [] := fun e => by rw [e] at hb; cases hb
      have hE := sk_skE hne
      have hz : sk false ((s.drop k).drop (sk false (s.drop k))) = 0 := sk_sk
      generalize hj : sk false (s.drop k) = j at hb ht hr hle hne hE hz hjl
      rw [List.drop_drop] at hb ht hr hle hne hz
      rw [List.drop_drop, ← Nat.add_assoc] at hr
      rw [List.length_drop] at hle hjl
      obtain ⟨h1, h2, h3⟩ := hle
      have hst := lxf_stands (l := s) (by omega) hr
      -- behind this token
      have hwu : ∀ p, k + j + m ≤ p → InWord ts0 p → InWord us p := fun p hp hi => by
        obtain ⟨x, hx, hx1, hx2, hx3⟩ := hw p (by omega) hi
        rcases List.mem_cons.1 hx with rfl | hx
        · exfalso
          cases hl : s.drop (k + j) with
          | nil => exact hne hl
          | cons c cs =>
            rw [hl] at ht
            obtain ⟨-, -, e1, -, e2⟩ := tok_word ht hx1
            have : x.text.length = m := by rw [e2, e1]; simp
            omega
        · exact ⟨x, hx, hx1, hx2, hx3⟩
      have ih := caps_law hC f (n + 1) (k + j + m) us (by omega) (by omega) hwu hr
      -- ahead of it
      have hpre : (s'.drop k).take j = (s.drop k).take j := by
        have := caps_same hC (a := k) (b := k + j) (fun p q1 q2 q3 => by
          obtain ⟨x, hx, -, hx2, -⟩ := hw p q1 q3
          rcases List.mem_cons.1 hx with rfl | hx
          · omega
          · have := (hst x hx).1; omega)
        rwa [Nat.add_sub_cancel_left] at this
      have hfol := caps_fol hC (k + j + m)
      -- the token itself
      have hself : tok (k + j) (s'.drop (k + j)) = .ok (t, m) ∧ beg (s'.drop (k + j)) = true ∧ sk false (s'.drop (k + j)) = 0 := by
        by_cases hk1 : t.kind = 1
        · cases hl : s.drop (k + j) with
          | nil => exact absurd hl hne
          | cons c cs =>
            rw [hl] at ht
            obtain ⟨e1, e2, e3, e4, e5⟩ := tok_word ht hk1
            obtain ⟨c', q1, q2⟩ := hC.2 (k + j) c (by have := congrArg List.head? hl; rwa [List.head?_drop] at this)
            have hlc : let_ c' = true := by
              rcases q2 with rfl | ⟨-, -, q3, -⟩
              · exact e2
              · exact q3
            have hl' : ∃ cs', s'.drop (k + j) = c' :: cs' := by
              cases hd : s'.drop (k + j) with
              | nil => have := congrArg List.head? hd; rw [List.head?_drop, q1] at this; cases this
              | cons x xs => have := congrArg List.head? hd; rw [List.head?_drop, q1] at this; cases this; exact ⟨xs, rfl⟩
            obtain ⟨cs', hl'⟩ := hl'
            have hwc := word_caps (l := s.drop (k + j)) (l' := s'.drop (k + j)) (m := m) (by rw [List.length_drop, List.length_drop, hlen]) (by rw [hl, e3]) (fun p c hc => by
              rw [List.getElem?_drop] at hc ⊢
              obtain ⟨c', w1, w2⟩ := hC.2 _ _ hc
              refine ⟨c', w1, ?_⟩
              rcases w2 with w2 | ⟨-, w3⟩
              · exact .inl w2
              · exact .inr w3)
            rw [hl', hl] at hwc
            have hf := let_facts c' hlc
            rw [hl', tok, if_neg (by rw [hf.1]; decide), if_pos hlc, hwc.1, if_neg (by omega), hwc.2, e5]
            refine ⟨rfl, by rw [beg, hlc]; simp, ?_⟩
            rw [sk, hf.2.1, if_neg (by decide), if_neg]
            rw [Bool.and_eq_true, beq_iff_eq]
            rintro ⟨e, -⟩
            exact hf.2.2.2.2.2.2 (by rw [e]; rfl)
        · have hsame : (s'.drop (k + j)).take m = (s.drop (k + j)).take m := by
            have := caps_same hC (a := k + j) (b := k + j + m) (fun p q1 q2 q3 => by
              obtain ⟨x, hx, hx1, hx2, -⟩ := hw p (by omega) q3
              rcases List.mem_cons.1 hx with rfl | hx
              · exact hk1 hx1
              · have := (hst x hx).1; omega)
            rwa [Nat.add_sub_cancel_left] at this
          have hsp : s'.drop (k + j) = (s.drop (k + j)).take m ++ s'.drop (k + j + m) := by
            have e := List.take_append_drop m (s'.drop (k + j))
            rw [List.drop_drop, hsame] at e
            exact e.symm
          have hfol : Fol ((s.drop (k + j)).drop m) (s'.drop (k + j + m)) := by rw [List.drop_drop]; exact hfol
          rw [hsp]
          obtain ⟨g1, g2⟩ := tok_cut hb ht hfol
          exact ⟨g1, g2, sk_zero_cut hz h1 (by rw [List.length_drop]; exact h2) hfol⟩
      obtain ⟨g1, g2, g3⟩ := hself
      have hsk : sk false (s'.drop k) = j := by
        conv => lhs; rw [← List.take_append_drop j (s'.drop k), hpre, List.drop_drop]
        rw [sk_app hE, g3, List.length_take, List.length_drop]
        omega
      have hstep := lxf_step (n := n) (k := k) (l := s'.drop k) (t := t) (m := m) h4 (by rw [hsk, List.drop_drop]; exact g2) (by rw [hsk, List.drop_drop]; exact g1)
      rw [hstep, hsk, List.drop_drop, List.drop_drop, ← Nat.add_assoc, ih]
      rfl
end Go.Proofs.YtpjfkfbijimliaaDoor
