/- Blanks and remarks put ahead of tokens: plain law. -/
import Derived.Test.YtpjfkfbijimliaaDoorZl
namespace Go.Proofs.YtpjfkfbijimliaaDoor
open Go.RowKit Go.Pen

/-- a text with something put ahead of each token -/
def pdd (P : Nat → Bytes) (s : Bytes) : Nat → Nat → List Tok → Bytes
  | _, fr, [] => s.drop fr
  | i, fr, t :: ts => (s.drop fr).take (t.at_ - fr) ++ (P i ++ pdd P s (i + 1) t.at_ ts)

def PadOk (p : Bytes) : Prop := p = [] ∨ (skE false p = true ∧ ∃ c, p.head? = some c ∧ blk c = true)

def Tok.at0 (t : Tok) : Tok := { t with at_ := 0 }

theorem tok_place {k m : Nat} {l : Bytes} {t : Tok} (h : tok k l = .ok (t, m)) (k' : Nat) : ∃ t', tok k' l = .ok (t', m) ∧ t'.at0 = t.at0 := by
  have h0 : ∀ d, tok d l = (tok 0 l).map fun p => (p.1.by d, p.2) := fun d => by rw [← tok_by]; rfl
  rw [h0 k] at h
  cases hx : tok 0 l with
  | error e => rw [hx] at h; cases h
  | ok q =>
    rw [hx] at h
    refine ⟨q.1.by k', ?_, ?_⟩
    · rw [h0 k', hx]
      have : q.2 = m := congrArg (fun x => (Except.toOption x).elim 0 Prod.snd) h
      rw [← this]; rfl
    · have : q.1.by k = t := by
        have := congrArg (fun x => (Except.toOption x).elim t Prod.fst) h
        exact this
      rw [← this]; rfl

theorem pdd_adv (P : Nat → Bytes) (s : Bytes) (i fr d : Nat) (ts : List Tok) (h : ∀ t ∈ ts, fr + d ≤ t.at_) (hs : ∀ t ∈ ts, t.at_ ≤ s.length) : pdd P s i fr ts = (s.drop fr).take d ++ pdd P s i (fr + d) ts := by
  cases ts with
  | nil =>
    rw [pdd, pdd, ← List.drop_drop, List.take_append_drop]
  | cons t ts =>
    have h1 := h t (List.mem_cons_self ..)
    rw [pdd, pdd, ← List.append_assoc ((s.drop fr).take d)]
    congr 1
    have e : t.at_ - fr = d + (t.at_ - (fr + d)) := by omega
    rw [e, List.take_add, List.drop_drop]

theorem lxf_stands {l : Bytes} {n k : Nat} {ts : List Tok} (hk : k ≤ l.length) (h : lxf n k (l.drop k) = .ok ts) : ∀ t ∈ ts, k ≤ t.at_ ∧ t.at_ < l.length := by
  intro t ht
  have := (lx_stands l _ n k ts hk h).1 t ht
  exact ⟨this.1, this.2.1⟩

theorem blanks_law {P : Nat → Bytes} (hP : ∀ i, PadOk (P i)) (s : Bytes) : ∀ (f n k k' i : Nat) (ts : List Tok), s.length - k < f → k ≤ s.length → lxf n k (s.drop k) = .ok ts →
    (∃ ts', lxf n k' (pdd P s i k ts) = .ok ts' ∧ ts'.map Tok.at0 = ts.map Tok.at0) ∧ Fol (s.drop k) (pdd P s i k ts)
  | 0, _, _, _, _, _, h, _, _ => by omega
  | f + 1, n, k, k', i, ts, hf, hk, h => by
    rcases lxf_ok h with ⟨rfl, h1⟩ | ⟨t, m, us, rfl, h4, hb, ht, hr⟩
    · exact ⟨⟨[], lxf_end h1, rfl⟩, Fol.refl _⟩
    · have hjl := sk_le false (s.drop k)
      have hle := tok_le hb ht
      have hne : (s.drop k).drop (sk false (s.drop k)) ≠ [] := fun e => by rw [e] at hb; cases hb
      have hE := sk_skE hne
      have hz : sk false ((s.drop k).drop (sk false (s.drop k))) = 0 := sk_sk
      generalize hj : sk false (s.drop k) = j at hb ht hr hle hne hE hz hjl
      rw [List.drop_drop] at hb ht hr hle hne hz
      rw [List.drop_drop, ← Nat.add_assoc] at hr
      rw [List.length_drop] at hle hjl
      obtain ⟨h1, h2, h3⟩ := hle
      have hst := lxf_stands (l := s) (by omega) hr
      obtain ⟨⟨us', g1, g2⟩, g3⟩ := blanks_law hP s f (n + 1) (k + j + m) (k' + j + (P i).length + m) (i + 1) us (by omega) (by omega) hr
      have hadv := pdd_adv P s (i + 1) (k + j) m us (fun t ht => (hst t ht).1) (fun t ht => by have := (hst t ht).2; omega)
      have hpd : pdd P s i k (t :: us) = (s.drop k).take j ++ (P i ++ ((s.drop (k + j)).take m ++ pdd P s (i + 1) (k + j + m) us)) := by
        rw [pdd, h3, Nat.add_sub_cancel_left, hadv]
      generalize hR : pdd P s (i + 1) (k + j + m) us = R at g1 g3 hpd
      rw [← List.drop_drop] at g3
      obtain ⟨t', ht', h0'⟩ := tok_place ht (k' + j + (P i).length)
      obtain ⟨q1, q2⟩ := tok_cut hb ht' g3
      have hz2 := sk_zero_cut hz h1 (by rw [List.length_drop]; exact h2) g3
      have hlj : ((s.drop k).take j).length = j := by rw [List.length_take, List.length_drop]; omega
      have hPs : sk false (P i ++ ((s.drop (k + j)).take m ++ R)) = (P i).length := by
        rcases hP i with e | ⟨e, -⟩
        · rw [e, List.nil_append, hz2]; rfl
        · rw [sk_app e, hz2, Nat.add_zero]
      have hs : sk false (pdd P s i k (t :: us)) = j + (P i).length := by
        rw [hpd, sk_app hE, hPs, hlj]
      have hd : (pdd P s i k (t :: us)).drop (j + (P i).length) = (s.drop (k + j)).take m ++ R := by
        rw [hpd]
        have e : j + (P i).length = ((s.drop k).take j).length + (P i).length := by rw [hlj]
        rw [e, List.drop_length_add_append, List.drop_left]
      have hstep := lxf_step (n := n) (k := k') (l := pdd P s i k (t :: us)) (t := t') (m := m) h4 (by rw [hs, hd]; exact q2) (by rw [hs, hd, ← Nat.add_assoc]; exact q1)
      have hmm : ((s.drop (k + j)).take m).length = m := by rw [List.length_take, List.length_drop]; omega
      have hdd : ((pdd P s i k (t :: us)).drop (j + (P i).length)).drop m = R := by
        rw [hd]
        exact List.drop_left' hmm
      refine ⟨⟨t' :: us', ?_, by rw [List.map_cons, List.map_cons, h0', g2]⟩, ?_⟩
      · rw [hstep, hs, hdd]
        have e : k' + (j + (P i).length) + m = k' + j + (P i).length + m := by omega
        rw [e, g1]; rfl
      · rw [hpd]
        cases j with
        | succ j =>
          refine .inl ?_
          cases hl : s.drop k with
          | nil => rw [hl] at hlj; simp at hlj
          | cons c cs => rfl
        | zero =>
          rw [List.take_zero, List.nil_append]
          rcases hP i with e | ⟨-, c, hc, hc'⟩
          · rw [e, List.nil_append]
            refine .inl ?_
            obtain ⟨m, rfl⟩ : ∃ q, m = q + 1 := ⟨m - 1, by omega⟩
            rw [Nat.add_zero]
            cases hl : s.drop k with
            | nil => rw [Nat.add_zero, hl] at hne; exact absurd rfl hne
            | cons c cs => rfl
          · refine .inr (.inr (.inl ⟨c, ?_, hc'⟩))
            cases hp : P i with
            | nil => rw [hp] at hc; cases hc
            | cons x xs => rw [hp] at hc; exact hc
end Go.Proofs.YtpjfkfbijimliaaDoor
