/- Where tokens stand: plain laws on the lexer. -/
import Derived.Test.YtpjfkfbijimliaaDoorS
namespace Go.Proofs.YtpjfkfbijimliaaDoor
open Go.RowKit Go.Pen

/-- a token as it stands in a text -/
def Stands (l : Bytes) (t : Tok) : Prop := t.at_ < l.length ∧ beg (l.drop t.at_) = true ∧ ∃ m, tok t.at_ (l.drop t.at_) = .ok (t, m)

theorem lx_stands (l : Bytes) : ∀ (f n k : Nat) (ts : List Tok), k ≤ l.length → lx f n k (l.drop k) = .ok ts →
    (∀ t ∈ ts, k ≤ t.at_ ∧ Stands l t) ∧ ts.Pairwise (fun a b => a.at_ < b.at_)
  | 0, n, k, ts, hk, h => by simp only [lx, Res.ok.injEq] at h; subst h; simp
  | f + 1, n, k, ts, hk, h => by
    simp only [lx] at h
    rw [List.drop_drop] at h
    have hs := sk_le false (l.drop k)
    rw [List.length_drop] at hs
    generalize hj : k + sk false (l.drop k) = j at h
    rw [lxb] at h
    split at h
    · cases h; simp
    · rename_i hne
      split at h
      · cases h
      · rename_i hb
        have hb' : beg (l.drop j) = true := by simpa using hb
        split at h
        · cases h
        · split at h
          · cases h
          · rename_i t m ht
            have hle := tok_le hb' ht
            rw [List.length_drop, List.drop_drop] at *
            cases hr : lx f (n + 1) (j + m) (l.drop (j + m)) with
            | err a e => rw [hr] at h; cases h
            | ok us =>
              rw [hr] at h
              simp only [Res.cons, Res.ok.injEq] at h
              subst h
              obtain ⟨h1, h2⟩ := lx_stands l f (n + 1) (j + m) us (by omega) hr
              have hat : t.at_ = j := hle.2.2
              refine ⟨fun x hx => ?_, ?_⟩
              · rcases List.mem_cons.1 hx with rfl | hx
                · refine ⟨by omega, by omega, by rw [hat]; exact hb', m, by rw [hat]; exact ht⟩
                · have := (h1 x hx).1; exact ⟨by omega, (h1 x hx).2⟩
              · refine List.pairwise_cons.2 ⟨fun x hx => ?_, h2⟩
                have := (h1 x hx).1
                omega

theorem lx_err (l : Bytes) : ∀ (f n k a e : Nat), k ≤ l.length → lx f n k (l.drop k) = .err a e → a < l.length ∧ (e = 160 ∨ e = 161 ∨ e = 162 ∨ e = 163)
  | 0, n, k, a, e, hk, h => by simp [lx] at h
  | f + 1, n, k, a, e, hk, h => by
    simp only [lx] at h
    rw [List.drop_drop] at h
    have hs := sk_le false (l.drop k)
    rw [List.length_drop] at hs
    generalize hj : k + sk false (l.drop k) = j at h
    have hlt : (l.drop j).isEmpty = false → j < l.length := fun h => by
      rcases Nat.lt_or_ge j l.length with h' | h'
      · exact h'
      · rw [List.drop_of_length_le h'] at h; simp at h
    rw [lxb] at h
    split at h
    · cases h
    · rename_i hne
      have hne' : (l.drop j).isEmpty = false := by simpa using hne
      split at h
      · cases h; exact ⟨hlt hne', by omega⟩
      · rename_i hb
        have hb' : beg (l.drop j) = true := by simpa using hb
        split at h
        · cases h; exact ⟨hlt hne', by omega⟩
        · split at h
          · rename_i x hx
            have hx2 : x = 161 ∨ x = 162 := by
              cases hd : l.drop j with
              | nil => rw [hd] at hne'; simp at hne'
              | cons c cs => rw [hd] at hx; exact tok_err hx
            cases h
            exact ⟨hlt hne', by omega⟩
          · rename_i t m ht
            have hle := tok_le hb' ht
            rw [List.length_drop, List.drop_drop] at *
            cases hr : lx f (n + 1) (j + m) (l.drop (j + m)) with
            | ok us => rw [hr] at h; cases h
            | err a' e' =>
              rw [hr] at h
              simp only [Res.cons, Res.err.injEq] at h
              obtain ⟨rfl, rfl⟩ := h
              exact lx_err l f (n + 1) (j + m) a' e' (by omega) hr

theorem lexed_ok {l : Bytes} {ts : List Tok} (h : lexed l = .ok ts) : l.length ≤ 16384 ∧ (∀ t ∈ ts, Stands l t) ∧ ts.Pairwise (fun a b => a.at_ < b.at_) := by
  rw [lexed] at h
  split at h
  · cases h
  · have := lx_stands l (l.length + 1) 0 0 ts (Nat.zero_le _) (by rw [List.drop_zero]; exact h)
    exact ⟨by omega, fun t ht => (this.1 t ht).2, this.2⟩

theorem lexed_err {l : Bytes} {a e : Nat} (h : lexed l = .err a e) : a ≤ 16384 ∧ (a < l.length ∨ e = 162) ∧ (e = 160 ∨ e = 161 ∨ e = 162 ∨ e = 163) := by
  rw [lexed] at h
  split at h
  · cases h; omega
  · have := lx_err l (l.length + 1) 0 0 a e (Nat.zero_le _) (by rw [List.drop_zero]; exact h)
    omega

set_option maxRecDepth 100000 in
theorem low_wch {c : UInt8} (h : ldg c = true) : wch (low c) = true := by
  have : ∀ n : Fin 256, ldg (UInt8.ofNat n.val) = true → wch (low (UInt8.ofNat n.val)) = true := by decide
  have h2 := this ⟨c.toNat, c.toNat_lt⟩
  simp only [UInt8.ofNat_toNat] at h2
  exact h2 h

set_option maxRecDepth 100000 in
theorem let_low {c : UInt8} (h : let_ c = true) : dig (low c) = false := by
  have : ∀ n : Fin 256, let_ (UInt8.ofNat n.val) = true → dig (low (UInt8.ofNat n.val)) = false := by decide
  have h2 := this ⟨c.toNat, c.toNat_lt⟩
  simp only [UInt8.ofNat_toNat] at h2
  exact h2 h

/-- what a token is, by its first byte -/
theorem tok_kind {k m : Nat} {t : Tok} {c : UInt8} {cs : Bytes} (ht : tok k (c :: cs) = .ok (t, m)) :
    (t.kind = 2 ∧ dig c = true ∧ c.toNat ≠ 39) ∨ (t.kind = 1 ∧ dig c = false ∧ c.toNat ≠ 39 ∧ wordB t.text = true) ∨ (t.kind = 3 ∧ dig c = false ∧ c.toNat = 39) ∨
      (t.kind = 4 ∧ dig c = false ∧ c.toNat ≠ 39 ∧ t.text <+: (c :: cs)) := by
  rw [tok] at ht
  split at ht
  · rename_i hd
    split at ht
    · cases ht
      refine .inl ⟨rfl, hd, ?_⟩
      have := dig_iff hd; omega
    · cases ht
  · rename_i hd
    have hd' : dig c = false := by simpa using hd
    split at ht
    · rename_i hl
      split at ht
      · cases ht
      · rename_i h32
        refine .inr (.inl ?_)
        have ht' := congrArg (fun x => (Except.toOption x).map fun p => (p.1.kind, p.1.text)) ht
        simp [Except.toOption] at ht'
        obtain ⟨hk, htx⟩ := ht'
        refine ⟨hk.symm, hd', fun e => by simp [let_, e] at hl, ?_⟩
        rw [← htx, wordB]
        have hne : ((c :: cs).takeWhile ldg) = c :: cs.takeWhile ldg := by rw [List.takeWhile_cons]; simp [ldg, hl]
        have hall := tw_all ldg (c :: cs)
        rw [hne] at h32 hall ⊢
        simp only [List.map_cons, List.isEmpty_cons, Bool.not_false, Bool.true_and, List.headD_cons, let_low hl, Bool.and_true, Bool.and_eq_true, decide_eq_true_eq]
        refine ⟨by simpa using h32, ?_⟩
        rw [← List.map_cons, List.all_map, List.all_eq_true]
        exact fun x hx => low_wch (hall x hx)
    · split at ht
      · rename_i h39
        split at ht
        · cases ht
        · cases ht; exact .inr (.inr (.inl ⟨rfl, hd', h39⟩))
      · rename_i h39
        cases ht
        exact .inr (.inr (.inr ⟨rfl, hd', h39, sgn_prefix _⟩))

theorem stands_kind {l : Bytes} {t : Tok} {c : UInt8} {cs : Bytes} (h : Stands l t) (hc : l.drop t.at_ = c :: cs) :
    (t.kind = 2 ∧ dig c = true ∧ c.toNat ≠ 39) ∨ (t.kind = 1 ∧ dig c = false ∧ c.toNat ≠ 39 ∧ wordB t.text = true) ∨ (t.kind = 3 ∧ dig c = false ∧ c.toNat = 39) ∨
      (t.kind = 4 ∧ dig c = false ∧ c.toNat ≠ 39 ∧ t.text <+: (c :: cs)) := by
  obtain ⟨-, -, m, ht⟩ := h
  rw [hc] at ht
  exact tok_kind ht
end Go.Proofs.YtpjfkfbijimliaaDoor
