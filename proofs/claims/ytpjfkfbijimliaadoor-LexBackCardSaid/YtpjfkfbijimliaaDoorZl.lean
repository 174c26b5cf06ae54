/- The lexer without fuel; blanks put together; the lexer further on. -/
import Derived.Test.YtpjfkfbijimliaaDoorZk
namespace Go.Proofs.YtpjfkfbijimliaaDoor
open Go.RowKit Go.Pen

/-- all is blanks and remarks, and no remark is open at the end -/
def skE : Bool → Bytes → Bool
  | b, [] => !b
  | false, c :: cs => if blk c then skE false cs else if c == 45 && cs.head? == some 45 then skE true cs else false
  | true, c :: cs => if c == 10 then skE false cs else skE true cs

theorem sk_app {X : Bytes} : ∀ {b : Bool} {B : Bytes}, skE b B = true → sk b (B ++ X) = B.length + sk false X
  | true, [], h => by cases h
  | false, [], h => by simp
  | false, c :: cs, h => by
    rw [skE] at h
    rw [List.cons_append, sk]
    split at h
    · rename_i h1
      rw [if_pos h1, sk_app h, List.length_cons]; omega
    · rename_i h1
      rw [if_neg h1]
      split at h
      · rename_i h2
        have h3 : (c == 45 && (cs ++ X).head? == some 45) = true := by
          cases cs with
          | nil => simp at h2
          | cons d ds => exact h2
        rw [if_pos h3, sk_app h, List.length_cons]; omega
      · cases h
  | true, c :: cs, h => by
    rw [skE] at h
    rw [List.cons_append, sk]
    split at h
    · rename_i h1
      rw [if_pos h1, sk_app h, List.length_cons]; omega
    · rename_i h1
      rw [if_neg h1, sk_app h, List.length_cons]; omega

theorem skE_app {X : Bytes} : ∀ {b : Bool} {B : Bytes}, skE b B = true → skE b (B ++ X) = skE false X
  | true, [], h => by cases h
  | false, [], h => by simp
  | false, c :: cs, h => by
    rw [skE] at h
    rw [List.cons_append, skE]
    split at h
    · rename_i h1
      rw [if_pos h1, skE_app h]
    · rename_i h1
      rw [if_neg h1]
      split at h
      · rename_i h2
        have h3 : (c == 45 && (cs ++ X).head? == some 45) = true := by
          cases cs with
          | nil => simp at h2
          | cons d ds => exact h2
        rw [if_pos h3, skE_app h]
      · cases h
  | true, c :: cs, h => by
    rw [skE] at h
    rw [List.cons_append, skE]
    split at h
    · rename_i h1
      rw [if_pos h1, skE_app h]
    · rename_i h1
      rw [if_neg h1, skE_app h]

/-- what is passed over ahead of something ends outside a remark -/
theorem sk_skE : ∀ {b : Bool} {l : Bytes}, l.drop (sk b l) ≠ [] → skE b (l.take (sk b l)) = true
  | b, [], h => by simp at h
  | false, c :: cs, h => by
    rw [sk] at h ⊢
    split at h
    · rename_i h1
      rw [if_pos h1]
      rw [Nat.add_comm, List.drop_succ_cons] at h
      rw [Nat.add_comm, List.take_succ_cons, skE, if_pos h1]
      exact sk_skE h
    · rename_i h1
      rw [if_neg h1]
      split at h
      · rename_i h2
        rw [if_pos h2]
        rw [Nat.add_comm, List.drop_succ_cons] at h
        have ih := sk_skE h
        have h3 : (c == 45 && (cs.take (sk true cs)).head? == some 45) = true := by
          cases hs : cs.take (sk true cs) with
          | nil => rw [hs] at ih; cases ih
          | cons d ds =>
            cases cs with
            | nil => simp at hs
            | cons x xs =>
              cases hk : sk true (x :: xs) with
              | zero => rw [hk] at hs; cases hs
              | succ q =>
                rw [hk, List.take_succ_cons] at hs
                cases hs
                exact h2
        rw [Nat.add_comm, List.take_succ_cons, skE, if_neg h1, if_pos h3]
        exact ih
      · rename_i h2
        rw [if_neg h2]
        rfl
  | true, c :: cs, h => by
    rw [sk] at h ⊢
    split at h
    · rename_i h1
      rw [if_pos h1]
      rw [Nat.add_comm, List.drop_succ_cons] at h
      rw [Nat.add_comm, List.take_succ_cons, skE, if_pos h1]
      exact sk_skE h
    · rename_i h1
      rw [if_neg h1]
      rw [Nat.add_comm, List.drop_succ_cons] at h
      rw [Nat.add_comm, List.take_succ_cons, skE, if_neg h1]
      exact sk_skE h

/-- behind what is passed over nothing is to be passed over -/
theorem sk_sk : ∀ {b : Bool} {l : Bytes}, sk false (l.drop (sk b l)) = 0
  | b, [] => by simp [sk]
  | false, c :: cs => by
    rw [sk]
    split
    · rw [Nat.add_comm, List.drop_succ_cons]; exact sk_sk
    · rename_i h1
      split
      · rw [Nat.add_comm, List.drop_succ_cons]; exact sk_sk
      · rename_i h2
        rw [List.drop_zero, sk, if_neg h1, if_neg h2]
  | true, c :: cs => by
    rw [sk]
    split
    · rw [Nat.add_comm, List.drop_succ_cons]; exact sk_sk
    · rw [Nat.add_comm, List.drop_succ_cons]; exact sk_sk

theorem sk_zero_cut {l r' : Bytes} {m : Nat} (h : sk false l = 0) (h1 : 1 ≤ m) (h2 : m ≤ l.length) (hf : Fol (l.drop m) r') : sk false (l.take m ++ r') = 0 := by
  cases l with
  | nil => simp at h2; omega
  | cons c cs =>
    rw [sk] at h
    split at h
    · omega
    · rename_i hb
      split at h
      · omega
      · rename_i hd
        obtain ⟨m, rfl⟩ : ∃ i, m = i + 1 := ⟨m - 1, by omega⟩
        rw [List.take_succ_cons, List.cons_append, sk, if_neg hb]
        rw [List.drop_succ_cons] at hf
        by_cases h45 : c = 45
        · subst h45
          have hne : cs.head? ≠ some 45 := fun e => hd (by rw [e]; rfl)
          have : (cs.take m ++ r').head? ≠ some 45 := by
            cases m with
            | zero =>
              rw [List.take_zero, List.nil_append]
              rw [List.drop_zero] at hf
              exact fol_ne hf (by decide) (by decide) hne
            | succ m =>
              cases cs with
              | nil => simp at h2
              | cons d ds => exact hne
          rw [if_neg (by simpa using this)]
        · rw [if_neg (by simp [h45])]

/-- the lexer without fuel -/
def lxf (n k : Nat) (l : Bytes) : Res := lx (l.length + 1) n k l

theorem lxb_congr {g g' : Nat → Nat → Bytes → Res} {n k : Nat} {r : Bytes} (h : ∀ n' k' l', l'.length < r.length → g n' k' l' = g' n' k' l') : lxb g n k r = lxb g' n k r := by
  rw [lxb, lxb]
  split
  · rfl
  · split
    · rfl
    · rename_i hb
      have hb' : beg r = true := by simpa using hb
      split
      · rfl
      · split
        · rfl
        · rename_i t m ht
          have := tok_le hb' ht
          rw [h _ _ _ (by rw [List.length_drop]; omega)]

theorem lx_fuel : ∀ (f f' n k : Nat) (l : Bytes), l.length < f → l.length < f' → lx f n k l = lx f' n k l
  | 0, _, _, _, _, h, _ => by omega
  | f + 1, 0, _, _, _, _, h => by omega
  | f + 1, f' + 1, n, k, l, h, h' => by
    rw [lx, lx]
    refine lxb_congr fun n' k' l' hl => ?_
    rw [List.length_drop] at hl
    exact lx_fuel f f' n' k' l' (by omega) (by omega)

theorem lxf_eq (n k : Nat) (l : Bytes) : lxf n k l = lxb lxf n (k + sk false l) (l.drop (sk false l)) := by
  rw [lxf, lx]
  refine lxb_congr fun n' k' l' hl => ?_
  rw [List.length_drop] at hl
  exact lx_fuel _ _ _ _ _ (by omega) (by omega)

theorem lexed_lxf {l : Bytes} (h : l.length ≤ 16384) : lexed l = lxf 0 0 l := by
  rw [lexed, if_neg (by omega)]; rfl

/-- one token and what comes behind it -/
theorem lxf_ok {n k : Nat} {l : Bytes} {ts : List Tok} (h : lxf n k l = .ok ts) :
    (ts = [] ∧ l.drop (sk false l) = []) ∨ ∃ t m us, ts = t :: us ∧ n ≠ 4000 ∧ beg (l.drop (sk false l)) = true ∧ tok (k + sk false l) (l.drop (sk false l)) = .ok (t, m) ∧
      lxf (n + 1) (k + sk false l + m) ((l.drop (sk false l)).drop m) = .ok us := by
  rw [lxf_eq, lxb] at h
  split at h
  · rename_i h1
    cases h
    exact .inl ⟨rfl, List.isEmpty_iff.1 h1⟩
  · split at h
    · cases h
    · rename_i hb
      split at h
      · cases h
      · rename_i h4
        split at h
        · cases h
        · rename_i t m ht
          cases hr : lxf (n + 1) (k + sk false l + m) ((l.drop (sk false l)).drop m) with
          | err a e => rw [hr] at h; cases h
          | ok us =>
            rw [hr] at h
            simp only [Res.cons, Res.ok.injEq] at h
            exact .inr ⟨t, m, us, h.symm, h4, by simpa using hb, ht, hr⟩

theorem lxf_step {n k m : Nat} {l : Bytes} {t : Tok} (h4 : n ≠ 4000) (hb : beg (l.drop (sk false l)) = true) (ht : tok (k + sk false l) (l.drop (sk false l)) = .ok (t, m)) :
    lxf n k l = (lxf (n + 1) (k + sk false l + m) ((l.drop (sk false l)).drop m)).cons t := by
  rw [lxf_eq, lxb]
  have : (l.drop (sk false l)).isEmpty = false := by
    cases hd : l.drop (sk false l) with
    | nil => rw [hd] at hb; cases hb
    | cons c cs => rfl
  rw [this, hb, if_neg (by decide), if_neg (by decide), if_neg h4, ht]

theorem lxf_end {n k : Nat} {l : Bytes} (h : l.drop (sk false l) = []) : lxf n k l = .ok [] := by
  rw [lxf_eq, lxb, h]; rfl

/-- a token that stands elsewhere -/
def Tok.by (d : Nat) (t : Tok) : Tok := { t with at_ := d + t.at_ }

theorem tok_by (d k : Nat) (l : Bytes) : tok (d + k) l = (tok k l).map fun p => (p.1.by d, p.2) := by
  cases l with
  | nil => rfl
  | cons c cs =>
    rw [tok, tok]
    split
    · split <;> rfl
    · split
      · split <;> rfl
      · split
        · cases txr cs <;> rfl
        · rfl

theorem lxf_by_ok : ∀ (f n k : Nat) (l : Bytes) (ts : List Tok) (n0 d : Nat), l.length < f → lxf n k l = .ok ts → n0 + n + ts.length ≤ 4000 → lxf (n0 + n) (d + k) l = .ok (ts.map (Tok.by d))
  | 0, _, _, _, _, _, _, h, _, _ => by omega
  | f + 1, n, k, l, ts, n0, d, hf, h, hn => by
    rcases lxf_ok h with ⟨rfl, h1⟩ | ⟨t, m, us, rfl, h4, hb, ht, hr⟩
    · rw [lxf_end h1]; rfl
    · have hle := tok_le hb ht
      rw [List.length_drop] at hle
      rw [List.length_cons] at hn
      have ht' : tok (d + k + sk false l) (l.drop (sk false l)) = .ok (t.by d, m) := by
        rw [Nat.add_assoc, tok_by, ht]; rfl
      rw [lxf_step (by omega) hb ht']
      have ih := lxf_by_ok f (n + 1) _ _ us n0 d (by rw [List.length_drop, List.length_drop]; omega) hr (by omega)
      have e : d + k + sk false l + m = d + (k + sk false l + m) := by omega
      rw [Nat.add_assoc n0 n 1, e, ih]
      rfl

theorem lxf_by_err : ∀ (f n k : Nat) (l : Bytes) (a e n0 d : Nat), l.length < f → lxf n k l = .err a e → n0 + n ≤ 4000 → lxf (n0 + n) (d + k) l = .err (d + a) e ∨ ∃ p, lxf (n0 + n) (d + k) l = .err p 163
  | 0, _, _, _, _, _, _, _, h, _, _ => by omega
  | f + 1, n, k, l, a, e, n0, d, hf, h, hn => by
    rw [lxf_eq, lxb] at h
    rw [lxf_eq, lxb]
    have e1 : d + k + sk false l = d + (k + sk false l) := by omega
    rw [e1]
    split at h
    · cases h
    · rename_i h0
      rw [if_neg h0]
      split at h
      · rename_i hb
        rw [if_pos hb]
        cases h
        exact .inl rfl
      · rename_i hb
        rw [if_neg hb]
        by_cases h4 : n0 + n = 4000
        · rw [if_pos h4]
          exact .inr ⟨_, rfl⟩
        · rw [if_neg h4]
          split at h
          · omega
          · split at h
            · rename_i x hx
              rw [tok_by, hx]
              cases h
              exact .inl rfl
            · rename_i t m ht
              rw [tok_by, ht]
              have hle := tok_le (by simpa using hb) ht
              rw [List.length_drop] at hle
              cases hr : lxf (n + 1) (k + sk false l + m) ((l.drop (sk false l)).drop m) with
              | ok us => rw [hr] at h; cases h
              | err a' e' =>
                rw [hr] at h
                simp only [Res.cons, Res.err.injEq] at h
                obtain ⟨rfl, rfl⟩ := h
                have e2 : d + (k + sk false l) + m = d + (k + sk false l + m) := by omega
                show ((lxf (n0 + n + 1) (d + (k + sk false l) + m) _).cons _ = _) ∨ _
                rw [Nat.add_assoc n0 n 1, e2]
                rcases lxf_by_err f (n + 1) _ _ a' e' n0 d (by rw [List.length_drop, List.length_drop]; omega) hr (by omega) with h | ⟨p, h⟩
                · rw [h]; exact .inl rfl
                · exact .inr ⟨p, by show Res.cons _ (lxf (n0 + n + 1) (d + (k + sk false l) + m) _) = _; rw [Nat.add_assoc n0 n 1, e2, h]; rfl⟩
end Go.Proofs.YtpjfkfbijimliaaDoor
