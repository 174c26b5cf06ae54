/- Two texts with a blank between: plain law. -/
import Derived.Test.YtpjfkfbijimliaaDoorZl
import Derived.Test.YtpjfkfbijimliaaDoorZh
namespace Go.Proofs.YtpjfkfbijimliaaDoor
open Go.RowKit Go.Pen

/-- the text does not end within a remark, whatever comes -/
def NR (B : Bytes) : Prop := ∀ i : Nat, B[i]? = some 45 → (i + 1 = B.length ∨ B[i + 1]? = some 45) → ∃ j : Nat, i ≤ j ∧ B[j]? = some 10

theorem NR.drop {a : Bytes} (h : NR a) (k : Nat) : NR (a.drop k) := by
  intro i h1 h2
  rw [List.getElem?_drop] at h1
  have hlt : k + i < a.length := (List.getElem?_eq_some_iff.1 h1).1
  obtain ⟨j, h3, h4⟩ := h (k + i) h1 (by
    rcases h2 with h2 | h2
    · rw [List.length_drop] at h2; exact .inl (by omega)
    · rw [List.getElem?_drop] at h2; exact .inr h2)
  refine ⟨j - k, by omega, ?_⟩
  rw [List.getElem?_drop, show k + (j - k) = j by omega]
  exact h4

theorem nr_open : ∀ (b : Bool) (B : Bytes), sk b B = B.length → NR B → (b = true → (10 : UInt8) ∈ B) → skE b B = true
  | true, [], _, _, h => by have := h rfl; simp at this
  | false, [], _, _, _ => rfl
  | false, c :: cs, h, hn, _ => by
    have hn' : NR cs := hn.drop 1
    rw [sk] at h
    rw [skE]
    split at h
    · rename_i h1
      rw [if_pos h1]
      exact nr_open false cs (by simp at h; omega) hn' (fun e => by cases e)
    · rename_i h1
      rw [if_neg h1]
      split at h
      · rename_i h2
        rw [if_pos h2]
        refine nr_open true cs (by simp at h; omega) hn' fun _ => ?_
        rw [Bool.and_eq_true, beq_iff_eq, beq_iff_eq] at h2
        obtain ⟨j, -, hj⟩ := hn 0 (by rw [h2.1]; rfl) (.inr (by rw [List.getElem?_cons_succ, ← List.head?_eq_getElem?]; exact h2.2))
        cases j with
        | zero => rw [h2.1] at hj; cases hj
        | succ j => exact List.mem_of_getElem? hj
      · simp at h
  | true, c :: cs, h, hn, hm => by
    have hn' : NR cs := hn.drop 1
    rw [sk] at h
    rw [skE]
    split at h
    · rename_i h1
      rw [if_pos h1]
      exact nr_open false cs (by simp at h; omega) hn' (fun e => by cases e)
    · rename_i h1
      rw [if_neg h1]
      refine nr_open true cs (by simp at h; omega) hn' fun _ => ?_
      rcases List.mem_cons.1 (hm rfl) with e | e
      · exact absurd (by rw [← e]; rfl) h1
      · exact e

theorem fol_blank (r b : Bytes) : Fol r (r ++ 32 :: b) := by
  cases r with
  | nil => exact .inr (.inr (.inl ⟨32, rfl, by decide⟩))
  | cons c cs => exact .inl rfl

theorem drop_nil_sk {b : Bool} {l : Bytes} (h : l.drop (sk b l) = []) : sk b l = l.length := by
  have h1 := sk_le b l
  have h2 := congrArg List.length h
  rw [List.length_drop, List.length_nil] at h2
  omega

theorem after_law (b : Bytes) : ∀ (f n k : Nat) (a : Bytes) (ts : List Tok), a.length < f → lxf n k a = .ok ts → NR a → lxf n k (a ++ 32 :: b) = Res.app ts (lxf (n + ts.length) (k + a.length + 1) b)
  | 0, _, _, _, _, h, _, _ => by omega
  | f + 1, n, k, a, ts, hf, h, hn => by
    rcases lxf_ok h with ⟨rfl, h1⟩ | ⟨t, m, us, rfl, h4, hb, ht, hr⟩
    · have h2 := drop_nil_sk h1
      have h3 := nr_open false a h2 hn (fun e => by cases e)
      have h5 : sk false (a ++ 32 :: b) = a.length + (1 + sk false b) := by
        rw [sk_app h3]; rfl
      rw [lxf_eq, h5, List.drop_length_add_append, Nat.add_comm 1, List.drop_succ_cons, Res.app, List.length_nil, lxf_eq (n + 0) (k + a.length + 1), Nat.add_zero]
      have e : k + (a.length + (sk false b + 1)) = k + a.length + 1 + sk false b := by omega
      rw [e]
      rfl
    · obtain ⟨j, hj⟩ : ∃ j, sk false a = j := ⟨_, rfl⟩
      have hjl := sk_le false a
      have hle := tok_le hb ht
      have hne : a.drop (sk false a) ≠ [] := fun e => by rw [e] at hb; cases hb
      have hE := sk_skE hne
      have hz : sk false (a.drop (sk false a)) = 0 := sk_sk
      rw [hj] at hb ht hr hle hne hE hz hjl
      rw [List.length_drop] at hle
      obtain ⟨h1, h2, -⟩ := hle
      have hz2 : sk false (a.drop j ++ 32 :: b) = 0 := by
        have := sk_zero_cut (m := (a.drop j).length) (r' := 32 :: b) hz (by rw [List.length_drop]; omega) (Nat.le_refl _) (by rw [List.drop_length]; exact fol_blank [] b)
        rwa [List.take_length] at this
      have hs : sk false (a ++ 32 :: b) = j := by
        conv => lhs; rw [← List.take_append_drop j a, List.append_assoc]
        rw [sk_app hE, hz2, List.length_take, Nat.min_eq_left hjl]
        rfl
      have hd : (a ++ 32 :: b).drop j = a.drop j ++ 32 :: b := List.drop_append_of_le_length hjl
      have hsplit : a.drop j ++ 32 :: b = (a.drop j).take m ++ ((a.drop j).drop m ++ 32 :: b) := by
        rw [← List.append_assoc, List.take_append_drop]
      obtain ⟨g1, g2⟩ := tok_cut hb ht (fol_blank ((a.drop j).drop m) b)
      rw [← hsplit] at g1 g2
      have hstep := lxf_step (n := n) (k := k) (l := a ++ 32 :: b) (t := t) (m := m) h4 (by rw [hs, hd]; exact g2) (by rw [hs, hd]; exact g1)
      have hdd : ((a ++ 32 :: b).drop j).drop m = (a.drop j).drop m ++ 32 :: b := by
        rw [hd, List.drop_append_of_le_length (by rw [List.length_drop]; exact h2)]
      rw [hstep, hs, hdd, after_law b f (n + 1) (k + j + m) _ us (by rw [List.length_drop, List.length_drop]; omega) hr ((hn.drop j).drop m), Res.app, List.length_cons, List.length_drop, List.length_drop]
      have e1 : n + 1 + us.length = n + (us.length + 1) := by omega
      have e2 : k + j + m + (a.length - j - m) + 1 = k + a.length + 1 := by omega
      rw [e1, e2]

theorem after_ok {a b : Bytes} {l m : List Tok} (ha : lexed a = .ok l) (hb : lexed b = .ok m) (hn : NR a) (h1 : a.length ≤ 8000) (h2 : b.length ≤ 8000) (h3 : l.length + m.length ≤ 4000) :
    lexed (a ++ 32 :: b) = .ok (l ++ m.map (Tok.by (a.length + 1))) := by
  rw [lexed_lxf (by omega)] at ha hb
  rw [lexed_lxf (by rw [List.length_append, List.length_cons]; omega), after_law b (a.length + 1) 0 0 a l (Nat.lt_succ_self _) ha hn]
  have := lxf_by_ok (b.length + 1) 0 0 b m l.length (a.length + 1) (Nat.lt_succ_self _) hb (by omega)
  simp only [Nat.zero_add, Nat.add_zero] at this ⊢
  rw [this, Res.app_ok]

theorem after_err {a b : Bytes} {l : List Tok} {p e : Nat} (ha : lexed a = .ok l) (hb : lexed b = .err p e) (hn : NR a) (h1 : a.length ≤ 8000) (h2 : b.length ≤ 8000) :
    lexed (a ++ 32 :: b) = .err (a.length + 1 + p) e ∨ ∃ q, lexed (a ++ 32 :: b) = .err q 163 := by
  have hc : l.length ≤ 4000 := by have := toks_count a; rw [ha] at this; exact this
  rw [lexed_lxf (by omega)] at ha hb
  rw [lexed_lxf (by rw [List.length_append, List.length_cons]; omega), after_law b (a.length + 1) 0 0 a l (Nat.lt_succ_self _) ha hn]
  have := lxf_by_err (b.length + 1) 0 0 b p e l.length (a.length + 1) (Nat.lt_succ_self _) hb (by omega)
  simp only [Nat.zero_add, Nat.add_zero] at this ⊢
  rcases this with h | ⟨q, h⟩
  · rw [h, Res.app_err]; exact .inl rfl
  · rw [h, Res.app_err]; exact .inr ⟨q, rfl⟩
end Go.Proofs.YtpjfkfbijimliaaDoor
