import Derived.Test.YtpjfkfbijimliaaGreatDoorK
import Derived.Lib.ValidLaws
namespace Go.Proofs.YtpjfkfbijimliaaGreatDoor
open Go.RowKit Go.Pen

/-- what stands behind a backslash: the byte, how many bytes are taken -/
def esc : Bytes → Option (UInt8 × Nat)
  | [] => none
  | c :: cs =>
    match esc1 c with
    | some b => some (b, 1)
    | none =>
      if c.toNat = 120 then
        match cs with
        | a :: b :: _ => if 0 ≤ hexv a ∧ 0 ≤ hexv b then some ((16 * hexv a + hexv b).toNat.toUInt8, 3) else none
        | _ => none
      else none

/-- a text's bytes behind its first quote; how many bytes are taken, the last quote too -/
def txt : Nat → Bytes → Option (Bytes × Nat)
  | 0, _ => none
  | _ + 1, [] => none
  | f + 1, c :: cs =>
    if c.toNat = 39 then
      if cs.head? = some 39 then (txt f cs.tail).map fun p => (39 :: p.1, p.2 + 2) else some ([], 1)
    else if c.toNat = 92 then
      match esc cs with
      | none => none
      | some (b, k) => (txt f (cs.drop k)).map fun p => (b :: p.1, p.2 + 1 + k)
    else (txt f cs).map fun p => (c :: p.1, p.2 + 1)

theorem esc_le {l : Bytes} {b : UInt8} {k : Nat} (h : esc l = some (b, k)) : 1 ≤ k ∧ k ≤ l.length := by
  unfold esc at h
  split at h
  · cases h
  · split at h
    · cases h; simp
    · split at h
      · split at h
        · split at h
          · cases h; simp
          · cases h
        · cases h
      · cases h

theorem txt_nil (f : Nat) : txt f [] = none := by cases f <;> rfl

theorem txt_le : ∀ {f : Nat} {l t : Bytes} {n : Nat}, txt f l = some (t, n) → 1 ≤ n ∧ n ≤ l.length ∧ t.length + 1 ≤ n
  | 0, _, _, _, h => by cases h
  | f + 1, [], _, _, h => by cases h
  | f + 1, c :: cs, t, n, h => by
    rw [txt] at h
    split at h
    · split at h
      · rename_i h2
        rw [Option.map_eq_some_iff] at h
        obtain ⟨⟨t', n'⟩, h3, h4⟩ := h
        obtain ⟨h5, h6, h7⟩ := txt_le h3
        cases cs with
        | nil => simp at h2
        | cons d ds => simp at h4 h6 ⊢; obtain ⟨rfl, rfl⟩ := h4; simp; omega
      · cases h; simp
    · split at h
      · split at h
        · cases h
        · rename_i b k h2
          rw [Option.map_eq_some_iff] at h
          obtain ⟨⟨t', n'⟩, h3, h4⟩ := h
          obtain ⟨h5, h6, h7⟩ := txt_le h3
          have := esc_le h2
          simp at h4 h6 ⊢; obtain ⟨rfl, rfl⟩ := h4; simp; omega
      · rw [Option.map_eq_some_iff] at h
        obtain ⟨⟨t', n'⟩, h3, h4⟩ := h
        obtain ⟨h5, h6, h7⟩ := txt_le h3
        simp at h4 h6 ⊢; obtain ⟨rfl, rfl⟩ := h4; simp; omega

/-- what a text is found to be: 0 and the bytes; or an error -/
def txr (l : Bytes) : Except Nat (Bytes × Nat) :=
  match txt l.length l with
  | none => .error 161
  | some (t, n) => if !Lib.validD t then .error 161 else if 1000 < t.length then .error 162 else .ok (t, n)

structure Tok where
  kind : Nat
  text : Bytes
  number : Nat
  at_ : Nat
  deriving DecidableEq

/-- the token that begins here, how many bytes it takes -/
def tok (k : Nat) (l : Bytes) : Except Nat (Tok × Nat) :=
  match l with
  | [] => .error 0
  | c :: cs =>
    if dig c then
      if num (l.takeWhile dig) ≤ 9223372036854775807 then .ok (⟨2, [], num (l.takeWhile dig), k⟩, (l.takeWhile dig).length) else .error 162
    else if let_ c then
      if 32 < (l.takeWhile ldg).length then .error 162 else .ok (⟨1, (l.takeWhile ldg).map low, 0, k⟩, (l.takeWhile ldg).length)
    else if c.toNat = 39 then
      match txr cs with
      | .error e => .error e
      | .ok (t, n) => .ok (⟨3, t, 0, k⟩, n + 1)
    else .ok (⟨4, sgn l, 0, k⟩, (sgn l).length)

inductive Res where
  | ok (l : List Tok)
  | err (at_ e : Nat)
  deriving DecidableEq

def Res.cons (t : Tok) : Res → Res
  | .ok l => .ok (t :: l)
  | .err a e => .err a e

/-- the tokens from a place on at which no blank stands, n are there already; g: those behind -/
def lxb (g : Nat → Nat → Bytes → Res) (n k : Nat) (r : Bytes) : Res :=
  if r.isEmpty then .ok []
  else if !beg r then .err k 160
  else if n = 4000 then .err k 163
  else match tok k r with
    | .error e => .err k e
    | .ok (t, m) => (g (n + 1) (k + m) (r.drop m)).cons t

/-- the tokens from a place on, n are there already -/
def lx : Nat → Nat → Nat → Bytes → Res
  | 0 => fun _ _ _ => .ok []
  | f + 1 => fun n k l => lxb (lx f) n (k + sk false l) (l.drop (sk false l))

def lexed (l : Bytes) : Res := if 16384 < l.length then .err 16384 162 else lx (l.length + 1) 0 0 l

theorem sk_le : ∀ (b : Bool) (l : Bytes), sk b l ≤ l.length
  | _, [] => by simp [sk]
  | false, c :: cs => by
    have h1 := sk_le false cs
    have h2 := sk_le true cs
    rw [sk]
    split
    · simp; omega
    · split
      · simp; omega
      · simp
  | true, c :: cs => by
    have h1 := sk_le false cs
    have h2 := sk_le true cs
    rw [sk]
    split <;> simp <;> omega

theorem sgn_prefix (l : Bytes) : (sgn l) <+: l := by
  unfold sgn
  cases h : sgs.find? fun x => x.isPrefixOf l with
  | none => exact List.nil_prefix
  | some x =>
    have := List.find?_some h
    exact List.isPrefixOf_iff_prefix.1 this

theorem run_pos {p : UInt8 → Bool} {c : UInt8} {cs : Bytes} (h : p c = true) : 1 ≤ ((c :: cs).takeWhile p).length := by
  rw [List.takeWhile_cons, h]; simp

theorem run_le (p : UInt8 → Bool) (l : Bytes) : (l.takeWhile p).length ≤ l.length := (List.takeWhile_prefix p).length_le

theorem tok_le {k m : Nat} {l : Bytes} {t : Tok} (hb : beg l = true) (h : tok k l = .ok (t, m)) : 1 ≤ m ∧ m ≤ l.length ∧ t.at_ = k := by
  cases l with
  | nil => cases h
  | cons c cs =>
    rw [tok] at h
    split at h
    · rename_i hd
      split at h
      · cases h; exact ⟨run_pos hd, run_le _ _, rfl⟩
      · cases h
    · split at h
      · rename_i hl
        split at h
        · cases h
        · cases h; exact ⟨run_pos (by simp [ldg, hl]), run_le _ _, rfl⟩
      · split at h
        · split at h
          · cases h
          · rename_i t' n' hx
            cases h
            rw [txr] at hx
            split at hx
            · cases hx
            · rename_i t2 n2 ht
              have := txt_le ht
              split at hx
              · cases hx
              · split at hx
                · cases hx
                · cases hx; simp; omega
        · rename_i h1 h2 h3
          cases h
          refine ⟨?_, (sgn_prefix _).length_le, rfl⟩
          rw [beg] at hb
          have h3' : (c == 39) = false := by
            rw [beq_eq_false_iff_ne]; intro e; exact h3 (by rw [e]; rfl)
          simp [h1, h2, h3'] at hb
          cases hs : sgn (c :: cs) with
          | nil => simp [hs] at hb
          | cons x xs => simp

/-- tokens ahead of what comes -/
def Res.app : List Tok → Res → Res
  | [], r => r
  | t :: ts, r => (Res.app ts r).cons t

theorem Res.app_cons (ts : List Tok) (t : Tok) (r : Res) : Res.app ts (r.cons t) = Res.app (ts ++ [t]) r := by
  induction ts with
  | nil => rfl
  | cons x xs ih => simp only [Res.app, List.cons_append, ih]

theorem Res.app_ok (ts us : List Tok) : Res.app ts (.ok us) = .ok (ts ++ us) := by
  induction ts with
  | nil => rfl
  | cons x xs ih => simp only [Res.app, ih, Res.cons, List.cons_append]

theorem Res.app_err (ts : List Tok) (a e : Nat) : Res.app ts (.err a e) = .err a e := by
  induction ts with
  | nil => rfl
  | cons x xs ih => simp only [Res.app, ih, Res.cons]
end Go.Proofs.YtpjfkfbijimliaaGreatDoor
