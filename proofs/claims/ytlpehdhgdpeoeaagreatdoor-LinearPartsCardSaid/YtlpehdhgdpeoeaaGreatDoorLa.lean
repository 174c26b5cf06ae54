import Derived.Test.YtlpehdhgdpeoeaaGreatDoorFa
/- Orders; updates put together. No program in sight. -/
namespace Go.Proofs.YtlpehdhgdpeoeaaGreatDoor
open Go.RowKit Go.Pen

/-- a comparison that is an order of what it cannot tell apart -/
structure Ord3 {α : Type} (c : α → α → Int) : Prop where
  rng : ∀ a b, c a b = -1 ∨ c a b = 0 ∨ c a b = 1
  anti : ∀ a b, c b a = - c a b
  tr : ∀ a b d, c a b ≤ 0 → c b d ≤ 0 → c a d ≤ 0
theorem Ord3.self {α : Type} {c : α → α → Int} (h : Ord3 c) (a : α) : c a a = 0 := by have := h.anti a a; omega
theorem Ord3.left {α : Type} {c : α → α → Int} (h : Ord3 c) {a b : α} (e : c a b = 0) (d : α) : c a d = c b d := by
  have e2 := h.anti a b
  have r1 := h.rng a d
  have r2 := h.rng b d
  have t1 := h.tr a b d
  have t2 := h.tr b a d
  have t3 := h.tr d a b
  have t4 := h.tr d b a
  have a1 := h.anti a d
  have a2 := h.anti b d
  omega
theorem Ord3.lt {α : Type} {c : α → α → Int} (h : Ord3 c) {a b d : α} (h1 : c a b < 0) (h2 : c b d ≤ 0) : c a d < 0 := by
  have t := h.tr a b d (by omega) h2
  have t2 := h.tr b d a h2
  have a1 := h.anti a b
  have a2 := h.anti a d
  omega
theorem Ord3.lt' {α : Type} {c : α → α → Int} (h : Ord3 c) {a b d : α} (h1 : c a b ≤ 0) (h2 : c b d < 0) : c a d < 0 := by
  have t := h.tr a b d h1 (by omega)
  have t2 := h.tr d a b
  have a1 := h.anti b d
  have a2 := h.anti a d
  omega

/-- first one, then the other -/
def lex2 {α : Type} (c d : α → α → Int) (a b : α) : Int := if c a b = 0 then d a b else c a b
theorem Ord3.lex2 {α : Type} {c d : α → α → Int} (h : Ord3 c) (k : Ord3 d) : Ord3 (lex2 c d) := by
  refine ⟨fun a b => ?_, fun a b => ?_, fun a b e => ?_⟩
  · unfold YtlpehdhgdpeoeaaGreatDoor.lex2
    split
    · exact k.rng a b
    · exact h.rng a b
  · unfold YtlpehdhgdpeoeaaGreatDoor.lex2
    have := h.anti a b
    have := k.anti a b
    split <;> split <;> omega
  · unfold YtlpehdhgdpeoeaaGreatDoor.lex2
    intro h1 h2
    by_cases e1 : c a b = 0
    · rw [if_pos e1] at h1
      rw [h.left e1 e]
      split
      · next e2 => rw [if_pos e2] at h2; exact k.tr a b e h1 h2
      · next e2 => rw [if_neg e2] at h2; exact h2
    · rw [if_neg e1] at h1
      have r := h.rng a b
      by_cases e2 : c b e = 0
      · have := h.lt (a := a) (b := b) (d := e) (by omega) (by omega)
        rw [if_neg (by omega)]
        omega
      · rw [if_neg e2] at h2
        have := h.lt (a := a) (b := b) (d := e) (by omega) h2
        rw [if_neg (by omega)]
        omega
/-- by what a function tells -/
theorem Ord3.by {α β : Type} {c : β → β → Int} (h : Ord3 c) (f : α → β) : Ord3 (fun a b => c (f a) (f b)) := ⟨fun _ _ => h.rng _ _, fun _ _ => h.anti _ _, fun _ _ _ => h.tr _ _ _⟩
/-- lists, one behind the other; a beginning is ahead -/
def lexL {α : Type} (c : α → α → Int) : List α → List α → Int
  | [], [] => 0
  | [], _ :: _ => -1
  | _ :: _, [] => 1
  | a :: l, b :: m => if c a b = 0 then lexL c l m else c a b
theorem Ord3.lexL {α : Type} {c : α → α → Int} (h : Ord3 c) : Ord3 (lexL c) := by
  refine ⟨fun a => ?_, fun a => ?_, fun a => ?_⟩
  · induction a with
    | nil => intro b; cases b <;> simp [YtlpehdhgdpeoeaaGreatDoor.lexL]
    | cons x l ih =>
      intro b
      cases b with
      | nil => simp [YtlpehdhgdpeoeaaGreatDoor.lexL]
      | cons y m =>
        simp only [YtlpehdhgdpeoeaaGreatDoor.lexL]
        split
        · exact ih m
        · exact h.rng x y
  · induction a with
    | nil => intro b; cases b <;> simp [YtlpehdhgdpeoeaaGreatDoor.lexL]
    | cons x l ih =>
      intro b
      cases b with
      | nil => simp [YtlpehdhgdpeoeaaGreatDoor.lexL]
      | cons y m =>
        simp only [YtlpehdhgdpeoeaaGreatDoor.lexL]
        have := h.anti x y
        have := ih m
        split <;> split <;> omega
  · induction a with
    | nil => intro b d; cases b <;> cases d <;> simp [YtlpehdhgdpeoeaaGreatDoor.lexL]
    | cons x l ih =>
      intro b d
      cases b with
      | nil => simp [YtlpehdhgdpeoeaaGreatDoor.lexL]
      | cons y m =>
        cases d with
        | nil => simp [YtlpehdhgdpeoeaaGreatDoor.lexL]
        | cons z n =>
          simp only [YtlpehdhgdpeoeaaGreatDoor.lexL]
          intro h1 h2
          have r := h.rng x y
          by_cases e1 : c x y = 0
          · rw [if_pos e1] at h1
            rw [h.left e1 z]
            split
            · next e2 => rw [if_pos e2] at h2; exact ih m n h1 h2
            · next e2 => rw [if_neg e2] at h2; exact h2
          · rw [if_neg e1] at h1
            by_cases e2 : c y z = 0
            · have := h.lt (a := x) (b := y) (d := z) (by omega) (by omega)
              rw [if_neg (by omega)]
              omega
            · rw [if_neg e2] at h2
              have := h.lt (a := x) (b := y) (d := z) (by omega) h2
              rw [if_neg (by omega)]
              omega
theorem lexL_eq {α : Type} {c : α → α → Int} {S : α → Prop} (h : ∀ a b, S a → S b → c a b = 0 → a = b) : ∀ (l m : List α), (∀ a ∈ l, S a) → (∀ a ∈ m, S a) → lexL c l m = 0 → l = m
  | [], [], _, _, _ => rfl
  | [], _ :: _, _, _, e => by simp [lexL] at e
  | _ :: _, [], _, _, e => by simp [lexL] at e
  | a :: l, b :: m, h1, h2, e => by
    simp only [lexL] at e
    split at e
    · next e1 =>
      rw [h a b (h1 a (by simp)) (h2 b (by simp)) e1, lexL_eq h l m (fun x hx => h1 x (by simp [hx])) (fun x hx => h2 x (by simp [hx])) e]
    · next e1 => exact absurd e e1

/-- numbers -/
def cmpI (a b : Int) : Int := if a < b then -1 else if a = b then 0 else 1
theorem ord_I : Ord3 cmpI := by
  refine ⟨fun a b => ?_, fun a b => ?_, fun a b d => ?_⟩ <;> unfold cmpI <;> (repeat' split) <;> omega
theorem cmpI_eq {a b : Int} (h : cmpI a b = 0) : a = b := by
  unfold cmpI at h
  split at h
  · cases h
  · split at h
    · assumption
    · cases h
/-- bytes -/
def cmpB (a b : UInt8) : Int := if a < b then -1 else if b < a then 1 else 0
theorem cmpB_I (a b : UInt8) : cmpB a b = cmpI a.toNat b.toNat := by
  unfold cmpB cmpI
  have h1 : a < b ↔ a.toNat < b.toNat := UInt8.lt_iff_toNat_lt
  have h2 : b < a ↔ b.toNat < a.toNat := UInt8.lt_iff_toNat_lt
  by_cases e1 : a < b
  · have := h1.1 e1
    have e3 : (a.toNat : Int) < b.toNat := by omega
    rw [if_pos e1, if_pos e3]
  · have e3 : ¬ (a.toNat : Int) < b.toNat := fun h => e1 (h1.2 (by omega))
    by_cases e2 : b < a
    · have := h2.1 e2
      have e4 : ¬ (a.toNat : Int) = b.toNat := by omega
      rw [if_neg e1, if_pos e2, if_neg e3, if_neg e4]
    · have e4 : (a.toNat : Int) = b.toNat := by
        have : ¬ (b.toNat : Int) < a.toNat := fun h => e2 (h2.2 (by omega))
        omega
      rw [if_neg e1, if_neg e2, if_neg e3, if_pos e4]
theorem ord_B : Ord3 cmpB := by
  have h := ord_I.by (fun a : UInt8 => (a.toNat : Int))
  have e : cmpB = fun a b : UInt8 => cmpI a.toNat b.toNat := funext fun a => funext fun b => cmpB_I a b
  rw [e]; exact h
theorem cmpB_eq {a b : UInt8} (h : cmpB a b = 0) : a = b := by
  rw [cmpB_I] at h
  have := cmpI_eq h
  exact UInt8.toNat_inj.1 (by omega)
theorem cmpL_lex : ∀ (a b : List UInt8), cmpL a b = lexL cmpB a b
  | [], [] => rfl
  | [], _ :: _ => rfl
  | _ :: _, [] => rfl
  | a :: l, b :: m => by
    simp only [cmpL, lexL]
    rw [cmpL_lex l m]
    unfold cmpB
    by_cases h1 : a < b
    · simp [h1]
    · by_cases h2 : b < a
      · simp [h1, h2]
      · simp [h1, h2]
/-- truth values: false is ahead -/
def cmpBo (a b : Bool) : Int := if a = b then 0 else if b = true then -1 else 1
theorem ord_Bo : Ord3 cmpBo := by
  refine ⟨fun a b => ?_, fun a b => ?_, fun a b d => ?_⟩
  · revert a b; decide
  · revert a b; decide
  · revert a b d; decide
/-- data: by their kinds, then by what they hold -/
def cmpF (a b : Dat) : Int := if a.kind = b.kind then cmpD a b else if a.kind < b.kind then -1 else 1
theorem cmpD_by (k : Int) : ∃ c : Dat → Dat → Int, Ord3 c ∧ ∀ a b : Dat, a.kind = k → cmpD a b = c a b := by
  by_cases h2 : k = 2
  · exact ⟨_, ord_Bo.by Dat.bool, fun a b h => by simp [cmpD, h, h2, cmpBo]⟩
  by_cases h3 : k = 3
  · refine ⟨_, ord_I.by Dat.int, fun a b h => ?_⟩
    simp only [cmpD, h, h3, cmpI]
    rw [if_neg (by decide), if_pos trivial]
    split
    · rfl
    · split
      · rw [if_neg (by omega)]
      · rw [if_pos (by omega)]
  by_cases h4 : k = 4
  · refine ⟨_, ord_B.lexL.by (fun d => d.text.data.toList), fun a b h => ?_⟩
    simp only [cmpD, h, h4]
    rw [if_neg (by decide), if_neg (by decide), if_pos trivial, cmpL_lex]
  · exact ⟨fun _ _ => 0, ⟨fun _ _ => .inr (.inl rfl), fun _ _ => rfl, fun _ _ _ _ _ => Int.le_refl _⟩, fun a b h => by simp [cmpD, h, h2, h3, h4]⟩
theorem ord_F : Ord3 cmpF := by
  refine ⟨fun a b => ?_, fun a b => ?_, fun a b d => ?_⟩
  · obtain ⟨c, hc, he⟩ := cmpD_by a.kind
    unfold cmpF
    rw [he a b rfl]
    have := hc.rng a b
    split
    · exact this
    · split <;> simp
  · obtain ⟨c, hc, he⟩ := cmpD_by a.kind
    unfold cmpF
    by_cases e : a.kind = b.kind
    · rw [if_pos e, if_pos e.symm, he a b rfl, he b a e.symm]
      exact hc.anti a b
    · rw [if_neg e, if_neg (Ne.symm e)]
      split <;> split <;> omega
  · obtain ⟨c, hc, he⟩ := cmpD_by a.kind
    unfold cmpF
    by_cases e : a.kind = b.kind
    · by_cases e2 : b.kind = d.kind
      · rw [if_pos e, if_pos e2, if_pos (e.trans e2), he a b rfl, he b d e.symm, he a d rfl]
        exact hc.tr a b d
      · have e3 : ¬ a.kind = d.kind := fun h => e2 (e.symm.trans h)
        rw [if_pos e, if_neg e2, if_neg e3, e]
        exact fun _ h => h
    · by_cases e2 : b.kind = d.kind
      · have e3 : ¬ a.kind = d.kind := fun h => e (h.trans e2.symm)
        rw [if_neg e, if_pos e2, if_neg e3, e2]
        exact fun h _ => h
      · rw [if_neg e, if_neg e2]
        intro h1 h2
        have l1 : a.kind < b.kind := by
          split at h1
          · assumption
          · omega
        have l2 : b.kind < d.kind := by
          split at h2
          · assumption
          · omega
        have e3 : ¬ a.kind = d.kind := by omega
        rw [if_neg e3, if_pos (by omega)]
        decide
theorem okD_parts {d : Dat} (h : okD d = true) : (1 ≤ d.kind ∧ d.kind ≤ 4) ∧ (d.kind ≠ 2 → d.bool = false) ∧ (d.kind ≠ 3 → d.int = 0) ∧ (d.kind ≠ 4 → d.text.data.toList = []) := by
  have hc : chkD d = 0 := by simpa [okD] using h
  unfold chkD at hc
  split at hc
  · cases hc
  · next h1 =>
    split at hc
    · cases hc
    · next h2 =>
      refine ⟨by omega, fun hk => ?_, fun hk => ?_, fun hk => ?_⟩
      · cases hb : d.bool
        · rfl
        · exact absurd (.inl ⟨hk, hb⟩) h2
      · exact Decidable.byContradiction fun hn => h2 (.inr (.inl ⟨hk, hn⟩))
      · exact Decidable.byContradiction fun hn => h2 (.inr (.inr ⟨hk, hn⟩))
/-- what may be, and is not told apart, is the same -/
theorem cmpF_eq {a b : Dat} (ha : okD a = true) (hb : okD b = true) (h : cmpF a b = 0) : a = b := by
  unfold cmpF at h
  split at h
  · next e =>
    obtain ⟨ka, ba, ia, ta⟩ := a
    obtain ⟨kb, bb, ib, tb⟩ := b
    simp only at e
    subst e
    have h1 := okD_parts ha
    have h2 := okD_parts hb
    simp only at h1 h2
    obtain ⟨r1, p1, p2, p3⟩ := h1
    obtain ⟨-, q1, q2, q3⟩ := h2
    unfold cmpD at h
    simp only at h
    have hbool : ba = bb := by
      by_cases e2 : ka = 2
      · rw [if_pos e2] at h
        split at h
        · assumption
        · split at h <;> cases h
      · rw [p1 e2, q1 e2]
    have hint : ia = ib := by
      by_cases e3 : ka = 3
      · rw [if_neg (by omega), if_pos e3] at h
        split at h
        · cases h
        · split at h
          · cases h
          · omega
      · rw [p2 e3, q2 e3]
    have htext : ta = tb := by
      by_cases e4 : ka = 4
      · rw [if_neg (by omega), if_neg (by omega), if_pos e4, cmpL_lex] at h
        have := lexL_eq (S := fun _ => True) (fun a b _ _ e => cmpB_eq e) _ _ (fun _ _ => trivial) (fun _ _ => trivial) h
        exact ByteArray.ext (Array.toList_inj.1 this)
      · have := p3 e4
        have := q3 e4
        exact ByteArray.ext (Array.toList_inj.1 (by rw [p3 e4, q3 e4]))
    rw [hbool, hint, htext]
  · split at h <;> cases h
end Go.Proofs.YtlpehdhgdpeoeaaGreatDoor
/- Updates put together: what they come to hangs on their totals alone. No program in sight. -/
namespace Go.Proofs.YtlpehdhgdpeoeaaGreatDoor
open Go.RowKit Go.Pen

/-- an update -/
structure Upd where
  row : List Dat
  epoch : Int
  loops : List Int
  diff : Int
def cmpR (a b : List Dat) : Int := lexL cmpF a b
def cmpT : Upd → Upd → Int := lex2 (fun a b => cmpI a.loops.length b.loops.length) (lex2 (fun a b => cmpI a.epoch b.epoch) (fun a b => lexL cmpI a.loops b.loops))
/-- by row, then by time -/
def cmpK : Upd → Upd → Int := lex2 (fun a b => cmpR a.row b.row) cmpT
theorem ord_R : Ord3 cmpR := ord_F.lexL
theorem ord_T : Ord3 cmpT := (ord_I.by fun u : Upd => (u.loops.length : Int)).lex2 ((ord_I.by Upd.epoch).lex2 (ord_I.lexL.by Upd.loops))
theorem ord_K : Ord3 cmpK := (ord_R.by Upd.row).lex2 ord_T
def Upd.okR (u : Upd) : Prop := ∀ d ∈ u.row, okD d = true
theorem lex2_eq {α : Type} {c d : α → α → Int} {a b : α} (h : lex2 c d a b = 0) : c a b = 0 ∧ d a b = 0 := by
  unfold lex2 at h
  split at h
  · next e => exact ⟨e, h⟩
  · next e => exact absurd h e
theorem cmpK_eq {a b : Upd} (ha : a.okR) (hb : b.okR) (h : cmpK a b = 0) : a.row = b.row ∧ a.epoch = b.epoch ∧ a.loops = b.loops := by
  obtain ⟨h1, h2⟩ := lex2_eq h
  obtain ⟨-, h3⟩ := lex2_eq h2
  obtain ⟨h4, h5⟩ := lex2_eq h3
  exact ⟨lexL_eq (S := fun d => okD d = true) (fun _ _ h1 h2 h3 => cmpF_eq h1 h2 h3) _ _ ha hb h1, cmpI_eq h4, lexL_eq (S := fun _ => True) (fun _ _ _ _ h => cmpI_eq h) _ _ (fun _ _ => trivial) (fun _ _ => trivial) h5⟩

/-- how many are not behind one, from the end -/
def cutN (u : Upd) (l : List Upd) : Nat → Nat
  | 0 => 0
  | k + 1 => if 0 < cmpK (l.getD k u) u then cutN u l k else k + 1
/-- one more -/
def addU (l : List Upd) (u : Upd) : List Upd :=
  if 0 < cutN u l l.length ∧ cmpK (l.getD (cutN u l l.length - 1) u) u = 0 then
    l.set (cutN u l l.length - 1) { l.getD (cutN u l l.length - 1) u with diff := wrap64 ((l.getD (cutN u l l.length - 1) u).diff + u.diff) }
  else l.take (cutN u l l.length) ++ u :: l.drop (cutN u l l.length)
/-- put together -/
def sumU (l : List Upd) : List Upd := (l.foldl addU []).filter fun u => decide (u.diff ≠ 0)
/-- strictly ascending -/
def Asc (l : List Upd) : Prop := l.Pairwise fun a b => cmpK a b < 0
/-- how much there is of one -/
def tot (q : Upd) (l : List Upd) : Int := (l.map fun x => if cmpK x q = 0 then x.diff else 0).sum
def InR (n : Int) : Prop := -9223372036854775808 ≤ n ∧ n ≤ 9223372036854775807

theorem tot_nil (q : Upd) : tot q [] = 0 := rfl
theorem tot_append (q : Upd) (a b : List Upd) : tot q (a ++ b) = tot q a + tot q b := by simp [tot]
theorem tot_cons (q u : Upd) (l : List Upd) : tot q (u :: l) = (if cmpK u q = 0 then u.diff else 0) + tot q l := by simp [tot]
theorem tot_one (q u : Upd) : tot q [u] = if cmpK u q = 0 then u.diff else 0 := by rw [tot_cons, tot_nil, Int.add_zero]
theorem cut_spec (u : Upd) (l : List Upd) : ∀ n, cutN u l n ≤ n ∧ (∀ i, cutN u l n ≤ i → i < n → 0 < cmpK (l.getD i u) u) ∧ (0 < cutN u l n → cmpK (l.getD (cutN u l n - 1) u) u ≤ 0)
  | 0 => ⟨Nat.le_refl _, fun i _ h => by omega, fun h => absurd h (Nat.lt_irrefl _)⟩
  | n + 1 => by
    simp only [cutN]
    obtain ⟨h1, h2, h3⟩ := cut_spec u l n
    split
    · next h =>
      refine ⟨by omega, fun i hi hn => ?_, h3⟩
      by_cases e : i = n
      · subst e; exact h
      · exact h2 i hi (by omega)
    · next h => exact ⟨Nat.le_refl _, fun i hi hn => by omega, fun _ => by rw [Nat.add_sub_cancel]; omega⟩
theorem wrap_mod (n : Int) : (wrap64 n - n) % 18446744073709551616 = 0 := by unfold wrap64; omega
theorem wrap_in (n : Int) : InR (wrap64 n) := by unfold wrap64 InR; omega
theorem getD_lt {l : List Upd} {i : Nat} {u : Upd} (h : i < l.length) : l.getD i u = l[i] := by simp [h]

theorem tot_set (q x y : Upd) (l : List Upd) (i : Nat) (hx : l[i]? = some x) (hk : cmpK y q = 0 ↔ cmpK x q = 0) : tot q (l.set i y) = tot q l + (if cmpK x q = 0 then y.diff - x.diff else 0) := by
  induction l generalizing i with
  | nil => simp at hx
  | cons z l ih =>
    cases i with
    | zero =>
      simp at hx; subst hx
      simp only [List.set_cons_zero, tot_cons]
      by_cases e : cmpK z q = 0
      · rw [if_pos (hk.2 e), if_pos e, if_pos e]; omega
      · rw [if_neg (fun h => e (hk.1 h)), if_neg e, if_neg e]; omega
    | succ i =>
      simp only [List.set_cons_succ, tot_cons]
      rw [ih i (by simpa using hx)]
      omega
theorem cmpK_diff (x q : Upd) (n : Int) : cmpK { x with diff := n } q = cmpK x q := rfl
theorem cmpK_diff' (x q : Upd) (n : Int) : cmpK q { x with diff := n } = cmpK q x := rfl

/-- one more: its total, and no other one's, grows -/
theorem tot_add (q u : Upd) (l : List Upd) : (tot q (addU l u) - (tot q l + tot q [u])) % 18446744073709551616 = 0 := by
  obtain ⟨h1, h2, h3⟩ := cut_spec u l l.length
  unfold addU
  obtain ⟨k, ek⟩ : ∃ k, k = cutN u l l.length := ⟨_, rfl⟩
  rw [← ek] at h1 h2 h3 ⊢
  by_cases h : 0 < k ∧ cmpK (l.getD (k - 1) u) u = 0
  · rw [if_pos h]
    have hl : k - 1 < l.length := by omega
    have hx : l[k - 1]? = some (l.getD (k - 1) u) := by rw [getD_lt hl]; exact List.getElem?_eq_getElem hl
    rw [tot_set q _ _ l (k - 1) hx (by rw [cmpK_diff]), tot_one]
    have he := ord_K.left h.2 q
    rw [← he]
    have hw := wrap_mod ((l.getD (k - 1) u).diff + u.diff)
    dsimp only
    split
    · omega
    · omega
  · rw [if_neg h]
    conv => lhs; lhs; rhs; lhs; rw [← List.take_append_drop k l]
    rw [tot_append, tot_append, tot_cons, tot_one]
    omega
theorem asc_get {l : List Upd} (h : Asc l) {i j : Nat} (hij : i < j) (hj : j < l.length) : cmpK (l[i]'(by omega)) l[j] < 0 := List.pairwise_iff_getElem.1 h i j _ _ hij
theorem asc_add {l : List Upd} (h : Asc l) (u : Upd) : Asc (addU l u) := by
  obtain ⟨h1, h2, h3⟩ := cut_spec u l l.length
  unfold addU
  obtain ⟨k, ek⟩ : ∃ k, k = cutN u l l.length := ⟨_, rfl⟩
  rw [← ek] at h1 h2 h3 ⊢
  by_cases hc : 0 < k ∧ cmpK (l.getD (k - 1) u) u = 0
  · rw [if_pos hc]
    refine List.pairwise_iff_getElem.2 fun i j hi hj hij => ?_
    simp only [List.length_set] at hi hj
    have hlt := asc_get h hij hj
    rw [List.getElem_set, List.getElem_set]
    split
    · next e =>
      subst e
      rw [if_neg (by omega), cmpK_diff]
      have e := congrArg (fun z => cmpK z l[j]) (getD_lt (u := u) hi)
      omega
    · split
      · next e =>
        subst e
        rw [cmpK_diff']
        have e := congrArg (fun z => cmpK l[i] z) (getD_lt (u := u) hj)
        omega
      · exact hlt
  · rw [if_neg hc]
    have hp : ∀ i, (hi : i < k) → cmpK (l[i]'(by omega)) u < 0 := fun i hi => by
      have h4 := h3 (by omega)
      have h5 : cmpK (l.getD (k - 1) u) u ≠ 0 := fun e => hc ⟨by omega, e⟩
      have hk1 : k - 1 < l.length := by omega
      rw [getD_lt hk1] at h4 h5
      by_cases e : i = k - 1
      · subst e; omega
      · have := asc_get h (i := i) (j := k - 1) (by omega) hk1
        exact ord_K.lt this h4
    have hs : ∀ i, (hi : i < l.length) → k ≤ i → cmpK u l[i] < 0 := fun i hi hk => by
      have := h2 i hk hi
      rw [getD_lt hi] at this
      have := ord_K.anti l[i] u
      omega
    have hl := h
    unfold Asc at h ⊢
    rw [← List.take_append_drop k l] at h
    obtain ⟨q1, q2, q3⟩ := List.pairwise_append.1 h
    refine List.pairwise_append.2 ⟨q1, List.pairwise_cons.2 ⟨fun x hx => ?_, q2⟩, fun a ha b hb => ?_⟩
    · obtain ⟨i, hi, rfl⟩ := List.getElem_of_mem hx
      rw [List.getElem_drop]
      rw [List.length_drop] at hi
      exact hs _ (by omega) (by omega)
    · rcases List.mem_cons.1 hb with rfl | hb
      · obtain ⟨i, hi, rfl⟩ := List.getElem_of_mem ha
        rw [List.getElem_take]
        rw [List.length_take] at hi
        exact hp i (by omega)
      · exact q3 a ha b hb
theorem mem_add {l : List Upd} {u x : Upd} (h : x ∈ addU l u) : x = u ∨ x ∈ l ∨ ∃ y ∈ l, ∃ n, x = { y with diff := wrap64 n } := by
  unfold addU at h
  split at h
  · next hc =>
    obtain ⟨h1, -, -⟩ := cut_spec u l l.length
    rcases List.mem_or_eq_of_mem_set h with h | h
    · exact .inr (.inl h)
    · refine .inr (.inr ⟨_, ?_, _, h⟩)
      have hl : cutN u l l.length - 1 < l.length := by omega
      rw [getD_lt hl]
      exact List.getElem_mem hl
  · rcases List.mem_append.1 h with h | h
    · exact .inr (.inl (List.mem_of_mem_take h))
    · rcases List.mem_cons.1 h with h | h
      · exact .inl h
      · exact .inr (.inl (List.mem_of_mem_drop h))
/-- what is put together: ascending; of the same totals; rows and numbers that may be -/
theorem fold_spec : ∀ (l a : List Upd), Asc a → (∀ u ∈ a, u.okR ∧ InR u.diff) → (∀ u ∈ l, u.okR ∧ InR u.diff) →
    Asc (l.foldl addU a) ∧ (∀ u ∈ l.foldl addU a, u.okR ∧ InR u.diff) ∧ ∀ q, (tot q (l.foldl addU a) - (tot q a + tot q l)) % 18446744073709551616 = 0
  | [], a, h1, h2, _ => ⟨h1, h2, fun q => by rw [tot_nil]; simp⟩
  | u :: l, a, h1, h2, h3 => by
    have h4 : ∀ x ∈ addU a u, x.okR ∧ InR x.diff := fun x hx => by
      rcases mem_add hx with rfl | hx | ⟨y, hy, n, rfl⟩
      · exact h3 _ (by simp)
      · exact h2 x hx
      · exact ⟨(h2 y hy).1, wrap_in n⟩
    obtain ⟨g1, g2, g3⟩ := fold_spec l (addU a u) (asc_add h1 u) h4 (fun x hx => h3 x (by simp [hx]))
    refine ⟨g1, g2, fun q => ?_⟩
    have e1 := g3 q
    have e2 := tot_add q u a
    rw [List.foldl_cons, tot_cons]
    rw [tot_one] at e2
    omega
theorem tot_none {q : Upd} {l : List Upd} (h : ∀ x ∈ l, cmpK x q ≠ 0) : tot q l = 0 := by
  induction l with
  | nil => rfl
  | cons x l ih =>
    rw [tot_cons, if_neg (h x (by simp)), ih fun y hy => h y (by simp [hy])]
    rfl
theorem tot_filter (q : Upd) (l : List Upd) : tot q (l.filter fun u => decide (u.diff ≠ 0)) = tot q l := by
  induction l with
  | nil => rfl
  | cons x l ih =>
    rw [List.filter_cons]
    split
    · rw [tot_cons, tot_cons, ih]
    · next h =>
      have h0 : x.diff = 0 := by simpa using h
      rw [tot_cons, ih, h0]
      split <;> omega
/-- two ascending lists of the same totals are the same -/
theorem asc_uniq : ∀ (a b : List Upd), Asc a → Asc b → (∀ u ∈ a, u.okR ∧ InR u.diff ∧ u.diff ≠ 0) → (∀ u ∈ b, u.okR ∧ InR u.diff ∧ u.diff ≠ 0) →
    (∀ q, (tot q a - tot q b) % 18446744073709551616 = 0) → a = b
  | [], [], _, _, _, _, _ => rfl
  | [], y :: b, _, h2, _, h4, h5 => by
    exfalso
    have e := h5 y
    obtain ⟨-, r, n⟩ := h4 y (by simp)
    have hp := (List.pairwise_cons.1 h2).1
    rw [tot_cons, if_pos (ord_K.self y), tot_none (l := b) (fun x hx => by have := hp x hx; have := ord_K.anti y x; omega)] at e
    rw [tot_nil] at e
    unfold InR at r
    omega
  | x :: a, [], h1, _, h3, _, h5 => by
    exfalso
    have e := h5 x
    obtain ⟨-, r, n⟩ := h3 x (by simp)
    have hp := (List.pairwise_cons.1 h1).1
    rw [tot_cons, if_pos (ord_K.self x), tot_none (l := a) (fun y hy => by have := hp y hy; have := ord_K.anti x y; omega)] at e
    rw [tot_nil] at e
    unfold InR at r
    omega
  | x :: a, y :: b, h1, h2, h3, h4, h5 => by
    obtain ⟨ox, rx, nx⟩ := h3 x (by simp)
    obtain ⟨oy, ry, ny⟩ := h4 y (by simp)
    have hp := (List.pairwise_cons.1 h1)
    have hq := (List.pairwise_cons.1 h2)
    have ta : tot x a = 0 := tot_none fun z hz => by have := hp.1 z hz; have := ord_K.anti x z; omega
    have tb : tot y b = 0 := tot_none fun z hz => by have := hq.1 z hz; have := ord_K.anti y z; omega
    have hxy : cmpK x y = 0 := by
      rcases ord_K.rng x y with h | h | h
      · exfalso
        have e := h5 x
        have : tot x b = 0 := tot_none fun z hz => by
          have := ord_K.lt (a := x) (b := y) (d := z) (by omega) (by have := hq.1 z hz; omega)
          have := ord_K.anti x z; omega
        have hn : ¬ cmpK y x = 0 := by have := ord_K.anti x y; omega
        rw [tot_cons, tot_cons, if_pos (ord_K.self x), if_neg hn, ta, this] at e
        unfold InR at rx
        omega
      · exact h
      · exfalso
        have e := h5 y
        have hyx : cmpK y x < 0 := by have := ord_K.anti x y; omega
        have : tot y a = 0 := tot_none fun z hz => by
          have := ord_K.lt (a := y) (b := x) (d := z) hyx (by have := hp.1 z hz; omega)
          have := ord_K.anti y z; omega
        rw [tot_cons, tot_cons, if_pos (ord_K.self y), if_neg (by omega), tb, this] at e
        unfold InR at ry
        omega
    obtain ⟨e1, e2, e3⟩ := cmpK_eq ox oy hxy
    have hyx : cmpK y x = 0 := by have := ord_K.anti x y; omega
    have tbx : tot x b = 0 := tot_none fun z hz => by
      have := hq.1 z hz
      have e := ord_K.left hyx z
      have := ord_K.anti x z
      omega
    have e4 : x.diff = y.diff := by
      have e := h5 x
      rw [tot_cons, tot_cons, if_pos (ord_K.self x), if_pos hyx, ta, tbx] at e
      unfold InR at rx ry
      omega
    have exy : x = y := by
      obtain ⟨r1, p1, l1, d1⟩ := x
      obtain ⟨r2, p2, l2, d2⟩ := y
      simp only at e1 e2 e3 e4
      subst e1; subst e2; subst e3; subst e4
      rfl
    subst exy
    rw [asc_uniq a b hp.2 hq.2 (fun u hu => h3 u (by simp [hu])) (fun u hu => h4 u (by simp [hu])) (fun q => by
      have e := h5 q
      rw [tot_cons, tot_cons] at e
      omega)]
/-- put together they are the same if their totals are -/
theorem sumU_congr {l m : List Upd} (hl : ∀ u ∈ l, u.okR ∧ InR u.diff) (hm : ∀ u ∈ m, u.okR ∧ InR u.diff) (h : ∀ q, (tot q l - tot q m) % 18446744073709551616 = 0) : sumU l = sumU m := by
  obtain ⟨a1, a2, a3⟩ := fold_spec l [] List.Pairwise.nil (fun _ h => by cases h) hl
  obtain ⟨b1, b2, b3⟩ := fold_spec m [] List.Pairwise.nil (fun _ h => by cases h) hm
  unfold sumU
  refine asc_uniq _ _ (List.Pairwise.filter _ a1) (List.Pairwise.filter _ b1) (fun u hu => ?_) (fun u hu => ?_) (fun q => ?_)
  · obtain ⟨h1, h2⟩ := List.mem_filter.1 hu
    exact ⟨(a2 u h1).1, (a2 u h1).2, by simpa using h2⟩
  · obtain ⟨h1, h2⟩ := List.mem_filter.1 hu
    exact ⟨(b2 u h1).1, (b2 u h1).2, by simpa using h2⟩
  · rw [tot_filter, tot_filter]
    have e1 := a3 q
    have e2 := b3 q
    have e3 := h q
    rw [tot_nil] at e1 e2
    omega
theorem tot_perm {q : Upd} {l m : List Upd} (h : l.Perm m) : tot q l = tot q m := by
  induction h with
  | nil => rfl
  | cons x _ ih => rw [tot_cons, tot_cons, ih]
  | swap x y l => simp only [tot_cons]; omega
  | trans _ _ h1 h2 => exact h1.trans h2
theorem sumU_perm {l m : List Upd} (hl : ∀ u ∈ l, u.okR ∧ InR u.diff) (h : l.Perm m) : sumU l = sumU m :=
  sumU_congr hl (fun u hu => hl u (h.mem_iff.2 hu)) fun q => by rw [tot_perm h]; omega
end Go.Proofs.YtlpehdhgdpeoeaaGreatDoor
