import Derived.Test.YtlpehdhgdpeoeaaGreatDoorLa
/- What becomes of updates one by one, by their rows and times alone, comes to the same put together ahead. No program in sight. -/
namespace Go.Proofs.YtlpehdhgdpeoeaaGreatDoor
open Go.RowKit Go.Pen

/-- the differences of those of which P is so -/
def totP (P : Upd → Bool) (l : List Upd) : Int := (l.map fun x => if P x = true then x.diff else 0).sum
theorem totP_cons (P : Upd → Bool) (u : Upd) (l : List Upd) : totP P (u :: l) = (if P u = true then u.diff else 0) + totP P l := by simp [totP]
/-- all those of a key taken out -/
def outK (u : Upd) (l : List Upd) : List Upd := l.filter fun x => decide (cmpK x u ≠ 0)
theorem outK_cons (u x : Upd) (l : List Upd) : outK u (x :: l) = if cmpK x u ≠ 0 then x :: outK u l else outK u l := by
  unfold outK
  rw [List.filter_cons]
  by_cases h : cmpK x u ≠ 0 <;> simp [h]
theorem totP_out (P : Upd → Bool) (u : Upd) : ∀ l : List Upd, (∀ x ∈ l, cmpK x u = 0 → P x = P u) → totP P l = totP P (outK u l) + if P u = true then tot u l else 0
  | [], _ => by simp [totP, outK, tot]
  | x :: l, h => by
    have ih := totP_out P u l fun y hy => h y (by simp [hy])
    rw [totP_cons, outK_cons, tot_cons, ih]
    by_cases hk : cmpK x u = 0
    · rw [show (if cmpK x u ≠ 0 then x :: outK u l else outK u l) = outK u l from if_neg (fun h => h hk), if_pos hk, h x (by simp) hk]
      split <;> omega
    · rw [show (if cmpK x u ≠ 0 then x :: outK u l else outK u l) = x :: outK u l from if_pos hk, if_neg hk, totP_cons]
      have h3 : (if P u = true then 0 + tot u l else 0) = if P u = true then tot u l else 0 := by rw [Int.zero_add]
      rw [h3]
      omega
theorem tot_out (q u : Upd) : ∀ l : List Upd, tot q (outK u l) = if cmpK q u = 0 then 0 else tot q l
  | [] => by simp [outK, tot]
  | x :: l => by
    have ih := tot_out q u l
    rw [outK_cons, tot_cons]
    by_cases hq : cmpK q u = 0
    · rw [if_pos hq] at ih ⊢
      by_cases hk : cmpK x u = 0
      · rw [if_neg (by omega)]; exact ih
      · rw [if_pos hk, tot_cons, ih, if_neg]
        · rfl
        · intro e
          exact hk (by rw [ord_K.left e u]; exact hq)
    · rw [if_neg hq] at ih ⊢
      by_cases hk : cmpK x u = 0
      · rw [if_neg (by omega), ih, if_neg]
        · omega
        · intro e
          have := ord_K.left e u
          omega
      · rw [if_pos hk, tot_cons, ih]
theorem outK_len (u : Upd) (l : List Upd) : (outK u l).length ≤ l.length := List.length_filter_le _ _
theorem outK_lt (u : Upd) (l : List Upd) : (outK u (u :: l)).length ≤ l.length := by
  rw [outK_cons, if_neg (by simp [ord_K.self])]
  exact outK_len u l
theorem mem_out {u x : Upd} {l : List Upd} (h : x ∈ outK u l) : x ∈ l := (List.mem_filter.1 h).1
/-- what the totals say, each sum over keys says -/
theorem totP_congr (P : Upd → Bool) : ∀ (n : Nat) (l m : List Upd), l.length + m.length ≤ n → (∀ x y, x ∈ l ∨ x ∈ m → y ∈ l ∨ y ∈ m → cmpK x y = 0 → P x = P y) → (∀ q, (tot q l - tot q m) % 18446744073709551616 = 0) →
    (totP P l - totP P m) % 18446744073709551616 = 0 := by
  intro n
  induction n with
  | zero =>
    intro l m hn _ _
    have h1 : l = [] := List.eq_nil_of_length_eq_zero (by omega)
    have h2 : m = [] := List.eq_nil_of_length_eq_zero (by omega)
    subst h1 h2
    rfl
  | succ n ih =>
    intro l m hn hP h
    by_cases hlm : l = [] ∧ m = []
    · obtain ⟨rfl, rfl⟩ := hlm; rfl
    · obtain ⟨u, hu, hlen⟩ : ∃ u, (u ∈ l ∨ u ∈ m) ∧ (outK u l).length + (outK u m).length ≤ n := by
        cases l with
        | cons u l => exact ⟨u, .inl (by simp), by have := outK_lt u l; have := outK_len u m; simp only [List.length_cons] at hn; omega⟩
        | nil =>
          cases m with
          | cons u m => exact ⟨u, .inr (by simp), by have := outK_lt u m; have : (outK u []).length = 0 := rfl; simp only [List.length_cons, List.length_nil] at hn; omega⟩
          | nil => exact absurd ⟨rfl, rfl⟩ hlm
      have i1 := ih (outK u l) (outK u m) hlen (fun x y hx hy => hP x y (hx.imp mem_out mem_out) (hy.imp mem_out mem_out)) (fun q => by
        rw [tot_out, tot_out]
        split
        · rfl
        · exact h q)
      rw [totP_out P u l fun x hx e => hP x u (.inl hx) hu e, totP_out P u m fun x hx e => hP x u (.inr hx) hu e]
      have h2 := h u
      split <;> omega

/-- what becomes of an update by its row and time alone -/
def KeyFun (F : Upd → Option Upd) : Prop := ∀ (u : Upd) (n : Int), F { u with diff := n } = (F u).map fun x => { x with diff := n }
theorem KeyFun.diff {F : Upd → Option Upd} (h : KeyFun F) {u x : Upd} (e : F u = some x) : x.diff = u.diff := by
  have := h u u.diff
  rw [show ({ u with diff := u.diff } : Upd) = u from rfl, e] at this
  simp only [Option.map_some, Option.some.injEq] at this
  rw [this]
theorem tot_through {F : Upd → Option Upd} (hF : KeyFun F) (q : Upd) : ∀ l : List Upd, tot q (l.filterMap F) = totP (fun u => match F u with
    | some x => decide (cmpK x q = 0)
    | none => false) l
  | [] => rfl
  | u :: l => by
    have ih := tot_through hF q l
    rw [totP_cons]
    cases e : F u with
    | none => rw [List.filterMap_cons_none e, ih]; simp
    | some x => rw [List.filterMap_cons_some e, tot_cons, ih, hF.diff e]; simp
theorem sumU_spec {l : List Upd} (hl : ∀ u ∈ l, u.okR ∧ InR u.diff) : (∀ u ∈ sumU l, u.okR ∧ InR u.diff) ∧ ∀ q, (tot q (sumU l) - tot q l) % 18446744073709551616 = 0 := by
  obtain ⟨a1, a2, a3⟩ := fold_spec l [] List.Pairwise.nil (fun _ h => by cases h) hl
  refine ⟨fun u hu => a2 u (List.mem_filter.1 hu).1, fun q => ?_⟩
  unfold sumU
  rw [tot_filter]
  have := a3 q
  rw [tot_nil] at this
  omega
theorem same_key {u v : Upd} (hu : u.okR) (hv : v.okR) (h : cmpK u v = 0) : v = { u with diff := v.diff } := by
  obtain ⟨h1, h2, h3⟩ := cmpK_eq hu hv h
  cases u
  cases v
  simp only at h1 h2 h3
  subst h1 h2 h3
  rfl
theorem sum_through {F : Upd → Option Upd} (hF : KeyFun F) {l : List Upd} (hl : ∀ u ∈ l, u.okR ∧ InR u.diff) (ho : ∀ u x, u.okR → F u = some x → x.okR) : sumU (l.filterMap F) = sumU ((sumU l).filterMap F) := by
  obtain ⟨hs, ht⟩ := sumU_spec hl
  have hout : ∀ m : List Upd, (∀ u ∈ m, u.okR ∧ InR u.diff) → ∀ x ∈ m.filterMap F, x.okR ∧ InR x.diff := fun m hm x hx => by
    obtain ⟨u, hu, e⟩ := List.mem_filterMap.1 hx
    exact ⟨ho u x (hm u hu).1 e, by rw [hF.diff e]; exact (hm u hu).2⟩
  refine sumU_congr (hout l hl) (hout _ hs) fun q => ?_
  rw [tot_through hF, tot_through hF]
  have hall : ∀ x, x ∈ l ∨ x ∈ sumU l → x.okR := fun x hx => hx.elim (fun h => (hl x h).1) (fun h => (hs x h).1)
  refine totP_congr _ _ _ _ (Nat.le_refl _) (fun x y hx hy e => ?_) fun q => by have := ht q; omega
  obtain ⟨n, rfl⟩ : ∃ n, y = { x with diff := n } := ⟨_, same_key (hall x hx) (hall y hy) e⟩
  have hn := hF x n
  cases hx : F x with
  | none =>
    rw [hx] at hn
    rw [hn]
    rfl
  | some z =>
    rw [hx] at hn
    rw [hn]
    rfl
end Go.Proofs.YtlpehdhgdpeoeaaGreatDoor
