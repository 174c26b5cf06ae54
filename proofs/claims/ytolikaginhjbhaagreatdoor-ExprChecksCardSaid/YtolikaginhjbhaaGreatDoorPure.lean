import Derived.Test.YtolikaginhjbhaaGreatDoorBase
import Derived.Test.YtolikaginhjbhaaGreatDoorProg
/- Expressions as trees: how many parts, how deep, which may be. No program in sight. -/
namespace Go.Proofs.YtolikaginhjbhaaGreatDoor

/-- a datum -/
structure Dat where
  kind : Int
  bool : Bool
  int : Int
  text : ByteArray
deriving DecidableEq

def Dat.zero : Dat := ⟨0, false, 0, ⟨#[]⟩⟩

inductive ET where
  | mk (op col : Int) (lit : Dat) (kids : List ET)

namespace ET
def op : ET → Int | mk o _ _ _ => o
def col : ET → Int | mk _ c _ _ => c
def lit : ET → Dat | mk _ _ d _ => d
def kids : ET → List ET | mk _ _ _ k => k
end ET

theorem ET.ind {C : ET → Prop} (h : ∀ o c d ks, (∀ k ∈ ks, C k) → C (.mk o c d ks)) : ∀ e, C e := by
  intro e
  exact ET.rec (motive_1 := C) (motive_2 := fun ks => ∀ k ∈ ks, C k) (fun o c d ks ih => h o c d ks ih) (fun k hk => by cases hk) (fun k ks hk hks x hx => by
    rcases List.mem_cons.1 hx with rfl | hx
    · exact hk
    · exact hks x hx) e

mutual
/-- how many parts -/
def ET.size : ET → Nat
  | .mk _ _ _ ks => 1 + ET.sizes ks
def ET.sizes : List ET → Nat
  | [] => 0
  | k :: ks => k.size + ET.sizes ks
end

mutual
/-- how much there is to look at -/
def ET.weight : ET → Nat
  | .mk _ _ d ks => 1 + d.text.size / 64 + ET.weights ks
def ET.weights : List ET → Nat
  | [] => 0
  | k :: ks => k.weight + ET.weights ks
end

mutual
/-- the parts, with how deep they are; none below a part that is too deep -/
def ET.pre : ET → Nat → List (Nat × ET)
  | .mk o c d ks, deep => (deep, .mk o c d ks) :: if deep ≤ 60 then ET.pres ks (deep + 1) else []
def ET.pres : List ET → Nat → List (Nat × ET)
  | [], _ => []
  | k :: ks, deep => k.pre deep ++ ET.pres ks deep
end

/-- has an operator so many? -/
def kidsOk (op : Int) (n : Nat) : Bool :=
  if op = 1 ∨ op = 2 ∨ op = 23 then n == 0
  else if op = 3 ∨ op = 10 ∨ op = 17 ∨ op = 20 then n == 1
  else if op = 21 then decide (2 < n) && n % 2 == 1
  else if op = 22 then decide (0 < n)
  else decide (0 < op) && decide (op < 21) && n == 2

/-- may a part be, but for its parts? -/
def ET.own (ok : Dat → Bool) (e : ET) : Bool :=
  kidsOk e.op e.kids.length && (if e.op = 1 then decide (0 ≤ e.col ∧ e.col ≤ 9999) else decide (e.col = 0)) &&
    (if e.op = 2 then ok e.lit else if e.op = 23 then decide (e.lit = ⟨3, false, e.lit.int, ⟨#[]⟩⟩ ∧ 1 ≤ e.lit.int ∧ e.lit.int ≤ 65535) else decide (e.lit = Dat.zero))

mutual
def ET.good (ok : Dat → Bool) : ET → Nat → Bool
  | .mk o c d ks, deep => ET.own ok (.mk o c d ks) && decide (deep ≤ 60) && ET.goods ok ks (deep + 1)
def ET.goods (ok : Dat → Bool) : List ET → Nat → Bool
  | [], _ => true
  | k :: ks, deep => k.good ok deep && ET.goods ok ks deep
end

/-- may an expression be? -/
def ET.may (ok : Dat → Bool) (e : ET) : Bool := e.good ok 1 && decide (e.size ≤ 4000)

mutual
/-- are all columns below a number? -/
def ET.within (n : Int) : ET → Bool
  | .mk o c _ ks => !(decide (o = 1) && decide (n ≤ c)) && ET.withins n ks
def ET.withins (n : Int) : List ET → Bool
  | [] => true
  | k :: ks => k.within n && ET.withins n ks
end

theorem ET.goods_iff (ok : Dat → Bool) : ∀ (ks : List ET) (deep : Nat), ET.goods ok ks deep = true ↔ ∀ k ∈ ks, k.good ok deep = true
  | [], deep => by simp [ET.goods]
  | k :: ks, deep => by simp [ET.goods, ET.goods_iff ok ks deep]

theorem ET.withins_iff (n : Int) : ∀ (ks : List ET), ET.withins n ks = true ↔ ∀ k ∈ ks, k.within n = true
  | [] => by simp [ET.withins]
  | k :: ks => by simp [ET.withins, ET.withins_iff n ks]

theorem ET.mem_pres {x : Nat × ET} : ∀ {ks : List ET} {deep : Nat}, x ∈ ET.pres ks deep ↔ ∃ k ∈ ks, x ∈ k.pre deep
  | [], deep => by simp [ET.pres]
  | k :: ks, deep => by simp [ET.pres, ET.mem_pres (ks := ks)]

/-- all parts may be: the parts as they come, and as they stand -/
theorem ET.good_iff (ok : Dat → Bool) : ∀ (e : ET) (deep : Nat), e.good ok deep = true ↔ ∀ x ∈ e.pre deep, x.1 ≤ 60 ∧ x.2.own ok = true := by
  refine ET.ind fun o c d ks ih deep => ?_
  simp only [ET.good, ET.pre, Bool.and_eq_true, decide_eq_true_eq, ET.goods_iff, List.mem_cons]
  constructor
  · rintro ⟨⟨h1, h2⟩, h3⟩ x (rfl | hx)
    · exact ⟨h2, h1⟩
    · rw [if_pos h2] at hx
      obtain ⟨k, hk, hx⟩ := ET.mem_pres.1 hx
      exact (ih k hk (deep + 1)).1 (h3 k hk) x hx
  · intro h
    obtain ⟨h2, h1⟩ := h _ (.inl rfl)
    refine ⟨⟨h1, h2⟩, fun k hk => (ih k hk (deep + 1)).2 fun x hx => h x (.inr ?_)⟩
    rw [if_pos h2]
    exact ET.mem_pres.2 ⟨k, hk, hx⟩

theorem ET.goods_len (ok : Dat → Bool) (deep : Nat) : ∀ (ks : List ET), (∀ k ∈ ks, k.good ok deep = true → (k.pre deep).length = k.size) → ET.goods ok ks deep = true → (ET.pres ks deep).length = ET.sizes ks
  | [], _, _ => rfl
  | k :: ks, h, hg => by
    simp only [ET.goods, Bool.and_eq_true] at hg
    simp only [ET.pres, List.length_append, ET.sizes]
    rw [h k List.mem_cons_self hg.1, ET.goods_len ok deep ks (fun k' hk => h k' (List.mem_cons_of_mem _ hk)) hg.2]

theorem ET.good_len (ok : Dat → Bool) : ∀ (e : ET) (deep : Nat), e.good ok deep = true → (e.pre deep).length = e.size := by
  refine ET.ind fun o c d ks ih deep hg => ?_
  simp only [ET.good, Bool.and_eq_true, decide_eq_true_eq] at hg
  simp only [ET.pre, if_pos hg.1.2, List.length_cons, ET.size]
  rw [ET.goods_len ok (deep + 1) ks (fun k hk hg => ih k hk (deep + 1) hg) hg.2]
  omega

/-- Check, as the program goes about it -/
theorem ET.may_iff (ok : Dat → Bool) (e : ET) : e.may ok = true ↔ (∀ x ∈ e.pre 1, x.1 ≤ 60 ∧ x.2.own ok = true) ∧ (e.pre 1).length ≤ 4000 := by
  simp only [ET.may, Bool.and_eq_true, decide_eq_true_eq, ← ET.good_iff]
  constructor
  · rintro ⟨h1, h2⟩
    exact ⟨h1, by rw [ET.good_len ok e 1 h1]; exact h2⟩
  · rintro ⟨h1, h2⟩
    exact ⟨h1, by rw [← ET.good_len ok e 1 h1]; exact h2⟩

theorem ET.within_of_pre (n : Int) (ok : Dat → Bool) : ∀ (e : ET) (deep : Nat), e.good ok deep = true → ((∀ x ∈ e.pre deep, ¬ (x.2.op = 1 ∧ n ≤ x.2.col)) ↔ e.within n = true) := by
  refine ET.ind fun o c d ks ih deep hg => ?_
  simp only [ET.good, Bool.and_eq_true, decide_eq_true_eq, ET.goods_iff] at hg
  obtain ⟨⟨-, h2⟩, h3⟩ := hg
  simp only [ET.pre, if_pos h2, List.mem_cons, ET.within, Bool.and_eq_true, ET.withins_iff, Bool.not_eq_true', Bool.and_eq_false_iff, decide_eq_false_iff_not]
  constructor
  · intro h
    refine ⟨?_, fun k hk => (ih k hk (deep + 1) (h3 k hk)).1 fun x hx => h x (.inr (ET.mem_pres.2 ⟨k, hk, hx⟩))⟩
    have := h _ (.inl rfl)
    simp only [ET.op, ET.col] at this
    by_cases e : o = 1
    · right; exact fun hn => this ⟨e, hn⟩
    · left; exact e
  · rintro ⟨h1, h4⟩ x (rfl | hx) ⟨ho, hn⟩
    · simp only [ET.op, ET.col] at ho hn
      rcases h1 with h1 | h1
      · exact h1 ho
      · exact h1 hn
    · obtain ⟨k, hk, hx⟩ := ET.mem_pres.1 hx
      exact (ih k hk (deep + 1) (h3 k hk)).2 (h4 k hk) x hx ⟨ho, hn⟩

/-- the program's count of the parts, and the reference's -/
theorem ET.size_pos (e : ET) : 1 ≤ e.size := by
  cases e; simp [ET.size]

theorem ET.size_le_weights : ∀ (ks : List ET), (∀ k ∈ ks, k.size ≤ k.weight) → ET.sizes ks ≤ ET.weights ks
  | [], _ => Nat.le_refl _
  | k :: ks, h => by
    have h1 := h k List.mem_cons_self
    have h2 := ET.size_le_weights ks fun k' hk => h k' (List.mem_cons_of_mem _ hk)
    simp only [ET.sizes, ET.weights]; omega

theorem ET.size_le_weight : ∀ (e : ET), e.size ≤ e.weight := by
  refine ET.ind fun o c d ks ih => ?_
  have := ET.size_le_weights ks ih
  simp only [ET.size, ET.weight]; omega
end Go.Proofs.YtolikaginhjbhaaGreatDoor
