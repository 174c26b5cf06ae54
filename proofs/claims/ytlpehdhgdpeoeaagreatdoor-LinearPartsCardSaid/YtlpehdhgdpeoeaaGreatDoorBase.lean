import Derived.WalkKit
import Derived.WalkSpells
import Derived.WalkLawsBesides
import Derived.RegionTactic
import Derived.Deep.QuietTactic
import Derived.BigQuiet
import Derived.BigRegion
import Derived.Outline
import Derived.Deep.AppendLies
import Derived.Laws.CopyOwn
import Derived.Test.YtlpehdhgdpeoeaaGreatDoorProg
import Derived.Lib.ValidLaws
import Derived.Lib.Hide
import Derived.Deep.RegionHeld3
import Derived.Deep.DrawnRows
import Derived.Deep.LoopGhost
import Derived.Laws.Bits64b
import Derived.IntWalk
/- Plain laws on worlds and blocks, no program in sight: frames, rows, copies of many cells. -/
namespace Go.Pen
open Go.RowKit

theorem add_lit (b o j : Nat) : (⟨b, o, none⟩ : Addr).add j = ⟨b, o + j, none⟩ := by
  unfold Addr.add; split <;> simp_all

theorem run_copy_sized {P : Program} (w : World) (dT sT ty elem : TypeId) (i : TypeInfo) (g o dLen dCap : Nat) (a : Addr) (sLen sCap : Nat) (cur : Array Value) (t : TypeId) (cs : List Value)
    (hu : P.underlying dT = some (.slice elem)) (hi : P.info? elem = some i)
    (hg : w.heap[g]? = some (.cells cur t (0, 0))) (hn : cs.length = Nat.min sLen dLen * i.size)
    (hsrc : ∀ j v, cs[j]? = some v → w.cell? (a.add j) = some v) (hfit : o + cs.length ≤ cur.size) (h1 : ∀ v ∈ cs, v.oneCell' = true) :
    (Builtin.copy_ #[dT, sT] ty #[.slice (some ⟨g, o, none⟩) dLen dCap, .slice (some a) sLen sCap]).run P w =
      .ok (goInt (Nat.min sLen dLen)) (w.setRow g (cur.toList.take o ++ cs ++ cur.toList.drop (o + cs.length)).toArray) := by
  have hl := run_loadCells_list (P := P) w a cs hsrc
  have hst := run_storeCells_at P g o t cs 0 cur w hg (by simpa using hfit) h1
  rw [hn] at hl
  simp [Builtin.copy_, run_underlying hu, Builtin.lenOf, Builtin.firstCells, sizeOf, typeInfo, hi, hl, hst]

theorem wpList_copy_sized {P : Program} {w : World} {ops : Array Oper} {rest : List Oper} {o : Oper} {a : Act} {Q : Exit → Act → World → Prop} (hgd : o.guard = none) (d s : Operand) (dT sT : TypeId)
    (ho : o.op = .call { callee := .builtin .copy, args := #[d, s], argTypes := #[dT, sT] }) (elem : TypeId) (i : TypeInfo) (hu : P.underlying dT = some (.slice elem)) (hi : P.info? elem = some i)
    (g off dLen dCap : Nat) (ad : Addr) (sLen sCap : Nat) (hd : a.eval d = .slice (some ⟨g, off, none⟩) dLen dCap) (hs : a.eval s = .slice (some ad) sLen sCap)
    (cur : Array Value) (t : TypeId) (hg : w.heap[g]? = some (.cells cur t (0, 0))) (cs : List Value) (hn : cs.length = Nat.min sLen dLen * i.size)
    (hsrc : ∀ j v, cs[j]? = some v → w.cell? (ad.add j) = some v) (hfit : off + cs.length ≤ cur.size) (h1 : ∀ v ∈ cs, v.oneCell' = true)
    (h : wpList P ops Q rest (a.put o.dst (goInt (Nat.min sLen dLen))) (w.setRow g (cur.toList.take off ++ cs ++ cur.toList.drop (off + cs.length)).toArray)) : wpList P ops Q (o :: rest) a w := by
  refine wpList_plain hgd fun K hK => ?_
  have hrun := run_copy_sized (P := P) w dT sT o.type elem i g off dLen dCap ad sLen sCap cur t cs hu hi hg hn hsrc hfit h1
  unfold Oper.wp
  simp only [execOp, ho, resolve, invoke, builtin, Sem.run_bind, Sem.run_pure, Result.andThen_ok, List.map_toArray, List.map_cons, List.map_nil, hd, hs, hrun]
  exact hK _ _ h

/-- A row that is owned reads cell by cell. -/
theorem ownsRow_cell {w : World} {base e size n : Nat} {v : Value} {xs : List Value} (h : w.ownsRow base e size v n xs) {b c : Nat} {o : Nat} (hv : v = .slice (some ⟨b, o, none⟩) n c) {j : Nat} {u : Value} (hu : xs[j]? = some u) :
    w.cell? ⟨b, o + j, none⟩ = some u := by
  rcases h.2 with ⟨rfl, _⟩ | ⟨g, cap, cur, hv', _⟩
  · cases hv
  · obtain ⟨rfl, rfl⟩ : b = g ∧ o = 0 := by rw [hv] at hv'; simp at hv'; exact hv'.1
    have := h.cells (g := b) (by rw [hv]; rfl) j u hu
    rwa [add_lit] at this

theorem Below.ownsRow {B : Nat} {w w' : World} (h : Below B w w') {base e size n : Nat} {v : Value} {xs : List Value} (ho : w.ownsRow base e size v n xs) (hv : ∀ g, v.ownBlock = some g → g < B) : w'.ownsRow base e size v n xs := by
  refine ⟨ho.1, ?_⟩
  rcases ho.2 with hn | ⟨g, cap, cur, rfl, hb, hg, rest⟩
  · exact .inl hn
  · exact .inr ⟨g, cap, cur, rfl, hb, by rw [h.block g (hv g rfl)]; exact hg, rest⟩

theorem ownsRow_lower {w : World} {base base' e size n : Nat} {v : Value} {xs : List Value} (ho : w.ownsRow base e size v n xs) (hb : base' ≤ base) : w.ownsRow base' e size v n xs := by
  refine ⟨ho.1, ?_⟩
  rcases ho.2 with hn | ⟨g, cap, cur, rfl, hb', rest⟩
  · exact .inl hn
  · exact .inr ⟨g, cap, cur, rfl, by omega, rest⟩

theorem Below.ownsRow' {w w' : World} (h : Below w.heap.size w w') {base e size n : Nat} {v : Value} {xs : List Value} (ho : w.ownsRow base e size v n xs) : w'.ownsRow base e size v n xs :=
  Below.ownsRow h ho fun g hg => (ho.lt g hg).2

theorem grownBy_setRow (w : World) (g : Nat) (cs : Array Value) : w.grownBy (w.setRow g cs) (some g) :=
  ⟨rfl, rfl, rfl, by simp [World.setRow], fun k _ hk => setRow_other w g k cs (fun e => hk (by rw [e]))⟩

/-- copy onto a row that is known whole, the world behind it a variable -/
theorem wpList_copy_over {P : Program} {w : World} {ops : Array Oper} {rest : List Oper} {o : Oper} {a : Act} {Q : Exit → Act → World → Prop} (hgd : o.guard = none) (d s : Operand) (dT sT : TypeId)
    (ho : o.op = .call { callee := .builtin .copy, args := #[d, s], argTypes := #[dT, sT] }) (elem : TypeId) (i : TypeInfo) (hu : P.underlying dT = some (.slice elem)) (hi : P.info? elem = some i)
    (g n dCap : Nat) (ad : Addr) (sCap : Nat) (hd : a.eval d = .slice (some ⟨g, 0, none⟩) n dCap) (hs : a.eval s = .slice (some ad) n sCap)
    (cur : Array Value) (t : TypeId) (hg : w.heap[g]? = some (.cells cur t (0, 0))) (cs : List Value) (hn : cs.length = n * i.size)
    (hsrc : ∀ j v, cs[j]? = some v → w.cell? (ad.add j) = some v) (hfit : cs.length = cur.size) (h1 : ∀ v ∈ cs, v.oneCell' = true)
    (h : ∀ w', Hid (w'.heap[g]? = some (.cells cs.toArray t (0, 0))) → w.grownBy w' (some g) → w'.heap.size = w.heap.size → wpList P ops Q rest (a.put o.dst (goInt n)) w') : wpList P ops Q (o :: rest) a w := by
  have hm : Nat.min n n = n := Nat.min_self n
  refine wpList_copy_sized hgd d s dT sT ho elem i hu hi g 0 n dCap ad n sCap hd hs cur t hg cs (by rw [hm]; exact hn) hsrc (by omega) h1 ?_
  rw [hm]
  refine h _ ?_ (grownBy_setRow _ _ _) (by simp [World.setRow])
  have e : (cur.toList.take 0 ++ cs ++ cur.toList.drop (0 + cs.length)) = cs := by
    rw [Nat.zero_add, hfit]; simp
  rw [e]
  exact setRow_heap w g cur _ t _ hg

theorem cell_set_ne {w : World} {b o b' o' : Nat} {v : Value} (h : b ≠ b') : (w.setCell ⟨b, o, none⟩ v).cell? ⟨b', o', none⟩ = w.cell? ⟨b', o', none⟩ :=
  World.cell?_setCell_other _ _ _ _ (fun e => h (by cases e; rfl))
theorem cell_set_off {w : World} {b o b' o' : Nat} {v : Value} (h : o ≠ o') : (w.setCell ⟨b, o, none⟩ v).cell? ⟨b', o', none⟩ = w.cell? ⟨b', o', none⟩ :=
  World.cell?_setCell_other _ _ _ _ (fun e => h (by cases e; rfl))

theorem ownsRow_frame {w w' : World} {base e size n : Nat} {v : Value} {xs : List Value} (ho : w.ownsRow base e size v n xs) (hf : ∀ g, v.ownBlock = some g → w'.heap[g]? = w.heap[g]?) : w'.ownsRow base e size v n xs := by
  refine ⟨ho.1, ?_⟩
  rcases ho.2 with hn | ⟨g, cap, cur, rfl, hb, hg, rest⟩
  · exact .inl hn
  · exact .inr ⟨g, cap, cur, rfl, hb, by rw [hf g rfl]; exact hg, rest⟩

theorem ownsRow_block {w : World} {base e size n : Nat} {v : Value} {xs : List Value} (ho : w.ownsRow base e size v n xs) {g : Nat} (hg : v.ownBlock = some g) : base ≤ g ∧ g < w.heap.size ∧ ∃ cur, w.heap[g]? = some (.cells cur e (0, 0)) := by
  refine ⟨(ho.lt g hg).1, (ho.lt g hg).2, ?_⟩
  rcases ho.2 with ⟨rfl, _⟩ | ⟨g', cap, cur, rfl, hb, hg', rest⟩
  · cases hg
  · cases hg; exact ⟨cur, hg'⟩

theorem heap_set_same {w : World} {b o : Nat} {v : Value} {c : Array Value} {t : TypeId} {f : Nat × Nat} (h : w.heap[b]? = some (.cells c t f)) : (w.setCell ⟨b, o, none⟩ v).heap[b]? = some (.cells (c.setIfInBounds o v) t f) := by
  simp only [World.setCell, Array.getElem?_modify, if_true, h, Option.map_some]
  simp

theorem heap_set_ne {w : World} {b o k : Nat} {v : Value} (h : k ≠ b) : (w.setCell ⟨b, o, none⟩ v).heap[k]? = w.heap[k]? := Below.heap_setCell _ _ _ _ h

theorem cell_of_heap {w : World} {b o : Nat} {c : Array Value} {t : TypeId} {f : Nat × Nat} {v : Value} (h : w.heap[b]? = some (.cells c t f)) (hc : c[o]? = some v) : w.cell? ⟨b, o, none⟩ = some v := by
  simp [World.cell?, h, hc]

theorem frozen_of_heap {w : World} {b o : Nat} {c : Array Value} {t : TypeId} (h : w.heap[b]? = some (.cells c t (0, 0))) : w.frozen? ⟨b, o, none⟩ = false := by
  simp [World.frozen?, h]

theorem lt_of_heap {w : World} {b : Nat} {x : Obj} (h : w.heap[b]? = some x) : b < w.heap.size := (Array.getElem?_eq_some_iff.1 h).1

theorem ownsRow_slice {w : World} {base e size n : Nat} {v : Value} {xs : List Value} (h : w.ownsRow base e size v n xs) : ∃ a c, v = .slice a n c := by
  rcases h.2 with ⟨rfl, rfl⟩ | ⟨g, cap, cur, rfl, _⟩
  · exact ⟨_, _, rfl⟩
  · exact ⟨_, _, rfl⟩

theorem ownsRow_heap {w : World} {base e size n b c : Nat} {xs : List Value} (h : w.ownsRow base e size (.slice (some ⟨b, 0, none⟩) n c) n xs) : b < w.heap.size ∧ base ≤ b ∧ n ≤ c ∧ ∀ j u, xs[j]? = some u → w.cell? ⟨b, j, none⟩ = some u := by
  refine ⟨(h.lt b rfl).2, (h.lt b rfl).1, ?_, fun j u hu => by have := ownsRow_cell h rfl hu; simpa using this⟩
  rcases h.2 with ⟨h, _⟩ | ⟨g, cap, cur, hv, _, _, h1, _⟩
  · cases h
  · cases hv; exact h1

/-- a block known whole is an owned row -/
theorem ownsRow_mk {w : World} {base e size n cap g : Nat} {cur : Array Value} {xs : List Value} (hb : base ≤ g) (hg : w.heap[g]? = some (.cells cur e (0, 0))) (hn : n ≤ cap) (hm : cap ≤ maxLen) (hs : cur.size = cap * size) (ht : cur.toList.take (n * size) = xs) :
    w.ownsRow base e size (.slice (some ⟨g, 0, none⟩) n cap) n xs := by
  refine ⟨?_, .inr ⟨g, cap, cur, rfl, hb, hg, hn, hm, hs, ht⟩⟩
  rw [← ht, List.length_take, Array.length_toList, hs]
  exact Nat.min_eq_left (Nat.mul_le_mul_right _ hn)

theorem below_undrew {B : Nat} {w w' : World} (h : Below B w.drew w') : Below B w w' := ⟨h.os, h.tape, h.output, h.size, h.block⟩
theorem below_undrewN {B n : Nat} {w w' : World} (h : Below B (w.drewN n) w') : Below B w w' := ⟨h.os, h.tape, h.output, h.size, h.block⟩
theorem below_drewN {B n : Nat} {w w' : World} (h : Below B w w') : Below B w (w'.drewN n) := ⟨h.os, h.tape, h.output, h.size, h.block⟩

end Go.Pen
/- Expressions as trees: how many parts, how deep, which may be. No program in sight. -/
namespace Go.Proofs.YtlpehdhgdpeoeaaGreatDoor

/-- a datum -/
structure Dat where
  kind : Int
  bool : Bool
  int : Int
  text : ByteArray
deriving DecidableEq

def Dat.zero : Dat := ⟨0, false, 0, ⟨#[]⟩⟩

inductive ET where
  | mk (op col : Int) (lit : Dat) (kids : List ET)

namespace ET
def op : ET → Int | mk o _ _ _ => o
def col : ET → Int | mk _ c _ _ => c
def lit : ET → Dat | mk _ _ d _ => d
def kids : ET → List ET | mk _ _ _ k => k
end ET

theorem ET.ind {C : ET → Prop} (h : ∀ o c d ks, (∀ k ∈ ks, C k) → C (.mk o c d ks)) : ∀ e, C e := by
  intro e
  exact ET.rec (motive_1 := C) (motive_2 := fun ks => ∀ k ∈ ks, C k) (fun o c d ks ih => h o c d ks ih) (fun k hk => by cases hk) (fun k ks hk hks x hx => by
    rcases List.mem_cons.1 hx with rfl | hx
    · exact hk
    · exact hks x hx) e

mutual
/-- how many parts -/
def ET.size : ET → Nat
  | .mk _ _ _ ks => 1 + ET.sizes ks
def ET.sizes : List ET → Nat
  | [] => 0
  | k :: ks => k.size + ET.sizes ks
end

mutual
/-- how much there is to look at -/
def ET.weight : ET → Nat
  | .mk _ _ d ks => 1 + d.text.size / 64 + ET.weights ks
def ET.weights : List ET → Nat
  | [] => 0
  | k :: ks => k.weight + ET.weights ks
end

mutual
/-- the parts, with how deep they are; none below a part that is too deep -/
def ET.pre : ET → Nat → List (Nat × ET)
  | .mk o c d ks, deep => (deep, .mk o c d ks) :: if deep ≤ 60 then ET.pres ks (deep + 1) else []
def ET.pres : List ET → Nat → List (Nat × ET)
  | [], _ => []
  | k :: ks, deep => k.pre deep ++ ET.pres ks deep
end

/-- has an operator so many? -/
def kidsOk (op : Int) (n : Nat) : Bool :=
  if op = 1 ∨ op = 2 ∨ op = 23 then n == 0
  else if op = 3 ∨ op = 10 ∨ op = 17 ∨ op = 20 then n == 1
  else if op = 21 then decide (2 < n) && n % 2 == 1
  else if op = 22 then decide (0 < n)
  else decide (0 < op) && decide (op < 21) && n == 2

/-- may a part be, but for its parts? -/
def ET.own (ok : Dat → Bool) (e : ET) : Bool :=
  kidsOk e.op e.kids.length && (if e.op = 1 then decide (0 ≤ e.col ∧ e.col ≤ 9999) else decide (e.col = 0)) &&
    (if e.op = 2 then ok e.lit else if e.op = 23 then decide (e.lit = ⟨3, false, e.lit.int, ⟨#[]⟩⟩ ∧ 1 ≤ e.lit.int ∧ e.lit.int ≤ 65535) else decide (e.lit = Dat.zero))

mutual
def ET.good (ok : Dat → Bool) : ET → Nat → Bool
  | .mk o c d ks, deep => ET.own ok (.mk o c d ks) && decide (deep ≤ 60) && ET.goods ok ks (deep + 1)
def ET.goods (ok : Dat → Bool) : List ET → Nat → Bool
  | [], _ => true
  | k :: ks, deep => k.good ok deep && ET.goods ok ks deep
end

/-- may an expression be? -/
def ET.may (ok : Dat → Bool) (e : ET) : Bool := e.good ok 1 && decide (e.size ≤ 4000)

mutual
/-- are all columns below a number? -/
def ET.within (n : Int) : ET → Bool
  | .mk o c _ ks => !(decide (o = 1) && decide (n ≤ c)) && ET.withins n ks
def ET.withins (n : Int) : List ET → Bool
  | [] => true
  | k :: ks => k.within n && ET.withins n ks
end

theorem ET.goods_iff (ok : Dat → Bool) : ∀ (ks : List ET) (deep : Nat), ET.goods ok ks deep = true ↔ ∀ k ∈ ks, k.good ok deep = true
  | [], deep => by simp [ET.goods]
  | k :: ks, deep => by simp [ET.goods, ET.goods_iff ok ks deep]

theorem ET.withins_iff (n : Int) : ∀ (ks : List ET), ET.withins n ks = true ↔ ∀ k ∈ ks, k.within n = true
  | [] => by simp [ET.withins]
  | k :: ks => by simp [ET.withins, ET.withins_iff n ks]

theorem ET.mem_pres {x : Nat × ET} : ∀ {ks : List ET} {deep : Nat}, x ∈ ET.pres ks deep ↔ ∃ k ∈ ks, x ∈ k.pre deep
  | [], deep => by simp [ET.pres]
  | k :: ks, deep => by simp [ET.pres, ET.mem_pres (ks := ks)]

/-- all parts may be: the parts as they come, and as they stand -/
theorem ET.good_iff (ok : Dat → Bool) : ∀ (e : ET) (deep : Nat), e.good ok deep = true ↔ ∀ x ∈ e.pre deep, x.1 ≤ 60 ∧ x.2.own ok = true := by
  refine ET.ind fun o c d ks ih deep => ?_
  simp only [ET.good, ET.pre, Bool.and_eq_true, decide_eq_true_eq, ET.goods_iff, List.mem_cons]
  constructor
  · rintro ⟨⟨h1, h2⟩, h3⟩ x (rfl | hx)
    · exact ⟨h2, h1⟩
    · rw [if_pos h2] at hx
      obtain ⟨k, hk, hx⟩ := ET.mem_pres.1 hx
      exact (ih k hk (deep + 1)).1 (h3 k hk) x hx
  · intro h
    obtain ⟨h2, h1⟩ := h _ (.inl rfl)
    refine ⟨⟨h1, h2⟩, fun k hk => (ih k hk (deep + 1)).2 fun x hx => h x (.inr ?_)⟩
    rw [if_pos h2]
    exact ET.mem_pres.2 ⟨k, hk, hx⟩

theorem ET.goods_len (ok : Dat → Bool) (deep : Nat) : ∀ (ks : List ET), (∀ k ∈ ks, k.good ok deep = true → (k.pre deep).length = k.size) → ET.goods ok ks deep = true → (ET.pres ks deep).length = ET.sizes ks
  | [], _, _ => rfl
  | k :: ks, h, hg => by
    simp only [ET.goods, Bool.and_eq_true] at hg
    simp only [ET.pres, List.length_append, ET.sizes]
    rw [h k List.mem_cons_self hg.1, ET.goods_len ok deep ks (fun k' hk => h k' (List.mem_cons_of_mem _ hk)) hg.2]

theorem ET.good_len (ok : Dat → Bool) : ∀ (e : ET) (deep : Nat), e.good ok deep = true → (e.pre deep).length = e.size := by
  refine ET.ind fun o c d ks ih deep hg => ?_
  simp only [ET.good, Bool.and_eq_true, decide_eq_true_eq] at hg
  simp only [ET.pre, if_pos hg.1.2, List.length_cons, ET.size]
  rw [ET.goods_len ok (deep + 1) ks (fun k hk hg => ih k hk (deep + 1) hg) hg.2]
  omega

/-- Check, as the program goes about it -/
theorem ET.may_iff (ok : Dat → Bool) (e : ET) : e.may ok = true ↔ (∀ x ∈ e.pre 1, x.1 ≤ 60 ∧ x.2.own ok = true) ∧ (e.pre 1).length ≤ 4000 := by
  simp only [ET.may, Bool.and_eq_true, decide_eq_true_eq, ← ET.good_iff]
  constructor
  · rintro ⟨h1, h2⟩
    exact ⟨h1, by rw [ET.good_len ok e 1 h1]; exact h2⟩
  · rintro ⟨h1, h2⟩
    exact ⟨h1, by rw [← ET.good_len ok e 1 h1]; exact h2⟩

theorem ET.within_of_pre (n : Int) (ok : Dat → Bool) : ∀ (e : ET) (deep : Nat), e.good ok deep = true → ((∀ x ∈ e.pre deep, ¬ (x.2.op = 1 ∧ n ≤ x.2.col)) ↔ e.within n = true) := by
  refine ET.ind fun o c d ks ih deep hg => ?_
  simp only [ET.good, Bool.and_eq_true, decide_eq_true_eq, ET.goods_iff] at hg
  obtain ⟨⟨-, h2⟩, h3⟩ := hg
  simp only [ET.pre, if_pos h2, List.mem_cons, ET.within, Bool.and_eq_true, ET.withins_iff, Bool.not_eq_true', Bool.and_eq_false_iff, decide_eq_false_iff_not]
  constructor
  · intro h
    refine ⟨?_, fun k hk => (ih k hk (deep + 1) (h3 k hk)).1 fun x hx => h x (.inr (ET.mem_pres.2 ⟨k, hk, hx⟩))⟩
    have := h _ (.inl rfl)
    simp only [ET.op, ET.col] at this
    by_cases e : o = 1
    · right; exact fun hn => this ⟨e, hn⟩
    · left; exact e
  · rintro ⟨h1, h4⟩ x (rfl | hx) ⟨ho, hn⟩
    · simp only [ET.op, ET.col] at ho hn
      rcases h1 with h1 | h1
      · exact h1 ho
      · exact h1 hn
    · obtain ⟨k, hk, hx⟩ := ET.mem_pres.1 hx
      exact (ih k hk (deep + 1) (h3 k hk)).2 (h4 k hk) x hx ⟨ho, hn⟩

/-- the program's count of the parts, and the reference's -/
theorem ET.size_pos (e : ET) : 1 ≤ e.size := by
  cases e; simp [ET.size]

theorem ET.size_le_weights : ∀ (ks : List ET), (∀ k ∈ ks, k.size ≤ k.weight) → ET.sizes ks ≤ ET.weights ks
  | [], _ => Nat.le_refl _
  | k :: ks, h => by
    have h1 := h k List.mem_cons_self
    have h2 := ET.size_le_weights ks fun k' hk => h k' (List.mem_cons_of_mem _ hk)
    simp only [ET.sizes, ET.weights]; omega

theorem ET.size_le_weight : ∀ (e : ET), e.size ≤ e.weight := by
  refine ET.ind fun o c d ks ih => ?_
  have := ET.size_le_weights ks ih
  simp only [ET.size, ET.weight]; omega
end Go.Proofs.YtlpehdhgdpeoeaaGreatDoor
/- What an expression comes to. No program in sight. -/
namespace Go.Proofs.YtlpehdhgdpeoeaaGreatDoor
open Go.RowKit Go.Pen

/-- datum.Check's number -/
def chkD (d : Dat) : Nat :=
  if d.kind < 1 ∨ 4 < d.kind then 13
  else if (d.kind ≠ 2 ∧ d.bool = true) ∨ (d.kind ≠ 3 ∧ d.int ≠ 0) ∨ (d.kind ≠ 4 ∧ d.text.data.toList ≠ []) then 13
  else if Lib.validD d.text.data.toList = false then 13
  else if 1000 < d.text.size then 12 else 0

def okD (d : Dat) : Bool := chkD d == 0

def nul : Dat := ⟨1, false, 0, ⟨#[]⟩⟩
def boo (b : Bool) : Dat := ⟨2, b, 0, ⟨#[]⟩⟩
def num (n : Int) : Dat := ⟨3, false, n, ⟨#[]⟩⟩
def txt (t : ByteArray) : Dat := ⟨4, false, 0, t⟩

/-- a datum, and the number of an error (0: none) -/
abbrev Res := Dat × Nat
def bad (n : Nat) : Res := (Dat.zero, n)

/-- is a datum of a kind, or null? -/
def isK (k : Int) (d : Dat) : Bool := okD d && (decide (d.kind = k) || decide (d.kind = 1))

/-- a number, or an error where it is too great -/
def ov (n : Int) : Res := if -9223372036854775808 ≤ n ∧ n ≤ 9223372036854775807 then (num n, 0) else bad 10

def both (k : Int) (a b : Dat) (r : Res) : Res := if !(isK k a && isK k b) then bad 13 else if a.kind = 1 ∨ b.kind = 1 then (nul, 0) else r
def sole (k : Int) (a : Dat) (r : Res) : Res := if !isK k a then bad 13 else if a.kind = 1 then (nul, 0) else r

/-- how many runes there are -/
def runesN : Nat → List UInt8 → Nat
  | 0, _ => 0
  | _ + 1, [] => 0
  | n + 1, c :: cs => 1 + runesN n ((c :: cs).drop (Lib.decodeL (c :: cs)).2)
def runes (l : List UInt8) : Nat := runesN l.length l

def negD (a : Dat) : Res := sole 3 a (ov (-a.int))
def addD (a b : Dat) : Res := both 3 a b (ov (a.int + b.int))
def subD (a b : Dat) : Res := both 3 a b (ov (a.int - b.int))
def mulD (a b : Dat) : Res := both 3 a b (ov (a.int * b.int))
def divD (a b : Dat) : Res := both 3 a b (if b.int = 0 then bad 11 else ov (Int.tdiv a.int b.int))
def modD (a b : Dat) : Res := both 3 a b (if b.int = 0 then bad 11 else (num (Int.tmod a.int b.int), 0))
def catD (a b : Dat) : Res := both 4 a b (if 1000 < a.text.size + b.text.size then bad 12 else (txt ⟨(a.text.data.toList ++ b.text.data.toList).toArray⟩, 0))
def lenD (a : Dat) : Res := sole 4 a (num (runes a.text.data.toList), 0)
def notD (a : Dat) : Res := sole 2 a (boo (!a.bool), 0)

/-- errors of datum's become this package's -/
def told (r : Res) : Res := if r.2 = 0 then r else if r.2 = 13 then bad 31 else bad r.2

/-- a condition: its error, whether it is true, whether it is null -/
def truth (v : Res) : Nat × Bool × Bool := if v.2 ≠ 0 then (v.2, false, false) else if okD v.1 = false ∨ 2 < v.1.kind then (31, false, false) else (0, v.1.bool, decide (v.1.kind = 1))

def logic (stop : Bool) : Bool → List Res → Res
  | so, [] => if so then (nul, 0) else (boo (!stop), 0)
  | so, v :: vs => if (truth v).1 ≠ 0 then bad (truth v).1 else if (truth v).2.2 = false ∧ (truth v).2.1 = stop then (boo stop, 0) else logic stop (so || (truth v).2.2) vs

def choice : List Res → Res
  | [] => bad 0
  | [v] => v
  | c :: v :: vs => if (truth c).1 ≠ 0 then bad (truth c).1 else if (truth c).2.1 = true then v else choice vs

def coal : List Res → Res
  | [] => (nul, 0)
  | v :: vs => if v.2 ≠ 0 ∨ v.1.kind ≠ 1 then v else coal vs
end Go.Proofs.YtlpehdhgdpeoeaaGreatDoor
/- An expression in memory. -/
namespace Go.Proofs.YtlpehdhgdpeoeaaGreatDoor
open Go.RowKit Go.Pen

theorem cell_keep {w w' : World} (h : Below w.heap.size w w') {a : Addr} {v : Value} (hc : w.cell? a = some v) : w'.cell? a = some v :=
  (World.cell?_of_block (h.block a.block (World.block_lt_of_cell? w a hc))).trans hc

/-- a part's own cells; its parts are at kv -/
def KidCells (w : World) (b o : Nat) (k : ET) (kv : Value) : Prop :=
  w.cell? ⟨b, o, none⟩ = some (.int .u8 k.op) ∧ w.cell? ⟨b, o + 1, none⟩ = some kv ∧ w.cell? ⟨b, o + 2, none⟩ = some (.int .i64 k.col) ∧ w.cell? ⟨b, o + 3, none⟩ = some (.int .u8 k.lit.kind) ∧
    w.cell? ⟨b, o + 4, none⟩ = some (.bool k.lit.bool) ∧ w.cell? ⟨b, o + 5, none⟩ = some (.int .i64 k.lit.int) ∧ w.cell? ⟨b, o + 6, none⟩ = some (.string k.lit.text)

mutual
/-- what a slice of parts reads as; the blocks in which they lie -/
def ET.On (S : Nat → Prop) (w : World) : ET → Value → Prop
  | .mk _ _ _ ks, v => ∃ a c, v = .slice a ks.length c ∧ (a = none → c = 0) ∧ (ks ≠ [] → ∃ b o, a = some ⟨b, o, none⟩ ∧ S b ∧ ET.Ons S w ks b o)
def ET.Ons (S : Nat → Prop) (w : World) : List ET → Nat → Nat → Prop
  | [], _, _ => True
  | k :: ks, b, o => (∃ kv, KidCells w b o k kv ∧ k.On S w kv) ∧ ET.Ons S w ks b (o + 7)
end

/-- what a slice of parts reads as -/
abbrev ET.At (w : World) (e : ET) (v : Value) : Prop := e.On (fun _ => True) w v

theorem ET.On.iff {S : Nat → Prop} {w : World} {e : ET} {v : Value} : e.On S w v ↔ ∃ a c, v = .slice a e.kids.length c ∧ (a = none → c = 0) ∧ (e.kids ≠ [] → ∃ b o, a = some ⟨b, o, none⟩ ∧ S b ∧ ET.Ons S w e.kids b o) := by
  cases e; simp only [ET.On, ET.kids]

theorem ET.Ons.get {S : Nat → Prop} {w : World} {b : Nat} : ∀ {ks : List ET} {o : Nat}, ET.Ons S w ks b o → ∀ {i : Nat} {k : ET}, ks[i]? = some k → ∃ kv, KidCells w b (o + i * 7) k kv ∧ k.On S w kv
  | [], _, _, i, k, hk => by simp at hk
  | x :: ks, o, h, i, k, hk => by
    simp only [ET.Ons] at h
    cases i with
    | zero => simp at hk; subst hk; simpa using h.1
    | succ i =>
      obtain ⟨kv, h1, h2⟩ := ET.Ons.get h.2 (i := i) (by simpa using hk)
      exact ⟨kv, by rw [show o + (i + 1) * 7 = o + 7 + i * 7 by omega]; exact h1, h2⟩

theorem ET.Ons.mk {S : Nat → Prop} {w : World} {b : Nat} : ∀ {ks : List ET} {o : Nat}, (∀ (i : Nat) (k : ET), ks[i]? = some k → ∃ kv, KidCells w b (o + i * 7) k kv ∧ k.On S w kv) → ET.Ons S w ks b o
  | [], _, _ => by simp only [ET.Ons]
  | x :: ks, o, h => by
    simp only [ET.Ons]
    refine ⟨by simpa using h 0 x rfl, ET.Ons.mk fun i k hk => ?_⟩
    obtain ⟨kv, h1, h2⟩ := h (i + 1) k (by simpa using hk)
    exact ⟨kv, by rw [show o + 7 + i * 7 = o + (i + 1) * 7 by omega]; exact h1, h2⟩

theorem cell_keep1 {w w' : World} {a : Addr} {v : Value} (hc : w.cell? a = some v) (hf : a.block < w.heap.size → w'.heap[a.block]? = w.heap[a.block]?) : w'.cell? a = some v :=
  (World.cell?_of_block (hf (World.block_lt_of_cell? w a hc))).trans hc

theorem KidCells.frame {w w' : World} {b o : Nat} {k : ET} {kv : Value} (h : KidCells w b o k kv) (hf : b < w.heap.size → w'.heap[b]? = w.heap[b]?) : KidCells w' b o k kv :=
  ⟨cell_keep1 h.1 hf, cell_keep1 h.2.1 hf, cell_keep1 h.2.2.1 hf, cell_keep1 h.2.2.2.1 hf, cell_keep1 h.2.2.2.2.1 hf, cell_keep1 h.2.2.2.2.2.1 hf, cell_keep1 h.2.2.2.2.2.2 hf⟩
theorem KidCells.below {w w' : World} {b o : Nat} {k : ET} {kv : Value} (h : KidCells w b o k kv) (hb : Below w.heap.size w w') : KidCells w' b o k kv := h.frame (hb.block b)

theorem ET.On.frame {S : Nat → Prop} {w w' : World} (hf : ∀ g, S g → g < w.heap.size → w'.heap[g]? = w.heap[g]?) : ∀ {e : ET} {v : Value}, e.On S w v → e.On S w' v := by
  intro e
  refine ET.ind (C := fun e => ∀ {v : Value}, e.On S w v → e.On S w' v) (fun o c d ks ih v h => ?_) e
  rw [ET.On.iff] at h ⊢
  obtain ⟨a, cc, hv, hn, h⟩ := h
  refine ⟨a, cc, hv, hn, fun hne => ?_⟩
  obtain ⟨b, off, ha, hS, h⟩ := h hne
  refine ⟨b, off, ha, hS, ET.Ons.mk fun i k hk => ?_⟩
  obtain ⟨kv, h1, h2⟩ := h.get hk
  exact ⟨kv, h1.frame (hf b hS), ih k (List.mem_of_getElem? hk) h2⟩

theorem ET.On.below {S : Nat → Prop} {w w' : World} {e : ET} {v : Value} (h : e.On S w v) (hb : Below w.heap.size w w') : e.On S w' v := h.frame fun g _ hg => hb.block g hg

theorem ET.On.wide {S S' : Nat → Prop} {w : World} (hf : ∀ g, S g → S' g) : ∀ {e : ET} {v : Value}, e.On S w v → e.On S' w v := by
  intro e
  refine ET.ind (C := fun e => ∀ {v : Value}, e.On S w v → e.On S' w v) (fun o c d ks ih v h => ?_) e
  rw [ET.On.iff] at h ⊢
  obtain ⟨a, cc, hv, hn, h⟩ := h
  refine ⟨a, cc, hv, hn, fun hne => ?_⟩
  obtain ⟨b, off, ha, hS, h⟩ := h hne
  refine ⟨b, off, ha, hf b hS, ET.Ons.mk fun i k hk => ?_⟩
  obtain ⟨kv, h1, h2⟩ := h.get hk
  exact ⟨kv, h1, ih k (List.mem_of_getElem? hk) h2⟩

theorem ET.On.at {S : Nat → Prop} {w : World} {e : ET} {v : Value} (h : e.On S w v) : e.At w v := h.wide fun _ _ => trivial

theorem ET.On.slice {S : Nat → Prop} {w : World} {e : ET} {v : Value} (h : e.On S w v) : ∃ a c, v = .slice a e.kids.length c := by
  obtain ⟨a, c, hv, -⟩ := ET.On.iff.1 h
  exact ⟨a, c, hv⟩

/-- a part of an expression, at its place -/
theorem ET.On.kid {S : Nat → Prop} {w : World} {e : ET} {v : Value} (h : e.On S w v) {i : Nat} {k : ET} (hk : e.kids[i]? = some k) : ∃ b o c kv, v = .slice (some ⟨b, o, none⟩) e.kids.length c ∧ KidCells w b (o + i * 7) k kv ∧ k.On S w kv := by
  obtain ⟨a, c, hv, -, hn⟩ := ET.On.iff.1 h
  obtain ⟨b, o, rfl, -, ht⟩ := hn fun e => by rw [e] at hk; simp at hk
  obtain ⟨kv, h1, h2⟩ := ht.get hk
  exact ⟨b, o, c, kv, hv, h1, h2⟩

/-- an expression as a value -/
def ET.agg (e : ET) (kv : Value) : Value := .agg #[.int .u8 e.op, kv, .int .i64 e.col, .int .u8 e.lit.kind, .bool e.lit.bool, .int .i64 e.lit.int, .string e.lit.text]

/-- what came in fits its kinds -/
def Dat.fits (d : Dat) : Prop := (0 ≤ d.kind ∧ d.kind ≤ 255) ∧ (-9223372036854775808 ≤ d.int ∧ d.int ≤ 9223372036854775807) ∧ d.text.size ≤ 140737488355328
mutual
def ET.fits : ET → Prop
  | .mk o c d ks => (0 ≤ o ∧ o ≤ 255) ∧ (-9223372036854775808 ≤ c ∧ c ≤ 9223372036854775807) ∧ d.fits ∧ ks.length ≤ 140737488355328 ∧ ET.fitss ks
def ET.fitss : List ET → Prop
  | [] => True
  | k :: ks => k.fits ∧ ET.fitss ks
end
theorem ET.fitss_iff : ∀ {ks : List ET}, ET.fitss ks ↔ ∀ k ∈ ks, k.fits
  | [] => by simp [ET.fitss]
  | k :: ks => by simp [ET.fitss, ET.fitss_iff (ks := ks)]
end Go.Proofs.YtlpehdhgdpeoeaaGreatDoor
/- penstockref03.parts: how much there is to look at. -/
namespace Go.Proofs.YtlpehdhgdpeoeaaGreatDoor
open Go.RowKit Go.Pen
attribute [local go_sem ↓] Go.wp_at_zero Go.wp_at_succ

/-- the weight of the first k -/
theorem ET.weights_take : ∀ (ks : List ET) (i : Nat) (k : ET), ks[i]? = some k → ET.weights (ks.take (i + 1)) = ET.weights (ks.take i) + k.weight
  | [], i, k, h => by simp at h
  | x :: ks, 0, k, h => by simp at h; subst h; simp [ET.weights]
  | x :: ks, i + 1, k, h => by
    have := ET.weights_take ks i k (by simpa using h)
    simp only [List.take_succ_cons, ET.weights]
    rw [this]; omega

theorem ET.weights_le : ∀ (ks : List ET) (i : Nat), ET.weights (ks.take i) ≤ ET.weights ks
  | [], i => by simp [ET.weights]
  | x :: ks, 0 => by simp [ET.weights]
  | x :: ks, i + 1 => by
    have := ET.weights_le ks i
    simp only [List.take_succ_cons, ET.weights]; omega

end Go.Proofs.YtlpehdhgdpeoeaaGreatDoor
/- LentExpr, LentExprs: copies. -/
namespace Go.Proofs.YtlpehdhgdpeoeaaGreatDoor
open Go.RowKit Go.Pen
attribute [local go_sem ↓] Go.wp_at_zero Go.wp_at_succ

theorem info27 : (Tryz.prog.info? 57).map (fun i => (i.zero, i.size, i.bytes)) = some (some (.agg #[.int .u8 0, .slice none 0 0, .int .i64 0, .int .u8 0, .bool false, .int .i64 0, .string ⟨#[]⟩]), 7, 72) := by kernel_rfl

/-- a part's cells -/
def ET.cells (k : ET) (kv : Value) : List Value := [.int .u8 k.op, kv, .int .i64 k.col, .int .u8 k.lit.kind, .bool k.lit.bool, .int .i64 k.lit.int, .string k.lit.text]

/-- between two numbers -/
def Btw (lo hi : Nat) (g : Nat) : Prop := lo ≤ g ∧ g < hi

/-- the part at seven cells of a row -/
def ElOn (S : Nat → Prop) (w : World) (xs : List Value) (j : Nat) (k : ET) : Prop := ∃ kv, (∀ (t : Nat) x, (k.cells kv)[t]? = some x → xs[j * 7 + t]? = some x) ∧ k.On S w kv

theorem on_of_row {w : World} {base hi : Nat} {v : Value} {ks : List ET} {xs : List Value} (h : w.ownsRow base 57 7 v ks.length xs) (hhi : w.heap.size ≤ hi) (hel : ∀ (j : Nat) k, ks[j]? = some k → ElOn (Btw base hi) w xs j k) (o c : Int) (d : Dat) : (ET.mk o c d ks).On (Btw base hi) w v := by
  rw [ET.On.iff]
  simp only [ET.kids]
  rcases Nat.eq_zero_or_pos ks.length with h0 | h0
  · have hnil : ks = [] := List.length_eq_zero_iff.1 h0
    subst hnil
    rcases h.2 with ⟨hv, -⟩ | ⟨g, cap, cur, hv, -⟩
    · exact ⟨none, 0, hv, fun _ => rfl, fun h => absurd rfl h⟩
    · exact ⟨some ⟨g, 0, none⟩, cap, hv, (fun h => by cases h), fun h => absurd rfl h⟩
  · obtain ⟨g, cap, rfl, hg1, hg2⟩ := h.form h0
    refine ⟨some ⟨g, 0, none⟩, cap, rfl, (fun h => by cases h), fun _ => ⟨g, 0, rfl, ⟨hg1, by omega⟩, ET.Ons.mk fun i k hk => ?_⟩⟩
    obtain ⟨kv, h1, h2⟩ := hel i k hk
    have hc := (ownsRow_heap h).2.2.2
    rw [Nat.zero_add]
    exact ⟨kv, ⟨hc _ _ (h1 0 _ rfl), hc _ _ (h1 1 _ rfl), hc _ _ (h1 2 _ rfl), hc _ _ (h1 3 _ rfl), hc _ _ (h1 4 _ rfl), hc _ _ (h1 5 _ rfl), hc _ _ (h1 6 _ rfl)⟩, h2⟩

/-- the loop's relation: so many have come -/
def LRel (ks : List ET) (w : World) (k : Nat) (v : Value) (wr : World) : Prop :=
  ∃ xs, wr.ownsRow w.heap.size 57 7 v k xs ∧ (∀ (j : Nat) x, j < k → ks[j]? = some x → ∃ lo hi, w.heap.size ≤ lo ∧ hi ≤ wr.heap.size ∧ (∀ g, v.ownBlock = some g → g < lo ∨ hi ≤ g) ∧ ElOn (Btw lo hi) wr xs j x) ∧ Below w.heap.size w wr

theorem lrel_step {ks : List ET} {w wr w3 w4 w5 : World} {k : Nat} {v v' kv : Value} {x : ET} {xs : List Value} (hown : wr.ownsRow w.heap.size 57 7 v k xs)
    (hel : ∀ (j : Nat) x, j < k → ks[j]? = some x → ∃ lo hi, w.heap.size ≤ lo ∧ hi ≤ wr.heap.size ∧ (∀ g, v.ownBlock = some g → g < lo ∨ hi ≤ g) ∧ ElOn (Btw lo hi) wr xs j x) (hb : Below w.heap.size w wr) (hx : ks[k]? = some x)
    (h3 : Below wr.heap.size wr w3) (hat : x.On (Btw wr.heap.size w3.heap.size) w3 kv) (h4 : Below w3.heap.size w3 w4) (h5 : w5.ownsRow w.heap.size 57 7 v' (k + 1) (xs ++ x.cells kv)) (hg : w4.grownBy w5 v.ownBlock) (hv' : ∀ g, v'.ownBlock = some g → v.ownBlock = some g ∨ w4.heap.size ≤ g) : LRel ks w (k + 1) v' w5 := by
  have s3 := h3.size
  have s4 := h4.size
  have s5 := hg.size
  have sb := hb.size
  have keep : ∀ {S : Nat → Prop} {e : ET} {u : Value} {W : World}, e.On S W u → Below W.heap.size W w4 → (∀ g, S g → v.ownBlock ≠ some g) → e.On S w5 u := fun {S e u W} ho hbl hne => by
    refine (ho.below hbl).frame fun g hS hgl => hg.block g hgl fun e => hne g hS e.symm
  refine ⟨_, h5, fun j y hj hy => ?_, ?_⟩
  · have hl := hown.1
    by_cases e : j < k
    · obtain ⟨lo, hi, q1, q2, q3, kv', h1, h2⟩ := hel j y e hy
      refine ⟨lo, hi, q1, by omega, fun g hgv => ?_, kv', fun t z hz => ?_, keep h2 (h3.trans (h4.mono s3)) fun g hS hgv => ?_⟩
      · rcases hv' g hgv with h | h
        · exact q3 g h
        · right; omega
      · have ht := (List.getElem?_eq_some_iff.1 hz).1
        simp only [ET.cells, List.length_cons, List.length_nil] at ht
        rw [List.getElem?_append_left (by omega)]
        exact h1 t z hz
      · have := q3 g hgv
        have := hS.1
        have := hS.2
        omega
    · obtain rfl : j = k := by omega
      rw [hx] at hy; cases hy
      refine ⟨wr.heap.size, w3.heap.size, sb, by omega, fun g hgv => ?_, kv, fun t z hz => ?_, keep hat h4 fun g hS hgv => ?_⟩
      · rcases hv' g hgv with h | h
        · left; exact (hown.lt g h).2
        · right; omega
      · rw [List.getElem?_append_right (by omega), show j * 7 + t - xs.length = t by omega]
        exact hz
      · have := (hown.lt g hgv).2
        have := hS.1
        omega
  · exact ((hb.trans (h3.mono sb)).trans (h4.mono (by omega))).grown hg (by omega) (fun g hg' => (hown.lt g hg').1)

theorem ET.sizes_mem : ∀ {ks : List ET} {k : ET}, k ∈ ks → k.size ≤ ET.sizes ks
  | [], k, h => by cases h
  | x :: ks, k, h => by
    simp only [ET.sizes]
    rcases List.mem_cons.1 h with rfl | h
    · omega
    · have := ET.sizes_mem h; omega
theorem ET.sizes_len : ∀ (ks : List ET), ks.length ≤ ET.sizes ks
  | [] => Nat.zero_le _
  | x :: ks => by
    have := ET.sizes_len ks
    have := x.size_pos
    simp only [ET.sizes, List.length_cons]; omega

end Go.Proofs.YtlpehdhgdpeoeaaGreatDoor
/- SameExpr, SameExprs: of the same. -/
namespace Go.Proofs.YtlpehdhgdpeoeaaGreatDoor
open Go.RowKit Go.Pen
attribute [local go_sem ↓] Go.wp_at_zero Go.wp_at_succ

end Go.Proofs.YtlpehdhgdpeoeaaGreatDoor
/- kids: has an operator so many? -/
namespace Go.Proofs.YtlpehdhgdpeoeaaGreatDoor
open Go.RowKit Go.Pen
attribute [local go_sem ↓] Go.wp_at_zero Go.wp_at_succ

theorem and1 (n : Nat) (hn : n ≤ 140737488355328) : bits BinOp.and IntKind.i64 (n : Int) 1 = ((n % 2 : Nat) : Int) := by
  have h1 : (BitVec.ofInt 64 (n : Int)).toNat = n := by
    rw [BitVec.ofInt_natCast, BitVec.toNat_ofNat]; exact Nat.mod_eq_of_lt (by omega)
  have h2 : (BitVec.ofInt 64 (1 : Int)).toNat = 1 := by decide
  show IntKind.i64.wrap ((BitVec.ofInt 64 (n : Int) &&& BitVec.ofInt 64 (1 : Int)).toNat : Int) = _
  rw [BitVec.toNat_and, h1, h2, Nat.and_one_is_mod]
  exact IntWalk.i64_in _ (by omega)

set_option maxRecDepth 100000 in
set_option maxHeartbeats 1000000 in
theorem kids_53 (op : Int) (n : Nat) (w : World) (h0 : 0 ≤ op) (hn : n ≤ 140737488355328) : Calls Tryz.prog 69 #[.int .u8 op, .int .i64 n] w fun e w' => e = .returned (.bool (kidsOk op n)) ∧ w' = w := by
  have hb := and1 n hn
  by_cases e1 : op = 1
  · subst e1
    go_enter Tryz.func69, Tryz.ntmps69
    go_wp2
    all_goals (go_ret; refine ⟨?_, rfl⟩; simp [kidsOk]; (try (rw [Bool.eq_iff_iff]; simp)); (try (first | omega | (intro h1; omega) | (intro h1 h2; omega) | (intro h1 h2 h3; omega) | (constructor <;> intro h1 <;> omega))))
  by_cases e2 : op = 2
  · subst e2
    go_enter Tryz.func69, Tryz.ntmps69
    go_wp2
    all_goals (go_ret; refine ⟨?_, rfl⟩; simp [kidsOk]; (try (rw [Bool.eq_iff_iff]; simp)); (try (first | omega | (intro h1; omega) | (intro h1 h2; omega) | (intro h1 h2 h3; omega) | (constructor <;> intro h1 <;> omega))))
  by_cases e23 : op = 23
  · subst e23
    go_enter Tryz.func69, Tryz.ntmps69
    go_wp2
    all_goals (go_ret; refine ⟨?_, rfl⟩; simp [kidsOk]; (try (rw [Bool.eq_iff_iff]; simp)); (try (first | omega | (intro h1; omega) | (intro h1 h2; omega) | (intro h1 h2 h3; omega) | (constructor <;> intro h1 <;> omega))))
  by_cases e3 : op = 3
  · subst e3
    go_enter Tryz.func69, Tryz.ntmps69
    go_wp2
    all_goals (go_ret; refine ⟨?_, rfl⟩; simp [kidsOk]; (try (rw [Bool.eq_iff_iff]; simp)); (try (first | omega | (intro h1; omega) | (intro h1 h2; omega) | (intro h1 h2 h3; omega) | (constructor <;> intro h1 <;> omega))))
  by_cases e10 : op = 10
  · subst e10
    go_enter Tryz.func69, Tryz.ntmps69
    go_wp2
    all_goals (go_ret; refine ⟨?_, rfl⟩; simp [kidsOk]; (try (rw [Bool.eq_iff_iff]; simp)); (try (first | omega | (intro h1; omega) | (intro h1 h2; omega) | (intro h1 h2 h3; omega) | (constructor <;> intro h1 <;> omega))))
  by_cases e17 : op = 17
  · subst e17
    go_enter Tryz.func69, Tryz.ntmps69
    go_wp2
    all_goals (go_ret; refine ⟨?_, rfl⟩; simp [kidsOk]; (try (rw [Bool.eq_iff_iff]; simp)); (try (first | omega | (intro h1; omega) | (intro h1 h2; omega) | (intro h1 h2 h3; omega) | (constructor <;> intro h1 <;> omega))))
  by_cases e20 : op = 20
  · subst e20
    go_enter Tryz.func69, Tryz.ntmps69
    go_wp2
    all_goals (go_ret; refine ⟨?_, rfl⟩; simp [kidsOk]; (try (rw [Bool.eq_iff_iff]; simp)); (try (first | omega | (intro h1; omega) | (intro h1 h2; omega) | (intro h1 h2 h3; omega) | (constructor <;> intro h1 <;> omega))))
  by_cases e21 : op = 21
  · subst e21
    go_enter Tryz.func69, Tryz.ntmps69
    go_wp2
    all_goals (go_ret; refine ⟨?_, rfl⟩; simp [kidsOk]; (try (rw [Bool.eq_iff_iff]; simp)); (try (first | omega | (intro h1; omega) | (intro h1 h2; omega) | (intro h1 h2 h3; omega) | (constructor <;> intro h1 <;> omega))))
  by_cases e22 : op = 22
  · subst e22
    go_enter Tryz.func69, Tryz.ntmps69
    go_wp2
    all_goals (go_ret; refine ⟨?_, rfl⟩; simp [kidsOk]; (try (rw [Bool.eq_iff_iff]; simp)); (try (first | omega | (intro h1; omega) | (intro h1 h2; omega) | (intro h1 h2 h3; omega) | (constructor <;> intro h1 <;> omega))))
  by_cases e0 : op = 0
  · subst e0
    go_enter Tryz.func69, Tryz.ntmps69
    go_wp2
    all_goals (go_ret; refine ⟨?_, rfl⟩; simp [kidsOk]; (try (rw [Bool.eq_iff_iff]; simp)); (try (first | omega | (intro h1; omega) | (intro h1 h2; omega) | (intro h1 h2 h3; omega) | (constructor <;> intro h1 <;> omega))))
  by_cases hlt : op < 21
  · go_enter Tryz.func69, Tryz.ntmps69
    go_wp2
    all_goals (go_ret; refine ⟨?_, rfl⟩; simp [kidsOk, e1, e2, e23, e3, e10, e17, e20, e21, e22]; (try (rw [Bool.eq_iff_iff]; simp)); (try (first | omega | (intro h1; omega) | (intro h1 h2; omega) | (intro h1 h2 h3; omega) | (constructor <;> intro h1 <;> omega))))
  · go_enter Tryz.func69, Tryz.ntmps69
    go_wp2
    all_goals (go_ret; refine ⟨?_, rfl⟩; simp [kidsOk, e1, e2, e23, e3, e10, e17, e20, e21, e22]; (try (rw [Bool.eq_iff_iff]; simp)); (try (first | omega | (intro h1; omega) | (intro h1 h2; omega) | (intro h1 h2 h3; omega) | (constructor <;> intro h1 <;> omega))))

end Go.Proofs.YtlpehdhgdpeoeaaGreatDoor
