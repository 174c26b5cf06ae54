import Derived.WalkKit
import Derived.WalkSpells
import Derived.WalkLawsBesides
import Derived.RegionTactic
import Derived.Deep.QuietTactic
import Derived.BigQuiet
import Derived.BigRegion
import Derived.Outline
import Derived.Deep.AppendLies
import Derived.Laws.CopyOwn
import Derived.Test.YtmmhedlagnjbiaaGreatDoorProg
import Derived.Lib.Hide
import Derived.Deep.RegionHeld3
import Derived.Deep.DrawnRows
import Derived.Deep.LoopGhost
import Derived.Laws.Bits64b
import Derived.IntWalk
import Derived.Lib.ValidLaws
/- our texts, shortened by program (pack.py) -/
set_option maxRecDepth 100000
set_option maxHeartbeats 1000000
namespace Go.Pen
open Go.RowKit
theorem add_lit (b o j : Nat) : (⟨b, o, none⟩ : Addr).add j = ⟨b, o + j, none⟩ := by
 unfold Addr.add; split <;> simp_all
theorem run_copy_sized {P : Program} (w : World) (dT sT ty elem : TypeId) (i : TypeInfo) (g o dLen dCap : Nat) (a : Addr) (sLen sCap : Nat) (cur : Array Value) (t : TypeId) (cs : List Value)
  (hu : P.underlying dT = some (.slice elem)) (hi : P.info? elem = some i)
  (hg : w.heap[g]? = some (.cells cur t (0, 0))) (hn : cs.length = Nat.min sLen dLen * i.size)
  (hsrc : ∀ j v, cs[j]? = some v → w.cell? (a.add j) = some v) (hfit : o + cs.length ≤ cur.size) (h1 : ∀ v ∈ cs, v.oneCell' = true) :
  (Builtin.copy_ #[dT, sT] ty #[.slice (some ⟨g, o, none⟩) dLen dCap, .slice (some a) sLen sCap]).run P w =
   .ok (goInt (Nat.min sLen dLen)) (w.setRow g (cur.toList.take o ++ cs ++ cur.toList.drop (o + cs.length)).toArray) := by
 have hl := run_loadCells_list (P := P) w a cs hsrc
 have hst := run_storeCells_at P g o t cs 0 cur w hg (by simpa using hfit) h1
 rw [hn] at hl
 simp [Builtin.copy_, run_underlying hu, Builtin.lenOf, Builtin.firstCells, sizeOf, typeInfo, hi, hl, hst]
theorem wpList_copy_sized {P : Program} {w : World} {ops : Array Oper} {rest : List Oper} {o : Oper} {a : Act} {Q : Exit → Act → World → Prop} (hgd : o.guard = none) (d s : Operand) (dT sT : TypeId)
  (ho : o.op = .call { callee := .builtin .copy, args := #[d, s], argTypes := #[dT, sT] }) (elem : TypeId) (i : TypeInfo) (hu : P.underlying dT = some (.slice elem)) (hi : P.info? elem = some i)
  (g off dLen dCap : Nat) (ad : Addr) (sLen sCap : Nat) (hd : a.eval d = .slice (some ⟨g, off, none⟩) dLen dCap) (hs : a.eval s = .slice (some ad) sLen sCap)
  (cur : Array Value) (t : TypeId) (hg : w.heap[g]? = some (.cells cur t (0, 0))) (cs : List Value) (hn : cs.length = Nat.min sLen dLen * i.size)
  (hsrc : ∀ j v, cs[j]? = some v → w.cell? (ad.add j) = some v) (hfit : off + cs.length ≤ cur.size) (h1 : ∀ v ∈ cs, v.oneCell' = true)
  (h : wpList P ops Q rest (a.put o.dst (goInt (Nat.min sLen dLen))) (w.setRow g (cur.toList.take off ++ cs ++ cur.toList.drop (off + cs.length)).toArray)) : wpList P ops Q (o :: rest) a w := by
 refine wpList_plain hgd fun K hK => ?_
 have hrun := run_copy_sized (P := P) w dT sT o.type elem i g off dLen dCap ad sLen sCap cur t cs hu hi hg hn hsrc hfit h1
 unfold Oper.wp
 simp only [execOp, ho, resolve, invoke, builtin, Sem.run_bind, Sem.run_pure, Result.andThen_ok, List.map_toArray, List.map_cons, List.map_nil, hd, hs, hrun]
 exact hK _ _ h
theorem ownsRow_cell {w : World} {base e size n : Nat} {v : Value} {xs : List Value} (h : w.ownsRow base e size v n xs) {b c : Nat} {o : Nat} (hv : v = .slice (some ⟨b, o, none⟩) n c) {j : Nat} {u : Value} (hu : xs[j]? = some u) :
  w.cell? ⟨b, o + j, none⟩ = some u := by
 rcases h.2 with ⟨rfl, _⟩ | ⟨g, cap, cur, hv', _⟩
 ·cases hv
 ·obtain ⟨rfl, rfl⟩ : b = g ∧ o = 0 := by rw [hv] at hv'; simp at hv'; exact hv'.1
  have := h.cells (g := b) (by rw [hv]; rfl) j u hu
  rwa [add_lit] at this
theorem Below.ownsRow {B : Nat} {w w' : World} (h : Below B w w') {base e size n : Nat} {v : Value} {xs : List Value} (ho : w.ownsRow base e size v n xs) (hv : ∀ g, v.ownBlock = some g → g < B) : w'.ownsRow base e size v n xs := by
 refine ⟨ho.1, ?_⟩
 rcases ho.2 with hn | ⟨g, cap, cur, rfl, hb, hg, rest⟩
 ·exact .inl hn
 ·exact .inr ⟨g, cap, cur, rfl, hb, by rw [h.block g (hv g rfl)]; exact hg, rest⟩
theorem ownsRow_lower {w : World} {base base' e size n : Nat} {v : Value} {xs : List Value} (ho : w.ownsRow base e size v n xs) (hb : base' ≤ base) : w.ownsRow base' e size v n xs := by
 refine ⟨ho.1, ?_⟩
 rcases ho.2 with hn | ⟨g, cap, cur, rfl, hb', rest⟩
 ·exact .inl hn
 ·exact .inr ⟨g, cap, cur, rfl, by omega, rest⟩
theorem Below.ownsRow' {w w' : World} (h : Below w.heap.size w w') {base e size n : Nat} {v : Value} {xs : List Value} (ho : w.ownsRow base e size v n xs) : w'.ownsRow base e size v n xs :=
 Below.ownsRow h ho fun g hg => (ho.lt g hg).2
theorem grownBy_setRow (w : World) (g : Nat) (cs : Array Value) : w.grownBy (w.setRow g cs) (some g) :=
 ⟨rfl, rfl, rfl, by simp [World.setRow], fun k _ hk => setRow_other w g k cs (fun e => hk (by rw [e]))⟩
theorem wpList_copy_over {P : Program} {w : World} {ops : Array Oper} {rest : List Oper} {o : Oper} {a : Act} {Q : Exit → Act → World → Prop} (hgd : o.guard = none) (d s : Operand) (dT sT : TypeId)
  (ho : o.op = .call { callee := .builtin .copy, args := #[d, s], argTypes := #[dT, sT] }) (elem : TypeId) (i : TypeInfo) (hu : P.underlying dT = some (.slice elem)) (hi : P.info? elem = some i)
  (g n dCap : Nat) (ad : Addr) (sCap : Nat) (hd : a.eval d = .slice (some ⟨g, 0, none⟩) n dCap) (hs : a.eval s = .slice (some ad) n sCap)
  (cur : Array Value) (t : TypeId) (hg : w.heap[g]? = some (.cells cur t (0, 0))) (cs : List Value) (hn : cs.length = n * i.size)
  (hsrc : ∀ j v, cs[j]? = some v → w.cell? (ad.add j) = some v) (hfit : cs.length = cur.size) (h1 : ∀ v ∈ cs, v.oneCell' = true)
  (h : ∀ w', Hid (w'.heap[g]? = some (.cells cs.toArray t (0, 0))) → w.grownBy w' (some g) → w'.heap.size = w.heap.size → wpList P ops Q rest (a.put o.dst (goInt n)) w') : wpList P ops Q (o :: rest) a w := by
 have hm : Nat.min n n = n := Nat.min_self n
 refine wpList_copy_sized hgd d s dT sT ho elem i hu hi g 0 n dCap ad n sCap hd hs cur t hg cs (by rw [hm]; exact hn) hsrc (by omega) h1 ?_
 rw [hm]
 refine h _ ?_ (grownBy_setRow _ _ _) (by simp [World.setRow])
 have e : (cur.toList.take 0 ++ cs ++ cur.toList.drop (0 + cs.length)) = cs := by
  rw [Nat.zero_add, hfit]; simp
 rw [e]
 exact setRow_heap w g cur _ t _ hg
theorem cell_set_ne {w : World} {b o b' o' : Nat} {v : Value} (h : b ≠ b') : (w.setCell ⟨b, o, none⟩ v).cell? ⟨b', o', none⟩ = w.cell? ⟨b', o', none⟩ :=
 World.cell?_setCell_other _ _ _ _ (fun e => h (by cases e; rfl))
theorem cell_set_off {w : World} {b o b' o' : Nat} {v : Value} (h : o ≠ o') : (w.setCell ⟨b, o, none⟩ v).cell? ⟨b', o', none⟩ = w.cell? ⟨b', o', none⟩ :=
 World.cell?_setCell_other _ _ _ _ (fun e => h (by cases e; rfl))
theorem ownsRow_frame {w w' : World} {base e size n : Nat} {v : Value} {xs : List Value} (ho : w.ownsRow base e size v n xs) (hf : ∀ g, v.ownBlock = some g → w'.heap[g]? = w.heap[g]?) : w'.ownsRow base e size v n xs := by
 refine ⟨ho.1, ?_⟩
 rcases ho.2 with hn | ⟨g, cap, cur, rfl, hb, hg, rest⟩
 ·exact .inl hn
 ·exact .inr ⟨g, cap, cur, rfl, hb, by rw [hf g rfl]; exact hg, rest⟩
theorem ownsRow_block {w : World} {base e size n : Nat} {v : Value} {xs : List Value} (ho : w.ownsRow base e size v n xs) {g : Nat} (hg : v.ownBlock = some g) : base ≤ g ∧ g < w.heap.size ∧ ∃ cur, w.heap[g]? = some (.cells cur e (0, 0)) := by
 refine ⟨(ho.lt g hg).1, (ho.lt g hg).2, ?_⟩
 rcases ho.2 with ⟨rfl, _⟩ | ⟨g', cap, cur, rfl, hb, hg', rest⟩
 ·cases hg
 ·cases hg; exact ⟨cur, hg'⟩
theorem heap_set_same {w : World} {b o : Nat} {v : Value} {c : Array Value} {t : TypeId} {f : Nat × Nat} (h : w.heap[b]? = some (.cells c t f)) : (w.setCell ⟨b, o, none⟩ v).heap[b]? = some (.cells (c.setIfInBounds o v) t f) := by
 simp only [World.setCell, Array.getElem?_modify, if_true, h, Option.map_some]
 simp
theorem heap_set_ne {w : World} {b o k : Nat} {v : Value} (h : k ≠ b) : (w.setCell ⟨b, o, none⟩ v).heap[k]? = w.heap[k]? := Below.heap_setCell _ _ _ _ h
theorem cell_of_heap {w : World} {b o : Nat} {c : Array Value} {t : TypeId} {f : Nat × Nat} {v : Value} (h : w.heap[b]? = some (.cells c t f)) (hc : c[o]? = some v) : w.cell? ⟨b, o, none⟩ = some v := by
 simp [World.cell?, h, hc]
theorem frozen_of_heap {w : World} {b o : Nat} {c : Array Value} {t : TypeId} (h : w.heap[b]? = some (.cells c t (0, 0))) : w.frozen? ⟨b, o, none⟩ = false := by
 simp [World.frozen?, h]
theorem sA {α : Type} (l : List α) (i : Nat) (a : α) : l.toArray.setIfInBounds i a = (l.set i a).toArray := by simp
theorem sB {α : Type} (l : List α) (x a : α) : (x :: l).set 0 a = a :: l := rfl
theorem sC {α : Type} (l : List α) (x a : α) (i : Nat) : (x :: l).set (i + 1) a = x :: l.set i a := rfl
theorem cs4 {w : World} {b : Nat} {a0 a1 a2 a3 : Value} {t : TypeId} {f : Nat × Nat} (h : w.heap[b]? = some (.cells #[a0, a1, a2, a3] t f)) : w.cell? ⟨b, 0, none⟩ = some a0 ∧ w.cell? ⟨b, 1, none⟩ = some a1 ∧ w.cell? ⟨b, 2, none⟩ = some a2 ∧ w.cell? ⟨b, 3, none⟩ = some a3 := ⟨cell_of_heap h rfl, cell_of_heap h rfl, cell_of_heap h rfl, cell_of_heap h rfl⟩
theorem cf4 {w : World} {b : Nat} {a0 a1 a2 a3 : Value} {t : TypeId} (h : w.heap[b]? = some (.cells #[a0, a1, a2, a3] t (0, 0))) : w.cell? ⟨b, 0, none⟩ = some a0 ∧ w.frozen? ⟨b, 0, none⟩ = false ∧ w.cell? ⟨b, 1, none⟩ = some a1 ∧ w.frozen? ⟨b, 1, none⟩ = false ∧ w.cell? ⟨b, 2, none⟩ = some a2 ∧ w.frozen? ⟨b, 2, none⟩ = false ∧ w.cell? ⟨b, 3, none⟩ = some a3 ∧ w.frozen? ⟨b, 3, none⟩ = false := ⟨cell_of_heap h rfl, frozen_of_heap h, cell_of_heap h rfl, frozen_of_heap h, cell_of_heap h rfl, frozen_of_heap h, cell_of_heap h rfl, frozen_of_heap h⟩
theorem cs7 {w : World} {b : Nat} {a0 a1 a2 a3 a4 a5 a6 : Value} {t : TypeId} {f : Nat × Nat} (h : w.heap[b]? = some (.cells #[a0, a1, a2, a3, a4, a5, a6] t f)) : w.cell? ⟨b, 0, none⟩ = some a0 ∧ w.cell? ⟨b, 1, none⟩ = some a1 ∧ w.cell? ⟨b, 2, none⟩ = some a2 ∧ w.cell? ⟨b, 3, none⟩ = some a3 ∧ w.cell? ⟨b, 4, none⟩ = some a4 ∧ w.cell? ⟨b, 5, none⟩ = some a5 ∧ w.cell? ⟨b, 6, none⟩ = some a6 := ⟨cell_of_heap h rfl, cell_of_heap h rfl, cell_of_heap h rfl, cell_of_heap h rfl, cell_of_heap h rfl, cell_of_heap h rfl, cell_of_heap h rfl⟩
theorem cf7 {w : World} {b : Nat} {a0 a1 a2 a3 a4 a5 a6 : Value} {t : TypeId} (h : w.heap[b]? = some (.cells #[a0, a1, a2, a3, a4, a5, a6] t (0, 0))) : w.cell? ⟨b, 0, none⟩ = some a0 ∧ w.frozen? ⟨b, 0, none⟩ = false ∧ w.cell? ⟨b, 1, none⟩ = some a1 ∧ w.frozen? ⟨b, 1, none⟩ = false ∧ w.cell? ⟨b, 2, none⟩ = some a2 ∧ w.frozen? ⟨b, 2, none⟩ = false ∧ w.cell? ⟨b, 3, none⟩ = some a3 ∧ w.frozen? ⟨b, 3, none⟩ = false ∧ w.cell? ⟨b, 4, none⟩ = some a4 ∧ w.frozen? ⟨b, 4, none⟩ = false ∧ w.cell? ⟨b, 5, none⟩ = some a5 ∧ w.frozen? ⟨b, 5, none⟩ = false ∧ w.cell? ⟨b, 6, none⟩ = some a6 ∧ w.frozen? ⟨b, 6, none⟩ = false := ⟨cell_of_heap h rfl, frozen_of_heap h, cell_of_heap h rfl, frozen_of_heap h, cell_of_heap h rfl, frozen_of_heap h, cell_of_heap h rfl, frozen_of_heap h, cell_of_heap h rfl, frozen_of_heap h, cell_of_heap h rfl, frozen_of_heap h, cell_of_heap h rfl, frozen_of_heap h⟩
theorem cs13 {w : World} {b : Nat} {a0 a1 a2 a3 a4 a5 a6 a7 a8 a9 a10 a11 a12 : Value} {t : TypeId} {f : Nat × Nat} (h : w.heap[b]? = some (.cells #[a0, a1, a2, a3, a4, a5, a6, a7, a8, a9, a10, a11, a12] t f)) : w.cell? ⟨b, 0, none⟩ = some a0 ∧ w.cell? ⟨b, 1, none⟩ = some a1 ∧ w.cell? ⟨b, 2, none⟩ = some a2 ∧ w.cell? ⟨b, 3, none⟩ = some a3 ∧ w.cell? ⟨b, 4, none⟩ = some a4 ∧ w.cell? ⟨b, 5, none⟩ = some a5 ∧ w.cell? ⟨b, 6, none⟩ = some a6 ∧ w.cell? ⟨b, 7, none⟩ = some a7 ∧ w.cell? ⟨b, 8, none⟩ = some a8 ∧ w.cell? ⟨b, 9, none⟩ = some a9 ∧ w.cell? ⟨b, 10, none⟩ = some a10 ∧ w.cell? ⟨b, 11, none⟩ = some a11 ∧ w.cell? ⟨b, 12, none⟩ = some a12 := ⟨cell_of_heap h rfl, cell_of_heap h rfl, cell_of_heap h rfl, cell_of_heap h rfl, cell_of_heap h rfl, cell_of_heap h rfl, cell_of_heap h rfl, cell_of_heap h rfl, cell_of_heap h rfl, cell_of_heap h rfl, cell_of_heap h rfl, cell_of_heap h rfl, cell_of_heap h rfl⟩
theorem cf13 {w : World} {b : Nat} {a0 a1 a2 a3 a4 a5 a6 a7 a8 a9 a10 a11 a12 : Value} {t : TypeId} (h : w.heap[b]? = some (.cells #[a0, a1, a2, a3, a4, a5, a6, a7, a8, a9, a10, a11, a12] t (0, 0))) : w.cell? ⟨b, 0, none⟩ = some a0 ∧ w.frozen? ⟨b, 0, none⟩ = false ∧ w.cell? ⟨b, 1, none⟩ = some a1 ∧ w.frozen? ⟨b, 1, none⟩ = false ∧ w.cell? ⟨b, 2, none⟩ = some a2 ∧ w.frozen? ⟨b, 2, none⟩ = false ∧ w.cell? ⟨b, 3, none⟩ = some a3 ∧ w.frozen? ⟨b, 3, none⟩ = false ∧ w.cell? ⟨b, 4, none⟩ = some a4 ∧ w.frozen? ⟨b, 4, none⟩ = false ∧ w.cell? ⟨b, 5, none⟩ = some a5 ∧ w.frozen? ⟨b, 5, none⟩ = false ∧ w.cell? ⟨b, 6, none⟩ = some a6 ∧ w.frozen? ⟨b, 6, none⟩ = false ∧ w.cell? ⟨b, 7, none⟩ = some a7 ∧ w.frozen? ⟨b, 7, none⟩ = false ∧ w.cell? ⟨b, 8, none⟩ = some a8 ∧ w.frozen? ⟨b, 8, none⟩ = false ∧ w.cell? ⟨b, 9, none⟩ = some a9 ∧ w.frozen? ⟨b, 9, none⟩ = false ∧ w.cell? ⟨b, 10, none⟩ = some a10 ∧ w.frozen? ⟨b, 10, none⟩ = false ∧ w.cell? ⟨b, 11, none⟩ = some a11 ∧ w.frozen? ⟨b, 11, none⟩ = false ∧ w.cell? ⟨b, 12, none⟩ = some a12 ∧ w.frozen? ⟨b, 12, none⟩ = false := ⟨cell_of_heap h rfl, frozen_of_heap h, cell_of_heap h rfl, frozen_of_heap h, cell_of_heap h rfl, frozen_of_heap h, cell_of_heap h rfl, frozen_of_heap h, cell_of_heap h rfl, frozen_of_heap h, cell_of_heap h rfl, frozen_of_heap h, cell_of_heap h rfl, frozen_of_heap h, cell_of_heap h rfl, frozen_of_heap h, cell_of_heap h rfl, frozen_of_heap h, cell_of_heap h rfl, frozen_of_heap h, cell_of_heap h rfl, frozen_of_heap h, cell_of_heap h rfl, frozen_of_heap h, cell_of_heap h rfl, frozen_of_heap h⟩
theorem lt_of_heap {w : World} {b : Nat} {x : Obj} (h : w.heap[b]? = some x) : b < w.heap.size := (Array.getElem?_eq_some_iff.1 h).1
theorem ownsRow_slice {w : World} {base e size n : Nat} {v : Value} {xs : List Value} (h : w.ownsRow base e size v n xs) : ∃ a c, v = .slice a n c := by
 rcases h.2 with ⟨rfl, rfl⟩ | ⟨g, cap, cur, rfl, _⟩
 ·exact ⟨_, _, rfl⟩
 ·exact ⟨_, _, rfl⟩
theorem ownsRow_heap {w : World} {base e size n b c : Nat} {xs : List Value} (h : w.ownsRow base e size (.slice (some ⟨b, 0, none⟩) n c) n xs) : b < w.heap.size ∧ base ≤ b ∧ n ≤ c ∧ ∀ j u, xs[j]? = some u → w.cell? ⟨b, j, none⟩ = some u := by
 refine ⟨(h.lt b rfl).2, (h.lt b rfl).1, ?_, fun j u hu => by have := ownsRow_cell h rfl hu; simpa using this⟩
 rcases h.2 with ⟨h, _⟩ | ⟨g, cap, cur, hv, _, _, h1, _⟩
 ·cases h
 ·cases hv; exact h1
theorem ownsRow_mk {w : World} {base e size n cap g : Nat} {cur : Array Value} {xs : List Value} (hb : base ≤ g) (hg : w.heap[g]? = some (.cells cur e (0, 0))) (hn : n ≤ cap) (hm : cap ≤ maxLen) (hs : cur.size = cap * size) (ht : cur.toList.take (n * size) = xs) :
  w.ownsRow base e size (.slice (some ⟨g, 0, none⟩) n cap) n xs := by
 refine ⟨?_, .inr ⟨g, cap, cur, rfl, hb, hg, hn, hm, hs, ht⟩⟩
 rw [← ht, List.length_take, Array.length_toList, hs]
 exact Nat.min_eq_left (Nat.mul_le_mul_right _ hn)
theorem below_undrew {B : Nat} {w w' : World} (h : Below B w.drew w') : Below B w w' := ⟨h.os, h.tape, h.output, h.size, h.block⟩
theorem below_undrewN {B n : Nat} {w w' : World} (h : Below B (w.drewN n) w') : Below B w w' := ⟨h.os, h.tape, h.output, h.size, h.block⟩
theorem below_drewN {B n : Nat} {w w' : World} (h : Below B w w') : Below B w (w'.drewN n) := ⟨h.os, h.tape, h.output, h.size, h.block⟩
end Go.Pen
namespace Go.Proofs.YtmmhedlagnjbiaaGreatDoor
structure Dat where
 kind : Int
 bool : Bool
 int : Int
 text : ByteArray
deriving DecidableEq
def Dat.zero : Dat := ⟨0, false, 0, ⟨#[]⟩⟩
inductive ET where
 | mk (op col : Int) (lit : Dat) (kids : List ET)
namespace ET
def op : ET → Int | mk o _ _ _ => o
def col : ET → Int | mk _ c _ _ => c
def lit : ET → Dat | mk _ _ d _ => d
def kids : ET → List ET | mk _ _ _ k => k
end ET
theorem ET.ind {C : ET → Prop} (h : ∀ o c d ks, (∀ k ∈ ks, C k) → C (.mk o c d ks)) : ∀ e, C e := by
 intro e
 exact ET.rec (motive_1 := C) (motive_2 := fun ks => ∀ k ∈ ks, C k) (fun o c d ks ih => h o c d ks ih) (fun k hk => by cases hk) (fun k ks hk hks x hx => by
  rcases List.mem_cons.1 hx with rfl | hx
  ·exact hk
  ·exact hks x hx) e
mutual
def ET.size : ET → Nat
 | .mk _ _ _ ks => 1 + ET.sizes ks
def ET.sizes : List ET → Nat
 | [] => 0
 | k :: ks => k.size + ET.sizes ks
end
mutual
def ET.weight : ET → Nat
 | .mk _ _ d ks => 1 + d.text.size / 64 + ET.weights ks
def ET.weights : List ET → Nat
 | [] => 0
 | k :: ks => k.weight + ET.weights ks
end
mutual
def ET.pre : ET → Nat → List (Nat × ET)
 | .mk o c d ks, deep => (deep, .mk o c d ks) :: if deep ≤ 60 then ET.pres ks (deep + 1) else []
def ET.pres : List ET → Nat → List (Nat × ET)
 | [], _ => []
 | k :: ks, deep => k.pre deep ++ ET.pres ks deep
end
def kidsOk (op : Int) (n : Nat) : Bool :=
 if op = 1 ∨ op = 2 ∨ op = 23 then n == 0
 else if op = 3 ∨ op = 10 ∨ op = 17 ∨ op = 20 then n == 1
 else if op = 21 then decide (2 < n) && n % 2 == 1
 else if op = 22 then decide (0 < n)
 else decide (0 < op) && decide (op < 21) && n == 2
def ET.own (ok : Dat → Bool) (e : ET) : Bool :=
 kidsOk e.op e.kids.length && (if e.op = 1 then decide (0 ≤ e.col ∧ e.col ≤ 9999) else decide (e.col = 0)) &&
  (if e.op = 2 then ok e.lit else if e.op = 23 then decide (e.lit = ⟨3, false, e.lit.int, ⟨#[]⟩⟩ ∧ 1 ≤ e.lit.int ∧ e.lit.int ≤ 65535) else decide (e.lit = Dat.zero))
mutual
def ET.good (ok : Dat → Bool) : ET → Nat → Bool
 | .mk o c d ks, deep => ET.own ok (.mk o c d ks) && decide (deep ≤ 60) && ET.goods ok ks (deep + 1)
def ET.goods (ok : Dat → Bool) : List ET → Nat → Bool
 | [], _ => true
 | k :: ks, deep => k.good ok deep && ET.goods ok ks deep
end
def ET.may (ok : Dat → Bool) (e : ET) : Bool := e.good ok 1 && decide (e.size ≤ 4000)
mutual
def ET.within (n : Int) : ET → Bool
 | .mk o c _ ks => !(decide (o = 1) && decide (n ≤ c)) && ET.withins n ks
def ET.withins (n : Int) : List ET → Bool
 | [] => true
 | k :: ks => k.within n && ET.withins n ks
end
theorem ET.goods_iff (ok : Dat → Bool) : ∀ (ks : List ET) (deep : Nat), ET.goods ok ks deep = true ↔ ∀ k ∈ ks, k.good ok deep = true
 | [], deep => by simp [ET.goods]
 | k :: ks, deep => by simp [ET.goods, ET.goods_iff ok ks deep]
theorem ET.withins_iff (n : Int) : ∀ (ks : List ET), ET.withins n ks = true ↔ ∀ k ∈ ks, k.within n = true
 | [] => by simp [ET.withins]
 | k :: ks => by simp [ET.withins, ET.withins_iff n ks]
theorem ET.mem_pres {x : Nat × ET} : ∀ {ks : List ET} {deep : Nat}, x ∈ ET.pres ks deep ↔ ∃ k ∈ ks, x ∈ k.pre deep
 | [], deep => by simp [ET.pres]
 | k :: ks, deep => by simp [ET.pres, ET.mem_pres (ks := ks)]
theorem ET.good_iff (ok : Dat → Bool) : ∀ (e : ET) (deep : Nat), e.good ok deep = true ↔ ∀ x ∈ e.pre deep, x.1 ≤ 60 ∧ x.2.own ok = true := by
 refine ET.ind fun o c d ks ih deep => ?_
 simp only [ET.good, ET.pre, Bool.and_eq_true, decide_eq_true_eq, ET.goods_iff, List.mem_cons]
 constructor
 ·rintro ⟨⟨h1, h2⟩, h3⟩ x (rfl | hx)
  ·exact ⟨h2, h1⟩
  ·rw [if_pos h2] at hx
   obtain ⟨k, hk, hx⟩ := ET.mem_pres.1 hx
   exact (ih k hk (deep + 1)).1 (h3 k hk) x hx
 ·intro h
  obtain ⟨h2, h1⟩ := h _ (.inl rfl)
  refine ⟨⟨h1, h2⟩, fun k hk => (ih k hk (deep + 1)).2 fun x hx => h x (.inr ?_)⟩
  rw [if_pos h2]
  exact ET.mem_pres.2 ⟨k, hk, hx⟩
theorem ET.goods_len (ok : Dat → Bool) (deep : Nat) : ∀ (ks : List ET), (∀ k ∈ ks, k.good ok deep = true → (k.pre deep).length = k.size) → ET.goods ok ks deep = true → (ET.pres ks deep).length = ET.sizes ks
 | [], _, _ => rfl
 | k :: ks, h, hg => by
  simp only [ET.goods, Bool.and_eq_true] at hg
  simp only [ET.pres, List.length_append, ET.sizes]
  rw [h k List.mem_cons_self hg.1, ET.goods_len ok deep ks (fun k' hk => h k' (List.mem_cons_of_mem _ hk)) hg.2]
theorem ET.good_len (ok : Dat → Bool) : ∀ (e : ET) (deep : Nat), e.good ok deep = true → (e.pre deep).length = e.size := by
 refine ET.ind fun o c d ks ih deep hg => ?_
 simp only [ET.good, Bool.and_eq_true, decide_eq_true_eq] at hg
 simp only [ET.pre, if_pos hg.1.2, List.length_cons, ET.size]
 rw [ET.goods_len ok (deep + 1) ks (fun k hk hg => ih k hk (deep + 1) hg) hg.2]
 omega
theorem ET.may_iff (ok : Dat → Bool) (e : ET) : e.may ok = true ↔ (∀ x ∈ e.pre 1, x.1 ≤ 60 ∧ x.2.own ok = true) ∧ (e.pre 1).length ≤ 4000 := by
 simp only [ET.may, Bool.and_eq_true, decide_eq_true_eq, ← ET.good_iff]
 constructor
 ·rintro ⟨h1, h2⟩
  exact ⟨h1, by rw [ET.good_len ok e 1 h1]; exact h2⟩
 ·rintro ⟨h1, h2⟩
  exact ⟨h1, by rw [← ET.good_len ok e 1 h1]; exact h2⟩
theorem ET.within_of_pre (n : Int) (ok : Dat → Bool) : ∀ (e : ET) (deep : Nat), e.good ok deep = true → ((∀ x ∈ e.pre deep, ¬ (x.2.op = 1 ∧ n ≤ x.2.col)) ↔ e.within n = true) := by
 refine ET.ind fun o c d ks ih deep hg => ?_
 simp only [ET.good, Bool.and_eq_true, decide_eq_true_eq, ET.goods_iff] at hg
 obtain ⟨⟨-, h2⟩, h3⟩ := hg
 simp only [ET.pre, if_pos h2, List.mem_cons, ET.within, Bool.and_eq_true, ET.withins_iff, Bool.not_eq_true', Bool.and_eq_false_iff, decide_eq_false_iff_not]
 constructor
 ·intro h
  refine ⟨?_, fun k hk => (ih k hk (deep + 1) (h3 k hk)).1 fun x hx => h x (.inr (ET.mem_pres.2 ⟨k, hk, hx⟩))⟩
  have := h _ (.inl rfl)
  simp only [ET.op, ET.col] at this
  by_cases e : o = 1
  ·right; exact fun hn => this ⟨e, hn⟩
  ·left; exact e
 ·rintro ⟨h1, h4⟩ x (rfl | hx) ⟨ho, hn⟩
  ·simp only [ET.op, ET.col] at ho hn
   rcases h1 with h1 | h1
   ·exact h1 ho
   ·exact h1 hn
  ·obtain ⟨k, hk, hx⟩ := ET.mem_pres.1 hx
   exact (ih k hk (deep + 1) (h3 k hk)).2 (h4 k hk) x hx ⟨ho, hn⟩
theorem ET.size_pos (e : ET) : 1 ≤ e.size := by
 cases e; simp [ET.size]
theorem ET.size_le_weights : ∀ (ks : List ET), (∀ k ∈ ks, k.size ≤ k.weight) → ET.sizes ks ≤ ET.weights ks
 | [], _ => Nat.le_refl _
 | k :: ks, h => by
  have h1 := h k List.mem_cons_self
  have h2 := ET.size_le_weights ks fun k' hk => h k' (List.mem_cons_of_mem _ hk)
  simp only [ET.sizes, ET.weights]; omega
theorem ET.size_le_weight : ∀ (e : ET), e.size ≤ e.weight := by
 refine ET.ind fun o c d ks ih => ?_
 have := ET.size_le_weights ks ih
 simp only [ET.size, ET.weight]; omega
end Go.Proofs.YtmmhedlagnjbiaaGreatDoor
namespace Go.Proofs.YtmmhedlagnjbiaaGreatDoor
open Go.RowKit Go.Pen
theorem cell_keep {w w' : World} (h : Below w.heap.size w w') {a : Addr} {v : Value} (hc : w.cell? a = some v) : w'.cell? a = some v :=
 (World.cell?_of_block (h.block a.block (World.block_lt_of_cell? w a hc))).trans hc
def KidCells (w : World) (b o : Nat) (k : ET) (kv : Value) : Prop :=
 w.cell? ⟨b, o, none⟩ = some (.int .u8 k.op) ∧ w.cell? ⟨b, o + 1, none⟩ = some kv ∧ w.cell? ⟨b, o + 2, none⟩ = some (.int .i64 k.col) ∧ w.cell? ⟨b, o + 3, none⟩ = some (.int .u8 k.lit.kind) ∧
  w.cell? ⟨b, o + 4, none⟩ = some (.bool k.lit.bool) ∧ w.cell? ⟨b, o + 5, none⟩ = some (.int .i64 k.lit.int) ∧ w.cell? ⟨b, o + 6, none⟩ = some (.string k.lit.text)
mutual
def ET.On (S : Nat → Prop) (w : World) : ET → Value → Prop
 | .mk _ _ _ ks, v => ∃ a c, v = .slice a ks.length c ∧ (a = none → c = 0) ∧ (ks ≠ [] → ∃ b o, a = some ⟨b, o, none⟩ ∧ S b ∧ ET.Ons S w ks b o)
def ET.Ons (S : Nat → Prop) (w : World) : List ET → Nat → Nat → Prop
 | [], _, _ => True
 | k :: ks, b, o => (∃ kv, KidCells w b o k kv ∧ k.On S w kv) ∧ ET.Ons S w ks b (o + 7)
end
abbrev ET.At (w : World) (e : ET) (v : Value) : Prop := e.On (fun _ => True) w v
theorem ET.On.iff {S : Nat → Prop} {w : World} {e : ET} {v : Value} : e.On S w v ↔ ∃ a c, v = .slice a e.kids.length c ∧ (a = none → c = 0) ∧ (e.kids ≠ [] → ∃ b o, a = some ⟨b, o, none⟩ ∧ S b ∧ ET.Ons S w e.kids b o) := by
 cases e; simp only [ET.On, ET.kids]
theorem ET.Ons.get {S : Nat → Prop} {w : World} {b : Nat} : ∀ {ks : List ET} {o : Nat}, ET.Ons S w ks b o → ∀ {i : Nat} {k : ET}, ks[i]? = some k → ∃ kv, KidCells w b (o + i * 7) k kv ∧ k.On S w kv
 | [], _, _, i, k, hk => by simp at hk
 | x :: ks, o, h, i, k, hk => by
  simp only [ET.Ons] at h
  cases i with
  | zero => simp at hk; subst hk; simpa using h.1
  | succ i =>
   obtain ⟨kv, h1, h2⟩ := ET.Ons.get h.2 (i := i) (by simpa using hk)
   exact ⟨kv, by rw [show o + (i + 1) * 7 = o + 7 + i * 7 by omega]; exact h1, h2⟩
theorem ET.Ons.mk {S : Nat → Prop} {w : World} {b : Nat} : ∀ {ks : List ET} {o : Nat}, (∀ (i : Nat) (k : ET), ks[i]? = some k → ∃ kv, KidCells w b (o + i * 7) k kv ∧ k.On S w kv) → ET.Ons S w ks b o
 | [], _, _ => by simp only [ET.Ons]
 | x :: ks, o, h => by
  simp only [ET.Ons]
  refine ⟨by simpa using h 0 x rfl, ET.Ons.mk fun i k hk => ?_⟩
  obtain ⟨kv, h1, h2⟩ := h (i + 1) k (by simpa using hk)
  exact ⟨kv, by rw [show o + 7 + i * 7 = o + (i + 1) * 7 by omega]; exact h1, h2⟩
theorem cell_keep1 {w w' : World} {a : Addr} {v : Value} (hc : w.cell? a = some v) (hf : a.block < w.heap.size → w'.heap[a.block]? = w.heap[a.block]?) : w'.cell? a = some v :=
 (World.cell?_of_block (hf (World.block_lt_of_cell? w a hc))).trans hc
theorem KidCells.frame {w w' : World} {b o : Nat} {k : ET} {kv : Value} (h : KidCells w b o k kv) (hf : b < w.heap.size → w'.heap[b]? = w.heap[b]?) : KidCells w' b o k kv :=
 ⟨cell_keep1 h.1 hf, cell_keep1 h.2.1 hf, cell_keep1 h.2.2.1 hf, cell_keep1 h.2.2.2.1 hf, cell_keep1 h.2.2.2.2.1 hf, cell_keep1 h.2.2.2.2.2.1 hf, cell_keep1 h.2.2.2.2.2.2 hf⟩
theorem KidCells.below {w w' : World} {b o : Nat} {k : ET} {kv : Value} (h : KidCells w b o k kv) (hb : Below w.heap.size w w') : KidCells w' b o k kv := h.frame (hb.block b)
theorem ET.On.frame {S : Nat → Prop} {w w' : World} (hf : ∀ g, S g → g < w.heap.size → w'.heap[g]? = w.heap[g]?) : ∀ {e : ET} {v : Value}, e.On S w v → e.On S w' v := by
 intro e
 refine ET.ind (C := fun e => ∀ {v : Value}, e.On S w v → e.On S w' v) (fun o c d ks ih v h => ?_) e
 rw [ET.On.iff] at h ⊢
 obtain ⟨a, cc, hv, hn, h⟩ := h
 refine ⟨a, cc, hv, hn, fun hne => ?_⟩
 obtain ⟨b, off, ha, hS, h⟩ := h hne
 refine ⟨b, off, ha, hS, ET.Ons.mk fun i k hk => ?_⟩
 obtain ⟨kv, h1, h2⟩ := h.get hk
 exact ⟨kv, h1.frame (hf b hS), ih k (List.mem_of_getElem? hk) h2⟩
theorem ET.On.below {S : Nat → Prop} {w w' : World} {e : ET} {v : Value} (h : e.On S w v) (hb : Below w.heap.size w w') : e.On S w' v := h.frame fun g _ hg => hb.block g hg
theorem ET.On.wide {S S' : Nat → Prop} {w : World} (hf : ∀ g, S g → S' g) : ∀ {e : ET} {v : Value}, e.On S w v → e.On S' w v := by
 intro e
 refine ET.ind (C := fun e => ∀ {v : Value}, e.On S w v → e.On S' w v) (fun o c d ks ih v h => ?_) e
 rw [ET.On.iff] at h ⊢
 obtain ⟨a, cc, hv, hn, h⟩ := h
 refine ⟨a, cc, hv, hn, fun hne => ?_⟩
 obtain ⟨b, off, ha, hS, h⟩ := h hne
 refine ⟨b, off, ha, hf b hS, ET.Ons.mk fun i k hk => ?_⟩
 obtain ⟨kv, h1, h2⟩ := h.get hk
 exact ⟨kv, h1, ih k (List.mem_of_getElem? hk) h2⟩
theorem ET.On.at {S : Nat → Prop} {w : World} {e : ET} {v : Value} (h : e.On S w v) : e.At w v := h.wide fun _ _ => trivial
theorem ET.On.slice {S : Nat → Prop} {w : World} {e : ET} {v : Value} (h : e.On S w v) : ∃ a c, v = .slice a e.kids.length c := by
 obtain ⟨a, c, hv, -⟩ := ET.On.iff.1 h
 exact ⟨a, c, hv⟩
theorem ET.On.kid {S : Nat → Prop} {w : World} {e : ET} {v : Value} (h : e.On S w v) {i : Nat} {k : ET} (hk : e.kids[i]? = some k) : ∃ b o c kv, v = .slice (some ⟨b, o, none⟩) e.kids.length c ∧ KidCells w b (o + i * 7) k kv ∧ k.On S w kv := by
 obtain ⟨a, c, hv, -, hn⟩ := ET.On.iff.1 h
 obtain ⟨b, o, rfl, -, ht⟩ := hn fun e => by rw [e] at hk; simp at hk
 obtain ⟨kv, h1, h2⟩ := ht.get hk
 exact ⟨b, o, c, kv, hv, h1, h2⟩
def ET.agg (e : ET) (kv : Value) : Value := .agg #[.int .u8 e.op, kv, .int .i64 e.col, .int .u8 e.lit.kind, .bool e.lit.bool, .int .i64 e.lit.int, .string e.lit.text]
def Dat.fits (d : Dat) : Prop := (0 ≤ d.kind ∧ d.kind ≤ 255) ∧ (-9223372036854775808 ≤ d.int ∧ d.int ≤ 9223372036854775807) ∧ d.text.size ≤ 140737488355328
mutual
def ET.fits : ET → Prop
 | .mk o c d ks => (0 ≤ o ∧ o ≤ 255) ∧ (-9223372036854775808 ≤ c ∧ c ≤ 9223372036854775807) ∧ d.fits ∧ ks.length ≤ 140737488355328 ∧ ET.fitss ks
def ET.fitss : List ET → Prop
 | [] => True
 | k :: ks => k.fits ∧ ET.fitss ks
end
theorem ET.fitss_iff : ∀ {ks : List ET}, ET.fitss ks ↔ ∀ k ∈ ks, k.fits
 | [] => by simp [ET.fitss]
 | k :: ks => by simp [ET.fitss, ET.fitss_iff (ks := ks)]
end Go.Proofs.YtmmhedlagnjbiaaGreatDoor
namespace Go.Proofs.YtmmhedlagnjbiaaGreatDoor
open Go.RowKit Go.Pen
attribute [local go_sem ↓] Go.wp_at_zero Go.wp_at_succ
theorem ET.weights_take : ∀ (ks : List ET) (i : Nat) (k : ET), ks[i]? = some k → ET.weights (ks.take (i + 1)) = ET.weights (ks.take i) + k.weight
 | [], i, k, h => by simp at h
 | x :: ks, 0, k, h => by simp at h; subst h; simp [ET.weights]
 | x :: ks, i + 1, k, h => by
  have := ET.weights_take ks i k (by simpa using h)
  simp only [List.take_succ_cons, ET.weights]
  rw [this]; omega
theorem ET.weights_le : ∀ (ks : List ET) (i : Nat), ET.weights (ks.take i) ≤ ET.weights ks
 | [], i => by simp [ET.weights]
 | x :: ks, 0 => by simp [ET.weights]
 | x :: ks, i + 1 => by
  have := ET.weights_le ks i
  simp only [List.take_succ_cons, ET.weights]; omega
theorem parts_39 : ∀ (e : ET) (kv : Value) (n : Nat) (w : World), e.At w kv → e.fits → n ≤ 12000 →
  Calls Tryz.prog 14 #[e.agg kv, .int .i64 n] w fun ev w' => ∃ m : Nat, ev = .returned (.int .i64 m) ∧ ((n + e.weight ≤ 12000 → m = n + e.weight) ∧ (12000 < n + e.weight → 12000 < m) ∧ m ≤ 200000000000000000) ∧ Below w.heap.size w w' := by
 refine ET.ind fun o c d ks ih kv n w hat hfit hn => ?_
 obtain ⟨a, cc, rfl, -, hks⟩ := ET.On.iff.1 hat
 simp only [ET.fits, Dat.fits] at hfit
 obtain ⟨-, -, ⟨-, -, ht⟩, hkl, hfs⟩ := hfit
 have HF := Lib.hid (ET.fitss_iff.1 hfs)
 have HKS := Lib.hid hks
 have IH := Lib.hid ih
 obtain ⟨K, eK⟩ : ∃ K, K = ks.length := ⟨_, rfl⟩
 rw [← eK] at hkl
 obtain ⟨q, eq⟩ : ∃ q, q = d.text.size / 64 := ⟨_, rfl⟩
 have hq2 : q ≤ 3000000000000 := by omega
 have EK := Lib.hid eK
 have EQ := Lib.hid eq
 clear hfs hks ih hat
 unfold ET.agg
 simp only [ET.op, ET.col, ET.lit, ET.kids]
 rw [← eK]
 clear eK eq
 go_enter Tryz.func14, Tryz.ntmps14
 go_wp2_with fail
 obtain ⟨w1, hw1⟩ : ∃ w1, w1 = w.alloc (.cells #[.int .u8 o, .slice a K cc, .int .i64 c, .int .u8 d.kind, .bool d.bool, .int .i64 d.int, .string d.text] 27) := ⟨_, rfl⟩
 obtain ⟨H, eH⟩ : ∃ H, H = w.heap.size := ⟨_, rfl⟩
 have hb1 : Below w.heap.size w w1 := by rw [hw1]; exact (Below.refl _ _).alloc (Nat.le_refl _) _
 have c1 : w1.cell? ⟨H, 1, none⟩ = some (.slice a K cc) := by rw [hw1, eH]; exact cell_of_heap (heap_alloc_new _ _) rfl
 rw [← hw1, ← eH]
 have HB1 := Lib.hid hb1
 clear hw1 hb1 eH
 go_loopg [1, 5] K (fun g s1 s5 wr => ∃ i m : Nat, i ≤ K ∧ g = K - i ∧ s1 = .int .i64 m ∧ s5 = .int .i64 i ∧ ((n + 1 + q + ET.weights (ks.take i) ≤ 12000 → m = n + 1 + q + ET.weights (ks.take i)) ∧ (12000 < n + 1 + q + ET.weights (ks.take i) → 12000 < m) ∧ m ≤ 200000000000000000) ∧ Below w1.heap.size w1 wr)
 case atStart => exact ⟨0, n + (1 + q), Nat.zero_le _, by omega, congrArg (Value.int .i64) (by have := EQ.out; omega), rfl, ⟨fun _ => by simp [ET.weights]; omega, fun h => by simp [ET.weights] at h; omega, by omega⟩, Below.refl _ _⟩
 case round =>
  obtain ⟨i, m, hi, rfl, rfl, rfl, ⟨h1, h2, h3⟩, hbr⟩ := hrel
  have c1r := cell_keep hbr c1
  by_cases hlt : i < K
  ·by_cases hm : m ≤ 12000
   ·obtain ⟨k, hk⟩ : ∃ k, ks[i]? = some k := ⟨ks[i]'(by rw [← EK.out]; exact hlt), List.getElem?_eq_getElem _⟩
    obtain ⟨b, off, rfl, -, hats⟩ := HKS.out (fun e => by simp only [ET.kids] at e; rw [e] at hk; simp at hk)
    obtain ⟨kv, hkc, hkat⟩ := hats.get hk
    obtain ⟨a', c', rfl⟩ := hkat.slice
    have hbw : Below w.heap.size w wr := HB1.out.trans (hbr.mono HB1.out.size)
    obtain ⟨k0, k1, k2, k3, k4, k5, k6⟩ := hkc.below hbw
    have hct := IH.out k (List.mem_of_getElem? hk) _ m wr (hkat.below hbw) (HF.out k (List.mem_of_getElem? hk)) hm
    unfold ET.agg at hct
    have HCT := Lib.hid hct
    have HBR := Lib.hid hbr
    have HK := Lib.hid hk
    have H1 := Lib.hid h1
    have H2 := Lib.hid h2
    clear hats hkc hkat hbw hct hbr hk h1 h2
    go_wp2_with fail
    refine HCT.out.mono ?_
    rintro ev w2 ⟨m2, rfl, ⟨y1, y2, y3⟩, hb2⟩
    have HB2 : Hid (Below w1.heap.size w1 w2) := HBR.out.trans (hb2.mono HBR.out.size)
    have hwt := ET.weights_take ks i k HK.out
    clear k0 k1 k2 k3 k4 k5 k6 hb2 HCT
    go_wp2
    go_roundg (K - (i + 1))
    case measure => omega
    case rel =>
     have q1 := H1.out
     have q2 := H2.out
     exact ⟨i + 1, m2, by omega, rfl, rfl, by go_num, ⟨fun h => by rw [hwt] at h ⊢; omega, fun h => by rw [hwt] at h; omega, y3⟩, HB2.out⟩
   ·have HBR := Lib.hid hbr
    have hwl := ET.weights_le ks i
    clear hbr
    go_wp2
    go_ret
    refine ⟨m, rfl, ⟨fun h => ?_, fun _ => by omega, h3⟩, HB1.out.trans (HBR.out.mono HB1.out.size)⟩
    simp only [ET.weight] at h
    have := EQ.out
    omega
  ·obtain rfl : i = K := by omega
   have HBR := Lib.hid hbr
   have hwl : ks.take i = ks := List.take_of_length_le (by rw [EK.out]; exact Nat.le_refl _)
   rw [hwl] at h1 h2
   clear hbr
   go_wp2
   go_ret
   exact ⟨m, rfl, ⟨fun h => by have := EQ.out; simp only [ET.weight] at h ⊢; omega, fun h => by have := EQ.out; simp only [ET.weight] at h; omega, h3⟩, HB1.out.trans (HBR.out.mono HB1.out.size)⟩
end Go.Proofs.YtmmhedlagnjbiaaGreatDoor
namespace Go.Proofs.YtmmhedlagnjbiaaGreatDoor
open Go.RowKit Go.Pen
attribute [local go_sem ↓] Go.wp_at_zero Go.wp_at_succ
theorem info27 : (Tryz.prog.info? 27).map (fun i => (i.zero, i.size, i.bytes)) = some (some (.agg #[.int .u8 0, .slice none 0 0, .int .i64 0, .int .u8 0, .bool false, .int .i64 0, .string ⟨#[]⟩]), 7, 72) := by kernel_rfl
def ET.cells (k : ET) (kv : Value) : List Value := [.int .u8 k.op, kv, .int .i64 k.col, .int .u8 k.lit.kind, .bool k.lit.bool, .int .i64 k.lit.int, .string k.lit.text]
def Btw (lo hi : Nat) (g : Nat) : Prop := lo ≤ g ∧ g < hi
def ElOn (S : Nat → Prop) (w : World) (xs : List Value) (j : Nat) (k : ET) : Prop := ∃ kv, (∀ (t : Nat) x, (k.cells kv)[t]? = some x → xs[j * 7 + t]? = some x) ∧ k.On S w kv
theorem on_of_row {w : World} {base hi : Nat} {v : Value} {ks : List ET} {xs : List Value} (h : w.ownsRow base 27 7 v ks.length xs) (hhi : w.heap.size ≤ hi) (hel : ∀ (j : Nat) k, ks[j]? = some k → ElOn (Btw base hi) w xs j k) (o c : Int) (d : Dat) : (ET.mk o c d ks).On (Btw base hi) w v := by
 rw [ET.On.iff]
 simp only [ET.kids]
 rcases Nat.eq_zero_or_pos ks.length with h0 | h0
 ·have hnil : ks = [] := List.length_eq_zero_iff.1 h0
  subst hnil
  rcases h.2 with ⟨hv, -⟩ | ⟨g, cap, cur, hv, -⟩
  ·exact ⟨none, 0, hv, fun _ => rfl, fun h => absurd rfl h⟩
  ·exact ⟨some ⟨g, 0, none⟩, cap, hv, (fun h => by cases h), fun h => absurd rfl h⟩
 ·obtain ⟨g, cap, rfl, hg1, hg2⟩ := h.form h0
  refine ⟨some ⟨g, 0, none⟩, cap, rfl, (fun h => by cases h), fun _ => ⟨g, 0, rfl, ⟨hg1, by omega⟩, ET.Ons.mk fun i k hk => ?_⟩⟩
  obtain ⟨kv, h1, h2⟩ := hel i k hk
  have hc := (ownsRow_heap h).2.2.2
  rw [Nat.zero_add]
  exact ⟨kv, ⟨hc _ _ (h1 0 _ rfl), hc _ _ (h1 1 _ rfl), hc _ _ (h1 2 _ rfl), hc _ _ (h1 3 _ rfl), hc _ _ (h1 4 _ rfl), hc _ _ (h1 5 _ rfl), hc _ _ (h1 6 _ rfl)⟩, h2⟩
def LRel (ks : List ET) (w : World) (k : Nat) (v : Value) (wr : World) : Prop :=
 ∃ xs, wr.ownsRow w.heap.size 27 7 v k xs ∧ (∀ (j : Nat) x, j < k → ks[j]? = some x → ∃ lo hi, w.heap.size ≤ lo ∧ hi ≤ wr.heap.size ∧ (∀ g, v.ownBlock = some g → g < lo ∨ hi ≤ g) ∧ ElOn (Btw lo hi) wr xs j x) ∧ Below w.heap.size w wr
theorem lrel_step {ks : List ET} {w wr w3 w4 w5 : World} {k : Nat} {v v' kv : Value} {x : ET} {xs : List Value} (hown : wr.ownsRow w.heap.size 27 7 v k xs)
  (hel : ∀ (j : Nat) x, j < k → ks[j]? = some x → ∃ lo hi, w.heap.size ≤ lo ∧ hi ≤ wr.heap.size ∧ (∀ g, v.ownBlock = some g → g < lo ∨ hi ≤ g) ∧ ElOn (Btw lo hi) wr xs j x) (hb : Below w.heap.size w wr) (hx : ks[k]? = some x)
  (h3 : Below wr.heap.size wr w3) (hat : x.On (Btw wr.heap.size w3.heap.size) w3 kv) (h4 : Below w3.heap.size w3 w4) (h5 : w5.ownsRow w.heap.size 27 7 v' (k + 1) (xs ++ x.cells kv)) (hg : w4.grownBy w5 v.ownBlock) (hv' : ∀ g, v'.ownBlock = some g → v.ownBlock = some g ∨ w4.heap.size ≤ g) : LRel ks w (k + 1) v' w5 := by
 have s3 := h3.size
 have s4 := h4.size
 have s5 := hg.size
 have sb := hb.size
 have keep : ∀ {S : Nat → Prop} {e : ET} {u : Value} {W : World}, e.On S W u → Below W.heap.size W w4 → (∀ g, S g → v.ownBlock ≠ some g) → e.On S w5 u := fun {S e u W} ho hbl hne => by
  refine (ho.below hbl).frame fun g hS hgl => hg.block g hgl fun e => hne g hS e.symm
 refine ⟨_, h5, fun j y hj hy => ?_, ?_⟩
 ·have hl := hown.1
  by_cases e : j < k
  ·obtain ⟨lo, hi, q1, q2, q3, kv', h1, h2⟩ := hel j y e hy
   refine ⟨lo, hi, q1, by omega, fun g hgv => ?_, kv', fun t z hz => ?_, keep h2 (h3.trans (h4.mono s3)) fun g hS hgv => ?_⟩
   ·rcases hv' g hgv with h | h
    ·exact q3 g h
    ·right; omega
   ·have ht := (List.getElem?_eq_some_iff.1 hz).1
    simp only [ET.cells, List.length_cons, List.length_nil] at ht
    rw [List.getElem?_append_left (by omega)]
    exact h1 t z hz
   ·have := q3 g hgv
    have := hS.1
    have := hS.2
    omega
  ·obtain rfl : j = k := by omega
   rw [hx] at hy; cases hy
   refine ⟨wr.heap.size, w3.heap.size, sb, by omega, fun g hgv => ?_, kv, fun t z hz => ?_, keep hat h4 fun g hS hgv => ?_⟩
   ·rcases hv' g hgv with h | h
    ·left; exact (hown.lt g h).2
    ·right; omega
   ·rw [List.getElem?_append_right (by omega), show j * 7 + t - xs.length = t by omega]
    exact hz
   ·have := (hown.lt g hgv).2
    have := hS.1
    omega
 ·exact ((hb.trans (h3.mono sb)).trans (h4.mono (by omega))).grown hg (by omega) (fun g hg' => (hown.lt g hg').1)
theorem ET.sizes_mem : ∀ {ks : List ET} {k : ET}, k ∈ ks → k.size ≤ ET.sizes ks
 | [], k, h => by cases h
 | x :: ks, k, h => by
  simp only [ET.sizes]
  rcases List.mem_cons.1 h with rfl | h
  ·omega
  ·have := ET.sizes_mem h; omega
theorem ET.sizes_len : ∀ (ks : List ET), ks.length ≤ ET.sizes ks
 | [] => Nat.zero_le _
 | x :: ks => by
  have := ET.sizes_len ks
  have := x.size_pos
  simp only [ET.sizes, List.length_cons]; omega
def Lent10 (e : ET) : Prop := e.size ≤ 12000 → ∀ (kv : Value) (w : World), e.At w kv → Calls Tryz.prog 6 #[e.agg kv] w fun ev w' => ∃ kv', ev = .returned (e.agg kv') ∧ e.On (Btw w.heap.size w'.heap.size) w' kv' ∧ Below w.heap.size w w'
theorem lent_40 (ks : List ET) (o c : Int) (d : Dat) (hn : ET.sizes ks ≤ 12000) (ih : ∀ k ∈ ks, Lent10 k) (v : Value) (w : World) (hat : (ET.mk o c d ks).At w v) :
  Calls Tryz.prog 15 #[v] w fun ev w' => ∃ v', ev = .returned v' ∧ (ET.mk o c d ks).On (Btw w.heap.size w'.heap.size) w' v' ∧ Below w.heap.size w w' := by
 obtain ⟨i0, hi0, hz0, hz1, hz2⟩ := info_parts info27
 obtain ⟨a, cc, rfl, -, hks⟩ := ET.On.iff.1 hat
 simp only [ET.kids] at hks ⊢
 have hl := ET.sizes_len ks
 have HKS := Lib.hid hks
 have IH := Lib.hid ih
 obtain ⟨K, eK⟩ : ∃ K, K = ks.length := ⟨_, rfl⟩
 rw [← eK] at hl ⊢
 have EK := Lib.hid eK
 have HN := Lib.hid hn
 have hK : K ≤ 12000 := by omega
 clear hks ih eK hn hl hat
 go_enter Tryz.func15, Tryz.ntmps15
 go_wp2_with fail
 go_loopg [3, 4] K (fun g s3 s4 wr => ∃ i : Nat, i ≤ K ∧ g = K - i ∧ s4 = .int .i64 i ∧ LRel ks w i s3 wr)
 case atStart => exact ⟨0, Nat.zero_le _, by omega, rfl, [], World.ownsRow_nil _ _ _ _, fun j x hj => by omega, Below.refl _ _⟩
 case round =>
  obtain ⟨i, hi, rfl, rfl, hrl⟩ := hrel
  by_cases hlt : i < K
  ·obtain ⟨k, hk⟩ : ∃ k, ks[i]? = some k := ⟨ks[i]'(by rw [← EK.out]; exact hlt), List.getElem?_eq_getElem _⟩
   obtain ⟨b, off, rfl, -, hats⟩ := HKS.out (fun e => by rw [e] at hk; simp at hk)
   obtain ⟨kv, hkc, hkat⟩ := hats.get hk
   obtain ⟨a', c', rfl⟩ := hkat.slice
   obtain ⟨xs, hown, hel, hbw⟩ := hrl
   obtain ⟨k0, k1, k2, k3, k4, k5, k6⟩ := hkc.below hbw
   have hct := IH.out k (List.mem_of_getElem? hk) (Nat.le_trans (ET.sizes_mem (List.mem_of_getElem? hk)) HN.out) _ wr (hkat.below hbw)
   unfold ET.agg at hct
   have HCT := Lib.hid hct
   have HK := Lib.hid hk
   have HOW := Lib.hid hown
   have HEL := Lib.hid hel
   have HBW := Lib.hid hbw
   clear hats hkc hkat hct hk hown hel hbw
   go_wp2_with fail
   refine HCT.out.mono ?_
   rintro ev w3 ⟨kv', rfl, hon, hb3⟩
   obtain ⟨a3, c3, rfl⟩ := hon.slice
   have hsz3 := hb3.size
   have hszw := HBW.out.size
   have HON := Lib.hid hon
   have HB3 := Lib.hid hb3
   clear hon hb3 k0 k1 k2 k3 k4 k5 k6 HCT
   go_wp2_with (at_builtin; go_must (refine wpList_append_lies _ rfl _ _ 22 rfl w.heap.size 27 i0 _ 7 72 Tryz.underlying22 hi0 hz0 hz1 hz2 rfl (by decide) u3 i xs rfl ((Below.ownsRow' HB3.out HOW.out).alloc _) ⟨w3.heap.size, 0, none⟩ 1 1 (k.cells (.slice a3 k.kids.length c3)) rfl rfl ?c1 ?c2 (by decide) ?c3 ?c4 ?c5 _ rfl ?_))
   case c1 =>
    intro j u hj
    rw [add_lit, Nat.zero_add]
    exact cell_of_heap (heap_alloc_new _ _) (by rw [List.getElem?_toArray]; exact hj)
   case c2 => intro u hu; simp [ET.cells] at hu; rcases hu with rfl | rfl | rfl | rfl | rfl | rfl | rfl <;> rfl
   case c3 => unfold maxLen; omega
   case c4 => omega
   case c5 => simp; omega
   intro g cap w5 hown5 hgrow hat5 _
   have hstep : LRel ks w (i + 1) (.slice (some ⟨g, 0, none⟩) (i + 1) cap) w5 := by
    refine lrel_step HOW.out HEL.out HBW.out HK.out HB3.out HON.out ((Below.refl _ _).alloc (Nat.le_refl _) _) hown5 hgrow fun g' hg' => ?_
    cases hg'
    rcases hat5 with h | h
    ·exact .inl h
    ·exact .inr (by rw [World.size_alloc]; exact Nat.le_of_eq h.symm)
   have HS := Lib.hid hstep
   clear hstep hown5 hgrow hat5
   go_wp2
   go_roundg (K - (i + 1))
   case measure => omega
   case rel => exact ⟨i + 1, by omega, rfl, by go_num, HS.out⟩
  ·obtain rfl : i = K := by omega
   have HR := Lib.hid hrl
   clear hrl
   go_wp2
   go_ret
   obtain ⟨xs, hown, hel, hbw⟩ := HR.out
   refine ⟨_, rfl, on_of_row (xs := xs) (by rw [← EK.out]; exact hown) (Nat.le_refl _) (fun j k hk => ?_) o c d, hbw⟩
   obtain ⟨lo, hi, q1, q2, -, kv, h1, h2⟩ := hel j k (by rw [EK.out]; exact (List.getElem?_eq_some_iff.1 hk).1) hk
   exact ⟨kv, h1, h2.wide fun g hg => ⟨Nat.le_trans q1 hg.1, Nat.lt_of_lt_of_le hg.2 q2⟩⟩
theorem lent_10 : ∀ e : ET, Lent10 e := by
 refine ET.ind fun o c d ks ih hn kv w hat => ?_
 simp only [ET.size] at hn
 have h40 := lent_40 ks o c d (by omega) ih kv
 obtain ⟨a, cc, rfl⟩ := hat.slice
 simp only [ET.kids] at *
 obtain ⟨w1, hw1⟩ : ∃ w1, w1 = (w.alloc (.cells #[.int .u8 o, .slice a ks.length cc, .int .i64 c, .int .u8 d.kind, .bool d.bool, .int .i64 d.int, .string d.text] 27)).alloc (.cells #[.int .u8 0, .slice none 0 0, .int .i64 0, .int .u8 0, .bool false, .int .i64 0, .string ⟨#[]⟩] 27) := ⟨_, rfl⟩
 have hb1 : Below w.heap.size w w1 := by rw [hw1]; exact ((Below.refl _ _).alloc (Nat.le_refl _) _).alloc (by simp) _
 have HCT := Lib.hid (h40 w1 (hat.below hb1))
 have HB1 := Lib.hid hb1
 clear h40 hat ih
 unfold ET.agg
 simp only [ET.op, ET.col, ET.lit]
 go_enter Tryz.func6, Tryz.ntmps6
 go_wp2_with fail
 obtain ⟨H, eH⟩ : ∃ H, H = w.heap.size := ⟨_, rfl⟩
 have e0 : w1.heap[H]? = some (.cells #[.int .u8 o, .slice a ks.length cc, .int .i64 c, .int .u8 d.kind, .bool d.bool, .int .i64 d.int, .string d.text] 27 (0, 0)) := by
  rw [hw1, eH, Below.heap_alloc _ _ _ (by simp)]; exact heap_alloc_new _ _
 have e1 : w1.heap[H + 1]? = some (.cells #[.int .u8 0, .slice none 0 0, .int .i64 0, .int .u8 0, .bool false, .int .i64 0, .string ⟨#[]⟩] 27 (0, 0)) := by
  rw [hw1, eH]
  have h := heap_alloc_new (w.alloc (.cells #[.int .u8 o, .slice a ks.length cc, .int .i64 c, .int .u8 d.kind, .bool d.bool, .int .i64 d.int, .string d.text] 27)) (.cells #[.int .u8 0, .slice none 0 0, .int .i64 0, .int .u8 0, .bool false, .int .i64 0, .string ⟨#[]⟩] 27)
  rw [World.size_alloc] at h
  exact h
 have hs1 : w1.heap.size = H + 2 := by rw [hw1, eH]; simp
 rw [← hw1, ← eH]
 have EH := Lib.hid eH
 have HS1 := Lib.hid hs1
 have E0' := Lib.hid e0
 have E1' := Lib.hid e1
 clear hw1 hb1 eH e0 e1 hs1
 refine HCT.out.mono ?_
 rintro ev w2 ⟨v', rfl, hon, hb2⟩
 obtain ⟨aa, c2, rfl⟩ := hon.slice
 simp only [ET.kids]
 have E0 := Lib.hid ((hb2.block H (lt_of_heap E0'.out)).trans E0'.out)
 have E1 := Lib.hid ((hb2.block (H + 1) (lt_of_heap E1'.out)).trans E1'.out)
 have HON := Lib.hid hon
 have HB2 := Lib.hid hb2
 clear hon hb2 HCT E0' E1'
 have a0 : w2.cell? ⟨H, 0, none⟩ = some (.int .u8 o) := cell_of_heap E0.out rfl
 have a1 : w2.cell? ⟨H, 1, none⟩ = some (.slice a ks.length cc) := cell_of_heap E0.out rfl
 have a2 : w2.cell? ⟨H, 2, none⟩ = some (.int .i64 c) := cell_of_heap E0.out rfl
 have a3 : w2.cell? ⟨H, 3, none⟩ = some (.int .u8 d.kind) := cell_of_heap E0.out rfl
 have a4 : w2.cell? ⟨H, 4, none⟩ = some (.bool d.bool) := cell_of_heap E0.out rfl
 have a5 : w2.cell? ⟨H, 5, none⟩ = some (.int .i64 d.int) := cell_of_heap E0.out rfl
 have a6 : w2.cell? ⟨H, 6, none⟩ = some (.string d.text) := cell_of_heap E0.out rfl
 have f1 : w2.frozen? ⟨H, 1, none⟩ = false := frozen_of_heap E0.out
 have z0 : w2.cell? ⟨H + 1, 0, none⟩ = some (.int .u8 0) := cell_of_heap E1.out rfl
 have z1 : w2.cell? ⟨H + 1, 1, none⟩ = some (.slice none 0 0) := cell_of_heap E1.out rfl
 have z2 : w2.cell? ⟨H + 1, 2, none⟩ = some (.int .i64 0) := cell_of_heap E1.out rfl
 have z3 : w2.cell? ⟨H + 1, 3, none⟩ = some (.int .u8 0) := cell_of_heap E1.out rfl
 have z4 : w2.cell? ⟨H + 1, 4, none⟩ = some (.bool false) := cell_of_heap E1.out rfl
 have z5 : w2.cell? ⟨H + 1, 5, none⟩ = some (.int .i64 0) := cell_of_heap E1.out rfl
 have z6 : w2.cell? ⟨H + 1, 6, none⟩ = some (.string ⟨#[]⟩) := cell_of_heap E1.out rfl
 have g0 : w2.frozen? ⟨H + 1, 0, none⟩ = false := frozen_of_heap E1.out
 have g1 : w2.frozen? ⟨H + 1, 1, none⟩ = false := frozen_of_heap E1.out
 have g2 : w2.frozen? ⟨H + 1, 2, none⟩ = false := frozen_of_heap E1.out
 have g3 : w2.frozen? ⟨H + 1, 3, none⟩ = false := frozen_of_heap E1.out
 have g4 : w2.frozen? ⟨H + 1, 4, none⟩ = false := frozen_of_heap E1.out
 have g5 : w2.frozen? ⟨H + 1, 5, none⟩ = false := frozen_of_heap E1.out
 have g6 : w2.frozen? ⟨H + 1, 6, none⟩ = false := frozen_of_heap E1.out
 go_wp2_with fail
 obtain ⟨W, eW⟩ : ∃ W, W = ((((((((w2.setCell ⟨H, 1, none⟩ (.slice aa ks.length c2)).setCell ⟨H + 1, 0, none⟩ (.int .u8 o)).setCell ⟨H + 1, 1, none⟩ (.slice aa ks.length c2)).setCell ⟨H + 1, 2, none⟩ (.int .i64 c)).setCell ⟨H + 1, 3, none⟩ (.int .u8 d.kind)).setCell ⟨H + 1, 4, none⟩ (.bool d.bool)).setCell ⟨H + 1, 5, none⟩ (.int .i64 d.int)).setCell ⟨H + 1, 6, none⟩ (.string d.text)) := ⟨_, rfl⟩
 have hW : W.heap[H + 1]? = some (.cells #[.int .u8 o, .slice aa ks.length c2, .int .i64 c, .int .u8 d.kind, .bool d.bool, .int .i64 d.int, .string d.text] 27 (0, 0)) := by
  rw [eW]
  have h := (heap_set_same (o := 6) (v := .string d.text) (heap_set_same (o := 5) (v := .int .i64 d.int) (heap_set_same (o := 4) (v := .bool d.bool) (heap_set_same (o := 3) (v := .int .u8 d.kind) (heap_set_same (o := 2) (v := .int .i64 c) (heap_set_same (o := 1) (v := .slice aa ks.length c2) (heap_set_same (o := 0) (v := .int .u8 o) ((heap_set_ne (o := 1) (v := .slice aa ks.length c2) (show H + 1 ≠ H by omega)).trans E1.out))))))))
  simpa using h
 have hne : ∀ g, H + 2 ≤ g → W.heap[g]? = w2.heap[g]? := fun g hg => by
  rw [eW]
  simp only [heap_set_ne (show g ≠ H + 1 by omega), heap_set_ne (show g ≠ H by omega)]
 have hbW : Below w.heap.size w2 W := by
  rw [eW]
  exact (((((((((Below.refl w.heap.size w2).setCell (p := ⟨H, 1, none⟩) (by show w.heap.size ≤ H; have := EH.out; omega) _).setCell (p := ⟨H + 1, 0, none⟩) (by show w.heap.size ≤ H + 1; have := EH.out; omega) _).setCell (p := ⟨H + 1, 1, none⟩) (by show w.heap.size ≤ H + 1; have := EH.out; omega) _).setCell (p := ⟨H + 1, 2, none⟩) (by show w.heap.size ≤ H + 1; have := EH.out; omega) _).setCell (p := ⟨H + 1, 3, none⟩) (by show w.heap.size ≤ H + 1; have := EH.out; omega) _).setCell (p := ⟨H + 1, 4, none⟩) (by show w.heap.size ≤ H + 1; have := EH.out; omega) _).setCell (p := ⟨H + 1, 5, none⟩) (by show w.heap.size ≤ H + 1; have := EH.out; omega) _).setCell (p := ⟨H + 1, 6, none⟩) (by show w.heap.size ≤ H + 1; have := EH.out; omega) _)
 rw [← eW]
 have HNE := Lib.hid hne
 have HBW := Lib.hid hbW
 have HSZ := Lib.hid (show W.heap.size = w2.heap.size by rw [eW]; simp [World.setCell])
 have HWW := Lib.hid hW
 clear eW hne hbW hW a0 a1 a2 a3 a4 a5 a6 f1 z0 z1 z2 z3 z4 z5 z6 g0 g1 g2 g3 g4 g5 g6
 refine bodyPost_ret (v := .agg #[.int .u8 o, .slice aa ks.length c2, .int .i64 c, .int .u8 d.kind, .bool d.bool, .int .i64 d.int, .string d.text]) (results_cell_row rfl _ _ (H + 1) 27 _ (0, 0) _ rfl HWW.out Tryz.underlying27 rfl (by kernel_rfl)) rfl ?_
 refine ⟨_, rfl, ?_, HB1.out.trans ((HB2.out.mono HB1.out.size).trans HBW.out)⟩
 have hle : w.heap.size ≤ w1.heap.size := HB1.out.size
 refine (HON.out.frame fun g hg _ => HNE.out g (by have := HS1.out; have := hg.1; omega)).wide fun g hg => ⟨by have := hg.1; omega, by have := hg.2; have := HSZ.out; omega⟩
end Go.Proofs.YtmmhedlagnjbiaaGreatDoor
namespace Go.Proofs.YtmmhedlagnjbiaaGreatDoor
open Go.RowKit Go.Pen
attribute [local go_sem ↓] Go.wp_at_zero Go.wp_at_succ
def Same15 (e : ET) : Prop := e.size ≤ 12000 → ∀ (v1 v2 : Value) (w : World), e.At w v1 → e.At w v2 → Calls Tryz.prog 10 #[e.agg v1, e.agg v2] w fun ev w' => ev = .returned (.bool true) ∧ Below w.heap.size w w'
theorem same_48 (ks : List ET) (o c : Int) (d : Dat) (hn : ET.sizes ks ≤ 12000) (ih : ∀ k ∈ ks, Same15 k) (v1 v2 : Value) (w : World) (h1 : (ET.mk o c d ks).At w v1) (h2 : (ET.mk o c d ks).At w v2) :
  Calls Tryz.prog 23 #[v1, v2] w fun ev w' => ev = .returned (.bool true) ∧ Below w.heap.size w w' := by
 obtain ⟨a1, c1, rfl, -, h1⟩ := ET.On.iff.1 h1
 obtain ⟨a2, c2, rfl, -, h2⟩ := ET.On.iff.1 h2
 simp only [ET.kids] at *
 have hl := ET.sizes_len ks
 have H1 := Lib.hid h1
 have H2 := Lib.hid h2
 have IH := Lib.hid ih
 obtain ⟨K, eK⟩ : ∃ K, K = ks.length := ⟨_, rfl⟩
 rw [← eK] at hl ⊢
 have EK := Lib.hid eK
 have HN := Lib.hid hn
 have hK : K ≤ 12000 := by omega
 clear h1 h2 ih eK hn hl
 go_enter Tryz.func23, Tryz.ntmps23
 go_wp2_with fail
 go_loopg [5] K (fun g s5 wr => ∃ i : Nat, i ≤ K ∧ g = K - i ∧ s5 = .int .i64 i ∧ Below w.heap.size w wr)
 case atStart => exact ⟨0, Nat.zero_le _, by omega, rfl, Below.refl _ _⟩
 case round =>
  obtain ⟨i, hi, rfl, rfl, hbw⟩ := hrel
  by_cases hlt : i < K
  ·obtain ⟨k, hk⟩ : ∃ k, ks[i]? = some k := ⟨ks[i]'(by rw [← EK.out]; exact hlt), List.getElem?_eq_getElem _⟩
   have hne : ks ≠ [] := fun e => by rw [e] at hk; simp at hk
   obtain ⟨b1, o1, rfl, -, t1⟩ := H1.out hne
   obtain ⟨b2, o2, rfl, -, t2⟩ := H2.out hne
   obtain ⟨kv1, hk1, hat1⟩ := t1.get hk
   obtain ⟨kv2, hk2, hat2⟩ := t2.get hk
   obtain ⟨a1', c1', rfl⟩ := hat1.slice
   obtain ⟨a2', c2', rfl⟩ := hat2.slice
   obtain ⟨p0, p1, p2, p3, p4, p5, p6⟩ := hk1.below hbw
   obtain ⟨q0, q1, q2, q3, q4, q5, q6⟩ := hk2.below hbw
   have hct : ∀ W, Below w.heap.size w W → _ := fun W hW => IH.out k (List.mem_of_getElem? hk) (Nat.le_trans (ET.sizes_mem (List.mem_of_getElem? hk)) HN.out) _ _ W (hat1.below hW) (hat2.below hW)
   unfold ET.agg at hct
   have HCT := Lib.hid hct
   have HBW := Lib.hid hbw
   clear hk hne t1 t2 hk1 hk2 hat1 hat2 hct hbw
   go_wp2_with fail
   go_region_held3 (fun w' => w'.cell? ⟨b1, o1 + i * 7, none⟩ = some (.int .u8 k.op) ∧ w'.cell? ⟨b1, o1 + i * 7 + 1, none⟩ = some (.slice a1' k.kids.length c1') ∧ w'.cell? ⟨b1, o1 + i * 7 + 2, none⟩ = some (.int .i64 k.col) ∧ w'.cell? ⟨b1, o1 + i * 7 + 3, none⟩ = some (.int .u8 k.lit.kind) ∧ w'.cell? ⟨b1, o1 + i * 7 + 4, none⟩ = some (.bool k.lit.bool) ∧ w'.cell? ⟨b1, o1 + i * 7 + 5, none⟩ = some (.int .i64 k.lit.int) ∧ w'.cell? ⟨b1, o1 + i * 7 + 6, none⟩ = some (.string k.lit.text) ∧ w'.cell? ⟨b2, o2 + i * 7, none⟩ = some (.int .u8 k.op) ∧ w'.cell? ⟨b2, o2 + i * 7 + 1, none⟩ = some (.slice a2' k.kids.length c2') ∧ w'.cell? ⟨b2, o2 + i * 7 + 2, none⟩ = some (.int .i64 k.col) ∧ w'.cell? ⟨b2, o2 + i * 7 + 3, none⟩ = some (.int .u8 k.lit.kind) ∧ w'.cell? ⟨b2, o2 + i * 7 + 4, none⟩ = some (.bool k.lit.bool) ∧ w'.cell? ⟨b2, o2 + i * 7 + 5, none⟩ = some (.int .i64 k.lit.int) ∧ w'.cell? ⟨b2, o2 + i * 7 + 6, none⟩ = some (.string k.lit.text))
    (first | with_reducible exact HT3.out | exact ⟨p0, p1, p2, p3, p4, p5, p6, q0, q1, q2, q3, q4, q5, q6⟩)
    ((go_at_call 10; refine (HCT.out _ ?_).mono ?_; (first | exact ⟨HBW.out.os, HBW.out.tape, HBW.out.output, HBW.out.size, HBW.out.block⟩); rintro ev w3 ⟨rfl, hb3⟩; have HB3 : Hid (Below wr.heap.size wr w3) := ⟨hb3.os, hb3.tape, hb3.output, hb3.size, hb3.block⟩; have HT3 := Lib.hid (And.intro (cell_keep HB3.out p0) (And.intro (cell_keep HB3.out p1) (And.intro (cell_keep HB3.out p2) (And.intro (cell_keep HB3.out p3) (And.intro (cell_keep HB3.out p4) (And.intro (cell_keep HB3.out p5) (And.intro (cell_keep HB3.out p6) (And.intro (cell_keep HB3.out q0) (And.intro (cell_keep HB3.out q1) (And.intro (cell_keep HB3.out q2) (And.intro (cell_keep HB3.out q3) (And.intro (cell_keep HB3.out q4) (And.intro (cell_keep HB3.out q5) (cell_keep HB3.out q6)))))))))))))); clear hb3))
   have HB3w : Hid (Below w.heap.size w w3) := HBW.out.trans (HB3.out.mono HBW.out.size)
   clear HT3 HB3 p0 p1 p2 p3 p4 p5 p6 q0 q1 q2 q3 q4 q5 q6
   go_wp2
   go_roundg (K - (i + 1))
   case measure => omega
   case rel => exact ⟨i + 1, by omega, rfl, by go_num, HB3w.out⟩
  ·obtain rfl : i = K := by omega
   have HBW := Lib.hid hbw
   clear hbw
   go_wp2
   go_ret
   exact ⟨rfl, HBW.out⟩
theorem same_15 : ∀ e : ET, Same15 e := by
 refine ET.ind fun o c d ks ih hn v1 v2 w h1 h2 => ?_
 simp only [ET.size] at hn
 obtain ⟨a1, c1, rfl⟩ := h1.slice
 obtain ⟨a2, c2, rfl⟩ := h2.slice
 simp only [ET.kids] at *
 obtain ⟨w1, hw1⟩ : ∃ w1, w1 = (w.alloc (.cells #[.int .u8 o, .slice a1 ks.length c1, .int .i64 c, .int .u8 d.kind, .bool d.bool, .int .i64 d.int, .string d.text] 27)).alloc (.cells #[.int .u8 o, .slice a2 ks.length c2, .int .i64 c, .int .u8 d.kind, .bool d.bool, .int .i64 d.int, .string d.text] 27) := ⟨_, rfl⟩
 have hb1 : Below w.heap.size w w1 := by rw [hw1]; exact ((Below.refl _ _).alloc (Nat.le_refl _) _).alloc (by simp) _
 have HCT := Lib.hid (same_48 ks o c d (by omega) ih _ _ w1 (h1.below hb1) (h2.below hb1))
 have HB1 := Lib.hid hb1
 obtain ⟨dk, db, di, dt⟩ := d
 clear hb1 h1 h2 ih
 unfold ET.agg
 simp only [ET.op, ET.col, ET.lit]
 go_enter Tryz.func10, Tryz.ntmps10
 go_wp2_with fail
 rw [← hw1]
 refine HCT.out.mono ?_
 rintro ev w2 ⟨rfl, hb2⟩
 have HB2 : Hid (Below w.heap.size w w2) := HB1.out.trans (hb2.mono HB1.out.size)
 clear hb2 hw1 HCT
 go_wp2
 go_ret
 exact ⟨rfl, HB2.out⟩
end Go.Proofs.YtmmhedlagnjbiaaGreatDoor
namespace Go.Proofs.YtmmhedlagnjbiaaGreatDoor
open Go.RowKit Go.Pen
attribute [local go_sem ↓] Go.wp_at_zero Go.wp_at_succ
theorem and1 (n : Nat) (hn : n ≤ 140737488355328) : bits BinOp.and IntKind.i64 (n : Int) 1 = ((n % 2 : Nat) : Int) := by
 have h1 : (BitVec.ofInt 64 (n : Int)).toNat = n := by
  rw [BitVec.ofInt_natCast, BitVec.toNat_ofNat]; exact Nat.mod_eq_of_lt (by omega)
 have h2 : (BitVec.ofInt 64 (1 : Int)).toNat = 1 := by decide
 show IntKind.i64.wrap ((BitVec.ofInt 64 (n : Int) &&& BitVec.ofInt 64 (1 : Int)).toNat : Int) = _
 rw [BitVec.toNat_and, h1, h2, Nat.and_one_is_mod]
 exact IntWalk.i64_in _ (by omega)
theorem kids_53 (op : Int) (n : Nat) (w : World) (h0 : 0 ≤ op) (hn : n ≤ 140737488355328) : Calls Tryz.prog 28 #[.int .u8 op, .int .i64 n] w fun e w' => e = .returned (.bool (kidsOk op n)) ∧ w' = w := by
 have hb := and1 n hn
 by_cases e1 : op = 1
 ·subst e1
  go_enter Tryz.func28, Tryz.ntmps28
  go_wp2
  all_goals (go_ret; refine ⟨?_, rfl⟩; simp [kidsOk]; (try (rw [Bool.eq_iff_iff]; simp)); (try (first | omega | (intro h1; omega) | (intro h1 h2; omega) | (intro h1 h2 h3; omega) | (constructor <;> intro h1 <;> omega))))
 by_cases e2 : op = 2
 ·subst e2
  go_enter Tryz.func28, Tryz.ntmps28
  go_wp2
  all_goals (go_ret; refine ⟨?_, rfl⟩; simp [kidsOk]; (try (rw [Bool.eq_iff_iff]; simp)); (try (first | omega | (intro h1; omega) | (intro h1 h2; omega) | (intro h1 h2 h3; omega) | (constructor <;> intro h1 <;> omega))))
 by_cases e23 : op = 23
 ·subst e23
  go_enter Tryz.func28, Tryz.ntmps28
  go_wp2
  all_goals (go_ret; refine ⟨?_, rfl⟩; simp [kidsOk]; (try (rw [Bool.eq_iff_iff]; simp)); (try (first | omega | (intro h1; omega) | (intro h1 h2; omega) | (intro h1 h2 h3; omega) | (constructor <;> intro h1 <;> omega))))
 by_cases e3 : op = 3
 ·subst e3
  go_enter Tryz.func28, Tryz.ntmps28
  go_wp2
  all_goals (go_ret; refine ⟨?_, rfl⟩; simp [kidsOk]; (try (rw [Bool.eq_iff_iff]; simp)); (try (first | omega | (intro h1; omega) | (intro h1 h2; omega) | (intro h1 h2 h3; omega) | (constructor <;> intro h1 <;> omega))))
 by_cases e10 : op = 10
 ·subst e10
  go_enter Tryz.func28, Tryz.ntmps28
  go_wp2
  all_goals (go_ret; refine ⟨?_, rfl⟩; simp [kidsOk]; (try (rw [Bool.eq_iff_iff]; simp)); (try (first | omega | (intro h1; omega) | (intro h1 h2; omega) | (intro h1 h2 h3; omega) | (constructor <;> intro h1 <;> omega))))
 by_cases e17 : op = 17
 ·subst e17
  go_enter Tryz.func28, Tryz.ntmps28
  go_wp2
  all_goals (go_ret; refine ⟨?_, rfl⟩; simp [kidsOk]; (try (rw [Bool.eq_iff_iff]; simp)); (try (first | omega | (intro h1; omega) | (intro h1 h2; omega) | (intro h1 h2 h3; omega) | (constructor <;> intro h1 <;> omega))))
 by_cases e20 : op = 20
 ·subst e20
  go_enter Tryz.func28, Tryz.ntmps28
  go_wp2
  all_goals (go_ret; refine ⟨?_, rfl⟩; simp [kidsOk]; (try (rw [Bool.eq_iff_iff]; simp)); (try (first | omega | (intro h1; omega) | (intro h1 h2; omega) | (intro h1 h2 h3; omega) | (constructor <;> intro h1 <;> omega))))
 by_cases e21 : op = 21
 ·subst e21
  go_enter Tryz.func28, Tryz.ntmps28
  go_wp2
  all_goals (go_ret; refine ⟨?_, rfl⟩; simp [kidsOk]; (try (rw [Bool.eq_iff_iff]; simp)); (try (first | omega | (intro h1; omega) | (intro h1 h2; omega) | (intro h1 h2 h3; omega) | (constructor <;> intro h1 <;> omega))))
 by_cases e22 : op = 22
 ·subst e22
  go_enter Tryz.func28, Tryz.ntmps28
  go_wp2
  all_goals (go_ret; refine ⟨?_, rfl⟩; simp [kidsOk]; (try (rw [Bool.eq_iff_iff]; simp)); (try (first | omega | (intro h1; omega) | (intro h1 h2; omega) | (intro h1 h2 h3; omega) | (constructor <;> intro h1 <;> omega))))
 by_cases e0 : op = 0
 ·subst e0
  go_enter Tryz.func28, Tryz.ntmps28
  go_wp2
  all_goals (go_ret; refine ⟨?_, rfl⟩; simp [kidsOk]; (try (rw [Bool.eq_iff_iff]; simp)); (try (first | omega | (intro h1; omega) | (intro h1 h2; omega) | (intro h1 h2 h3; omega) | (constructor <;> intro h1 <;> omega))))
 by_cases hlt : op < 21
 ·go_enter Tryz.func28, Tryz.ntmps28
  go_wp2
  all_goals (go_ret; refine ⟨?_, rfl⟩; simp [kidsOk, e1, e2, e23, e3, e10, e17, e20, e21, e22]; (try (rw [Bool.eq_iff_iff]; simp)); (try (first | omega | (intro h1; omega) | (intro h1 h2; omega) | (intro h1 h2 h3; omega) | (constructor <;> intro h1 <;> omega))))
 ·go_enter Tryz.func28, Tryz.ntmps28
  go_wp2
  all_goals (go_ret; refine ⟨?_, rfl⟩; simp [kidsOk, e1, e2, e23, e3, e10, e17, e20, e21, e22]; (try (rw [Bool.eq_iff_iff]; simp)); (try (first | omega | (intro h1; omega) | (intro h1 h2; omega) | (intro h1 h2 h3; omega) | (constructor <;> intro h1 <;> omega))))
theorem kids_104 (op : Int) (n : Nat) (w : World) (h0 : 0 ≤ op) (hn : n ≤ 140737488355328) : Calls Tryz.prog 55 #[.int .u8 op, .int .i64 n] w fun e w' => e = .returned (.bool (kidsOk op n)) ∧ w' = w := by
 by_cases e1 : op = 1
 ·subst e1
  go_enter Tryz.func55, Tryz.ntmps55
  go_wp2
  all_goals (go_ret; refine ⟨?_, rfl⟩; simp [kidsOk]; (try (rw [Bool.eq_iff_iff]; simp)); (try (first | omega | (intro h1; omega) | (intro h1 h2; omega) | (intro h1 h2 h3; omega) | (constructor <;> intro h1 <;> omega))))
 by_cases e2 : op = 2
 ·subst e2
  go_enter Tryz.func55, Tryz.ntmps55
  go_wp2
  all_goals (go_ret; refine ⟨?_, rfl⟩; simp [kidsOk]; (try (rw [Bool.eq_iff_iff]; simp)); (try (first | omega | (intro h1; omega) | (intro h1 h2; omega) | (intro h1 h2 h3; omega) | (constructor <;> intro h1 <;> omega))))
 by_cases e23 : op = 23
 ·subst e23
  go_enter Tryz.func55, Tryz.ntmps55
  go_wp2
  all_goals (go_ret; refine ⟨?_, rfl⟩; simp [kidsOk]; (try (rw [Bool.eq_iff_iff]; simp)); (try (first | omega | (intro h1; omega) | (intro h1 h2; omega) | (intro h1 h2 h3; omega) | (constructor <;> intro h1 <;> omega))))
 by_cases e3 : op = 3
 ·subst e3
  go_enter Tryz.func55, Tryz.ntmps55
  go_wp2
  all_goals (go_ret; refine ⟨?_, rfl⟩; simp [kidsOk]; (try (rw [Bool.eq_iff_iff]; simp)); (try (first | omega | (intro h1; omega) | (intro h1 h2; omega) | (intro h1 h2 h3; omega) | (constructor <;> intro h1 <;> omega))))
 by_cases e10 : op = 10
 ·subst e10
  go_enter Tryz.func55, Tryz.ntmps55
  go_wp2
  all_goals (go_ret; refine ⟨?_, rfl⟩; simp [kidsOk]; (try (rw [Bool.eq_iff_iff]; simp)); (try (first | omega | (intro h1; omega) | (intro h1 h2; omega) | (intro h1 h2 h3; omega) | (constructor <;> intro h1 <;> omega))))
 by_cases e17 : op = 17
 ·subst e17
  go_enter Tryz.func55, Tryz.ntmps55
  go_wp2
  all_goals (go_ret; refine ⟨?_, rfl⟩; simp [kidsOk]; (try (rw [Bool.eq_iff_iff]; simp)); (try (first | omega | (intro h1; omega) | (intro h1 h2; omega) | (intro h1 h2 h3; omega) | (constructor <;> intro h1 <;> omega))))
 by_cases e20 : op = 20
 ·subst e20
  go_enter Tryz.func55, Tryz.ntmps55
  go_wp2
  all_goals (go_ret; refine ⟨?_, rfl⟩; simp [kidsOk]; (try (rw [Bool.eq_iff_iff]; simp)); (try (first | omega | (intro h1; omega) | (intro h1 h2; omega) | (intro h1 h2 h3; omega) | (constructor <;> intro h1 <;> omega))))
 by_cases e21 : op = 21
 ·subst e21
  go_enter Tryz.func55, Tryz.ntmps55
  go_wp2
  all_goals (go_ret; refine ⟨?_, rfl⟩; simp [kidsOk]; (try (rw [Bool.eq_iff_iff]; simp)); (try (first | omega | (intro h1; omega) | (intro h1 h2; omega) | (intro h1 h2 h3; omega) | (constructor <;> intro h1 <;> omega))))
 by_cases e22 : op = 22
 ·subst e22
  go_enter Tryz.func55, Tryz.ntmps55
  go_wp2
  all_goals (go_ret; refine ⟨?_, rfl⟩; simp [kidsOk]; (try (rw [Bool.eq_iff_iff]; simp)); (try (first | omega | (intro h1; omega) | (intro h1 h2; omega) | (intro h1 h2 h3; omega) | (constructor <;> intro h1 <;> omega))))
 by_cases e0 : op = 0
 ·subst e0
  go_enter Tryz.func55, Tryz.ntmps55
  go_wp2
  all_goals (go_ret; refine ⟨?_, rfl⟩; simp [kidsOk]; (try (rw [Bool.eq_iff_iff]; simp)); (try (first | omega | (intro h1; omega) | (intro h1 h2; omega) | (intro h1 h2 h3; omega) | (constructor <;> intro h1 <;> omega))))
 by_cases hlt : op < 21
 ·go_enter Tryz.func55, Tryz.ntmps55
  go_wp2
  all_goals (go_ret; refine ⟨?_, rfl⟩; simp [kidsOk, e1, e2, e23, e3, e10, e17, e20, e21, e22]; (try (rw [Bool.eq_iff_iff]; simp)); (try (first | omega | (intro h1; omega) | (intro h1 h2; omega) | (intro h1 h2 h3; omega) | (constructor <;> intro h1 <;> omega))))
 ·go_enter Tryz.func55, Tryz.ntmps55
  go_wp2
  all_goals (go_ret; refine ⟨?_, rfl⟩; simp [kidsOk, e1, e2, e23, e3, e10, e17, e20, e21, e22]; (try (rw [Bool.eq_iff_iff]; simp)); (try (first | omega | (intro h1; omega) | (intro h1 h2; omega) | (intro h1 h2 h3; omega) | (constructor <;> intro h1 <;> omega))))
end Go.Proofs.YtmmhedlagnjbiaaGreatDoor
namespace Go.Proofs.YtmmhedlagnjbiaaGreatDoor
open Go.RowKit Go.Pen
def chkD (d : Dat) : Nat :=
 if d.kind < 1 ∨ 4 < d.kind then 13
 else if (d.kind ≠ 2 ∧ d.bool = true) ∨ (d.kind ≠ 3 ∧ d.int ≠ 0) ∨ (d.kind ≠ 4 ∧ d.text.data.toList ≠ []) then 13
 else if Lib.validD d.text.data.toList = false then 13
 else if 1000 < d.text.size then 12 else 0
def okD (d : Dat) : Bool := chkD d == 0
def nul : Dat := ⟨1, false, 0, ⟨#[]⟩⟩
def boo (b : Bool) : Dat := ⟨2, b, 0, ⟨#[]⟩⟩
def num (n : Int) : Dat := ⟨3, false, n, ⟨#[]⟩⟩
def txt (t : ByteArray) : Dat := ⟨4, false, 0, t⟩
abbrev Res := Dat × Nat
def bad (n : Nat) : Res := (Dat.zero, n)
def isK (k : Int) (d : Dat) : Bool := okD d && (decide (d.kind = k) || decide (d.kind = 1))
def ov (n : Int) : Res := if -9223372036854775808 ≤ n ∧ n ≤ 9223372036854775807 then (num n, 0) else bad 10
def both (k : Int) (a b : Dat) (r : Res) : Res := if !(isK k a && isK k b) then bad 13 else if a.kind = 1 ∨ b.kind = 1 then (nul, 0) else r
def sole (k : Int) (a : Dat) (r : Res) : Res := if !isK k a then bad 13 else if a.kind = 1 then (nul, 0) else r
def runesN : Nat → List UInt8 → Nat
 | 0, _ => 0
 | _ + 1, [] => 0
 | n + 1, c :: cs => 1 + runesN n ((c :: cs).drop (Lib.decodeL (c :: cs)).2)
def runes (l : List UInt8) : Nat := runesN l.length l
def negD (a : Dat) : Res := sole 3 a (ov (-a.int))
def addD (a b : Dat) : Res := both 3 a b (ov (a.int + b.int))
def subD (a b : Dat) : Res := both 3 a b (ov (a.int - b.int))
def mulD (a b : Dat) : Res := both 3 a b (ov (a.int * b.int))
def divD (a b : Dat) : Res := both 3 a b (if b.int = 0 then bad 11 else ov (Int.tdiv a.int b.int))
def modD (a b : Dat) : Res := both 3 a b (if b.int = 0 then bad 11 else (num (Int.tmod a.int b.int), 0))
def catD (a b : Dat) : Res := both 4 a b (if 1000 < a.text.size + b.text.size then bad 12 else (txt ⟨(a.text.data.toList ++ b.text.data.toList).toArray⟩, 0))
def lenD (a : Dat) : Res := sole 4 a (num (runes a.text.data.toList), 0)
def notD (a : Dat) : Res := sole 2 a (boo (!a.bool), 0)
def told (r : Res) : Res := if r.2 = 0 then r else if r.2 = 13 then bad 31 else bad r.2
def truth (v : Res) : Nat × Bool × Bool := if v.2 ≠ 0 then (v.2, false, false) else if okD v.1 = false ∨ 2 < v.1.kind then (31, false, false) else (0, v.1.bool, decide (v.1.kind = 1))
def logic (stop : Bool) : Bool → List Res → Res
 | so, [] => if so then (nul, 0) else (boo (!stop), 0)
 | so, v :: vs => if (truth v).1 ≠ 0 then bad (truth v).1 else if (truth v).2.2 = false ∧ (truth v).2.1 = stop then (boo stop, 0) else logic stop (so || (truth v).2.2) vs
def choice : List Res → Res
 | [] => bad 0
 | [v] => v
 | c :: v :: vs => if (truth c).1 ≠ 0 then bad (truth c).1 else if (truth c).2.1 = true then v else choice vs
def coal : List Res → Res
 | [] => (nul, 0)
 | v :: vs => if v.2 ≠ 0 ∨ v.1.kind ≠ 1 then v else coal vs
end Go.Proofs.YtmmhedlagnjbiaaGreatDoor
