import Derived.Test.YtmmhedlagnjbiaaGreatDoorN
import Derived.OwnWalk
import Derived.ArgAppend
/- our texts, shortened by program (pack.py) -/
namespace Go.Proofs.YtmmhedlagnjbiaaGreatDoor
open Go.RowKit Go.Pen
attribute [local go_sem ↓] Go.wp_at_zero Go.wp_at_succ
theorem info3 : (Tryz.prog.info? 3).map (fun i => (i.zero, i.size, i.bytes)) = some (some (.int .i64 0), 1, 8) := by kernel_rfl
theorem owns_nil {w : World} {base e size n l c : Nat} {a : Option Addr} {xs : List Value} (h : w.ownsRow base e size (.slice a l c) n xs) : a = none → c = 0 := by
 rintro rfl
 rcases h.2 with ⟨h1, -⟩ | ⟨g, cap, cur, h1, -⟩
 ·cases h1; rfl
 ·cases h1
def IntsAt (w : World) (v : Value) (xs : List Int) : Prop :=
 ∃ a c, v = .slice a xs.length c ∧ (a = none → c = 0) ∧ (xs ≠ [] → ∃ b o, a = some ⟨b, o, none⟩ ∧ ∀ i x, xs[i]? = some x → w.cell? ⟨b, o + i, none⟩ = some (.int .i64 x))
theorem IntsAt.slice {w : World} {v : Value} {xs : List Int} (h : IntsAt w v xs) : ∃ a c, v = .slice a xs.length c := by obtain ⟨a, c, rfl, _⟩ := h; exact ⟨a, c, rfl⟩
theorem IntsAt.below {w w' : World} {v : Value} {xs : List Int} (h : IntsAt w v xs) (hb : Below w.heap.size w w') : IntsAt w' v xs := by
 obtain ⟨a, c, rfl, hz, h⟩ := h
 refine ⟨a, c, rfl, hz, fun hne => ?_⟩
 obtain ⟨b, o, rfl, g⟩ := h hne
 exact ⟨b, o, rfl, fun i x hx => cell_keep hb (g i x hx)⟩
theorem intsAt_of_owns {w : World} {base : Nat} {v : Value} {n : Nat} {xs : List Int} (h : w.ownsRow base 3 1 v n (xs.map (Value.int .i64))) : IntsAt w v xs := by
 have hl : n = xs.length := by have := h.1; simp at this; omega
 subst hl
 obtain ⟨a, c, rfl⟩ := ownsRow_slice h
 refine ⟨a, c, rfl, owns_nil h, fun hne => ?_⟩
 obtain ⟨g, cap, hv, _, _⟩ := h.form (by cases xs; exact absurd rfl hne; simp)
 simp only [Value.slice.injEq] at hv
 obtain ⟨rfl, _, rfl⟩ := hv
 refine ⟨g, 0, rfl, fun i x hx => ?_⟩
 rw [Nat.zero_add]
 exact (ownsRow_heap h).2.2.2 i _ (by rw [List.getElem?_map, hx]; rfl)
theorem ownsRow_head {w : World} {base e size n m cap g : Nat} {xs ys : List Value} (h : w.ownsRow base e size (.slice (some ⟨g, 0, none⟩) (n + m) cap) (n + m) (xs ++ ys)) (hx : xs.length = n * size) :
  w.ownsRow base e size (.slice (some ⟨g, 0, none⟩) n cap) n xs := by
 refine ⟨hx, ?_⟩
 rcases h.2 with ⟨hv, _⟩ | ⟨g', cap', cur, hv, hb, hg, h1, h2, h3, h4⟩
 ·cases hv
 ·cases hv
  refine .inr ⟨g, cap, cur, rfl, hb, hg, by omega, h2, h3, ?_⟩
  have := congrArg (List.take (n * size)) h4
  rw [List.take_take, Nat.min_eq_left (Nat.mul_le_mul_right _ (Nat.le_add_right n m)), ← hx, List.take_left] at this
  rw [← hx]
  exact this
def intCells (xs : List Int) : List Value := xs.map (Value.int .i64)
def intTail : List Value := [.int .i64 (-771), .int .i64 (-772)]
theorem intCells_len (xs : List Int) : (intCells xs).length = xs.length * 1 := by simp [intCells]
theorem intCells_one (xs : List Int) : ∀ u ∈ intCells xs, u.oneCell' = true := by
 intro u hu
 obtain ⟨x, -, rfl⟩ := List.mem_map.1 hu
 rfl
theorem IntsAt.cells {w : World} {a : Option Addr} {n c : Nat} {xs : List Int} (h : IntsAt w (.slice a n c) xs) : ∀ ad, a = some ad → ∀ j u, (intCells xs)[j]? = some u → w.cell? (ad.add j) = some u := by
 rintro ad rfl j u hu
 obtain ⟨a', c', hv, -, h⟩ := h
 cases hv
 have hj := (List.getElem?_eq_some_iff.1 hu).1
 simp [intCells] at hj
 obtain ⟨b, o, hb, hc⟩ := h (by intro e; rw [e] at hj; simp at hj)
 cases hb
 rw [add_lit]
 have hx : xs[j]? = some xs[j] := List.getElem?_eq_getElem hj
 rw [hc j _ hx]
 rw [intCells, List.getElem?_map, hx] at hu
 simpa using hu
theorem IntsAt.none {w : World} {a : Option Addr} {n c : Nat} {xs : List Int} (h : IntsAt w (.slice a n c) xs) : n = xs.length ∧ (a = none → n = 0 ∧ c = 0) := by
 obtain ⟨a', c', hv, hz, h⟩ := h
 cases hv
 refine ⟨rfl, fun ha => ⟨?_, hz ha⟩⟩
 cases xs with
 | nil => rfl
 | cons x xs => obtain ⟨b, o, hb, -⟩ := h (by simp); rw [ha] at hb; cases hb
def LentI (w : World) (lo g : Nat) (xs : List Int) : Prop := w.ownsRow lo 3 1 (.slice (some ⟨g, 0, none⟩) (xs.length + 2) (xs.length + 2)) (xs.length + 2) (intCells xs ++ intTail)
theorem LentI.head {w : World} {lo g : Nat} {xs : List Int} (h : LentI w lo g xs) : w.ownsRow lo 3 1 (.slice (some ⟨g, 0, none⟩) xs.length (xs.length + 2)) xs.length (intCells xs) := ownsRow_head h (intCells_len xs)
theorem LentI.at {w : World} {lo g : Nat} {xs : List Int} (h : LentI w lo g xs) : IntsAt w (.slice (some ⟨g, 0, none⟩) xs.length (xs.length + 2)) xs := intsAt_of_owns h.head
theorem LentI.tail {w : World} {lo g : Nat} {xs : List Int} (h : LentI w lo g xs) : w.cell? ⟨g, xs.length, none⟩ = some (.int .i64 (-771)) ∧ w.cell? ⟨g, xs.length + 1, none⟩ = some (.int .i64 (-772)) := by
 have hc := (ownsRow_heap h).2.2.2
 have hl := intCells_len xs
 refine ⟨hc _ _ ?_, hc _ _ ?_⟩
 ·rw [List.getElem?_append_right (by omega), show xs.length - (intCells xs).length = 0 by omega]; rfl
 ·rw [List.getElem?_append_right (by omega), show xs.length + 1 - (intCells xs).length = 1 by omega]; rfl
end Go.Proofs.YtmmhedlagnjbiaaGreatDoor
