import Derived.Test.YtpoilgeffpedoaaQc
import Derived.ArgAppend
/- The reference's Send, where there is room. -/
namespace Go.Proofs.Ytpoilgeffpedoaa
open Go.RowKit Go.Pen
attribute [local go_sem ↓] Go.wp_at_zero Go.wp_at_succ

theorem below_a1 (w : World) (o : Obj) : Below w.heap.size w (w.alloc o).drew := ((Below.refl _ _).alloc (Nat.le_refl _) _).drew

/-- a queue's cells, written out -/
theorem queue_olds {w : World} {ao : Option Addr} {l cc : Nat} {q : List AMsg} (h : QueueAt w (.slice ao l cc) q) : (q.flatMap AMsg.vals).length = l * 7 ∧ l = q.length ∧ ∀ b, ao = some b → ∀ j u, (q.flatMap AMsg.vals)[j]? = some u → w.cell? (b.add j) = some u := by
  obtain ⟨a, c, hv, -, h1⟩ := h
  cases hv
  have hl : ∀ (q : List AMsg), (q.flatMap AMsg.vals).length = q.length * 7 := fun q => by
    induction q with
    | nil => rfl
    | cons m q ih => rw [List.flatMap_cons, List.length_append, ih]; simp [AMsg.vals]; omega
  have ha : ∀ (q : List AMsg) (j : Nat) u, (q.flatMap AMsg.vals)[j]? = some u → ∃ m, q[j / 7]? = some m ∧ m.vals[j % 7]? = some u := fun q => by
    induction q with
    | nil => intro j u hu; simp at hu
    | cons m q ih =>
      intro j u hu
      have h7 : m.vals.length = 7 := rfl
      rw [List.flatMap_cons] at hu
      by_cases hj : j < 7
      · rw [List.getElem?_append_left (by omega)] at hu
        exact ⟨m, by rw [Nat.div_eq_of_lt hj]; rfl, by rw [Nat.mod_eq_of_lt hj]; exact hu⟩
      · rw [List.getElem?_append_right (by omega), h7] at hu
        obtain ⟨m', h1, h2⟩ := ih (j - 7) u hu
        refine ⟨m', ?_, ?_⟩
        · rw [show j / 7 = (j - 7) / 7 + 1 by omega, List.getElem?_cons_succ]; exact h1
        · rw [show j % 7 = (j - 7) % 7 by omega]; exact h2
  refine ⟨hl q, rfl, fun b hb j u hu => ?_⟩
  obtain ⟨g, o, cells, rfl, hc, hs, hlc, hm⟩ := h1 b hb
  obtain ⟨m, h1, h2⟩ := ha q j u hu
  have := hm _ m h1 _ u h2
  rw [add_lit]
  refine cell_of_heap hc ?_
  rw [show o + j = o + j / 7 * 7 + j % 7 by omega]; exact this

theorem vals_at : ∀ (q : List AMsg) (j : Nat) m, q[j]? = some m → ∀ (t : Nat) x, m.vals[t]? = some x → (q.flatMap AMsg.vals)[j * 7 + t]? = some x
  | [], j, m, h, t, x, hx => by simp at h
  | m' :: q, j, m, h, t, x, hx => by
    have ht : t < 7 := (List.getElem?_eq_some_iff.1 hx).1
    have h7 : m'.vals.length = 7 := rfl
    rw [List.flatMap_cons]
    cases j with
    | zero =>
      simp at h; subst h
      rw [List.getElem?_append_left (by omega)]
      simpa using hx
    | succ j =>
      rw [List.getElem?_append_right (by omega), h7, show (j + 1) * 7 + t - 7 = j * 7 + t by omega]
      exact vals_at q j m (by simpa using h) t x hx

theorem only_setCells : ∀ (vs : List Value) (w w' : World) (g o : Nat), Only (fun k => k = g) w w' → Only (fun k => k = g) w (w'.setCells g o vs)
  | [], _, _, _, _, h => h
  | _ :: vs, w, _, g, o, h => only_setCells vs w _ g (o + 1) (h.set rfl)

/-- one message more -/
theorem app_msg {w : World} {ao : Option Addr} {l cc : Nat} {q : List AMsg} {m : AMsg} {ad : Addr} (h : QueueAt w (.slice ao l cc) q) (hl : l ≤ 64) (hm : ∀ j u, m.vals[j]? = some u → w.cell? (ad.add j) = some u) :
    ∃ a' c' w', (Builtin.append_ #[101, 101] 101 #[.slice ao l cc, .slice (some ad) 1 1]).run Try.prog w = .ok (.slice a' (l + 1) c') w' ∧ QueueAt w' (.slice a' (l + 1) c') (q ++ [m]) ∧
      Only (fun g => (Value.slice ao l cc).ownBlock = some g) w w' ∧ ∀ g, (Value.slice a' (l + 1) c').ownBlock = some g → (Value.slice ao l cc).ownBlock = some g ∨ w.heap.size ≤ g := by
  obtain ⟨i0, hi0, hz0, hz1, hz2⟩ := info_parts info31
  obtain ⟨ho1, ho2, ho3⟩ := queue_olds h
  have h7 : m.vals.length = 1 * i0.size := by rw [hz1]; rfl
  have grow : ∀ v' w', w'.ownsRow w.heap.size 31 7 v' (l + 1) (q.flatMap AMsg.vals ++ m.vals) → w.grownBy w' none → ∃ a' c', v' = .slice a' (l + 1) c' ∧ QueueAt w' (.slice a' (l + 1) c') (q ++ [m]) ∧
      Only (fun g => (Value.slice ao l cc).ownBlock = some g) w w' ∧ ∀ g, (Value.slice a' (l + 1) c').ownBlock = some g → (Value.slice ao l cc).ownBlock = some g ∨ w.heap.size ≤ g := by
    intro v' w' hown hgr
    obtain ⟨g, c', rfl, hg, hlt⟩ := hown.form (by omega)
    obtain ⟨-, -, cur, hc⟩ := ownsRow_block hown (g := g) rfl
    have hlen : (q ++ [m]).length = l + 1 := by rw [List.length_append, ← ho2]; rfl
    refine ⟨_, _, rfl, ⟨_, c', by rw [hlen], (fun h => by cases h), fun ad hd => ?_⟩, ⟨hgr.os, hgr.tape, hgr.output, hgr.size, fun g hg _ => hgr.block g hg (fun e => by cases e)⟩, fun g hg => by cases hg; exact .inr ‹_›⟩
    cases hd
    have hsz : l + 1 ≤ c' ∧ cur.size = c' * 7 := by
      rcases hown.2 with ⟨h, -⟩ | ⟨g', cap, cur', hv, -, hg', h1, -, h3, -⟩
      · cases h
      · cases hv
        rw [hc] at hg'; cases hg'
        exact ⟨h1, h3⟩
    refine ⟨g, 0, cur, rfl, hc, by omega, by rw [hlen]; exact hsz.1, fun j m' hj t x hx => ?_⟩
    have h1 : (q.flatMap AMsg.vals ++ m.vals)[j * 7 + t]? = some x := by
      have := vals_at (q ++ [m]) j m' hj t x hx
      rwa [List.flatMap_append, List.flatMap_cons, List.flatMap_nil, List.append_nil] at this
    have h2 := (ownsRow_heap hown).2.2.2 _ _ h1
    rw [Nat.zero_add]
    simpa [World.cell?, hc] using h2
  by_cases hroom : l + 1 ≤ cc
  · obtain ⟨a, c, hv, hn0, h1⟩ := h
    cases hv
    cases ao with
    | none => have := (hn0 rfl).2; omega
    | some ad' =>
      obtain ⟨g, o, cells, rfl, hc, hs, hlc, hms⟩ := h1 ad' rfl
      have hlen : (q ++ [m]).length = q.length + 1 := by rw [List.length_append]; rfl
      have run := run_append_room_cells (P := Try.prog) w 101 101 31 i0 Try.underlying101 hi0 g o q.length cc ad 1 1 m.vals h7 hm m.one hroom
        (fun j hj => by
          have hj' : j < 7 := hj
          rw [hz1]
          have : o + q.length * 7 + j < cells.size := by omega
          rw [cell_of_heap hc (Array.getElem?_eq_getElem this)]; rfl) (fun j hj => frozen_of_heap hc)
      rw [hz1] at run
      obtain ⟨c', k1, k2, k3, k4⟩ := setCells_same m.vals w g (o + q.length * 7) cells 31 (0, 0) hc (by show _ + 7 ≤ _; omega)
      refine ⟨_, _, _, run, ⟨_, cc, by rw [hlen], (fun h => by cases h), fun ad' hd => ?_⟩, (only_setCells m.vals w w g _ (Only.refl _ _)).wide (fun k hk => by rw [hk]; rfl), fun g hg => .inl hg⟩
      · cases hd
        refine ⟨g, o, c', rfl, k1, by omega, by rw [hlen]; exact hroom, fun j m' hj t x hx => ?_⟩
        have ht : t < 7 := (List.getElem?_eq_some_iff.1 hx).1
        by_cases hjl : j < q.length
        · rw [List.getElem?_append_left hjl] at hj
          rw [k3 _ (.inl (by omega))]
          exact hms j m' hj t x hx
        · have hjl' := (List.getElem?_eq_some_iff.1 hj).1
          rw [hlen] at hjl'
          obtain rfl : j = q.length := by omega
          simp at hj
          subst hj
          exact k4 t x hx
  · cases ao with
    | none =>
      obtain ⟨a, c, hv, hn0, h1⟩ := h
      cases hv
      obtain ⟨rfl, rfl⟩ := hn0 rfl
      obtain ⟨v', w', run, r1, r2, -⟩ := run_append_own (P := Try.prog) w w.heap.size 101 101 31 i0 _ 7 104 Try.underlying101 hi0 hz0 hz1 hz2 rfl (by omega) (.slice none 0 0) 0 [] (World.ownsRow_nil w _ 31 7) ad 1 1 m.vals rfl hm m.one (by unfold maxLen; omega) (by omega) (Nat.le_refl _)
      obtain ⟨a', c', rfl, k1, k2, k3⟩ := grow v' w' r1 (by exact r2)
      exact ⟨a', c', w', run, k1, k2, k3⟩
    | some b =>
      obtain ⟨v', w', run, r1, r2⟩ := run_append_arg_grows (P := Try.prog) w 101 101 31 i0 _ 7 104 Try.underlying101 hi0 hz0 hz1 hz2 rfl (by omega) b l cc (q.flatMap AMsg.vals) ho1 (ho3 b rfl) ad 1 1 m.vals rfl hm (by omega) (by unfold maxLen; omega) (by omega)
      obtain ⟨a', c', rfl, k1, k2, k3⟩ := grow v' w' r1 r2
      exact ⟨a', c', w', run, k1, k2, k3⟩
end Go.Proofs.Ytpoilgeffpedoaa
