import Derived.Test.YtpoilgeffpedoaaRg
/- What is lent: as a message's lists, and as what may be written over. -/
namespace Go.Proofs.Ytpoilgeffpedoaa
open Go.RowKit Go.Pen

theorem LentUps.is {w : World} {lo g : Nat} {us : List Upd} (h : LentUps w lo g us) : UpsIs w 0 (.slice (some ⟨g, 0, none⟩) us.length (us.length + 1)) (us.map Upd.raw) := by
  obtain ⟨xs, h1, h2, h3⟩ := h
  refine ⟨xs, ?_, fun j u hu => ?_⟩
  · rw [List.length_map]; exact ownsRow_lower (ownsRow_head h1 h2) (Nat.zero_le _)
  · rw [List.getElem?_map] at hu
    cases hx : us[j]? with
    | none => rw [hx] at hu; cases hu
    | some x =>
      rw [hx] at hu; cases hu
      obtain ⟨rb, lb, a0, a1, a2, a3, hr, hl⟩ := h3 j x hx
      exact ⟨_, _, a0, a1, a2, a3, ownsRow_lower (LentR.head hr) (Nat.zero_le _), ownsRow_lower (LentW.head hl) (Nat.zero_le _)⟩

theorem shape_of_owns {w : World} {base e size n c g : Nat} {xs : List Value} (h : w.ownsRow base e size (.slice (some ⟨g, 0, none⟩) n c) n xs) : Shape w g e (c * size) ∧ base ≤ g ∧ g < w.heap.size := by
  refine ⟨?_, (h.lt g rfl).1, (h.lt g rfl).2⟩
  rcases h.2 with ⟨hv, _⟩ | ⟨g', cap', cur, hv, hb, hg, h1, h2, h3, h4⟩
  · cases hv
  · cases hv; exact ⟨cur, hg, h3⟩

theorem LentUps.sp {w : World} {lo g : Nat} {us : List Upd} (h : LentUps w lo g us) (hn : us.length ≤ 3000) (hk : ∀ u ∈ us, u.row.length ≤ 3000 ∧ u.loops.length ≤ 3000) : SpUps w lo w.heap.size g us.length (us.length + 1) := by
  obtain ⟨xs, h1, h2, h3⟩ := h
  rcases h1.2 with ⟨hv, _⟩ | ⟨g', cap', cur, hv, hb, hg, q1, q2, q3, q4⟩
  · cases hv
  · cases hv
    refine ⟨hb, lt_of_heap hg, Nat.le_succ _, by omega, cur, hg, q3, fun j hj => ?_⟩
    have hu : us[j]? = some us[j] := List.getElem?_eq_getElem hj
    obtain ⟨k1, k2⟩ := hk us[j] (List.getElem_mem hj)
    obtain ⟨rb, lb, a0, a1, a2, a3, hr, hl⟩ := h3 j _ hu
    obtain ⟨s1, s2, s3⟩ := shape_of_owns hr
    obtain ⟨l1, l2, l3⟩ := shape_of_owns hl
    have at' : ∀ (t : Nat) x, t < 4 → xs[4 * j + t]? = some x → cur[j * 4 + t]? = some x := fun t x ht hx => by
      have e1 : (xs ++ upTail)[4 * j + t]? = some x := by rw [List.getElem?_append_left (by omega)]; exact hx
      rw [← q4, List.getElem?_take] at e1
      split at e1
      · rw [show j * 4 + t = 4 * j + t by omega, ← Array.getElem?_toList]; exact e1
      · cases e1
    exact ⟨rb, _, _, lb, _, _, at' 0 _ (by omega) a0, Nat.le_add_right _ _, by omega, s1, s2, s3, at' 2 _ (by omega) a2, Nat.le_add_right _ _, by omega, by simpa using l1, l2, l3⟩

theorem Shape.frame {w w' : World} {g T sz : Nat} (h : Shape w g T sz) (hf : w'.heap[g]? = w.heap[g]?) : Shape w' g T sz := by
  obtain ⟨cur, h1, h2⟩ := h
  exact ⟨cur, hf.trans h1, h2⟩

theorem Shape.lt {w : World} {g T sz : Nat} (h : Shape w g T sz) : g < w.heap.size := by
  obtain ⟨cur, h1, h2⟩ := h
  exact lt_of_heap h1

theorem SpUps.frame {w w' : World} {lo hi g n c : Nat} (h : SpUps w lo hi g n c) (hf : ∀ x, lo ≤ x → x < hi → x < w.heap.size → w'.heap[x]? = w.heap[x]?) : SpUps w' lo hi g n c := by
  obtain ⟨h1, h2, h3, h4, cur, h5, h6, h7⟩ := h
  refine ⟨h1, h2, h3, h4, cur, (hf g h1 h2 (lt_of_heap h5)).trans h5, h6, fun j hj => ?_⟩
  obtain ⟨rb, rn, rc, lb, ln, lc, a0, r1, r2, r3, r4, r5, a2, l1, l2, l3, l4, l5⟩ := h7 j hj
  exact ⟨rb, rn, rc, lb, ln, lc, a0, r1, r2, r3.frame (hf rb r4 r5 r3.lt), r4, r5, a2, l1, l2, l3.frame (hf lb l4 l5 l3.lt), l4, l5⟩

theorem LentW.keep {w w' : World} {lo g : Nat} {xs : List Int} (h : LentW w lo g xs) (hf : ∀ x, lo ≤ x → x < w.heap.size → w'.heap[x]? = w.heap[x]?) : LentW w' lo g xs :=
  ownsRow_frame h fun x hx => hf x (h.lt x hx).1 (h.lt x hx).2

theorem LentUps.keep {w w' : World} {lo g : Nat} {us : List Upd} (h : LentUps w lo g us) (hf : ∀ x, lo ≤ x → x < w.heap.size → w'.heap[x]? = w.heap[x]?) : LentUps w' lo g us := by
  obtain ⟨xs, h1, h2, h3⟩ := h
  refine ⟨xs, ownsRow_frame h1 fun x hx => hf x (h1.lt x hx).1 (h1.lt x hx).2, h2, fun j u hu => ?_⟩
  obtain ⟨rb, lb, a0, a1, a2, a3, hr, hl⟩ := h3 j u hu
  exact ⟨rb, lb, a0, a1, a2, a3, ownsRow_frame hr fun x hx => hf x (hr.lt x hx).1 (hr.lt x hx).2, ownsRow_frame hl fun x hx => hf x (hl.lt x hx).1 (hl.lt x hx).2⟩

/-- what the owner writes over lies above -/
theorem Sp.below {w w' : World} {b lo hi : Nat} (h : Sp (SpB w lo hi) w w') (hb : b ≤ lo) (hs : b ≤ w.heap.size) : Below b w w' :=
  only_below h.1 hs fun _ hg => Nat.le_trans hb hg.1

theorem Sp.keep {w w' : World} {lo hi x : Nat} (h : Sp (SpB w lo hi) w w') (hx : x < w.heap.size) (hn : x < lo ∨ hi ≤ x) : w'.heap[x]? = w.heap[x]? :=
  h.1.block x hx fun hb => by have := hb.1; have := hb.2.1; omega

/-- the message of what is lent -/
theorem lent_msg {w : World} {m : AMsg} {l1 l2 l3 lb rg eg : Nat} (h1 : LentW w l1 lb m.loops) (h2 : LentUps w l2 rg m.rows) (h3 : LentUps w l3 eg m.errs) :
    MsgIs w 0 m.raw (.slice (some ⟨lb, 0, none⟩) m.loops.length (m.loops.length + 2)) (.slice (some ⟨rg, 0, none⟩) m.rows.length (m.rows.length + 1)) (.slice (some ⟨eg, 0, none⟩) m.errs.length (m.errs.length + 1)) :=
  ⟨ownsRow_lower h1.head (Nat.zero_le _), h2.is, h3.is⟩
theorem keep7 {w w' : World} (h : Below w.heap.size w w') {a0 a1 a2 a3 a4 a5 a6 : Addr} {v0 v1 v2 v3 v4 v5 v6 : Value} (hs : w.cell? a0 = some v0 ∧ w.cell? a1 = some v1 ∧ w.cell? a2 = some v2 ∧ w.cell? a3 = some v3 ∧ w.cell? a4 = some v4 ∧ w.cell? a5 = some v5 ∧ w.cell? a6 = some v6) :
    w'.cell? a0 = some v0 ∧ w'.cell? a1 = some v1 ∧ w'.cell? a2 = some v2 ∧ w'.cell? a3 = some v3 ∧ w'.cell? a4 = some v4 ∧ w'.cell? a5 = some v5 ∧ w'.cell? a6 = some v6 :=
  ⟨cell_keep h hs.1, cell_keep h hs.2.1, cell_keep h hs.2.2.1, cell_keep h hs.2.2.2.1, cell_keep h hs.2.2.2.2.1, cell_keep h hs.2.2.2.2.2.1, cell_keep h hs.2.2.2.2.2.2⟩

/-- the book's own -/
theorem st_own {C : Cfg} {K : AMsg → Prop} {w : World} {s : Sta} (h : St C K w s) : Calls Try.prog 26 #[.pointer (some ⟨C.BB, 0, none⟩)] w fun e w' => e = .returned (.bool true) ∧ Below C.b w w' := by
  obtain ⟨hB0, v3, v4, v10, n3, n4, n10, f3, f4, f10, l3, l4, l10, hB, h3, h4, h10, -⟩ := h.book
  exact own_26 C.BB C.b v3 v4 v10 n3 n4 n10 f3 f4 f10 l3 l4 l10 w hB h.base h3 h4 h10

theorem PairsAt.slice {w : World} {n : Nat} {v : Value} {l : List Nat} (h : PairsAt w n v l) : ∃ a c, v = .slice a l.length c := by
  obtain ⟨b, G, h1, h2⟩ := h
  exact ownsRow_slice h1
structure GAct where
  take : Bool
  A : Int
  B : Int
  m : AMsg

def GAct.vals (g : GAct) : List Value := [.bool g.take, .int .i64 g.A, .int .i64 g.B] ++ g.m.vals

/-- an update that came in -/
def Upd.big (u : Upd) : Prop := u.row.length ≤ 140737488355328 ∧ u.loops.length ≤ 140737488355328
def Upd.small (u : Upd) : Prop := u.row.length ≤ 3000 ∧ u.loops.length ≤ 3000

/-- a message that came in -/
structure AMsg.came (w : World) (m : AMsg) : Prop where
  loops : WordsAt w (.slice m.la m.loops.length m.lc) m.loops
  rows : UpsAt w (.slice m.ra m.rows.length m.rc) m.rows
  errs : UpsAt w (.slice m.ea m.errs.length m.ec) m.errs
  l1 : m.loops.length ≤ 140737488355328
  l2 : m.rows.length ≤ 140737488355328
  l3 : m.errs.length ≤ 140737488355328
  k2 : ∀ u ∈ m.rows, u.big
  k3 : ∀ u ∈ m.errs, u.big

structure AMsg.little (m : AMsg) : Prop where
  l1 : m.loops.length ≤ 3000
  l2 : m.rows.length ≤ 3000
  l3 : m.errs.length ≤ 3000
  k2 : ∀ u ∈ m.rows, u.small
  k3 : ∀ u ∈ m.errs, u.small

theorem AMsg.came.there {w : World} {m : AMsg} (h : m.came w) (hl : m.little) : m.there w := ⟨h.loops, h.rows, h.errs, hl.l1, hl.l2, hl.l3, hl.k2, hl.k3⟩

def ActsAt (w : World) (bl off : Nat) (acts : List GAct) : Prop := ∀ (i : Nat) g, acts[i]? = some g → ∀ (t : Nat) x, g.vals[t]? = some x → w.cell? ⟨bl, off + i * 10 + t, none⟩ = some x

/-- the lengths of one update's lists, read at its place -/
theorem UpsAt.lens {w : World} {a : Option Addr} {n c : Nat} {us : List Upd} (h : UpsAt w (.slice a n c) us) {k : Nat} {u : Upd} (hu : us[k]? = some u) : ∃ b o ra rc la lc, a = some ⟨b, o, none⟩ ∧ w.cell? ⟨b, o + k * 4, none⟩ = some (.slice ra u.row.length rc) ∧ w.cell? ⟨b, o + k * 4 + 2, none⟩ = some (.slice la u.loops.length lc) := by
  obtain ⟨a', c', hv, -, h1⟩ := h
  cases hv
  have hne : us ≠ [] := fun e => by subst e; simp at hu
  obtain ⟨b, o, rfl, h2⟩ := h1 hne
  obtain ⟨rv, lv, a0, -, a2, -, hr, hl⟩ := h2 k u hu
  obtain ⟨ra, rc, rfl⟩ := hr.slice
  obtain ⟨la, lc, rfl⟩ := hl.slice
  exact ⟨b, o, ra, rc, la, lc, rfl, a0, a2⟩
end Go.Proofs.Ytpoilgeffpedoaa
