/- lists that are nobody else's: what ownWords, ownRow, ownUpdates lean on. -/
import Derived.Test.YtpoilgeffpedoaaI
import Derived.OwnWalk
import Derived.ArgAppend
namespace Go.Proofs.Ytpoilgeffpedoaa
open Go.RowKit Go.Pen

theorem ownsRow_set {w : World} {base e size n g c j : Nat} {xs : List Value} {x : Value} (h : w.ownsRow base e size (.slice (some ⟨g, 0, none⟩) n c) n xs) :
    (w.setCell ⟨g, j, none⟩ x).ownsRow base e size (.slice (some ⟨g, 0, none⟩) n c) n (xs.set j x) := by
  refine ⟨by rw [List.length_set]; exact h.1, ?_⟩
  rcases h.2 with ⟨hv, _⟩ | ⟨g', cap, cur, hv, hb, hg, h1, h2, h3, h4⟩
  · cases hv
  · cases hv
    refine .inr ⟨g, c, cur.setIfInBounds j x, rfl, hb, heap_set_same hg, h1, h2, by simpa using h3, ?_⟩
    rw [← h4, Array.toList_setIfInBounds, List.take_set]

/-- the head of an owned row is an owned row -/
theorem ownsRow_head {w : World} {base e size n m cap g : Nat} {xs ys : List Value} (h : w.ownsRow base e size (.slice (some ⟨g, 0, none⟩) (n + m) cap) (n + m) (xs ++ ys)) (hx : xs.length = n * size) :
    w.ownsRow base e size (.slice (some ⟨g, 0, none⟩) n cap) n xs := by
  refine ⟨hx, ?_⟩
  rcases h.2 with ⟨hv, _⟩ | ⟨g', cap', cur, hv, hb, hg, h1, h2, h3, h4⟩
  · cases hv
  · cases hv
    refine .inr ⟨g, cap, cur, rfl, hb, hg, by omega, h2, h3, ?_⟩
    have := congrArg (List.take (n * size)) h4
    rw [List.take_take, Nat.min_eq_left (Nat.mul_le_mul_right _ (Nat.le_add_right n m)), ← hx, List.take_left] at this
    rw [← hx]
    exact this

theorem wpList_append_both {P : Program} {w : World} {ops : Array Oper} {rest : List Oper} {o : Oper} {a : Act} {Q : Exit → Act → World → Prop} (hgd : o.guard = none) (s x : Operand) (t : TypeId)
    (ho : o.op = .call { callee := .builtin .append, args := #[s, x], argTypes := #[t, t] })
    (base : Nat) (e : TypeId) (i : TypeInfo) (z : Value) (size bytes : Nat) (ht : P.underlying t = some (.slice e)) (hi : P.info? e = some i) (hz : i.zero = some z)
    (hsize : i.size = size) (hby : i.bytes = bytes) (hzs : z.cells.size = size) (hsz : 0 < size)
    (v : Value) (n : Nat) (xs : List Value) (hs : a.eval s = v) (hown : w.ownsRow base e size v n xs)
    (ad : Addr) (m c : Nat) (news : List Value) (hx : a.eval x = .slice (some ad) m c) (hl : news.length = m * size) (hnews : ∀ j u, news[j]? = some u → w.cell? (ad.add j) = some u) (h1 : ∀ u ∈ news, u.oneCell' = true)
    (h63 : n + m ≤ maxLen) (hbytes : (n + m) * bytes ≤ 140737488355328) (hbase : base ≤ w.heap.size) (hm : 0 < m)
    (h : ∀ v' w', w'.ownsRow base e size v' (n + m) (xs ++ news) → w'.ownsRow base e size v n xs → w.grownBy w' v.ownBlock → (v'.ownBlock = v.ownBlock ∨ ∀ g, v'.ownBlock = some g → w.heap.size ≤ g) → wpList P ops Q rest (a.put o.dst v') w') :
    wpList P ops Q (o :: rest) a w := by
  rcases hown.2 with ⟨rfl, rfl⟩ | ⟨g, cap, cur, rfl, hb, hg, q1, q2, q3, q4⟩
  · refine wpList_append_grows w hgd s x t ho e i z size bytes ht hi hz hsize hby hzs hsz none 0 0 xs hs (fun _ => ⟨rfl, rfl⟩) hown.1 (fun b hb => by cases hb) ad m c news hx hl hnews h1 (by omega) h63 hbytes ?_
    intro v' w' r1 r2
    have hxs : xs = [] := List.eq_nil_of_length_eq_zero (by simpa using hown.1)
    subst hxs
    exact h v' w' (ownsRow_lower r1 hbase) (World.ownsRow_nil _ _ _ _) r2 (.inr fun g hg => (r1.lt g hg).1)
  · by_cases hroom : n + m ≤ cap
    · refine wpList_append_fits w hgd s x t ho base e i size ht hi hsize g n cap xs hs hown ad m c news hx hl hnews h1 hroom ?_
      intro w' r1 r2
      exact h _ w' r1 (ownsRow_head r1 hown.1) r2 (.inl rfl)
    · refine wpList_append_grows w hgd s x t ho e i z size bytes ht hi hz hsize hby hzs hsz (some ⟨g, 0, none⟩) n cap xs hs (fun e => by cases e) hown.1 (fun b hb j u hu => ?_) ad m c news hx hl hnews h1 (by omega) h63 hbytes ?_
      · cases hb
        exact hown.cells (g := g) rfl j u hu
      · intro v' w' r1 r2
        refine h v' w' (ownsRow_lower r1 hbase) ?_ ⟨r2.os, r2.tape, r2.output, r2.size, fun k hk _ => r2.block k hk (by simp)⟩ (.inr fun g hg => (r1.lt g hg).1)
        refine ownsRow_frame hown fun g' hg' => r2.block g' ?_ (by simp)
        exact (hown.lt g' hg').2

/-- nothing but some blocks, and new ones, has turned -/
structure Only (S : Nat → Prop) (w w' : World) : Prop where
  os : w'.os = w.os
  tape : w'.tape = w.tape
  output : w'.output = w.output
  size : w.heap.size ≤ w'.heap.size
  block : ∀ g, g < w.heap.size → ¬ S g → w'.heap[g]? = w.heap[g]?

theorem Only.refl (S : Nat → Prop) (w : World) : Only S w w := ⟨rfl, rfl, rfl, Nat.le_refl _, fun _ _ _ => rfl⟩
theorem Only.trans {S : Nat → Prop} {w w1 w2 : World} (h : Only S w w1) (h' : Only S w1 w2) : Only S w w2 :=
  ⟨h'.os.trans h.os, h'.tape.trans h.tape, h'.output.trans h.output, Nat.le_trans h.size h'.size, fun g hg hs => (h'.block g (Nat.lt_of_lt_of_le hg h.size) hs).trans (h.block g hg hs)⟩
theorem Only.of_below {S : Nat → Prop} {w w' : World} (h : Below w.heap.size w w') : Only S w w' :=
  ⟨h.os, h.tape, h.output, h.size, fun g hg _ => h.block g hg⟩
theorem Only.set {S : Nat → Prop} {w w' : World} (h : Only S w w') {g o : Nat} {x : Value} (hg : S g) : Only S w (w'.setCell ⟨g, o, none⟩ x) :=
  ⟨h.os, h.tape, h.output, by simpa [World.setCell] using h.size, fun k hk hs => by rw [heap_set_ne (show k ≠ g from fun e => by subst e; exact hs hg)]; exact h.block k hk hs⟩
theorem Only.grown {S : Nat → Prop} {w w' w2 : World} (h : Only S w w') {b : Option Nat} (hg : w'.grownBy w2 b) (hb : ∀ g, b = some g → S g ∨ w.heap.size ≤ g) : Only S w w2 := by
  refine ⟨hg.os.trans h.os, hg.tape.trans h.tape, hg.output.trans h.output, Nat.le_trans h.size hg.size, fun k hk hs => ?_⟩
  rw [hg.block k (Nat.lt_of_lt_of_le hk h.size) (fun e => ?_)]
  · exact h.block k hk hs
  · rcases hb k e.symm with h1 | h1
    · exact hs h1
    · omega

/-- lists apart -/
def Apart (n : Nat) (v : Nat → Value) : Prop := ∀ i j g, i < n → j < n → (v i).ownBlock = some g → (v j).ownBlock = some g → i = j

theorem own_put {w : World} {e sz n i g c o : Nat} {v : Nat → Value} {ln : Nat → Nat} {X : Nat → List Value} {x : Value} (hX : ∀ j, j < n → w.ownsRow 0 e sz (v j) (ln j) (X j)) (ha : Apart n v) (hi : i < n) (hv : v i = .slice (some ⟨g, 0, none⟩) (ln i) c) :
    ∀ j, j < n → (w.setCell ⟨g, o, none⟩ x).ownsRow 0 e sz (v j) (ln j) (if j = i then (X i).set o x else X j) := by
  intro j hj
  by_cases hji : j = i
  · subst hji
    rw [if_pos rfl]
    have h := hX j hj
    rw [hv] at h ⊢
    exact ownsRow_set h
  · rw [if_neg hji]
    refine ownsRow_frame (hX j hj) fun k hk => heap_set_ne fun e => hji ?_
    subst e
    exact ha j i k hj hi hk (by rw [hv]; rfl)
end Go.Proofs.Ytpoilgeffpedoaa
