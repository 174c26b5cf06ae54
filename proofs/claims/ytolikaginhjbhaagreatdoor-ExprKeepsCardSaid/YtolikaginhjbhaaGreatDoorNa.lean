import Derived.Test.YtolikaginhjbhaaGreatDoorBase
import Derived.OwnWalk
import Derived.ArgAppend
import Derived.Test.YtolikaginhjbhaaGreatDoorB
/- lists that are nobody else's: what ownWords, ownRow, ownUpdates lean on. -/
namespace Go.Proofs.YtolikaginhjbhaaGreatDoor
open Go.RowKit Go.Pen

theorem ownsRow_set {w : World} {base e size n g c j : Nat} {xs : List Value} {x : Value} (h : w.ownsRow base e size (.slice (some ⟨g, 0, none⟩) n c) n xs) :
    (w.setCell ⟨g, j, none⟩ x).ownsRow base e size (.slice (some ⟨g, 0, none⟩) n c) n (xs.set j x) := by
  refine ⟨by rw [List.length_set]; exact h.1, ?_⟩
  rcases h.2 with ⟨hv, _⟩ | ⟨g', cap, cur, hv, hb, hg, h1, h2, h3, h4⟩
  · cases hv
  · cases hv
    refine .inr ⟨g, c, cur.setIfInBounds j x, rfl, hb, heap_set_same hg, h1, h2, by simpa using h3, ?_⟩
    rw [← h4, Array.toList_setIfInBounds, List.take_set]

/-- the head of an owned row is an owned row -/
theorem ownsRow_hd {w : World} {base e size n m cap g : Nat} {xs ys : List Value} (h : w.ownsRow base e size (.slice (some ⟨g, 0, none⟩) (n + m) cap) (n + m) (xs ++ ys)) (hx : xs.length = n * size) :
    w.ownsRow base e size (.slice (some ⟨g, 0, none⟩) n cap) n xs := by
  refine ⟨hx, ?_⟩
  rcases h.2 with ⟨hv, _⟩ | ⟨g', cap', cur, hv, hb, hg, h1, h2, h3, h4⟩
  · cases hv
  · cases hv
    refine .inr ⟨g, cap, cur, rfl, hb, hg, by omega, h2, h3, ?_⟩
    have := congrArg (List.take (n * size)) h4
    rw [List.take_take, Nat.min_eq_left (Nat.mul_le_mul_right _ (Nat.le_add_right n m)), ← hx, List.take_left] at this
    rw [← hx]
    exact this

theorem wpList_append_both {P : Program} {w : World} {ops : Array Oper} {rest : List Oper} {o : Oper} {a : Act} {Q : Exit → Act → World → Prop} (hgd : o.guard = none) (s x : Operand) (t : TypeId)
    (ho : o.op = .call { callee := .builtin .append, args := #[s, x], argTypes := #[t, t] })
    (base : Nat) (e : TypeId) (i : TypeInfo) (z : Value) (size bytes : Nat) (ht : P.underlying t = some (.slice e)) (hi : P.info? e = some i) (hz : i.zero = some z)
    (hsize : i.size = size) (hby : i.bytes = bytes) (hzs : z.cells.size = size) (hsz : 0 < size)
    (v : Value) (n : Nat) (xs : List Value) (hs : a.eval s = v) (hown : w.ownsRow base e size v n xs)
    (ad : Addr) (m c : Nat) (news : List Value) (hx : a.eval x = .slice (some ad) m c) (hl : news.length = m * size) (hnews : ∀ j u, news[j]? = some u → w.cell? (ad.add j) = some u) (h1 : ∀ u ∈ news, u.oneCell' = true)
    (h63 : n + m ≤ maxLen) (hbytes : (n + m) * bytes ≤ 140737488355328) (hbase : base ≤ w.heap.size) (hm : 0 < m)
    (h : ∀ v' w', w'.ownsRow base e size v' (n + m) (xs ++ news) → w'.ownsRow base e size v n xs → w.grownBy w' v.ownBlock → (v'.ownBlock = v.ownBlock ∨ ∀ g, v'.ownBlock = some g → w.heap.size ≤ g) → wpList P ops Q rest (a.put o.dst v') w') :
    wpList P ops Q (o :: rest) a w := by
  rcases hown.2 with ⟨rfl, rfl⟩ | ⟨g, cap, cur, rfl, hb, hg, q1, q2, q3, q4⟩
  · refine wpList_append_grows w hgd s x t ho e i z size bytes ht hi hz hsize hby hzs hsz none 0 0 xs hs (fun _ => ⟨rfl, rfl⟩) hown.1 (fun b hb => by cases hb) ad m c news hx hl hnews h1 (by omega) h63 hbytes ?_
    intro v' w' r1 r2
    have hxs : xs = [] := List.eq_nil_of_length_eq_zero (by simpa using hown.1)
    subst hxs
    exact h v' w' (ownsRow_lower r1 hbase) (World.ownsRow_nil _ _ _ _) r2 (.inr fun g hg => (r1.lt g hg).1)
  · by_cases hroom : n + m ≤ cap
    · refine wpList_append_fits w hgd s x t ho base e i size ht hi hsize g n cap xs hs hown ad m c news hx hl hnews h1 hroom ?_
      intro w' r1 r2
      exact h _ w' r1 (ownsRow_hd r1 hown.1) r2 (.inl rfl)
    · refine wpList_append_grows w hgd s x t ho e i z size bytes ht hi hz hsize hby hzs hsz (some ⟨g, 0, none⟩) n cap xs hs (fun e => by cases e) hown.1 (fun b hb j u hu => ?_) ad m c news hx hl hnews h1 (by omega) h63 hbytes ?_
      · cases hb
        exact hown.cells (g := g) rfl j u hu
      · intro v' w' r1 r2
        refine h v' w' (ownsRow_lower r1 hbase) ?_ ⟨r2.os, r2.tape, r2.output, r2.size, fun k hk _ => r2.block k hk (by simp)⟩ (.inr fun g hg => (r1.lt g hg).1)
        refine ownsRow_frame hown fun g' hg' => r2.block g' ?_ (by simp)
        exact (hown.lt g' hg').2

/-- nothing but some blocks, and new ones, has turned -/
structure Only (S : Nat → Prop) (w w' : World) : Prop where
  os : w'.os = w.os
  tape : w'.tape = w.tape
  output : w'.output = w.output
  size : w.heap.size ≤ w'.heap.size
  block : ∀ g, g < w.heap.size → ¬ S g → w'.heap[g]? = w.heap[g]?

theorem Only.refl (S : Nat → Prop) (w : World) : Only S w w := ⟨rfl, rfl, rfl, Nat.le_refl _, fun _ _ _ => rfl⟩
theorem Only.trans {S : Nat → Prop} {w w1 w2 : World} (h : Only S w w1) (h' : Only S w1 w2) : Only S w w2 :=
  ⟨h'.os.trans h.os, h'.tape.trans h.tape, h'.output.trans h.output, Nat.le_trans h.size h'.size, fun g hg hs => (h'.block g (Nat.lt_of_lt_of_le hg h.size) hs).trans (h.block g hg hs)⟩
theorem Only.of_below {S : Nat → Prop} {w w' : World} (h : Below w.heap.size w w') : Only S w w' :=
  ⟨h.os, h.tape, h.output, h.size, fun g hg _ => h.block g hg⟩
theorem Only.set {S : Nat → Prop} {w w' : World} (h : Only S w w') {g o : Nat} {x : Value} (hg : S g) : Only S w (w'.setCell ⟨g, o, none⟩ x) :=
  ⟨h.os, h.tape, h.output, by simpa [World.setCell] using h.size, fun k hk hs => by rw [heap_set_ne (show k ≠ g from fun e => by subst e; exact hs hg)]; exact h.block k hk hs⟩
theorem Only.grown {S : Nat → Prop} {w w' w2 : World} (h : Only S w w') {b : Option Nat} (hg : w'.grownBy w2 b) (hb : ∀ g, b = some g → S g ∨ w.heap.size ≤ g) : Only S w w2 := by
  refine ⟨hg.os.trans h.os, hg.tape.trans h.tape, hg.output.trans h.output, Nat.le_trans h.size hg.size, fun k hk hs => ?_⟩
  rw [hg.block k (Nat.lt_of_lt_of_le hk h.size) (fun e => ?_)]
  · exact h.block k hk hs
  · rcases hb k e.symm with h1 | h1
    · exact hs h1
    · omega

/-- lists apart -/
def Apart (n : Nat) (v : Nat → Value) : Prop := ∀ i j g, i < n → j < n → (v i).ownBlock = some g → (v j).ownBlock = some g → i = j

theorem own_put {w : World} {e sz n i g c o : Nat} {v : Nat → Value} {ln : Nat → Nat} {X : Nat → List Value} {x : Value} (hX : ∀ j, j < n → w.ownsRow 0 e sz (v j) (ln j) (X j)) (ha : Apart n v) (hi : i < n) (hv : v i = .slice (some ⟨g, 0, none⟩) (ln i) c) :
    ∀ j, j < n → (w.setCell ⟨g, o, none⟩ x).ownsRow 0 e sz (v j) (ln j) (if j = i then (X i).set o x else X j) := by
  intro j hj
  by_cases hji : j = i
  · subst hji
    rw [if_pos rfl]
    have h := hX j hj
    rw [hv] at h ⊢
    exact ownsRow_set h
  · rw [if_neg hji]
    refine ownsRow_frame (hX j hj) fun k hk => heap_set_ne fun e => hji ?_
    subst e
    exact ha j i k hj hi hk (by rw [hv]; rfl)
end Go.Proofs.YtolikaginhjbhaaGreatDoor
/- lists of things of things of sz cells that are nobody else's: what ownRow 43 and ownUpdates 49 lean on. -/
namespace Go.Proofs.YtolikaginhjbhaaGreatDoor
open Go.RowKit Go.Pen

abbrev SV (n : Nat) (v : Nat → Value) : Nat → Prop := fun g => ∃ j, j < n ∧ (v j).ownBlock = some g

theorem type_ne {w : World} {g G : Nat} {c1 c2 : Array Value} {t1 t2 : TypeId} (h1 : w.heap[g]? = some (.cells c1 t1 (0, 0))) (h2 : w.heap[G]? = some (.cells c2 t2 (0, 0))) (h : t1 ≠ t2) : g ≠ G := by
  intro e; subst e; rw [h1] at h2; simp only [Option.some.injEq, Obj.cells.injEq] at h2; exact h h2.2.1
def mkc (C : Int → List Value) (j L : Nat) : List Value := (List.range L).flatMap fun q : Nat => C ((j : Int) * 1000 + (q : Int))
def ngc (C : Int → List Value) (j L : Nat) : List Value := (List.range L).flatMap fun q : Nat => C ((-1 - (j : Int)) * 1000 + (q : Int))

theorem fm4_len {sz : Nat} {f : Nat → List Value} (h : ∀ q, (f q).length = sz) (L : Nat) : ((List.range L).flatMap f).length = L * sz := by
  induction L with
  | zero => simp
  | succ L ih => rw [List.range_succ, List.flatMap_append, List.length_append, ih, Nat.succ_mul]; simp [h]

theorem fm4_at {sz : Nat} {f : Nat → List Value} (h : ∀ q, (f q).length = sz) : ∀ (L q r : Nat), q < L → r < sz → ((List.range L).flatMap f)[q * sz + r]? = (f q)[r]? := by
  intro L
  induction L with
  | zero => intro q r hq _; omega
  | succ L ih =>
    intro q r hq hr
    rw [List.range_succ, List.flatMap_append]
    rcases Nat.lt_or_ge q L with h1 | h1
    · rw [List.getElem?_append_left (by rw [fm4_len h]; have := Nat.mul_le_mul_right sz (show q + 1 ≤ L from h1); rw [Nat.succ_mul] at this; omega)]
      exact ih q r h1 hr
    · obtain rfl : q = L := by omega
      rw [List.getElem?_append_right (by rw [fm4_len h]; omega), fm4_len h, Nat.add_sub_cancel_left]
      simp

theorem mkc_len {sz : Nat} {C : Int → List Value} (h : ∀ x, (C x).length = sz) (j L : Nat) : (mkc C j L).length = L * sz := fm4_len (f := fun q : Nat => C ((j : Int) * 1000 + (q : Int))) (fun _ => h _) L
theorem ngc_len {sz : Nat} {C : Int → List Value} (h : ∀ x, (C x).length = sz) (j L : Nat) : (ngc C j L).length = L * sz := fm4_len (f := fun q : Nat => C ((-1 - (j : Int)) * 1000 + (q : Int))) (fun _ => h _) L
theorem mkc_at {sz : Nat} {C : Int → List Value} (h : ∀ x, (C x).length = sz) {j L q r : Nat} (hq : q < L) (hr : r < sz) : (mkc C j L)[q * sz + r]? = (C ((j : Int) * 1000 + (q : Int)))[r]? := fm4_at (f := fun q : Nat => C ((j : Int) * 1000 + (q : Int))) (fun _ => h _) L q r hq hr
theorem ngc_at {sz : Nat} {C : Int → List Value} (h : ∀ x, (C x).length = sz) {j L q r : Nat} (hq : q < L) (hr : r < sz) : (ngc C j L)[q * sz + r]? = (C ((-1 - (j : Int)) * 1000 + (q : Int)))[r]? := fm4_at (f := fun q : Nat => C ((-1 - (j : Int)) * 1000 + (q : Int))) (fun _ => h _) L q r hq hr
theorem ngc_succ (C : Int → List Value) (j k : Nat) : ngc C j k ++ C ((-1 - (j : Int)) * 1000 + (k : Int)) = ngc C j (k + 1) := by
  unfold ngc
  rw [List.range_succ, List.flatMap_append]; simp

/-- the state of the lists while the marks are laid: p cells of list i are done -/
def Mk4 (sz : Nat) (e : TypeId) (C : Int → List Value) (n : Nat) (v : Nat → Value) (ln : Nat → Nat) (w0 : World) (i p : Nat) (wr : World) : Prop :=
  Only (SV n v) w0 wr ∧
    ∃ X : Nat → List Value, (∀ j, j < n → wr.ownsRow 0 e sz (v j) (ln j) (X j)) ∧ (∀ j q, j < n → q < ln j * sz → (j < i ∨ j = i ∧ q < p) → (X j)[q]? = (mkc C j (ln j))[q]?)

theorem mk4_step {sz : Nat} {e : TypeId} {C : Int → List Value} {n : Nat} {v : Nat → Value} {ln : Nat → Nat} {w0 wr : World} {i p g c : Nat} {x : Value} (h : Mk4 sz e C n v ln w0 i p wr) (ha : Apart n v) (hi : i < n) (hp : p < ln i * sz) (hv : v i = .slice (some ⟨g, 0, none⟩) (ln i) c)
    (hx : (mkc C i (ln i))[p]? = some x) : Mk4 sz e C n v ln w0 i (p + 1) (wr.setCell ⟨g, p, none⟩ x) := by
  obtain ⟨ho, X, hX, hm⟩ := h
  refine ⟨ho.set ⟨i, hi, by rw [hv]; rfl⟩, _, own_put hX ha hi hv, fun j q hj hq hjq => ?_⟩
  have hlen := (hX i hi).1
  by_cases hji : j = i
  · subst hji
    rw [if_pos rfl, List.getElem?_set]
    by_cases e : p = q
    · subst e
      rw [if_pos rfl, if_pos (by omega), hx]
    · rw [if_neg e]
      exact hm j q hj hq (by omega)
  · rw [if_neg hji]
    exact hm j q hj hq (by omega)

theorem mk4_next {sz : Nat} {e : TypeId} {C : Int → List Value} {n : Nat} {v : Nat → Value} {ln : Nat → Nat} {w0 wr : World} {i : Nat} (h : Mk4 sz e C n v ln w0 i (ln i * sz) wr) : Mk4 sz e C n v ln w0 (i + 1) 0 wr := by
  obtain ⟨ho, X, hX, hm⟩ := h
  refine ⟨ho, X, hX, fun j q hj hq hjq => hm j q hj hq ?_⟩
  rcases hjq with h1 | ⟨-, h2⟩
  · rcases Nat.lt_or_eq_of_le (Nat.le_of_lt_succ h1) with h3 | rfl
    · exact .inl h3
    · exact .inr ⟨rfl, hq⟩
  · omega

/-- a list reads as its marks -/
def Rd4 (e : TypeId) (C : Int → List Value) (v : Nat → Value) (ln : Nat → Nat) (j : Nat) (w : World) : Prop := ∀ g, (v j).ownBlock = some g → (∃ cur : Array Value, w.heap[g]? = some (Obj.cells cur e (0, 0))) ∧ ∀ q u, (mkc C j (ln j))[q]? = some u → w.cell? ⟨g, q, none⟩ = some u

theorem Rd4.frame {e : TypeId} {C : Int → List Value} {v : Nat → Value} {ln : Nat → Nat} {j : Nat} {w w' : World} (h : Rd4 e C v ln j w) (hf : ∀ g, (v j).ownBlock = some g → g < w.heap.size → w'.heap[g]? = w.heap[g]?) : Rd4 e C v ln j w' := by
  intro g hg
  obtain ⟨⟨cur, h1⟩, h2⟩ := h g hg
  have hb := hf g hg (lt_of_heap h1)
  exact ⟨⟨cur, hb.trans h1⟩, fun q u hq => by rw [World.cell?_of_block hb]; exact h2 q u hq⟩

theorem Rd4.of_own {sz : Nat} {e : TypeId} {C : Int → List Value} {ln : Nat → Nat} {j : Nat} {w : World} {x : Value} {L : Nat} {ys : List Value} (h : w.ownsRow 0 e sz x L (mkc C j (ln j) ++ ys)) {g : Nat} (hg : x.ownBlock = some g) : (∃ cur : Array Value, w.heap[g]? = some (Obj.cells cur e (0, 0))) ∧ ∀ q u, (mkc C j (ln j))[q]? = some u → w.cell? ⟨g, q, none⟩ = some u := by
  refine ⟨(ownsRow_block h hg).2.2, fun q u hq => ?_⟩
  have := h.cells hg q _ (by rw [List.getElem?_append_left (List.getElem?_eq_some_iff.1 hq).1]; exact hq)
  rwa [add_lit, Nat.zero_add] at this

/-- a long list that is done -/
def XO4 (sz : Nat) (e : TypeId) (C : Int → List Value) (v : Nat → Value) (ln : Nat → Nat) (s0 j : Nat) (x : Value) (W : Nat) (w : World) : Prop :=
  w.ownsRow 0 e sz x (ln j + 8) (mkc C j (ln j) ++ ngc C j 8) ∧ ∀ g, x.ownBlock = some g → g < W ∧ ((v j).ownBlock = some g ∨ s0 ≤ g)

/-- the state while the lists grow: m are done -/
structure Gr4 (sz : Nat) (e tl : TypeId) (C : Int → List Value) (n : Nat) (v : Nat → Value) (ln : Nat → Nat) (w0 : World) (m : Nat) (lv : Value) (wr : World) : Prop where
  only : Only (SV n v) w0 wr
  rest : ∀ j, m ≤ j → j < n → wr.ownsRow 0 e sz (v j) (ln j) (mkc C j (ln j))
  rd : ∀ j, j < m → Rd4 e C v ln j wr
  long : ∃ xv : Nat → Value, wr.ownsRow w0.heap.size tl 1 lv m ((List.range m).map xv) ∧ ∀ j, j < m → XO4 sz e C v ln w0.heap.size j (xv j) wr.heap.size wr

theorem gr4_start {sz : Nat} {e tl : TypeId} {C : Int → List Value} (hC : ∀ x, (C x).length = sz) {n : Nat} {v : Nat → Value} {ln : Nat → Nat} {w0 wr : World} (h : Mk4 sz e C n v ln w0 n 0 wr) : Gr4 sz e tl C n v ln w0 0 (.slice none 0 0) wr := by
  obtain ⟨ho, X, hX, hm⟩ := h
  refine ⟨ho, fun j _ hj => ?_, fun j hj => absurd hj (Nat.not_lt_zero _), fun _ => .slice none 0 0, World.ownsRow_nil _ _ _ _, fun j hj => absurd hj (Nat.not_lt_zero _)⟩
  have hx := hX j hj
  have hl := hx.1
  have e : X j = mkc C j (ln j) := by
    refine List.ext_getElem? fun q => ?_
    rcases Nat.lt_or_ge q (ln j * sz) with h | h
    · exact hm j q hj h (.inl hj)
    · rw [List.getElem?_eq_none (by omega), List.getElem?_eq_none (by rw [mkc_len hC]; exact h)]
  rw [← e]; exact hx

/-- one list grows: k are appended -/
structure In4 (sz : Nat) (e tl : TypeId) (C : Int → List Value) (n : Nat) (v : Nat → Value) (ln : Nat → Nat) (w0 : World) (m : Nat) (lv : Value) (xv : Nat → Value) (W k : Nat) (x : Value) (wr : World) : Prop where
  only : Only (SV n v) w0 wr
  rest : ∀ j, m < j → j < n → wr.ownsRow 0 e sz (v j) (ln j) (mkc C j (ln j))
  rd : ∀ j, j ≤ m → Rd4 e C v ln j wr
  long : wr.ownsRow w0.heap.size tl 1 lv m ((List.range m).map xv)
  done : ∀ j, j < m → XO4 sz e C v ln w0.heap.size j (xv j) W wr
  cur : wr.ownsRow 0 e sz x (ln m + k) (mkc C m (ln m) ++ ngc C m k)
  place : ∀ g, x.ownBlock = some g → (v m).ownBlock = some g ∨ W ≤ g
  low : w0.heap.size ≤ W
  high : W ≤ wr.heap.size

theorem in4_start {sz : Nat} {e tl : TypeId} {C : Int → List Value} {n : Nat} {v : Nat → Value} {ln : Nat → Nat} {w0 wr : World} {m : Nat} {lv : Value} (h : Gr4 sz e tl C n v ln w0 m lv wr) (hm : m < n) : ∃ xv, In4 sz e tl C n v ln w0 m lv xv wr.heap.size 0 (v m) wr := by
  obtain ⟨xv, h1, h2⟩ := h.long
  have ho := h.rest m (Nat.le_refl _) hm
  refine ⟨xv, h.only, fun j h1 h2 => h.rest j (by omega) h2, fun j hj => ?_, h1, h2, by simpa [ngc] using ho, fun g hg => .inl hg, h.only.size, Nat.le_refl _⟩
  rcases Nat.lt_or_eq_of_le hj with h3 | rfl
  · exact h.rd j h3
  · intro g hg
    have ho := h.rest j (Nat.le_refl _) hm
    rw [← List.append_nil (mkc C j (ln j))] at ho
    exact Rd4.of_own ho hg

theorem in4_step {sz : Nat} {e tl : TypeId} (htl : tl ≠ e) {C : Int → List Value} {n : Nat} {v : Nat → Value} {ln : Nat → Nat} {w0 wr w1 w2 : World} {m W k : Nat} {lv x x' : Value} {xv : Nat → Value} (h : In4 sz e tl C n v ln w0 m lv xv W k x wr) (ha : Apart n v) (hm : m < n) (hvl : ∀ j g, j < n → (v j).ownBlock = some g → g < w0.heap.size)
    (hb : Below wr.heap.size wr w1) (hown : w2.ownsRow 0 e sz x' (ln m + k + 1) (mkc C m (ln m) ++ ngc C m k ++ C ((-1 - (m : Int)) * 1000 + (k : Int)))) (hold : w2.ownsRow 0 e sz x (ln m + k) (mkc C m (ln m) ++ ngc C m k))
    (hg : w1.grownBy w2 x.ownBlock) (hp : x'.ownBlock = x.ownBlock ∨ ∀ g, x'.ownBlock = some g → w1.heap.size ≤ g) : In4 sz e tl C n v ln w0 m lv xv W (k + 1) x' w2 := by
  have hs1 := hb.size
  have hs2 := hg.size
  have hlow := h.low
  have hhigh := h.high
  have fr : ∀ g, g < wr.heap.size → x.ownBlock ≠ some g → w2.heap[g]? = wr.heap[g]? := fun g hgl hgx => (hg.block g (by omega) (fun e => hgx e.symm)).trans (hb.block g hgl)
  have hxb : ∀ g, x.ownBlock = some g → ∃ cur, wr.heap[g]? = some (.cells cur e (0, 0)) := fun g hgx => (ownsRow_block h.cur hgx).2.2
  have hvx : ∀ j g, j < n → j ≠ m → (v j).ownBlock = some g → x.ownBlock ≠ some g := fun j g hj hjm hgj e => by
    rcases h.place g e with h1 | h1
    · exact hjm (ha j m g hj hm hgj h1)
    · have := hvl j g hj hgj; omega
  refine ⟨?_, fun j h1 h2 => ?_, fun j hj => ?_, ?_, fun j hj => ?_, ?_, fun g hgx => ?_, hlow, by omega⟩
  · refine Only.grown (h.only.trans (Only.of_below hb)) hg fun g hgx => ?_
    rcases h.place g hgx with h1 | h1
    · exact .inl ⟨m, hm, h1⟩
    · exact .inr (by omega)
  · have ho := h.rest j h1 h2
    exact ownsRow_frame ho fun g hgj => fr g (ho.lt g hgj).2 (hvx j g h2 (by omega) hgj)
  · rcases Nat.lt_or_eq_of_le hj with h3 | rfl
    · exact (h.rd j (by omega)).frame fun g hgj hgl => fr g hgl (hvx j g (by omega) (by omega) hgj)
    · intro g hgj
      by_cases e : x.ownBlock = some g
      · exact Rd4.of_own hold e
      · exact ((h.rd j (Nat.le_refl _)).frame (w' := w2) fun g' hg' hl' => by
          rw [hgj] at hg'; cases hg'; exact fr g hl' e) g hgj
  · refine ownsRow_frame h.long fun g hgl => ?_
    obtain ⟨-, hl2, cur, hcur⟩ := ownsRow_block h.long hgl
    refine fr g hl2 fun e => ?_
    obtain ⟨cur', hcur'⟩ := hxb g e
    exact type_ne hcur hcur' htl rfl
  · obtain ⟨h1, h2⟩ := h.done j hj
    refine ⟨ownsRow_frame h1 fun g hgj => fr g (h1.lt g hgj).2 fun e => ?_, h2⟩
    obtain ⟨h3, h4⟩ := h2 g hgj
    rcases h.place g e with h5 | h5
    · rcases h4 with h6 | h6
      · have := ha j m g (by omega) hm h6 h5; omega
      · have := hvl m g hm h5; omega
    · omega
  · rw [List.append_assoc, ngc_succ] at hown
    exact hown
  · rcases hp with h1 | h1
    · rw [h1] at hgx; exact h.place g hgx
    · have := h1 g hgx; exact .inr (by omega)

theorem in4_end {sz : Nat} {e tl : TypeId} (htl : tl ≠ e) {C : Int → List Value} {n : Nat} {v : Nat → Value} {ln : Nat → Nat} {w0 wr w1 w2 : World} {m W : Nat} {lv lv' x : Value} {xv : Nat → Value} (h : In4 sz e tl C n v ln w0 m lv xv W 8 x wr)
    (hb : Below wr.heap.size wr w1) (hown : w2.ownsRow w0.heap.size tl 1 lv' (m + 1) ((List.range m).map xv ++ [x])) (hg : w1.grownBy w2 lv.ownBlock) : Gr4 sz e tl C n v ln w0 (m + 1) lv' w2 := by
  have hs1 := hb.size
  have hs2 := hg.size
  have hlow := h.low
  have hhigh := h.high
  have fr : ∀ (g : Nat) (cur : Array Value), wr.heap[g]? = some (Obj.cells cur e (0, 0)) → w2.heap[g]? = wr.heap[g]? := fun g cur hc => by
    have hgl := lt_of_heap hc
    refine (hg.block g (by omega) fun e => ?_).trans (hb.block g hgl)
    obtain ⟨-, -, cur', hcur⟩ := ownsRow_block h.long e.symm
    exact type_ne hcur hc htl rfl
  have frO : ∀ {y : Value} {l : Nat} {xs : List Value}, wr.ownsRow 0 e sz y l xs → w2.ownsRow 0 e sz y l xs := fun ho => ownsRow_frame ho fun g hgy => by
    obtain ⟨-, -, cur, hcur⟩ := ownsRow_block ho hgy
    exact fr g cur hcur
  refine ⟨?_, fun j h1 h2 => frO (h.rest j (by omega) h2), fun j hj => ?_, fun j => if j = m then x else xv j, ?_, fun j hj => ?_⟩
  · refine Only.grown (h.only.trans (Only.of_below hb)) hg fun g hgl => .inr ?_
    exact (h.long.lt g hgl).1
  · intro g hgj
    obtain ⟨⟨cur, hcur⟩, -⟩ := h.rd j (by omega) g hgj
    exact ((h.rd j (by omega)).frame (w' := w2) fun g' hg' _ => by
      rw [hgj] at hg'; cases hg'; exact fr g cur hcur) g hgj
  · have e : (List.range (m + 1)).map (fun j => if j = m then x else xv j) = (List.range m).map xv ++ [x] := by
      rw [List.range_succ, List.map_append]
      congr 1
      · refine List.map_congr_left fun j hj => ?_
        have := List.mem_range.1 hj
        rw [if_neg (by omega)]
      · simp
    rw [e]; exact hown
  · by_cases hjm : j = m
    · subst hjm
      simp only [if_true]
      exact ⟨frO h.cur, fun g hgx => ⟨by have := (h.cur.lt g hgx).2; omega, (h.place g hgx).imp id fun h1 => by omega⟩⟩
    · simp only [if_neg hjm]
      obtain ⟨h1, h2⟩ := h.done j (by omega)
      exact ⟨frO h1, fun g hgx => ⟨by have := (h2 g hgx).1; omega, (h2 g hgx).2⟩⟩
end Go.Proofs.YtolikaginhjbhaaGreatDoor
/- ownExprs 69: lists that are nobody else's. Printed by gen_own7.py out of mail's ownUpdates' walk. -/
namespace Go.Proofs.YtolikaginhjbhaaGreatDoor
open Go.RowKit Go.Pen

/-- an expression that is a mark -/
def exC (x : Int) : List Value := [.int .u8 0, .slice none 0 0, .int .i64 x, .int .u8 0, .bool false, .int .i64 0, .string ⟨#[]⟩]
theorem exC_len (x : Int) : (exC x).length = 7 := rfl

theorem info22L : (Tryz.prog.info? 22).map (fun i => (i.zero, i.size, i.bytes)) = some (some (.slice none 0 0), 1, 24) := by kernel_rfl

set_option maxRecDepth 100000 in
set_option maxHeartbeats 8000000 in
theorem ownExprs_69 (n : Nat) (v : Nat → Value) (ln : Nat → Nat) (ob oc : Nat) (w : World) (hn : n ≤ 1000000000) (hl : ∀ i, i < n → ln i ≤ 1000000) (ha : Apart n v)
    (hX : ∀ i, i < n → ∃ xs, w.ownsRow 0 27 7 (v i) (ln i) xs) (hob : ob < w.heap.size) (hout : ∀ i, i < n → w.cell? ⟨ob, i, none⟩ = some (v i)) (hne : ∀ i, i < n → (v i).ownBlock ≠ some ob) :
    Calls Tryz.prog 69 #[.slice (some ⟨ob, 0, none⟩) n oc] w fun e w' => e = .returned (.bool true) ∧ Only (fun g => ∃ j, j < n ∧ (v j).ownBlock = some g) w w' := by
  have hm0 : Mk4 7 27 exC n v ln w 0 0 w := by
    have : ∃ X : Nat → List Value, ∀ j, j < n → w.ownsRow 0 27 7 (v j) (ln j) (X j) := by
      refine ⟨fun j => if h : j < n then (hX j h).choose else [], fun j hj => ?_⟩
      simp only [dif_pos hj]
      exact (hX j hj).choose_spec
    obtain ⟨X, hX⟩ := this
    exact ⟨Only.refl _ _, X, hX, fun j q _ _ h => by omega⟩
  -- the outer list stays
  have hst : ∀ wr i, Only (fun g => ∃ j, j < n ∧ (v j).ownBlock = some g) w wr → i < n → wr.cell? ⟨ob, i, none⟩ = some (v i) := fun wr i ho hi =>
    (World.cell?_of_block (ho.block ob hob (fun ⟨j, hj, e⟩ => hne j hj e))).trans (hout i hi)
  obtain ⟨i0, hi, hz0, hz1, hz2⟩ := info_parts info27
  obtain ⟨i6, hj, hy0, hy1, hy2⟩ := info_parts info22L
  have HST := Lib.hid hst
  have hvl : ∀ j g, j < n → (v j).ownBlock = some g → g < w.heap.size := fun j g hj hg => by
    obtain ⟨xs, h⟩ := hX j hj
    exact (h.lt g hg).2
  have hvs : ∀ j, j < n → ∃ a c, v j = .slice a (ln j) c := fun j hj => by
    obtain ⟨xs, h⟩ := hX j hj
    exact ownsRow_slice h
  have hvn : ∀ j L a c, j < n → v j = .slice a L c → 0 < L → ∃ g, a = some ⟨g, 0, none⟩ := fun j L a c hj hv h0 => by
    obtain ⟨xs, h⟩ := hX j hj
    rcases h.2 with ⟨h1, -⟩ | ⟨g, cap, cur, h1, -⟩
    · rw [hv] at h1; cases h1; omega
    · rw [hv] at h1; cases h1; exact ⟨g, rfl⟩
  have HVS := Lib.hid hvs
  have HVN := Lib.hid hvn
  have HVL := Lib.hid hvl
  have HA := Lib.hid ha
  have HLN := Lib.hid hl
  clear hX hout hst ha hl hne hvl hvs hvn
  go_enter Tryz.func69, Tryz.ntmps69
  go_wp2_with fail
  go_loopw [3] (fun s wr => ∃ i : Nat, i ≤ n ∧ s = .int .i64 i ∧ Mk4 7 27 exC n v ln w i 0 wr) (fun s _ => n - (intOf s).toNat)
  case atStart => exact ⟨0, Nat.zero_le _, rfl, hm0⟩
  case round =>
    clear hm0
    obtain ⟨i, hile, rfl, hr⟩ := hrel
    rcases Nat.lt_or_ge i n with hlt | hge
    · have hd : decide ((i : Int) < (n : Int)) = true := by simpa using hlt
      obtain ⟨L, hL⟩ : ∃ L, ln i = L := ⟨_, rfl⟩
      obtain ⟨a, c, hvi⟩ : ∃ a c, v i = .slice a L c := by
        obtain ⟨-, X, hX, -⟩ := hr
        rw [← hL]
        exact ownsRow_slice (hX i hlt)
      have hL6 : L ≤ 1000000 := by rw [← hL]; exact HLN.out i hlt
      have HR := Lib.hid hr
      have HVI := Lib.hid hvi
      have HL := Lib.hid hL
      have b1 : (0 : Int) ≤ (i : Int) := by omega
      have b2 : (i : Int) < (n : Int) := by omega
      clear hr hvi hL
      go_wp2_with fail
      go_loopw [4] (fun s wk => ∃ k : Nat, k ≤ L ∧ s = .int .i64 k ∧ Mk4 7 27 exC n v ln w i (k * 7) wk) (fun s _ => L - (intOf s).toNat)
      case atStart => exact ⟨0, Nat.zero_le _, rfl, HR.out⟩
      case round =>
        obtain ⟨k, hk, rfl, hr⟩ := hrel
        have co := HST.out wr i hr.1 hlt
        rw [HVI.out] at co
        have HR2 := Lib.hid hr
        rcases Nat.lt_or_ge k L with hkl | hkg
        · have hd2 : decide ((k : Int) < (L : Int)) = true := by simpa using hkl
          obtain ⟨g, hag⟩ : ∃ g, a = some ⟨g, 0, none⟩ := by
            obtain ⟨-, X, hX, -⟩ := hr
            have h := (hX i hlt).2
            rw [HVI.out, HL.out] at h
            rcases h with ⟨h, h0⟩ | ⟨g, cap, cur, h, -⟩
            · omega
            · cases h; exact ⟨g, rfl⟩
          subst hag
          obtain ⟨x0, x1, x2, x3, x4, x5, x6, hx0, hx1, hx2, hx3, hx4, hx5, hx6, hf0, hf1, hf2, hf3, hf4, hf5, hf6⟩ : ∃ x0 x1 x2 x3 x4 x5 x6, wr.cell? ⟨g, k * 7, none⟩ = some x0 ∧ wr.cell? ⟨g, k * 7 + 1, none⟩ = some x1 ∧ wr.cell? ⟨g, k * 7 + 2, none⟩ = some x2 ∧ wr.cell? ⟨g, k * 7 + 3, none⟩ = some x3 ∧ wr.cell? ⟨g, k * 7 + 4, none⟩ = some x4 ∧ wr.cell? ⟨g, k * 7 + 5, none⟩ = some x5 ∧ wr.cell? ⟨g, k * 7 + 6, none⟩ = some x6 ∧ wr.frozen? ⟨g, k * 7, none⟩ = false ∧ wr.frozen? ⟨g, k * 7 + 1, none⟩ = false ∧ wr.frozen? ⟨g, k * 7 + 2, none⟩ = false ∧ wr.frozen? ⟨g, k * 7 + 3, none⟩ = false ∧ wr.frozen? ⟨g, k * 7 + 4, none⟩ = false ∧ wr.frozen? ⟨g, k * 7 + 5, none⟩ = false ∧ wr.frozen? ⟨g, k * 7 + 6, none⟩ = false := by
            obtain ⟨-, X, hX, -⟩ := hr
            have h := hX i hlt
            rw [HVI.out, HL.out] at h
            obtain ⟨-, -, cur, hcur⟩ := ownsRow_block h (g := g) rfl
            have hlen := h.1
            have hcc := (ownsRow_heap h).2.2.2
            obtain ⟨x0, h0⟩ : ∃ x, (X i)[k * 7]? = some x := ⟨_, List.getElem?_eq_getElem (by omega)⟩
            obtain ⟨x1, h1⟩ : ∃ x, (X i)[k * 7 + 1]? = some x := ⟨_, List.getElem?_eq_getElem (by omega)⟩
            obtain ⟨x2, h2⟩ : ∃ x, (X i)[k * 7 + 2]? = some x := ⟨_, List.getElem?_eq_getElem (by omega)⟩
            obtain ⟨x3, h3⟩ : ∃ x, (X i)[k * 7 + 3]? = some x := ⟨_, List.getElem?_eq_getElem (by omega)⟩
            obtain ⟨x4, h4⟩ : ∃ x, (X i)[k * 7 + 4]? = some x := ⟨_, List.getElem?_eq_getElem (by omega)⟩
            obtain ⟨x5, h5⟩ : ∃ x, (X i)[k * 7 + 5]? = some x := ⟨_, List.getElem?_eq_getElem (by omega)⟩
            obtain ⟨x6, h6⟩ : ∃ x, (X i)[k * 7 + 6]? = some x := ⟨_, List.getElem?_eq_getElem (by omega)⟩
            exact ⟨x0, x1, x2, x3, x4, x5, x6, hcc _ _ h0, hcc _ _ h1, hcc _ _ h2, hcc _ _ h3, hcc _ _ h4, hcc _ _ h5, hcc _ _ h6, frozen_of_heap hcur, frozen_of_heap hcur, frozen_of_heap hcur, frozen_of_heap hcur, frozen_of_heap hcur, frozen_of_heap hcur, frozen_of_heap hcur⟩
          have b3 : (0 : Int) ≤ (k : Int) := by omega
          have b4 : (k : Int) < (L : Int) := by omega
          have hw1 : IntKind.i64.wrap ((i : Int) * 1000) = (i : Int) * 1000 := by rw [IntKind.wrap_i64]; omega
          have hw2 : IntKind.i64.wrap ((i : Int) * 1000 + (k : Int)) = (i : Int) * 1000 + (k : Int) := by rw [IntKind.wrap_i64]; omega
          have hvg : v i = .slice (some ⟨g, 0, none⟩) (ln i) c := by rw [HVI.out, HL.out]
          have hat : ∀ r, r < 7 → (mkc exC i (ln i))[k * 7 + r]? = (exC ((i : Int) * 1000 + (k : Int)))[r]? := fun r hr => mkc_at exC_len (by rw [HL.out]; exact hkl) hr
          have hlk : k * 7 + 7 ≤ ln i * 7 := by rw [HL.out]; omega
          have s1 := mk4_step HR2.out HA.out hlt (by omega) hvg (hat 0 (by decide))
          have s2 := mk4_step s1 HA.out hlt (by omega) hvg (hat 1 (by decide))
          have s3 := mk4_step s2 HA.out hlt (by omega) hvg (hat 2 (by decide))
          have s4 := mk4_step s3 HA.out hlt (by omega) hvg (hat 3 (by decide))
          have s5 := mk4_step s4 HA.out hlt (by omega) hvg (hat 4 (by decide))
          have s6 := mk4_step s5 HA.out hlt (by omega) hvg (hat 5 (by decide))
          have s7 := mk4_step s6 HA.out hlt (by omega) hvg (hat 6 (by decide))
          have HS := Lib.hid s7
          clear hr s1 s2 s3 s4 s5 s6 s7 hat hvg hlk
          go_wp2_with fail
          exact ⟨⟨k + 1, hkl, by simp, by rw [show (k + 1) * 7 = k * 7 + 0 + 1 + 1 + 1 + 1 + 1 + 1 + 1 by omega]; exact HS.out⟩, by simp [intOf]; omega⟩
        · have hd2 : decide ((k : Int) < (L : Int)) = false := by simp; omega
          obtain rfl : k = L := by omega
          have hmn : Mk4 7 27 exC n v ln w i (ln i * 7) wr := by rw [HL.out]; exact HR2.out
          have HN := Lib.hid (mk4_next hmn)
          clear hr
          go_wp2_with fail
          exact ⟨⟨i + 1, hlt, by simp, HN.out⟩, by simp [intOf]; omega⟩
    · have hd : decide ((i : Int) < (n : Int)) = false := by simp; omega
      obtain rfl : n = i := by omega
      have hg0 := gr4_start (tl := 22) exC_len hr
      clear hr hge hd hile
      go_wp2_with fail
      go_loopw [5, 6] (fun lv s wr => ∃ m : Nat, m ≤ n ∧ s = .int .i64 m ∧ Gr4 7 27 22 exC n v ln w m lv wr) (fun _ s _ => n - (intOf s).toNat)
      case atStart => exact ⟨0, Nat.zero_le _, rfl, hg0⟩
      case round =>
        clear hg0
        obtain ⟨m, hm, rfl, hgr⟩ := hrel
        rcases Nat.lt_or_ge m n with hlt | hge
        · have hd : decide ((m : Int) < (n : Int)) = true := by simpa using hlt
          obtain ⟨xv, hin⟩ := in4_start hgr hlt
          obtain ⟨la, lc, rfl⟩ := ownsRow_slice hin.long
          obtain ⟨W, hW⟩ : ∃ W, wr.heap.size = W := ⟨_, rfl⟩
          rw [hW] at hin
          obtain ⟨L, hL⟩ : ∃ L, ln m = L := ⟨_, rfl⟩
          obtain ⟨a, c, hvi⟩ : ∃ a c, v m = .slice a L c := by
            rw [← hL]; exact ownsRow_slice (hgr.rest m (Nat.le_refl _) hlt)
          have hL6 : L ≤ 1000000 := by rw [← hL]; exact HLN.out m hlt
          have co := HST.out wr m hgr.only hlt
          rw [hvi] at co
          rw [hvi] at hin
          have HIN := Lib.hid hin
          have HVI := Lib.hid hvi
          have HL := Lib.hid hL
          have b1 : (0 : Int) ≤ (m : Int) := by omega
          have b2 : (m : Int) < (n : Int) := by omega
          clear hin hvi hL hgr hW
          go_wp2_with fail
          go_loopw [7, 8] (fun x s wk => ∃ k : Nat, k ≤ 8 ∧ s = .int .i64 k ∧ In4 7 27 22 exC n v ln w m (.slice la m lc) xv W k x wk) (fun _ s _ => 8 - (intOf s).toNat)
          case atStart => exact ⟨0, Nat.zero_le _, rfl, HIN.out⟩
          case round =>
            clear co
            obtain ⟨k, hk, rfl, hin⟩ := hrel
            have hcur := hin.cur
            rw [HL.out] at hcur
            obtain ⟨xa, xc, rfl⟩ := ownsRow_slice hcur
            have HIN2 := Lib.hid hin
            have HCUR := Lib.hid hcur
            rcases Nat.lt_or_ge k 8 with hkl | hkg
            · have hd2 : decide ((k : Int) < 8) = true := by simp; omega
              have hw0 : IntKind.i64.wrap (-1 - (m : Int)) = -1 - (m : Int) := by rw [IntKind.wrap_i64]; omega
              have hw1 : IntKind.i64.wrap ((-1 - (m : Int)) * 1000) = (-1 - (m : Int)) * 1000 := by rw [IntKind.wrap_i64]; omega
              have hw2 : IntKind.i64.wrap ((-1 - (m : Int)) * 1000 + (k : Int)) = (-1 - (m : Int)) * 1000 + (k : Int) := by rw [IntKind.wrap_i64]; omega
              obtain ⟨M, hM⟩ : ∃ M, (-1 - (m : Int)) * 1000 + (k : Int) = M := ⟨_, rfl⟩
              have HM := Lib.hid hM
              rw [hM] at hw2
              clear hin hcur
              go_wp2_with (at_builtin; go_must (refine wpList_append_both rfl _ _ 22 rfl 0 27 i0 (.agg #[.int .u8 0, .slice none 0 0, .int .i64 0, .int .u8 0, .bool false, .int .i64 0, .string ⟨#[]⟩]) 7 72 Tryz.underlying22 hi hz0 hz1 hz2 rfl (by decide) (.slice xa (L + k) xc) (L + k) (mkc exC m L ++ ngc exC m k) rfl (HCUR.out.alloc _) ⟨wr.heap.size, 0, none⟩ 1 1 [.int .u8 0, .slice none 0 0, .int .i64 M, .int .u8 0, .bool false, .int .i64 0, .string ⟨#[]⟩] rfl rfl ?c1 ?c2 ?c3 ?c4 ?c5 ?c6 ?_))
              case c1 =>
                intro j u hj
                rw [add_lit, Nat.zero_add]
                exact cell_of_heap (heap_alloc_new wr _) (by rw [List.getElem?_toArray]; exact hj)
              case c2 => intro u hu; simp only [List.mem_cons, List.not_mem_nil, or_false] at hu; rcases hu with rfl | rfl | rfl | rfl | rfl | rfl | rfl <;> rfl
              case c3 => unfold maxLen; omega
              case c4 => omega
              case c5 => exact Nat.zero_le _
              case c6 => decide
              intro x' w2 hown' hold hgrow hloc
              obtain ⟨xa', xc', rfl⟩ := ownsRow_slice hown'
              have HS : Hid (In4 7 27 22 exC n v ln w m (.slice la m lc) xv W (k + 1) (.slice xa' (L + k + 1) xc') w2) := Lib.hid (in4_step (by decide) HIN2.out HA.out hlt HVL.out ((Below.refl _ _).alloc (Nat.le_refl _) _) (by rw [HL.out, HM.out, List.append_assoc]; exact hown') (by rw [HL.out]; exact hold) hgrow (hloc.imp id fun h g hg => by have := h g hg; simp; omega))
              clear hown' hold hgrow hloc
              go_wp2_with fail
              exact ⟨⟨k + 1, hkl, by simp, HS.out⟩, by simp [intOf]; omega⟩
            · have hd2 : decide ((k : Int) < 8) = false := by simp; omega
              obtain rfl : k = 8 := by omega
              have hs0 : w.heap.size ≤ wr.heap.size := by have := hin.low; have := hin.high; omega
              clear hin hcur
              go_wp2_with (at_builtin; go_must (refine wpList_append_own _ rfl _ _ 70 rfl w.heap.size 22 i6 (.slice none 0 0) 1 24 Tryz.underlying70 hj hy0 hy1 hy2 rfl (by decide) (.slice la m lc) m ((List.range m).map xv) rfl (HIN2.out.long.alloc _) ⟨wr.heap.size, 0, none⟩ 1 1 [.slice xa (L + 8) xc] rfl rfl ?c1 ?c2 ?c3 ?c4 ?c5 ?_))
              case c1 =>
                intro j u hj
                rw [add_lit, Nat.zero_add]
                exact cell_of_heap (heap_alloc_new wr _) (by rw [List.getElem?_toArray]; exact hj)
              case c2 => intro u hu; simp at hu; subst hu; rfl
              case c3 => unfold maxLen; omega
              case c4 => omega
              case c5 => simp; omega
              intro lv' w2 hown' hgrow _
              have HS := Lib.hid (in4_end (by decide) HIN2.out ((Below.refl _ _).alloc (Nat.le_refl _) _) hown' hgrow)
              clear hown' hgrow
              go_wp2_with fail
              exact ⟨⟨m + 1, hlt, by simp, HS.out⟩, by simp [intOf]; omega⟩
        · have hd : decide ((m : Int) < (n : Int)) = false := by simp; omega
          obtain rfl : n = m := by omega
          obtain ⟨xv, hlong, hdone⟩ := hgr.long
          obtain ⟨la, lc, rfl⟩ := ownsRow_slice hlong
          have HGR := Lib.hid hgr
          have HLG := Lib.hid hlong
          have HDN := Lib.hid hdone
          clear hgr hlong hdone hge hm hd
          go_wp2_with fail
          go_loop [9] (fun s => ∃ i : Nat, i ≤ n ∧ s = .int .i64 i) (fun s => n - (intOf s).toNat)
          case atStart => exact ⟨0, Nat.zero_le _, rfl⟩
          case round =>
            obtain ⟨i, hile, rfl⟩ := hrel
            rcases Nat.lt_or_ge i n with hlt | hge
            · have hd : decide ((i : Int) < (n : Int)) = true := by simpa using hlt
              obtain ⟨L, hL⟩ : ∃ L, ln i = L := ⟨_, rfl⟩
              obtain ⟨hxo, -⟩ := HDN.out i hlt
              rw [hL] at hxo
              obtain ⟨xa, xc, hxv⟩ := ownsRow_slice hxo
              rw [hxv] at hxo
              obtain ⟨gx, rfl⟩ : ∃ gx, xa = some ⟨gx, 0, none⟩ := by
                rcases hxo.2 with ⟨-, h0⟩ | ⟨g, cap, cur, h, -⟩
                · omega
                · cases h; exact ⟨g, rfl⟩
              have hxc := (ownsRow_heap hxo).2.2.2
              obtain ⟨gl, rfl⟩ : ∃ gl, la = some ⟨gl, 0, none⟩ := by
                rcases HLG.out.2 with ⟨-, h0⟩ | ⟨g, cap, cur, h, -⟩
                · omega
                · cases h; exact ⟨g, rfl⟩
              have clong : wr.cell? ⟨gl, i, none⟩ = some (.slice (some ⟨gx, 0, none⟩) (L + 8) xc) := (ownsRow_heap HLG.out).2.2.2 i _ (by rw [List.getElem?_map, List.getElem?_range hlt, Option.map_some, hxv])
              have hrd := HGR.out.rd i hlt
              have co := HST.out wr i HGR.out.only hlt
              obtain ⟨a, c, hvi⟩ : ∃ a c, v i = .slice a L c := by
                have := HVS.out i hlt
                rwa [hL] at this
              rw [hvi] at co
              have hL6 : L ≤ 1000000 := by rw [← hL]; exact HLN.out i hlt
              have hrd2 : ∀ g, a = some ⟨g, 0, none⟩ → ∀ q u, (mkc exC i L)[q]? = some u → wr.cell? ⟨g, q, none⟩ = some u := fun g hg q u hq => by
                have := (hrd g (by rw [hvi, hg]; rfl)).2 q u (by rw [hL]; exact hq)
                exact this
              have hsome : 0 < L → ∃ g, a = some ⟨g, 0, none⟩ := HVN.out i L a c hlt hvi
              have HXC := Lib.hid hxc
              have HRD := Lib.hid hrd2
              have HSO := Lib.hid hsome
              have b1 : (0 : Int) ≤ (i : Int) := by omega
              have b2 : (i : Int) < (n : Int) := by omega
              clear hxo hxv hxc hrd hvi hL hrd2 hsome
              go_wp2_with fail
              go_loop [11] (fun s => ∃ k : Nat, k ≤ L ∧ s = .int .i64 k) (fun s => L - (intOf s).toNat)
              case atStart => exact ⟨0, Nat.zero_le _, rfl⟩
              case round =>
                obtain ⟨k, hk, rfl⟩ := hrel
                have hw1 : IntKind.i64.wrap ((i : Int) * 1000) = (i : Int) * 1000 := by rw [IntKind.wrap_i64]; omega
                rcases Nat.lt_or_ge k L with hkl | hkg
                · have hd2 : decide ((k : Int) < (L : Int)) = true := by simpa using hkl
                  obtain ⟨g, rfl⟩ := HSO.out (by omega)
                  have hw2 : IntKind.i64.wrap ((i : Int) * 1000 + (k : Int)) = (i : Int) * 1000 + (k : Int) := by rw [IntKind.wrap_i64]; omega
                  obtain ⟨M, hM⟩ : ∃ M, (i : Int) * 1000 + (k : Int) = M := ⟨_, rfl⟩
                  rw [hM] at hw2
                  have hat : ∀ r u, r < 7 → (exC M)[r]? = some u → (mkc exC i L)[k * 7 + r]? = some u := fun r u hr hu => by rw [mkc_at exC_len hkl hr, hM]; exact hu
                  have ck3 : wr.cell? ⟨g, k * 7 + 2, none⟩ = some (.int .i64 M) := HRD.out g rfl (k * 7 + 2) _ (hat 2 _ (by decide) rfl)
                  have cx3 : wr.cell? ⟨gx, k * 7 + 2, none⟩ = some (.int .i64 M) := HXC.out (k * 7 + 2) _ (by rw [List.getElem?_append_left (by rw [mkc_len exC_len]; omega)]; exact hat 2 _ (by decide) rfl)
                  have hne : (M != M) = false := by simp
                  have b3 : (0 : Int) ≤ (k : Int) := by omega
                  have b4 : (k : Int) < (L : Int) := by omega
                  have b5 : (k : Int) < (L : Int) + 8 := by omega
                  clear hat
                  go_wp2_with fail
                  exact ⟨⟨k + 1, hkl, by simp⟩, by simp [intOf]; omega⟩
                · have hd2 : decide ((k : Int) < (L : Int)) = false := by simp; omega
                  obtain rfl : k = L := by omega
                  go_wp2_with fail
                  go_loop [12] (fun s => ∃ q : Nat, q ≤ 8 ∧ s = .int .i64 q) (fun s => 8 - (intOf s).toNat)
                  case atStart => exact ⟨0, Nat.zero_le _, rfl⟩
                  case round =>
                    obtain ⟨q, hq, rfl⟩ := hrel
                    rcases Nat.lt_or_ge q 8 with hql | hqg
                    · have hd3 : decide ((q : Int) < 8) = true := by simp; omega
                      have hw0 : IntKind.i64.wrap (-1 - (i : Int)) = -1 - (i : Int) := by rw [IntKind.wrap_i64]; omega
                      have hw3 : IntKind.i64.wrap ((-1 - (i : Int)) * 1000) = (-1 - (i : Int)) * 1000 := by rw [IntKind.wrap_i64]; omega
                      have hw4 : IntKind.i64.wrap ((-1 - (i : Int)) * 1000 + (q : Int)) = (-1 - (i : Int)) * 1000 + (q : Int) := by rw [IntKind.wrap_i64]; omega
                      have hw5 : IntKind.i64.wrap ((k : Int) + (q : Int)) = (k : Int) + (q : Int) := by rw [IntKind.wrap_i64]; omega
                      obtain ⟨M, hM⟩ : ∃ M, (-1 - (i : Int)) * 1000 + (q : Int) = M := ⟨_, rfl⟩
                      rw [hM] at hw4
                      have hat : ∀ r u, r < 7 → (exC M)[r]? = some u → (ngc exC i 8)[q * 7 + r]? = some u := fun r u hr hu => by rw [ngc_at exC_len hql hr, hM]; exact hu
                      have cx3 : wr.cell? ⟨gx, (k + q) * 7 + 2, none⟩ = some (.int .i64 M) := HXC.out ((k + q) * 7 + 2) _ (by rw [List.getElem?_append_right (by rw [mkc_len exC_len]; omega), mkc_len exC_len, show (k + q) * 7 + 2 - k * 7 = q * 7 + 2 by omega]; exact hat 2 _ (by decide) rfl)
                      have hne : (M != M) = false := by simp
                      have b3 : (0 : Int) ≤ (k : Int) + (q : Int) := by omega
                      have b5 : (k : Int) + (q : Int) < (k : Int) + 8 := by omega
                      have ht : ((k : Int) + (q : Int)).toNat = k + q := by omega
                      clear hat
                      go_wp2_with fail
                      exact ⟨⟨q + 1, hql, by simp⟩, by simp [intOf]; omega⟩
                    · have hd3 : decide ((q : Int) < 8) = false := by simp; omega
                      obtain rfl : q = 8 := by omega
                      go_wp2_with fail
                      exact ⟨⟨i + 1, hlt, by simp⟩, by simp [intOf]; omega⟩
            · have hd : decide ((i : Int) < (n : Int)) = false := by simp; omega
              obtain rfl : n = i := by omega
              go_wp2_with fail
              go_ret
              exact ⟨rfl, HGR.out.only⟩
end Go.Proofs.YtolikaginhjbhaaGreatDoor
/- ownInts 59: lists that are nobody else's. Printed by gen_own1.py out of mail's ownUpdates' walk. -/
namespace Go.Proofs.YtolikaginhjbhaaGreatDoor
open Go.RowKit Go.Pen

/-- a number that is a mark -/
def inC (x : Int) : List Value := [.int .i64 x]
theorem inC_len (x : Int) : (inC x).length = 1 := rfl

theorem info3L : (Tryz.prog.info? 3).map (fun i => (i.zero, i.size, i.bytes)) = some (some (.int .i64 0), 1, 8) := by kernel_rfl
theorem info44L : (Tryz.prog.info? 44).map (fun i => (i.zero, i.size, i.bytes)) = some (some (.slice none 0 0), 1, 24) := by kernel_rfl

set_option maxRecDepth 100000 in
set_option maxHeartbeats 8000000 in
theorem ownInts_59 (n : Nat) (v : Nat → Value) (ln : Nat → Nat) (ob oc : Nat) (w : World) (hn : n ≤ 1000000000) (hl : ∀ i, i < n → ln i ≤ 1000000) (ha : Apart n v)
    (hX : ∀ i, i < n → ∃ xs, w.ownsRow 0 3 1 (v i) (ln i) xs) (hob : ob < w.heap.size) (hout : ∀ i, i < n → w.cell? ⟨ob, i, none⟩ = some (v i)) (hne : ∀ i, i < n → (v i).ownBlock ≠ some ob) :
    Calls Tryz.prog 59 #[.slice (some ⟨ob, 0, none⟩) n oc] w fun e w' => e = .returned (.bool true) ∧ Only (fun g => ∃ j, j < n ∧ (v j).ownBlock = some g) w w' := by
  have hm0 : Mk4 1 3 inC n v ln w 0 0 w := by
    have : ∃ X : Nat → List Value, ∀ j, j < n → w.ownsRow 0 3 1 (v j) (ln j) (X j) := by
      refine ⟨fun j => if h : j < n then (hX j h).choose else [], fun j hj => ?_⟩
      simp only [dif_pos hj]
      exact (hX j hj).choose_spec
    obtain ⟨X, hX⟩ := this
    exact ⟨Only.refl _ _, X, hX, fun j q _ _ h => by omega⟩
  -- the outer list stays
  have hst : ∀ wr i, Only (fun g => ∃ j, j < n ∧ (v j).ownBlock = some g) w wr → i < n → wr.cell? ⟨ob, i, none⟩ = some (v i) := fun wr i ho hi =>
    (World.cell?_of_block (ho.block ob hob (fun ⟨j, hj, e⟩ => hne j hj e))).trans (hout i hi)
  obtain ⟨i0, hi, hz0, hz1, hz2⟩ := info_parts info3L
  obtain ⟨i6, hj, hy0, hy1, hy2⟩ := info_parts info44L
  have HST := Lib.hid hst
  have hvl : ∀ j g, j < n → (v j).ownBlock = some g → g < w.heap.size := fun j g hj hg => by
    obtain ⟨xs, h⟩ := hX j hj
    exact (h.lt g hg).2
  have hvs : ∀ j, j < n → ∃ a c, v j = .slice a (ln j) c := fun j hj => by
    obtain ⟨xs, h⟩ := hX j hj
    exact ownsRow_slice h
  have hvn : ∀ j L a c, j < n → v j = .slice a L c → 0 < L → ∃ g, a = some ⟨g, 0, none⟩ := fun j L a c hj hv h0 => by
    obtain ⟨xs, h⟩ := hX j hj
    rcases h.2 with ⟨h1, -⟩ | ⟨g, cap, cur, h1, -⟩
    · rw [hv] at h1; cases h1; omega
    · rw [hv] at h1; cases h1; exact ⟨g, rfl⟩
  have HVS := Lib.hid hvs
  have HVN := Lib.hid hvn
  have HVL := Lib.hid hvl
  have HA := Lib.hid ha
  have HLN := Lib.hid hl
  clear hX hout hst ha hl hne hvl hvs hvn
  go_enter Tryz.func59, Tryz.ntmps59
  go_wp2_with fail
  go_loopw [3] (fun s wr => ∃ i : Nat, i ≤ n ∧ s = .int .i64 i ∧ Mk4 1 3 inC n v ln w i 0 wr) (fun s _ => n - (intOf s).toNat)
  case atStart => exact ⟨0, Nat.zero_le _, rfl, hm0⟩
  case round =>
    clear hm0
    obtain ⟨i, hile, rfl, hr⟩ := hrel
    rcases Nat.lt_or_ge i n with hlt | hge
    · have hd : decide ((i : Int) < (n : Int)) = true := by simpa using hlt
      obtain ⟨L, hL⟩ : ∃ L, ln i = L := ⟨_, rfl⟩
      obtain ⟨a, c, hvi⟩ : ∃ a c, v i = .slice a L c := by
        obtain ⟨-, X, hX, -⟩ := hr
        rw [← hL]
        exact ownsRow_slice (hX i hlt)
      have hL6 : L ≤ 1000000 := by rw [← hL]; exact HLN.out i hlt
      have HR := Lib.hid hr
      have HVI := Lib.hid hvi
      have HL := Lib.hid hL
      have b1 : (0 : Int) ≤ (i : Int) := by omega
      have b2 : (i : Int) < (n : Int) := by omega
      clear hr hvi hL
      go_wp2_with fail
      go_loopw [4] (fun s wk => ∃ k : Nat, k ≤ L ∧ s = .int .i64 k ∧ Mk4 1 3 inC n v ln w i k wk) (fun s _ => L - (intOf s).toNat)
      case atStart => exact ⟨0, Nat.zero_le _, rfl, HR.out⟩
      case round =>
        obtain ⟨k, hk, rfl, hr⟩ := hrel
        have co := HST.out wr i hr.1 hlt
        rw [HVI.out] at co
        have HR2 := Lib.hid hr
        rcases Nat.lt_or_ge k L with hkl | hkg
        · have hd2 : decide ((k : Int) < (L : Int)) = true := by simpa using hkl
          obtain ⟨g, hag⟩ : ∃ g, a = some ⟨g, 0, none⟩ := by
            obtain ⟨-, X, hX, -⟩ := hr
            have h := (hX i hlt).2
            rw [HVI.out, HL.out] at h
            rcases h with ⟨h, h0⟩ | ⟨g, cap, cur, h, -⟩
            · omega
            · cases h; exact ⟨g, rfl⟩
          subst hag
          obtain ⟨x0, hx0, hf0⟩ : ∃ x0, wr.cell? ⟨g, k, none⟩ = some x0 ∧ wr.frozen? ⟨g, k, none⟩ = false := by
            obtain ⟨-, X, hX, -⟩ := hr
            have h := hX i hlt
            rw [HVI.out, HL.out] at h
            obtain ⟨-, -, cur, hcur⟩ := ownsRow_block h (g := g) rfl
            have hlen := h.1
            have hcc := (ownsRow_heap h).2.2.2
            obtain ⟨x0, h0⟩ : ∃ x, (X i)[k]? = some x := ⟨_, List.getElem?_eq_getElem (by omega)⟩
            exact ⟨x0, hcc _ _ h0, frozen_of_heap hcur⟩
          have b3 : (0 : Int) ≤ (k : Int) := by omega
          have b4 : (k : Int) < (L : Int) := by omega
          have hw1 : IntKind.i64.wrap ((i : Int) * 1000) = (i : Int) * 1000 := by rw [IntKind.wrap_i64]; omega
          have hw2 : IntKind.i64.wrap ((i : Int) * 1000 + (k : Int)) = (i : Int) * 1000 + (k : Int) := by rw [IntKind.wrap_i64]; omega
          have hvg : v i = .slice (some ⟨g, 0, none⟩) (ln i) c := by rw [HVI.out, HL.out]
          have hat : (mkc inC i (ln i))[k]? = some (.int .i64 ((i : Int) * 1000 + (k : Int))) := by
            have := mkc_at inC_len (j := i) (L := ln i) (q := k) (r := 0) (by rw [HL.out]; exact hkl) (by decide)
            simpa [inC] using this
          have s1 := mk4_step HR2.out HA.out hlt (by rw [HL.out]; omega) hvg hat
          have HS := Lib.hid s1
          clear hr s1 hat hvg
          go_wp2_with fail
          exact ⟨⟨k + 1, hkl, by simp, HS.out⟩, by simp [intOf]; omega⟩
        · have hd2 : decide ((k : Int) < (L : Int)) = false := by simp; omega
          obtain rfl : k = L := by omega
          have hmn : Mk4 1 3 inC n v ln w i (ln i * 1) wr := by rw [HL.out, Nat.mul_one]; exact HR2.out
          have HN := Lib.hid (mk4_next hmn)
          clear hr
          go_wp2_with fail
          exact ⟨⟨i + 1, hlt, by simp, HN.out⟩, by simp [intOf]; omega⟩
    · have hd : decide ((i : Int) < (n : Int)) = false := by simp; omega
      obtain rfl : n = i := by omega
      have hg0 := gr4_start (tl := 44) inC_len hr
      clear hr hge hd hile
      go_wp2_with fail
      go_loopw [5, 6] (fun lv s wr => ∃ m : Nat, m ≤ n ∧ s = .int .i64 m ∧ Gr4 1 3 44 inC n v ln w m lv wr) (fun _ s _ => n - (intOf s).toNat)
      case atStart => exact ⟨0, Nat.zero_le _, rfl, hg0⟩
      case round =>
        clear hg0
        obtain ⟨m, hm, rfl, hgr⟩ := hrel
        rcases Nat.lt_or_ge m n with hlt | hge
        · have hd : decide ((m : Int) < (n : Int)) = true := by simpa using hlt
          obtain ⟨xv, hin⟩ := in4_start hgr hlt
          obtain ⟨la, lc, rfl⟩ := ownsRow_slice hin.long
          obtain ⟨W, hW⟩ : ∃ W, wr.heap.size = W := ⟨_, rfl⟩
          rw [hW] at hin
          obtain ⟨L, hL⟩ : ∃ L, ln m = L := ⟨_, rfl⟩
          obtain ⟨a, c, hvi⟩ : ∃ a c, v m = .slice a L c := by
            rw [← hL]; exact ownsRow_slice (hgr.rest m (Nat.le_refl _) hlt)
          have hL6 : L ≤ 1000000 := by rw [← hL]; exact HLN.out m hlt
          have co := HST.out wr m hgr.only hlt
          rw [hvi] at co
          rw [hvi] at hin
          have HIN := Lib.hid hin
          have HVI := Lib.hid hvi
          have HL := Lib.hid hL
          have b1 : (0 : Int) ≤ (m : Int) := by omega
          have b2 : (m : Int) < (n : Int) := by omega
          clear hin hvi hL hgr hW
          go_wp2_with fail
          go_loopw [7, 8] (fun x s wk => ∃ k : Nat, k ≤ 8 ∧ s = .int .i64 k ∧ In4 1 3 44 inC n v ln w m (.slice la m lc) xv W k x wk) (fun _ s _ => 8 - (intOf s).toNat)
          case atStart => exact ⟨0, Nat.zero_le _, rfl, HIN.out⟩
          case round =>
            clear co
            obtain ⟨k, hk, rfl, hin⟩ := hrel
            have hcur := hin.cur
            rw [HL.out] at hcur
            obtain ⟨xa, xc, rfl⟩ := ownsRow_slice hcur
            have HIN2 := Lib.hid hin
            have HCUR := Lib.hid hcur
            rcases Nat.lt_or_ge k 8 with hkl | hkg
            · have hd2 : decide ((k : Int) < 8) = true := by simp; omega
              have hw0 : IntKind.i64.wrap (-1 - (m : Int)) = -1 - (m : Int) := by rw [IntKind.wrap_i64]; omega
              have hw1 : IntKind.i64.wrap ((-1 - (m : Int)) * 1000) = (-1 - (m : Int)) * 1000 := by rw [IntKind.wrap_i64]; omega
              have hw2 : IntKind.i64.wrap ((-1 - (m : Int)) * 1000 + (k : Int)) = (-1 - (m : Int)) * 1000 + (k : Int) := by rw [IntKind.wrap_i64]; omega
              obtain ⟨M, hM⟩ : ∃ M, (-1 - (m : Int)) * 1000 + (k : Int) = M := ⟨_, rfl⟩
              have HM := Lib.hid hM
              rw [hM] at hw2
              clear hin hcur
              go_wp2_with (at_builtin; go_must (refine wpList_append_both rfl _ _ 44 rfl 0 3 i0 (.int .i64 0) 1 8 Tryz.underlying44 hi hz0 hz1 hz2 rfl (by decide) (.slice xa (L + k) xc) (L + k) (mkc inC m L ++ ngc inC m k) rfl (HCUR.out.alloc _) ⟨wr.heap.size, 0, none⟩ 1 1 [.int .i64 M] rfl rfl ?c1 ?c2 ?c3 ?c4 ?c5 ?c6 ?_))
              case c1 =>
                intro j u hj
                rw [add_lit, Nat.zero_add]
                exact cell_of_heap (heap_alloc_new wr _) (by rw [List.getElem?_toArray]; exact hj)
              case c2 => intro u hu; simp only [List.mem_cons, List.not_mem_nil, or_false] at hu; subst hu; rfl
              case c3 => unfold maxLen; omega
              case c4 => omega
              case c5 => exact Nat.zero_le _
              case c6 => decide
              intro x' w2 hown' hold hgrow hloc
              obtain ⟨xa', xc', rfl⟩ := ownsRow_slice hown'
              have HS : Hid (In4 1 3 44 inC n v ln w m (.slice la m lc) xv W (k + 1) (.slice xa' (L + k + 1) xc') w2) := Lib.hid (in4_step (by decide) HIN2.out HA.out hlt HVL.out ((Below.refl _ _).alloc (Nat.le_refl _) _) (by rw [HL.out, HM.out, List.append_assoc]; exact hown') (by rw [HL.out]; exact hold) hgrow (hloc.imp id fun h g hg => by have := h g hg; simp; omega))
              clear hown' hold hgrow hloc
              go_wp2_with fail
              exact ⟨⟨k + 1, hkl, by simp, HS.out⟩, by simp [intOf]; omega⟩
            · have hd2 : decide ((k : Int) < 8) = false := by simp; omega
              obtain rfl : k = 8 := by omega
              have hs0 : w.heap.size ≤ wr.heap.size := by have := hin.low; have := hin.high; omega
              clear hin hcur
              go_wp2_with (at_builtin; go_must (refine wpList_append_own _ rfl _ _ 60 rfl w.heap.size 44 i6 (.slice none 0 0) 1 24 Tryz.underlying60 hj hy0 hy1 hy2 rfl (by decide) (.slice la m lc) m ((List.range m).map xv) rfl (HIN2.out.long.alloc _) ⟨wr.heap.size, 0, none⟩ 1 1 [.slice xa (L + 8) xc] rfl rfl ?c1 ?c2 ?c3 ?c4 ?c5 ?_))
              case c1 =>
                intro j u hj
                rw [add_lit, Nat.zero_add]
                exact cell_of_heap (heap_alloc_new wr _) (by rw [List.getElem?_toArray]; exact hj)
              case c2 => intro u hu; simp at hu; subst hu; rfl
              case c3 => unfold maxLen; omega
              case c4 => omega
              case c5 => simp; omega
              intro lv' w2 hown' hgrow _
              have HS := Lib.hid (in4_end (by decide) HIN2.out ((Below.refl _ _).alloc (Nat.le_refl _) _) hown' hgrow)
              clear hown' hgrow
              go_wp2_with fail
              exact ⟨⟨m + 1, hlt, by simp, HS.out⟩, by simp [intOf]; omega⟩
        · have hd : decide ((m : Int) < (n : Int)) = false := by simp; omega
          obtain rfl : n = m := by omega
          obtain ⟨xv, hlong, hdone⟩ := hgr.long
          obtain ⟨la, lc, rfl⟩ := ownsRow_slice hlong
          have HGR := Lib.hid hgr
          have HLG := Lib.hid hlong
          have HDN := Lib.hid hdone
          clear hgr hlong hdone hge hm hd
          go_wp2_with fail
          go_loop [9] (fun s => ∃ i : Nat, i ≤ n ∧ s = .int .i64 i) (fun s => n - (intOf s).toNat)
          case atStart => exact ⟨0, Nat.zero_le _, rfl⟩
          case round =>
            obtain ⟨i, hile, rfl⟩ := hrel
            rcases Nat.lt_or_ge i n with hlt | hge
            · have hd : decide ((i : Int) < (n : Int)) = true := by simpa using hlt
              obtain ⟨L, hL⟩ : ∃ L, ln i = L := ⟨_, rfl⟩
              obtain ⟨hxo, -⟩ := HDN.out i hlt
              rw [hL] at hxo
              obtain ⟨xa, xc, hxv⟩ := ownsRow_slice hxo
              rw [hxv] at hxo
              obtain ⟨gx, rfl⟩ : ∃ gx, xa = some ⟨gx, 0, none⟩ := by
                rcases hxo.2 with ⟨-, h0⟩ | ⟨g, cap, cur, h, -⟩
                · omega
                · cases h; exact ⟨g, rfl⟩
              have hxc := (ownsRow_heap hxo).2.2.2
              obtain ⟨gl, rfl⟩ : ∃ gl, la = some ⟨gl, 0, none⟩ := by
                rcases HLG.out.2 with ⟨-, h0⟩ | ⟨g, cap, cur, h, -⟩
                · omega
                · cases h; exact ⟨g, rfl⟩
              have clong : wr.cell? ⟨gl, i, none⟩ = some (.slice (some ⟨gx, 0, none⟩) (L + 8) xc) := (ownsRow_heap HLG.out).2.2.2 i _ (by rw [List.getElem?_map, List.getElem?_range hlt, Option.map_some, hxv])
              have hrd := HGR.out.rd i hlt
              have co := HST.out wr i HGR.out.only hlt
              obtain ⟨a, c, hvi⟩ : ∃ a c, v i = .slice a L c := by
                have := HVS.out i hlt
                rwa [hL] at this
              rw [hvi] at co
              have hL6 : L ≤ 1000000 := by rw [← hL]; exact HLN.out i hlt
              have hrd2 : ∀ g, a = some ⟨g, 0, none⟩ → ∀ q u, (mkc inC i L)[q]? = some u → wr.cell? ⟨g, q, none⟩ = some u := fun g hg q u hq => by
                have := (hrd g (by rw [hvi, hg]; rfl)).2 q u (by rw [hL]; exact hq)
                exact this
              have hsome : 0 < L → ∃ g, a = some ⟨g, 0, none⟩ := HVN.out i L a c hlt hvi
              have HXC := Lib.hid hxc
              have HRD := Lib.hid hrd2
              have HSO := Lib.hid hsome
              have b1 : (0 : Int) ≤ (i : Int) := by omega
              have b2 : (i : Int) < (n : Int) := by omega
              clear hxo hxv hxc hrd hvi hL hrd2 hsome
              go_wp2_with fail
              go_loop [11] (fun s => ∃ k : Nat, k ≤ L ∧ s = .int .i64 k) (fun s => L - (intOf s).toNat)
              case atStart => exact ⟨0, Nat.zero_le _, rfl⟩
              case round =>
                obtain ⟨k, hk, rfl⟩ := hrel
                have hw1 : IntKind.i64.wrap ((i : Int) * 1000) = (i : Int) * 1000 := by rw [IntKind.wrap_i64]; omega
                rcases Nat.lt_or_ge k L with hkl | hkg
                · have hd2 : decide ((k : Int) < (L : Int)) = true := by simpa using hkl
                  obtain ⟨g, rfl⟩ := HSO.out (by omega)
                  have hw2 : IntKind.i64.wrap ((i : Int) * 1000 + (k : Int)) = (i : Int) * 1000 + (k : Int) := by rw [IntKind.wrap_i64]; omega
                  obtain ⟨M, hM⟩ : ∃ M, (i : Int) * 1000 + (k : Int) = M := ⟨_, rfl⟩
                  rw [hM] at hw2
                  have hat : (mkc inC i L)[k]? = some (.int .i64 M) := by
                    have := mkc_at inC_len (j := i) (L := L) (q := k) (r := 0) hkl (by decide)
                    rw [hM] at this
                    simpa [inC] using this
                  have ck3 : wr.cell? ⟨g, k, none⟩ = some (.int .i64 M) := HRD.out g rfl k _ hat
                  have cx3 : wr.cell? ⟨gx, k, none⟩ = some (.int .i64 M) := HXC.out k _ (by rw [List.getElem?_append_left (by rw [mkc_len inC_len]; omega)]; exact hat)
                  have hne : (M != M) = false := by simp
                  have b3 : (0 : Int) ≤ (k : Int) := by omega
                  have b4 : (k : Int) < (L : Int) := by omega
                  have b5 : (k : Int) < (L : Int) + 8 := by omega
                  clear hat
                  go_wp2_with fail
                  exact ⟨⟨k + 1, hkl, by simp⟩, by simp [intOf]; omega⟩
                · have hd2 : decide ((k : Int) < (L : Int)) = false := by simp; omega
                  obtain rfl : k = L := by omega
                  go_wp2_with fail
                  go_loop [12] (fun s => ∃ q : Nat, q ≤ 8 ∧ s = .int .i64 q) (fun s => 8 - (intOf s).toNat)
                  case atStart => exact ⟨0, Nat.zero_le _, rfl⟩
                  case round =>
                    obtain ⟨q, hq, rfl⟩ := hrel
                    rcases Nat.lt_or_ge q 8 with hql | hqg
                    · have hd3 : decide ((q : Int) < 8) = true := by simp; omega
                      have hw0 : IntKind.i64.wrap (-1 - (i : Int)) = -1 - (i : Int) := by rw [IntKind.wrap_i64]; omega
                      have hw3 : IntKind.i64.wrap ((-1 - (i : Int)) * 1000) = (-1 - (i : Int)) * 1000 := by rw [IntKind.wrap_i64]; omega
                      have hw4 : IntKind.i64.wrap ((-1 - (i : Int)) * 1000 + (q : Int)) = (-1 - (i : Int)) * 1000 + (q : Int) := by rw [IntKind.wrap_i64]; omega
                      have hw5 : IntKind.i64.wrap ((k : Int) + (q : Int)) = (k : Int) + (q : Int) := by rw [IntKind.wrap_i64]; omega
                      obtain ⟨M, hM⟩ : ∃ M, (-1 - (i : Int)) * 1000 + (q : Int) = M := ⟨_, rfl⟩
                      rw [hM] at hw4
                      have hat : (ngc inC i 8)[q]? = some (.int .i64 M) := by
                        have := ngc_at inC_len (j := i) (L := 8) (q := q) (r := 0) hql (by decide)
                        rw [hM] at this
                        simpa [inC] using this
                      have cx3 : wr.cell? ⟨gx, k + q, none⟩ = some (.int .i64 M) := HXC.out (k + q) _ (by rw [List.getElem?_append_right (by rw [mkc_len inC_len]; omega), mkc_len inC_len, show k + q - k * 1 = q by omega]; exact hat)
                      have hne : (M != M) = false := by simp
                      have b3 : (0 : Int) ≤ (k : Int) + (q : Int) := by omega
                      have b5 : (k : Int) + (q : Int) < (k : Int) + 8 := by omega
                      have ht : ((k : Int) + (q : Int)).toNat = k + q := by omega
                      clear hat
                      go_wp2_with fail
                      exact ⟨⟨q + 1, hql, by simp⟩, by simp [intOf]; omega⟩
                    · have hd3 : decide ((q : Int) < 8) = false := by simp; omega
                      obtain rfl : q = 8 := by omega
                      go_wp2_with fail
                      exact ⟨⟨i + 1, hlt, by simp⟩, by simp [intOf]; omega⟩
            · have hd : decide ((i : Int) < (n : Int)) = false := by simp; omega
              obtain rfl : n = i := by omega
              go_wp2_with fail
              go_ret
              exact ⟨rfl, HGR.out.only⟩
end Go.Proofs.YtolikaginhjbhaaGreatDoor
/- the lists that nobody laid into the book: nil ones. -/
namespace Go.Proofs.YtolikaginhjbhaaGreatDoor
open Go.RowKit Go.Pen

set_option maxRecDepth 100000 in
set_option maxHeartbeats 4000000 in
theorem ownNil_57 (w : World) : Calls Tryz.prog 57 #[.slice none 0 0] w fun e w' => e = .returned (.bool true) ∧ w' = w := by
  go_enter Tryz.func57, Tryz.ntmps57
  go_wp2_with fail
  go_loop [3] (fun s => s = .int .i64 0) (fun _ => 0)
  case atStart => rfl
  case round =>
    obtain rfl := hrel
    go_wp2_with fail
    go_loop [6] (fun s => s = .int .i64 0) (fun _ => 0)
    case atStart => rfl
    case round =>
      obtain rfl := hrel
      go_wp2_with fail
      go_loop [9] (fun s => s = .int .i64 0) (fun _ => 0)
      case atStart => rfl
      case round =>
        obtain rfl := hrel
        go_wp2_with fail
        go_ret
        exact ⟨rfl, rfl⟩

set_option maxRecDepth 100000 in
set_option maxHeartbeats 4000000 in
theorem ownNil_58 (w : World) : Calls Tryz.prog 58 #[.slice none 0 0] w fun e w' => e = .returned (.bool true) ∧ w' = w := by
  go_enter Tryz.func58, Tryz.ntmps58
  go_wp2_with fail
  go_loop [3] (fun s => s = .int .i64 0) (fun _ => 0)
  case atStart => rfl
  case round =>
    obtain rfl := hrel
    go_wp2_with fail
    go_loop [6] (fun s => s = .int .i64 0) (fun _ => 0)
    case atStart => rfl
    case round =>
      obtain rfl := hrel
      go_wp2_with fail
      go_loop [9] (fun s => s = .int .i64 0) (fun _ => 0)
      case atStart => rfl
      case round =>
        obtain rfl := hrel
        go_wp2_with fail
        go_ret
        exact ⟨rfl, rfl⟩

set_option maxRecDepth 100000 in
set_option maxHeartbeats 4000000 in
theorem ownNil_59 (w : World) : Calls Tryz.prog 59 #[.slice none 0 0] w fun e w' => e = .returned (.bool true) ∧ w' = w := by
  go_enter Tryz.func59, Tryz.ntmps59
  go_wp2_with fail
  go_loop [3] (fun s => s = .int .i64 0) (fun _ => 0)
  case atStart => rfl
  case round =>
    obtain rfl := hrel
    go_wp2_with fail
    go_loop [6] (fun s => s = .int .i64 0) (fun _ => 0)
    case atStart => rfl
    case round =>
      obtain rfl := hrel
      go_wp2_with fail
      go_loop [9] (fun s => s = .int .i64 0) (fun _ => 0)
      case atStart => rfl
      case round =>
        obtain rfl := hrel
        go_wp2_with fail
        go_ret
        exact ⟨rfl, rfl⟩

set_option maxRecDepth 100000 in
set_option maxHeartbeats 4000000 in
theorem ownNil_60 (w : World) : Calls Tryz.prog 60 #[.slice none 0 0] w fun e w' => e = .returned (.bool true) ∧ w' = w := by
  go_enter Tryz.func60, Tryz.ntmps60
  go_wp2_with fail
  go_loop [3] (fun s => s = .int .i64 0) (fun _ => 0)
  case atStart => rfl
  case round =>
    obtain rfl := hrel
    go_wp2_with fail
    go_loop [6] (fun s => s = .int .i64 0) (fun _ => 0)
    case atStart => rfl
    case round =>
      obtain rfl := hrel
      go_wp2_with fail
      go_loop [9] (fun s => s = .int .i64 0) (fun _ => 0)
      case atStart => rfl
      case round =>
        obtain rfl := hrel
        go_wp2_with fail
        go_ret
        exact ⟨rfl, rfl⟩

set_option maxRecDepth 100000 in
set_option maxHeartbeats 4000000 in
theorem ownNil_61 (w : World) : Calls Tryz.prog 61 #[.slice none 0 0] w fun e w' => e = .returned (.bool true) ∧ w' = w := by
  go_enter Tryz.func61, Tryz.ntmps61
  go_wp2_with fail
  go_loop [3] (fun s => s = .int .i64 0) (fun _ => 0)
  case atStart => rfl
  case round =>
    obtain rfl := hrel
    go_wp2_with fail
    go_loop [6] (fun s => s = .int .i64 0) (fun _ => 0)
    case atStart => rfl
    case round =>
      obtain rfl := hrel
      go_wp2_with fail
      go_loop [9] (fun s => s = .int .i64 0) (fun _ => 0)
      case atStart => rfl
      case round =>
        obtain rfl := hrel
        go_wp2_with fail
        go_ret
        exact ⟨rfl, rfl⟩

set_option maxRecDepth 100000 in
set_option maxHeartbeats 4000000 in
theorem ownNil_62 (w : World) : Calls Tryz.prog 62 #[.slice none 0 0] w fun e w' => e = .returned (.bool true) ∧ w' = w := by
  go_enter Tryz.func62, Tryz.ntmps62
  go_wp2_with fail
  go_loop [3] (fun s => s = .int .i64 0) (fun _ => 0)
  case atStart => rfl
  case round =>
    obtain rfl := hrel
    go_wp2_with fail
    go_loop [6] (fun s => s = .int .i64 0) (fun _ => 0)
    case atStart => rfl
    case round =>
      obtain rfl := hrel
      go_wp2_with fail
      go_loop [9] (fun s => s = .int .i64 0) (fun _ => 0)
      case atStart => rfl
      case round =>
        obtain rfl := hrel
        go_wp2_with fail
        go_ret
        exact ⟨rfl, rfl⟩

set_option maxRecDepth 100000 in
set_option maxHeartbeats 4000000 in
theorem ownNil_63 (w : World) : Calls Tryz.prog 63 #[.slice none 0 0] w fun e w' => e = .returned (.bool true) ∧ w' = w := by
  go_enter Tryz.func63, Tryz.ntmps63
  go_wp2_with fail
  go_loop [3] (fun s => s = .int .i64 0) (fun _ => 0)
  case atStart => rfl
  case round =>
    obtain rfl := hrel
    go_wp2_with fail
    go_loop [6] (fun s => s = .int .i64 0) (fun _ => 0)
    case atStart => rfl
    case round =>
      obtain rfl := hrel
      go_wp2_with fail
      go_loop [9] (fun s => s = .int .i64 0) (fun _ => 0)
      case atStart => rfl
      case round =>
        obtain rfl := hrel
        go_wp2_with fail
        go_ret
        exact ⟨rfl, rfl⟩

set_option maxRecDepth 100000 in
set_option maxHeartbeats 4000000 in
theorem ownNil_64 (w : World) : Calls Tryz.prog 64 #[.slice none 0 0] w fun e w' => e = .returned (.bool true) ∧ w' = w := by
  go_enter Tryz.func64, Tryz.ntmps64
  go_wp2_with fail
  go_loop [3] (fun s => s = .int .i64 0) (fun _ => 0)
  case atStart => rfl
  case round =>
    obtain rfl := hrel
    go_wp2_with fail
    go_loop [6] (fun s => s = .int .i64 0) (fun _ => 0)
    case atStart => rfl
    case round =>
      obtain rfl := hrel
      go_wp2_with fail
      go_loop [9] (fun s => s = .int .i64 0) (fun _ => 0)
      case atStart => rfl
      case round =>
        obtain rfl := hrel
        go_wp2_with fail
        go_ret
        exact ⟨rfl, rfl⟩

set_option maxRecDepth 100000 in
set_option maxHeartbeats 4000000 in
theorem ownNil_65 (w : World) : Calls Tryz.prog 65 #[.slice none 0 0] w fun e w' => e = .returned (.bool true) ∧ w' = w := by
  go_enter Tryz.func65, Tryz.ntmps65
  go_wp2_with fail
  go_loop [3] (fun s => s = .int .i64 0) (fun _ => 0)
  case atStart => rfl
  case round =>
    obtain rfl := hrel
    go_wp2_with fail
    go_loop [6] (fun s => s = .int .i64 0) (fun _ => 0)
    case atStart => rfl
    case round =>
      obtain rfl := hrel
      go_wp2_with fail
      go_loop [9] (fun s => s = .int .i64 0) (fun _ => 0)
      case atStart => rfl
      case round =>
        obtain rfl := hrel
        go_wp2_with fail
        go_ret
        exact ⟨rfl, rfl⟩

set_option maxRecDepth 100000 in
set_option maxHeartbeats 4000000 in
theorem ownNil_66 (w : World) : Calls Tryz.prog 66 #[.slice none 0 0] w fun e w' => e = .returned (.bool true) ∧ w' = w := by
  go_enter Tryz.func66, Tryz.ntmps66
  go_wp2_with fail
  go_loop [3] (fun s => s = .int .i64 0) (fun _ => 0)
  case atStart => rfl
  case round =>
    obtain rfl := hrel
    go_wp2_with fail
    go_loop [6] (fun s => s = .int .i64 0) (fun _ => 0)
    case atStart => rfl
    case round =>
      obtain rfl := hrel
      go_wp2_with fail
      go_loop [9] (fun s => s = .int .i64 0) (fun _ => 0)
      case atStart => rfl
      case round =>
        obtain rfl := hrel
        go_wp2_with fail
        go_ret
        exact ⟨rfl, rfl⟩

set_option maxRecDepth 100000 in
set_option maxHeartbeats 4000000 in
theorem ownNil_67 (w : World) : Calls Tryz.prog 67 #[.slice none 0 0] w fun e w' => e = .returned (.bool true) ∧ w' = w := by
  go_enter Tryz.func67, Tryz.ntmps67
  go_wp2_with fail
  go_loop [3] (fun s => s = .int .i64 0) (fun _ => 0)
  case atStart => rfl
  case round =>
    obtain rfl := hrel
    go_wp2_with fail
    go_loop [6] (fun s => s = .int .i64 0) (fun _ => 0)
    case atStart => rfl
    case round =>
      obtain rfl := hrel
      go_wp2_with fail
      go_loop [9] (fun s => s = .int .i64 0) (fun _ => 0)
      case atStart => rfl
      case round =>
        obtain rfl := hrel
        go_wp2_with fail
        go_ret
        exact ⟨rfl, rfl⟩

set_option maxRecDepth 100000 in
set_option maxHeartbeats 4000000 in
theorem ownNil_68 (w : World) : Calls Tryz.prog 68 #[.slice none 0 0] w fun e w' => e = .returned (.bool true) ∧ w' = w := by
  go_enter Tryz.func68, Tryz.ntmps68
  go_wp2_with fail
  go_loop [3] (fun s => s = .int .i64 0) (fun _ => 0)
  case atStart => rfl
  case round =>
    obtain rfl := hrel
    go_wp2_with fail
    go_loop [6] (fun s => s = .int .i64 0) (fun _ => 0)
    case atStart => rfl
    case round =>
      obtain rfl := hrel
      go_wp2_with fail
      go_loop [9] (fun s => s = .int .i64 0) (fun _ => 0)
      case atStart => rfl
      case round =>
        obtain rfl := hrel
        go_wp2_with fail
        go_ret
        exact ⟨rfl, rfl⟩

set_option maxRecDepth 100000 in
set_option maxHeartbeats 4000000 in
theorem ownNil_69 (w : World) : Calls Tryz.prog 69 #[.slice none 0 0] w fun e w' => e = .returned (.bool true) ∧ w' = w := by
  go_enter Tryz.func69, Tryz.ntmps69
  go_wp2_with fail
  go_loop [3] (fun s => s = .int .i64 0) (fun _ => 0)
  case atStart => rfl
  case round =>
    obtain rfl := hrel
    go_wp2_with fail
    go_loop [6] (fun s => s = .int .i64 0) (fun _ => 0)
    case atStart => rfl
    case round =>
      obtain rfl := hrel
      go_wp2_with fail
      go_loop [9] (fun s => s = .int .i64 0) (fun _ => 0)
      case atStart => rfl
      case round =>
        obtain rfl := hrel
        go_wp2_with fail
        go_ret
        exact ⟨rfl, rfl⟩

set_option maxRecDepth 100000 in
set_option maxHeartbeats 4000000 in
theorem ownNil_70 (w : World) : Calls Tryz.prog 70 #[.slice none 0 0] w fun e w' => e = .returned (.bool true) ∧ w' = w := by
  go_enter Tryz.func70, Tryz.ntmps70
  go_wp2_with fail
  go_loop [3] (fun s => s = .int .i64 0) (fun _ => 0)
  case atStart => rfl
  case round =>
    obtain rfl := hrel
    go_wp2_with fail
    go_loop [6] (fun s => s = .int .i64 0) (fun _ => 0)
    case atStart => rfl
    case round =>
      obtain rfl := hrel
      go_wp2_with fail
      go_loop [9] (fun s => s = .int .i64 0) (fun _ => 0)
      case atStart => rfl
      case round =>
        obtain rfl := hrel
        go_wp2_with fail
        go_ret
        exact ⟨rfl, rfl⟩

end Go.Proofs.YtolikaginhjbhaaGreatDoor
/- Book.Own 30: what a book holds. -/
namespace Go.Proofs.YtolikaginhjbhaaGreatDoor
open Go.RowKit Go.Pen

/-- a list of lists, each its own: e, sz: of what the lists are; tl: the lists' own type -/
structure BkList (e sz tl base : Nat) (w : World) (ov : Value) (n : Nat) (v : Nat → Value) (ln : Nat → Nat) : Prop where
  outer : w.ownsRow base tl 1 ov n ((List.range n).map v)
  nil : n = 0 → ov = .slice none 0 0
  own : ∀ i, i < n → ∃ xs, w.ownsRow base e sz (v i) (ln i) xs
  apart : Apart n v
  cnt : n ≤ 1000000000
  lens : ∀ i, i < n → ln i ≤ 1000000

theorem BkList.frame {e sz tl base : Nat} {w w' : World} {ov : Value} {n : Nat} {v : Nat → Value} {ln : Nat → Nat} (h : BkList e sz tl base w ov n v ln)
    (hf : ∀ (g : Nat) (cur : Array Value) (t : TypeId), w.heap[g]? = some (.cells cur t (0, 0)) → (t = e ∨ t = tl) → w'.heap[g]? = w.heap[g]?) : BkList e sz tl base w' ov n v ln := by
  refine ⟨ownsRow_frame h.outer fun g hg => ?_, h.nil, fun i hi => ?_, h.apart, h.cnt, h.lens⟩
  · obtain ⟨-, -, cur, hc⟩ := ownsRow_block h.outer hg
    exact hf g cur _ hc (.inr rfl)
  · obtain ⟨xs, ho⟩ := h.own i hi
    refine ⟨xs, ownsRow_frame ho fun g hg => ?_⟩
    obtain ⟨-, -, cur, hc⟩ := ownsRow_block ho hg
    exact hf g cur _ hc (.inl rfl)

/-- the lists' blocks -/
theorem BkList.block {e sz tl base : Nat} {w : World} {ov : Value} {n : Nat} {v : Nat → Value} {ln : Nat → Nat} (h : BkList e sz tl base w ov n v ln) {g : Nat} (hg : SV n v g) : base ≤ g ∧ ∃ cur : Array Value, w.heap[g]? = some (.cells cur e (0, 0)) := by
  obtain ⟨i, hi, hv⟩ := hg
  obtain ⟨xs, ho⟩ := h.own i hi
  obtain ⟨h1, -, h2⟩ := ownsRow_block ho hv
  exact ⟨h1, h2⟩

/-- nothing of another type turns -/
theorem only_type {S : Nat → Prop} {w w' : World} (h : Only S w w') {e : TypeId} (hS : ∀ g, S g → ∃ cur : Array Value, w.heap[g]? = some (.cells cur e (0, 0))) {g : Nat} {cur : Array Value} {t : TypeId} (hg : w.heap[g]? = some (.cells cur t (0, 0))) (ht : t ≠ e) : w'.heap[g]? = w.heap[g]? :=
  h.block g (lt_of_heap hg) fun hs => by
    obtain ⟨cur', hc⟩ := hS g hs
    exact type_ne hg hc ht rfl

theorem only_below {S : Nat → Prop} {w w' : World} (h : Only S w w') {b : Nat} (hb : b ≤ w.heap.size) (hS : ∀ g, S g → b ≤ g) : Below b w w' :=
  ⟨h.os, h.tape, h.output, h.size, fun g hg => h.block g (by omega) fun hs => by have := hS g hs; omega⟩

theorem ownI {base : Nat} {w : World} {ov : Value} {n : Nat} {v : Nat → Value} {ln : Nat → Nat} (h : BkList 3 1 44 base w ov n v ln) : Calls Tryz.prog 59 #[ov] w fun e w' => e = .returned (.bool true) ∧ Only (SV n v) w w' := by
  rcases Nat.eq_zero_or_pos n with h0 | h0
  · rw [h.nil h0]
    refine (ownNil_59 w).mono ?_
    rintro e w' ⟨rfl, rfl⟩
    exact ⟨rfl, Only.refl _ _⟩
  · obtain ⟨ob, oc, rfl⟩ : ∃ ob oc, ov = .slice (some ⟨ob, 0, none⟩) n oc := by
      rcases h.outer.2 with ⟨-, h1⟩ | ⟨g, cap, cur, h1, -⟩
      · omega
      · exact ⟨g, cap, h1⟩
    have hc := ownsRow_heap h.outer
    refine ownInts_59 n v ln ob oc w h.cnt h.lens h.apart (fun i hi => ?_) hc.1 (fun i hi => hc.2.2.2 i _ (by rw [List.getElem?_map, List.getElem?_range hi]; rfl)) (fun i hi e => ?_)
    · obtain ⟨xs, ho⟩ := h.own i hi
      exact ⟨xs, ownsRow_lower ho (Nat.zero_le _)⟩
    · obtain ⟨-, cur, h1⟩ := h.block ⟨i, hi, e⟩
      obtain ⟨-, -, cur', h2⟩ := ownsRow_block h.outer (g := ob) rfl
      exact type_ne h1 h2 (by decide) rfl

theorem ownX {base : Nat} {w : World} {ov : Value} {n : Nat} {v : Nat → Value} {ln : Nat → Nat} (h : BkList 27 7 22 base w ov n v ln) : Calls Tryz.prog 69 #[ov] w fun e w' => e = .returned (.bool true) ∧ Only (SV n v) w w' := by
  rcases Nat.eq_zero_or_pos n with h0 | h0
  · rw [h.nil h0]
    refine (ownNil_69 w).mono ?_
    rintro e w' ⟨rfl, rfl⟩
    exact ⟨rfl, Only.refl _ _⟩
  · obtain ⟨ob, oc, rfl⟩ : ∃ ob oc, ov = .slice (some ⟨ob, 0, none⟩) n oc := by
      rcases h.outer.2 with ⟨-, h1⟩ | ⟨g, cap, cur, h1, -⟩
      · omega
      · exact ⟨g, cap, h1⟩
    have hc := ownsRow_heap h.outer
    refine ownExprs_69 n v ln ob oc w h.cnt h.lens h.apart (fun i hi => ?_) hc.1 (fun i hi => hc.2.2.2 i _ (by rw [List.getElem?_map, List.getElem?_range hi]; rfl)) (fun i hi e => ?_)
    · obtain ⟨xs, ho⟩ := h.own i hi
      exact ⟨xs, ownsRow_lower ho (Nat.zero_le _)⟩
    · obtain ⟨-, cur, h1⟩ := h.block ⟨i, hi, e⟩
      obtain ⟨-, -, cur', h2⟩ := ownsRow_block h.outer (g := ob) rfl
      exact type_ne h1 h2 (by decide) rfl

/-- a book's cells -/
def bookCells (v2 v12 : Value) : Array Value := #[.slice none 0 0, .slice none 0 0, v2, .slice none 0 0, .slice none 0 0, .slice none 0 0, .slice none 0 0, .slice none 0 0, .slice none 0 0, .slice none 0 0, .slice none 0 0, .slice none 0 0, v12, .slice none 0 0]
theorem book_at {w : World} {B : Nat} {v2 v12 : Value} (h : w.heap[B]? = some (.cells (bookCells v2 v12) 73 (0, 0))) (i : Nat) (x : Value) (hx : (bookCells v2 v12)[i]? = some x) : w.cell? ⟨B, i, none⟩ = some x := cell_of_heap h hx

set_option maxRecDepth 100000 in
set_option maxHeartbeats 4000000 in
theorem own_30 (B base : Nat) (v2 v12 : Value) (n2 n12 : Nat) (f2 f12 : Nat → Value) (l2 l12 : Nat → Nat) (w : World) (hB : w.heap[B]? = some (.cells (bookCells v2 v12) 73 (0, 0))) (hbase : base ≤ w.heap.size)
    (h2 : BkList 3 1 44 base w v2 n2 f2 l2) (h12 : BkList 27 7 22 base w v12 n12 f12 l12) :
    Calls Tryz.prog 30 #[.pointer (some ⟨B, 0, none⟩)] w fun e w' => e = .returned (.bool true) ∧ Below base w w' := by
  have H2 := Lib.hid h2
  have H12 := Lib.hid h12
  have HB := Lib.hid hB
  have c0 := book_at hB 0 _ rfl
  have c1 := book_at hB 1 _ rfl
  have c2 := book_at hB 2 _ rfl
  clear h2 h12 hB
  go_enter Tryz.func30, Tryz.ntmps30
  go_wp2_with fail
  refine (ownNil_57 _).mono ?_
  rintro _ wx ⟨rfl, hw⟩; rw [hw]; clear hw
  go_wp2_with fail
  refine (ownNil_58 _).mono ?_
  rintro _ wx ⟨rfl, hw⟩; rw [hw]; clear hw
  go_wp2_with fail
  refine (ownI H2.out).mono ?_
  rintro _ w1 ⟨rfl, ho1⟩
  have k1 : ∀ {g : Nat} {cur : Array Value} {t : TypeId}, w.heap[g]? = some (.cells cur t (0, 0)) → t ≠ 3 → w1.heap[g]? = w.heap[g]? := fun hg ht => only_type ho1 (fun g hs => (H2.out.block hs).2) hg ht
  have hB1 : w1.heap[B]? = some (.cells (bookCells v2 v12) 73 (0, 0)) := (k1 HB.out (by decide)).trans HB.out
  have H121 := Lib.hid (H12.out.frame (w' := w1) fun g cur t hg ht => k1 hg (by rcases ht with rfl | rfl <;> decide))
  have HL1 := Lib.hid (only_below ho1 hbase (fun g hs => (H2.out.block hs).1))
  have d3 := book_at hB1 3 _ rfl
  have d4 := book_at hB1 4 _ rfl
  have d5 := book_at hB1 5 _ rfl
  have d6 := book_at hB1 6 _ rfl
  have d7 := book_at hB1 7 _ rfl
  have d8 := book_at hB1 8 _ rfl
  have d9 := book_at hB1 9 _ rfl
  have d10 := book_at hB1 10 _ rfl
  have d11 := book_at hB1 11 _ rfl
  have d12 := book_at hB1 12 _ rfl
  have HB1 := Lib.hid hB1
  clear c0 c1 c2 ho1 k1 hB1
  go_wp2_with fail
  refine (ownNil_60 _).mono ?_
  rintro _ wx ⟨rfl, hw⟩; rw [hw]; clear hw
  go_wp2_with fail
  refine (ownNil_61 _).mono ?_
  rintro _ wx ⟨rfl, hw⟩; rw [hw]; clear hw
  go_wp2_with fail
  refine (ownNil_62 _).mono ?_
  rintro _ wx ⟨rfl, hw⟩; rw [hw]; clear hw
  go_wp2_with fail
  refine (ownNil_63 _).mono ?_
  rintro _ wx ⟨rfl, hw⟩; rw [hw]; clear hw
  go_wp2_with fail
  refine (ownNil_64 _).mono ?_
  rintro _ wx ⟨rfl, hw⟩; rw [hw]; clear hw
  go_wp2_with fail
  refine (ownNil_65 _).mono ?_
  rintro _ wx ⟨rfl, hw⟩; rw [hw]; clear hw
  go_wp2_with fail
  refine (ownNil_66 _).mono ?_
  rintro _ wx ⟨rfl, hw⟩; rw [hw]; clear hw
  go_wp2_with fail
  refine (ownNil_67 _).mono ?_
  rintro _ wx ⟨rfl, hw⟩; rw [hw]; clear hw
  go_wp2_with fail
  refine (ownNil_68 _).mono ?_
  rintro _ wx ⟨rfl, hw⟩; rw [hw]; clear hw
  go_wp2_with fail
  refine (ownX H121.out).mono ?_
  rintro _ w3 ⟨rfl, ho3⟩
  have hB3 : w3.heap[B]? = some (.cells (bookCells v2 v12) 73 (0, 0)) := (only_type ho3 (fun g hs => (H121.out.block hs).2) HB1.out (by decide)).trans HB1.out
  have HL3 := Lib.hid (HL1.out.trans (only_below ho3 (by have := HL1.out.size; omega) (fun g hs => (H121.out.block hs).1)))
  have e13 := book_at hB3 13 _ rfl
  clear d3 d4 d5 d6 d7 d8 d9 d10 d11 d12 ho3 hB3
  go_wp2_with fail
  refine (ownNil_70 _).mono ?_
  rintro _ wx ⟨rfl, hw⟩; rw [hw]; clear hw
  go_wp2_with fail
  go_ret
  exact ⟨rfl, HL3.out⟩
end Go.Proofs.YtolikaginhjbhaaGreatDoor
/- Book.Ints 28: lists laid into a book. -/
namespace Go.Proofs.YtolikaginhjbhaaGreatDoor
open Go.RowKit Go.Pen

/-- one more list -/
def snoc (n : Nat) (f : Nat → Value) (x : Value) : Nat → Value := fun j => if j = n then x else f j
def snocL (n : Nat) (f : Nat → Nat) (x : Nat) : Nat → Nat := fun j => if j = n then x else f j

theorem snoc_map (n : Nat) (f : Nat → Value) (x : Value) : (List.range (n + 1)).map (snoc n f x) = (List.range n).map f ++ [x] := by
  rw [List.range_succ, List.map_append]
  congr 1
  · refine List.map_congr_left fun j hj => ?_
    have := List.mem_range.1 hj
    unfold snoc; rw [if_neg (by omega)]
  · simp [snoc]

theorem BkList.snoc {e sz tl base : Nat} {w w' : World} {ov ov' x : Value} {n L : Nat} {v : Nat → Value} {ln : Nat → Nat} {xs : List Value} (h : BkList e sz tl base w ov n v ln) (hx : w.ownsRow base e sz x L xs) (hL : L ≤ 1000000) (hn : n + 1 ≤ 1000000000)
    (hne : ∀ i, i < n → ∀ g, (v i).ownBlock = some g → x.ownBlock ≠ some g) (hf : ∀ (g : Nat) (cur : Array Value), w.heap[g]? = some (.cells cur e (0, 0)) → w'.heap[g]? = w.heap[g]?)
    (ho : w'.ownsRow base tl 1 ov' (n + 1) ((List.range n).map v ++ [x])) : BkList e sz tl base w' ov' (n + 1) (Go.Proofs.YtolikaginhjbhaaGreatDoor.snoc n v x) (snocL n ln L) := by
  have fr : ∀ {y : Value} {l : Nat} {ys : List Value}, w.ownsRow base e sz y l ys → w'.ownsRow base e sz y l ys := fun h => ownsRow_frame h fun g hg => by
    obtain ⟨-, -, cur, hc⟩ := ownsRow_block h hg
    exact hf g cur hc
  refine ⟨by rw [snoc_map]; exact ho, fun h0 => by omega, fun i hi => ?_, fun i j g hi hj h1 h2 => ?_, hn, fun i hi => ?_⟩
  · unfold Go.Proofs.YtolikaginhjbhaaGreatDoor.snoc snocL
    by_cases e : i = n
    · rw [if_pos e, if_pos e]; exact ⟨xs, fr hx⟩
    · rw [if_neg e, if_neg e]
      obtain ⟨ys, hy⟩ := h.own i (by omega)
      exact ⟨ys, fr hy⟩
  · unfold Go.Proofs.YtolikaginhjbhaaGreatDoor.snoc at h1 h2
    by_cases e1 : i = n <;> by_cases e2 : j = n
    · omega
    · rw [if_pos e1] at h1; rw [if_neg e2] at h2
      exact absurd h1 (hne j (by omega) g h2)
    · rw [if_neg e1] at h1; rw [if_pos e2] at h2
      exact absurd h2 (hne i (by omega) g h1)
    · rw [if_neg e1] at h1; rw [if_neg e2] at h2
      exact h.apart i j g (by omega) (by omega) h1 h2
  · unfold snocL
    by_cases e : i = n
    · rw [if_pos e]; exact hL
    · rw [if_neg e]; exact h.lens i (by omega)

theorem BkList.slice {e sz tl base : Nat} {w : World} {ov : Value} {n : Nat} {v : Nat → Value} {ln : Nat → Nat} (h : BkList e sz tl base w ov n v ln) : ∃ a c, ov = .slice a n c := ownsRow_slice h.outer

set_option maxRecDepth 100000 in
set_option maxHeartbeats 4000000 in
theorem ints_28 (B base : Nat) (v2 v12 x : Value) (n L : Nat) (f : Nat → Value) (l : Nat → Nat) (xs : List Value) (w : World) (hB : w.heap[B]? = some (.cells (bookCells v2 v12) 73 (0, 0))) (hbase : base ≤ w.heap.size)
    (h3 : BkList 3 1 44 base w v2 n f l) (hx : w.ownsRow base 3 1 x L xs) (hL : L ≤ 1000000) (hn : n + 1 ≤ 1000000000) (hne : ∀ i, i < n → ∀ g, (f i).ownBlock = some g → x.ownBlock ≠ some g) :
    Calls Tryz.prog 28 #[.pointer (some ⟨B, 0, none⟩), x] w fun e w' => e = .returned (.tuple #[]) ∧ ∃ v2', w'.heap[B]? = some (.cells (bookCells v2' v12) 73 (0, 0)) ∧ BkList 3 1 44 base w' v2' (n + 1) (snoc n f x) (snocL n l L) ∧ Only (fun g => g = B ∨ v2.ownBlock = some g) w w' := by
  obtain ⟨i0, hi, hz0, hz1, hz2⟩ := info_parts info44L
  obtain ⟨a, c, rfl⟩ := h3.slice
  obtain ⟨xa, xc, rfl⟩ := ownsRow_slice hx
  have c3 := book_at hB 2 _ rfl
  have H3 := Lib.hid h3
  have HB := Lib.hid hB
  have HX := Lib.hid hx
  have HNE := Lib.hid hne
  clear h3 hB hx hne
  go_enter Tryz.func28, Tryz.ntmps28
  go_wp2_with (at_builtin; go_must (refine wpList_append_own _ rfl _ _ 60 rfl base 44 i0 (.slice none 0 0) 1 24 Tryz.underlying60 hi hz0 hz1 hz2 rfl (by decide) (.slice a n c) n ((List.range n).map f) rfl (H3.out.outer.alloc _) ⟨w.heap.size, 0, none⟩ 1 1 [.slice xa L xc] rfl rfl ?c1 ?c2 ?c3 ?c4 ?c5 ?_))
  case c1 =>
    intro j u hj
    rw [add_lit, Nat.zero_add]
    exact cell_of_heap (heap_alloc_new w _) (by rw [List.getElem?_toArray]; exact hj)
  case c2 => intro u hu; simp at hu; subst hu; rfl
  case c3 => unfold maxLen; omega
  case c4 => omega
  case c5 => simp; omega
  intro v' w2 hown' hgrow _
  obtain ⟨a', c', rfl⟩ := ownsRow_slice hown'
  have hBl := lt_of_heap HB.out
  have hBne : (Value.slice a n c).ownBlock ≠ some B := fun e => by
    obtain ⟨-, -, cur, hc⟩ := ownsRow_block H3.out.outer e
    exact type_ne hc HB.out (by decide) rfl
  have hB2 : w2.heap[B]? = some (.cells (bookCells (.slice a n c) v12) 73 (0, 0)) := by
    rw [hgrow.block B (by simp; omega) (fun e => hBne e.symm), Below.heap_alloc w _ B hBl]; exact HB.out
  have c3' : w2.cell? ⟨B, 2, none⟩ = some (.slice a n c) := book_at hB2 2 _ rfl
  have f3' : w2.frozen? ⟨B, 2, none⟩ = false := frozen_of_heap hB2
  have HB2 := Lib.hid hB2
  have ho2 : Only (fun g => g = B ∨ (Value.slice a n c).ownBlock = some g) w w2 := Only.grown (Only.of_below ((Below.refl _ _).alloc (Nat.le_refl _) _)) hgrow fun g hg => .inl (.inr hg)
  have hf2 : ∀ (g : Nat) (cur : Array Value), w.heap[g]? = some (.cells cur 3 (0, 0)) → w2.heap[g]? = w.heap[g]? := fun g cur hg => ho2.block g (lt_of_heap hg) fun hs => by
    rcases hs with rfl | hs
    · exact type_ne hg HB.out (by decide) rfl
    · obtain ⟨-, -, cur', hc⟩ := ownsRow_block H3.out.outer hs
      exact type_ne hg hc (by decide) rfl
  have HO2 := Lib.hid ho2
  have HF2 := Lib.hid hf2
  have HOW := Lib.hid hown'
  clear c3 hown' hgrow hB2 ho2 hf2 hBne
  go_wp2_with fail

  go_end0
  refine ⟨rfl, .slice a' (n + 1) c', ?h1, ?h2, ?h3⟩
  case h3 => exact HO2.out.set (.inl rfl)
  case h1 => exact heap_set_same HB2.out
  case h2 =>
    have hne26 : ∀ (g : Nat) (cur : Array Value), w2.heap[g]? = some (.cells cur 44 (0, 0)) → g ≠ B := fun g cur hg => type_ne hg HB2.out (by decide)
    refine H3.out.snoc (xs := xs) HX.out hL hn HNE.out (fun g cur hg => ?_) (ownsRow_frame HOW.out fun g hg => ?_)
    · rw [heap_set_ne (type_ne hg HB.out (by decide))]; exact HF2.out g cur hg
    · obtain ⟨-, -, cur, hc⟩ := ownsRow_block HOW.out hg
      exact heap_set_ne (hne26 g cur hc)

end Go.Proofs.YtolikaginhjbhaaGreatDoor
/- SpoilInts 26: what was lent is written over; nothing else turns. -/
namespace Go.Proofs.YtolikaginhjbhaaGreatDoor
open Go.RowKit Go.Pen
attribute [local go_sem ↓] Go.wp_at_zero Go.wp_at_succ

/-- a block of a type and a size -/
def Shape (w : World) (g : Nat) (T : TypeId) (sz : Nat) : Prop := ∃ cur : Array Value, w.heap[g]? = some (.cells cur T (0, 0)) ∧ cur.size = sz

theorem Shape.set {w : World} {g k o : Nat} {T : TypeId} {sz : Nat} {x : Value} (h : Shape w g T sz) : Shape (w.setCell ⟨k, o, none⟩ x) g T sz := by
  obtain ⟨cur, h1, h2⟩ := h
  by_cases e : g = k
  · subst e
    exact ⟨_, heap_set_same h1, by simpa using h2⟩
  · exact ⟨cur, by rw [heap_set_ne e]; exact h1, h2⟩

theorem Shape.cell {w : World} {g o : Nat} {T : TypeId} {sz : Nat} (h : Shape w g T sz) (ho : o < sz) : (∃ y, w.cell? ⟨g, o, none⟩ = some y) ∧ w.frozen? ⟨g, o, none⟩ = false := by
  obtain ⟨cur, h1, h2⟩ := h
  exact ⟨⟨cur[o]'(by omega), cell_of_heap h1 (Array.getElem?_eq_getElem _)⟩, frozen_of_heap h1⟩

/-- blocks of S alone are written over, and keep their shapes -/
def Sp (S : Nat → Prop) (w w' : World) : Prop := Only S w w' ∧ ∀ k T sz, Shape w k T sz → Shape w' k T sz

theorem Sp.refl (S : Nat → Prop) (w : World) : Sp S w w := ⟨Only.refl _ _, fun _ _ _ h => h⟩
theorem Sp.trans {S : Nat → Prop} {w w1 w2 : World} (h : Sp S w w1) (h' : Sp S w1 w2) : Sp S w w2 := ⟨h.1.trans h'.1, fun k T sz hs => h'.2 k T sz (h.2 k T sz hs)⟩
theorem Sp.set {S : Nat → Prop} {w w' : World} (h : Sp S w w') {g o : Nat} {x : Value} (hg : S g) : Sp S w (w'.setCell ⟨g, o, none⟩ x) := ⟨h.1.set hg, fun k T sz hs => (h.2 k T sz hs).set⟩
theorem Only.wide {S S' : Nat → Prop} {w w' : World} (h : Only S w w') (hs : ∀ k, S k → S' k) : Only S' w w' := ⟨h.os, h.tape, h.output, h.size, fun g hg hn => h.block g hg fun e => hn (hs g e)⟩
theorem Sp.wide {S S' : Nat → Prop} {w w' : World} (h : Sp S w w') (hs : ∀ k, S k → S' k) : Sp S' w w' := ⟨h.1.wide hs, h.2⟩

set_option maxRecDepth 100000 in
set_option maxHeartbeats 2000000 in
theorem spoil_26 (g n c : Nat) (w : World) (hg : Shape w g 3 c) (hn : n ≤ c) (hc : c ≤ 1152921504606846976) :
    Calls Tryz.prog 26 #[.slice (some ⟨g, 0, none⟩) n c] w fun e w' => e = .returned (.tuple #[]) ∧ Sp (fun k => k = g) w w' := by
  have HG := Lib.hid hg
  clear hg
  go_enter Tryz.func26, Tryz.ntmps26
  go_wp2_with fail
  go_loopw [3] (fun i wr => ∃ k : Nat, k ≤ c ∧ i = .int .i64 k ∧ Sp (fun k => k = g) w wr) (fun i _ => c - (intOf i).toNat)
  case atStart => exact ⟨0, Nat.zero_le _, rfl, Sp.refl _ _⟩
  case round =>
    obtain ⟨k, hk, rfl, hsp⟩ := hrel
    by_cases hlt : k < c
    · obtain ⟨⟨y, hy⟩, hf⟩ := (hsp.2 g 3 c HG.out).cell hlt
      have HS := Lib.hid hsp
      clear hsp
      go_wp2
      go_roundw
      case rel => exact ⟨k + 1, hlt, by go_num, HS.out.set rfl⟩
      case measure => simp [intOf]; omega
    · obtain rfl : k = c := by omega
      go_wp2
      go_end0
      exact ⟨rfl, hsp⟩

end Go.Proofs.YtolikaginhjbhaaGreatDoor
/- an expression's lists, each in memory of its own. -/
namespace Go.Proofs.YtolikaginhjbhaaGreatDoor
open Go.RowKit Go.Pen

mutual
/-- a list of parts in a row of its own, the lists within too; vs: the lists and how long they are, the inner ones ahead (as Book.Exprs goes) -/
def ET.Lay (w : World) : ET → Value → List (Value × Nat) → Prop
  | .mk _ _ _ ks, v, vs => ∃ us, ET.Lays w ks v 0 us ∧ vs = us ++ [(v, ks.length)] ∧ ∃ xs, w.ownsRow 0 27 7 v ks.length xs
def ET.Lays (w : World) : List ET → Value → Nat → List (Value × Nat) → Prop
  | [], _, _, us => us = []
  | k :: ks, v, i, us => ∃ b kv u1 u2, v.ownBlock = some b ∧ KidCells w b (i * 7) k kv ∧ ET.Lay w k kv u1 ∧ ET.Lays w ks v (i + 1) u2 ∧ us = u1 ++ u2
end

/-- the lists' blocks are pairwise others -/
def ApartL (vs : List (Value × Nat)) : Prop := vs.Pairwise fun p q => ∀ g, p.1.ownBlock = some g → q.1.ownBlock ≠ some g
/-- the lists' blocks -/
def BlkL (vs : List (Value × Nat)) (g : Nat) : Prop := ∃ p ∈ vs, p.1.ownBlock = some g

mutual
theorem ET.Lay.frame {w w' : World} : ∀ {e : ET} {v : Value} {vs : List (Value × Nat)}, e.Lay w v vs → (∀ g, BlkL vs g → g < w.heap.size → w'.heap[g]? = w.heap[g]?) → e.Lay w' v vs
  | .mk o c d ks, v, vs, h, hf => by
    simp only [ET.Lay] at h ⊢
    obtain ⟨us, h1, rfl, xs, h2⟩ := h
    exact ⟨us, ET.Lays.frame h1 (fun g hg => hf g (by obtain ⟨p, hp, hg⟩ := hg; exact ⟨p, by simp [hp], hg⟩)) (fun g hg => hf g ⟨(v, ks.length), by simp, hg⟩), rfl, xs, ownsRow_frame h2 fun g hg => hf g ⟨(v, ks.length), by simp, hg⟩ (h2.lt g hg).2⟩
theorem ET.Lays.frame {w w' : World} : ∀ {ks : List ET} {v : Value} {i : Nat} {us : List (Value × Nat)}, ET.Lays w ks v i us → (∀ g, BlkL us g → g < w.heap.size → w'.heap[g]? = w.heap[g]?) → (∀ g, v.ownBlock = some g → g < w.heap.size → w'.heap[g]? = w.heap[g]?) → ET.Lays w' ks v i us
  | [], _, _, _, h, _, _ => by simpa only [ET.Lays] using h
  | k :: ks, v, i, us, h, hf, hv => by
    simp only [ET.Lays] at h ⊢
    obtain ⟨b, kv, u1, u2, q0, q1, q2, q3, rfl⟩ := h
    exact ⟨b, kv, u1, u2, q0, q1.frame fun hl => hv b q0 hl, ET.Lay.frame q2 (fun g hg => hf g (by obtain ⟨p, hp, hg⟩ := hg; exact ⟨p, by simp [hp], hg⟩)), ET.Lays.frame q3 (fun g hg => hf g (by obtain ⟨p, hp, hg⟩ := hg; exact ⟨p, by simp [hp], hg⟩)) hv, rfl⟩
end
end Go.Proofs.YtolikaginhjbhaaGreatDoor
/- an expression's lists: what stays when a list's earlier cells are written over. -/
namespace Go.Proofs.YtolikaginhjbhaaGreatDoor
open Go.RowKit Go.Pen

theorem KidCells.set {w : World} {b q o : Nat} {k : ET} {kv x : Value} (h : KidCells w b q k kv) (ho : o < q) : KidCells (w.setCell ⟨b, o, none⟩ x) b q k kv := by
  obtain ⟨h0, h1, h2, h3, h4, h5, h6⟩ := h
  refine ⟨?_, ?_, ?_, ?_, ?_, ?_, ?_⟩
  · rw [cell_set_off (by omega)]; exact h0
  · rw [cell_set_off (by omega)]; exact h1
  · rw [cell_set_off (by omega)]; exact h2
  · rw [cell_set_off (by omega)]; exact h3
  · rw [cell_set_off (by omega)]; exact h4
  · rw [cell_set_off (by omega)]; exact h5
  · rw [cell_set_off (by omega)]; exact h6

theorem ET.Lays.set {w : World} {b o : Nat} {x : Value} : ∀ {ks : List ET} {v : Value} {i : Nat} {us : List (Value × Nat)}, ET.Lays w ks v i us → v.ownBlock = some b → o < i * 7 → (∀ p ∈ us, p.1.ownBlock ≠ some b) → ET.Lays (w.setCell ⟨b, o, none⟩ x) ks v i us
  | [], _, _, _, h, _, _, _ => by simpa only [ET.Lays] using h
  | k :: ks, v, i, us, h, hv, ho, hn => by
    simp only [ET.Lays] at h ⊢
    obtain ⟨b', kv, u1, u2, q0, q1, q2, q3, rfl⟩ := h
    rw [hv] at q0
    cases q0
    refine ⟨b, kv, u1, u2, hv, q1.set ho, q2.frame fun g hg _ => ?_, ET.Lays.set q3 hv (by omega) (fun p hp => hn p (by simp [hp])), rfl⟩
    obtain ⟨p, hp, hg⟩ := hg
    exact heap_set_ne fun e => hn p (by simp [hp]) (by rw [hg, e])
end Go.Proofs.YtolikaginhjbhaaGreatDoor
/- SpoilExprs 25: an expression's lists are written over; nothing else turns. -/
namespace Go.Proofs.YtolikaginhjbhaaGreatDoor
open Go.RowKit Go.Pen
attribute [local go_sem ↓] Go.wp_at_zero Go.wp_at_succ

def Spoils (e : ET) : Prop := ∀ (v : Value) (vs : List (Value × Nat)) (w : World), e.Lay w v vs → ApartL vs →
  Calls Tryz.prog 25 #[v] w fun ev w' => ev = .returned (.tuple #[]) ∧ Only (BlkL vs) w w'

theorem Shape.only {S : Nat → Prop} {w w' : World} {g : Nat} {T : TypeId} {sz : Nat} (h : Shape w g T sz) (ho : Only S w w') (hn : ¬ S g) : Shape w' g T sz := by
  obtain ⟨cur, h1, h2⟩ := h
  exact ⟨cur, (ho.block g (lt_of_heap h1) hn).trans h1, h2⟩

theorem ET.Lay.slice {w : World} {v : Value} {vs : List (Value × Nat)} : ∀ {e : ET}, e.Lay w v vs → ∃ a n c, v = .slice a n c
  | .mk _ _ _ _, h => by
    simp only [ET.Lay] at h
    obtain ⟨us, -, -, xs, how⟩ := h
    obtain ⟨a, c, rfl⟩ := ownsRow_slice how
    exact ⟨_, _, _, rfl⟩

set_option maxRecDepth 100000 in
set_option maxHeartbeats 4000000 in
theorem spoil_25 : ∀ e : ET, Spoils e := by
  refine ET.ind fun o c d ks ih v vs w hlay hap => ?_
  simp only [ET.Lay] at hlay
  obtain ⟨us, hls, rfl, xs, how⟩ := hlay
  obtain ⟨a, cc, rfl⟩ := ownsRow_slice how
  obtain ⟨n, en⟩ : ∃ n, n = ks.length := ⟨_, rfl⟩
  rw [← en] at hls how hap ⊢
  have hshape : n = 0 ∨ ∃ b, a = some ⟨b, 0, none⟩ ∧ Shape w b 27 (cc * 7) ∧ n ≤ cc ∧ cc ≤ maxLen := by
    rcases how.2 with ⟨-, h0⟩ | ⟨g, cap, cur, hv, -, hg, h1, h2, h3, -⟩
    · exact .inl h0
    · cases hv; exact .inr ⟨g, rfl, ⟨cur, hg, h3⟩, h1, h2⟩
  have hus : ∀ p ∈ us, ∀ g, a = some ⟨g, 0, none⟩ → p.1.ownBlock ≠ some g := fun p hp g hg e => by
    have := (List.pairwise_append.1 hap).2.2 p hp (.slice a n cc, n) (by simp) g e
    rw [hg] at this
    exact this rfl
  have hau := (List.pairwise_append.1 hap).1
  have EN := Lib.hid en
  have IH := Lib.hid ih
  have HUS := Lib.hid hus
  clear en ih hus how hap
  rcases hshape with h0 | ⟨b, rfl, hsh, hnc, hcm⟩
  · subst h0
    go_enter Tryz.func25, Tryz.ntmps25
    go_wp2_with fail
    go_loopg [2] 0 (fun g s2 wr => g = 0 ∧ s2 = .int .i64 0 ∧ wr = w)
    case atStart => exact ⟨rfl, rfl, rfl⟩
    case round =>
      obtain ⟨-, rfl, rfl⟩ := hrel
      go_wp2_with fail
      go_end0
      exact ⟨rfl, Only.refl _ _⟩
  · have hn9 : n ≤ 9223372036854775807 := by unfold maxLen at hcm; omega
    have hl0 : ET.Lays w (ks.drop 0) (.slice (some ⟨b, 0, none⟩) n cc) 0 us := by rw [List.drop_zero]; exact hls
    have HL0 := Lib.hid hl0
    have HSH := Lib.hid hsh
    have HAU := Lib.hid hau
    clear hls hl0 hsh hau
    go_enter Tryz.func25, Tryz.ntmps25
    go_wp2_with fail
    go_loopg [2] n (fun g s2 wr => ∃ (i : Nat) (u2 : List (Value × Nat)), i ≤ n ∧ g = n - i ∧ s2 = .int .i64 i ∧ ET.Lays wr (ks.drop i) (.slice (some ⟨b, 0, none⟩) n cc) i u2 ∧ (∀ p ∈ u2, p ∈ us) ∧ ApartL u2 ∧ Shape wr b 27 (cc * 7) ∧ Only (BlkL (us ++ [(.slice (some ⟨b, 0, none⟩) n cc, n)])) w wr)
    case atStart => exact ⟨0, us, Nat.zero_le _, rfl, rfl, HL0.out, fun p hp => hp, HAU.out, HSH.out, Only.refl _ _⟩
    case round =>
      obtain ⟨i, u2, hi, hgi, rfl, hls, hsub, hap, hsh, hon⟩ := hrel
      by_cases hlt : i < n
      · have hil : i < ks.length := by rw [← EN.out]; exact hlt
        rw [List.drop_eq_getElem_cons hil] at hls
        simp only [ET.Lays] at hls
        obtain ⟨b', kv, u1, u3, q0, q1, q2, q3, rfl⟩ := hls
        cases q0
        obtain ⟨hp1, hp3, hp13⟩ := List.pairwise_append.1 hap
        have ckv := q1.2.1
        have HCALL := Lib.hid (IH.out ks[i] (List.getElem_mem hil) kv u1 wr q2 hp1)
        have hnb : ¬ BlkL u1 b := fun ⟨p, hp, hg⟩ => HUS.out p (hsub p (by simp [hp])) b rfl hg
        have hfl : ∀ w5, Only (BlkL u1) wr w5 → ET.Lays w5 (ks.drop (i + 1)) (.slice (some ⟨b, 0, none⟩) n cc) (i + 1) u3 := fun w5 h5 => q3.frame (fun g hg hgl => by
            obtain ⟨p, hp, hg⟩ := hg
            exact h5.block g hgl fun ⟨p1, hp1', hg1⟩ => hp13 p1 hp1' p hp g hg1 hg) (fun g hg hgl => by
            cases hg
            exact h5.block b hgl hnb)
        have hof : ∀ w5, Only (BlkL u1) wr w5 → Only (BlkL (us ++ [(.slice (some ⟨b, 0, none⟩) n cc, n)])) w w5 := fun w5 h5 => hon.trans (h5.wide fun g hg => by
            obtain ⟨p, hp, hg⟩ := hg
            exact ⟨p, by simp [hsub p (by simp [hp])], hg⟩)
        have hnu : ∀ p ∈ u3, p.1.ownBlock ≠ some b := fun p hp => HUS.out p (hsub p (by simp [hp])) b rfl
        have hsb : ∀ p ∈ u3, p ∈ us := fun p hp => hsub p (by simp [hp])
        have HFL := Lib.hid hfl
        have HOF := Lib.hid hof
        have HNU := Lib.hid hnu
        have HSB := Lib.hid hsb
        have HP3 := Lib.hid hp3
        have hsf : ∀ w5, Only (BlkL u1) wr w5 → Shape w5 b 27 (cc * 7) := fun w5 h5 => hsh.only h5 hnb
        have HSF := Lib.hid hsf
        have hbl : BlkL (us ++ [(.slice (some ⟨b, 0, none⟩) n cc, n)]) b := ⟨(.slice (some ⟨b, 0, none⟩) n cc, n), by simp, rfl⟩
        have HBL := Lib.hid hbl
        obtain ⟨ka, kn, kc, hkv⟩ := q2.slice
        subst hkv
        clear hfl hof hnu hsb hp3 hsf hbl hp1 hp13 q1 q2 q3 hap hsub hon hsh hnb
        go_wp2_with fail
        refine HCALL.out.mono ?_
        rintro e w5 ⟨rfl, ho5⟩
        have HS5 := Lib.hid (HSF.out w5 ho5)
        obtain ⟨⟨x0, hx0⟩, hf0⟩ := HS5.out.cell (o := i * 7) (by omega)
        obtain ⟨⟨x1, hx1⟩, hf1⟩ := HS5.out.cell (o := i * 7 + 1) (by omega)
        obtain ⟨⟨x2, hx2⟩, hf2⟩ := HS5.out.cell (o := i * 7 + 2) (by omega)
        obtain ⟨⟨x3, hx3⟩, hf3⟩ := HS5.out.cell (o := i * 7 + 3) (by omega)
        obtain ⟨⟨x4, hx4⟩, hf4⟩ := HS5.out.cell (o := i * 7 + 4) (by omega)
        obtain ⟨⟨x5, hx5⟩, hf5⟩ := HS5.out.cell (o := i * 7 + 5) (by omega)
        obtain ⟨⟨x6, hx6⟩, hf6⟩ := HS5.out.cell (o := i * 7 + 6) (by omega)
        have HL5 := Lib.hid (HFL.out w5 ho5)
        have HO5 := Lib.hid (HOF.out w5 ho5)
        clear ho5 ckv
        go_wp2_with fail
        go_roundg (n - (i + 1))
        case measure => omega
        case rel =>
          refine ⟨i + 1, u3, by omega, rfl, by go_num, ?_, HSB.out, HP3.out, HS5.out.set.set.set.set.set.set.set, (((((((HO5.out.set HBL.out).set HBL.out).set HBL.out).set HBL.out).set HBL.out).set HBL.out).set HBL.out)⟩
          exact ((((((HL5.out.set rfl (by omega) HNU.out).set rfl (by omega) HNU.out).set rfl (by omega) HNU.out).set rfl (by omega) HNU.out).set rfl (by omega) HNU.out).set rfl (by omega) HNU.out).set rfl (by omega) HNU.out
      · obtain rfl : i = n := by omega
        have HON := Lib.hid hon
        clear hls hsub hap hsh hon
        go_wp2_with fail
        go_end0
        exact ⟨rfl, HON.out⟩
end Go.Proofs.YtolikaginhjbhaaGreatDoor
/- an expression's lists: their blocks are of the parts' type; what turns where a list is laid into a book. -/
namespace Go.Proofs.YtolikaginhjbhaaGreatDoor
open Go.RowKit Go.Pen

mutual
theorem ET.Lay.typed {w : World} : ∀ {e : ET} {v : Value} {vs : List (Value × Nat)}, e.Lay w v vs → ∀ g, BlkL vs g → ∃ cur : Array Value, w.heap[g]? = some (.cells cur 27 (0, 0))
  | .mk o c d ks, v, vs, h, g, hg => by
    simp only [ET.Lay] at h
    obtain ⟨us, h1, rfl, xs, h2⟩ := h
    obtain ⟨p, hp, hg⟩ := hg
    rcases List.mem_append.1 hp with hp | hp
    · exact ET.Lays.typed h1 g ⟨p, hp, hg⟩
    · obtain rfl : p = (v, ks.length) := by simpa using hp
      exact (ownsRow_block h2 hg).2.2
theorem ET.Lays.typed {w : World} : ∀ {ks : List ET} {v : Value} {i : Nat} {us : List (Value × Nat)}, ET.Lays w ks v i us → ∀ g, BlkL us g → ∃ cur : Array Value, w.heap[g]? = some (.cells cur 27 (0, 0))
  | [], _, _, us, h, g, hg => by
    simp only [ET.Lays] at h
    subst h
    obtain ⟨p, hp, -⟩ := hg
    cases hp
  | k :: ks, v, i, us, h, g, hg => by
    simp only [ET.Lays] at h
    obtain ⟨b, kv, u1, u2, q0, q1, q2, q3, rfl⟩ := h
    obtain ⟨p, hp, hg⟩ := hg
    rcases List.mem_append.1 hp with hp | hp
    · exact ET.Lay.typed q2 g ⟨p, hp, hg⟩
    · exact ET.Lays.typed q3 g ⟨p, hp, hg⟩
end

/-- what turns where a list is laid into a book -/
def XTurn (base : Nat) (w w' : World) : Prop :=
  Below base w w' ∧ ∀ (g : Nat) (cur : Array Value) (t : TypeId), w.heap[g]? = some (.cells cur t (0, 0)) → (t ≠ 73 ∧ t ≠ 22) → w'.heap[g]? = w.heap[g]?
theorem XTurn.refl (base : Nat) (w : World) : XTurn base w w := ⟨Below.refl _ _, fun _ _ _ _ _ => rfl⟩
theorem XTurn.trans {base : Nat} {w w1 w2 : World} (h : XTurn base w w1) (h' : XTurn base w1 w2) : XTurn base w w2 :=
  ⟨h.1.trans h'.1, fun g cur t hg ht => (h'.2 g cur t ((h.2 g cur t hg ht).trans hg) ht).trans (h.2 g cur t hg ht)⟩
theorem ET.Lay.turn {base : Nat} {w w' : World} {e : ET} {v : Value} {vs : List (Value × Nat)} (h : e.Lay w v vs) (ht : XTurn base w w') : e.Lay w' v vs :=
  h.frame fun g hg _ => by
    obtain ⟨cur, hc⟩ := h.typed g hg
    exact ht.2 g cur 27 hc (by decide)
end Go.Proofs.YtolikaginhjbhaaGreatDoor
