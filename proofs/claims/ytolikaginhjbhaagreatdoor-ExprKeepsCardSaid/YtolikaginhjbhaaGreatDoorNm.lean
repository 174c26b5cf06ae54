import Derived.Test.YtolikaginhjbhaaGreatDoorNa
/- lists of their own while they come: what LentExpr and turned answer. -/
namespace Go.Proofs.YtolikaginhjbhaaGreatDoor
open Go.RowKit Go.Pen

/-- an expression's lists are each a row of its own, pairwise apart, in blocks of S -/
def ET.LayOn (S : Nat → Prop) (w : World) (e : ET) (v : Value) : Prop := ∃ vs, e.Lay w v vs ∧ ApartL vs ∧ ∀ g, BlkL vs g → S g

theorem BlkL.left {us vs : List (Value × Nat)} {g : Nat} (h : BlkL us g) : BlkL (us ++ vs) g := by
  obtain ⟨p, hp, hg⟩ := h
  exact ⟨p, by simp [hp], hg⟩
theorem BlkL.right {us vs : List (Value × Nat)} {g : Nat} (h : BlkL vs g) : BlkL (us ++ vs) g := by
  obtain ⟨p, hp, hg⟩ := h
  exact ⟨p, by simp [hp], hg⟩
theorem BlkL.or {us vs : List (Value × Nat)} {g : Nat} (h : BlkL (us ++ vs) g) : BlkL us g ∨ BlkL vs g := by
  obtain ⟨p, hp, hg⟩ := h
  rcases List.mem_append.1 hp with hp | hp
  · exact .inl ⟨p, hp, hg⟩
  · exact .inr ⟨p, hp, hg⟩
theorem BlkL.one {v : Value} {n g : Nat} (h : BlkL [(v, n)] g) : v.ownBlock = some g := by
  obtain ⟨p, hp, hg⟩ := h
  obtain rfl : p = (v, n) := by simpa using hp
  exact hg
theorem not_blkL_nil {g : Nat} : ¬ BlkL [] g := fun ⟨_, hp, _⟩ => by cases hp

theorem ET.LayOn.frame {S : Nat → Prop} {w w' : World} (hf : ∀ g, S g → g < w.heap.size → w'.heap[g]? = w.heap[g]?) {e : ET} {v : Value} (h : e.LayOn S w v) : e.LayOn S w' v := by
  obtain ⟨vs, h1, h2, h3⟩ := h
  exact ⟨vs, h1.frame fun g hg => hf g (h3 g hg), h2, h3⟩
theorem ET.LayOn.below {S : Nat → Prop} {w w' : World} {e : ET} {v : Value} (h : e.LayOn S w v) (hb : Below w.heap.size w w') : e.LayOn S w' v := h.frame fun g _ hg => hb.block g hg
theorem ET.LayOn.wide {S S' : Nat → Prop} {w : World} (hf : ∀ g, S g → S' g) {e : ET} {v : Value} (h : e.LayOn S w v) : e.LayOn S' w v := by
  obtain ⟨vs, h1, h2, h3⟩ := h
  exact ⟨vs, h1, h2, fun g hg => hf g (h3 g hg)⟩
theorem ET.LayOn.slice {S : Nat → Prop} {w : World} {v : Value} : ∀ {e : ET}, e.LayOn S w v → ∃ a c, v = .slice a e.kids.length c
  | .mk _ _ _ _, ⟨vs, h, _⟩ => by
    simp only [ET.Lay] at h
    obtain ⟨us, -, -, xs, how⟩ := h
    exact ownsRow_slice how

theorem ET.Lays.ons {S : Nat → Prop} {w : World} {v : Value} {b : Nat} (hb : v.ownBlock = some b) : ∀ {ks : List ET} {i : Nat} {us : List (Value × Nat)}, (∀ k ∈ ks, ∀ kv vs, k.Lay w kv vs → (∀ g, BlkL vs g → S g) → k.On S w kv) → ET.Lays w ks v i us → (∀ g, BlkL us g → S g) → ET.Ons S w ks b (i * 7)
  | [], _, _, _, _, _ => by simp only [ET.Ons]
  | k :: ks, i, us, hk, h, hS => by
    simp only [ET.Lays] at h
    obtain ⟨b', kv, u1, u2, q0, q1, q2, q3, rfl⟩ := h
    obtain rfl : b' = b := by rw [q0] at hb; exact Option.some.inj hb
    simp only [ET.Ons]
    refine ⟨⟨kv, q1, hk k List.mem_cons_self kv u1 q2 fun g hg => hS g hg.left⟩, ?_⟩
    have := ET.Lays.ons hb (i := i + 1) (us := u2) (fun x hx => hk x (List.mem_cons_of_mem _ hx)) q3 fun g hg => hS g hg.right
    rwa [Nat.succ_mul] at this

theorem ET.Lay.on {S : Nat → Prop} {w : World} : ∀ (e : ET) (v : Value) (vs : List (Value × Nat)), e.Lay w v vs → (∀ g, BlkL vs g → S g) → e.On S w v := by
  refine ET.ind fun o c d ks ih v vs h hS => ?_
  simp only [ET.Lay] at h
  obtain ⟨us, h1, rfl, xs, h2⟩ := h
  rw [ET.On.iff]
  simp only [ET.kids]
  rcases h2.2 with ⟨hv, h0⟩ | ⟨g, cap, cur, hv, -⟩
  · have hnil : ks = [] := List.length_eq_zero_iff.1 h0
    subst hnil
    exact ⟨none, 0, hv, fun _ => rfl, fun h => absurd rfl h⟩
  · refine ⟨some ⟨g, 0, none⟩, cap, hv, (fun h => by cases h), fun _ => ⟨g, 0, rfl, hS g ⟨(v, ks.length), by simp, by rw [hv]; rfl⟩, ?_⟩⟩
    have := ET.Lays.ons (S := S) (w := w) (v := v) (b := g) (by rw [hv]; rfl) (ks := ks) (i := 0) (us := us) (fun k hk kv vs => ih k hk kv vs) h1 fun g hg => hS g hg.left
    rwa [Nat.zero_mul] at this

theorem ET.LayOn.on {S : Nat → Prop} {w : World} {e : ET} {v : Value} (h : e.LayOn S w v) : e.On S w v := by
  obtain ⟨vs, h1, -, h3⟩ := h
  exact ET.Lay.on e v vs h1 h3
theorem ET.LayOn.at {S : Nat → Prop} {w : World} {e : ET} {v : Value} (h : e.LayOn S w v) : e.At w v := h.on.at

mutual
theorem ET.Lay.count {w : World} : ∀ {e : ET} {v : Value} {vs : List (Value × Nat)}, e.Lay w v vs → vs.length = e.size ∧ ∀ p ∈ vs, p.2 ≤ e.size
  | .mk o c d ks, v, vs, h => by
    simp only [ET.Lay] at h
    obtain ⟨us, h1, rfl, -⟩ := h
    obtain ⟨q1, q2⟩ := ET.Lays.count h1
    simp only [ET.size]
    refine ⟨by simp [q1]; omega, fun p hp => ?_⟩
    rcases List.mem_append.1 hp with hp | hp
    · have := q2 p hp; omega
    · obtain rfl : p = (v, ks.length) := by simpa using hp
      have := ET.sizes_len ks
      show ks.length ≤ _
      omega
theorem ET.Lays.count {w : World} : ∀ {ks : List ET} {v : Value} {i : Nat} {us : List (Value × Nat)}, ET.Lays w ks v i us → us.length = ET.sizes ks ∧ ∀ p ∈ us, p.2 ≤ ET.sizes ks
  | [], _, _, us, h => by
    simp only [ET.Lays] at h
    subst h
    simp [ET.sizes]
  | k :: ks, v, i, us, h => by
    simp only [ET.Lays] at h
    obtain ⟨b, kv, u1, u2, q0, q1, q2, q3, rfl⟩ := h
    obtain ⟨a1, a2⟩ := ET.Lay.count q2
    obtain ⟨b1, b2⟩ := ET.Lays.count q3
    simp only [ET.sizes]
    refine ⟨by rw [List.length_append, a1, b1], fun p hp => ?_⟩
    rcases List.mem_append.1 hp with hp | hp
    · have := a2 p hp; omega
    · have := b2 p hp; omega
end

/-- the parts in a row's values, and their lists -/
def LaysX (w : World) (xs : List Value) : List ET → Nat → List (Value × Nat) → Prop
  | [], _, us => us = []
  | k :: ks, i, us => ∃ kv u1 u2, (∀ (t : Nat) x, (k.cells kv)[t]? = some x → xs[i * 7 + t]? = some x) ∧ k.Lay w kv u1 ∧ LaysX w xs ks (i + 1) u2 ∧ us = u1 ++ u2

theorem LaysX.frame {w w' : World} {xs : List Value} : ∀ {ks : List ET} {i : Nat} {us : List (Value × Nat)}, LaysX w xs ks i us → (∀ g, BlkL us g → g < w.heap.size → w'.heap[g]? = w.heap[g]?) → LaysX w' xs ks i us
  | [], _, _, h, _ => h
  | k :: ks, i, us, h, hf => by
    obtain ⟨kv, u1, u2, q1, q2, q3, rfl⟩ := h
    exact ⟨kv, u1, u2, q1, q2.frame fun g hg => hf g hg.left, q3.frame fun g hg => hf g hg.right, rfl⟩

theorem LaysX.snoc {w : World} {k : ET} {kv : Value} {u1 : List (Value × Nat)} (hk : k.Lay w kv u1) {xs : List Value} : ∀ {ks : List ET} {i : Nat} {us : List (Value × Nat)}, LaysX w xs ks i us → xs.length = (i + ks.length) * 7 → LaysX w (xs ++ k.cells kv) (ks ++ [k]) i (us ++ u1)
  | [], i, us, h, hl => by
    have h : us = [] := h
    subst h
    refine ⟨kv, u1, [], fun t x hx => ?_, hk, rfl, by simp⟩
    simp only [List.length_nil, Nat.add_zero] at hl
    rw [List.getElem?_append_right (by omega), show i * 7 + t - xs.length = t by omega]
    exact hx
  | k' :: ks, i, us, h, hl => by
    obtain ⟨kv', v1, v2, q1, q2, q3, rfl⟩ := h
    simp only [List.length_cons] at hl
    refine ⟨kv', v1, v2 ++ u1, fun t x hx => ?_, q2, LaysX.snoc hk q3 (by omega), by simp⟩
    have ht := (List.getElem?_eq_some_iff.1 hx).1
    simp only [ET.cells, List.length_cons, List.length_nil] at ht
    rw [List.getElem?_append_left (by omega)]
    exact q1 t x hx

theorem LaysX.lays {w : World} {xs : List Value} {v : Value} {b : Nat} (hv : v.ownBlock = some b) (hc : ∀ j u, xs[j]? = some u → w.cell? ⟨b, j, none⟩ = some u) : ∀ {ks : List ET} {i : Nat} {us : List (Value × Nat)}, LaysX w xs ks i us → ET.Lays w ks v i us
  | [], _, us, h => by
    have h : us = [] := h
    simpa only [ET.Lays] using h
  | k :: ks, i, us, h => by
    obtain ⟨kv, u1, u2, q1, q2, q3, rfl⟩ := h
    simp only [ET.Lays]
    exact ⟨b, kv, u1, u2, hv, ⟨hc _ _ (q1 0 _ rfl), hc _ _ (q1 1 _ rfl), hc _ _ (q1 2 _ rfl), hc _ _ (q1 3 _ rfl), hc _ _ (q1 4 _ rfl), hc _ _ (q1 5 _ rfl), hc _ _ (q1 6 _ rfl)⟩, q2, LaysX.lays hv hc q3, rfl⟩

/-- so many parts have come; their lists are their own -/
def ElsL (ks : List ET) (w : World) (xs : List Value) (k : Nat) (v : Value) (wr : World) : Prop :=
  ∃ us, LaysX wr xs (ks.take k) 0 us ∧ ApartL us ∧ ∀ g, BlkL us g → w.heap.size ≤ g ∧ g < wr.heap.size ∧ v.ownBlock ≠ some g

theorem elsL_nil (ks : List ET) (w : World) (v : Value) (wr : World) : ElsL ks w [] 0 v wr := ⟨[], rfl, List.Pairwise.nil, fun _ h => absurd h not_blkL_nil⟩

/-- the loop's relation: so many have come -/
def LRelL (ks : List ET) (w : World) (k : Nat) (v : Value) (wr : World) : Prop :=
  ∃ xs, wr.ownsRow w.heap.size 27 7 v k xs ∧ ElsL ks w xs k v wr ∧ Below w.heap.size w wr

theorem lrelL_step {ks : List ET} {w wr w3 w4 w5 : World} {k : Nat} {v v' kv : Value} {x : ET} {xs : List Value} (hown : wr.ownsRow w.heap.size 27 7 v k xs)
    (hel : ElsL ks w xs k v wr) (hb : Below w.heap.size w wr) (hx : ks[k]? = some x)
    (h3 : Below wr.heap.size wr w3) (hat : x.LayOn (Btw wr.heap.size w3.heap.size) w3 kv) (h4 : Below w3.heap.size w3 w4) (h5 : w5.ownsRow w.heap.size 27 7 v' (k + 1) (xs ++ x.cells kv)) (hg : w4.grownBy w5 v.ownBlock) (hv' : ∀ g, v'.ownBlock = some g → v.ownBlock = some g ∨ w4.heap.size ≤ g) : LRelL ks w (k + 1) v' w5 := by
  have s3 := h3.size
  have s4 := h4.size
  have s5 := hg.size
  have sb := hb.size
  obtain ⟨us, hl, hap, hbl⟩ := hel
  obtain ⟨u1, hk, hak, hbk⟩ := hat
  have hlt : k < ks.length := (List.getElem?_eq_some_iff.1 hx).1
  refine ⟨_, h5, ⟨us ++ u1, ?_, ?_, fun g hg' => ?_⟩, ?_⟩
  · have ht : ks.take (k + 1) = ks.take k ++ [x] := by rw [List.take_add_one, hx]; rfl
    rw [ht]
    refine LaysX.snoc ?_ (hl.frame fun g hg' hgl => ?_) ?_
    · refine hk.frame fun g hg' hgl => ?_
      have := (hbk g hg').1
      exact (hg.block g (by omega) fun e => by have := (hown.lt g e.symm).2; omega).trans (h4.block g hgl)
    · obtain ⟨q1, q2, q3⟩ := hbl g hg'
      exact (hg.block g (by omega) fun e => q3 e.symm).trans ((h4.block g (by omega)).trans (h3.block g hgl))
    · rw [hown.1, Nat.zero_add, List.length_take, Nat.min_eq_left (Nat.le_of_lt hlt)]
  · refine List.pairwise_append.2 ⟨hap, hak, fun p hp q hq g h1 h2 => ?_⟩
    have := (hbl g ⟨p, hp, h1⟩).2.1
    have := (hbk g ⟨q, hq, h2⟩).1
    omega
  · rcases hg'.or with h | h
    · obtain ⟨q1, q2, q3⟩ := hbl g h
      refine ⟨q1, by omega, fun e => ?_⟩
      rcases hv' g e with e | e
      · exact q3 e
      · omega
    · obtain ⟨q1, q2⟩ := hbk g h
      refine ⟨by omega, by omega, fun e => ?_⟩
      rcases hv' g e with e | e
      · have := (hown.lt g e).2; omega
      · omega
  · exact ((hb.trans (h3.mono sb)).trans (h4.mono (by omega))).grown hg (by omega) (fun g hg' => (hown.lt g hg').1)

theorem lay_of_row {w w0 : World} {v : Value} {ks : List ET} {xs : List Value} (h : w.ownsRow w0.heap.size 27 7 v ks.length xs) (hel : ElsL ks w0 xs ks.length v w) (o c : Int) (d : Dat) : (ET.mk o c d ks).LayOn (Btw w0.heap.size w.heap.size) w v := by
  obtain ⟨us, hl, hap, hbl⟩ := hel
  rw [List.take_length] at hl
  refine ⟨us ++ [(v, ks.length)], ?_, ?_, fun g hg => ?_⟩
  · simp only [ET.Lay]
    refine ⟨us, ?_, rfl, xs, ownsRow_lower h (Nat.zero_le _)⟩
    rcases Nat.eq_zero_or_pos ks.length with h0 | h0
    · have hnil : ks = [] := List.length_eq_zero_iff.1 h0
      subst hnil
      have hl : us = [] := hl
      simpa only [ET.Lays] using hl
    · obtain ⟨g, cap, rfl, -, -⟩ := h.form h0
      exact hl.lays (b := g) rfl (ownsRow_heap h).2.2.2
  · refine List.pairwise_append.2 ⟨hap, List.pairwise_singleton _ _, fun p hp q hq g h1 h2 => ?_⟩
    obtain rfl : q = (v, ks.length) := by simpa using hq
    exact (hbl g ⟨p, hp, h1⟩).2.2 h2
  · rcases hg.or with hg | hg
    · exact ⟨(hbl g hg).1, (hbl g hg).2.1⟩
    · exact h.lt g hg.one

theorem layOn_nil (S : Nat → Prop) (w : World) (o c : Int) (d : Dat) : (ET.mk o c d []).LayOn S w (.slice none 0 0) := by
  refine ⟨[(.slice none 0 0, 0)], ?_, List.pairwise_singleton _ _, fun g hg => ?_⟩
  · simp only [ET.Lay, ET.Lays]
    exact ⟨[], rfl, rfl, [], World.ownsRow_nil _ _ _ _⟩
  · have := hg.one; cases this
end Go.Proofs.YtolikaginhjbhaaGreatDoor
