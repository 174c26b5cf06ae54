import Derived.Test.YtolikaginhjbhaaDoorP
/- The reference's turned. -/
namespace Go.Proofs.YtolikaginhjbhaaDoor
open Go.RowKit Go.Pen
attribute [local go_sem ↓] Go.wp_at_zero Go.wp_at_succ

mutual
/-- are all new columns numbers of columns? -/
def ET.tok (cols : List Int) : ET → Bool
  | .mk o c _ ks => (!decide (o = 1) || (decide (0 ≤ cols.getD c.toNat 0) && decide (cols.getD c.toNat 0 ≤ 9999))) && ET.toks cols ks
def ET.toks (cols : List Int) : List ET → Bool
  | [] => true
  | k :: ks => k.tok cols && ET.toks cols ks
end
theorem ET.toks_iff (cols : List Int) : ∀ ks : List ET, ET.toks cols ks = true ↔ ∀ k ∈ ks, k.tok cols = true
  | [] => by simp [ET.toks]
  | k :: ks => by simp [ET.toks, ET.toks_iff cols ks]
theorem ET.toks_take {cols : List Int} {ks : List ET} {i : Nat} {k : ET} (hk : ks[i]? = some k) (h : ET.toks cols (ks.take i) = true) (hg : k.tok cols = true) : ET.toks cols (ks.take (i + 1)) = true := by
  rw [ET.toks_iff] at h ⊢
  intro x hx
  rw [List.take_succ_eq_append_getElem (by exact (List.getElem?_eq_some_iff.1 hk).1)] at hx
  rcases List.mem_append.1 hx with hx | hx
  · exact h x hx
  · simp at hx
    rw [(List.getElem?_eq_some_iff.1 hk).2] at hx
    subst hx; exact hg
theorem tok_kid {o c : Int} {d : Dat} {ks : List ET} {cols : List Int} {k : ET} {i : Nat} (hk : ks[i]? = some k) (h : k.tok cols = false) : (ET.mk o c d ks).tok cols = false := by
  cases hw : (ET.mk o c d ks).tok cols
  · rfl
  · simp only [ET.tok, Bool.and_eq_true, ET.toks_iff] at hw
    rw [hw.2 k (List.mem_of_getElem? hk)] at h
    cases h
theorem tok_all {o c : Int} {d : Dat} {ks : List ET} {cols : List Int} (h : ¬ o = 1) (hk : ET.toks cols ks = true) : (ET.mk o c d ks).tok cols = true := by
  simp [ET.tok, h, hk]

/-- so many have come -/
def LRow (ks : List ET) (base k : Nat) (v : Value) (wr : World) : Prop :=
  ∃ xs, wr.ownsRow base 27 7 v k xs ∧ (∀ (j : Nat) x, j < k → ks[j]? = some x → ∃ lo hi, base ≤ lo ∧ hi ≤ wr.heap.size ∧ (∀ g, v.ownBlock = some g → g < lo ∨ hi ≤ g) ∧ ElOn (Btw lo hi) wr xs j x)

theorem lrow_step {ks : List ET} {base : Nat} {wr w3 w4 w5 : World} {k : Nat} {v v' kv : Value} {x : ET} {xs : List Value} (sb : base ≤ wr.heap.size) (hown : wr.ownsRow base 27 7 v k xs)
    (hel : ∀ (j : Nat) x, j < k → ks[j]? = some x → ∃ lo hi, base ≤ lo ∧ hi ≤ wr.heap.size ∧ (∀ g, v.ownBlock = some g → g < lo ∨ hi ≤ g) ∧ ElOn (Btw lo hi) wr xs j x) (hx : ks[k]? = some x)
    (h3 : Below wr.heap.size wr w3) (hat : x.On (Btw wr.heap.size w3.heap.size) w3 kv) (h4 : Below w3.heap.size w3 w4) (h5 : w5.ownsRow base 27 7 v' (k + 1) (xs ++ x.cells kv)) (hg : w4.grownBy w5 v.ownBlock) (hv' : ∀ g, v'.ownBlock = some g → v.ownBlock = some g ∨ w4.heap.size ≤ g) : LRow ks base (k + 1) v' w5 := by
  have s3 := h3.size
  have s4 := h4.size
  have s5 := hg.size
  have keep : ∀ {S : Nat → Prop} {e : ET} {u : Value} {W : World}, e.On S W u → Below W.heap.size W w4 → (∀ g, S g → v.ownBlock ≠ some g) → e.On S w5 u := fun {S e u W} ho hbl hne => by
    refine (ho.below hbl).frame fun g hS hgl => hg.block g hgl fun e => hne g hS e.symm
  refine ⟨_, h5, fun j y hj hy => ?_⟩
  have hl := hown.1
  by_cases e : j < k
  · obtain ⟨lo, hi, q1, q2, q3, kv', h1, h2⟩ := hel j y e hy
    refine ⟨lo, hi, q1, by omega, fun g hgv => ?_, kv', fun t z hz => ?_, keep h2 (h3.trans (h4.mono s3)) fun g hS hgv => ?_⟩
    · rcases hv' g hgv with h | h
      · exact q3 g h
      · right; omega
    · have ht := (List.getElem?_eq_some_iff.1 hz).1
      simp only [ET.cells, List.length_cons, List.length_nil] at ht
      rw [List.getElem?_append_left (by omega)]
      exact h1 t z hz
    · have := q3 g hgv
      have := hS.1
      have := hS.2
      omega
  · obtain rfl : j = k := by omega
    rw [hx] at hy; cases hy
    refine ⟨wr.heap.size, w3.heap.size, sb, by omega, fun g hgv => ?_, kv, fun t z hz => ?_, keep hat h4 fun g hS hgv => ?_⟩
    · rcases hv' g hgv with h | h
      · left; exact (hown.lt g h).2
      · right; omega
    · rw [List.getElem?_append_right (by omega), show j * 7 + t - xs.length = t by omega]
      exact hz
    · have := (hown.lt g hgv).2
      have := hS.1
      omega

theorem lrow_set {ks : List ET} {base k b o : Nat} {v x : Value} {w : World} (h : LRow ks base k v w) (hb : b < base) : LRow ks base k v (w.setCell ⟨b, o, none⟩ x) := by
  obtain ⟨xs, hown, hel⟩ := h
  have hs : (w.setCell ⟨b, o, none⟩ x).heap.size = w.heap.size := by simp [World.setCell]
  refine ⟨xs, ownsRow_frame hown fun g hg => heap_set_ne (by have := (hown.lt g hg).1; omega), fun j y hj hy => ?_⟩
  obtain ⟨lo, hi, q1, q2, q3, kv, h1, h2⟩ := hel j y hj hy
  exact ⟨lo, hi, q1, by rw [hs]; exact q2, q3, kv, h1, h2.frame fun g hS _ => heap_set_ne (by have := hS.1; omega)⟩

theorem results_row_tmp {P : Program} {fn : Func} {p u : Tmp} {ty : TypeId} (h : fn.results = #[.cell p ty, .tmp u]) (tmps : Array Value) (w : World) (g : Nat) (t : TypeId) (cs : Array Value) (fr : Nat × Nat) (d : TypeDesc)
    (hp : tmps.getD p undef = .pointer (some ⟨g, 0, none⟩)) (hg : w.heap[g]? = some (.cells cs t fr))
    (hu : P.underlying ty = some d) (hd : (match d with | .struct _ | .array _ _ => true | _ => false) = true) (hi : (P.info? ty).map (·.size) = some cs.size) :
    (results fn tmps).run P w = .ok (.tuple #[.agg cs, tmps.getD u undef]) w := by
  have hp' : tmps[p]?.getD undef = .pointer (some ⟨g, 0, none⟩) := by simpa using hp
  simp [results, h, hp', asAddr, run_loadVar_row w g t ty cs fr d hg hu hd hi]

theorem on_nil (S : Nat → Prop) (w : World) (o c : Int) (d : Dat) : (ET.mk o c d []).On S w (.slice none 0 0) := ET.On.iff.2 ⟨none, 0, rfl, fun _ => rfl, fun h => absurd rfl h⟩

def T52 (cols : List Int) (e : ET) (w : World) (ev : Ending) (w' : World) : Prop :=
  Below w.heap.size w w' ∧ ∃ (x : ET) (sa : Option Addr) (sn sc : Nat), ev = .returned (.tuple #[x.agg (.slice sa sn sc), .bool (e.tok cols)]) ∧ (e.tok cols = true → x = e.turn cols ∧ (e.turn cols).On (Btw w.heap.size w'.heap.size) w' (.slice sa sn sc))

theorem three_below' (w : World) (a b c : Obj) : Below w.heap.size w (((w.alloc a).alloc b).alloc c) := three_below w a b c

end Go.Proofs.YtolikaginhjbhaaDoor
