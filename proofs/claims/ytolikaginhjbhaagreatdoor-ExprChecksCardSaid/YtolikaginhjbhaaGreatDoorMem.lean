import Derived.Test.YtolikaginhjbhaaGreatDoorPure
/- An expression in memory. -/
namespace Go.Proofs.YtolikaginhjbhaaGreatDoor
open Go.RowKit Go.Pen

theorem cell_keep {w w' : World} (h : Below w.heap.size w w') {a : Addr} {v : Value} (hc : w.cell? a = some v) : w'.cell? a = some v :=
  (World.cell?_of_block (h.block a.block (World.block_lt_of_cell? w a hc))).trans hc

/-- a part's own cells; its parts are at kv -/
def KidCells (w : World) (b o : Nat) (k : ET) (kv : Value) : Prop :=
  w.cell? ⟨b, o, none⟩ = some (.int .u8 k.op) ∧ w.cell? ⟨b, o + 1, none⟩ = some kv ∧ w.cell? ⟨b, o + 2, none⟩ = some (.int .i64 k.col) ∧ w.cell? ⟨b, o + 3, none⟩ = some (.int .u8 k.lit.kind) ∧
    w.cell? ⟨b, o + 4, none⟩ = some (.bool k.lit.bool) ∧ w.cell? ⟨b, o + 5, none⟩ = some (.int .i64 k.lit.int) ∧ w.cell? ⟨b, o + 6, none⟩ = some (.string k.lit.text)

mutual
/-- what a slice of parts reads as; the blocks in which they lie -/
def ET.On (S : Nat → Prop) (w : World) : ET → Value → Prop
  | .mk _ _ _ ks, v => ∃ a c, v = .slice a ks.length c ∧ (a = none → c = 0) ∧ (ks ≠ [] → ∃ b o, a = some ⟨b, o, none⟩ ∧ S b ∧ ET.Ons S w ks b o)
def ET.Ons (S : Nat → Prop) (w : World) : List ET → Nat → Nat → Prop
  | [], _, _ => True
  | k :: ks, b, o => (∃ kv, KidCells w b o k kv ∧ k.On S w kv) ∧ ET.Ons S w ks b (o + 7)
end

/-- what a slice of parts reads as -/
abbrev ET.At (w : World) (e : ET) (v : Value) : Prop := e.On (fun _ => True) w v

theorem ET.On.iff {S : Nat → Prop} {w : World} {e : ET} {v : Value} : e.On S w v ↔ ∃ a c, v = .slice a e.kids.length c ∧ (a = none → c = 0) ∧ (e.kids ≠ [] → ∃ b o, a = some ⟨b, o, none⟩ ∧ S b ∧ ET.Ons S w e.kids b o) := by
  cases e; simp only [ET.On, ET.kids]

theorem ET.Ons.get {S : Nat → Prop} {w : World} {b : Nat} : ∀ {ks : List ET} {o : Nat}, ET.Ons S w ks b o → ∀ {i : Nat} {k : ET}, ks[i]? = some k → ∃ kv, KidCells w b (o + i * 7) k kv ∧ k.On S w kv
  | [], _, _, i, k, hk => by simp at hk
  | x :: ks, o, h, i, k, hk => by
    simp only [ET.Ons] at h
    cases i with
    | zero => simp at hk; subst hk; simpa using h.1
    | succ i =>
      obtain ⟨kv, h1, h2⟩ := ET.Ons.get h.2 (i := i) (by simpa using hk)
      exact ⟨kv, by rw [show o + (i + 1) * 7 = o + 7 + i * 7 by omega]; exact h1, h2⟩

theorem ET.Ons.mk {S : Nat → Prop} {w : World} {b : Nat} : ∀ {ks : List ET} {o : Nat}, (∀ (i : Nat) (k : ET), ks[i]? = some k → ∃ kv, KidCells w b (o + i * 7) k kv ∧ k.On S w kv) → ET.Ons S w ks b o
  | [], _, _ => by simp only [ET.Ons]
  | x :: ks, o, h => by
    simp only [ET.Ons]
    refine ⟨by simpa using h 0 x rfl, ET.Ons.mk fun i k hk => ?_⟩
    obtain ⟨kv, h1, h2⟩ := h (i + 1) k (by simpa using hk)
    exact ⟨kv, by rw [show o + 7 + i * 7 = o + (i + 1) * 7 by omega]; exact h1, h2⟩

theorem cell_keep1 {w w' : World} {a : Addr} {v : Value} (hc : w.cell? a = some v) (hf : a.block < w.heap.size → w'.heap[a.block]? = w.heap[a.block]?) : w'.cell? a = some v :=
  (World.cell?_of_block (hf (World.block_lt_of_cell? w a hc))).trans hc

theorem KidCells.frame {w w' : World} {b o : Nat} {k : ET} {kv : Value} (h : KidCells w b o k kv) (hf : b < w.heap.size → w'.heap[b]? = w.heap[b]?) : KidCells w' b o k kv :=
  ⟨cell_keep1 h.1 hf, cell_keep1 h.2.1 hf, cell_keep1 h.2.2.1 hf, cell_keep1 h.2.2.2.1 hf, cell_keep1 h.2.2.2.2.1 hf, cell_keep1 h.2.2.2.2.2.1 hf, cell_keep1 h.2.2.2.2.2.2 hf⟩
theorem KidCells.below {w w' : World} {b o : Nat} {k : ET} {kv : Value} (h : KidCells w b o k kv) (hb : Below w.heap.size w w') : KidCells w' b o k kv := h.frame (hb.block b)

theorem ET.On.frame {S : Nat → Prop} {w w' : World} (hf : ∀ g, S g → g < w.heap.size → w'.heap[g]? = w.heap[g]?) : ∀ {e : ET} {v : Value}, e.On S w v → e.On S w' v := by
  intro e
  refine ET.ind (C := fun e => ∀ {v : Value}, e.On S w v → e.On S w' v) (fun o c d ks ih v h => ?_) e
  rw [ET.On.iff] at h ⊢
  obtain ⟨a, cc, hv, hn, h⟩ := h
  refine ⟨a, cc, hv, hn, fun hne => ?_⟩
  obtain ⟨b, off, ha, hS, h⟩ := h hne
  refine ⟨b, off, ha, hS, ET.Ons.mk fun i k hk => ?_⟩
  obtain ⟨kv, h1, h2⟩ := h.get hk
  exact ⟨kv, h1.frame (hf b hS), ih k (List.mem_of_getElem? hk) h2⟩

theorem ET.On.below {S : Nat → Prop} {w w' : World} {e : ET} {v : Value} (h : e.On S w v) (hb : Below w.heap.size w w') : e.On S w' v := h.frame fun g _ hg => hb.block g hg

theorem ET.On.wide {S S' : Nat → Prop} {w : World} (hf : ∀ g, S g → S' g) : ∀ {e : ET} {v : Value}, e.On S w v → e.On S' w v := by
  intro e
  refine ET.ind (C := fun e => ∀ {v : Value}, e.On S w v → e.On S' w v) (fun o c d ks ih v h => ?_) e
  rw [ET.On.iff] at h ⊢
  obtain ⟨a, cc, hv, hn, h⟩ := h
  refine ⟨a, cc, hv, hn, fun hne => ?_⟩
  obtain ⟨b, off, ha, hS, h⟩ := h hne
  refine ⟨b, off, ha, hf b hS, ET.Ons.mk fun i k hk => ?_⟩
  obtain ⟨kv, h1, h2⟩ := h.get hk
  exact ⟨kv, h1, ih k (List.mem_of_getElem? hk) h2⟩

theorem ET.On.at {S : Nat → Prop} {w : World} {e : ET} {v : Value} (h : e.On S w v) : e.At w v := h.wide fun _ _ => trivial

theorem ET.On.slice {S : Nat → Prop} {w : World} {e : ET} {v : Value} (h : e.On S w v) : ∃ a c, v = .slice a e.kids.length c := by
  obtain ⟨a, c, hv, -⟩ := ET.On.iff.1 h
  exact ⟨a, c, hv⟩

/-- a part of an expression, at its place -/
theorem ET.On.kid {S : Nat → Prop} {w : World} {e : ET} {v : Value} (h : e.On S w v) {i : Nat} {k : ET} (hk : e.kids[i]? = some k) : ∃ b o c kv, v = .slice (some ⟨b, o, none⟩) e.kids.length c ∧ KidCells w b (o + i * 7) k kv ∧ k.On S w kv := by
  obtain ⟨a, c, hv, -, hn⟩ := ET.On.iff.1 h
  obtain ⟨b, o, rfl, -, ht⟩ := hn fun e => by rw [e] at hk; simp at hk
  obtain ⟨kv, h1, h2⟩ := ht.get hk
  exact ⟨b, o, c, kv, hv, h1, h2⟩

/-- an expression as a value -/
def ET.agg (e : ET) (kv : Value) : Value := .agg #[.int .u8 e.op, kv, .int .i64 e.col, .int .u8 e.lit.kind, .bool e.lit.bool, .int .i64 e.lit.int, .string e.lit.text]

/-- what came in fits its kinds -/
def Dat.fits (d : Dat) : Prop := (0 ≤ d.kind ∧ d.kind ≤ 255) ∧ (-9223372036854775808 ≤ d.int ∧ d.int ≤ 9223372036854775807) ∧ d.text.size ≤ 140737488355328
mutual
def ET.fits : ET → Prop
  | .mk o c d ks => (0 ≤ o ∧ o ≤ 255) ∧ (-9223372036854775808 ≤ c ∧ c ≤ 9223372036854775807) ∧ d.fits ∧ ks.length ≤ 140737488355328 ∧ ET.fitss ks
def ET.fitss : List ET → Prop
  | [] => True
  | k :: ks => k.fits ∧ ET.fitss ks
end
theorem ET.fitss_iff : ∀ {ks : List ET}, ET.fitss ks ↔ ∀ k ∈ ks, k.fits
  | [] => by simp [ET.fitss]
  | k :: ks => by simp [ET.fitss, ET.fitss_iff (ks := ks)]
end Go.Proofs.YtolikaginhjbhaaGreatDoor
