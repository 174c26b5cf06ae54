import Derived.Test.YtolikaginhjbhaaGreatDoorQ
import Derived.Test.YtolikaginhjbhaaGreatDoorFq
/- expr.Turn. -/
namespace Go.Proofs.YtolikaginhjbhaaGreatDoor
open Go.RowKit Go.Pen Go.Shelf
attribute [local go_sem] Oper.semAt_some

def RTurn (cols : List Int) (e : ET) : Option ET := if e.may okD = true ∧ e.within cols.length = true ∧ e.tok cols = true then some (e.turn cols) else none
/-- what Turn answers: the expression and the error's number -/
def rTurn (cols : List Int) (e : ET) : ET := (RTurn cols e).getD (.mk 0 0 Dat.zero [])
def rTurnN (cols : List Int) (e : ET) : Nat := if (RTurn cols e).isSome then 0 else 30
theorem rTurn_yes {cols : List Int} {e : ET} (h : e.may okD = true ∧ e.within cols.length = true ∧ e.tok cols = true) : rTurn cols e = e.turn cols ∧ rTurnN cols e = 0 := by
  simp only [rTurn, rTurnN, RTurn, if_pos h]
  exact ⟨rfl, rfl⟩
theorem rTurn_no {cols : List Int} {e : ET} (h : ¬ (e.may okD = true ∧ e.within cols.length = true ∧ e.tok cols = true)) : rTurn cols e = .mk 0 0 Dat.zero [] ∧ rTurnN cols e = 30 := by
  simp only [rTurn, rTurnN, RTurn, if_neg h]
  exact ⟨rfl, rfl⟩

theorem size_of_may {ok : Dat → Bool} {e : ET} (h : e.may ok = true) : e.size ≤ 12000 := by
  simp only [ET.may, Bool.and_eq_true, decide_eq_true_eq] at h
  omega

/-- what is known of the parts -/
def TkQ (n : Nat) (x : ET) : Prop := x.fits ∧ (∃ deep, x.good okD deep = true) ∧ x.within n = true
theorem TkQ.closed (n : Nat) : ∀ e, TkQ n e → e.fits ∧ ∀ k ∈ e.kids, TkQ n k := by
  intro e h
  refine ⟨h.1, fun k hk => ?_⟩
  obtain ⟨h1, ⟨deep, h2⟩, h3⟩ := h
  cases e with
  | mk o c d ks =>
    simp only [ET.fits] at h1
    simp only [ET.good, Bool.and_eq_true, ET.goods_iff] at h2
    simp only [ET.within, Bool.and_eq_true, ET.withins_iff] at h3
    exact ⟨ET.fitss_iff.1 h1.2.2.2.2 k hk, ⟨deep + 1, h2.2 k hk⟩, h3.2 k hk⟩
theorem TkQ.col {n : Nat} {e : ET} (h : TkQ n e) (o1 : e.op = 1) : 0 ≤ e.col ∧ e.col < n := by
  obtain ⟨-, ⟨deep, h2⟩, h3⟩ := h
  cases e with
  | mk o c d ks =>
    simp only [ET.op] at o1
    subst o1
    simp only [ET.good, Bool.and_eq_true] at h2
    simp only [ET.within, Bool.and_eq_true] at h3
    refine ⟨((own_mk h2.1.1).2.1 rfl).1, ?_⟩
    have := h3.1
    simp at this
    exact this

/-- a part whose new column is none -/
def TkBad (cols : List Int) (x : ET) : Prop := x.op = 1 ∧ ¬ (0 ≤ cols.getD x.col.toNat 0 ∧ cols.getD x.col.toNat 0 ≤ 9999)

theorem ET.tok_of_pre (cols : List Int) (ok : Dat → Bool) : ∀ (e : ET) (deep : Nat), e.good ok deep = true → ((∀ x ∈ e.pre deep, ¬ TkBad cols x.2) ↔ e.tok cols = true) := by
  refine ET.ind fun o c d ks ih deep hg => ?_
  simp only [ET.good, Bool.and_eq_true, decide_eq_true_eq, ET.goods_iff] at hg
  obtain ⟨⟨-, h2⟩, h3⟩ := hg
  simp only [ET.pre, if_pos h2, List.mem_cons, ET.tok, Bool.and_eq_true, ET.toks_iff, Bool.or_eq_true, Bool.not_eq_true', decide_eq_false_iff_not, decide_eq_true_eq]
  constructor
  · intro h
    refine ⟨?_, fun k hk => (ih k hk (deep + 1) (h3 k hk)).1 fun x hx => h x (.inr (ET.mem_pres.2 ⟨k, hk, hx⟩))⟩
    have := h _ (.inl rfl)
    simp only [TkBad, ET.op, ET.col] at this
    by_cases e : o = 1
    · right
      exact Classical.not_not.1 fun hn => this ⟨e, hn⟩
    · left; exact e
  · rintro ⟨h1, h4⟩ x (rfl | hx) ⟨ho, hn⟩
    · simp only [ET.op, ET.col] at ho hn
      rcases h1 with h1 | h1
      · exact h1 ho
      · exact hn h1
    · obtain ⟨k, hk, hx⟩ := ET.mem_pres.1 hx
      exact (ih k hk (deep + 1) (h3 k hk)).2 (h4 k hk) x hx ⟨ho, hn⟩

structure TkAll (cols : List Int) {Q : ET → Prop} (ps : List (PartQ Q)) : Prop where
  «at» : ∀ x ∈ ps, ¬ TkBad cols x.e
structure TkNo (cols : List Int) {Q : ET → Prop} (ps : List (PartQ Q)) : Prop where
  out : ¬ ∀ x ∈ ps, ¬ TkBad cols x.e
theorem TkAll.nil {cols : List Int} {Q : ET → Prop} : TkAll cols ([] : List (PartQ Q)) := ⟨fun x hx => by cases hx⟩
theorem TkAll.snoc {cols : List Int} {Q : ET → Prop} {ps : List (PartQ Q)} {x : PartQ Q} (h : TkAll cols ps) (hx : ¬ TkBad cols x.e) : TkAll cols (ps ++ [x]) := ⟨fun y hy => by
  rcases List.mem_append.1 hy with hy | hy
  · exact h.at y hy
  · simp at hy; subst hy; exact hx⟩
theorem TkNo.snoc {cols : List Int} {Q : ET → Prop} {ps : List (PartQ Q)} {x : PartQ Q} (hx : TkBad cols x.e) : TkNo cols (ps ++ [x]) := ⟨fun h => h x (by simp) hx⟩

theorem results_row_cell {P : Program} {fn : Func} {p q : Tmp} {ty ty2 : TypeId} (h : fn.results = #[.cell p ty, .cell q ty2]) (tmps : Array Value) (w : World) (g g2 : Nat) (t t2 : TypeId) (cs : Array Value) (fr fr2 : Nat × Nat) (d : TypeDesc) (v : Value)
    (hp : tmps.getD p undef = .pointer (some ⟨g, 0, none⟩)) (hq : tmps.getD q undef = .pointer (some ⟨g2, 0, none⟩)) (hg : w.heap[g]? = some (.cells cs t fr)) (hg2 : w.heap[g2]? = some (.cells #[v] t2 fr2))
    (hu : P.underlying ty = some d) (hd : (match d with | .struct _ | .array _ _ => true | _ => false) = true) (hi : (P.info? ty).map (·.size) = some cs.size) (ha : (isAgg ty2).run P w = .ok false w) :
    (results fn tmps).run P w = .ok (.tuple #[.agg cs, v]) w := by
  have hp' : tmps[p]?.getD undef = .pointer (some ⟨g, 0, none⟩) := by simpa using hp
  have hq' : tmps[q]?.getD undef = .pointer (some ⟨g2, 0, none⟩) := by simpa using hq
  have hc : w.cell? ⟨g2, 0, none⟩ = some v := cell_of_heap hg2 rfl
  have hl2 : (loadVar ty2 ⟨g2, 0, none⟩).run P w = .ok v w := by simp [loadVar, ha, hc, go_sem]
  simp [results, h, hp', hq', asAddr, run_loadVar_row w g t ty cs fr d hg hu hd hi, hl2]

/-- a row of cells that is written over -/
def setRow7 (w : World) (b : Nat) (v0 v1 v2 v3 v4 v5 v6 : Value) : World := ((((((w.setCell ⟨b, 0, none⟩ v0).setCell ⟨b, 1, none⟩ v1).setCell ⟨b, 2, none⟩ v2).setCell ⟨b, 3, none⟩ v3).setCell ⟨b, 4, none⟩ v4).setCell ⟨b, 5, none⟩ v5).setCell ⟨b, 6, none⟩ v6
theorem setRow7_size {w : World} {b : Nat} {v0 v1 v2 v3 v4 v5 v6 : Value} : (setRow7 w b v0 v1 v2 v3 v4 v5 v6).heap.size = w.heap.size := by simp [setRow7, World.setCell]
theorem setRow7_at {w : World} {b : Nat} {c0 c1 c2 c3 c4 c5 c6 v0 v1 v2 v3 v4 v5 v6 : Value} {t : TypeId} {f : Nat × Nat} (h : w.heap[b]? = some (.cells #[c0, c1, c2, c3, c4, c5, c6] t f)) : (setRow7 w b v0 v1 v2 v3 v4 v5 v6).heap[b]? = some (.cells #[v0, v1, v2, v3, v4, v5, v6] t f) := by
  have h := heap_set_same (o := 6) (v := v6) (heap_set_same (o := 5) (v := v5) (heap_set_same (o := 4) (v := v4) (heap_set_same (o := 3) (v := v3) (heap_set_same (o := 2) (v := v2) (heap_set_same (o := 1) (v := v1) (heap_set_same (o := 0) (v := v0) h))))))
  simpa [setRow7] using h
theorem setRow7_ne {w : World} {b g : Nat} {v0 v1 v2 v3 v4 v5 v6 : Value} (h : g ≠ b) : (setRow7 w b v0 v1 v2 v3 v4 v5 v6).heap[g]? = w.heap[g]? := by
  simp only [setRow7, heap_set_ne h]
theorem setRow7_below {B : Nat} {w w' : World} {b : Nat} {v0 v1 v2 v3 v4 v5 v6 : Value} (h : Below B w w') (hb : B ≤ b) : Below B w (setRow7 w' b v0 v1 v2 v3 v4 v5 v6) :=
  ((((((h.setCell (p := ⟨b, 0, none⟩) hb _).setCell (p := ⟨b, 1, none⟩) hb _).setCell (p := ⟨b, 2, none⟩) hb _).setCell (p := ⟨b, 3, none⟩) hb _).setCell (p := ⟨b, 4, none⟩) hb _).setCell (p := ⟨b, 5, none⟩) hb _).setCell (p := ⟨b, 6, none⟩) hb _
theorem setRow7_kps {S : Nat → Prop} {w : World} {b : Nat} {v0 v1 v2 v3 v4 v5 v6 : Value} (hb : S b) : KpS S w (setRow7 w b v0 v1 v2 v3 v4 v5 v6) :=
  ((((((KpS.setCell hb).trans (KpS.setCell hb)).trans (KpS.setCell hb)).trans (KpS.setCell hb)).trans (KpS.setCell hb)).trans (KpS.setCell hb)).trans (KpS.setCell hb)
theorem setRow7_keeps {w : World} {b : Nat} {v0 v1 v2 v3 v4 v5 v6 : Value} : KeepsOthers w (setRow7 w b v0 v1 v2 v3 v4 v5 v6) :=
  ((((((KeepsOthers.setCell _ _ _).trans (KeepsOthers.setCell _ _ _)).trans (KeepsOthers.setCell _ _ _)).trans (KeepsOthers.setCell _ _ _)).trans (KeepsOthers.setCell _ _ _)).trans (KeepsOthers.setCell _ _ _)).trans (KeepsOthers.setCell _ _ _)

theorem four_below (w : World) (a b c d : Obj) : Below w.heap.size w ((((w.alloc a).alloc b).alloc c).alloc d) := (three_below w a b c).alloc (by simp <;> omega) _
theorem four_at {w w1 : World} {a b c d : Obj} (hb : Below ((((w.alloc a).alloc b).alloc c).alloc d).heap.size ((((w.alloc a).alloc b).alloc c).alloc d) w1) : w1.heap[w.heap.size]? = some a ∧ w1.heap[w.heap.size + 1]? = some b ∧ w1.heap[w.heap.size + 1 + 1]? = some c ∧ w1.heap[w.heap.size + 1 + 1 + 1]? = some d := by
  have h := three_at (w := w) (a := a) (b := b) (c := c) (w1 := (((w.alloc a).alloc b).alloc c).alloc d) ((Below.refl _ _).alloc (Nat.le_refl _) _)
  refine ⟨(hb.block _ (by simp <;> omega)).trans h.1, (hb.block _ (by simp <;> omega)).trans h.2.1, (hb.block _ (by simp <;> omega)).trans h.2.2, (hb.block _ (by simp)).trans ?_⟩
  have h := heap_alloc_new (((w.alloc a).alloc b).alloc c) d
  rw [World.size_alloc, World.size_alloc, World.size_alloc] at h
  exact h

def T18 (cols : List Int) (e : ET) (w : World) (ev : Ending) (w' : World) : Prop :=
  ∃ (sa : Option Addr) (sn sc : Nat), ev = .returned (.tuple #[(rTurn cols e).agg (.slice sa sn sc), .int .u16 (rTurnN cols e)]) ∧ (rTurn cols e).On (Btw w.heap.size w'.heap.size) w' (.slice sa sn sc) ∧ Below w.heap.size w w'
theorem t18_no {cols : List Int} {e : ET} {w w' : World} (h : ¬ (e.may okD = true ∧ e.within cols.length = true ∧ e.tok cols = true)) (hb : Below w.heap.size w w') : T18 cols e w (.returned (.tuple #[.agg #[.int .u8 0, .slice none 0 0, .int .i64 0, .int .u8 0, .bool false, .int .i64 0, .string ⟨#[]⟩], .int .u16 30])) w' := by
  obtain ⟨h1, h2⟩ := rTurn_no h
  refine ⟨none, 0, 0, ?_, ?_, hb⟩
  · rw [h1, h2]; rfl
  · rw [h1]; exact on_nil _ _ _ _ _

set_option maxRecDepth 100000 in
set_option maxHeartbeats 4000000 in
theorem turn_18 (cols : List Int) (e : ET) (a : Option Addr) (cc : Nat) (va : Option Addr) (vcc : Nat) (w : World) (hfit : e.fits) (hat : e.At w (.slice a e.kids.length cc)) (hcols : IntsOn (fun _ => True) w cols (.slice va cols.length vcc)) (hT : Lib.Utf8Tabs 1 2 w) (h11 : 3 ≤ w.heap.size) :
    Calls Tryz.prog 18 #[e.agg (.slice a e.kids.length cc), .slice va cols.length vcc] w (T18 cols e w) := by
  obtain ⟨F, eF⟩ : ∃ F, F = Fence.wide := ⟨_, rfl⟩
  have hd : F.depth = none := by rw [eF]; rfl
  have hF : ∀ f, F.fn f := fun f => by rw [eF]; trivial
  have hro : F.round = none := by rw [eF]; rfl
  have wide : ∀ (m : Nat) (f : FuncId) (args : Array Value) (W : World) (R : Ending → World → Prop), Calls Tryz.prog f args W R → CallsIn F m Tryz.prog f args W R := fun m f args W R h => by rw [eF]; exact callsIn_wide.2 h
  obtain ⟨n, hn⟩ : ∃ n : Nat, 4 ≤ n := ⟨4, Nat.le_refl _⟩
  refine (callsIn_wide (n := n)).1 ?_
  rw [← eF]
  have WIDE := Lib.hid wide
  clear wide eF
  have h1 : 1 ≤ n := by omega
  have hp := fun W => parts_50 F (n - 1) (hF 50) hro e a cc W
  have hov := fun W hb => WIDE.out (n - 1) 41 _ W _ (over_41 e a cc cols.length W hfit (hat.below hb) (tabs_below hT hb h11) (Nat.le_trans h11 hb.size))
  unfold ET.agg ET.cells at hp
  unfold ET.agg at hov
  have HP := Lib.hid hp
  have HOV := Lib.hid hov
  have HAT := Lib.hid hat
  have HFIT := Lib.hid hfit
  have HCOLS := Lib.hid hcols
  clear hp hov hat hfit hT hcols
  unfold ET.agg
  refine callsIn_of_wp_marks Tryz.func18 rfl (hF 18) ?_ hro
  simp only [Tryz.ntmps18, List.size_toArray, List.length_cons, List.length_nil, Nat.reduceAdd, Nat.reduceSub, Array.replicate_succ, Array.replicate_zero, List.push_toArray, List.append_toArray, List.nil_append, List.cons_append]
  by_cases hov : e.may okD = true ∧ e.within cols.length = true
  rotate_left
  · have hno : (e.may okD && e.within cols.length) = false := by
      cases h1 : e.may okD
      · rfl
      · cases h2 : e.within cols.length
        · rfl
        · exact absurd ⟨h1, h2⟩ hov
    have hno3 : ¬ (e.may okD = true ∧ e.within cols.length = true ∧ e.tok cols = true) := fun h => hov ⟨h.1, h.2.1⟩
    have HNO3 := Lib.hid hno3
    rw [hno] at HOV
    clear hov hno hno3
    gi_wp2_with (first | (gi_at_call 50; refine (HP.out _).mono ?_; rintro ev w' ⟨rfl, rfl⟩) | (gi_at_call 41; refine (HOV.out _ (four_below _ _ _ _ _)).mono ?_; rintro ev w1 ⟨rfl, hb1⟩; obtain ⟨t1, t2, t3, t4⟩ := four_at hb1; have y0 := cell_of_heap (o := 0) t1 rfl; have y1 := cell_of_heap (o := 1) t1 rfl; have y2 := cell_of_heap (o := 2) t1 rfl; have y3 := cell_of_heap (o := 3) t1 rfl; have y4 := cell_of_heap (o := 4) t1 rfl; have y5 := cell_of_heap (o := 5) t1 rfl; have y6 := cell_of_heap (o := 6) t1 rfl; have n0 := cell_of_heap (o := 0) t2 rfl; have z0 := cell_of_heap (o := 0) t3 rfl; have g0 := frozen_of_heap (o := 0) t3; have z1 := cell_of_heap (o := 1) t3 rfl; have g1 := frozen_of_heap (o := 1) t3; have z2 := cell_of_heap (o := 2) t3 rfl; have g2 := frozen_of_heap (o := 2) t3; have z3 := cell_of_heap (o := 3) t3 rfl; have g3 := frozen_of_heap (o := 3) t3; have z4 := cell_of_heap (o := 4) t3 rfl; have g4 := frozen_of_heap (o := 4) t3; have z5 := cell_of_heap (o := 5) t3 rfl; have g5 := frozen_of_heap (o := 5) t3; have z6 := cell_of_heap (o := 6) t3 rfl; have g6 := frozen_of_heap (o := 6) t3; have q0 := cell_of_heap (o := 0) t4 rfl; have q1 := frozen_of_heap (o := 0) t4; have T1 := Lib.hid t1; have T2 := Lib.hid t2; have T3 := Lib.hid t3; have T4 := Lib.hid t4; have HB1 := Lib.hid hb1; clear hb1 t1 t2 t3 t4))
    have hb : Below w.heap.size w w1 := (four_below _ _ _ _ _).trans (HB1.out.mono (by simp; omega))
    have e4 : (setRow7 w1 (w.heap.size + 1 + 1) (.int .u8 0) (.slice none 0 0) (.int .i64 0) (.int .u8 0) (.bool false) (.int .i64 0) (.string ⟨#[]⟩)).heap[w.heap.size + 1 + 1 + 1]? = _ := (setRow7_ne (by omega)).trans T4.out
    refine ⟨_, results_row_cell rfl _ _ (w.heap.size + 1 + 1) (w.heap.size + 1 + 1 + 1) 27 35 _ (0, 0) (0, 0) _ (.int .u16 30) rfl rfl ((heap_set_ne (by omega)).trans (setRow7_at T3.out)) ((heap_set_same e4).trans (by simp)) Tryz.underlying27 rfl (by kernel_rfl) (Tryz.isAgg35 _), ?_⟩
    exact t18_no HNO3.out ((setRow7_below hb (by show w.heap.size ≤ w.heap.size + 1 + 1; omega)).setCell (p := ⟨w.heap.size + 1 + 1 + 1, 0, none⟩) (by show w.heap.size ≤ w.heap.size + 1 + 1 + 1; omega) _)
  · obtain ⟨hmay, hwi⟩ := hov
    have hgood := ET.may_good hmay
    have HGOOD := Lib.hid hgood
    have HMAY := Lib.hid hmay
    have HWI := Lib.hid hwi
    rw [hmay, hwi] at HOV
    simp only [Bool.and_true] at HOV
    clear hgood hmay hwi
    gi_wp2_with (first | (gi_at_call 50; refine (HP.out _).mono ?_; rintro ev w' ⟨rfl, rfl⟩) | (gi_at_call 41; refine (HOV.out _ (four_below _ _ _ _ _)).mono ?_; rintro ev w1 ⟨rfl, hb1⟩; obtain ⟨t1, t2, t3, t4⟩ := four_at hb1; have y0 := cell_of_heap (o := 0) t1 rfl; have y1 := cell_of_heap (o := 1) t1 rfl; have y2 := cell_of_heap (o := 2) t1 rfl; have y3 := cell_of_heap (o := 3) t1 rfl; have y4 := cell_of_heap (o := 4) t1 rfl; have y5 := cell_of_heap (o := 5) t1 rfl; have y6 := cell_of_heap (o := 6) t1 rfl; have n0 := cell_of_heap (o := 0) t2 rfl; have z0 := cell_of_heap (o := 0) t3 rfl; have g0 := frozen_of_heap (o := 0) t3; have z1 := cell_of_heap (o := 1) t3 rfl; have g1 := frozen_of_heap (o := 1) t3; have z2 := cell_of_heap (o := 2) t3 rfl; have g2 := frozen_of_heap (o := 2) t3; have z3 := cell_of_heap (o := 3) t3 rfl; have g3 := frozen_of_heap (o := 3) t3; have z4 := cell_of_heap (o := 4) t3 rfl; have g4 := frozen_of_heap (o := 4) t3; have z5 := cell_of_heap (o := 5) t3 rfl; have g5 := frozen_of_heap (o := 5) t3; have z6 := cell_of_heap (o := 6) t3 rfl; have g6 := frozen_of_heap (o := 6) t3; have q0 := cell_of_heap (o := 0) t4 rfl; have q1 := frozen_of_heap (o := 0) t4; have T1 := Lib.hid t1; have T2 := Lib.hid t2; have T3 := Lib.hid t3; have T4 := Lib.hid t4; have HB1 := Lib.hid hb1; clear hb1 t1 t2 t3 t4))
    obtain ⟨H, eH⟩ : ∃ H, H = w.heap.size := ⟨_, rfl⟩
    obtain ⟨L, eL⟩ : ∃ L, L = w1.heap.size := ⟨_, rfl⟩
    obtain ⟨W0, hW0⟩ : ∃ W0, W0 = w1.alloc (.cells #[.int .u8 e.op, .slice a e.kids.length cc, .int .i64 e.col, .int .u8 e.lit.kind, .bool e.lit.bool, .int .i64 e.lit.int, .string e.lit.text] 27) := ⟨_, rfl⟩
    have hb1 : Below w.heap.size w w1 := (four_below _ _ _ _ _).trans (HB1.out.mono (by simp <;> omega))
    have hL3 : H + 4 ≤ L := by have := HB1.out.size; simp only [World.size_alloc] at this; omega
    have hs0 : W0.heap.size = L + 1 := by rw [hW0, eL]; simp
    have hb0 : Below w.heap.size w W0 := by rw [hW0]; exact hb1.alloc hb1.size _
    have r0 : W0.heap[H]? = some (.cells #[.int .u8 e.op, .slice a e.kids.length cc, .int .i64 e.col, .int .u8 e.lit.kind, .bool e.lit.bool, .int .i64 e.lit.int, .string e.lit.text] 27 (0, 0)) := by
      rw [hW0, eH]; exact (Below.heap_alloc _ _ _ (lt_of_heap T1.out)).trans T1.out
    have r1 : W0.heap[H + 1]? = some (.cells #[.slice va cols.length vcc] 44 (0, 0)) := by
      rw [hW0, eH]; exact (Below.heap_alloc _ _ _ (lt_of_heap T2.out)).trans T2.out
    have r2 : W0.heap[H + 1 + 1]? = some (.cells #[.int .u8 0, .slice none 0 0, .int .i64 0, .int .u8 0, .bool false, .int .i64 0, .string ⟨#[]⟩] 27 (0, 0)) := by
      rw [hW0, eH]; exact (Below.heap_alloc _ _ _ (lt_of_heap T3.out)).trans T3.out
    have r4 : W0.heap[H + 1 + 1 + 1]? = some (.cells #[.int .u16 0] 35 (0, 0)) := by
      rw [hW0, eH]; exact (Below.heap_alloc _ _ _ (lt_of_heap T4.out)).trans T4.out
    have r3 : W0.heap[L]? = some (.cells #[.int .u8 e.op, .slice a e.kids.length cc, .int .i64 e.col, .int .u8 e.lit.kind, .bool e.lit.bool, .int .i64 e.lit.int, .string e.lit.text] 27 (0, 0)) := by
      rw [hW0, eL]; exact heap_alloc_new _ _
    rw [← hW0, ← eH, ← eL]
    clear y0 y1 y2 y3 y4 y5 y6 n0 z0 z1 z2 z3 z4 z5 z6 g0 g1 g2 g3 g4 g5 g6 q0 q1 T1 T2 T3 T4 HB1 hb1
    have HS0 := Lib.hid hs0
    have HB0 := Lib.hid hb0
    have EH := Lib.hid eH
    have R0 := Lib.hid r0
    have R1 := Lib.hid r1
    have R2 := Lib.hid r2
    have R3 := Lib.hid r3
    have R4 := Lib.hid r4
    clear hW0 hs0 hb0 eH eL r0 r1 r2 r3 r4
    refine wpIn_rangeFunc_ownH hro h1 (gf := 94) (lb := #[.pointer (some ⟨L, 0, none⟩)]) rfl (hF 94) (enters_of Tryz.func94 (by kernel_rfl) rfl)
      (partsQ_stops (TkQ cols.length) (TkQ.closed _) F hd (n - 1) (hF 94) (hF 95) hro L (fun g => g = H + 1 + 1 ∨ g = H + 1 + 1 + 1) e a cc ⟨HFIT.out, ⟨1, HGOOD.out⟩, HWI.out⟩ W0 ?kc ?sl ?on) (fun h k => h.trans k) ?kb (Below.refl _ _) (fun _ => rfl)
      (fun pre W => W.heap[H]? = some (.cells #[.int .u8 e.op, .slice a e.kids.length cc, .int .i64 e.col, .int .u8 e.lit.kind, .bool e.lit.bool, .int .i64 e.lit.int, .string e.lit.text] 27 (0, 0)) ∧ W.heap[H + 1]? = some (.cells #[.slice va cols.length vcc] 44 (0, 0)) ∧ W.heap[H + 1 + 1]? = some (.cells #[.int .u8 0, .slice none 0 0, .int .i64 0, .int .u8 0, .bool false, .int .i64 0, .string ⟨#[]⟩] 27 (0, 0)) ∧ W.heap[H + 1 + 1 + 1]? = some (.cells #[.int .u16 0] 35 (0, 0)) ∧ TkAll cols pre ∧ Below w.heap.size w W ∧ W0.heap.size ≤ W.heap.size)
      (fun c pre W => c = .ret ∧ W.heap[H + 1 + 1]? = some (.cells #[.int .u8 0, .slice none 0 0, .int .i64 0, .int .u8 0, .bool false, .int .i64 0, .string ⟨#[]⟩] 27 (0, 0)) ∧ W.heap[H + 1 + 1 + 1]? = some (.cells #[.int .u16 30] 35 (0, 0)) ∧ TkNo cols pre ∧ Below w.heap.size w W)
      ?oi ?oix ⟨R0.out, R1.out, R2.out, R4.out, TkAll.nil, HB0.out, Nat.le_refl _⟩
      (fun x a' W => ∃ Bx, W0.heap.size ≤ Bx ∧ W.heap[Bx]? = some (.cells #[.int .u8 x.e.op, .slice x.a x.e.kids.length x.c, .int .i64 x.e.col, .int .u8 x.e.lit.kind, .bool x.e.lit.bool, .int .i64 x.e.lit.int, .string x.e.lit.text] 27 (0, 0)) ∧ a' = { tmps := #[.agg #[.int .u8 e.op, .slice a e.kids.length cc, .int .i64 e.col, .int .u8 e.lit.kind, .bool e.lit.bool, .int .i64 e.lit.int, .string e.lit.text], .slice va cols.length vcc, .pointer (some ⟨H, 0, none⟩), .pointer (some ⟨H + 1, 0, none⟩), .pointer (some ⟨H + 1 + 1, 0, none⟩), .pointer (some ⟨H + 1 + 1 + 1, 0, none⟩), undef, .pointer (some ⟨Bx, 0, none⟩), .agg #[.int .u8 e.op, .slice a e.kids.length cc, .int .i64 e.col, .int .u8 e.lit.kind, .bool e.lit.bool, .int .i64 e.lit.int, .string e.lit.text], .slice va cols.length vcc, .int .i64 cols.length, .bool true, .bool false, undef, .agg #[.int .u8 e.op, .slice a e.kids.length cc, .int .i64 e.col, .int .u8 e.lit.kind, .bool e.lit.bool, .int .i64 e.lit.int, .string e.lit.text], .func (.func 94) #[] #[.pointer (some ⟨L, 0, none⟩)], .int .i64 x.deep, .agg #[.int .u8 x.e.op, .slice x.a x.e.kids.length x.c, .int .i64 x.e.col, .int .u8 x.e.lit.kind, .bool x.e.lit.bool, .int .i64 x.e.lit.int, .string x.e.lit.text], undef, undef, undef, undef, undef, undef, undef, undef, undef, undef, undef, undef, undef, undef, undef, undef, undef, undef, undef, undef, undef, undef, undef], defers := [] }) ?ax ?assign ?body ?done ?stop
    case kc =>
      exact ⟨cell_of_heap R3.out rfl, cell_of_heap R3.out rfl, cell_of_heap R3.out rfl, cell_of_heap R3.out rfl, cell_of_heap R3.out rfl, cell_of_heap R3.out rfl, cell_of_heap R3.out rfl⟩
    case sl =>
      intro g hg
      have := HS0.out
      rcases hg with rfl | rfl <;> omega
    case on =>
      refine (HAT.out.lt.below HB0.out).wide fun g hg h => ?_
      have := EH.out
      rcases h with rfl | rfl <;> omega
    case kb =>
      intro W l' oo oo' _ hl hc _
      exact kps_putObj hl hc
    case oi =>
      intro pre W W' row hI hg hr
      obtain ⟨i0, i1, i2, i3, i4, i5, i6⟩ := hI
      have hs := HS0.out
      have hh := EH.out
      exact ⟨(hg.block _ (lt_of_heap i0) fun er => by have := (hr _ er.symm).1; omega).trans i0, (hg.block _ (lt_of_heap i1) fun er => by have := (hr _ er.symm).1; omega).trans i1, (hg.block _ (lt_of_heap i2) fun er => by have := (hr _ er.symm).1; omega).trans i2, (hg.block _ (lt_of_heap i3) fun er => by have := (hr _ er.symm).1; omega).trans i3, i4, i5.grown hg i5.size fun g er => by (have := (hr g er).1; omega), Nat.le_trans i6 hg.size⟩
    case oix =>
      intro c pre W W' row hI hg hr
      obtain ⟨i0, i1, i2, i3, i4⟩ := hI
      have hs := HS0.out
      have hh := EH.out
      exact ⟨i0, (hg.block _ (lt_of_heap i1) fun er => by have := (hr _ er.symm).1; omega).trans i1, (hg.block _ (lt_of_heap i2) fun er => by have := (hr _ er.symm).1; omega).trans i2, i3, i4.grown hg i4.size fun g er => by have := (hr g er).1; omega⟩
    case ax =>
      intro x a' _ W W' row hI hg hr
      obtain ⟨Bx, b1, b2, b3⟩ := hI
      refine ⟨Bx, b1, (hg.block _ (lt_of_heap b2) fun er => ?_).trans b2, b3⟩
      obtain ⟨-, o, ho, hc⟩ := hr _ er.symm
      rw [b2] at ho
      cases ho
      cases hc
    case assign =>
      intro l pre x W K hI hK
      unfold PartQ.encs ET.agg PartQ.kv
      gi_wp2
      obtain ⟨i0, i1, i2, i3, i4, i5, i6⟩ := hI
      exact hK _ _ ((KeepsOthers.alloc _ _).from _) (KpS.alloc _ _ _) ⟨(Below.heap_alloc _ _ _ (lt_of_heap i0)).trans i0, (Below.heap_alloc _ _ _ (lt_of_heap i1)).trans i1, (Below.heap_alloc _ _ _ (lt_of_heap i2)).trans i2, (Below.heap_alloc _ _ _ (lt_of_heap i3)).trans i3, i4, i5.alloc i5.size _, by (rw [World.size_alloc]; omega)⟩ ⟨W.heap.size, i6, heap_alloc_new _ _, rfl⟩
    case body =>
      intro l pre x a' W hl hlr hI hA hlt
      obtain ⟨i0, i1, i2, i3, i4, i5, i6⟩ := hI
      obtain ⟨Bx, b1, b2, rfl⟩ := hA
      have n0 : W.cell? ⟨H + 1, 0, none⟩ = some (.slice va cols.length vcc) := cell_of_heap i1 rfl
      have z0 := cell_of_heap (o := 0) i2 rfl
      have g0 := frozen_of_heap (o := 0) i2
      have z1 := cell_of_heap (o := 1) i2 rfl
      have g1 := frozen_of_heap (o := 1) i2
      have z2 := cell_of_heap (o := 2) i2 rfl
      have g2 := frozen_of_heap (o := 2) i2
      have z3 := cell_of_heap (o := 3) i2 rfl
      have g3 := frozen_of_heap (o := 3) i2
      have z4 := cell_of_heap (o := 4) i2 rfl
      have g4 := frozen_of_heap (o := 4) i2
      have z5 := cell_of_heap (o := 5) i2 rfl
      have g5 := frozen_of_heap (o := 5) i2
      have z6 := cell_of_heap (o := 6) i2 rfl
      have g6 := frozen_of_heap (o := 6) i2
      have q0 : W.cell? ⟨H + 1 + 1 + 1, 0, none⟩ = some (.int .u16 0) := cell_of_heap i3 rfl
      have q1 : W.frozen? ⟨H + 1 + 1 + 1, 0, none⟩ = false := frozen_of_heap i3
      have x0 : W.cell? ⟨Bx, 0, none⟩ = some (.int .u8 x.e.op) := cell_of_heap b2 rfl
      have x2 : W.cell? ⟨Bx, 2, none⟩ = some (.int .i64 x.e.col) := cell_of_heap b2 rfl
      have hx := x.fit
      have hcw := HCOLS.out.below i5
      have hgo : ¬ TkBad cols x.e → KeepsFrom W0.heap.size W W ∧ KpS (fun g => g = H + 1 + 1 ∨ g = H + 1 + 1 + 1) W W ∧ W.heap[H]? = some (.cells #[.int .u8 e.op, .slice a e.kids.length cc, .int .i64 e.col, .int .u8 e.lit.kind, .bool e.lit.bool, .int .i64 e.lit.int, .string e.lit.text] 27 (0, 0)) ∧ W.heap[H + 1]? = some (.cells #[.slice va cols.length vcc] 44 (0, 0)) ∧ W.heap[H + 1 + 1]? = some (.cells #[.int .u8 0, .slice none 0 0, .int .i64 0, .int .u8 0, .bool false, .int .i64 0, .string ⟨#[]⟩] 27 (0, 0)) ∧ W.heap[H + 1 + 1 + 1]? = some (.cells #[.int .u16 0] 35 (0, 0)) ∧ TkAll cols (pre ++ [x]) ∧ Below w.heap.size w W ∧ W0.heap.size ≤ W.heap.size := fun h => ⟨KeepsFrom.refl _ _, KpS.refl _ _, i0, i1, i2, i3, i4.snoc h, i5, i6⟩
      have hlv : TkBad cols x.e → KeepsFrom W0.heap.size W ((setRow7 W (H + 1 + 1) (.int .u8 0) (.slice none 0 0) (.int .i64 0) (.int .u8 0) (.bool false) (.int .i64 0) (.string ⟨#[]⟩)).setCell ⟨H + 1 + 1 + 1, 0, none⟩ (.int .u16 30)) ∧ (((setRow7 W (H + 1 + 1) (.int .u8 0) (.slice none 0 0) (.int .i64 0) (.int .u8 0) (.bool false) (.int .i64 0) (.string ⟨#[]⟩)).setCell ⟨H + 1 + 1 + 1, 0, none⟩ (.int .u16 30)).heap[H + 1 + 1]? = some (.cells #[.int .u8 0, .slice none 0 0, .int .i64 0, .int .u8 0, .bool false, .int .i64 0, .string ⟨#[]⟩] 27 (0, 0)) ∧ ((setRow7 W (H + 1 + 1) (.int .u8 0) (.slice none 0 0) (.int .i64 0) (.int .u8 0) (.bool false) (.int .i64 0) (.string ⟨#[]⟩)).setCell ⟨H + 1 + 1 + 1, 0, none⟩ (.int .u16 30)).heap[H + 1 + 1 + 1]? = some (.cells #[.int .u16 30] 35 (0, 0)) ∧ TkNo cols (pre ++ [x]) ∧ Below w.heap.size w ((setRow7 W (H + 1 + 1) (.int .u8 0) (.slice none 0 0) (.int .i64 0) (.int .u8 0) (.bool false) (.int .i64 0) (.string ⟨#[]⟩)).setCell ⟨H + 1 + 1 + 1, 0, none⟩ (.int .u16 30))) := fun h =>
        ⟨(setRow7_keeps.trans (KeepsOthers.setCell _ _ _)).from _, (heap_set_ne (by omega)).trans (setRow7_at i2), (heap_set_same ((setRow7_ne (by omega)).trans i3)).trans (by simp), TkNo.snoc h, (setRow7_below i5 (by have := EH.out; omega)).setCell (p := ⟨H + 1 + 1 + 1, 0, none⟩) (by have := EH.out; show w.heap.size ≤ H + 1 + 1 + 1; omega) _⟩
      have HGO := Lib.hid hgo
      have HLV := Lib.hid hlv
      clear i0 i1 i2 i3 i4 i5 b2 hgo hlv
      by_cases o1 : x.e.op = 1
      · obtain ⟨hc0, hc1⟩ := hx.col o1
        obtain ⟨cv, hcv⟩ : ∃ cv, cols[x.e.col.toNat]? = some cv := ⟨cols[x.e.col.toNat]'(by omega), List.getElem?_eq_getElem _⟩
        have hget : cols.getD x.e.col.toNat 0 = cv := by rw [List.getD_eq_getElem?_getD, hcv]; rfl
        obtain ⟨va', vc', hve, -, hci⟩ := hcw
        cases hve
        obtain ⟨bc, oc, rfl, -, hcell⟩ := hci (List.ne_nil_of_length_pos (by omega))
        have y0 := hcell _ _ hcv
        have xc : (x.e.col.toNat : Int) = x.e.col := by omega
        have hbad : TkBad cols x.e ↔ ¬ (0 ≤ cv ∧ cv ≤ 9999) := by
          unfold TkBad
          rw [hget]
          exact ⟨fun h => h.2, fun h => ⟨o1, h⟩⟩
        have HBAD := Lib.hid hbad
        have O1 := Lib.hid o1
        rw [o1] at x0
        clear hci hcell hget hcv hbad hx o1
        rcases (show (cv < 0 ∨ (0 ≤ cv ∧ 9999 < cv)) ∨ (0 ≤ cv ∧ cv ≤ 9999) by omega) with (h | ⟨h, h'⟩) | ⟨h, h'⟩
        · gi_wp2
          have hb := HBAD.out.2 (by omega)
          exact ⟨(HLV.out hb).1, rfl, (HLV.out hb).2⟩
        · gi_wp2
          have hb := HBAD.out.2 (by omega)
          exact ⟨(HLV.out hb).1, rfl, (HLV.out hb).2⟩
        · gi_wp2
          exact HGO.out fun hb => HBAD.out.1 hb ⟨h, h'⟩
      · have e1 : (x.e.op == 1) = false := by simpa using o1
        clear hcw hx
        gi_wp2
        exact HGO.out fun hb => o1 hb.1
    case done =>
      intro D xs W hD hS hI hK
      obtain ⟨i0, i1, i2, i3, i4, i5, i6⟩ := hI
      have htok : e.tok cols = true := (ET.tok_of_pre cols okD e 1 HGOOD.out).1 (by
        rw [← hS]
        intro y hy
        obtain ⟨x, hx, rfl⟩ := List.mem_map.1 hy
        exact i4.at x hx)
      have ht := WIDE.out (n - 1) 51 _ W _ (turned_51 cols e (size_of_may HMAY.out) (fun _ => True) _ _ 1 W (HAT.out.below i5) (HCOLS.out.below i5) HFIT.out HGOOD.out HWI.out)
      unfold ET.agg at ht
      have HT51 := Lib.hid ht
      have hyes := rTurn_yes ⟨HMAY.out, HWI.out, htok⟩
      have HYES := Lib.hid hyes
      have n0 : W.cell? ⟨H + 1, 0, none⟩ = some (.slice va cols.length vcc) := cell_of_heap i1 rfl
      have y0 := cell_of_heap (o := 0) i0 rfl
      have y1 := cell_of_heap (o := 1) i0 rfl
      have y2 := cell_of_heap (o := 2) i0 rfl
      have y3 := cell_of_heap (o := 3) i0 rfl
      have y4 := cell_of_heap (o := 4) i0 rfl
      have y5 := cell_of_heap (o := 5) i0 rfl
      have y6 := cell_of_heap (o := 6) i0 rfl
      have I2 := Lib.hid i2
      have I3 := Lib.hid i3
      have I5 := Lib.hid i5
      have HKD := Lib.hid hK
      clear ht hyes i0 i1 i2 i3 i4 i5 htok hK
      gi_wp2_with (gi_at_call 51; refine HT51.out.mono ?_; rintro ev w5 ⟨kv', rfl, hon, hb5⟩; obtain ⟨a5, c5, rfl⟩ := hon.slice; have t3 := (hb5.block _ (lt_of_heap I2.out)).trans I2.out; have t4 := (hb5.block _ (lt_of_heap I3.out)).trans I3.out; have z0 := cell_of_heap (o := 0) t3 rfl; have g0 := frozen_of_heap (o := 0) t3; have z1 := cell_of_heap (o := 1) t3 rfl; have g1 := frozen_of_heap (o := 1) t3; have z2 := cell_of_heap (o := 2) t3 rfl; have g2 := frozen_of_heap (o := 2) t3; have z3 := cell_of_heap (o := 3) t3 rfl; have g3 := frozen_of_heap (o := 3) t3; have z4 := cell_of_heap (o := 4) t3 rfl; have g4 := frozen_of_heap (o := 4) t3; have z5 := cell_of_heap (o := 5) t3 rfl; have g5 := frozen_of_heap (o := 5) t3; have z6 := cell_of_heap (o := 6) t3 rfl; have g6 := frozen_of_heap (o := 6) t3; have q0 := cell_of_heap (o := 0) t4 rfl; have q1 := frozen_of_heap (o := 0) t4; have T3 := Lib.hid t3; have T4 := Lib.hid t4; have HON := Lib.hid hon; have HB5 := Lib.hid hb5; clear t3 t4 hon hb5)
      obtain ⟨W7, eW⟩ : ∃ W7, W7 = (setRow7 w5 (H + 1 + 1) (.int .u8 (e.turn cols).op) (.slice a5 (e.turn cols).kids.length c5) (.int .i64 (e.turn cols).col) (.int .u8 (e.turn cols).lit.kind) (.bool (e.turn cols).lit.bool) (.int .i64 (e.turn cols).lit.int) (.string (e.turn cols).lit.text)).setCell ⟨H + 1 + 1 + 1, 0, none⟩ (.int .u16 0) := ⟨_, rfl⟩
      have hs := HS0.out
      have hh := EH.out
      have hDW : D < W.heap.size := lt_of_heap HKD.out
      have hK7 : W7.heap[D]? = some (.deferred (some [])) := by
        rw [eW]
        exact (heap_set_ne (by omega)).trans ((setRow7_ne (by omega)).trans ((HB5.out.block D hDW).trans HKD.out))
      have hne : ∀ g, W.heap.size ≤ g → W7.heap[g]? = w5.heap[g]? := fun g hg => by
        rw [eW]
        exact (heap_set_ne (by omega)).trans (setRow7_ne (by omega))
      have h2 : W7.heap[H + 1 + 1]? = some (.cells #[.int .u8 (e.turn cols).op, .slice a5 (e.turn cols).kids.length c5, .int .i64 (e.turn cols).col, .int .u8 (e.turn cols).lit.kind, .bool (e.turn cols).lit.bool, .int .i64 (e.turn cols).lit.int, .string (e.turn cols).lit.text] 27 (0, 0)) := by
        rw [eW]
        exact (heap_set_ne (by omega)).trans (setRow7_at T3.out)
      have h3 : W7.heap[H + 1 + 1 + 1]? = some (.cells #[.int .u16 0] 35 (0, 0)) := by
        rw [eW]
        exact (heap_set_same ((setRow7_ne (by omega)).trans T4.out)).trans (by simp)
      have hB7 : Below w.heap.size w W7 := by
        rw [eW]
        exact (setRow7_below (I5.out.trans (HB5.out.mono I5.out.size)) (by omega)).setCell (p := ⟨H + 1 + 1 + 1, 0, none⟩) (by show w.heap.size ≤ H + 1 + 1 + 1; omega) _
      have hsz7 : W7.heap.size = w5.heap.size := by rw [eW]; simp [World.setCell, setRow7]
      subst eW
      refine ⟨by simp, .inl ⟨_, _, rfl, run_takeDeferred hK7, ?_⟩⟩
      have hg := grownBy_putObj' (((setRow7 w5 (H + 1 + 1) (.int .u8 (e.turn cols).op) (.slice a5 (e.turn cols).kids.length c5) (.int .i64 (e.turn cols).col) (.int .u8 (e.turn cols).lit.kind) (.bool (e.turn cols).lit.bool) (.int .i64 (e.turn cols).lit.int) (.string (e.turn cols).lit.text)).setCell ⟨H + 1 + 1 + 1, 0, none⟩ (.int .u16 0))) D (.deferred none)
      have e2 := (hg.block (H + 1 + 1) (lt_of_heap h2) fun er => by cases er; omega).trans h2
      have e3 := (hg.block (H + 1 + 1 + 1) (lt_of_heap h3) fun er => by cases er; omega).trans h3
      refine ⟨_, results_row_cell rfl _ _ (H + 1 + 1) (H + 1 + 1 + 1) 27 35 _ (0, 0) (0, 0) _ (.int .u16 0) rfl rfl e2 e3 Tryz.underlying27 rfl (by kernel_rfl) (Tryz.isAgg35 _), ?_⟩
      refine ⟨a5, (e.turn cols).kids.length, c5, by rw [HYES.out.1, HYES.out.2]; rfl, ?_, hB7.trans (belowK_b (w := W0) (by omega) _ D _ _ hD hK7 rfl rfl)⟩
      rw [HYES.out.1]
      have hsz8 := hg.size
      refine (HON.out.frame fun g hg9 hgl => ?_).wide fun g hg9 => ⟨by have := hg9.1; have := I5.out.size; omega, Nat.lt_of_lt_of_le hg9.2 (Nat.le_trans (Nat.le_of_eq hsz7.symm) hg.size)⟩
      have hg1 := hg9.1
      exact (hg.block g (by rw [hsz7]; exact hgl) fun er => by cases er; omega).trans (hne g hg1)
    case stop =>
      intro D c pre W hD hS hI hK
      obtain ⟨rfl, i1, i2, i3, i4⟩ := hI
      have hno3 : ¬ (e.may okD = true ∧ e.within cols.length = true ∧ e.tok cols = true) := fun h =>
        absurd ((ET.tok_of_pre cols okD e 1 HGOOD.out).2 h.2.2) fun h => i3.out fun x hx => h _ (hS.subset (List.mem_map.2 ⟨x, hx, rfl⟩))
      gi_wp2
      refine ⟨by simp, .inl ⟨_, _, rfl, run_takeDeferred hK, ?_⟩⟩
      have hs := HS0.out
      have hh := EH.out
      have hg := grownBy_putObj' W D (.deferred none)
      have e2 := (hg.block (H + 1 + 1) (lt_of_heap i1) fun er => by cases er; omega).trans i1
      have e3 := (hg.block (H + 1 + 1 + 1) (lt_of_heap i2) fun er => by cases er; omega).trans i2
      refine ⟨_, results_row_cell rfl _ _ (H + 1 + 1) (H + 1 + 1 + 1) 27 35 _ (0, 0) (0, 0) _ (.int .u16 30) rfl rfl e2 e3 Tryz.underlying27 rfl (by kernel_rfl) (Tryz.isAgg35 _), ?_⟩
      exact t18_no hno3 (i4.trans (belowK_b (w := W0) (by omega) _ D _ _ hD hK rfl rfl))
end Go.Proofs.YtolikaginhjbhaaGreatDoor
