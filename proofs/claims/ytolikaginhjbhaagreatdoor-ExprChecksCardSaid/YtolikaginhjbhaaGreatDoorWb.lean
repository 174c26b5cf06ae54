import Derived.Test.YtolikaginhjbhaaGreatDoorWa
/- expr.Columns. -/
namespace Go.Proofs.YtolikaginhjbhaaGreatDoor
open Go.RowKit Go.Pen Go.Shelf Go.Maps Go.Sort Go.Proofs
attribute [local go_sem] Oper.semAt_some

/-- the columns' numbers of an expression's parts, as they come -/
def colsOf (ps : List (Nat × ET)) : List Int := (ps.filter fun x => decide (x.2.op = 1) && decide (x.1 ≤ 60)).map fun x => x.2.col
theorem colsOf_append (a b : List (Nat × ET)) : colsOf (a ++ b) = colsOf a ++ colsOf b := by simp [colsOf]
theorem colsOf_one (x : Nat × ET) : colsOf [x] = if x.2.op = 1 ∧ x.1 ≤ 60 then [x.2.col] else [] := by
  simp only [colsOf, List.filter_cons, List.filter_nil]
  by_cases h : x.2.op = 1 ∧ x.1 ≤ 60
  · simp [h]
  · rw [if_neg h, if_neg (by simpa using h)]; rfl
/-- a map whose keys are these numbers -/
structure KeysAre {H : Type} (D : DataW H) (l : List Int) : Prop where
  tidy : Tidy D
  has : ∀ c, Maps.has D (.int .i64 c) = true ↔ c ∈ l
theorem KeysAre.nil {H : Type} : KeysAre (H := H) (.map []) [] := ⟨tidy_empty, fun c => by simp [has_eq]⟩
theorem KeysAre.put {H : Type} {D : DataW H} {l : List Int} (h : KeysAre D l) (c : Int) (d : DataW H) : KeysAre (D.put (.int .i64 c) d) (l ++ [c]) :=
  ⟨h.tidy.put (k := .int .i64 c) trivial d, fun x => by
    by_cases e : x = c
    · subst e; rw [has_put_same (k := .int .i64 x) h.tidy.isMap trivial]; simp
    · rw [has_put_other (fun e2 => e (by simpa using e2)), h.has x]; simp [e]⟩

/-- numbers, each once, ascending -/
structure Ups (l ks : List Int) : Prop where
  up : ks.Pairwise (· < ·)
  mem : ∀ c, c ∈ ks ↔ c ∈ l
theorem pre_len : ∀ (e : ET) (deep : Nat), (e.pre deep).length ≤ e.size := by
  refine ET.ind fun o c d ks ih deep => ?_
  simp only [ET.pre, ET.size, List.length_cons]
  have : ∀ (l : List ET), (∀ k ∈ l, ∀ deep, (k.pre deep).length ≤ k.size) → ∀ deep, (ET.pres l deep).length ≤ ET.sizes l := by
    intro l
    induction l with
    | nil => intro _ _; simp [ET.pres, ET.sizes]
    | cons k l ih2 =>
      intro h deep
      simp only [ET.pres, ET.sizes, List.length_append]
      have := h k (by simp) deep
      have := ih2 (fun x hx => h x (by simp [hx])) deep
      omega
  split
  · have := this ks ih (deep + 1); omega
  · simp

theorem putObj_ne {w : World} {d g : Nat} {o : Obj} (h : d ≠ g) : (w.putObj d o).heap[g]? = w.heap[g]? := by
  simp [World.putObj, h]
theorem ups_of {D : DataW Unit} {l ss : List Int} {w : World} {b n : Nat} (hk : KeysAre D l) (ho : w.ownsMap Tryz.prog 3 (plainElem Tryz.prog 3) b n D) (hp : ss.Perm (intKeys D)) : Ups l (ss.mergeSort fun x y => decide (x ≤ y)) := by
  obtain ⟨es, rfl, hpw⟩ := hk.tidy
  obtain ⟨es', hD', hko⟩ := ho.keysOf
  obtain rfl : es = es' := by simpa using hD'
  have hkk : ∀ p ∈ es, ∃ x, p.1 = .int .i64 x := fun p hp => by
    obtain ⟨v, hv⟩ := hko p hp
    obtain ⟨x, _, hx, _⟩ := Maps.keyOf_i64 Tryz.underlying3 hv
    exact ⟨x, hx⟩
  have hnd : (intKeys (.map es)).Nodup := by
    show (es.map fun p => Go.intOf p.1).Nodup
    refine List.pairwise_map.2 (hpw.imp_of_mem fun {p q} hp' hq' hne e => hne ?_)
    obtain ⟨a, ha⟩ := hkk p hp'
    obtain ⟨b, hb⟩ := hkk q hq'
    rw [ha, hb] at e ⊢
    exact congrArg _ e
  have hm : ∀ x, x ∈ intKeys (.map es) ↔ x ∈ l := fun x => by
    rw [← hk.has x, has_eq, List.any_eq_true]
    show x ∈ (es.map fun p => Go.intOf p.1) ↔ _
    rw [List.mem_map]
    constructor
    · rintro ⟨p, hp', rfl⟩
      obtain ⟨a, ha⟩ := hkk p hp'
      exact ⟨p, hp', by rw [ha]; simp [Lit.sameKey, Go.intOf]⟩
    · rintro ⟨p, hp', hs⟩
      obtain ⟨a, ha⟩ := hkk p hp'
      rw [ha] at hs
      exact ⟨p, hp', by rw [ha]; simpa [Lit.sameKey, Go.intOf] using hs⟩
  have hq : (ss.mergeSort fun x y => decide (x ≤ y)).Perm (intKeys (.map es)) := (List.mergeSort_perm ss _).trans hp
  refine ⟨?_, fun c => (hq.mem_iff).trans (hm c)⟩
  have hs := List.pairwise_mergeSort (le := fun x y : Int => decide (x ≤ y)) (fun a b c h1 h2 => by simp at *; omega) (fun a b => by simp; omega) ss
  have hn := hq.nodup_iff.2 hnd
  refine (hs.and hn).imp fun {a b} h => ?_
  have h1 : a ≤ b := by simpa using h.1
  have h2 : a ≠ b := h.2
  omega
theorem keyed3 : Keyed Tryz.prog 3 := int_keyed Tryz.underlying3
theorem zero3 (w : World) : (zeroValue 3).run Tryz.prog w = .ok (.int .i64 0) w := by kernel_rfl
theorem col_wf {e : ET} (h : e.fits) : (Lit.int .i64 e.col).wf = true := by
  obtain ⟨o, c, d, ks⟩ := e
  simp only [ET.fits] at h
  simp only [ET.col, Lit.wf, IntKind.min, IntKind.max, IntKind.signed, IntKind.bits, Bool.and_eq_true, decide_eq_true_eq, if_true]
  have := h.2.1
  omega

set_option maxRecDepth 100000 in
set_option maxHeartbeats 1000000 in
theorem columns_22 (e : ET) (a : Option Addr) (cc : Nat) (w : World) (hfit : e.fits) (hat : e.At w (.slice a e.kids.length cc)) (hsz : e.size ≤ 1000000) :
    Calls Tryz.prog 22 #[e.agg (.slice a e.kids.length cc)] w fun ev w' => ∃ (v : Value) (ks : List Int), ev = .returned v ∧ Ups (colsOf (e.pre 1)) ks ∧ w'.ownsRow w.heap.size 3 1 v ks.length (ks.map (Value.int .i64)) ∧ Below w.heap.size w w' := by
  have hlen := Nat.le_trans (pre_len e 1) hsz
  obtain ⟨F, eF⟩ : ∃ F, F = Fence.wide := ⟨_, rfl⟩
  have hd : F.depth = none := by rw [eF]; rfl
  have hF : ∀ f, F.fn f := fun f => by rw [eF]; trivial
  have hro : F.round = none := by rw [eF]; rfl
  obtain ⟨n, hn⟩ : ∃ n : Nat, n = 8 := ⟨8, rfl⟩
  refine (callsIn_wide (n := n)).1 ?_
  have hk56 : ∀ mb W, CallsIn F (n - 1) Tryz.prog 56 #[.map mb] W fun e w' => e = .returned (.func (.func 99) #[] #[.pointer (some ⟨W.heap.size, 0, none⟩)]) ∧ w' = W.alloc (.cells #[.map mb] 103) := fun mb W => by rw [eF]; exact keys_56 mb _ W
  have hs55 := fun (b nn c : Nat) (D0 : DataW Unit) (W : World) hc ho h1 h2 => sorted_55 (H := Unit) b nn c D0 (plainElem Tryz.prog 3) (n - 1) (by omega) W hc ho h1 h2
  rw [← eF] at hs55 ⊢
  have HK56 := Lib.hid hk56
  have HS55 := Lib.hid hs55
  clear eF hk56 hs55
  have h1 : 1 ≤ n := by omega
  have hp := fun W => parts_50 F (n - 1) (hF 50) hro e a cc W
  unfold ET.agg ET.cells at hp
  have HP := Lib.hid hp
  have HAT := Lib.hid hat
  have HFIT := Lib.hid hfit
  have HLEN := Lib.hid hlen
  clear hp hat hfit hn hsz hlen
  have hmm := @run_makeMap Tryz.prog
  unfold ET.agg
  refine callsIn_of_wp_marks Tryz.func22 rfl (hF 22) ?_ hro
  simp only [Tryz.ntmps22, List.size_toArray, List.length_cons, List.length_nil, Nat.reduceAdd, Nat.reduceSub, Array.replicate_succ, Array.replicate_zero, List.push_toArray, List.append_toArray, List.nil_append, List.cons_append]
  gi_wp2_with (gi_at_call 50; refine (HP.out _).mono ?_; rintro ev w' ⟨rfl, rfl⟩)
  clear hmm
  obtain ⟨H, eH⟩ : ∃ H, H = w.heap.size := ⟨_, rfl⟩
  obtain ⟨M, eM⟩ : ∃ M, M = H + 1 := ⟨_, rfl⟩
  obtain ⟨C, eC⟩ : ∃ C, C = H + 1 + 1 := ⟨_, rfl⟩
  obtain ⟨L, eL⟩ : ∃ L, L = H + 1 + 1 + 1 := ⟨_, rfl⟩
  obtain ⟨W0, hW0⟩ : ∃ W0, W0 = (((w.alloc (.cells #[.int .u8 e.op, .slice a e.kids.length cc, .int .i64 e.col, .int .u8 e.lit.kind, .bool e.lit.bool, .int .i64 e.lit.int, .string e.lit.text] 27)).alloc (.map #[] 0)).alloc (.cells #[.map (some (w.heap.size + 1))] 103)).alloc (.cells #[.int .u8 e.op, .slice a e.kids.length cc, .int .i64 e.col, .int .u8 e.lit.kind, .bool e.lit.bool, .int .i64 e.lit.int, .string e.lit.text] 27) := ⟨_, rfl⟩
  have hs0 : W0.heap.size = L + 1 := by rw [hW0, eL, eH]; simp
  have hb0 : Below w.heap.size w W0 := by
    rw [hW0]
    exact (three_below _ _ _ _).alloc (by simp; omega) _
  have hown0 : W0.ownsMap Tryz.prog 3 (plainElem (H := Unit) Tryz.prog 3) M 0 (.map []) := by
    have h := World.ownsMap_made (H := Unit) (w.alloc (.cells #[.int .u8 e.op, .slice a e.kids.length cc, .int .i64 e.col, .int .u8 e.lit.kind, .bool e.lit.bool, .int .i64 e.lit.int, .string e.lit.text] 27)) Tryz.prog 3 (plainElem Tryz.prog 3)
    rw [World.size_alloc, ← eH, ← eM] at h
    rw [hW0]
    exact (h.alloc _).alloc _
  have rC : W0.heap[C]? = some (.cells #[.map (some M)] 103 (0, 0)) := by
    rw [hW0, eC, eM, eH]
    have h := heap_alloc_new ((w.alloc (.cells #[.int .u8 e.op, .slice a e.kids.length cc, .int .i64 e.col, .int .u8 e.lit.kind, .bool e.lit.bool, .int .i64 e.lit.int, .string e.lit.text] 27)).alloc (.map #[] 0)) (.cells #[.map (some (w.heap.size + 1))] 103)
    rw [World.size_alloc, World.size_alloc] at h
    exact (Below.heap_alloc _ _ _ (lt_of_heap h)).trans h
  have rL : W0.heap[L]? = some (.cells #[.int .u8 e.op, .slice a e.kids.length cc, .int .i64 e.col, .int .u8 e.lit.kind, .bool e.lit.bool, .int .i64 e.lit.int, .string e.lit.text] 27 (0, 0)) := by
    rw [hW0, eL, eH]
    have h := heap_alloc_new (((w.alloc (.cells #[.int .u8 e.op, .slice a e.kids.length cc, .int .i64 e.col, .int .u8 e.lit.kind, .bool e.lit.bool, .int .i64 e.lit.int, .string e.lit.text] 27)).alloc (.map #[] 0)).alloc (.cells #[.map (some (w.heap.size + 1))] 103)) (.cells #[.int .u8 e.op, .slice a e.kids.length cc, .int .i64 e.col, .int .u8 e.lit.kind, .bool e.lit.bool, .int .i64 e.lit.int, .string e.lit.text] 27)
    rw [World.size_alloc, World.size_alloc, World.size_alloc] at h
    exact h
  rw [← hW0, ← eH, ← eL, ← eC, ← eM]
  have HB0 := Lib.hid hb0
  have HS0 := Lib.hid hs0
  have EH := Lib.hid eH
  have EM := Lib.hid eM
  have EC := Lib.hid eC
  have EL := Lib.hid eL
  have RC := Lib.hid rC
  have RL := Lib.hid rL
  have HO0 := Lib.hid hown0
  clear hW0 hs0 hb0 eH eM eC eL rC rL hown0
  refine wpIn_rangeFunc_ownH hro h1 (gf := 94) (lb := #[.pointer (some ⟨L, 0, none⟩)]) rfl (hF 94) (enters_of Tryz.func94 (by kernel_rfl) rfl)
    (parts_stops F hd (n - 1) (hF 94) (hF 95) hro L (fun _ => False) e a cc HFIT.out W0 ?kc ?sl ?on) (fun h k => h.trans k) ?kb (Below.refl _ _) (fun _ => rfl)
    (fun pre W => (∃ D, W.ownsMap Tryz.prog 3 (plainElem (H := Unit) Tryz.prog 3) M pre.length D ∧ KeysAre D (colsOf (pre.map Part.core))) ∧ W.heap[C]? = some (.cells #[.map (some M)] 103 (0, 0)) ∧ Below w.heap.size w W ∧ W0.heap.size ≤ W.heap.size)
    (fun c pre W => False)
    ?oi ?oix ⟨⟨_, HO0.out, KeysAre.nil⟩, RC.out, HB0.out, Nat.le_refl _⟩
    (fun x a' W => ∃ Bx, W0.heap.size ≤ Bx ∧ W.heap[Bx]? = some (.cells #[.int .u8 x.e.op, .slice x.a x.e.kids.length x.c, .int .i64 x.e.col, .int .u8 x.e.lit.kind, .bool x.e.lit.bool, .int .i64 x.e.lit.int, .string x.e.lit.text] 27 (0, 0)) ∧ a' = { tmps := #[.agg #[.int .u8 e.op, .slice a e.kids.length cc, .int .i64 e.col, .int .u8 e.lit.kind, .bool e.lit.bool, .int .i64 e.lit.int, .string e.lit.text], .pointer (some ⟨H, 0, none⟩), .slice none 0 0, .pointer (some ⟨C, 0, none⟩), .int .i64 x.deep, .pointer (some ⟨Bx, 0, none⟩), .map (some M), .agg #[.int .u8 e.op, .slice a e.kids.length cc, .int .i64 e.col, .int .u8 e.lit.kind, .bool e.lit.bool, .int .i64 e.lit.int, .string e.lit.text], .func (.func 94) #[] #[.pointer (some ⟨L, 0, none⟩)], .int .i64 x.deep, .agg #[.int .u8 x.e.op, .slice x.a x.e.kids.length x.c, .int .i64 x.e.col, .int .u8 x.e.lit.kind, .bool x.e.lit.bool, .int .i64 x.e.lit.int, .string x.e.lit.text], undef, undef, undef, undef, undef, undef, undef, undef, undef, undef, undef, undef, undef, undef, undef], defers := [] }) ?ax ?assign ?body ?done ?stop
  case kc =>
    exact ⟨cell_of_heap RL.out rfl, cell_of_heap RL.out rfl, cell_of_heap RL.out rfl, cell_of_heap RL.out rfl, cell_of_heap RL.out rfl, cell_of_heap RL.out rfl, cell_of_heap RL.out rfl⟩
  case sl => intro g hg; exact hg.elim
  case on => exact (HAT.out.lt.below HB0.out).wide fun g hg h => h
  case kb =>
    intro W l' oo oo' _ hl hc _
    exact kps_putObj hl hc
  case oi =>
    intro pre W W' row hI hg hr
    obtain ⟨⟨D, i1, i2⟩, i3, i4, i5⟩ := hI
    have hs := HS0.out
    have hh := EH.out
    have hl := EL.out
    have hm := EM.out
    have hc := EC.out
    exact ⟨⟨D, i1.kept hg (fun er => by have := (hr _ er.symm).1; omega), i2⟩, (hg.block _ (lt_of_heap i3) fun er => by have := (hr _ er.symm).1; omega).trans i3, i4.grown hg i4.size fun g er => by (have := (hr g er).1; omega), Nat.le_trans i5 hg.size⟩
  case oix => intro c pre W W' row hI hg hr; exact hI.elim
  case ax =>
    intro x a' _ W W' row hI hg hr
    obtain ⟨Bx, b1, b2, b3⟩ := hI
    refine ⟨Bx, b1, (hg.block _ (lt_of_heap b2) fun er => ?_).trans b2, b3⟩
    obtain ⟨-, o, ho, hc⟩ := hr _ er.symm
    rw [b2] at ho
    cases ho
    cases hc
  case assign =>
    intro l pre x W K hI hK
    unfold Part.encs ET.agg Part.kv
    gi_wp2
    obtain ⟨⟨D, i1, i2⟩, i3, i4, i5⟩ := hI
    exact hK _ _ ((KeepsOthers.alloc _ _).from _) (KpS.alloc _ _ _) ⟨⟨D, i1.alloc _, i2⟩, (Below.heap_alloc _ _ _ (lt_of_heap i3)).trans i3, i4.alloc i4.size _, by (rw [World.size_alloc]; omega)⟩ ⟨W.heap.size, i5, heap_alloc_new _ _, rfl⟩
  case body =>
    intro l pre x a' W hl hlr hI hA hlt
    obtain ⟨⟨D, i1, i2⟩, i3, i4, i5⟩ := hI
    obtain ⟨Bx, b1, b2, rfl⟩ := hA
    have x0 : W.cell? ⟨Bx, 0, none⟩ = some (.int .u8 x.e.op) := cell_of_heap b2 rfl
    have x2 : W.cell? ⟨Bx, 2, none⟩ = some (.int .i64 x.e.col) := cell_of_heap b2 rfl
    have c0 : W.cell? ⟨C, 0, none⟩ = some (.map (some M)) := cell_of_heap i3 rfl
    have hpl : pre.length < maxLen := by have := HLEN.out; unfold maxLen; omega
    have hkey : keyOf Tryz.prog 3 (.int .i64 x.e.col) = some (.int .i64 x.e.col) := keyOf_int_mk Tryz.underlying3 (col_wf x.fit)
    have hno : ¬ (x.e.op = 1 ∧ (x.deep : Int) ≤ 60) → KeepsFrom W0.heap.size W W ∧ KpS (fun _ => False) W W ∧ (∃ D, W.ownsMap Tryz.prog 3 (plainElem (H := Unit) Tryz.prog 3) M (pre ++ [x]).length D ∧ KeysAre D (colsOf ((pre ++ [x]).map Part.core))) ∧ W.heap[C]? = some (.cells #[.map (some M)] 103 (0, 0)) ∧ Below w.heap.size w W ∧ W0.heap.size ≤ W.heap.size := fun h => by
      refine ⟨KeepsFrom.refl _ _, KpS.refl _ _, ⟨D, i1.mono (by simp), ?_⟩, i3, i4, i5⟩
      rw [List.map_append, colsOf_append]
      simp only [List.map_cons, List.map_nil, colsOf_one, Part.core]
      rw [if_neg (fun h2 => h ⟨h2.1, by omega⟩), List.append_nil]
      exact i2
    have hyes : (x.e.op = 1 ∧ (x.deep : Int) ≤ 60) → ∀ (d : DataW Unit) W1, W1.ownsMap Tryz.prog 3 (plainElem (H := Unit) Tryz.prog 3) M (pre.length + 1) (D.put (.int .i64 x.e.col) d) → W.grownBy W1 (some M) → KeepsFrom W0.heap.size W W1 ∧ KpS (fun _ => False) W W1 ∧ (∃ D, W1.ownsMap Tryz.prog 3 (plainElem (H := Unit) Tryz.prog 3) M (pre ++ [x]).length D ∧ KeysAre D (colsOf ((pre ++ [x]).map Part.core))) ∧ W1.heap[C]? = some (.cells #[.map (some M)] 103 (0, 0)) ∧ Below w.heap.size w W1 ∧ W0.heap.size ≤ W1.heap.size := fun h d W1 ho hg => by
      have hs := HS0.out
      have hl := EL.out
      have hm := EM.out
      have hh := EH.out
      have hc := EC.out
      refine ⟨KeepsFrom.of_grownBy hg (fun j hj => by cases hj; omega), ⟨hg.size, fun g c t f hgc _ => (hg.block g (lt_of_heap hgc) fun er => ?_).trans hgc⟩, ⟨_, by rw [List.length_append]; exact ho, ?_⟩, (hg.block _ (lt_of_heap i3) fun er => ?_).trans i3, i4.grown hg i4.size fun g er => ?_, Nat.le_trans i5 hg.size⟩
      · obtain rfl : g = M := Option.some.inj er
        obtain ⟨es, clock, hb, -⟩ := i1
        rw [hb] at hgc
        cases hgc
      · rw [List.map_append, colsOf_append]
        simp only [List.map_cons, List.map_nil, colsOf_one, Part.core]
        rw [if_pos ⟨h.1, by omega⟩]
        exact i2.put _ _
      · have := Option.some.inj er; omega
      · have := Option.some.inj er; omega
    have HNO := Lib.hid hno
    have HYES := Lib.hid hyes
    have hown := i1
    clear i1 i2 i3 i4 b2 hno hyes
    gi_wp2_with (first
      | (gi_at_lookup; refine wpListIn_lookup_own_int _ rfl _ _ 103 rfl 3 3 .i64 keyed3 Tryz.underlying103 Tryz.underlying3 (zero3 _) M pre.length _ rfl hown _ _ rfl hkey ?_; intro c hat hwc)
      | (gi_at_mapUpdate; refine wpListIn_mapUpdate_own _ rfl _ _ _ 103 rfl 3 3 keyed3 Tryz.underlying103 _ M pre.length _ rfl hown hpl _ _ _ rfl rfl hkey _ [] (plainElem_int Tryz.underlying3 (wrap64_wf _)) ?_; intro w1 hown1 hgrow1))
    all_goals first | exact HNO.out (by rintro ⟨h1, h2⟩; omega) | exact HYES.out ⟨by assumption, by assumption⟩ _ _ hown1 hgrow1
  case done =>
    intro DD xs W hD hS hI hK
    obtain ⟨⟨D, i1, i2⟩, i3, i4, i5⟩ := hI
    rw [hS] at i2
    have hxl : xs.length = (e.pre 1).length := by rw [← hS, List.length_map]
    have hsl := i1.size_le
    have hlen := HLEN.out
    have c1 : W.cell? ⟨C, 0, none⟩ = some (.map (some M)) := cell_of_heap i3 rfl
    have hs5 := HS55.out M xs.length W.heap.size D (W.alloc (.cells #[.map (some M)] 103)) (heap_alloc_new _ _) (i1.alloc _) (by unfold maxLen; omega) (by omega)
    have HS5 := Lib.hid hs5
    have HU := Lib.hid (fun ss hp => ups_of (ss := ss) i2 i1 hp)
    have I4 := Lib.hid i4
    have I5 := Lib.hid i5
    have HKD := Lib.hid hK
    clear hs5 i1 i2 i3 i4 i5 hS hxl hsl hlen hK
    gi_wp2_with (first | (gi_at_call 56; refine (HK56.out _ _).mono ?_; rintro ev w' ⟨rfl, rfl⟩) | (gi_at_call 55; refine HS5.out.mono ?_; rintro ev w6 ⟨v, ss, rfl, hperm, hrow, -, hb6⟩; have HPM := Lib.hid hperm; have HRW := Lib.hid hrow; have HB6 := Lib.hid hb6; clear hperm hrow hb6))
    have hb6 := HB6.out
    have hD6 : DD < W.heap.size := lt_of_heap HKD.out
    have hKD : w6.heap[DD]? = _ := (hb6.block DD (by rw [World.size_alloc]; omega)).trans ((Below.heap_alloc _ _ _ hD6).trans HKD.out)
    refine ⟨by simp, .inl ⟨_, _, rfl, run_takeDeferred hKD, ?_⟩⟩
    refine ⟨v, by simp [results, Tryz.f22, go_sem], ?_⟩
    have hups := HU.out ss HPM.out
    have hsz6 := hb6.size
    rw [World.size_alloc] at hsz6
    have hbw : Below w.heap.size w w6 := I4.out.trans ((((Below.refl W.heap.size W).alloc (Nat.le_refl _) _).trans (hb6.mono (by rw [World.size_alloc]; omega))).mono I4.out.size)
    have hww := I4.out.size
    have hw0 := I5.out
    refine ⟨v, ss.mergeSort (fun x y => decide (x ≤ y)), rfl, hups, ?_, hbw.trans (belowK_b (w := W0) (by have := HB0.out.size; omega) _ DD _ _ hD hKD rfl rfl)⟩
    have hl : (ss.mergeSort (fun x y => decide (x ≤ y))).length = ss.length := List.length_mergeSort _
    rw [hl]
    have hr := HRW.out
    refine ⟨hr.1, ?_⟩
    rcases hr.2 with h | ⟨g, cap, cur, hv, hb, hh, h3⟩
    · exact .inl h
    · refine .inr ⟨g, cap, cur, hv, by rw [World.size_alloc] at hb; omega, ?_, h3⟩
      have hne : DD ≠ g := by rw [World.size_alloc] at hb; omega
      rw [← hh]
      exact putObj_ne hne
  case stop => intro D c pre W hD hS hI hK; exact hI.elim
end Go.Proofs.YtolikaginhjbhaaGreatDoor
