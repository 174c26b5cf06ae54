import Derived.Test.YtolikaginhjbhaaGreatDoorMem
import Derived.Test.YtolikaginhjbhaaGreatDoorB
import Derived.Deep.Slices
import Derived.SizedLaws
import Derived.Test.YtolikaginhjbhaaGreatDoorGa
import Derived.Test.YtolikaginhjbhaaGreatDoorEa
/- An expression that came in, opened. -/
namespace Go.Proofs.YtolikaginhjbhaaGreatDoor
open Go.RowKit Go.Pen

section
variable {H : Type} {enc : TypeId × Value → H} {w : World} {base : Nat} {spare : Nat → Bool} {held : Bool}

theorem addr_plain {w : World} {x : Addr} {v : Value} (h : w.cell? x = some v) : ∃ bl off, x = ⟨bl, off, none⟩ := by
  obtain ⟨bl, off, sp⟩ := x
  unfold World.cell? at h
  cases sp with
  | none => exact ⟨bl, off, rfl⟩
  | some y => split at h <;> simp at h

theorem add_zero' (x : Addr) : x.add 0 = x := by
  obtain ⟨bl, off, sp⟩ := x
  rfl

theorem range_at {α : Type} {q : Nat → α} {len i : Nat} {x : α} (h : ((List.range len).map q)[i]? = some x) : i < len ∧ x = q i := by
  rw [List.getElem?_map] at h
  obtain ⟨j, hj, rfl⟩ := Option.map_eq_some_iff.1 h
  obtain ⟨hlt, hjj⟩ := List.getElem?_eq_some_iff.1 hj
  rw [List.length_range] at hlt
  rw [List.getElem_range] at hjj
  exact ⟨hlt, by rw [hjj]⟩

theorem weightsAll_mem {P : Program} {e : TypeId} {d : DataW H} {n : Nat} : ∀ {l : List (DataW H)}, d ∈ l → n ∈ d.weights P e → n ∈ DataW.weightsAll P e l
  | [], h, _ => by cases h
  | x :: r, h, hn => by
    simp only [DataW.weightsAll, List.mem_append]
    rcases List.mem_cons.1 h with rfl | h
    · exact .inl hn
    · exact .inr (weightsAll_mem h hn)

theorem slice_weights {P : Program} {t e : TypeId} {l rest : List (DataW H)} (hu : P.underlying t = some (.slice e)) (h : ∀ n ∈ (DataW.slice l rest).weights P t, n ≤ reachBytes) (hb : 1 ≤ P.bytesOf e) :
    l.length ≤ 140737488355328 ∧ ∀ d ∈ l, ∀ n ∈ d.weights P e, n ≤ reachBytes := by
  refine ⟨?_, fun d hd n hn => h n ?_⟩
  · have h1 := h ((l.length + rest.length) * P.bytesOf e) (by simp [DataW.weights, hu])
    have h2 : l.length * 1 ≤ (l.length + rest.length) * P.bytesOf e := Nat.mul_le_mul (Nat.le_add_right _ _) hb
    unfold reachBytes at h1
    omega
  · simp only [DataW.weights, hu, List.mem_cons, List.mem_append]
    exact .inr (.inl (weightsAll_mem hd hn))

theorem agg_weights {P : Program} {t : TypeId} {fs : Array Field} {xs : List (DataW H × List MemPlace)} (hu : P.underlying t = some (.struct fs)) (h : ∀ n ∈ (DataW.agg (xs.map (·.1))).weights P t, n ≤ reachBytes) {i : Nat} {f : Field} {y : DataW H × List MemPlace} (hf : fs[i]? = some f) (hy : xs[i]? = some y) :
    ∀ n ∈ y.1.weights P f.type, n ≤ reachBytes := fun n hn => by
  refine h n ?_
  simp only [DataW.weights, hu]
  refine DataW.weights_mem_each (j := i) ?_ ?_ n hn
  · rw [List.getElem?_map, Array.getElem?_toList, hf]; rfl
  · rw [List.getElem?_map, hy]; rfl

theorem text_weight {P : Program} {t : TypeId} {s : ByteArray} (h : ∀ n ∈ (DataW.lit (H := H) (.string s.data.toList)).weights P t, n ≤ reachBytes) : s.size ≤ 140737488355328 := by
  have h1 := h s.size (by simp [DataW.weights])
  unfold reachBytes at h1
  omega

set_option maxRecDepth 100000 in
theorem open_dat {fuel : Nat} {cs : List Value} {x : DataW H × List MemPlace} (hlen : cs.length = 4) (h : DataW.trod enc Tryz.prog w base spare held fuel 25 cs = some x) (hw : ∀ n ∈ x.1.weights Tryz.prog 25, n ≤ reachBytes) :
    ∃ d : Dat, cs = [.int .u8 d.kind, .bool d.bool, .int .i64 d.int, .string d.text] ∧ d.fits := by
  obtain ⟨xs, k, hk, hxy, _, hxl, hf⟩ := DataW.trod_struct Tryz.underlying25 h
  match xs, hxl, cs, hlen with
  | [y0, y1, y2, y3], _, [v0, v1, v2, v3], _ =>
    have g0 := hf 0 _ rfl
    have g1 := hf 1 _ rfl
    have g2 := hf 2 _ rfl
    have g3 := hf 3 _ rfl
    have c23 : Tryz.prog.cellsOf 23 = 1 := by kernel_rfl
    have c4 : Tryz.prog.cellsOf 4 = 1 := by kernel_rfl
    have c2 : Tryz.prog.cellsOf 2 = 1 := by kernel_rfl
    have c9 : Tryz.prog.cellsOf 9 = 1 := by kernel_rfl
    simp [c23, c4, c2, c9] at g0 g1 g2 g3
    rw [hxy] at hw
    have hw3 := agg_weights Tryz.underlying25 hw (i := 3) rfl rfl
    obtain ⟨n0, e0, -, w0⟩ := DataW.trod_int Tryz.underlying23 g0
    obtain ⟨n1, e1, -⟩ := DataW.trod_bool Tryz.underlying4 g1
    obtain ⟨n2, e2, -, w2⟩ := DataW.trod_int Tryz.underlying2 g2
    obtain ⟨n3, e3, x3, -⟩ := DataW.trod_string Tryz.underlying9 g3
    rw [x3] at hw3
    simp only [List.cons.injEq, and_true] at e0 e1 e2 e3
    subst e0 e1 e2 e3
    refine ⟨⟨n0, n1, n2, n3⟩, rfl, ?_, ?_, text_weight hw3⟩
    · simpa [Lit.wf, IntKind.min, IntKind.max, IntKind.signed, IntKind.bits] using w0
    · simpa [Lit.wf, IntKind.min, IntKind.max, IntKind.signed, IntKind.bits] using w2

/-- a part's cells, behind an address -/
def KidCells' (w : World) (a : Addr) (k : ET) (kv : Value) : Prop := ∀ (j : Nat), j < 7 → ∀ v, (k.cells kv)[j]? = some v → w.cell? (a.add j) = some v

set_option maxRecDepth 100000 in
theorem open_expr : ∀ (fuel : Nat) {cs : List Value} {x : DataW H × List MemPlace}, cs.length = 7 → DataW.trod enc Tryz.prog w base spare held fuel 27 cs = some x → (∀ n ∈ x.1.weights Tryz.prog 27, n ≤ reachBytes) →
    ∃ (e : ET) (a : Option Addr) (c : Nat), cs = e.cells (.slice a e.kids.length c) ∧ e.At w (.slice a e.kids.length c) ∧ e.fits := by
  intro fuel
  induction fuel using Nat.strongRecOn with
  | ind fuel ih =>
    intro cs x hlen h hw
    obtain ⟨xs, k, hk, hxy, _, hxl, hf⟩ := DataW.trod_struct Tryz.underlying27 h
    match xs, hxl, cs, hlen with
    | [y0, y1, y2, y3], _, [v0, v1, v2, v3, v4, v5, v6], _ =>
      have g0 := hf 0 _ rfl
      have g1 := hf 1 _ rfl
      have g2 := hf 2 _ rfl
      have g3 := hf 3 _ rfl
      have c5 : Tryz.prog.cellsOf 5 = 1 := by kernel_rfl
      have c22 : Tryz.prog.cellsOf 22 = 1 := by kernel_rfl
      have c3 : Tryz.prog.cellsOf 3 = 1 := by kernel_rfl
      have c25 : Tryz.prog.cellsOf 25 = 4 := by kernel_rfl
      simp [c5, c22, c3, c25] at g0 g1 g2 g3
      rw [hxy] at hw
      have hw1 := agg_weights Tryz.underlying27 hw (i := 1) rfl rfl
      have hw3 := agg_weights Tryz.underlying27 hw (i := 3) rfl rfl
      obtain ⟨n0, e0, -, w0⟩ := DataW.trod_int Tryz.underlying5 g0
      obtain ⟨n2, e2, -, w2⟩ := DataW.trod_int Tryz.underlying3 g2
      obtain ⟨d, e3, fd⟩ := open_dat rfl g3 hw3
      have f0 : 0 ≤ n0 ∧ n0 ≤ 255 := by simpa [Lit.wf, IntKind.min, IntKind.max, IntKind.signed, IntKind.bits] using w0
      have f2 : -9223372036854775808 ≤ n2 ∧ n2 ≤ 9223372036854775807 := by simpa [Lit.wf, IntKind.min, IntKind.max, IntKind.signed, IntKind.bits] using w2
      simp only [List.cons.injEq, and_true] at e0 e2 e3
      obtain ⟨rfl, rfl, rfl, rfl⟩ := e3
      subst e0 e2
      rcases DataW.trod_slice Tryz.underlying22 g1 with ⟨h0, -⟩ | ⟨a, len, cap, elems, rest, n, hn, h1, hx1, hb, hl, hm, hlen1, hel, -, -⟩
      · simp only [List.cons.injEq, and_true] at h0
        subst h0
        exact ⟨.mk n0 n2 d [], none, 0, rfl, ET.On.iff.2 ⟨none, 0, rfl, fun _ => rfl, fun h => absurd rfl h⟩, by simp only [ET.fits, ET.fitss]; exact ⟨f0, f2, fd, by simp, trivial⟩⟩
      · simp only [List.cons.injEq, and_true] at h1
        subst h1
        rw [hx1] at hw1
        obtain ⟨hwl, hwe⟩ := slice_weights Tryz.underlying22 hw1 (show 1 ≤ Tryz.prog.bytesOf 27 from by rw [show Tryz.prog.bytesOf 27 = 72 by kernel_rfl]; decide)
        rw [List.length_map, hlen1] at hwl
        have ce : Tryz.prog.cellsOf 27 = 7 := by kernel_rfl
        have each : ∀ i, i < len → ∃ k : ET, ∃ kv, KidCells' w (a.add (i * 7)) k kv ∧ k.At w kv ∧ k.fits := by
          intro i hi
          have h2 := hel i hi
          rw [ce, List.getElem?_eq_getElem (by omega : i < elems.length), Option.bind_eq_some_iff] at h2
          obtain ⟨cs', hcs, hy'⟩ := h2
          obtain ⟨_, hlen', hcell⟩ := World.cells?_some hcs
          obtain ⟨e, ea, ec, he, hat, hft⟩ := ih n (by omega) hlen' hy' (hwe _ (List.mem_map.2 ⟨_, List.getElem_mem _, rfl⟩))
          subst he
          refine ⟨e, _, fun j hj v hv => ?_, hat, hft⟩
          exact (hcell j hj).trans hv
        have : Inhabited ET := ⟨.mk 0 0 d []⟩
        obtain ⟨q, hq⟩ := Go.Deep.choose_lt each
        refine ⟨.mk n0 n2 d ((List.range len).map q), some a, cap, by simp [ET.cells, ET.op, ET.col, ET.lit, ET.kids], ET.On.iff.2 ⟨some a, cap, rfl, (fun h => by cases h), fun hne => ?_⟩, ?_⟩
        · have h0 : 0 < len := by
            rcases Nat.eq_zero_or_pos len with e | h'
            · subst e; exact absurd rfl hne
            · exact h'
          obtain ⟨kv0, hk0, -, -⟩ := hq 0 h0
          have hz := hk0 0 (by decide) _ rfl
          rw [Nat.zero_mul, add_zero', add_zero'] at hz
          obtain ⟨bl, off, rfl⟩ := addr_plain hz
          refine ⟨bl, off, rfl, trivial, ET.Ons.mk fun i k hk => ?_⟩
          obtain ⟨hi, rfl⟩ := range_at hk
          obtain ⟨kv, hkc, hat, -⟩ := hq i hi
          have hc : ∀ (j : Nat), j < 7 → ∀ v, ((q i).cells kv)[j]? = some v → w.cell? ⟨bl, off + i * 7 + j, none⟩ = some v := fun j hj v hv => by
            have h := hkc j hj v hv
            rw [add_lit, add_lit] at h
            exact h
          exact ⟨kv, ⟨hc 0 (by decide) _ rfl, hc 1 (by decide) _ rfl, hc 2 (by decide) _ rfl, hc 3 (by decide) _ rfl, hc 4 (by decide) _ rfl, hc 5 (by decide) _ rfl, hc 6 (by decide) _ rfl⟩, hat⟩
        · simp only [ET.fits]
          refine ⟨f0, f2, fd, by simpa using hwl, ET.fitss_iff.2 fun k hk => ?_⟩
          obtain ⟨i, hi, rfl⟩ := List.mem_map.1 hk
          obtain ⟨_, -, -, hft⟩ := hq i (List.mem_range.1 hi)
          exact hft
end
end Go.Proofs.YtolikaginhjbhaaGreatDoor
/- A row of numbers that came in, opened. -/
namespace Go.Proofs.YtolikaginhjbhaaGreatDoor
open Go.RowKit Go.Pen

section
variable {H : Type} {enc : TypeId × Value → H} {w : World} {base : Nat} {spare : Nat → Bool} {held : Bool}

theorem range_ne {α : Type} {q : Nat → α} {len : Nat} (hne : (List.range len).map q ≠ []) : 0 < len := by
  rcases Nat.eq_zero_or_pos len with e | h
  · subst e; exact absurd rfl hne
  · exact h

set_option maxRecDepth 100000 in
theorem open_ints {fuel : Nat} {cs : List Value} {x : DataW H × List MemPlace} (h : DataW.trod enc Tryz.prog w base spare held fuel 44 cs = some x) (hw : ∀ n ∈ x.1.weights Tryz.prog 44, n ≤ reachBytes) :
    ∃ a c xs, cs = [.slice a (List.length xs) c] ∧ IntsAt w (.slice a xs.length c) xs ∧ xs.length ≤ 17592186043904 := by
  rcases Go.Deep.open_slice1 Tryz.underlying44 (by kernel_rfl) h with h0 | ⟨a, len, cap, m, n, V, D, Pl, rfl, hb, hl, hm, hmm, rfl, hx⟩
  · exact ⟨none, 0, [], h0.1, ⟨none, 0, rfl, fun _ => rfl, fun h => absurd rfl h⟩, by simp⟩
  have hlm : len ≤ m := by rw [hmm]; split <;> omega
  have hwl : len ≤ 17592186043904 := by
    have h1 : (len + (m - len)) * 8 ≤ reachBytes := by
      refine hw _ ?_
      have hb : Tryz.prog.bytesOf 3 = 8 := by kernel_rfl
      simp [DataW.weights, Tryz.underlying44, hb]
    unfold reachBytes at h1
    omega
  have each : ∀ i, i < len → ∃ z : Int, w.cell? (a.add i) = some (.int .i64 z) := fun i hi => by
    obtain ⟨h1, h2⟩ := hx i (by omega)
    obtain ⟨n0, e0, -, -⟩ := DataW.trod_int Tryz.underlying3 h2
    simp at e0
    exact ⟨n0, by rw [h1, e0]⟩
  obtain ⟨q, hq⟩ := Go.Deep.choose_lt each
  refine ⟨some a, cap, (List.range len).map q, by simp, ⟨some a, cap, by simp, (fun h => by cases h), fun hne => ?_⟩, by simpa using hwl⟩
  have h0 := range_ne hne
  have h0c := hq 0 h0
  rw [add_zero'] at h0c
  obtain ⟨bl, off, rfl⟩ := addr_plain h0c
  refine ⟨bl, off, rfl, fun i y hy => ?_⟩
  obtain ⟨hi, rfl⟩ := range_at hy
  have := hq i hi
  rwa [Go.Pen.add_lit] at this
end
end Go.Proofs.YtolikaginhjbhaaGreatDoor
/- Rows of data: SameRow, LentRow, WholeRow, FarRow. -/
namespace Go.Proofs.YtolikaginhjbhaaGreatDoor
open Go.RowKit Go.Pen
attribute [local go_sem ↓] Go.wp_at_zero Go.wp_at_succ

theorem info25 : (Tryz.prog.info? 25).map (fun i => (i.zero, i.size, i.bytes)) = some (some (.agg #[.int .u8 0, .bool false, .int .i64 0, .string .empty]), 4, 32) := by kernel_rfl
def Dat.cells (d : Dat) : List Value := [.int .u8 d.kind, .bool d.bool, .int .i64 d.int, .string d.text]
/-- what a row of data reads as -/
abbrev RowAt (w : World) (v : Value) (ds : List Dat) : Prop := DatsOn (fun _ => True) w ds v
theorem DatsOn.slice {S : Nat → Prop} {w : World} {v : Value} {xs : List Dat} (h : DatsOn S w xs v) : ∃ a c, v = .slice a xs.length c := by obtain ⟨a, c, rfl, _⟩ := h; exact ⟨a, c, rfl⟩
def rowCells (ds : List Dat) : List Value := ds.flatMap Dat.cells
def rowTail : List Value := [.int .u8 91, .bool false, .int .i64 0, .string ⟨#[]⟩, .int .u8 92, .bool false, .int .i64 0, .string ⟨#[]⟩]

set_option maxRecDepth 100000 in
set_option maxHeartbeats 2000000 in
theorem same_49 (v1 v2 : Value) (xs : List Dat) (w : World) (h1 : RowAt w v1 xs) (h2 : RowAt w v2 xs) (hn : xs.length ≤ 1073741824) :
    Calls Tryz.prog 49 #[v1, v2] w fun e w' => e = .returned (.bool true) ∧ ∃ k, w' = w.drewN k := by
  obtain ⟨a1, c1, rfl, -, h1⟩ := h1
  obtain ⟨a2, c2, rfl, -, h2⟩ := h2
  obtain ⟨n, en⟩ : ∃ n, n = xs.length := ⟨_, rfl⟩
  rw [← en] at hn ⊢
  have H1 := Lib.hid h1
  have H2 := Lib.hid h2
  have EN := Lib.hid en
  clear h1 h2 en
  go_enter Tryz.func49, Tryz.ntmps49
  go_wp2
  go_loopw [5] (fun i wr => ∃ k : Nat, k ≤ n ∧ i = .int .i64 k ∧ ∃ q, wr = w.drewN q) (fun i _ => n - (intOf i).toNat)
  case atStart => exact ⟨0, Nat.zero_le _, rfl, 0, rfl⟩
  case round =>
    obtain ⟨k, hk, rfl, q, rfl⟩ := hrel
    by_cases hlt : k < n
    · have hne : xs ≠ [] := by intro e; rw [EN.out, e] at hlt; simp at hlt
      obtain ⟨b1, o1, rfl, -, g1⟩ := H1.out hne
      obtain ⟨b2, o2, rfl, -, g2⟩ := H2.out hne
      obtain ⟨x, hx⟩ : ∃ x, xs[k]? = some x := ⟨xs[k]'(by rw [← EN.out]; exact hlt), List.getElem?_eq_getElem _⟩
      obtain ⟨e10, e11, e12, e13⟩ := g1 k x hx
      obtain ⟨e20, e21, e22, e23⟩ := g2 k x hx
      obtain ⟨xk, xb, xi, xt⟩ := x
      clear g1 g2 hx hne
      go_wp2
      go_quiet (fail)
      go_wp2
      go_roundw
      case rel => exact ⟨k + 1, hlt, by go_num, _, rfl⟩
      case measure => simp [intOf]; omega
    · go_wp2
      go_ret
      exact ⟨rfl, _, rfl⟩

/-- what is owned, read as data -/
theorem rowAt_of_owns {w : World} {base : Nat} {v : Value} {n : Nat} {ds : List Dat} (h : w.ownsRow base 25 4 v n (ds.flatMap Dat.cells)) : RowAt w v ds := by
  have hl : n = ds.length := by
    have := h.1
    have e : (ds.flatMap Dat.cells).length = ds.length * 4 := by
      clear this h
      induction ds with
      | nil => rfl
      | cons d ds ih => rw [List.flatMap_cons, List.length_append, ih]; simp [Dat.cells]; omega
    omega
  subst hl
  obtain ⟨a, c, rfl⟩ := ownsRow_slice h
  refine ⟨a, c, rfl, owns_nil h, fun hne => ?_⟩
  obtain ⟨g, cap, hv, _, _⟩ := h.form (by cases ds; exact absurd rfl hne; simp)
  simp only [Value.slice.injEq] at hv
  obtain ⟨rfl, _, rfl⟩ := hv
  refine ⟨g, 0, rfl, trivial, fun i d hd => ?_⟩
  have hc := (ownsRow_heap h).2.2.2
  have hget : ∀ j, j < 4 → (ds.flatMap Dat.cells)[i * 4 + j]? = d.cells[j]? := fun j hj => by
    clear hc h hne
    induction ds generalizing i with
    | nil => simp at hd
    | cons x ds ih =>
      rw [List.flatMap_cons]
      cases i with
      | zero =>
        simp at hd; subst hd
        rw [List.getElem?_append_left (by simp [Dat.cells]; omega)]
        simp
      | succ i =>
        rw [List.getElem?_append_right (by simp [Dat.cells]; omega)]
        have : (i + 1) * 4 + j - x.cells.length = i * 4 + j := by simp [Dat.cells]; omega
        rw [this]
        exact ih i (by simpa using hd)
  rw [Nat.zero_add]
  exact ⟨hc _ _ (hget 0 (by omega)), hc _ _ (hget 1 (by omega)), hc _ _ (hget 2 (by omega)), hc _ _ (hget 3 (by omega))⟩

theorem rowCells_len (ds : List Dat) : (rowCells ds).length = ds.length * 4 := by
  unfold rowCells
  induction ds with
  | nil => rfl
  | cons d ds ih => rw [List.flatMap_cons, List.length_append, ih]; simp [Dat.cells]; omega
theorem rowCells_one (ds : List Dat) : ∀ u ∈ rowCells ds, u.oneCell' = true := by
  intro u hu
  obtain ⟨d, -, hd⟩ := List.mem_flatMap.1 hu
  simp only [Dat.cells, List.mem_cons, List.not_mem_nil, or_false] at hd
  rcases hd with rfl | rfl | rfl | rfl <;> rfl

theorem rowCells_at : ∀ (ds : List Dat) (i : Nat) (d : Dat) (j : Nat), ds[i]? = some d → j < 4 → (rowCells ds)[i * 4 + j]? = d.cells[j]? := by
  intro ds
  induction ds with
  | nil => intro i d j h; simp at h
  | cons x ds ih =>
    intro i d j h hj
    unfold rowCells at ih ⊢
    rw [List.flatMap_cons]
    cases i with
    | zero =>
      simp at h; subst h
      rw [List.getElem?_append_left (by simp [Dat.cells]; omega)]
      simp
    | succ i =>
      rw [List.getElem?_append_right (by simp [Dat.cells]; omega)]
      have : (i + 1) * 4 + j - x.cells.length = i * 4 + j := by simp [Dat.cells]; omega
      rw [this]
      exact ih i d j (by simpa using h) hj

theorem DatsOn.cells {w : World} {a : Option Addr} {n c : Nat} {xs : List Dat} (h : RowAt w (.slice a n c) xs) : ∀ ad, a = some ad → ∀ j u, (rowCells xs)[j]? = some u → w.cell? (ad.add j) = some u := by
  rintro ad rfl j u hu
  obtain ⟨a', c', hv, -, h⟩ := h
  cases hv
  have hj := (List.getElem?_eq_some_iff.1 hu).1
  rw [rowCells_len] at hj
  have hk : j / 4 < xs.length := by omega
  obtain ⟨b, o, hb, -, hc⟩ := h (by intro e; rw [e] at hk; simp at hk)
  cases hb
  rw [add_lit]
  have hx : xs[j / 4]? = some xs[j / 4] := List.getElem?_eq_getElem hk
  obtain ⟨c0, c1, c2, c3⟩ := hc _ _ hx
  have hm := rowCells_at xs (j / 4) _ (j % 4) hx (by omega)
  rw [show j / 4 * 4 + j % 4 = j by omega, hu] at hm
  have hr : j % 4 = 0 ∨ j % 4 = 1 ∨ j % 4 = 2 ∨ j % 4 = 3 := by omega
  rcases hr with hr | hr | hr | hr <;> rw [hr] at hm <;> simp [Dat.cells] at hm <;> subst hm
  · rw [show o + j = o + j / 4 * 4 by omega]; exact c0
  · rw [show o + j = o + j / 4 * 4 + 1 by omega]; exact c1
  · rw [show o + j = o + j / 4 * 4 + 2 by omega]; exact c2
  · rw [show o + j = o + j / 4 * 4 + 3 by omega]; exact c3

theorem DatsOn.none {w : World} {a : Option Addr} {n c : Nat} {xs : List Dat} (h : RowAt w (.slice a n c) xs) : n = xs.length ∧ (a = none → n = 0 ∧ c = 0) := by
  obtain ⟨a', c', hv, hz, h⟩ := h
  cases hv
  refine ⟨rfl, fun ha => ⟨?_, hz ha⟩⟩
  cases xs with
  | nil => rfl
  | cons x xs => obtain ⟨b, o, hb, -⟩ := h (by simp); rw [ha] at hb; cases hb

set_option maxRecDepth 100000 in
set_option maxHeartbeats 2000000 in
theorem lent_11 (v : Value) (xs : List Dat) (w : World) (hv : RowAt w v xs) (hn : xs.length ≤ 1000000) :
    Calls Tryz.prog 11 #[v] w fun e w' => e = .returned (.slice (some ⟨w.heap.size, 0, none⟩) xs.length (xs.length + 2)) ∧
      w'.ownsRow w.heap.size 25 4 (.slice (some ⟨w.heap.size, 0, none⟩) (xs.length + 2) (xs.length + 2)) (xs.length + 2) (rowCells xs ++ rowTail) ∧ Below w.heap.size w w' := by
  obtain ⟨i0, hi, hz0, hz1, hz2⟩ := info_parts info25
  obtain ⟨a, c, rfl⟩ := hv.slice
  have hnone := hv.none.2
  have hcells := hv.cells
  have hw : IntKind.i64.wrap ((xs.length : Int) + 2) = (xs.length : Int) + 2 := IntWalk.i64_in _ (by omega)
  obtain ⟨n, en⟩ : ∃ n, n = xs.length := ⟨_, rfl⟩
  rw [← en] at hn hnone hw ⊢
  have EN := Lib.hid en
  have HNN := Lib.hid hnone
  have HCC := Lib.hid hcells
  clear hv hnone hcells en
  go_enter Tryz.func11, Tryz.ntmps11
  go_wp2_with (at_make; refine wpList_make_own _ rfl _ _ 28 rfl w.heap.size 25 i0 (.agg #[.int .u8 0, .bool false, .int .i64 0, .string .empty]) 4 Tryz.underlying28 hi hz0 hz1 .i64 .i64 ((n : Int) + 2) (n + 2) rfl rfl (by omega) (by rw [hz2]; omega) (by unfold maxLen; omega) (Nat.le_refl _) ?_)
  intro w1 ho1 hg1
  have hb1 : Below w.heap.size w w1 := (Below.refl _ _).grown hg1 (Nat.le_refl _) (by intro k hk; cases hk)
  have hsrc : ∀ ad, a = some ad → ∀ j u, (rowCells xs)[j]? = some u → w1.cell? (ad.add j) = some u := fun ad had j u hu => cell_keep hb1 (HCC.out ad had j u hu)
  have HS := Lib.hid hsrc
  have HO1 := Lib.hid ho1
  have HB1 := Lib.hid hb1
  have hs1 : w.heap.size < w1.heap.size := (ho1.lt _ rfl).2
  obtain ⟨g, eg⟩ : ∃ g, g = w.heap.size := ⟨_, rfl⟩
  rw [← eg] at hs1 HO1 HB1 ⊢
  have EG := Lib.hid eg
  clear hsrc ho1 hb1 hg1 eg
  go_wp2_with (at_builtin; go_must (refine wpList_append_fits_any _ rfl _ _ 28 rfl g 25 i0 4 Tryz.underlying28 hi hz1 g 0 (n + 2) [] rfl HO1.out a n c (rowCells xs) rfl (by rw [rowCells_len, EN.out]) HNN.out HS.out (rowCells_one xs) (by omega) ?_))
  intro w2 ho2 hg2
  have hb2 : Below g w w2 := HB1.out.grown hg2 (by omega) (by intro k hk; cases hk; exact Nat.le_refl _)
  have hs2 : g < w2.heap.size := (ho2.lt _ rfl).2
  have HO2 := Lib.hid ho2
  have HB2 := Lib.hid hb2
  clear ho2 hb2 hg2 hs1
  go_wp2_with (at_builtin; go_must (refine wpList_append_fits _ rfl _ _ 28 rfl g 25 i0 4 Tryz.underlying28 hi hz1 g n (n + 2) (rowCells xs) rfl (HO2.out.alloc _) ⟨w2.heap.size, 0, none⟩ 2 2 rowTail rfl rfl ?c1 ?c2 (Nat.le_refl _) ?_))
  case c1 =>
    intro j u hj
    rw [add_lit, Nat.zero_add]
    exact cell_of_heap (heap_alloc_new w2 _) (by rw [List.getElem?_toArray]; exact hj)
  case c2 => intro u hu; simp [rowTail] at hu; rcases hu with rfl | rfl | rfl | rfl | rfl | rfl | rfl | rfl <;> rfl
  intro w3 ho3 hg3
  have hb3 : Below g w w3 := (HB2.out.alloc (Nat.le_of_lt hs2) _).grown hg3 (by simp; omega) (by intro k hk; cases hk; exact Nat.le_refl _)
  have HO3 := Lib.hid ho3
  have HB3 := Lib.hid hb3
  clear ho3 hb3 hg3
  go_wp2_with fail
  rw [← EG.out]
  go_ret
  exact ⟨rfl, HO3.out, HB3.out⟩
def LentR (w : World) (lo g : Nat) (xs : List Dat) : Prop := w.ownsRow lo 25 4 (.slice (some ⟨g, 0, none⟩) (xs.length + 2) (xs.length + 2)) (xs.length + 2) (rowCells xs ++ rowTail)
theorem LentR.head {w : World} {lo g : Nat} {xs : List Dat} (h : LentR w lo g xs) : w.ownsRow lo 25 4 (.slice (some ⟨g, 0, none⟩) xs.length (xs.length + 2)) xs.length (rowCells xs) := ownsRow_head h (rowCells_len xs)
theorem LentR.at {w : World} {lo g : Nat} {xs : List Dat} (h : LentR w lo g xs) : RowAt w (.slice (some ⟨g, 0, none⟩) xs.length (xs.length + 2)) xs := rowAt_of_owns h.head
theorem LentR.tail {w : World} {lo g : Nat} {xs : List Dat} (h : LentR w lo g xs) (j : Nat) (x : Value) (hx : rowTail[j]? = some x) : w.cell? ⟨g, xs.length * 4 + j, none⟩ = some x := by
  have hc := (ownsRow_heap h).2.2.2
  have hl := rowCells_len xs
  refine hc _ _ ?_
  rw [List.getElem?_append_right (by omega), show xs.length * 4 + j - (rowCells xs).length = j by omega]; exact hx

set_option maxRecDepth 100000 in
set_option maxHeartbeats 2000000 in
theorem whole_16 (lo g : Nat) (v : Value) (xs : List Dat) (w : World) (hx : LentR w lo g xs) (hv : RowAt w v xs) (hn : xs.length ≤ 1000000) :
    Calls Tryz.prog 16 #[.slice (some ⟨g, 0, none⟩) xs.length (xs.length + 2), v] w fun e w' => e = .returned (.bool true) ∧ ∃ k, w' = w.drewN k := by
  have t0 := hx.tail 0 _ rfl
  have t1 := hx.tail 1 _ rfl
  have t2 := hx.tail 2 _ rfl
  have t3 := hx.tail 3 _ rfl
  have t4 := hx.tail 4 _ rfl
  have t5 := hx.tail 5 _ rfl
  have t6 := hx.tail 6 _ rfl
  have t7 := hx.tail 7 _ rfl
  have hw : IntKind.i64.wrap ((xs.length : Int) + 2) = (xs.length : Int) + 2 := IntWalk.i64_in _ (by omega)
  have hw1 : IntKind.i64.wrap ((xs.length : Int) + 1) = (xs.length : Int) + 1 := IntWalk.i64_in _ (by omega)
  have eq0 : ∀ z, (Op.equalIn 10000 25 (.agg #[.int .u8 91, .bool false, .int .i64 0, .string ⟨#[]⟩]) (.agg #[.int .u8 91, .bool false, .int .i64 0, .string ⟨#[]⟩])).run Tryz.prog z = .ok true z := fun _ => by kernel_rfl
  have eq1 : ∀ z, (Op.equalIn 10000 25 (.agg #[.int .u8 92, .bool false, .int .i64 0, .string ⟨#[]⟩]) (.agg #[.int .u8 92, .bool false, .int .i64 0, .string ⟨#[]⟩])).run Tryz.prog z = .ok true z := fun _ => by kernel_rfl
  have HX := Lib.hid hx.at
  have HV := Lib.hid hv
  obtain ⟨n, en⟩ : ∃ n, n = xs.length := ⟨_, rfl⟩
  have HN : Hid (xs.length ≤ 1073741824) := show xs.length ≤ 1073741824 by omega
  rw [← en] at hn hw hw1 HX t0 t1 t2 t3 t4 t5 t6 t7 ⊢
  have EN := Lib.hid en
  clear hx hv en
  have b1 : (0 : Int) ≤ (n : Int) := by omega
  have t4' : w.cell? ⟨g, (n + 1) * 4, none⟩ = some (.int .u8 92) := by rw [show (n + 1) * 4 = n * 4 + 4 by omega]; exact t4
  have t5' : w.cell? ⟨g, (n + 1) * 4 + 1, none⟩ = some (.bool false) := by rw [show (n + 1) * 4 + 1 = n * 4 + 5 by omega]; exact t5
  have t6' : w.cell? ⟨g, (n + 1) * 4 + 2, none⟩ = some (.int .i64 0) := by rw [show (n + 1) * 4 + 2 = n * 4 + 6 by omega]; exact t6
  have t7' : w.cell? ⟨g, (n + 1) * 4 + 3, none⟩ = some (.string ⟨#[]⟩) := by rw [show (n + 1) * 4 + 3 = n * 4 + 7 by omega]; exact t7
  rw [Nat.add_zero] at t0
  clear t4 t5 t6 t7
  go_enter Tryz.func16, Tryz.ntmps16
  go_wp2_with (go_at_call 49; refine (same_49 _ _ xs _ HX.out HV.out HN.out).mono ?_; rintro e w' ⟨rfl, nq, rfl⟩)
  go_ret
  exact ⟨rfl, _, rfl⟩
/-- how much there is of a row to look at -/
def rowW (l : List Dat) : Nat := l.length + (l.map fun d => d.text.size / 64).sum
theorem sum_take : ∀ (l : List Dat) (i : Nat) (d : Dat), l[i]? = some d → ((l.take (i + 1)).map fun d => d.text.size / 64).sum = ((l.take i).map fun d => d.text.size / 64).sum + d.text.size / 64
  | [], i, d, h => by simp at h
  | x :: l, 0, d, h => by simp at h; subst h; simp
  | x :: l, i + 1, d, h => by
    have := sum_take l i d (by simpa using h)
    simp only [List.take_succ_cons, List.map_cons, List.sum_cons] at this ⊢
    omega
theorem sum_le : ∀ (l : List Dat) (i : Nat), ((l.take i).map fun d => d.text.size / 64).sum ≤ (l.map fun d => d.text.size / 64).sum
  | [], i => by simp
  | x :: l, 0 => by simp
  | x :: l, i + 1 => by
    have := sum_le l i
    simp only [List.take_succ_cons, List.map_cons, List.sum_cons] at this ⊢
    omega

set_option maxRecDepth 100000 in
set_option maxHeartbeats 2000000 in
theorem far_9 (v : Value) (l : List Dat) (w : World) (hv : RowAt w v l) (hn : l.length ≤ 17592186043904) (hf : ∀ d ∈ l, d.fits) :
    Calls Tryz.prog 9 #[v] w fun ev w' => ev = .returned (.bool (decide (12000 < rowW l))) ∧ w' = w := by
  obtain ⟨a, c, rfl, -, h1⟩ := hv
  obtain ⟨R, eR⟩ : ∃ R, R = decide (12000 < rowW l) := ⟨_, rfl⟩
  rw [← eR]
  obtain ⟨n, en⟩ : ∃ n, n = l.length := ⟨_, rfl⟩
  rw [← en] at hn ⊢
  have H1 := Lib.hid h1
  have EN := Lib.hid en
  have ER := Lib.hid eR
  have HF := Lib.hid hf
  clear h1 en eR hf
  go_enter Tryz.func9, Tryz.ntmps9
  go_wp2
  go_loopw [3, 4] (fun s i wr => ∃ (k m : Nat), k ≤ n ∧ i = .int .i64 k ∧ s = .int .i64 m ∧ m ≤ 19791209299968 ∧ m = n + ((l.take k).map fun d => d.text.size / 64).sum ∧ wr = w) (fun _ i _ => n - (intOf i).toNat)
  case atStart => exact ⟨0, n, Nat.zero_le _, rfl, rfl, by omega, by simp, rfl⟩
  case round =>
    obtain ⟨k, m, hk, rfl, rfl, hm, hsum, rfl⟩ := hrel
    have HS := Lib.hid hsum
    have hle := sum_le l k
    have HLE := Lib.hid hle
    clear hsum hle
    by_cases hlt : k < n
    · by_cases hm2 : 12000 < m
      · have hR : R = true := by
          rw [ER.out]
          have h1 := HS.out
          have h2 := HLE.out
          have h3 := EN.out
          apply decide_eq_true
          unfold rowW
          omega
        have q : ¬ ((m : Int) ≤ 12000) := by omega
        have q' : (12000 : Int) < (m : Int) := by omega
        have HR := Lib.hid hR
        clear hR
        go_wp2
        go_ret
        exact ⟨by rw [HR.out]; rfl, rfl⟩
      · obtain ⟨x, hx⟩ : ∃ x, l[k]? = some x := ⟨l[k]'(by rw [← EN.out]; exact hlt), List.getElem?_eq_getElem _⟩
        obtain ⟨b1, o1, rfl, -, g1⟩ := H1.out (fun e => by rw [e] at hx; simp at hx)
        have e3 := (g1 k x hx).2.2.2
        have hxs := (HF.out x (List.mem_of_getElem? hx)).2.2
        have hst := sum_take l k x hx
        have HST := Lib.hid hst
        obtain ⟨t, et⟩ : ∃ t, t = x.text := ⟨_, rfl⟩
        rw [← et] at e3 hxs HST
        clear g1 hx et hst
        have q : (m : Int) ≤ 12000 := by omega
        go_wp2
        go_roundw
        case rel => exact ⟨k + 1, m + t.size / 64, hlt, by go_num, by go_num, by omega, (by rw [HST.out, HS.out]; omega), trivial⟩
        case measure => simp [intOf]; omega
    · obtain rfl : k = n := by omega
      have hR : R = decide (12000 < m) := by
        rw [ER.out, HS.out, List.take_of_length_le (by rw [EN.out]; exact Nat.le_refl _), EN.out]
        rfl
      have HR := Lib.hid hR
      clear hR
      by_cases hm2 : 12000 < m
      · have q' : (12000 : Int) < (m : Int) := by omega
        go_wp2
        go_ret
        exact ⟨by rw [HR.out, decide_eq_true hm2]; rfl, rfl⟩
      · have q' : ¬ ((12000 : Int) < (m : Int)) := by omega
        go_wp2
        go_ret
        exact ⟨by rw [HR.out, decide_eq_false hm2]; rfl, rfl⟩
end Go.Proofs.YtolikaginhjbhaaGreatDoor
/- A row of data that came in, opened. -/
namespace Go.Proofs.YtolikaginhjbhaaGreatDoor
open Go.RowKit Go.Pen

section
variable {H : Type} {enc : TypeId × Value → H} {w : World} {base : Nat} {spare : Nat → Bool} {held : Bool}

set_option maxRecDepth 100000 in
theorem open_row {fuel : Nat} {v : Value} {x : DataW H × List MemPlace} (h : DataW.trod enc Tryz.prog w base spare held fuel 29 [v] = some x) (hw : ∀ n ∈ x.1.weights Tryz.prog 29, n ≤ reachBytes) :
    ∃ (r : List Dat) (a : Option Addr) (c : Nat), v = .slice a r.length c ∧ RowAt w (.slice a r.length c) r ∧ r.length ≤ 17592186043904 ∧ ∀ d ∈ r, d.fits := by
  rcases DataW.trod_slice Tryz.underlying29 h with ⟨h0, -⟩ | ⟨a, len, cap, elems, rest, n, hn, h1, hx1, hb, hl, hm, hlen1, hel, -, -⟩
  · simp only [List.cons.injEq, and_true] at h0
    subst h0
    exact ⟨[], none, 0, rfl, ⟨none, 0, rfl, fun _ => rfl, fun h => absurd rfl h⟩, by simp, by simp⟩
  · simp only [List.cons.injEq, and_true] at h1
    subst h1
    rw [hx1] at hw
    have hw0 := hw
    obtain ⟨hwl, hwe⟩ := slice_weights Tryz.underlying29 hw (show 1 ≤ Tryz.prog.bytesOf 25 from by rw [show Tryz.prog.bytesOf 25 = 32 by kernel_rfl]; decide)
    have hwl2 : len ≤ 17592186043904 := by
      have h1 := hw0 _ (by
        show (elems.length + rest.length) * Tryz.prog.bytesOf 25 ∈ _
        simp [DataW.weights, Tryz.underlying29])
      rw [show Tryz.prog.bytesOf 25 = 32 by kernel_rfl] at h1
      unfold reachBytes at h1
      omega
    have ce : Tryz.prog.cellsOf 25 = 4 := by kernel_rfl
    have each : ∀ i, i < len → ∃ d : Dat, (w.cell? (a.add (i * 4)) = some (.int .u8 d.kind) ∧ w.cell? ((a.add (i * 4)).add 1) = some (.bool d.bool) ∧ w.cell? ((a.add (i * 4)).add 2) = some (.int .i64 d.int) ∧ w.cell? ((a.add (i * 4)).add 3) = some (.string d.text)) ∧ d.fits := by
      intro i hi
      have h2 := hel i hi
      rw [ce, List.getElem?_eq_getElem (by omega : i < elems.length), Option.bind_eq_some_iff] at h2
      obtain ⟨cs', hcs, hy'⟩ := h2
      obtain ⟨_, hlen', hcell⟩ := World.cells?_some hcs
      obtain ⟨d, hd, hft⟩ := open_dat hlen' hy' (hwe _ (List.mem_map.2 ⟨_, List.getElem_mem _, rfl⟩))
      subst hd
      have c0 := hcell 0 (by decide)
      have c1 := hcell 1 (by decide)
      have c2 := hcell 2 (by decide)
      have c3 := hcell 3 (by decide)
      rw [add_zero'] at c0
      exact ⟨d, ⟨c0, c1, c2, c3⟩, hft⟩
    have : Inhabited Dat := ⟨Dat.zero⟩
    obtain ⟨q, hq⟩ := Go.Deep.choose_lt each
    refine ⟨(List.range len).map q, some a, cap, by simp, ⟨some a, cap, rfl, (fun h => by cases h), fun hne => ?_⟩, by simpa using hwl2, fun d hd => ?_⟩
    · have h0 := range_ne hne
      have hz := (hq 0 h0).1.1
      rw [Nat.zero_mul, add_zero'] at hz
      obtain ⟨bl, off, rfl⟩ := addr_plain hz
      refine ⟨bl, off, rfl, trivial, fun i d hd => ?_⟩
      obtain ⟨hi, rfl⟩ := range_at hd
      obtain ⟨⟨c0, c1, c2, c3⟩, -⟩ := hq i hi
      rw [add_lit] at c0 c1 c2 c3
      rw [add_lit] at c1 c2 c3
      exact ⟨c0, c1, c2, c3⟩
    · obtain ⟨i, hi, rfl⟩ := List.mem_map.1 hd
      exact (hq i (List.mem_range.1 hi)).2
end
end Go.Proofs.YtolikaginhjbhaaGreatDoor
