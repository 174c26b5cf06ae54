import Derived.Test.YtolikaginhjbhaaGreatDoorMem
import Derived.Test.YtolikaginhjbhaaGreatDoorB
import Derived.Deep.Slices
import Derived.SizedLaws
/- An expression that came in, opened. -/
namespace Go.Proofs.YtolikaginhjbhaaGreatDoor
open Go.RowKit Go.Pen

section
variable {H : Type} {enc : TypeId × Value → H} {w : World} {base : Nat} {spare : Nat → Bool} {held : Bool}

theorem addr_plain {w : World} {x : Addr} {v : Value} (h : w.cell? x = some v) : ∃ bl off, x = ⟨bl, off, none⟩ := by
  obtain ⟨bl, off, sp⟩ := x
  unfold World.cell? at h
  cases sp with
  | none => exact ⟨bl, off, rfl⟩
  | some y => split at h <;> simp at h

theorem add_zero' (x : Addr) : x.add 0 = x := by
  obtain ⟨bl, off, sp⟩ := x
  rfl

theorem range_at {α : Type} {q : Nat → α} {len i : Nat} {x : α} (h : ((List.range len).map q)[i]? = some x) : i < len ∧ x = q i := by
  rw [List.getElem?_map] at h
  obtain ⟨j, hj, rfl⟩ := Option.map_eq_some_iff.1 h
  obtain ⟨hlt, hjj⟩ := List.getElem?_eq_some_iff.1 hj
  rw [List.length_range] at hlt
  rw [List.getElem_range] at hjj
  exact ⟨hlt, by rw [hjj]⟩

theorem weightsAll_mem {P : Program} {e : TypeId} {d : DataW H} {n : Nat} : ∀ {l : List (DataW H)}, d ∈ l → n ∈ d.weights P e → n ∈ DataW.weightsAll P e l
  | [], h, _ => by cases h
  | x :: r, h, hn => by
    simp only [DataW.weightsAll, List.mem_append]
    rcases List.mem_cons.1 h with rfl | h
    · exact .inl hn
    · exact .inr (weightsAll_mem h hn)

theorem slice_weights {P : Program} {t e : TypeId} {l rest : List (DataW H)} (hu : P.underlying t = some (.slice e)) (h : ∀ n ∈ (DataW.slice l rest).weights P t, n ≤ reachBytes) (hb : 1 ≤ P.bytesOf e) :
    l.length ≤ 140737488355328 ∧ ∀ d ∈ l, ∀ n ∈ d.weights P e, n ≤ reachBytes := by
  refine ⟨?_, fun d hd n hn => h n ?_⟩
  · have h1 := h ((l.length + rest.length) * P.bytesOf e) (by simp [DataW.weights, hu])
    have h2 : l.length * 1 ≤ (l.length + rest.length) * P.bytesOf e := Nat.mul_le_mul (Nat.le_add_right _ _) hb
    unfold reachBytes at h1
    omega
  · simp only [DataW.weights, hu, List.mem_cons, List.mem_append]
    exact .inr (.inl (weightsAll_mem hd hn))

theorem agg_weights {P : Program} {t : TypeId} {fs : Array Field} {xs : List (DataW H × List MemPlace)} (hu : P.underlying t = some (.struct fs)) (h : ∀ n ∈ (DataW.agg (xs.map (·.1))).weights P t, n ≤ reachBytes) {i : Nat} {f : Field} {y : DataW H × List MemPlace} (hf : fs[i]? = some f) (hy : xs[i]? = some y) :
    ∀ n ∈ y.1.weights P f.type, n ≤ reachBytes := fun n hn => by
  refine h n ?_
  simp only [DataW.weights, hu]
  refine DataW.weights_mem_each (j := i) ?_ ?_ n hn
  · rw [List.getElem?_map, Array.getElem?_toList, hf]; rfl
  · rw [List.getElem?_map, hy]; rfl

theorem text_weight {P : Program} {t : TypeId} {s : ByteArray} (h : ∀ n ∈ (DataW.lit (H := H) (.string s.data.toList)).weights P t, n ≤ reachBytes) : s.size ≤ 140737488355328 := by
  have h1 := h s.size (by simp [DataW.weights])
  unfold reachBytes at h1
  omega

set_option maxRecDepth 100000 in
theorem open_dat {fuel : Nat} {cs : List Value} {x : DataW H × List MemPlace} (hlen : cs.length = 4) (h : DataW.trod enc Tryz.prog w base spare held fuel 25 cs = some x) (hw : ∀ n ∈ x.1.weights Tryz.prog 25, n ≤ reachBytes) :
    ∃ d : Dat, cs = [.int .u8 d.kind, .bool d.bool, .int .i64 d.int, .string d.text] ∧ d.fits := by
  obtain ⟨xs, k, hk, hxy, _, hxl, hf⟩ := DataW.trod_struct Tryz.underlying25 h
  match xs, hxl, cs, hlen with
  | [y0, y1, y2, y3], _, [v0, v1, v2, v3], _ =>
    have g0 := hf 0 _ rfl
    have g1 := hf 1 _ rfl
    have g2 := hf 2 _ rfl
    have g3 := hf 3 _ rfl
    have c23 : Tryz.prog.cellsOf 23 = 1 := by kernel_rfl
    have c4 : Tryz.prog.cellsOf 4 = 1 := by kernel_rfl
    have c2 : Tryz.prog.cellsOf 2 = 1 := by kernel_rfl
    have c9 : Tryz.prog.cellsOf 9 = 1 := by kernel_rfl
    simp [c23, c4, c2, c9] at g0 g1 g2 g3
    rw [hxy] at hw
    have hw3 := agg_weights Tryz.underlying25 hw (i := 3) rfl rfl
    obtain ⟨n0, e0, -, w0⟩ := DataW.trod_int Tryz.underlying23 g0
    obtain ⟨n1, e1, -⟩ := DataW.trod_bool Tryz.underlying4 g1
    obtain ⟨n2, e2, -, w2⟩ := DataW.trod_int Tryz.underlying2 g2
    obtain ⟨n3, e3, x3, -⟩ := DataW.trod_string Tryz.underlying9 g3
    rw [x3] at hw3
    simp only [List.cons.injEq, and_true] at e0 e1 e2 e3
    subst e0 e1 e2 e3
    refine ⟨⟨n0, n1, n2, n3⟩, rfl, ?_, ?_, text_weight hw3⟩
    · simpa [Lit.wf, IntKind.min, IntKind.max, IntKind.signed, IntKind.bits] using w0
    · simpa [Lit.wf, IntKind.min, IntKind.max, IntKind.signed, IntKind.bits] using w2

/-- a part's cells, behind an address -/
def KidCells' (w : World) (a : Addr) (k : ET) (kv : Value) : Prop := ∀ (j : Nat), j < 7 → ∀ v, (k.cells kv)[j]? = some v → w.cell? (a.add j) = some v

set_option maxRecDepth 100000 in
theorem open_expr : ∀ (fuel : Nat) {cs : List Value} {x : DataW H × List MemPlace}, cs.length = 7 → DataW.trod enc Tryz.prog w base spare held fuel 27 cs = some x → (∀ n ∈ x.1.weights Tryz.prog 27, n ≤ reachBytes) →
    ∃ (e : ET) (a : Option Addr) (c : Nat), cs = e.cells (.slice a e.kids.length c) ∧ e.At w (.slice a e.kids.length c) ∧ e.fits := by
  intro fuel
  induction fuel using Nat.strongRecOn with
  | ind fuel ih =>
    intro cs x hlen h hw
    obtain ⟨xs, k, hk, hxy, _, hxl, hf⟩ := DataW.trod_struct Tryz.underlying27 h
    match xs, hxl, cs, hlen with
    | [y0, y1, y2, y3], _, [v0, v1, v2, v3, v4, v5, v6], _ =>
      have g0 := hf 0 _ rfl
      have g1 := hf 1 _ rfl
      have g2 := hf 2 _ rfl
      have g3 := hf 3 _ rfl
      have c5 : Tryz.prog.cellsOf 5 = 1 := by kernel_rfl
      have c22 : Tryz.prog.cellsOf 22 = 1 := by kernel_rfl
      have c3 : Tryz.prog.cellsOf 3 = 1 := by kernel_rfl
      have c25 : Tryz.prog.cellsOf 25 = 4 := by kernel_rfl
      simp [c5, c22, c3, c25] at g0 g1 g2 g3
      rw [hxy] at hw
      have hw1 := agg_weights Tryz.underlying27 hw (i := 1) rfl rfl
      have hw3 := agg_weights Tryz.underlying27 hw (i := 3) rfl rfl
      obtain ⟨n0, e0, -, w0⟩ := DataW.trod_int Tryz.underlying5 g0
      obtain ⟨n2, e2, -, w2⟩ := DataW.trod_int Tryz.underlying3 g2
      obtain ⟨d, e3, fd⟩ := open_dat rfl g3 hw3
      have f0 : 0 ≤ n0 ∧ n0 ≤ 255 := by simpa [Lit.wf, IntKind.min, IntKind.max, IntKind.signed, IntKind.bits] using w0
      have f2 : -9223372036854775808 ≤ n2 ∧ n2 ≤ 9223372036854775807 := by simpa [Lit.wf, IntKind.min, IntKind.max, IntKind.signed, IntKind.bits] using w2
      simp only [List.cons.injEq, and_true] at e0 e2 e3
      obtain ⟨rfl, rfl, rfl, rfl⟩ := e3
      subst e0 e2
      rcases DataW.trod_slice Tryz.underlying22 g1 with ⟨h0, -⟩ | ⟨a, len, cap, elems, rest, n, hn, h1, hx1, hb, hl, hm, hlen1, hel, -, -⟩
      · simp only [List.cons.injEq, and_true] at h0
        subst h0
        exact ⟨.mk n0 n2 d [], none, 0, rfl, ET.On.iff.2 ⟨none, 0, rfl, fun _ => rfl, fun h => absurd rfl h⟩, by simp only [ET.fits, ET.fitss]; exact ⟨f0, f2, fd, by simp, trivial⟩⟩
      · simp only [List.cons.injEq, and_true] at h1
        subst h1
        rw [hx1] at hw1
        obtain ⟨hwl, hwe⟩ := slice_weights Tryz.underlying22 hw1 (show 1 ≤ Tryz.prog.bytesOf 27 from by rw [show Tryz.prog.bytesOf 27 = 72 by kernel_rfl]; decide)
        rw [List.length_map, hlen1] at hwl
        have ce : Tryz.prog.cellsOf 27 = 7 := by kernel_rfl
        have each : ∀ i, i < len → ∃ k : ET, ∃ kv, KidCells' w (a.add (i * 7)) k kv ∧ k.At w kv ∧ k.fits := by
          intro i hi
          have h2 := hel i hi
          rw [ce, List.getElem?_eq_getElem (by omega : i < elems.length), Option.bind_eq_some_iff] at h2
          obtain ⟨cs', hcs, hy'⟩ := h2
          obtain ⟨_, hlen', hcell⟩ := World.cells?_some hcs
          obtain ⟨e, ea, ec, he, hat, hft⟩ := ih n (by omega) hlen' hy' (hwe _ (List.mem_map.2 ⟨_, List.getElem_mem _, rfl⟩))
          subst he
          refine ⟨e, _, fun j hj v hv => ?_, hat, hft⟩
          exact (hcell j hj).trans hv
        have : Inhabited ET := ⟨.mk 0 0 d []⟩
        obtain ⟨q, hq⟩ := Go.Deep.choose_lt each
        refine ⟨.mk n0 n2 d ((List.range len).map q), some a, cap, by simp [ET.cells, ET.op, ET.col, ET.lit, ET.kids], ET.On.iff.2 ⟨some a, cap, rfl, (fun h => by cases h), fun hne => ?_⟩, ?_⟩
        · have h0 : 0 < len := by
            rcases Nat.eq_zero_or_pos len with e | h'
            · subst e; exact absurd rfl hne
            · exact h'
          obtain ⟨kv0, hk0, -, -⟩ := hq 0 h0
          have hz := hk0 0 (by decide) _ rfl
          rw [Nat.zero_mul, add_zero', add_zero'] at hz
          obtain ⟨bl, off, rfl⟩ := addr_plain hz
          refine ⟨bl, off, rfl, trivial, ET.Ons.mk fun i k hk => ?_⟩
          obtain ⟨hi, rfl⟩ := range_at hk
          obtain ⟨kv, hkc, hat, -⟩ := hq i hi
          have hc : ∀ (j : Nat), j < 7 → ∀ v, ((q i).cells kv)[j]? = some v → w.cell? ⟨bl, off + i * 7 + j, none⟩ = some v := fun j hj v hv => by
            have h := hkc j hj v hv
            rw [add_lit, add_lit] at h
            exact h
          exact ⟨kv, ⟨hc 0 (by decide) _ rfl, hc 1 (by decide) _ rfl, hc 2 (by decide) _ rfl, hc 3 (by decide) _ rfl, hc 4 (by decide) _ rfl, hc 5 (by decide) _ rfl, hc 6 (by decide) _ rfl⟩, hat⟩
        · simp only [ET.fits]
          refine ⟨f0, f2, fd, by simpa using hwl, ET.fitss_iff.2 fun k hk => ?_⟩
          obtain ⟨i, hi, rfl⟩ := List.mem_map.1 hk
          obtain ⟨_, -, -, hft⟩ := hq i (List.mem_range.1 hi)
          exact hft
end
end Go.Proofs.YtolikaginhjbhaaGreatDoor
