import Derived.Test.YtpoilgeffpedoaaK
import Derived.Deep.Slices
import Derived.SizedLaws
/- A slice of updates that came in, opened. -/
namespace Go.Proofs.Ytpoilgeffpedoaa
open Go.RowKit Go.Pen

section
variable {H : Type} {enc : TypeId × Value → H} {w : World} {base : Nat} {spare : Nat → Bool} {held : Bool}

theorem addr_plain {w : World} {x : Addr} {v : Value} (h : w.cell? x = some v) : ∃ bl off, x = ⟨bl, off, none⟩ := by
  obtain ⟨bl, off, sp⟩ := x
  unfold World.cell? at h
  cases sp with
  | none => exact ⟨bl, off, rfl⟩
  | some y => split at h <;> simp at h

theorem add_zero' (x : Addr) : x.add 0 = x := by
  obtain ⟨bl, off, sp⟩ := x
  rfl

theorem range_at {α : Type} {q : Nat → α} {len i : Nat} {x : α} (h : ((List.range len).map q)[i]? = some x) : i < len ∧ x = q i := by
  rw [List.getElem?_map] at h
  obtain ⟨j, hj, rfl⟩ := Option.map_eq_some_iff.1 h
  obtain ⟨hlt, hjj⟩ := List.getElem?_eq_some_iff.1 hj
  rw [List.length_range] at hlt
  rw [List.getElem_range] at hjj
  exact ⟨hlt, by rw [hjj]⟩

theorem range_ne {α : Type} {q : Nat → α} {len : Nat} (h : (List.range len).map q ≠ []) : 0 < len := by
  rcases Nat.eq_zero_or_pos len with e | h'
  · subst e; exact absurd rfl h
  · exact h'

theorem weightsAll_mem {P : Program} {e : TypeId} {d : DataW H} {n : Nat} : ∀ {l : List (DataW H)}, d ∈ l → n ∈ d.weights P e → n ∈ DataW.weightsAll P e l
  | [], h, _ => by cases h
  | x :: r, h, hn => by
    simp only [DataW.weightsAll, List.mem_append]
    rcases List.mem_cons.1 h with rfl | h
    · exact .inl hn
    · exact .inr (weightsAll_mem h hn)

theorem slice_weights {P : Program} {t e : TypeId} {D : Nat → DataW H} {len : Nat} {rest : List (DataW H)} (hu : P.underlying t = some (.slice e)) (h : ∀ n ∈ (DataW.slice ((List.range len).map D) rest).weights P t, n ≤ reachBytes) (hb : 1 ≤ P.bytesOf e) :
    len ≤ 140737488355328 ∧ ∀ i, i < len → ∀ n ∈ (D i).weights P e, n ≤ reachBytes := by
  refine ⟨?_, fun i hi n hn => h n ?_⟩
  · have h1 := h ((((List.range len).map D).length + rest.length) * P.bytesOf e) (by simp [DataW.weights, hu])
    rw [List.length_map, List.length_range] at h1
    have h2 : len * 1 ≤ (len + rest.length) * P.bytesOf e := Nat.mul_le_mul (Nat.le_add_right _ _) hb
    unfold reachBytes at h1
    omega
  · simp only [DataW.weights, hu, List.mem_cons, List.mem_append]
    exact .inr (.inl (weightsAll_mem (List.mem_map.2 ⟨i, List.mem_range.2 hi, rfl⟩) hn))

theorem agg_weights {P : Program} {t : TypeId} {fs : Array Field} {xs : List (DataW H × List MemPlace)} (hu : P.underlying t = some (.struct fs)) (h : ∀ n ∈ (DataW.agg (xs.map (·.1))).weights P t, n ≤ reachBytes) {i : Nat} {f : Field} {y : DataW H × List MemPlace} (hf : fs[i]? = some f) (hy : xs[i]? = some y) :
    ∀ n ∈ y.1.weights P f.type, n ≤ reachBytes := fun n hn => by
  refine h n ?_
  simp only [DataW.weights, hu]
  refine DataW.weights_mem_each (j := i) ?_ ?_ n hn
  · rw [List.getElem?_map, Array.getElem?_toList, hf]; rfl
  · rw [List.getElem?_map, hy]; rfl

theorem open_words {fuel : Nat} {cs : List Value} {x : DataW H × List MemPlace} (h : DataW.trod enc Try.prog w base spare held fuel 26 cs = some x) (hw : ∀ n ∈ x.1.weights Try.prog 26, n ≤ reachBytes) :
    ∃ a c xs, cs = [.slice a (List.length xs) c] ∧ WordsAt w (.slice a xs.length c) xs ∧ xs.length ≤ 140737488355328 := by
  rcases Go.Deep.open_slice1 Try.underlying26 (by kernel_rfl) h with h0 | ⟨a, len, cap, m, n, V, D, Pl, rfl, hb, hl, hm, hmm, rfl, hx⟩
  · exact ⟨none, 0, [], h0.1, ⟨none, 0, rfl, fun _ => rfl, fun h => absurd rfl h⟩, by simp⟩
  have hlm : len ≤ m := by rw [hmm]; split <;> omega
  obtain ⟨hwl, hwe⟩ := slice_weights Try.underlying26 hw (show 1 ≤ Try.prog.bytesOf 111 from by rw [show Try.prog.bytesOf 111 = 4 by kernel_rfl]; decide)
  have each : ∀ i, i < len → ∃ z : Int, w.cell? (a.add i) = some (.int .u32 z) := fun i hi => by
    obtain ⟨h1, h2⟩ := hx i (by omega)
    obtain ⟨n0, e0, -, -⟩ := DataW.trod_int Try.underlying111 h2
    simp at e0
    exact ⟨n0, by rw [h1, e0]⟩
  obtain ⟨q, hq⟩ := Go.Deep.choose_lt each
  refine ⟨some a, cap, (List.range len).map q, by simp, ⟨some a, cap, by simp, (fun h => by cases h), fun hne => ?_⟩, by simpa using hwl⟩
  have h0 := range_ne hne
  have h0c := hq 0 h0
  rw [add_zero'] at h0c
  obtain ⟨bl, off, rfl⟩ := addr_plain h0c
  refine ⟨bl, off, rfl, fun i y hy => ?_⟩
  obtain ⟨hi, rfl⟩ := range_at hy
  have := hq i hi
  rwa [Go.Pen.add_lit] at this

set_option maxRecDepth 100000 in
theorem open_row {fuel : Nat} {cs : List Value} {x : DataW H × List MemPlace} (h : DataW.trod enc Try.prog w base spare held fuel 35 cs = some x) (hw : ∀ n ∈ x.1.weights Try.prog 35, n ≤ reachBytes) :
    ∃ a c ds, cs = [.slice a (List.length ds) c] ∧ RowAt w (.slice a ds.length c) ds ∧ ds.length ≤ 140737488355328 := by
  rcases Go.Deep.open_slice Try.underlying35 h with h0 | ⟨a, len, cap, m, n, D, Pl, rfl, hb, hl, hm, hmm, rfl, hx⟩
  · exact ⟨none, 0, [], h0.1, ⟨none, 0, rfl, fun _ => rfl, fun h => absurd rfl h⟩, by simp⟩
  have hlm : len ≤ m := by rw [hmm]; split <;> omega
  obtain ⟨hwl, hwe⟩ := slice_weights Try.underlying35 hw (show 1 ≤ Try.prog.bytesOf 89 from by rw [show Try.prog.bytesOf 89 = 32 by kernel_rfl]; decide)
  have ce : Try.prog.cellsOf 89 = 4 := by kernel_rfl
  have each : ∀ i, i < len → ∃ d : Dat, w.cell? (a.add (i * 4)) = some (.int .u8 d.kind) ∧ w.cell? (a.add (i * 4 + 1)) = some (.bool d.bool) ∧ w.cell? (a.add (i * 4 + 2)) = some (.int .i64 d.int) ∧ w.cell? (a.add (i * 4 + 3)) = some (.string d.text) := by
    intro i hi
    obtain ⟨cs', h1, h2⟩ := hx i (by omega)
    rw [ce] at h1
    obtain ⟨_, hlen, hcell⟩ := World.cells?_some h1
    obtain ⟨xs, k, hk, hxy, _, hxl, hf⟩ := DataW.trod_struct Try.underlying89 h2
    match xs, hxl, cs', hlen with
    | [y0, y1, y2, y3], _, [v0, v1, v2, v3], _ =>
      have g0 := hf 0 _ rfl
      have g1 := hf 1 _ rfl
      have g2 := hf 2 _ rfl
      have g3 := hf 3 _ rfl
      have c87 : Try.prog.cellsOf 87 = 1 := by kernel_rfl
      have c4 : Try.prog.cellsOf 4 = 1 := by kernel_rfl
      have c2 : Try.prog.cellsOf 2 = 1 := by kernel_rfl
      have c9 : Try.prog.cellsOf 9 = 1 := by kernel_rfl
      simp [c87, c4, c2, c9] at g0 g1 g2 g3
      obtain ⟨n0, e0, -, -⟩ := DataW.trod_int Try.underlying87 g0
      obtain ⟨n1, e1, -⟩ := DataW.trod_bool Try.underlying4 g1
      obtain ⟨n2, e2, -, -⟩ := DataW.trod_int Try.underlying2 g2
      obtain ⟨n3, e3, -, -⟩ := DataW.trod_string Try.underlying9 g3
      simp only [List.cons.injEq, and_true] at e0 e1 e2 e3
      subst e0 e1 e2 e3
      have q0 := hcell 0 (by omega)
      have q1 := hcell 1 (by omega)
      have q2 := hcell 2 (by omega)
      have q3 := hcell 3 (by omega)
      rw [Go.Deep.add_add] at q0 q1 q2 q3
      exact ⟨⟨n0, n1, n2, n3⟩, by simpa using q0, by simpa using q1, by simpa using q2, by simpa using q3⟩
  have : Inhabited Dat := ⟨⟨0, false, 0, ⟨#[]⟩⟩⟩
  obtain ⟨q, hq⟩ := Go.Deep.choose_lt each
  refine ⟨some a, cap, (List.range len).map q, by simp, ⟨some a, cap, by simp, (fun h => by cases h), fun hne => ?_⟩, by simpa using hwl⟩
  have h0 := range_ne hne
  have h0c := (hq 0 h0).1
  rw [Nat.zero_mul, add_zero'] at h0c
  obtain ⟨bl, off, rfl⟩ := addr_plain h0c
  refine ⟨bl, off, rfl, fun i y hy => ?_⟩
  obtain ⟨hi, rfl⟩ := range_at hy
  obtain ⟨c0, c1, c2, c3⟩ := hq i hi
  rw [Go.Pen.add_lit] at c0 c1 c2 c3
  exact ⟨c0, by rw [Nat.add_assoc]; exact c1, by rw [Nat.add_assoc]; exact c2, by rw [Nat.add_assoc]; exact c3⟩

set_option maxRecDepth 100000 in
theorem open_upds {fuel : Nat} {cs : List Value} {x : DataW H × List MemPlace} (h : DataW.trod enc Try.prog w base spare held fuel 29 cs = some x) (hw : ∀ n ∈ x.1.weights Try.prog 29, n ≤ reachBytes) :
    ∃ a c us, cs = [.slice a (List.length us) c] ∧ UpsAt w (.slice a us.length c) us ∧ us.length ≤ 140737488355328 ∧ ∀ u ∈ us, u.row.length ≤ 140737488355328 ∧ u.loops.length ≤ 140737488355328 := by
  rcases Go.Deep.open_slice Try.underlying29 h with h0 | ⟨a, len, cap, m, n, D, Pl, rfl, hb, hl, hm, hmm, rfl, hx⟩
  · exact ⟨none, 0, [], h0.1, ⟨none, 0, rfl, fun _ => rfl, fun h => absurd rfl h⟩, by simp⟩
  have hlm : len ≤ m := by rw [hmm]; split <;> omega
  obtain ⟨hwl, hwe⟩ := slice_weights Try.underlying29 hw (show 1 ≤ Try.prog.bytesOf 37 from by rw [show Try.prog.bytesOf 37 = 64 by kernel_rfl]; decide)
  have ce : Try.prog.cellsOf 37 = 4 := by kernel_rfl
  have each : ∀ i, i < len → ∃ u : Upd, ∃ rv lv, w.cell? (a.add (i * 4)) = some rv ∧ w.cell? (a.add (i * 4 + 1)) = some (.int .u64 u.epoch) ∧ w.cell? (a.add (i * 4 + 2)) = some lv ∧ w.cell? (a.add (i * 4 + 3)) = some (.int .i64 u.diff) ∧ (RowAt w rv u.row ∧ WordsAt w lv u.loops) ∧ u.row.length ≤ 140737488355328 ∧ u.loops.length ≤ 140737488355328 := by
    intro i hi
    obtain ⟨cs', h1, h2⟩ := hx i (by omega)
    rw [ce] at h1
    obtain ⟨_, hlen, hcell⟩ := World.cells?_some h1
    obtain ⟨xs, k, hk, hxy, _, hxl, hf⟩ := DataW.trod_struct Try.underlying37 h2
    match xs, hxl, cs', hlen with
    | [y0, y1, y2], _, [v0, v1, v2, v3], _ =>
      have g0 := hf 0 _ rfl
      have g1 := hf 1 _ rfl
      have g2 := hf 2 _ rfl
      have c35 : Try.prog.cellsOf 35 = 1 := by kernel_rfl
      have c28 : Try.prog.cellsOf 28 = 2 := by kernel_rfl
      have c2 : Try.prog.cellsOf 2 = 1 := by kernel_rfl
      simp [c35, c28, c2] at g0 g1 g2
      obtain ⟨xs1, k1, hk1, hxy1, _, hxl1, hf1⟩ := DataW.trod_struct Try.underlying28 g1
      have hwi := hwe i hi
      rw [show D i = _ from congrArg Prod.fst hxy] at hwi
      have hw0 := agg_weights Try.underlying37 hwi (i := 0) rfl rfl
      have hw1 := agg_weights Try.underlying37 hwi (i := 1) rfl rfl
      obtain ⟨ra, rc, ds, e0, hr, hrl⟩ := open_row g0 hw0
      obtain ⟨n3, e3, -, -⟩ := DataW.trod_int Try.underlying2 g2
      match xs1, hxl1 with
      | [z0, z1], _ =>
        have f0 := hf1 0 _ rfl
        have f1 := hf1 1 _ rfl
        have c25 : Try.prog.cellsOf 25 = 1 := by kernel_rfl
        have c26 : Try.prog.cellsOf 26 = 1 := by kernel_rfl
        simp [c25, c26] at f0 f1
        obtain ⟨n1, e1, -, -⟩ := DataW.trod_int Try.underlying25 f0
        rw [hxy1] at hw1
        have hw2 := agg_weights Try.underlying28 hw1 (i := 1) rfl rfl
        obtain ⟨la, lc, ws, e2, hww, hwwl⟩ := open_words f1 hw2
        simp only [List.cons.injEq, and_true] at e0 e1 e2 e3
        subst e0 e1 e2 e3
        have q0 := hcell 0 (by omega)
        have q1 := hcell 1 (by omega)
        have q2 := hcell 2 (by omega)
        have q3 := hcell 3 (by omega)
        rw [Go.Deep.add_add] at q0 q1 q2 q3
        exact ⟨⟨ds, n1, ws, n3⟩, _, _, by simpa using q0, by simpa using q1, by simpa using q2, by simpa using q3, ⟨hr, hww⟩, hrl, hwwl⟩
  have : Inhabited Upd := ⟨⟨[], 0, [], 0⟩⟩
  obtain ⟨q, hq⟩ := Go.Deep.choose_lt each
  refine ⟨some a, cap, (List.range len).map q, by simp, ⟨some a, cap, by simp, (fun h => by cases h), fun hne => ?_⟩, by simpa using hwl, fun u hu => ?_⟩
  rotate_left
  · obtain ⟨i, hi, rfl⟩ := List.mem_map.1 hu
    obtain ⟨_, _, -, -, -, -, -, hz⟩ := hq i (List.mem_range.1 hi)
    exact hz
  have h0 := range_ne hne
  obtain ⟨bl, off, rfl⟩ : ∃ bl off, a = ⟨bl, off, none⟩ := by
    obtain ⟨_, _, h1, -⟩ := hq 0 h0
    rw [Nat.zero_mul, add_zero'] at h1
    exact addr_plain h1
  refine ⟨bl, off, rfl, fun i y hy => ?_⟩
  obtain ⟨hi, rfl⟩ := range_at hy
  obtain ⟨rv, lv, c0, c1, c2, c3, ⟨h4, h5⟩, -⟩ := hq i hi
  rw [Go.Pen.add_lit] at c0 c1 c2 c3
  exact ⟨rv, lv, c0, by rw [Nat.add_assoc]; exact c1, by rw [Nat.add_assoc]; exact c2, by rw [Nat.add_assoc]; exact c3, h4, h5⟩
end
end Go.Proofs.Ytpoilgeffpedoaa
