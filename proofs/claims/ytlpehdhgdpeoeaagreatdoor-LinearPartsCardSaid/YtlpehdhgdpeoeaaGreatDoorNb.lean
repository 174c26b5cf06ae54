import Derived.Test.YtlpehdhgdpeoeaaGreatDoorGc
import Derived.Test.YtlpehdhgdpeoeaaGreatDoorLi
/- Updates, lists of expressions, words that came in, opened. -/
namespace Go.Proofs.YtlpehdhgdpeoeaaGreatDoor
open Go.RowKit Go.Pen

section
variable {H : Type} {enc : TypeId × Value → H} {w : World} {base : Nat} {spare : Nat → Bool} {held : Bool}

theorem open_words {fuel : Nat} {cs : List Value} {x : DataW H × List MemPlace} (h : DataW.trod enc Tryz.prog w base spare held fuel 34 cs = some x) (hw : ∀ n ∈ x.1.weights Tryz.prog 34, n ≤ reachBytes) :
    ∃ a c xs, cs = [.slice a (List.length xs) c] ∧ WordsAt w (.slice a xs.length c) xs ∧ xs.length ≤ 140737488355328 ∧ ∀ x ∈ xs, 0 ≤ x ∧ x ≤ 4294967295 := by
  rcases Go.Deep.open_slice1 Tryz.underlying34 (by kernel_rfl) h with h0 | ⟨a, len, cap, m, n, V, D, Pl, rfl, hb, hl, hm, hmm, rfl, hx⟩
  · exact ⟨none, 0, [], h0.1, ⟨none, 0, rfl, fun _ => rfl, fun h => absurd rfl h⟩, by simp, by simp⟩
  have hlm : len ≤ m := by rw [hmm]; split <;> omega
  obtain ⟨hwl, hwe⟩ := slice_weights Tryz.underlying34 hw (show 1 ≤ Tryz.prog.bytesOf 33 from by rw [show Tryz.prog.bytesOf 33 = 4 by kernel_rfl]; decide)
  have each : ∀ i, i < len → ∃ z : Int, w.cell? (a.add i) = some (.int .u32 z) ∧ 0 ≤ z ∧ z ≤ 4294967295 := fun i hi => by
    obtain ⟨h1, h2⟩ := hx i (by omega)
    obtain ⟨n0, e0, -, w0⟩ := DataW.trod_int Tryz.underlying33 h2
    simp at e0
    have f0 : 0 ≤ n0 ∧ n0 ≤ 4294967295 := by simpa [Lit.wf, IntKind.min, IntKind.max, IntKind.signed, IntKind.bits] using w0
    exact ⟨n0, by rw [h1, e0], f0⟩
  obtain ⟨q, hq⟩ := Go.Deep.choose_lt each
  refine ⟨some a, cap, (List.range len).map q, by simp, ⟨some a, cap, by simp, (fun h => by cases h), fun hne => ?_⟩, by simpa using hwl, fun y hy => ?_⟩
  rotate_left
  · obtain ⟨i, hi, rfl⟩ := List.mem_map.1 hy
    exact (hq i (List.mem_range.1 hi)).2
  have h0 := range_ne hne
  have h0c := (hq 0 h0).1
  rw [add_zero'] at h0c
  obtain ⟨bl, off, rfl⟩ := addr_plain h0c
  refine ⟨bl, off, rfl, fun i y hy => ?_⟩
  obtain ⟨hi, rfl⟩ := range_at hy
  have := (hq i hi).1
  rwa [Go.Pen.add_lit] at this

set_option maxRecDepth 100000 in
theorem open_upds {fuel : Nat} {cs : List Value} {x : DataW H × List MemPlace} (h : DataW.trod enc Tryz.prog w base spare held fuel 22 cs = some x) (hw : ∀ n ∈ x.1.weights Tryz.prog 22, n ≤ reachBytes) :
    ∃ a c us, cs = [.slice a (List.length us) c] ∧ UpsAt w (.slice a us.length c) us ∧ us.length ≤ 140737488355328 ∧ ∀ u ∈ us, u.wide := by
  rcases Go.Deep.open_slice Tryz.underlying22 h with h0 | ⟨a, len, cap, m, n, D, Pl, rfl, hb, hl, hm, hmm, rfl, hx⟩
  · exact ⟨none, 0, [], h0.1, ⟨none, 0, rfl, fun _ => rfl, fun h => absurd rfl h⟩, by simp, by simp⟩
  have hlm : len ≤ m := by rw [hmm]; split <;> omega
  obtain ⟨hwl, hwe⟩ := slice_weights Tryz.underlying22 hw (show 1 ≤ Tryz.prog.bytesOf 51 from by rw [show Tryz.prog.bytesOf 51 = 64 by kernel_rfl]; decide)
  have ce : Tryz.prog.cellsOf 51 = 4 := by kernel_rfl
  have each : ∀ i, i < len → ∃ u : Upd, ∃ rv lv, w.cell? (a.add (i * 4)) = some rv ∧ w.cell? (a.add (i * 4 + 1)) = some (.int .u64 u.epoch) ∧ w.cell? (a.add (i * 4 + 2)) = some lv ∧ w.cell? (a.add (i * 4 + 3)) = some (.int .i64 u.diff) ∧ (RowAt w rv u.row ∧ WordsAt w lv u.loops) ∧ u.wide := by
    intro i hi
    obtain ⟨cs', h1, h2⟩ := hx i (by omega)
    rw [ce] at h1
    obtain ⟨_, hlen, hcell⟩ := World.cells?_some h1
    obtain ⟨xs, k, hk, hxy, _, hxl, hf⟩ := DataW.trod_struct Tryz.underlying51 h2
    match xs, hxl, cs', hlen with
    | [y0, y1, y2], _, [v0, v1, v2, v3], _ =>
      have g0 := hf 0 _ rfl
      have g1 := hf 1 _ rfl
      have g2 := hf 2 _ rfl
      have c49 : Tryz.prog.cellsOf 49 = 1 := by kernel_rfl
      have c46 : Tryz.prog.cellsOf 46 = 2 := by kernel_rfl
      have c2 : Tryz.prog.cellsOf 2 = 1 := by kernel_rfl
      simp [c49, c46, c2] at g0 g1 g2
      obtain ⟨xs1, k1, hk1, hxy1, _, hxl1, hf1⟩ := DataW.trod_struct Tryz.underlying46 g1
      have hwi := hwe _ (List.mem_map.2 ⟨i, List.mem_range.2 (by omega), rfl⟩)
      rw [show D i = _ from congrArg Prod.fst hxy] at hwi
      have hw0 := agg_weights Tryz.underlying51 hwi (i := 0) rfl rfl
      have hw1 := agg_weights Tryz.underlying51 hwi (i := 1) rfl rfl
      obtain ⟨ds, ra, rc, e0, hr, hrl, hrf⟩ := open_row g0 hw0
      obtain ⟨n3, e3, -, w3⟩ := DataW.trod_int Tryz.underlying2 g2
      match xs1, hxl1 with
      | [z0, z1], _ =>
        have f0 := hf1 0 _ rfl
        have f1 := hf1 1 _ rfl
        have c44 : Tryz.prog.cellsOf 44 = 1 := by kernel_rfl
        have c34 : Tryz.prog.cellsOf 34 = 1 := by kernel_rfl
        simp [c44, c34] at f0 f1
        obtain ⟨n1, e1, -, w1⟩ := DataW.trod_int Tryz.underlying44 f0
        rw [hxy1] at hw1
        have hw2 := agg_weights Tryz.underlying46 hw1 (i := 1) rfl rfl
        obtain ⟨la, lc, ws, e2, hww, hwwl, hwf⟩ := open_words f1 hw2
        simp only [List.cons.injEq, and_true] at e0 e1 e2 e3
        subst e0 e1 e2 e3
        have b1 : 0 ≤ n1 ∧ n1 ≤ 18446744073709551615 := by simpa [Lit.wf, IntKind.min, IntKind.max, IntKind.signed, IntKind.bits] using w1
        have b3 : -9223372036854775808 ≤ n3 ∧ n3 ≤ 9223372036854775807 := by simpa [Lit.wf, IntKind.min, IntKind.max, IntKind.signed, IntKind.bits] using w3
        have q0 := hcell 0 (by omega)
        have q1 := hcell 1 (by omega)
        have q2 := hcell 2 (by omega)
        have q3 := hcell 3 (by omega)
        rw [Go.Deep.add_add] at q0 q1 q2 q3
        exact ⟨⟨ds, n1, ws, n3⟩, _, _, by simpa using q0, by simpa using q1, by simpa using q2, by simpa using q3, ⟨hr, hww⟩, ⟨hrf, b1, hwf, b3, Nat.le_trans hrl (by decide), hwwl⟩⟩
  have : Inhabited Upd := ⟨⟨[], 0, [], 0⟩⟩
  obtain ⟨q, hq⟩ := Go.Deep.choose_lt each
  refine ⟨some a, cap, (List.range len).map q, by simp, ⟨some a, cap, by simp, (fun h => by cases h), fun hne => ?_⟩, by simpa using hwl, fun u hu => ?_⟩
  rotate_left
  · obtain ⟨i, hi, rfl⟩ := List.mem_map.1 hu
    obtain ⟨_, _, -, -, -, -, -, hz⟩ := hq i (List.mem_range.1 hi)
    exact hz
  have h0 := range_ne hne
  obtain ⟨bl, off, rfl⟩ : ∃ bl off, a = ⟨bl, off, none⟩ := by
    obtain ⟨_, _, h1, -⟩ := hq 0 h0
    rw [Nat.zero_mul, add_zero'] at h1
    exact addr_plain h1
  refine ⟨bl, off, rfl, fun i y hy => ?_⟩
  obtain ⟨hi, rfl⟩ := range_at hy
  obtain ⟨rv, lv, c0, c1, c2, c3, ⟨h4, h5⟩, -⟩ := hq i hi
  rw [Go.Pen.add_lit] at c0 c1 c2 c3
  exact ⟨rv, lv, c0, by rw [Nat.add_assoc]; exact c1, by rw [Nat.add_assoc]; exact c2, by rw [Nat.add_assoc]; exact c3, h4, h5⟩

theorem open_exprs {fuel : Nat} {v : Value} {x : DataW H × List MemPlace} (h : DataW.trod enc Tryz.prog w base spare held fuel 23 [v] = some x) (hw : ∀ n ∈ x.1.weights Tryz.prog 23, n ≤ reachBytes) :
    ∃ (es : List ET) (a : Option Addr) (c : Nat), v = .slice a es.length c ∧ ExprsAt w (.slice a es.length c) es ∧ es.length ≤ 140737488355328 ∧ ∀ e ∈ es, e.fits := by
  rcases DataW.trod_slice Tryz.underlying23 h with ⟨h0, -⟩ | ⟨a, len, cap, elems, rest, n, hn, h1, hx1, hb, hl, hm, hlen1, hel, -, -⟩
  · simp only [List.cons.injEq, and_true] at h0
    subst h0
    exact ⟨[], none, 0, rfl, ExprsAt.iff.2 ⟨none, 0, rfl, fun _ => rfl, fun h => absurd rfl h⟩, by simp, by simp⟩
  · simp only [List.cons.injEq, and_true] at h1
    subst h1
    rw [hx1] at hw
    obtain ⟨hwl, hwe⟩ := slice_weights Tryz.underlying23 hw (show 1 ≤ Tryz.prog.bytesOf 57 from by rw [show Tryz.prog.bytesOf 57 = 72 by kernel_rfl]; decide)
    rw [List.length_map, hlen1] at hwl
    have ce : Tryz.prog.cellsOf 57 = 7 := by kernel_rfl
    have each : ∀ i, i < len → ∃ k : ET, ∃ kv, KidCells' w (a.add (i * 7)) k kv ∧ k.At w kv ∧ k.fits := by
      intro i hi
      have h2 := hel i hi
      rw [ce, List.getElem?_eq_getElem (by omega : i < elems.length), Option.bind_eq_some_iff] at h2
      obtain ⟨cs', hcs, hy'⟩ := h2
      obtain ⟨_, hlen', hcell⟩ := World.cells?_some hcs
      obtain ⟨e, ea, ec, he, hat, hft⟩ := open_expr n hlen' hy' (hwe _ (List.mem_map.2 ⟨_, List.getElem_mem _, rfl⟩))
      subst he
      refine ⟨e, _, fun j hj v hv => ?_, hat, hft⟩
      exact (hcell j hj).trans hv
    have : Inhabited ET := ⟨.mk 0 0 Dat.zero []⟩
    obtain ⟨q, hq⟩ := Go.Deep.choose_lt each
    refine ⟨(List.range len).map q, some a, cap, by simp, ExprsAt.iff.2 ⟨some a, cap, rfl, (fun h => by cases h), fun hne => ?_⟩, ?_, ?_⟩
    · have h0 : 0 < len := by
        rcases Nat.eq_zero_or_pos len with e | h'
        · subst e; exact absurd rfl hne
        · exact h'
      obtain ⟨kv0, hk0, -, -⟩ := hq 0 h0
      have hz := hk0 0 (by decide) _ rfl
      rw [Nat.zero_mul, add_zero', add_zero'] at hz
      obtain ⟨bl, off, rfl⟩ := addr_plain hz
      refine ⟨bl, off, rfl, trivial, ET.Ons.mk fun i k hk => ?_⟩
      obtain ⟨hi, rfl⟩ := range_at hk
      obtain ⟨kv, hkc, hat, -⟩ := hq i hi
      have hc : ∀ (j : Nat), j < 7 → ∀ v, ((q i).cells kv)[j]? = some v → w.cell? ⟨bl, off + i * 7 + j, none⟩ = some v := fun j hj v hv => by
        have h := hkc j hj v hv
        rw [add_lit, add_lit] at h
        exact h
      exact ⟨kv, ⟨hc 0 (by decide) _ rfl, hc 1 (by decide) _ rfl, hc 2 (by decide) _ rfl, hc 3 (by decide) _ rfl, hc 4 (by decide) _ rfl, hc 5 (by decide) _ rfl, hc 6 (by decide) _ rfl⟩, hat⟩
    · simpa using hwl
    · intro e he
      obtain ⟨i, hi, rfl⟩ := List.mem_map.1 he
      obtain ⟨_, -, -, hft⟩ := hq i (List.mem_range.1 hi)
      exact hft
end
end Go.Proofs.YtlpehdhgdpeoeaaGreatDoor
