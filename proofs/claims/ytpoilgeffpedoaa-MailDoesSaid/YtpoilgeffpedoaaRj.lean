import Derived.Test.YtpoilgeffpedoaaRh
import Derived.Test.YtpoilgeffpedoaaRi
/- A slice of calls that came in, opened. -/
namespace Go.Proofs.Ytpoilgeffpedoaa
open Go.RowKit Go.Pen

section
variable {H : Type} {enc : TypeId × Value → H} {w : World} {base : Nat} {spare : Nat → Bool} {held : Bool}

set_option maxRecDepth 100000 in
theorem open_msg {fuel : Nat} {cs : List Value} {x : DataW H × List MemPlace} (hlen : cs.length = 7) (h : DataW.trod enc Try.prog w base spare held fuel 31 cs = some x) (hw : ∀ n ∈ x.1.weights Try.prog 31, n ≤ reachBytes) :
    ∃ m : AMsg, cs = m.vals ∧ m.came w := by
  obtain ⟨xs, k, hk, hxy, _, hxl, hf⟩ := DataW.trod_struct Try.underlying31 h
  match xs, hxl, cs, hlen with
  | [y0, y1, y2, y3], _, [v0, v1, v2, v3, v4, v5, v6], _ =>
    have g0 := hf 0 _ rfl
    have g1 := hf 1 _ rfl
    have g2 := hf 2 _ rfl
    have g3 := hf 3 _ rfl
    have c24 : Try.prog.cellsOf 24 = 3 := by kernel_rfl
    have c28 : Try.prog.cellsOf 28 = 2 := by kernel_rfl
    have c29 : Try.prog.cellsOf 29 = 1 := by kernel_rfl
    simp [c24, c28, c29] at g0 g1 g2 g3
    rw [hxy] at hw
    have hw1 := agg_weights Try.underlying31 hw (i := 1) rfl rfl
    have hw2 := agg_weights Try.underlying31 hw (i := 2) rfl rfl
    have hw3 := agg_weights Try.underlying31 hw (i := 3) rfl rfl
    obtain ⟨xs0, k0, -, -, _, hxl0, hf0⟩ := DataW.trod_struct Try.underlying24 g0
    obtain ⟨xs1, k1, -, hxy1, _, hxl1, hf1⟩ := DataW.trod_struct Try.underlying28 g1
    obtain ⟨ra, rc, rs, e5, hr, hrl, hrk⟩ := open_upds g2 hw2
    obtain ⟨ea, ec, es, e6, he, hel, hek⟩ := open_upds g3 hw3
    match xs0, hxl0, xs1, hxl1 with
    | [z0, z1, z2], _, [t0, t1], _ =>
      have f0 := hf0 0 _ rfl
      have f1 := hf0 1 _ rfl
      have f2 := hf0 2 _ rfl
      have f3 := hf1 0 _ rfl
      have f4 := hf1 1 _ rfl
      have c3 : Try.prog.cellsOf 3 = 1 := by kernel_rfl
      have c4 : Try.prog.cellsOf 4 = 1 := by kernel_rfl
      have c25 : Try.prog.cellsOf 25 = 1 := by kernel_rfl
      have c26 : Try.prog.cellsOf 26 = 1 := by kernel_rfl
      simp [c3, c4, c25, c26] at f0 f1 f2 f3 f4
      rw [hxy1] at hw1
      have hw4 := agg_weights Try.underlying28 hw1 (i := 1) rfl rfl
      obtain ⟨n0, e0, -, -⟩ := DataW.trod_int Try.underlying3 f0
      obtain ⟨n1, e1, -⟩ := DataW.trod_bool Try.underlying4 f1
      obtain ⟨n2, e2, -, -⟩ := DataW.trod_int Try.underlying3 f2
      obtain ⟨n3, e3, -, -⟩ := DataW.trod_int Try.underlying25 f3
      obtain ⟨la, lc, ls, e4, hl, hll⟩ := open_words f4 hw4
      simp only [List.cons.injEq, and_true] at e0 e1 e2 e3 e4 e5 e6
      subst e0 e1 e2 e3 e4 e5 e6
      exact ⟨⟨n0, n1, n2, n3, la, lc, ls, ra, rc, rs, ea, ec, es⟩, rfl, ⟨hl, hr, he, hll, hrl, hel, hrk, hek⟩⟩

set_option maxRecDepth 100000 in
theorem open_acts {fuel : Nat} {cs : List Value} {x : DataW H × List MemPlace} (h : DataW.trod enc Try.prog w base spare held fuel 22 cs = some x) (hw : ∀ n ∈ x.1.weights Try.prog 22, n ≤ reachBytes) :
    ∃ bl off cap a acts, cs = [.slice a (List.length acts) cap] ∧ (acts ≠ [] → a = some ⟨bl, off, none⟩) ∧ ActsAt w bl off acts ∧ acts.length ≤ 140737488355328 ∧ ∀ g ∈ acts, g.m.came w := by
  rcases Go.Deep.open_slice Try.underlying22 h with h0 | ⟨a, len, cap, m, n, D, Pl, rfl, hb, hl, hm, hmm, rfl, hx⟩
  · exact ⟨0, 0, 0, none, [], h0.1, fun h => absurd rfl h, fun i g hg => by simp at hg, by simp, fun g hg => by cases hg⟩
  have hlm : len ≤ m := by rw [hmm]; split <;> omega
  obtain ⟨hwl, hwe⟩ := slice_weights Try.underlying22 hw (show 1 ≤ Try.prog.bytesOf 33 from by rw [show Try.prog.bytesOf 33 = 128 by kernel_rfl]; decide)
  have ce : Try.prog.cellsOf 33 = 10 := by kernel_rfl
  have each : ∀ i, i < len → ∃ g : GAct, (∀ (t : Nat) x, g.vals[t]? = some x → w.cell? (a.add (i * 10 + t)) = some x) ∧ g.m.came w := by
    intro i hi
    obtain ⟨cs', h1, h2⟩ := hx i (by omega)
    rw [ce] at h1
    obtain ⟨_, hlen, hcell⟩ := World.cells?_some h1
    obtain ⟨xs, k, hk, hxy, _, hxl, hf⟩ := DataW.trod_struct Try.underlying33 h2
    match xs, hxl, cs', hlen with
    | [y0, y1, y2, y3], _, v0 :: v1 :: v2 :: vs, hlen =>
      have g0 := hf 0 _ rfl
      have g1 := hf 1 _ rfl
      have g2 := hf 2 _ rfl
      have g3 := hf 3 _ rfl
      have c4 : Try.prog.cellsOf 4 = 1 := by kernel_rfl
      have c3 : Try.prog.cellsOf 3 = 1 := by kernel_rfl
      have c31 : Try.prog.cellsOf 31 = 7 := by kernel_rfl
      simp [c4, c3, c31] at g0 g1 g2 g3
      have hvs : vs.length = 7 := by simp at hlen; omega
      rw [List.take_of_length_le (by omega)] at g3
      have hwi := hwe i hi
      rw [show D i = _ from congrArg Prod.fst hxy] at hwi
      have hw3 := agg_weights Try.underlying33 hwi (i := 3) rfl rfl
      obtain ⟨b0, e0, -⟩ := DataW.trod_bool Try.underlying4 g0
      obtain ⟨n1, e1, -, -⟩ := DataW.trod_int Try.underlying3 g1
      obtain ⟨n2, e2, -, -⟩ := DataW.trod_int Try.underlying3 g2
      obtain ⟨ms, e3, hms⟩ := open_msg hvs g3 hw3
      simp only [List.cons.injEq, and_true] at e0 e1 e2
      subst e0 e1 e2 e3
      refine ⟨⟨b0, n1, n2, ms⟩, fun t x hxt => ?_, hms⟩
      have ht : t < 10 := by
        have := (List.getElem?_eq_some_iff.1 hxt).1
        simpa [GAct.vals, AMsg.vals] using this
      have := hcell t (by omega)
      rw [Go.Deep.add_add] at this
      rw [this]
      exact hxt
  have : Inhabited GAct := ⟨⟨false, 0, 0, AMsg.zero⟩⟩
  obtain ⟨q, hq⟩ := Go.Deep.choose_lt each
  rcases Nat.eq_zero_or_pos len with e0 | h0
  · subst e0
    exact ⟨0, 0, cap, some a, [], rfl, fun h => absurd rfl h, fun i g hg => by simp at hg, by simp, fun g hg => by cases hg⟩
  · have h0c := (hq 0 h0).1 0 _ rfl
    rw [show 0 * 10 + 0 = 0 from rfl, add_zero'] at h0c
    obtain ⟨bl, off, rfl⟩ := addr_plain h0c
    refine ⟨bl, off, cap, _, (List.range len).map q, by simp, fun _ => rfl, fun i g hg t x hx => ?_, by simpa using hwl, fun g hg => ?_⟩
    · obtain ⟨hi, rfl⟩ := range_at hg
      have := (hq i hi).1 t x hx
      rw [Go.Pen.add_lit] at this
      rw [Nat.add_assoc]; exact this
    · obtain ⟨i, hi, rfl⟩ := List.mem_map.1 hg
      exact (hq i (List.mem_range.1 hi)).2
end
end Go.Proofs.Ytpoilgeffpedoaa
