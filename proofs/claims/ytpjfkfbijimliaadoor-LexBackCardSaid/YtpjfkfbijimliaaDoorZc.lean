/- same, of the same tokens; placed. -/
import Derived.Test.YtpjfkfbijimliaaDoorX
namespace Go.Proofs.YtpjfkfbijimliaaDoor
open Go.RowKit Go.Pen

/-- a slice that reads as tokens -/
def TokRow (w : World) (v : Value) (gs : List GTok) : Prop :=
  ∃ a c, v = .slice a gs.length c ∧ (gs ≠ [] → ∃ b o, a = some ⟨b, o, none⟩ ∧ b < w.heap.size ∧ ToksAt w b o gs)

theorem TokRow.below {w w' : World} {v : Value} {gs : List GTok} (h : TokRow w v gs) (hb : Below w.heap.size w w') : TokRow w' v gs := by
  obtain ⟨a, c, rfl, h⟩ := h
  refine ⟨a, c, rfl, fun hne => ?_⟩
  obtain ⟨b, o, rfl, hlt, ht⟩ := h hne
  refine ⟨b, o, rfl, Nat.lt_of_lt_of_le hlt hb.size, fun i g hg => ?_⟩
  obtain ⟨h0, h1, h2, h3⟩ := ht i g hg
  exact ⟨(hb.cell (p := ⟨b, o + i * 4, none⟩) hlt).trans h0, (hb.cell (p := ⟨b, o + i * 4 + 1, none⟩) hlt).trans h1, (hb.cell (p := ⟨b, o + i * 4 + 2, none⟩) hlt).trans h2, (hb.cell (p := ⟨b, o + i * 4 + 3, none⟩) hlt).trans h3⟩

theorem tokRow_of_owns {w : World} {base : Nat} {v : Value} {ts : List Tok} (ho : w.ownsRow base 37 4 v ts.length (toksc ts)) : TokRow w v (ts.map Tok.g) := by
  obtain ⟨a, c, rfl⟩ := ownsRow_slice ho
  refine ⟨a, c, by rw [List.length_map], fun hne => ?_⟩
  rcases ho.2 with ⟨-, h⟩ | ⟨g, cap, cur, h, -⟩
  · have : ts = [] := List.eq_nil_of_length_eq_zero h
    subst this; simp at hne
  · cases h
    obtain ⟨hbl, -⟩ := ownsRow_heap ho
    exact ⟨g, 0, rfl, hbl, toks_at ho⟩

set_option maxRecDepth 100000 in
set_option maxHeartbeats 4000000 in
theorem same_14 (gs : List GTok) (v v' : Value) (w : World) (hv : TokRow w v gs) (hv' : TokRow w v' gs) (hn : gs.length ≤ 9223372036854775807) :
    Calls Tryd.prog 14 #[v, v'] w fun e w' => e = .returned (.bool true) ∧ ∃ q, w' = w.drewN q := by
  obtain ⟨a, c, rfl, h1⟩ := hv
  obtain ⟨a', c', rfl, h1'⟩ := hv'
  obtain ⟨n, hnn⟩ : ∃ n, gs.length = n := ⟨_, rfl⟩
  rw [hnn] at hn ⊢
  have HN := Lib.hid hnn
  have H1 := Lib.hid h1
  have H2 := Lib.hid h1'
  have hne : ((n : Int) != (n : Int)) = false := by simp
  clear hnn h1 h1'
  go_enter Tryd.func14, Tryd.ntmps14
  go_wp2_with fail
  go_loopw [5] (fun i wr => ∃ m : Nat, m ≤ n ∧ i = .int .i64 m ∧ ∃ q, wr = w.drewN q) (fun i _ => n - (intOf i).toNat)
  case atStart => exact ⟨0, Nat.zero_le _, rfl, 0, rfl⟩
  case round =>
    obtain ⟨m, hm, rfl, q, rfl⟩ := hrel
    clear hne
    rcases Nat.lt_or_ge m n with hlt | hge
    · have hd : decide ((m : Int) < (n : Int)) = true := by simpa using hlt
      obtain ⟨g, hg⟩ : ∃ g, gs[m]? = some g := ⟨_, List.getElem?_eq_getElem (by have := HN.out; omega)⟩
      have hge : gs ≠ [] := by intro e; rw [e] at hg; simp at hg
      obtain ⟨b, o, rfl, -, ht⟩ := H1.out hge
      obtain ⟨b', o', rfl, -, ht'⟩ := H2.out hge
      obtain ⟨c0, c1, c2, c3⟩ := ht m g hg
      obtain ⟨d0, d1, d2, d3⟩ := ht' m g hg
      have b1 : (0 : Int) ≤ (m : Int) := by omega
      have b2 : (m : Int) < (n : Int) := by omega
      clear ht ht' hg hge
      go_wp2_with fail
      go_quiet (fail)
      go_wp2_with fail
      exact ⟨⟨m + 1, hlt, by simp, _, rfl⟩, by simp [intOf]; omega⟩
    · have hd : decide ((m : Int) < (n : Int)) = false := by simp; omega
      go_wp2_with fail
      go_ret
      exact ⟨rfl, q, rfl⟩

/-- tokens' cells -/
def gc (g : GTok) : List Value := [.int .u8 g.kind, .string g.text, .int .i64 g.number, .int .i64 g.at_]
def gsc (gs : List GTok) : List Value := gs.flatMap gc
def GTok.to (a : Int) (g : GTok) : GTok := { g with at_ := a }

theorem gsc_snoc (gs : List GTok) (g : GTok) : gsc gs ++ gc g = gsc (gs ++ [g]) := by simp [gsc]

theorem gsc_at (gs : List GTok) : ∀ i g, gs[i]? = some g → (gsc gs)[i * 4]? = some (.int .u8 g.kind) ∧ (gsc gs)[i * 4 + 1]? = some (.string g.text) ∧ (gsc gs)[i * 4 + 2]? = some (.int .i64 g.number) ∧ (gsc gs)[i * 4 + 3]? = some (.int .i64 g.at_) := by
  induction gs with
  | nil => intro i g h; simp at h
  | cons x xs ih =>
    intro i g h
    cases i with
    | zero => simp at h; subst h; exact ⟨rfl, rfl, rfl, rfl⟩
    | succ i =>
      rw [List.getElem?_cons_succ] at h
      have := ih i g h
      rw [show (i + 1) * 4 = i * 4 + 4 by omega]
      exact this

theorem tokRow_of_owns' {w : World} {base : Nat} {v : Value} {gs : List GTok} (ho : w.ownsRow base 37 4 v gs.length (gsc gs)) : TokRow w v gs := by
  obtain ⟨a, c, rfl⟩ := ownsRow_slice ho
  refine ⟨a, c, rfl, fun hne => ?_⟩
  rcases ho.2 with ⟨-, h⟩ | ⟨g, cap, cur, h, -⟩
  · exact absurd (List.eq_nil_of_length_eq_zero h) hne
  · cases h
    obtain ⟨hbl, -, -, hc⟩ := ownsRow_heap ho
    refine ⟨g, 0, rfl, hbl, fun i x hx => ?_⟩
    obtain ⟨a0, a1, a2, a3⟩ := gsc_at gs i x hx
    simp only [Nat.zero_add]
    exact ⟨hc _ _ a0, hc _ _ a1, hc _ _ a2, hc _ _ a3⟩

set_option maxRecDepth 100000 in
set_option maxHeartbeats 4000000 in
theorem placed_16 (gs : List GTok) (v : Value) (a : Int) (w : World) (hv : TokRow w v gs) (hn : gs.length * 40 ≤ 140737488355328) :
    Calls Tryd.prog 16 #[v, .int .i64 a] w fun e w' => ∃ v', e = .returned v' ∧ w'.ownsRow w.heap.size 37 4 v' gs.length (gsc (gs.map (GTok.to a))) ∧ Below w.heap.size w w' := by
  obtain ⟨i0, hi, hz0, hz1, hz2⟩ := info_parts info37
  obtain ⟨sa, sc, rfl, h1⟩ := hv
  obtain ⟨n, hnn⟩ : ∃ n, gs.length = n := ⟨_, rfl⟩
  obtain ⟨H, hH⟩ : ∃ H, w.heap.size = H := ⟨_, rfl⟩
  rw [hnn] at hn ⊢
  have HN := Lib.hid hnn
  have HH := Lib.hid hH
  have H1 := Lib.hid h1
  clear hnn h1 hH
  go_enter Tryd.func16, Tryd.ntmps16
  go_wp2_with fail
  go_loopw [5, 6] (fun u i wr => ∃ m : Nat, m ≤ n ∧ i = .int .i64 m ∧ wr.ownsRow H 37 4 u m (gsc ((gs.take m).map (GTok.to a))) ∧ Below H w wr) (fun _ i _ => n - (intOf i).toNat)
  case atStart => exact ⟨0, Nat.zero_le _, rfl, World.ownsRow_nil _ _ _ _, Below.refl _ _⟩
  case round =>
    obtain ⟨m, hm, rfl, ho, hb⟩ := hrel
    obtain ⟨va, vc, rfl⟩ := ownsRow_slice ho
    have hHs : H ≤ wr.heap.size := by have := hb.size; have := HH.out; omega
    rcases Nat.lt_or_ge m n with hlt | hge
    · have hd : decide ((m : Int) < (n : Int)) = true := by simpa using hlt
      obtain ⟨g, hg⟩ : ∃ g, gs[m]? = some g := ⟨_, List.getElem?_eq_getElem (by have := HN.out; omega)⟩
      have hge : gs ≠ [] := by intro e; rw [e] at hg; simp at hg
      obtain ⟨b, o, rfl, hbl, ht⟩ := H1.out hge
      have hbH : b < H := by have := HH.out; omega
      obtain ⟨g0, g1, g2, g3⟩ := ht m g hg
      have c0 := (hb.cell (p := ⟨b, o + m * 4, none⟩) hbH).trans g0
      have c1 := (hb.cell (p := ⟨b, o + m * 4 + 1, none⟩) hbH).trans g1
      have c2 := (hb.cell (p := ⟨b, o + m * 4 + 2, none⟩) hbH).trans g2
      have c3 := (hb.cell (p := ⟨b, o + m * 4 + 3, none⟩) hbH).trans g3
      have HGM := Lib.hid hg
      have HB := Lib.hid hb
      clear g0 g1 g2 g3 ht hg hge hb
      go_wp2_with (at_builtin; go_must (refine wpList_append_own _ rfl _ _ 22 rfl H 37 i0 (.agg #[.int .u8 0, .string ⟨#[]⟩, .int .i64 0, .int .i64 0]) 4 40 Tryd.underlying22 hi hz0 hz1 hz2 rfl (by decide) (.slice va m vc) m _ rfl ((ho.alloc _).alloc _) ⟨wr.heap.size + 1, 0, none⟩ 1 1 (gc (g.to a)) rfl rfl ?c1 ?c2 ?c3 ?c4 ?c5 ?_))
      case c1 =>
        intro i u hu
        rw [add_lit, Nat.zero_add]
        have hnew : ((wr.alloc (.cells (gc (g.to a)).toArray 37)).alloc (.cells (gc (g.to a)).toArray 37)).heap[wr.heap.size + 1]? = some (.cells (gc (g.to a)).toArray 37 (0, 0)) := by
          have hz : (wr.alloc (.cells (gc (g.to a)).toArray 37)).heap.size = wr.heap.size + 1 := by simp
          rw [← hz]; exact heap_alloc_new _ _
        exact cell_of_heap hnew (by rw [List.getElem?_toArray]; exact hu)
      case c2 => intro u hu; simp [gc] at hu; rcases hu with rfl | rfl | rfl | rfl <;> rfl
      case c3 => unfold maxLen; omega
      case c4 => omega
      case c5 => simp; omega
      intro v' w5 hown' hgrow _
      have hb5 : Below H w w5 := ((HB.out.alloc hHs _).alloc (by simp; omega) _).grown hgrow (by simp; omega) (fun g hg => (ho.lt g hg).1)
      have ho5 : w5.ownsRow H 37 4 v' (m + 1) (gsc ((gs.take (m + 1)).map (GTok.to a))) := by
        rw [List.take_add_one, HGM.out, List.map_append]
        have e : (Option.toList (some g)).map (GTok.to a) = [g.to a] := rfl
        rw [e, ← gsc_snoc, List.map_take]
        exact hown'
      have HB5 := Lib.hid hb5
      have HO5 := Lib.hid ho5
      clear hown' hgrow hb5 ho5 ho c0 c1 c2 c3
      go_wp2_with fail
      exact ⟨⟨m + 1, hlt, by simp, HO5.out, HB5.out⟩, by simp [intOf]; omega⟩
    · have hd : decide ((m : Int) < (n : Int)) = false := by simp; omega
      obtain rfl : m = n := by omega
      have hta : gs.take m = gs := List.take_of_length_le (by have := HN.out; omega)
      rw [hta] at ho
      have HO := Lib.hid ho
      have HB := Lib.hid hb
      clear ho hb hta
      go_wp2_with fail
      refine bodyPost_ret (v := .slice va m vc) (by simp [results, Tryd.results16, go_sem]) rfl ⟨_, rfl, ?_, ?_⟩
      · rw [HH.out]; exact HO.out
      · rw [HH.out]; exact HB.out
end Go.Proofs.YtpjfkfbijimliaaDoor
