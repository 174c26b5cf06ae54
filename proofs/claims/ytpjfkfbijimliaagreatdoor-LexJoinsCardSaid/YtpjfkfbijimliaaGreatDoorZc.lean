/- same, of the same tokens; placed. -/
import Derived.Test.YtpjfkfbijimliaaGreatDoorX
namespace Go.Proofs.YtpjfkfbijimliaaGreatDoor
open Go.RowKit Go.Pen

/-- a slice that reads as tokens -/
def TokRow (w : World) (v : Value) (gs : List GTok) : Prop :=
  ∃ a c, v = .slice a gs.length c ∧ (gs ≠ [] → ∃ b o, a = some ⟨b, o, none⟩ ∧ b < w.heap.size ∧ ToksAt w b o gs)

theorem TokRow.below {w w' : World} {v : Value} {gs : List GTok} (h : TokRow w v gs) (hb : Below w.heap.size w w') : TokRow w' v gs := by
  obtain ⟨a, c, rfl, h⟩ := h
  refine ⟨a, c, rfl, fun hne => ?_⟩
  obtain ⟨b, o, rfl, hlt, ht⟩ := h hne
  refine ⟨b, o, rfl, Nat.lt_of_lt_of_le hlt hb.size, fun i g hg => ?_⟩
  obtain ⟨h0, h1, h2, h3⟩ := ht i g hg
  exact ⟨(hb.cell (p := ⟨b, o + i * 4, none⟩) hlt).trans h0, (hb.cell (p := ⟨b, o + i * 4 + 1, none⟩) hlt).trans h1, (hb.cell (p := ⟨b, o + i * 4 + 2, none⟩) hlt).trans h2, (hb.cell (p := ⟨b, o + i * 4 + 3, none⟩) hlt).trans h3⟩

theorem tokRow_of_owns {w : World} {base : Nat} {v : Value} {ts : List Tok} (ho : w.ownsRow base 34 4 v ts.length (toksc ts)) : TokRow w v (ts.map Tok.g) := by
  obtain ⟨a, c, rfl⟩ := ownsRow_slice ho
  refine ⟨a, c, by rw [List.length_map], fun hne => ?_⟩
  rcases ho.2 with ⟨-, h⟩ | ⟨g, cap, cur, h, -⟩
  · have : ts = [] := List.eq_nil_of_length_eq_zero h
    subst this; simp at hne
  · cases h
    obtain ⟨hbl, -⟩ := ownsRow_heap ho
    exact ⟨g, 0, rfl, hbl, toks_at ho⟩

set_option maxRecDepth 100000 in
set_option maxHeartbeats 4000000 in
theorem same_14 (gs : List GTok) (v v' : Value) (w : World) (hv : TokRow w v gs) (hv' : TokRow w v' gs) (hn : gs.length ≤ 9223372036854775807) :
    Calls Tryz.prog 16 #[v, v'] w fun e w' => e = .returned (.bool true) ∧ ∃ q, w' = w.drewN q := by
  obtain ⟨a, c, rfl, h1⟩ := hv
  obtain ⟨a', c', rfl, h1'⟩ := hv'
  obtain ⟨n, hnn⟩ : ∃ n, gs.length = n := ⟨_, rfl⟩
  rw [hnn] at hn ⊢
  have HN := Lib.hid hnn
  have H1 := Lib.hid h1
  have H2 := Lib.hid h1'
  have hne : ((n : Int) != (n : Int)) = false := by simp
  clear hnn h1 h1'
  go_enter Tryz.func16, Tryz.ntmps16
  go_wp2_with fail
  go_loopw [5] (fun i wr => ∃ m : Nat, m ≤ n ∧ i = .int .i64 m ∧ ∃ q, wr = w.drewN q) (fun i _ => n - (intOf i).toNat)
  case atStart => exact ⟨0, Nat.zero_le _, rfl, 0, rfl⟩
  case round =>
    obtain ⟨m, hm, rfl, q, rfl⟩ := hrel
    clear hne
    rcases Nat.lt_or_ge m n with hlt | hge
    · have hd : decide ((m : Int) < (n : Int)) = true := by simpa using hlt
      obtain ⟨g, hg⟩ : ∃ g, gs[m]? = some g := ⟨_, List.getElem?_eq_getElem (by have := HN.out; omega)⟩
      have hge : gs ≠ [] := by intro e; rw [e] at hg; simp at hg
      obtain ⟨b, o, rfl, -, ht⟩ := H1.out hge
      obtain ⟨b', o', rfl, -, ht'⟩ := H2.out hge
      obtain ⟨c0, c1, c2, c3⟩ := ht m g hg
      obtain ⟨d0, d1, d2, d3⟩ := ht' m g hg
      have b1 : (0 : Int) ≤ (m : Int) := by omega
      have b2 : (m : Int) < (n : Int) := by omega
      clear ht ht' hg hge
      go_wp2_with fail
      go_quiet (fail)
      go_wp2_with fail
      exact ⟨⟨m + 1, hlt, by simp, _, rfl⟩, by simp [intOf]; omega⟩
    · have hd : decide ((m : Int) < (n : Int)) = false := by simp; omega
      go_wp2_with fail
      go_ret
      exact ⟨rfl, q, rfl⟩

/-- tokens' cells -/
def gc (g : GTok) : List Value := [.int .u8 g.kind, .string g.text, .int .i64 g.number, .int .i64 g.at_]
def gsc (gs : List GTok) : List Value := gs.flatMap gc
def GTok.to (a : Int) (g : GTok) : GTok := { g with at_ := a }

theorem gsc_snoc (gs : List GTok) (g : GTok) : gsc gs ++ gc g = gsc (gs ++ [g]) := by simp [gsc]

theorem gsc_at (gs : List GTok) : ∀ i g, gs[i]? = some g → (gsc gs)[i * 4]? = some (.int .u8 g.kind) ∧ (gsc gs)[i * 4 + 1]? = some (.string g.text) ∧ (gsc gs)[i * 4 + 2]? = some (.int .i64 g.number) ∧ (gsc gs)[i * 4 + 3]? = some (.int .i64 g.at_) := by
  induction gs with
  | nil => intro i g h; simp at h
  | cons x xs ih =>
    intro i g h
    cases i with
    | zero => simp at h; subst h; exact ⟨rfl, rfl, rfl, rfl⟩
    | succ i =>
      rw [List.getElem?_cons_succ] at h
      have := ih i g h
      rw [show (i + 1) * 4 = i * 4 + 4 by omega]
      exact this

theorem tokRow_of_owns' {w : World} {base : Nat} {v : Value} {gs : List GTok} (ho : w.ownsRow base 34 4 v gs.length (gsc gs)) : TokRow w v gs := by
  obtain ⟨a, c, rfl⟩ := ownsRow_slice ho
  refine ⟨a, c, rfl, fun hne => ?_⟩
  rcases ho.2 with ⟨-, h⟩ | ⟨g, cap, cur, h, -⟩
  · exact absurd (List.eq_nil_of_length_eq_zero h) hne
  · cases h
    obtain ⟨hbl, -, -, hc⟩ := ownsRow_heap ho
    refine ⟨g, 0, rfl, hbl, fun i x hx => ?_⟩
    obtain ⟨a0, a1, a2, a3⟩ := gsc_at gs i x hx
    simp only [Nat.zero_add]
    exact ⟨hc _ _ a0, hc _ _ a1, hc _ _ a2, hc _ _ a3⟩

end Go.Proofs.YtpjfkfbijimliaaGreatDoor
