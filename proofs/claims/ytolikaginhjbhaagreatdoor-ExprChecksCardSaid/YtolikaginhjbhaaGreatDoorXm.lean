import Derived.Test.YtolikaginhjbhaaGreatDoorXl
import Derived.Test.YtolikaginhjbhaaGreatDoorGc
import Derived.Test.YtolikaginhjbhaaGreatDoorFd
import Derived.Lib.TrailingZeros
import Derived.Lib.LaidTab
/- ExprChecks' frame: a row of kinds that came in, opened; what the listed variables hold. -/
namespace Go.Proofs.YtolikaginhjbhaaGreatDoor
open Go.RowKit Go.Pen

section
variable {H : Type} {enc : TypeId × Value → H} {w : World} {base : Nat} {spare : Nat → Bool} {held : Bool}


set_option maxRecDepth 100000 in
theorem open_kinds {fuel : Nat} {cs : List Value} {x : DataW H × List MemPlace} (h : DataW.trod enc Tryz.prog w base spare held fuel 76 cs = some x) (hw : ∀ n ∈ x.1.weights Tryz.prog 76, n ≤ reachBytes) :
    ∃ a c xs, cs = [.slice a (List.length xs) c] ∧ KindsOn w xs (.slice a xs.length c) ∧ (∀ x ∈ xs, 0 ≤ x ∧ x ≤ 255) ∧ xs.length ≤ 140737488355328 := by
  rcases Go.Deep.open_slice1 Tryz.underlying76 (by kernel_rfl) h with h0 | ⟨a, len, cap, m, n, V, D, Pl, rfl, hb, hl, hm, hmm, rfl, hx⟩
  · exact ⟨none, 0, [], h0.1, ⟨none, 0, rfl, fun _ => rfl, fun h => absurd rfl h⟩, by simp, by simp⟩
  have hlm : len ≤ m := by rw [hmm]; split <;> omega
  have hwl : len ≤ 140737488355328 := by
    have h1 : (len + (m - len)) * 1 ≤ reachBytes := by
      refine hw _ ?_
      have hb : Tryz.prog.bytesOf 23 = 1 := by kernel_rfl
      simp [DataW.weights, Tryz.underlying76, hb]
    unfold reachBytes at h1
    omega
  have each : ∀ i, i < len → ∃ z : Int, w.cell? (a.add i) = some (.int .u8 z) ∧ (0 ≤ z ∧ z ≤ 255) := fun i hi => by
    obtain ⟨h1, h2⟩ := hx i (by omega)
    obtain ⟨n0, e0, -, w0⟩ := DataW.trod_int Tryz.underlying23 h2
    simp at e0
    refine ⟨n0, by rw [h1, e0], ?_⟩
    simp [Lit.wf, IntKind.min, IntKind.max, IntKind.signed, IntKind.bits] at w0
    omega
  obtain ⟨q, hq⟩ := Go.Deep.choose_lt each
  refine ⟨some a, cap, (List.range len).map q, by simp, ⟨some a, cap, by simp, (fun h => by cases h), fun hne => ?_⟩, fun x hx => ?_, by simpa using hwl⟩
  rotate_left
  · obtain ⟨i, hi, rfl⟩ := List.mem_map.1 hx
    exact (hq i (List.mem_range.1 hi)).2
  have h0 := range_ne hne
  have h0c := (hq 0 h0).1
  rw [add_zero'] at h0c
  obtain ⟨bl, off, rfl⟩ := addr_plain h0c
  refine ⟨bl, off, rfl, fun i y hy => ?_⟩
  obtain ⟨hi, rfl⟩ := range_at hy
  have := (hq i hi).1
  rwa [Go.Pen.add_lit] at this
end
end Go.Proofs.YtolikaginhjbhaaGreatDoor
namespace Go.Proofs.YtolikaginhjbhaaGreatDoor
open Go.RowKit Go.Pen Go.ChangeShapes Go.WideShapes

def laidC : List (String × DataW Unit) := Rows.exprChecksRow.laid
def dataC : List (String × DataW Unit) := [("math/bits.deBruijn32tab", Rows.laid_math_bits_deBruijn32tab), ("math/bits.deBruijn64tab", Rows.laid_math_bits_deBruijn64tab), ("internal/strconv.uint64pow10", Rows.laid_internal_strconv_uint64pow10), ("unicode/utf8.acceptRanges", Rows.laid_unicode_utf8_acceptRanges), ("unicode/utf8.first", Rows.laid_unicode_utf8_first)]
theorem tabIs_of_reads {P : Program} {W : World} {name : String} {k : IntKind} {zs : List Int} {g : Nat} {t e : TypeId} {n : Nat}
    (hg : P.globalNamed name = some g) (hty : (P.globals[g]?).map (·.type) = some t) (ht : P.underlying t = some (.array n e)) (he : P.underlying e = some (.int k)) (hce : P.cellsOf e = 1) (hct : P.cellsOf t = n)
    (h : Lib.VarReads P W name (Lib.tabData k zs)) : Lib.TabIs P W name k zs := by
  obtain ⟨g', t', cs, fuel, p, hg', ht', hvar, hd⟩ := h
  obtain rfl := Option.some.inj (hg.symm.trans hg')
  obtain rfl := Option.some.inj (hty.symm.trans ht')
  unfold Lib.TabIs
  rw [hvar, ← Lib.cells_of_tab ht he hce hct hd]


theorem globC_of_laid {W : World} (h : laidMetH Tryz.prog laidC W) : GlobP W ∧ ErrTy W := by
  have f1 : (laidC.filter fun x => x.2.handleName?.isSome) = [("errors.errorType", Rows.laid_errors_errorType)] := by kernel_rfl
  have f2 : (laidC.filter fun x => x.2.handleName?.isNone) = dataC := by kernel_rfl
  unfold laidMetH at h
  rw [f1, f2] at h
  have h' : laidMet Tryz.prog dataC W ∧ handlesMet Tryz.prog [("errors.errorType", Rows.laid_errors_errorType)] W := h
  have h3 : Lib.VarReads Tryz.prog W "unicode/utf8.first" Rows.laid_unicode_utf8_first := Lib.laidMet.reads h'.1 (by simp [dataC])
  have h4 : Lib.VarReads Tryz.prog W "unicode/utf8.acceptRanges" Rows.laid_unicode_utf8_acceptRanges := Lib.laidMet.reads h'.1 (by simp [dataC])
  have h9 : Lib.VarReads Tryz.prog W "math/bits.deBruijn64tab" Rows.laid_math_bits_deBruijn64tab := Lib.laidMet.reads h'.1 (by simp [dataC])
  have h6 : Lib.VarReads Tryz.prog W "internal/strconv.uint64pow10" Rows.laid_internal_strconv_uint64pow10 := Lib.laidMet.reads h'.1 (by simp [dataC])
  have hb : W.cell? ⟨6, 15, none⟩ = some (.int .u8 4) := by
    have e : (Rows.laid_math_bits_deBruijn64tab : DataW Unit) = Lib.tabData .u8 (List.map (fun n : Nat => (n : Int)) Lib.deBruijn64tab) := by kernel_rfl
    rw [e] at h9
    have ht := tabIs_of_reads (g := 6) (t := 307) (e := 5) (n := 64) (by kernel_rfl) (by kernel_rfl) Tryz.underlying307 Tryz.underlying5 (by kernel_rfl) (by kernel_rfl) h9
    have hc := ht.cell (g := 6) (by kernel_rfl) 15 (by decide)
    exact hc
  refine ⟨⟨?_, ?_, hb, World.block_lt_of_cell? W _ hb⟩, err_of_laid h'.2⟩
  · have e4 : (Rows.laid_unicode_utf8_acceptRanges : DataW Unit) = Lib.acceptData := by kernel_rfl
    rw [e4] at h4
    have e3 : Rows.laid_unicode_utf8_first = Lib.firstData := Pinned.utf8First_eq
    rw [e3] at h3
    exact utf8Tabs_of_readsT (U8Types.of196 Tryz.laysValid) u8x h3 h4
  · have e : (Rows.laid_internal_strconv_uint64pow10 : DataW Unit) = Lib.tabData .u64 Lib.pow10Tab := by kernel_rfl
    rw [e] at h6
    exact tabIs_of_reads (g := 3) (t := 282) (e := 174) (n := 20) (by kernel_rfl) (by kernel_rfl) Tryz.underlying282 Tryz.underlying174 (by kernel_rfl) (by kernel_rfl) h6

noncomputable def laidWorldC (os : Os) : World := (world0 os).layVars Tryz.prog dataC
theorem laidWorldC_os (os : Os) : (laidWorldC os).os = os := World.layVars_os _ _ _
theorem witC_met (os : Os) (args : Array Value) : laidMetH Tryz.prog laidC ((laidWorldC os).forCall (fun _ _ => 0) ⟨#[], args, []⟩).memory := by
  refine laidMetH_of_parts ?_ (by kernel_rfl)
  have f2 : (laidC.filter fun x => x.2.handleName?.isNone) = dataC := by kernel_rfl
  rw [f2]
  exact laid_lay args (by kernel_rfl) (by kernel_rfl)
theorem witC_shaped (os : Os) (args : Array Value) : ((laidWorldC os).forCall (fun _ _ => 0) ⟨#[], args, []⟩).Shaped Tryz.prog :=
  World.shaped_of_ZipB (by kernel_rfl) (by kernel_rfl)
end Go.Proofs.YtolikaginhjbhaaGreatDoor
