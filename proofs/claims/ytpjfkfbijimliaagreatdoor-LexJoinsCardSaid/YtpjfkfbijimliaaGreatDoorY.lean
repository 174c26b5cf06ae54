/- The frame of this seat's cards: what the listed variables hold, a world in which they do, from a walk to the row. -/
import Derived.Test.YtpjfkfbijimliaaGreatDoorX
import Derived.Test.YtpjfkfbijimliaaGreatDoorRows
import Derived.ProofKit
import Derived.PinnedBridge
import Derived.Lay
import Derived.Lib.LaidU8T
import Derived.Lib.LaidTab
import Derived.OpenShut
import Derived.ShutString
import Derived.ChangeOld
import Derived.Stop.Joined
import Derived.LaidOnce
import Derived.SevenTiedAt
namespace Go.Proofs.YtpjfkfbijimliaaGreatDoor
open Go.RowKit Go.Pen Go.ChangeShapes Go.WideShapes Go.ChangeAt
open Go.ChangeMaps (open_string shut_string)

def laid9 : List (String × DataW Unit) := Rows.lexJoinsRow.laid

theorem own : ownKnob Tryz.prog.godebug = none := by kernel_rfl
theorem laidOut : laidOutB Tryz.prog = true := by kernel_rfl

theorem tabIs_of_reads {P : Program} {W : World} {name : String} {k : IntKind} {zs : List Int} {g : Nat} {t e : TypeId} {n : Nat}
    (hg : P.globalNamed name = some g) (hty : (P.globals[g]?).map (·.type) = some t) (ht : P.underlying t = some (.array n e)) (he : P.underlying e = some (.int k)) (hce : P.cellsOf e = 1) (hct : P.cellsOf t = n)
    (h : Lib.VarReads P W name (Lib.tabData k zs)) : Lib.TabIs P W name k zs := by
  obtain ⟨g', t', cs, fuel, p, hg', ht', hvar, hd⟩ := h
  obtain rfl := Option.some.inj (hg.symm.trans hg')
  obtain rfl := Option.some.inj (hty.symm.trans ht')
  unfold Lib.TabIs
  rw [hvar, ← Lib.cells_of_tab ht he hce hct hd]

theorem err_of_reads {P : Program} {W : World} {name nm : String} {d : DataW Unit} {g : Nat} {t : TypeId} {ms : Array (String × TypeId)}
    (hg : P.globalNamed name = some g) (hty : (P.globals[g]?).map (·.type) = some t) (ht : P.underlying t = some (.interface ms)) (h : Lib.VarReads P W name (.iface nm d)) :
    ∃ ev, W.cell? ⟨g, 0, none⟩ = some ev ∧ (ev = .nilIface ∨ ∃ te pe, ev = .iface te pe) := by
  obtain ⟨g', t', cs, fuel, p, hg', ht', hvar, hd⟩ := h
  obtain rfl := Option.some.inj (hg.symm.trans hg')
  obtain rfl := Option.some.inj (hty.symm.trans ht')
  have hc := World.var?_cell hg hvar 0
  obtain ⟨l⟩ := cs
  cases fuel with
  | zero => simp [DataW.trod] at hd
  | succ f =>
    match l, hd, hc with
    | [], hd, _ => simp [DataW.trod, ht] at hd
    | [v], hd, hc =>
      refine ⟨v, by simpa using hc, ?_⟩
      cases v <;> first | exact .inl rfl | exact .inr ⟨_, _, rfl⟩ | (exfalso; simp [DataW.trod, ht] at hd)
    | v :: v' :: r, hd, _ => exfalso; simp [DataW.trod, ht] at hd

theorem u8x : U8Extra Tryz.prog Tryz.laysValid_ren := ⟨by kernel_rfl, by kernel_rfl, by kernel_rfl, by kernel_rfl, by kernel_rfl, by kernel_rfl, by kernel_rfl⟩

theorem glob_of_laid {W : World} (h : laidMetH Tryz.prog laid9 W) : Glob W ∧ 10 ≤ W.heap.size := by
  rw [MakeChecks.laidMetH_plain _ _ _ (by kernel_rfl)] at h
  have hsp : Lib.VarReads Tryz.prog W "strings.asciiSpace" Rows.laid_strings_asciiSpace := Lib.laidMet.reads h (by simp [laid9, Rows.lexJoinsRow])
  have hr : Lib.VarReads Tryz.prog W "strconv.ErrRange" Rows.laid_strconv_ErrRange := Lib.laidMet.reads h (by simp [laid9, Rows.lexJoinsRow])
  have hx : Lib.VarReads Tryz.prog W "strconv.ErrSyntax" Rows.laid_strconv_ErrSyntax := Lib.laidMet.reads h (by simp [laid9, Rows.lexJoinsRow])
  have h3 : Lib.VarReads Tryz.prog W "unicode/utf8.first" Rows.laid_unicode_utf8_first := Lib.laidMet.reads h (by simp [laid9, Rows.lexJoinsRow])
  have h4 : Lib.VarReads Tryz.prog W "unicode/utf8.acceptRanges" Rows.laid_unicode_utf8_acceptRanges := Lib.laidMet.reads h (by simp [laid9, Rows.lexJoinsRow])
  have h9 : Lib.VarReads Tryz.prog W "math/bits.deBruijn64tab" Rows.laid_math_bits_deBruijn64tab := Lib.laidMet.reads h (by simp [laid9, Rows.lexJoinsRow])
  refine ⟨⟨?_, ?_, ?_, ?_⟩, ?_⟩
  · refine tabIs_of_reads (g := 3) (t := 93) (e := 5) (n := 256) (by kernel_rfl) (by kernel_rfl) Tryz.underlying93 Tryz.underlying5 (by kernel_rfl) (by kernel_rfl) ?_
    have e : (Rows.laid_strings_asciiSpace : DataW Unit) = Lib.tabData .u8 Lib.asciiSpaceTab := by kernel_rfl
    rw [← e]; exact hsp
  · exact err_of_reads (g := 7) (t := 61) (by kernel_rfl) (by kernel_rfl) Tryz.underlying61 hr
  · exact err_of_reads (g := 6) (t := 61) (by kernel_rfl) (by kernel_rfl) Tryz.underlying61 hx
  · have e4 : (Rows.laid_unicode_utf8_acceptRanges : DataW Unit) = Lib.acceptData := by kernel_rfl
    rw [e4] at h4
    have e3 : Rows.laid_unicode_utf8_first = Lib.firstData := Pinned.utf8First_eq
    rw [e3] at h3
    exact utf8Tabs_of_readsT (U8Types.of196 Tryz.laysValid) u8x h3 h4
  · obtain ⟨g, t, cs, fuel, p, hg, -, hv, -⟩ := h9
    obtain rfl := Option.some.inj ((show Tryz.prog.globalNamed "math/bits.deBruijn64tab" = some 9 by kernel_rfl).symm.trans hg)
    unfold World.var? at hv
    rw [hg] at hv
    simp only [Option.bind_some] at hv
    rcases Nat.lt_or_ge 9 W.heap.size with h' | h'
    · exact h'
    · rw [Array.getElem?_eq_none h'] at hv
      simp at hv

/-- a world in which they do -/
theorem wit_met (os : Os) (args : Array Value) : laidMetH Tryz.prog laid9 ((World.laidAll Tryz.prog os laid9).forCall (fun _ _ => 0) ⟨#[], args, []⟩).memory := by
  rw [MakeChecks.laidMetH_plain _ _ _ (by kernel_rfl)]
  exact laidMet_laidAll _ (by kernel_rfl) (by kernel_rfl)
end Go.Proofs.YtpjfkfbijimliaaGreatDoor
