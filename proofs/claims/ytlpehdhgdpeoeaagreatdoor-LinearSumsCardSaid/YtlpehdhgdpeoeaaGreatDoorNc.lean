import Derived.Test.YtlpehdhgdpeoeaaGreatDoorNb
import Derived.Test.YtlpehdhgdpeoeaaGreatDoorMe
/- A way that came in, opened. -/
namespace Go.Proofs.YtlpehdhgdpeoeaaGreatDoor
open Go.RowKit Go.Pen

section
variable {H : Type} {enc : TypeId × Value → H} {w : World} {base : Nat} {spare : Nat → Bool} {held : Bool}

set_option maxRecDepth 100000 in
theorem open_path {fuel : Nat} {cs : List Value} {x : DataW H × List MemPlace} (hlen : cs.length = 3) (h : DataW.trod enc Tryz.prog w base spare held fuel 36 cs = some x) (hw : ∀ n ∈ x.1.weights Tryz.prog 36, n ≤ reachBytes) :
    ∃ (leave add : Int) (en : List Int) (na : Option Addr) (nc : Nat), cs = [.int .i64 leave, .int .u32 add, .slice na en.length nc] ∧ WordsAt w (.slice na en.length nc) en ∧ en.length ≤ 140737488355328 ∧ (-9223372036854775808 ≤ leave ∧ leave ≤ 9223372036854775807) ∧ U32 add ∧ ∀ x ∈ en, U32 x := by
  obtain ⟨xs, k, hk, hxy, _, hxl, hf⟩ := DataW.trod_struct Tryz.underlying36 h
  match xs, hxl, cs, hlen with
  | [y0, y1, y2], _, [v0, v1, v2], _ =>
    have g0 := hf 0 _ rfl
    have g1 := hf 1 _ rfl
    have g2 := hf 2 _ rfl
    have c3 : Tryz.prog.cellsOf 3 = 1 := by kernel_rfl
    have c33 : Tryz.prog.cellsOf 33 = 1 := by kernel_rfl
    have c34 : Tryz.prog.cellsOf 34 = 1 := by kernel_rfl
    simp [c3, c33, c34] at g0 g1 g2
    rw [hxy] at hw
    have hw2 := agg_weights Tryz.underlying36 hw (i := 2) rfl rfl
    obtain ⟨n0, e0, -, w0⟩ := DataW.trod_int Tryz.underlying3 g0
    obtain ⟨n1, e1, -, w1⟩ := DataW.trod_int Tryz.underlying33 g1
    obtain ⟨na, nc, en, e2, hwa, hwl, hwf⟩ := open_words g2 hw2
    have f0 : -9223372036854775808 ≤ n0 ∧ n0 ≤ 9223372036854775807 := by simpa [Lit.wf, IntKind.min, IntKind.max, IntKind.signed, IntKind.bits] using w0
    have f1 : 0 ≤ n1 ∧ n1 ≤ 4294967295 := by simpa [Lit.wf, IntKind.min, IntKind.max, IntKind.signed, IntKind.bits] using w1
    simp only [List.cons.injEq, and_true] at e0 e1 e2
    subst e0 e1 e2
    exact ⟨n0, n1, en, na, nc, rfl, hwa, hwl, f0, f1, hwf⟩
end
end Go.Proofs.YtlpehdhgdpeoeaaGreatDoor
