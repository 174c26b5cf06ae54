/-
  ExprChecks returns true for every input: Check, Type, Safe, Columns and Print answer as the chapter says, of any expression; what is handed in stays. No condition beyond the card's own: the listed package-level variables start as the program's text lays them (tied). The frame is the guide's; the walks are ours.
-/
import Derived.Test.YtolikaginhjbhaaGreatDoorXm
import Derived.Test.YtolikaginhjbhaaGreatDoorTie
import Derived.Test.YtolikaginhjbhaaGreatDoorCards
namespace Go.Proofs.YtolikaginhjbhaaGreatDoor.exprChecks
open Go.RowKit Go.Pen Go.ChangeShapes Go.WideShapes Go.ChangeAt
set_option linter.unusedVariables false

theorem laid_eq : Rows.exprChecksRow.laid = laidC := rfl

set_option maxRecDepth 100000 in
theorem lifted (os : Os) (started : os.Started) (H : Type) (enc : TypeId × Value → H) :
    ReturnsInHanded {} Tryz.checked os 7 .any (fun w args => (Rows.exprChecksSpec.pre enc Tryz.prog Tryz.f7 [] false w args ∧ laidMetH Tryz.prog laidC w) ∧ sizedMet enc Tryz.prog Tryz.f7 (OpenSpec.ofChange Rows.exprChecksSpec) false w args)
      (Rows.exprChecksSpec.post enc Tryz.prog Tryz.f7 false true false false) := by
  refine returnsInHanded_of_change_and (C := Tryz.checked) (X := fun w _ => laidMetH Tryz.prog laidC w) (fun _ _ _ hh h => h.of_heap hh) own started (by kernel_rfl) Tryz.func7
    (ChangeSpec.witness_shaped (enc := enc) (C := Tryz.checked) (os := os) (X := fun w _ => laidMetH Tryz.prog laidC w) false (laidWorldC os) #[.agg #[.int .u8 0, .slice none 0 0, .int .i64 0, .int .u8 0, .bool false, .int .i64 0, .string ⟨#[]⟩], .slice none 0 0] 8 (laidWorldC_os _)
      (witC_shaped _ _) (by kernel_rfl) (by kernel_rfl) (by kernel_rfl) (witC_met os _)) ?_
  intro W base args ds gs before hval0 hW _ hsz hL _
  have hval : ∀ (j : Nat) t v, Tryz.f7.params[j]? = some t → args[j]? = some v → Value.okWide Tryz.prog W .any base t v := hval0
  have hW' := hW
  obtain ⟨p, q, hA0, hV, rfl, _, _⟩ := hW
  have hA : DataW.TrodAll enc Tryz.prog W 0 (fun _ => true) true Tryz.f7.params.toList args.toList ds p := hA0
  have hsz' : (DataW.weightsEach Tryz.prog (Tryz.f7.params.toList ++ Rows.exprChecksSpec.plain.varTypes Tryz.prog) (ds ++ gs)).all (· ≤ reachBytes) = true := hsz
  rw [Tryz.params7] at hA hval hsz'
  obtain ⟨v0, v1, d0, d1, p0, p1, rfl, rfl, rfl, h0, h1⟩ := trodAll_two hA
  obtain ⟨rfl, rfl⟩ := trodVars_none hV
  obtain ⟨cs0, rfl, hcs0⟩ := okWide_struct Tryz.underlying27 (hval 0 27 v0 rfl rfl)
  obtain ⟨a1, len1, cap1, rfl⟩ := okWide_slice Tryz.underlying76 (hval 1 76 v1 rfl rfl)
  have k0 := h0
  have k1 := h1
  have lt0 : ∀ x ∈ p0, x.block < W.heap.size := by obtain ⟨m, hm⟩ := k0; exact DataW.trod_lt m _ _ _ hm
  have lt1 : ∀ x ∈ p1, x.block < W.heap.size := by obtain ⟨m, hm⟩ := k1; exact DataW.trod_lt m _ _ _ hm
  have hw0 : ∀ n ∈ d0.weights Tryz.prog 27, n ≤ reachBytes := fun n hn => by
    have := List.all_eq_true.1 hsz' n (DataW.weights_mem_each (j := 0) (t := 27) (d := d0) rfl rfl n hn)
    simpa using this
  have hw1 : ∀ n ∈ d1.weights Tryz.prog 76, n ≤ reachBytes := fun n hn => by
    have := List.all_eq_true.1 hsz' n (DataW.weights_mem_each (j := 1) (t := 76) (d := d1) rfl rfl n hn)
    simpa using this
  have c27 : Tryz.prog.cellsOf 27 = 7 := by kernel_rfl
  obtain ⟨e, a, cc, he, hat, hfit⟩ : ∃ (e : ET) (a : Option Addr) (cc : Nat), Value.agg cs0 = e.agg (.slice a e.kids.length cc) ∧ e.At W (.slice a e.kids.length cc) ∧ e.fits := by
    obtain ⟨fuel, hf⟩ := h0
    obtain ⟨e, a, c, hcs, hat, hfit⟩ := open_expr fuel (by rw [← c27, ← hcs0]; rfl) hf hw0
    refine ⟨e, a, c, ?_, hat, hfit⟩
    have h : cs0.toList = e.cells (.slice a e.kids.length c) := hcs
    unfold ET.agg
    rw [show cs0 = (e.cells (.slice a e.kids.length c)).toArray from by rw [← h]]
    rfl
  obtain ⟨kinds, hkinds, hkr, rfl⟩ : ∃ kinds : List Int, KindsOn W kinds (.slice a1 kinds.length cap1) ∧ (∀ x ∈ kinds, 0 ≤ x ∧ x ≤ 255) ∧ len1 = kinds.length := by
    obtain ⟨fuel, hf⟩ := h1
    obtain ⟨a, c, xs, hcs, hx, hr, -⟩ := open_kinds hf hw1
    simp [Value.cells] at hcs
    obtain ⟨rfl, rfl, rfl⟩ := hcs
    exact ⟨xs, hx, hr, rfl⟩
  obtain ⟨hG, hE⟩ := globC_of_laid hL
  simp only [List.append_nil] at hW'
  rw [he] at k0 hW' ⊢
  refine (checks_7 kinds e a cc a1 cap1 W hat hkinds hkr hfit hG hE (fun W' hb => known_14 W' (hG.below hb).tabs (cell_keep hb hE) (by have := (hG.below hb).big; omega))).mono fun e' W' ⟨he', hb⟩ => ?_
  subst he'
  exact ⟨_, rfl, _, _, _, [], _, [], hW', trodAll_mk1 (shut_bool Tryz.underlying4 _), trodAll_mk2 (Below.trod laidOut (by kernel_rfl) (of_decide_eq_true (by kernel_rfl)) k0 hb lt0) (Below.trod laidOut (by kernel_rfl) (of_decide_eq_true (by kernel_rfl)) k1 hb lt1), rfl, hb.frame _, fun h => by cases h⟩

theorem over : Rows.ExprChecksSaid :=
  OpenClaim.holds_of_wide 7 Tryz.f7 rfl rfl rfl rfl rfl rfl rfl ⟨rfl, rfl, rfl, rfl, rfl⟩ rfl rfl rfl rfl rfl (by kernel_rfl) Tryz.func7 (by kernel_rfl)
    (of_decide_eq_true (by kernel_rfl)) (by unfold Func.isWrapper; first | (rw [if_pos (by decide +kernel)]; kernel_rfl) | (rw [if_neg (by decide +kernel)]; exact ⟨rfl, rfl⟩))
    (fun os started H enc _ => lifted os started H enc)

/-- the statement -/
theorem proved : Rows.ExprChecksCardSaid :=
  Claim7.holds_tied_plain_at .later [] [.data, .data, .data, .data, .handle, .pinned] true (true, "6f2013753108741bf06b7e5893f904c18d0d5c589619ae5aec4a9f45c177aea4") true
    over (fun _ h => by cases h) (by kernel_rfl) (fun _ h => by cases h) exprChecks_row_tie rfl ⟨rfl, rfl⟩ (by kernel_rfl) rfl
    (fun f fn hf hfn => by
      obtain rfl : f = 7 := Option.some.inj ((show Tryz.prog.funcNamed "penstock/penstocklaw03.ExprChecks" = some 7 by kernel_rfl).symm.trans hf) |>.symm
      obtain rfl : fn = Tryz.f7 := (Option.some.inj (Tryz.func7.symm.trans hfn)).symm
      exact ⟨by kernel_rfl, fun j t ht => by
        rw [Tryz.params7] at ht
        have hm : t ∈ [27, 76] := by simpa using Array.mem_of_getElem? ht
        have hall : ([27, 76].all fun u => !Tryz.prog.wantsStandIn u) = true := by kernel_rfl
        exact (show Tryz.prog.wantsStandIn t = false by simpa using List.all_eq_true.1 hall t hm)⟩)
    (by kernel_rfl)
end Go.Proofs.YtolikaginhjbhaaGreatDoor.exprChecks
