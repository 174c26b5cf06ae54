/-
  LinearParts returns true for every input: each worker's share is the reference's, the shares together are all that came in, and are summed up to the same. No condition beyond the card's own: the listed package-level variables start as the program's text lays them (tied). The frame is the guide's; the walks are ours.
-/
import Derived.Test.YtlpehdhgdpeoeaaGreatDoorPh
import Derived.Test.YtlpehdhgdpeoeaaGreatDoorMg
import Derived.Test.YtlpehdhgdpeoeaaGreatDoorNa
import Derived.Test.YtlpehdhgdpeoeaaGreatDoorNb
import Derived.Test.YtlpehdhgdpeoeaaGreatDoorTie
import Derived.Test.YtlpehdhgdpeoeaaGreatDoorCards
namespace Go.Proofs.YtlpehdhgdpeoeaaGreatDoor.linearParts
open Go.RowKit Go.Pen Go.ChangeShapes Go.WideShapes Go.ChangeAt
set_option linter.unusedVariables false

theorem laid_eq : Rows.linearPartsRow.laid = laid9 := rfl

set_option maxRecDepth 100000 in
theorem lifted (os : Os) (started : os.Started) (H : Type) (enc : TypeId × Value → H) :
    ReturnsInHanded {} Tryz.checked os 5 .any (fun w args => (Rows.linearPartsSpec.pre enc Tryz.prog Tryz.f5 [] false w args ∧ laidMetH Tryz.prog laid9 w) ∧ sizedMet enc Tryz.prog Tryz.f5 (OpenSpec.ofChange Rows.linearPartsSpec) false w args)
      (Rows.linearPartsSpec.post enc Tryz.prog Tryz.f5 false true false false) := by
  refine returnsInHanded_of_change_and (C := Tryz.checked) (X := fun w _ => laidMetH Tryz.prog laid9 w) (fun _ _ _ hh h => h.of_heap hh) own started (by kernel_rfl) Tryz.func5
    (ChangeSpec.witness_shaped (enc := enc) (C := Tryz.checked) (os := os) (X := fun w _ => laidMetH Tryz.prog laid9 w) false (laidWorld os) #[.slice none 0 0, .slice none 0 0, .int .u8 0] 8 (laidWorld_os _)
      (wit_shaped _ _) (by kernel_rfl) (by kernel_rfl) (by kernel_rfl) (wit_met os _)) ?_
  intro W base args ds gs before hval0 hW _ hsz hL _
  have hval : ∀ (j : Nat) t v, Tryz.f5.params[j]? = some t → args[j]? = some v → Value.okWide Tryz.prog W .any base t v := hval0
  have hW' := hW
  obtain ⟨p, q, hA0, hV, rfl, _, _⟩ := hW
  have hA : DataW.TrodAll enc Tryz.prog W 0 (fun _ => true) true Tryz.f5.params.toList args.toList ds p := hA0
  have hsz' : (DataW.weightsEach Tryz.prog (Tryz.f5.params.toList ++ Rows.linearPartsSpec.plain.varTypes Tryz.prog) (ds ++ gs)).all (· ≤ reachBytes) = true := hsz
  rw [Tryz.params5] at hA hval hsz'
  obtain ⟨v0, v1, v2, d0, d1, d2, p0, p1, p2, rfl, rfl, rfl, h0, h1, h2⟩ := trodAll_three hA
  obtain ⟨rfl, rfl⟩ := trodVars_none hV
  obtain ⟨a0, len0, cap0, rfl⟩ := okWide_slice Tryz.underlying22 (hval 0 22 v0 rfl rfl)
  obtain ⟨a1, len1, cap1, rfl⟩ := okWide_slice Tryz.underlying32 (hval 1 32 v1 rfl rfl)
  obtain ⟨wk, rfl⟩ := okWide_int Tryz.underlying5 (hval 2 5 v2 rfl rfl)
  have k0 := h0
  have lt0 : ∀ x ∈ p0, x.block < W.heap.size := by obtain ⟨m, hm⟩ := k0; exact DataW.trod_lt m _ _ _ hm
  have k1 := h1
  have lt1 : ∀ x ∈ p1, x.block < W.heap.size := by obtain ⟨m, hm⟩ := k1; exact DataW.trod_lt m _ _ _ hm
  have k2 := h2
  have lt2 : ∀ x ∈ p2, x.block < W.heap.size := by obtain ⟨m, hm⟩ := k2; exact DataW.trod_lt m _ _ _ hm
  have hw0 : ∀ n ∈ d0.weights Tryz.prog 22, n ≤ reachBytes := fun n hn => by
    have := List.all_eq_true.1 hsz' n (DataW.weights_mem_each (j := 0) (t := 22) (d := d0) rfl rfl n hn)
    simpa using this
  have hw1 : ∀ n ∈ d1.weights Tryz.prog 32, n ≤ reachBytes := fun n hn => by
    have := List.all_eq_true.1 hsz' n (DataW.weights_mem_each (j := 1) (t := 32) (d := d1) rfl rfl n hn)
    simpa using this
  obtain ⟨us, at0, usl, usw, rfl⟩ : ∃ us : List Upd, UpsAt W (.slice a0 us.length cap0) us ∧ us.length ≤ 140737488355328 ∧ (∀ u ∈ us, u.wide) ∧ len0 = us.length := by
    obtain ⟨fuel, hf⟩ := h0
    obtain ⟨a, c, r, hcs, hx, hl, hrf⟩ := open_upds hf hw0
    cases hcs
    exact ⟨r, hx, hl, hrf, rfl⟩
  obtain ⟨cols, at1, colsl, rfl⟩ : ∃ cols : List Int, IntsAt W (.slice a1 cols.length cap1) cols ∧ cols.length ≤ 17592186043904 ∧ len1 = cols.length := by
    obtain ⟨fuel, hf⟩ := h1
    obtain ⟨a, c, r, hcs, hx, hl⟩ := open_ints hf hw1
    cases hcs
    exact ⟨r, hx, hl, rfl⟩
  have hwk : 0 ≤ wk ∧ wk ≤ 255 := by
    obtain ⟨fuel, hf⟩ := h2
    obtain ⟨n0, e0, -, w0⟩ := DataW.trod_int Tryz.underlying5 hf
    cases e0
    simpa [Lit.wf, IntKind.min, IntKind.max, IntKind.signed, IntKind.bits] using w0
  obtain ⟨hT, hE, h3⟩ := glob_of_laid hL
  simp only [List.append_nil] at hW'
  refine (parts_5 us cols wk _ _ W at0 usw usl at1 colsl hwk (fun W' hb => known_7 W' (tabs_below hT hb h3) (cell_keep hb hE) (Nat.le_trans h3 hb.size))).mono fun e' W' ⟨he', hb⟩ => ?_
  subst he'
  exact ⟨_, rfl, _, _, _, [], _, [], hW', trodAll_mk1 (shut_bool Tryz.underlying4 _), (trodAll_mk3 (Below.trod laidOut (by kernel_rfl) (of_decide_eq_true (by kernel_rfl)) k0 hb lt0) (Below.trod laidOut (by kernel_rfl) (of_decide_eq_true (by kernel_rfl)) k1 hb lt1) (Below.trod laidOut (by kernel_rfl) (of_decide_eq_true (by kernel_rfl)) k2 hb lt2)), rfl, hb.frame _, fun h => by cases h⟩

theorem over : Rows.LinearPartsSaid :=
  OpenClaim.holds_of_wide 5 Tryz.f5 rfl rfl rfl rfl rfl rfl rfl ⟨rfl, rfl, rfl, rfl, rfl⟩ rfl rfl rfl rfl rfl (by kernel_rfl) Tryz.func5 (by kernel_rfl)
    (of_decide_eq_true (by kernel_rfl)) (by unfold Func.isWrapper; first | (rw [if_pos (by decide +kernel)]; kernel_rfl) | (rw [if_neg (by decide +kernel)]; exact ⟨rfl, rfl⟩))
    (fun os started H enc _ => lifted os started H enc)

/-- the statement -/
theorem proved : Rows.LinearPartsCardSaid :=
  Claim7.holds_tied_plain_at .later [] [.data, .handle, .pinned] true (true, "8990077f9f3435422354873ddd7e224c722e2e7f275048e81ec2f14531b0b396") true
    over (fun _ h => by cases h) (by kernel_rfl) (fun _ h => by cases h) linearParts_row_tie rfl ⟨rfl, rfl⟩ (by kernel_rfl) rfl
    (fun f fn hf hfn => by
      obtain rfl : f = 5 := Option.some.inj ((show Tryz.prog.funcNamed "penstock/penstocklaw13.LinearParts" = some 5 by kernel_rfl).symm.trans hf) |>.symm
      obtain rfl : fn = Tryz.f5 := (Option.some.inj (Tryz.func5.symm.trans hfn)).symm
      exact ⟨by kernel_rfl, fun j t ht => by
        rw [Tryz.params5] at ht
        have hm : t ∈ [22, 32, 5] := by simpa using Array.mem_of_getElem? ht
        have hall : ([22, 32, 5].all fun u => !Tryz.prog.wantsStandIn u) = true := by kernel_rfl
        exact (show Tryz.prog.wantsStandIn t = false by simpa using List.all_eq_true.1 hall t hm)⟩)
    (by kernel_rfl)
end Go.Proofs.YtlpehdhgdpeoeaaGreatDoor.linearParts
