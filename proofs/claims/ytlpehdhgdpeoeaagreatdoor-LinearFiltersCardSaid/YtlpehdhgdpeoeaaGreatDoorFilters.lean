/-
  LinearFilters returns true for every input: conditions one behind the other, in one Filter, are the same as in several: rows, and errors together. No condition beyond the card's own: the listed package-level variables start as the program's text lays them (tied). The frame is the guide's; the walks are ours.
-/
import Derived.Test.YtlpehdhgdpeoeaaGreatDoorLw
import Derived.Test.YtlpehdhgdpeoeaaGreatDoorMg
import Derived.Test.YtlpehdhgdpeoeaaGreatDoorNa
import Derived.Test.YtlpehdhgdpeoeaaGreatDoorNb
import Derived.Test.YtlpehdhgdpeoeaaGreatDoorTie
import Derived.Test.YtlpehdhgdpeoeaaGreatDoorCards
namespace Go.Proofs.YtlpehdhgdpeoeaaGreatDoor.linearFilters
open Go.RowKit Go.Pen Go.ChangeShapes Go.WideShapes Go.ChangeAt
set_option linter.unusedVariables false

theorem laid_eq : Rows.linearFiltersRow.laid = laid9 := rfl

set_option maxRecDepth 100000 in
theorem lifted (os : Os) (started : os.Started) (H : Type) (enc : TypeId × Value → H) :
    ReturnsInHanded {} Tryz.checked os 3 .any (fun w args => (Rows.linearFiltersSpec.pre enc Tryz.prog Tryz.f3 [] false w args ∧ laidMetH Tryz.prog laid9 w) ∧ sizedMet enc Tryz.prog Tryz.f3 (OpenSpec.ofChange Rows.linearFiltersSpec) false w args)
      (Rows.linearFiltersSpec.post enc Tryz.prog Tryz.f3 false true false false) := by
  refine returnsInHanded_of_change_and (C := Tryz.checked) (X := fun w _ => laidMetH Tryz.prog laid9 w) (fun _ _ _ hh h => h.of_heap hh) own started (by kernel_rfl) Tryz.func3
    (ChangeSpec.witness_shaped (enc := enc) (C := Tryz.checked) (os := os) (X := fun w _ => laidMetH Tryz.prog laid9 w) false (laidWorld os) #[.slice none 0 0, .slice none 0 0, .slice none 0 0] 8 (laidWorld_os _)
      (wit_shaped _ _) (by kernel_rfl) (by kernel_rfl) (by kernel_rfl) (wit_met os _)) ?_
  intro W base args ds gs before hval0 hW _ hsz hL _
  have hval : ∀ (j : Nat) t v, Tryz.f3.params[j]? = some t → args[j]? = some v → Value.okWide Tryz.prog W .any base t v := hval0
  have hW' := hW
  obtain ⟨p, q, hA0, hV, rfl, _, _⟩ := hW
  have hA : DataW.TrodAll enc Tryz.prog W 0 (fun _ => true) true Tryz.f3.params.toList args.toList ds p := hA0
  have hsz' : (DataW.weightsEach Tryz.prog (Tryz.f3.params.toList ++ Rows.linearFiltersSpec.plain.varTypes Tryz.prog) (ds ++ gs)).all (· ≤ reachBytes) = true := hsz
  rw [Tryz.params3] at hA hval hsz'
  obtain ⟨v0, v1, v2, d0, d1, d2, p0, p1, p2, rfl, rfl, rfl, h0, h1, h2⟩ := trodAll_three hA
  obtain ⟨rfl, rfl⟩ := trodVars_none hV
  obtain ⟨a0, len0, cap0, rfl⟩ := okWide_slice Tryz.underlying22 (hval 0 22 v0 rfl rfl)
  obtain ⟨a1, len1, cap1, rfl⟩ := okWide_slice Tryz.underlying23 (hval 1 23 v1 rfl rfl)
  obtain ⟨a2, len2, cap2, rfl⟩ := okWide_slice Tryz.underlying23 (hval 2 23 v2 rfl rfl)
  have k0 := h0
  have lt0 : ∀ x ∈ p0, x.block < W.heap.size := by obtain ⟨m, hm⟩ := k0; exact DataW.trod_lt m _ _ _ hm
  have k1 := h1
  have lt1 : ∀ x ∈ p1, x.block < W.heap.size := by obtain ⟨m, hm⟩ := k1; exact DataW.trod_lt m _ _ _ hm
  have k2 := h2
  have lt2 : ∀ x ∈ p2, x.block < W.heap.size := by obtain ⟨m, hm⟩ := k2; exact DataW.trod_lt m _ _ _ hm
  have hw0 : ∀ n ∈ d0.weights Tryz.prog 22, n ≤ reachBytes := fun n hn => by
    have := List.all_eq_true.1 hsz' n (DataW.weights_mem_each (j := 0) (t := 22) (d := d0) rfl rfl n hn)
    simpa using this
  have hw1 : ∀ n ∈ d1.weights Tryz.prog 23, n ≤ reachBytes := fun n hn => by
    have := List.all_eq_true.1 hsz' n (DataW.weights_mem_each (j := 1) (t := 23) (d := d1) rfl rfl n hn)
    simpa using this
  have hw2 : ∀ n ∈ d2.weights Tryz.prog 23, n ≤ reachBytes := fun n hn => by
    have := List.all_eq_true.1 hsz' n (DataW.weights_mem_each (j := 2) (t := 23) (d := d2) rfl rfl n hn)
    simpa using this
  obtain ⟨us, at0, usl, usw, rfl⟩ : ∃ us : List Upd, UpsAt W (.slice a0 us.length cap0) us ∧ us.length ≤ 140737488355328 ∧ (∀ u ∈ us, u.wide) ∧ len0 = us.length := by
    obtain ⟨fuel, hf⟩ := h0
    obtain ⟨a, c, r, hcs, hx, hl, hrf⟩ := open_upds hf hw0
    cases hcs
    exact ⟨r, hx, hl, hrf, rfl⟩
  obtain ⟨ea, at1, eal, eaf, rfl⟩ : ∃ ea : List ET, ExprsAt W (.slice a1 ea.length cap1) ea ∧ ea.length ≤ 140737488355328 ∧ (∀ e ∈ ea, e.fits) ∧ len1 = ea.length := by
    obtain ⟨fuel, hf⟩ := h1
    obtain ⟨r, a, c, hcs, hx, hl, hrf⟩ := open_exprs hf hw1
    cases hcs
    exact ⟨r, hx, hl, hrf, rfl⟩
  obtain ⟨eb, at2, ebl, ebf, rfl⟩ : ∃ eb : List ET, ExprsAt W (.slice a2 eb.length cap2) eb ∧ eb.length ≤ 140737488355328 ∧ (∀ e ∈ eb, e.fits) ∧ len2 = eb.length := by
    obtain ⟨fuel, hf⟩ := h2
    obtain ⟨r, a, c, hcs, hx, hl, hrf⟩ := open_exprs hf hw2
    cases hcs
    exact ⟨r, hx, hl, hrf, rfl⟩
  obtain ⟨hT, hE, h3⟩ := glob_of_laid hL
  simp only [List.append_nil] at hW'
  refine (filters_3 us ea eb _ _ _ W at0 usw usl at1 at2 eaf ebf eal ebl hT hE h3 (fun W' hb => known_7 W' (tabs_below hT hb h3) (cell_keep hb hE) (Nat.le_trans h3 hb.size))).mono fun e' W' ⟨he', hb⟩ => ?_
  subst he'
  exact ⟨_, rfl, _, _, _, [], _, [], hW', trodAll_mk1 (shut_bool Tryz.underlying4 _), (trodAll_mk3 (Below.trod laidOut (by kernel_rfl) (of_decide_eq_true (by kernel_rfl)) k0 hb lt0) (Below.trod laidOut (by kernel_rfl) (of_decide_eq_true (by kernel_rfl)) k1 hb lt1) (Below.trod laidOut (by kernel_rfl) (of_decide_eq_true (by kernel_rfl)) k2 hb lt2)), rfl, hb.frame _, fun h => by cases h⟩

theorem over : Rows.LinearFiltersSaid :=
  OpenClaim.holds_of_wide 3 Tryz.f3 rfl rfl rfl rfl rfl rfl rfl ⟨rfl, rfl, rfl, rfl, rfl⟩ rfl rfl rfl rfl rfl (by kernel_rfl) Tryz.func3 (by kernel_rfl)
    (of_decide_eq_true (by kernel_rfl)) (by unfold Func.isWrapper; first | (rw [if_pos (by decide +kernel)]; kernel_rfl) | (rw [if_neg (by decide +kernel)]; exact ⟨rfl, rfl⟩))
    (fun os started H enc _ => lifted os started H enc)

/-- the statement -/
theorem proved : Rows.LinearFiltersCardSaid :=
  Claim7.holds_tied_plain_at .later [] [.data, .handle, .pinned] true (true, "8990077f9f3435422354873ddd7e224c722e2e7f275048e81ec2f14531b0b396") true
    over (fun _ h => by cases h) (by kernel_rfl) (fun _ h => by cases h) linearFilters_row_tie rfl ⟨rfl, rfl⟩ (by kernel_rfl) rfl
    (fun f fn hf hfn => by
      obtain rfl : f = 3 := Option.some.inj ((show Tryz.prog.funcNamed "penstock/penstocklaw13.LinearFilters" = some 3 by kernel_rfl).symm.trans hf) |>.symm
      obtain rfl : fn = Tryz.f3 := (Option.some.inj (Tryz.func3.symm.trans hfn)).symm
      exact ⟨by kernel_rfl, fun j t ht => by
        rw [Tryz.params3] at ht
        have hm : t ∈ [22, 23, 23] := by simpa using Array.mem_of_getElem? ht
        have hall : ([22, 23, 23].all fun u => !Tryz.prog.wantsStandIn u) = true := by kernel_rfl
        exact (show Tryz.prog.wantsStandIn t = false by simpa using List.all_eq_true.1 hall t hm)⟩)
    (by kernel_rfl)
end Go.Proofs.YtlpehdhgdpeoeaaGreatDoor.linearFilters
