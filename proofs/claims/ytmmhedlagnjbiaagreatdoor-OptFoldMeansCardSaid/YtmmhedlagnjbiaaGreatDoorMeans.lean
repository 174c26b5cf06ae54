/-
  OptFoldMeans returns true for every input: over a row that may be, of which an expression tells no error, what Fold tells of it comes to the same. No condition beyond the card's own: the listed package-level variables start as the program's text lays them (tied). The frame is the guide's; the walks are ours.
-/
import Derived.Test.YtmmhedlagnjbiaaGreatDoorPx
import Derived.Test.YtmmhedlagnjbiaaGreatDoorGc
import Derived.Test.YtmmhedlagnjbiaaGreatDoorFd
import Derived.Test.YtmmhedlagnjbiaaGreatDoorTie
import Derived.Test.YtmmhedlagnjbiaaGreatDoorCards
set_option maxRecDepth 100000
namespace Go.Proofs.YtmmhedlagnjbiaaGreatDoor.optFoldMeans
open Go.RowKit Go.Pen Go.ChangeShapes Go.WideShapes Go.ChangeAt
set_option linter.unusedVariables false
theorem laid_eq : Rows.optFoldMeansRow.laid = laid9 := rfl
theorem lifted (os : Os) (started : os.Started) (H : Type) (enc : TypeId × Value → H) :
  ReturnsInHanded {} Tryz.checked os 4 .any (fun w args => (Rows.optFoldMeansSpec.pre enc Tryz.prog Tryz.f4 [] false w args ∧ laidMetH Tryz.prog laid9 w) ∧ sizedMet enc Tryz.prog Tryz.f4 (OpenSpec.ofChange Rows.optFoldMeansSpec) false w args)
   (Rows.optFoldMeansSpec.post enc Tryz.prog Tryz.f4 false true false false) := by
 refine returnsInHanded_of_change_and (C := Tryz.checked) (X := fun w _ => laidMetH Tryz.prog laid9 w) (fun _ _ _ hh h => h.of_heap hh) own started (by kernel_rfl) Tryz.func4
  (ChangeSpec.witness_shaped (enc := enc) (C := Tryz.checked) (os := os) (X := fun w _ => laidMetH Tryz.prog laid9 w) false (laidWorld os) #[.agg #[.int .u8 0, .slice none 0 0, .int .i64 0, .int .u8 0, .bool false, .int .i64 0, .string ⟨#[]⟩], .slice none 0 0] 8 (laidWorld_os _)
   (wit_shaped _ _) (by kernel_rfl) (by kernel_rfl) (by kernel_rfl) (wit_met os _)) ?_
 intro W base args ds gs before hval0 hW _ hsz hL _
 have hval : ∀ (j : Nat) t v, Tryz.f4.params[j]? = some t → args[j]? = some v → Value.okWide Tryz.prog W .any base t v := hval0
 have hW' := hW
 obtain ⟨p, q, hA0, hV, rfl, _, _⟩ := hW
 have hA : DataW.TrodAll enc Tryz.prog W 0 (fun _ => true) true Tryz.f4.params.toList args.toList ds p := hA0
 have hsz' : (DataW.weightsEach Tryz.prog (Tryz.f4.params.toList ++ Rows.optFoldMeansSpec.plain.varTypes Tryz.prog) (ds ++ gs)).all (· ≤ reachBytes) = true := hsz
 rw [Tryz.params4] at hA hval hsz'
 obtain ⟨v0, v1, d0, d1, p0, p1, rfl, rfl, rfl, h0, h1⟩ := trodAll_two hA
 obtain ⟨rfl, rfl⟩ := trodVars_none hV
 obtain ⟨cs0, rfl, hcs0⟩ := okWide_struct Tryz.underlying27 (hval 0 27 v0 rfl rfl)
 obtain ⟨a1, len1, cap1, rfl⟩ := okWide_slice Tryz.underlying39 (hval 1 39 v1 rfl rfl)
 have k0 := h0
 have k1 := h1
 have lt0 : ∀ x ∈ p0, x.block < W.heap.size := by obtain ⟨m, hm⟩ := k0; exact DataW.trod_lt m _ _ _ hm
 have lt1 : ∀ x ∈ p1, x.block < W.heap.size := by obtain ⟨m, hm⟩ := k1; exact DataW.trod_lt m _ _ _ hm
 have hw0 : ∀ n ∈ d0.weights Tryz.prog 27, n ≤ reachBytes := fun n hn => by
  have := List.all_eq_true.1 hsz' n (DataW.weights_mem_each (j := 0) (t := 27) (d := d0) rfl rfl n hn)
  simpa using this
 have hw1 : ∀ n ∈ d1.weights Tryz.prog 39, n ≤ reachBytes := fun n hn => by
  have := List.all_eq_true.1 hsz' n (DataW.weights_mem_each (j := 1) (t := 39) (d := d1) rfl rfl n hn)
  simpa using this
 have c27 : Tryz.prog.cellsOf 27 = 7 := by kernel_rfl
 obtain ⟨e, a, cc, he, hat, hfit⟩ : ∃ (e : ET) (a : Option Addr) (cc : Nat), Value.agg cs0 = e.agg (.slice a e.kids.length cc) ∧ e.At W (.slice a e.kids.length cc) ∧ e.fits := by
  obtain ⟨fuel, hf⟩ := h0
  obtain ⟨e, a, c, hcs, hat, hfit⟩ := open_expr fuel (by rw [← c27, ← hcs0]; rfl) hf hw0
  refine ⟨e, a, c, ?_, hat, hfit⟩
  have h : cs0.toList = e.cells (.slice a e.kids.length c) := hcs
  unfold ET.agg
  rw [show cs0 = (e.cells (.slice a e.kids.length c)).toArray from by rw [← h]]
  rfl
 obtain ⟨r, hrow, hrl, hrf, rfl⟩ : ∃ r : List Dat, RowAt W (.slice a1 r.length cap1) r ∧ r.length ≤ 17592186043904 ∧ (∀ d ∈ r, d.fits) ∧ len1 = r.length := by
  obtain ⟨fuel, hf⟩ := h1
  obtain ⟨r, a, c, hcs, hx, hl, hrf⟩ := open_row hf hw1
  cases hcs
  exact ⟨r, hx, hl, hrf, rfl⟩
 obtain ⟨hT, hE, h3⟩ := glob_of_laid hL
 simp only [List.append_nil] at hW'
 rw [he] at k0 hW' ⊢
 refine (means_4 r e a cc a1 cap1 W hat hrow hfit hrf hrl hT hE h3).mono fun e' W' ⟨he', hb⟩ => ?_
 subst he'
 exact ⟨_, rfl, _, _, _, [], _, [], hW', trodAll_mk1 (shut_bool Tryz.underlying4 _), trodAll_mk2 (Below.trod laidOut (by kernel_rfl) (of_decide_eq_true (by kernel_rfl)) k0 hb lt0) (Below.trod laidOut (by kernel_rfl) (of_decide_eq_true (by kernel_rfl)) k1 hb lt1), rfl, hb.frame _, fun h => by cases h⟩
theorem over : Rows.OptFoldMeansSaid :=
 OpenClaim.holds_of_wide 4 Tryz.f4 rfl rfl rfl rfl rfl rfl rfl ⟨rfl, rfl, rfl, rfl, rfl⟩ rfl rfl rfl rfl rfl (by kernel_rfl) Tryz.func4 (by kernel_rfl)
  (of_decide_eq_true (by kernel_rfl)) (by unfold Func.isWrapper; first | (rw [if_pos (by decide +kernel)]; kernel_rfl) | (rw [if_neg (by decide +kernel)]; exact ⟨rfl, rfl⟩))
  (fun os started H enc _ => lifted os started H enc)
theorem proved : Rows.OptFoldMeansCardSaid :=
 Claim7.holds_tied_plain_at .later [] [.data, .handle, .pinned] true (true, "5c45839c09033f7568c62e0e9156390c01575cdb07aebef87c7afbde30f3427d") true
  over (fun _ h => by cases h) (by kernel_rfl) (fun _ h => by cases h) optFoldMeans_row_tie rfl ⟨rfl, rfl⟩ (by kernel_rfl) rfl
  (fun f fn hf hfn => by
   obtain rfl : f = 4 := Option.some.inj ((show Tryz.prog.funcNamed "penstock/penstocklaw21.OptFoldMeans" = some 4 by kernel_rfl).symm.trans hf) |>.symm
   obtain rfl : fn = Tryz.f4 := (Option.some.inj (Tryz.func4.symm.trans hfn)).symm
   exact ⟨by kernel_rfl, fun j t ht => by
    rw [Tryz.params4] at ht
    have hm : t ∈ [27, 39] := by simpa using Array.mem_of_getElem? ht
    have hall : ([27, 39].all fun u => !Tryz.prog.wantsStandIn u) = true := by kernel_rfl
    exact (show Tryz.prog.wantsStandIn t = false by simpa using List.all_eq_true.1 hall t hm)⟩)
  (by kernel_rfl)
end Go.Proofs.YtmmhedlagnjbiaaGreatDoor.optFoldMeans
