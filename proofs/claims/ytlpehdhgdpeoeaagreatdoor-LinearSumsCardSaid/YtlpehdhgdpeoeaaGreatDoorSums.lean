/-
  LinearSums returns true for every input: what comes of updates that are put together first is, put together, what comes of them as they are: rows and errors. No condition beyond the card's own: the listed package-level variables start as the program's text lays them (tied). The frame is the guide's; the walks are ours.
-/
import Derived.Test.YtlpehdhgdpeoeaaGreatDoorMh
import Derived.Test.YtlpehdhgdpeoeaaGreatDoorMg
import Derived.Test.YtlpehdhgdpeoeaaGreatDoorNa
import Derived.Test.YtlpehdhgdpeoeaaGreatDoorNb
import Derived.Test.YtlpehdhgdpeoeaaGreatDoorNc
import Derived.Test.YtlpehdhgdpeoeaaGreatDoorTie
import Derived.Test.YtlpehdhgdpeoeaaGreatDoorCards
namespace Go.Proofs.YtlpehdhgdpeoeaaGreatDoor.linearSums
open Go.RowKit Go.Pen Go.ChangeShapes Go.WideShapes Go.ChangeAt
set_option linter.unusedVariables false

theorem laid_eq : Rows.linearSumsRow.laid = laid9 := rfl

set_option maxRecDepth 100000 in
theorem lifted (os : Os) (started : os.Started) (H : Type) (enc : TypeId × Value → H) :
    ReturnsInHanded {} Tryz.checked os 4 .any (fun w args => (Rows.linearSumsSpec.pre enc Tryz.prog Tryz.f4 [] false w args ∧ laidMetH Tryz.prog laid9 w) ∧ sizedMet enc Tryz.prog Tryz.f4 (OpenSpec.ofChange Rows.linearSumsSpec) false w args)
      (Rows.linearSumsSpec.post enc Tryz.prog Tryz.f4 false true false false) := by
  refine returnsInHanded_of_change_and (C := Tryz.checked) (X := fun w _ => laidMetH Tryz.prog laid9 w) (fun _ _ _ hh h => h.of_heap hh) own started (by kernel_rfl) Tryz.func4
    (ChangeSpec.witness_shaped (enc := enc) (C := Tryz.checked) (os := os) (X := fun w _ => laidMetH Tryz.prog laid9 w) false (laidWorld os) #[.slice none 0 0, .slice none 0 0, .slice none 0 0, .agg #[.int .i64 0, .int .u32 0, .slice none 0 0]] 8 (laidWorld_os _)
      (wit_shaped _ _) (by kernel_rfl) (by kernel_rfl) (by kernel_rfl) (wit_met os _)) ?_
  intro W base args ds gs before hval0 hW _ hsz hL _
  have hval : ∀ (j : Nat) t v, Tryz.f4.params[j]? = some t → args[j]? = some v → Value.okWide Tryz.prog W .any base t v := hval0
  have hW' := hW
  obtain ⟨p, q, hA0, hV, rfl, _, _⟩ := hW
  have hA : DataW.TrodAll enc Tryz.prog W 0 (fun _ => true) true Tryz.f4.params.toList args.toList ds p := hA0
  have hsz' : (DataW.weightsEach Tryz.prog (Tryz.f4.params.toList ++ Rows.linearSumsSpec.plain.varTypes Tryz.prog) (ds ++ gs)).all (· ≤ reachBytes) = true := hsz
  rw [Tryz.params4] at hA hval hsz'
  obtain ⟨v0, v1, v2, v3, d0, d1, d2, d3, p0, p1, p2, p3, rfl, rfl, rfl, h0, h1, h2, h3'⟩ := trodAll_four hA
  obtain ⟨rfl, rfl⟩ := trodVars_none hV
  obtain ⟨a0, len0, cap0, rfl⟩ := okWide_slice Tryz.underlying22 (hval 0 22 v0 rfl rfl)
  obtain ⟨a1, len1, cap1, rfl⟩ := okWide_slice Tryz.underlying23 (hval 1 23 v1 rfl rfl)
  obtain ⟨a2, len2, cap2, rfl⟩ := okWide_slice Tryz.underlying32 (hval 2 32 v2 rfl rfl)
  obtain ⟨cs3, rfl, hcs3⟩ := okWide_struct Tryz.underlying36 (hval 3 36 v3 rfl rfl)
  have k0 := h0
  have lt0 : ∀ x ∈ p0, x.block < W.heap.size := by obtain ⟨m, hm⟩ := k0; exact DataW.trod_lt m _ _ _ hm
  have k1 := h1
  have lt1 : ∀ x ∈ p1, x.block < W.heap.size := by obtain ⟨m, hm⟩ := k1; exact DataW.trod_lt m _ _ _ hm
  have k2 := h2
  have lt2 : ∀ x ∈ p2, x.block < W.heap.size := by obtain ⟨m, hm⟩ := k2; exact DataW.trod_lt m _ _ _ hm
  have k3 := h3'
  have lt3 : ∀ x ∈ p3, x.block < W.heap.size := by obtain ⟨m, hm⟩ := k3; exact DataW.trod_lt m _ _ _ hm
  have hw0 : ∀ n ∈ d0.weights Tryz.prog 22, n ≤ reachBytes := fun n hn => by
    have := List.all_eq_true.1 hsz' n (DataW.weights_mem_each (j := 0) (t := 22) (d := d0) rfl rfl n hn)
    simpa using this
  have hw1 : ∀ n ∈ d1.weights Tryz.prog 23, n ≤ reachBytes := fun n hn => by
    have := List.all_eq_true.1 hsz' n (DataW.weights_mem_each (j := 1) (t := 23) (d := d1) rfl rfl n hn)
    simpa using this
  have hw2 : ∀ n ∈ d2.weights Tryz.prog 32, n ≤ reachBytes := fun n hn => by
    have := List.all_eq_true.1 hsz' n (DataW.weights_mem_each (j := 2) (t := 32) (d := d2) rfl rfl n hn)
    simpa using this
  have hw3 : ∀ n ∈ d3.weights Tryz.prog 36, n ≤ reachBytes := fun n hn => by
    have := List.all_eq_true.1 hsz' n (DataW.weights_mem_each (j := 3) (t := 36) (d := d3) rfl rfl n hn)
    simpa using this
  obtain ⟨us, at0, usl, usw, rfl⟩ : ∃ us : List Upd, UpsAt W (.slice a0 us.length cap0) us ∧ us.length ≤ 140737488355328 ∧ (∀ u ∈ us, u.wide) ∧ len0 = us.length := by
    obtain ⟨fuel, hf⟩ := h0
    obtain ⟨a, c, r, hcs, hx, hl, hrf⟩ := open_upds hf hw0
    cases hcs
    exact ⟨r, hx, hl, hrf, rfl⟩
  obtain ⟨es, at1, esl, esf, rfl⟩ : ∃ es : List ET, ExprsAt W (.slice a1 es.length cap1) es ∧ es.length ≤ 140737488355328 ∧ (∀ e ∈ es, e.fits) ∧ len1 = es.length := by
    obtain ⟨fuel, hf⟩ := h1
    obtain ⟨r, a, c, hcs, hx, hl, hrf⟩ := open_exprs hf hw1
    cases hcs
    exact ⟨r, hx, hl, hrf, rfl⟩
  obtain ⟨cols, at2, colsl, rfl⟩ : ∃ cols : List Int, IntsAt W (.slice a2 cols.length cap2) cols ∧ cols.length ≤ 17592186043904 ∧ len2 = cols.length := by
    obtain ⟨fuel, hf⟩ := h2
    obtain ⟨a, c, r, hcs, hx, hl⟩ := open_ints hf hw2
    cases hcs
    exact ⟨r, hx, hl, rfl⟩
  have c36 : Tryz.prog.cellsOf 36 = 3 := by kernel_rfl
  obtain ⟨leave, add, en, na, nc, he, hnat, hnl, hlv, had, hnu⟩ : ∃ (leave add : Int) (en : List Int) (na : Option Addr) (nc : Nat), Value.agg cs3 = .agg #[.int .i64 leave, .int .u32 add, .slice na en.length nc] ∧ WordsAt W (.slice na en.length nc) en ∧ en.length ≤ 140737488355328 ∧ (-9223372036854775808 ≤ leave ∧ leave ≤ 9223372036854775807) ∧ U32 add ∧ ∀ x ∈ en, U32 x := by
    obtain ⟨fuel, hf⟩ := h3'
    obtain ⟨leave, add, en, na, nc, hcs, r⟩ := open_path (by rw [← c36, ← hcs3]; rfl) hf hw3
    refine ⟨leave, add, en, na, nc, ?_, r⟩
    have h : cs3.toList = [.int .i64 leave, .int .u32 add, .slice na en.length nc] := hcs
    rw [show cs3 = [.int .i64 leave, .int .u32 add, .slice na en.length nc].toArray from by rw [← h]]
  obtain ⟨hT, hE, h3⟩ := glob_of_laid hL
  simp only [List.append_nil] at hW'
  rw [he] at k3 hW' ⊢
  refine (sums_4 us es cols leave add en _ _ _ _ W at0 usw usl at1 esf esl at2 colsl hnat hnl hlv had hnu hT hE h3 (fun W' hb => known_7 W' (tabs_below hT hb h3) (cell_keep hb hE) (Nat.le_trans h3 hb.size))).mono fun e' W' ⟨he', hb⟩ => ?_
  subst he'
  exact ⟨_, rfl, _, _, _, [], _, [], hW', trodAll_mk1 (shut_bool Tryz.underlying4 _), (trodAll_mk4 (Below.trod laidOut (by kernel_rfl) (of_decide_eq_true (by kernel_rfl)) k0 hb lt0) (Below.trod laidOut (by kernel_rfl) (of_decide_eq_true (by kernel_rfl)) k1 hb lt1) (Below.trod laidOut (by kernel_rfl) (of_decide_eq_true (by kernel_rfl)) k2 hb lt2) (Below.trod laidOut (by kernel_rfl) (of_decide_eq_true (by kernel_rfl)) k3 hb lt3)), rfl, hb.frame _, fun h => by cases h⟩

theorem over : Rows.LinearSumsSaid :=
  OpenClaim.holds_of_wide 4 Tryz.f4 rfl rfl rfl rfl rfl rfl rfl ⟨rfl, rfl, rfl, rfl, rfl⟩ rfl rfl rfl rfl rfl (by kernel_rfl) Tryz.func4 (by kernel_rfl)
    (of_decide_eq_true (by kernel_rfl)) (by unfold Func.isWrapper; first | (rw [if_pos (by decide +kernel)]; kernel_rfl) | (rw [if_neg (by decide +kernel)]; exact ⟨rfl, rfl⟩))
    (fun os started H enc _ => lifted os started H enc)

/-- the statement -/
theorem proved : Rows.LinearSumsCardSaid :=
  Claim7.holds_tied_plain_at .later [] [.data, .handle, .pinned] true (true, "8990077f9f3435422354873ddd7e224c722e2e7f275048e81ec2f14531b0b396") true
    over (fun _ h => by cases h) (by kernel_rfl) (fun _ h => by cases h) linearSums_row_tie rfl ⟨rfl, rfl⟩ (by kernel_rfl) rfl
    (fun f fn hf hfn => by
      obtain rfl : f = 4 := Option.some.inj ((show Tryz.prog.funcNamed "penstock/penstocklaw13.LinearSums" = some 4 by kernel_rfl).symm.trans hf) |>.symm
      obtain rfl : fn = Tryz.f4 := (Option.some.inj (Tryz.func4.symm.trans hfn)).symm
      exact ⟨by kernel_rfl, fun j t ht => by
        rw [Tryz.params4] at ht
        have hm : t ∈ [22, 23, 32, 36] := by simpa using Array.mem_of_getElem? ht
        have hall : ([22, 23, 32, 36].all fun u => !Tryz.prog.wantsStandIn u) = true := by kernel_rfl
        exact (show Tryz.prog.wantsStandIn t = false by simpa using List.all_eq_true.1 hall t hm)⟩)
    (by kernel_rfl)
end Go.Proofs.YtlpehdhgdpeoeaaGreatDoor.linearSums
