/-
  LexJoins returns true for every input: Join of any tokens answers as the chapter says; they stay. No condition beyond the card's own: the listed package-level variables start as the program's text lays them (tied). The frame is the guide's (PindigProofs); the walks are ours.
-/
import Derived.Test.YtpjfkfbijimliaaGreatDoorY
import Derived.Test.YtpjfkfbijimliaaGreatDoorCg
import Derived.Test.YtpjfkfbijimliaaGreatDoorTie
import Derived.Test.YtpjfkfbijimliaaGreatDoorCards
import Derived.Deep.Slices
import Derived.SizedLaws
import Derived.Lib.TrailingZeros
namespace Go.Proofs.YtpjfkfbijimliaaGreatDoor.lexJoins
open Go.RowKit Go.Pen Go.ChangeShapes Go.WideShapes Go.ChangeAt
open Go.ChangeMaps (open_string shut_string)
set_option linter.unusedVariables false

theorem glob2_of_laid {W : World} (h : laidMetH Tryz.prog laid9 W) : Glob2 W ∧ 10 ≤ W.heap.size := by
  obtain ⟨hg, h10⟩ := glob_of_laid h
  rw [MakeChecks.laidMetH_plain _ _ _ (by kernel_rfl)] at h
  have h9 : Lib.VarReads Tryz.prog W "math/bits.deBruijn64tab" Rows.laid_math_bits_deBruijn64tab := Lib.laidMet.reads h (by simp [laid9, Rows.lexJoinsRow])
  have h6 : Lib.VarReads Tryz.prog W "internal/strconv.uint64pow10" Rows.laid_internal_strconv_uint64pow10 := Lib.laidMet.reads h (by simp [laid9, Rows.lexJoinsRow])
  refine ⟨⟨hg, ?_, ?_⟩, ?_⟩
  · have e : (Rows.laid_math_bits_deBruijn64tab : DataW Unit) = Lib.tabData .u8 (List.map (fun n : Nat => (n : Int)) Lib.deBruijn64tab) := by kernel_rfl
    rw [e] at h9
    have ht := tabIs_of_reads (g := 9) (t := 137) (e := 5) (n := 64) (by kernel_rfl) (by kernel_rfl) Tryz.underlying137 Tryz.underlying5 (by kernel_rfl) (by kernel_rfl) h9
    have hc := ht.cell (g := 9) (by kernel_rfl) 15 (by decide)
    exact hc
  · have e : (Rows.laid_internal_strconv_uint64pow10 : DataW Unit) = Lib.tabData .u64 Lib.pow10Tab := by kernel_rfl
    rw [e] at h6
    exact tabIs_of_reads (g := 2) (t := 107) (e := 69) (n := 20) (by kernel_rfl) (by kernel_rfl) Tryz.underlying107 Tryz.underlying69 (by kernel_rfl) (by kernel_rfl) h6
  · exact h10

set_option maxRecDepth 100000 in
theorem open_toks {H : Type} {enc : TypeId × Value → H} {w : World} {base : Nat} {spare : Nat → Bool} {held : Bool} {fuel : Nat} {cs : List Value} {x : DataW H × List MemPlace} (h : DataW.trod enc Tryz.prog w base spare held fuel 22 cs = some x) :
    cs = [.slice none 0 0] ∨
    ∃ (a : Addr) (len cap : Nat) (q : Nat → GTok) (elems rest : List (DataW H)), cs = [.slice (some a) len cap] ∧ x.1 = .slice elems rest ∧ elems.length = len ∧
      (∀ i, i < len → w.cell? (a.add (i * 4)) = some (.int .u8 (q i).kind) ∧ w.cell? (a.add (i * 4 + 1)) = some (.string (q i).text) ∧ w.cell? (a.add (i * 4 + 2)) = some (.int .i64 (q i).number) ∧ w.cell? (a.add (i * 4 + 3)) = some (.int .i64 (q i).at_)) ∧
      ∀ i, i < len → (q i).fits := by
  rcases Go.Deep.open_slice Tryz.underlying22 h with h0 | ⟨a, len, cap, m, n, D, Pl, rfl, hb, hl, hm, hmm, rfl, hx⟩
  · exact .inl h0.1
  right
  have hlm : len ≤ m := by rw [hmm]; split <;> omega
  have ce : Tryz.prog.cellsOf 34 = 4 := by kernel_rfl
  have each : ∀ i, i < len → ∃ g : GTok, (w.cell? (a.add (i * 4)) = some (.int .u8 g.kind) ∧ w.cell? (a.add (i * 4 + 1)) = some (.string g.text) ∧ w.cell? (a.add (i * 4 + 2)) = some (.int .i64 g.number) ∧ w.cell? (a.add (i * 4 + 3)) = some (.int .i64 g.at_)) ∧ g.fits := by
    intro i hi
    obtain ⟨cs', h1, h2⟩ := hx i (by omega)
    rw [ce] at h1
    obtain ⟨_, hlen, hcell⟩ := World.cells?_some h1
    obtain ⟨xs, k, hk, hxy, _, hxl, hf⟩ := DataW.trod_struct Tryz.underlying34 h2
    match xs, hxl, cs', hlen with
    | [y0, y1, y2, y3], _, [v0, v1, v2, v3], _ =>
      have g0 := hf 0 _ rfl
      have g1 := hf 1 _ rfl
      have g2 := hf 2 _ rfl
      have g3 := hf 3 _ rfl
      have c5 : Tryz.prog.cellsOf 5 = 1 := by kernel_rfl
      have c9 : Tryz.prog.cellsOf 9 = 1 := by kernel_rfl
      have c2 : Tryz.prog.cellsOf 2 = 1 := by kernel_rfl
      have c3 : Tryz.prog.cellsOf 3 = 1 := by kernel_rfl
      simp [c5, c9, c2, c3] at g0 g1 g2 g3
      obtain ⟨n0, e0, -, w0⟩ := DataW.trod_int Tryz.underlying5 g0
      obtain ⟨s1, e1, -, w1⟩ := DataW.trod_string Tryz.underlying9 g1
      obtain ⟨n2, e2, -, w2⟩ := DataW.trod_int Tryz.underlying2 g2
      obtain ⟨n3, e3, -, w3⟩ := DataW.trod_int Tryz.underlying3 g3
      simp only [List.cons.injEq, and_true] at e0 e1 e2 e3
      subst e0 e1 e2 e3
      have q0 := hcell 0 (by omega)
      have q1 := hcell 1 (by omega)
      have q2 := hcell 2 (by omega)
      have q3 := hcell 3 (by omega)
      rw [Go.Deep.add_add] at q0 q1 q2 q3
      refine ⟨⟨n0, s1, n2, n3⟩, ⟨by simpa using q0, by simpa using q1, by simpa using q2, by simpa using q3⟩, ?_⟩
      have hn : -9223372036854775808 ≤ n2 ∧ n2 ≤ 9223372036854775807 := by simpa [Lit.wf, IntKind.min, IntKind.max, IntKind.signed, IntKind.bits] using w2
      unfold maxLen at w1
      exact ⟨hn.1, hn.2, by simpa using w1⟩
  have : Inhabited GTok := ⟨⟨0, ⟨#[]⟩, 0, 0⟩⟩
  obtain ⟨q, hq⟩ := Go.Deep.choose_lt each
  exact ⟨a, len, cap, q, _, _, rfl, rfl, by simp, fun i hi => (hq i hi).1, fun i hi => (hq i hi).2⟩

theorem toks_of {W : World} {x : Addr} {len : Nat} (q : Nat → GTok) (hcell : ∀ i, i < len → W.cell? (x.add (i * 4)) = some (.int .u8 (q i).kind) ∧ W.cell? (x.add (i * 4 + 1)) = some (.string (q i).text) ∧ W.cell? (x.add (i * 4 + 2)) = some (.int .i64 (q i).number) ∧ W.cell? (x.add (i * 4 + 3)) = some (.int .i64 (q i).at_))
    (hfit : ∀ i, i < len → (q i).fits) : (∀ c : Nat, TokRow W (.slice (some x) len c) ((List.range len).map q)) ∧ ∀ g ∈ (List.range len).map q, g.fits := by
  refine ⟨fun c => ⟨some x, c, by rw [List.length_map, List.length_range], fun hne => ?_⟩, fun g hg => ?_⟩
  · have h0 : 0 < len := by
      rcases Nat.eq_zero_or_pos len with e | h
      · subst e; exact absurd rfl hne
      · exact h
    have hc0 := (hcell 0 h0).1
    obtain ⟨bl, off, sp⟩ := x
    have hadd : ∀ i, ((⟨bl, off, sp⟩ : Addr).add i) = if i = 0 then ⟨bl, off, sp⟩ else ⟨bl, off + i, none⟩ := fun i => rfl
    rw [Nat.zero_mul] at hc0
    have hsp : sp = none := by
      rw [hadd, if_pos rfl] at hc0
      unfold World.cell? at hc0
      cases sp with
      | none => rfl
      | some y => split at hc0 <;> simp at hc0
    subst hsp
    refine ⟨bl, off, rfl, ?_, fun i g hg => ?_⟩
    · have := World.block_lt_of_cell? W _ hc0
      rw [hadd, if_pos rfl] at this; exact this
    · rw [List.getElem?_map] at hg
      obtain ⟨j, hj, rfl⟩ := Option.map_eq_some_iff.1 hg
      have hjl := (List.getElem?_eq_some_iff.1 hj)
      obtain ⟨hlt, hjj⟩ := hjl
      rw [List.length_range] at hlt
      rw [List.getElem_range] at hjj
      subst hjj
      obtain ⟨c0, c1, c2, c3⟩ := hcell i hlt
      rw [Go.Pen.add_lit] at c0 c1 c2 c3
      exact ⟨c0, by rw [Nat.add_assoc]; exact c1, by rw [Nat.add_assoc]; exact c2, by rw [Nat.add_assoc]; exact c3⟩
  · obtain ⟨i, hi, rfl⟩ := List.mem_map.1 hg
    exact hfit i (List.mem_range.1 hi)

set_option maxRecDepth 100000 in
theorem lifted (os : Os) (started : os.Started) (H : Type) (enc : TypeId × Value → H) :
    ReturnsInHanded {} Tryz.checked os 3 .any (fun w args => (Rows.lexJoinsSpec.pre enc Tryz.prog Tryz.f3 [] false w args ∧ laidMetH Tryz.prog laid9 w) ∧ sizedMet enc Tryz.prog Tryz.f3 (OpenSpec.ofChange Rows.lexJoinsSpec) false w args)
      (Rows.lexJoinsSpec.post enc Tryz.prog Tryz.f3 false true false false) := by
  refine returnsInHanded_of_change_and (C := Tryz.checked) (X := fun w _ => laidMetH Tryz.prog laid9 w) (fun _ _ _ hh h => h.of_heap hh) own started (by kernel_rfl) Tryz.func3
    (ChangeSpec.witness_shaped (enc := enc) (C := Tryz.checked) (os := os) (X := fun w _ => laidMetH Tryz.prog laid9 w) false (World.laidAll Tryz.prog os laid9) #[.slice none 0 0] 8 (World.laidAll_os _ _ _)
      (World.shaped_of_ZipB (by kernel_rfl) (by kernel_rfl)) (by kernel_rfl) (by kernel_rfl) (by kernel_rfl) (wit_met os _)) ?_
  intro W base args ds gs before hval0 hW _ hsz hL _
  have hval : ∀ (j : Nat) t v, Tryz.f3.params[j]? = some t → args[j]? = some v → Value.okWide Tryz.prog W .any base t v := hval0
  have hW' := hW
  obtain ⟨p, q, hA0, hV, rfl, _, _⟩ := hW
  have hA : DataW.TrodAll enc Tryz.prog W 0 (fun _ => true) true Tryz.f3.params.toList args.toList ds p := hA0
  rw [Tryz.params3] at hA hval
  obtain ⟨v1, d1, rfl, rfl, h1⟩ := trodAll_one hA
  obtain ⟨rfl, rfl⟩ := trodVars_none hV
  obtain ⟨a1, len1, cap1, rfl⟩ := okWide_slice Tryz.underlying22 (hval 0 22 v1 rfl rfl)
  have k1 := h1
  have lt1 : ∀ x ∈ p, x.block < W.heap.size := by obtain ⟨m, hm⟩ := k1; exact DataW.trod_lt m _ _ _ hm
  obtain ⟨toks, htk, hfit, hlen, hnil⟩ : ∃ toks : List GTok, TokRow W (.slice a1 len1 cap1) toks ∧ (∀ g ∈ toks, g.fits) ∧ toks.length * 40 ≤ 140737488351232 ∧ ∀ c : Nat, Value.slice a1 len1 cap1 = .slice none 0 c → c = 0 := by
    obtain ⟨fuel, hf⟩ := h1
    rcases open_toks hf with hcs | ⟨x, l, c, qs, elems, rest, hcs, hx, hel, hcell, hfit⟩
    · simp [Value.cells] at hcs
      obtain ⟨rfl, rfl, rfl⟩ := hcs
      exact ⟨[], ⟨none, 0, rfl, fun h => absurd rfl h⟩, fun g hg => (List.not_mem_nil hg).elim, by decide, fun c h => by cases h; rfl⟩
    · simp [Value.cells] at hcs
      obtain ⟨rfl, rfl, rfl⟩ := hcs
      have h40 : (elems.length + rest.length) * Tryz.prog.bytesOf 34 ≤ reachBytes := sized_slice (P := Tryz.prog) (j := 0) (t := 22) (e := 34) (elems := elems) (spare := rest) hsz (by rw [Tryz.params3]; rfl) (by rw [← hx]; rfl) Tryz.underlying22
      rw [show Tryz.prog.bytesOf 34 = 40 by kernel_rfl] at h40
      unfold reachBytes at h40
      obtain ⟨t1, t2⟩ := toks_of qs hcell hfit
      refine ⟨(List.range len1).map qs, t1 cap1, t2, ?_, fun c h => by cases h⟩
      rw [List.length_map, List.length_range]
      omega
  simp only [List.append_nil] at hW'
  obtain ⟨hg, h10⟩ := glob2_of_laid hL
  refine (joins_3 toks _ W hg h10 htk hnil hlen hfit).mono fun e W' ⟨he, hb⟩ => ?_
  subst he
  exact ⟨_, rfl, _, _, _, [], _, [], hW', trodAll_mk1 (shut_bool Tryz.underlying4 _), trodAll_mk1 (Below.trod laidOut (by kernel_rfl) (of_decide_eq_true (by kernel_rfl)) k1 hb lt1), rfl, hb.frame _, fun h => by cases h⟩

theorem over : Rows.LexJoinsSaid :=
  OpenClaim.holds_of_wide 3 Tryz.f3 rfl rfl rfl rfl rfl rfl rfl ⟨rfl, rfl, rfl, rfl, rfl⟩ rfl rfl rfl rfl rfl (by kernel_rfl) Tryz.func3 (by kernel_rfl)
    (of_decide_eq_true (by kernel_rfl)) (by unfold Func.isWrapper; first | (rw [if_pos (by decide +kernel)]; kernel_rfl) | (rw [if_neg (by decide +kernel)]; exact ⟨rfl, rfl⟩))
    (fun os started H enc _ => lifted os started H enc)

/-- the statement -/
theorem proved : Rows.LexJoinsCardSaid :=
  Claim7.holds_tied_plain_at .later [] [.data, .data, .data, .data, .sentinel, .sentinel, .listed, .data, .pinned] true (true, "419f6282e04f6f3ef97cab1a1f0179741104620761c180fca11c13a0a9880cc1") true
    over (fun _ h => by cases h) (by kernel_rfl) (fun _ h => by cases h) lexJoins_row_tie rfl ⟨rfl, rfl⟩ (by kernel_rfl) rfl
    (fun f fn hf hfn => by
      obtain rfl : f = 3 := Option.some.inj ((show Tryz.prog.funcNamed "penstock/penstocklaw16.LexJoins" = some 3 by kernel_rfl).symm.trans hf) |>.symm
      obtain rfl : fn = Tryz.f3 := (Option.some.inj (Tryz.func3.symm.trans hfn)).symm
      exact ⟨by kernel_rfl, fun j t ht => by
        rw [Tryz.params3] at ht
        have hm : t ∈ [22] := by simpa using Array.mem_of_getElem? ht
        have hall : ([22].all fun u => !Tryz.prog.wantsStandIn u) = true := by kernel_rfl
        exact (show Tryz.prog.wantsStandIn t = false by simpa using List.all_eq_true.1 hall t hm)⟩)
    (by kernel_rfl)
end Go.Proofs.YtpjfkfbijimliaaGreatDoor.lexJoins
