import Derived.Test.YtlpehdhgdpeoeaaGreatDoorLl
/- Updates whose rows and loops lie in blocks of the rows' types: what stays while variables and lists of updates are written. -/
namespace Go.Proofs.YtlpehdhgdpeoeaaGreatDoor
open Go.RowKit Go.Pen Go.Shelf
attribute [local go_sem] Oper.semAt_some

/-- a slice whose elements lie from the start of a block of that type -/
def TyRow (w : World) (t : TypeId) (v : Value) (n : Nat) (xs : List Value) : Prop :=
  ∃ a c, v = .slice a n c ∧ ((a = none → c = 0 ∧ n = 0) ∧ n ≤ c) ∧ (n ≠ 0 → ∃ (b : Nat) (cur : Array Value), a = some ⟨b, 0, none⟩ ∧ w.heap[b]? = some (.cells cur t (0, 0)) ∧ ∀ (j : Nat) (u : Value), xs[j]? = some u → cur[j]? = some u)
/-- is a block one that stays? -/
def Obj.stays : Obj → Bool
  | .cells _ t _ => t == 55 || t == 33
  | _ => false
/-- what has rows' types stays, and whatever is no cells; the rest of a world too -/
structure Kt (W W' : World) : Prop where
  size : W.heap.size ≤ W'.heap.size
  same : ∀ (k : Nat) (o : Obj), W.heap[k]? = some o → (Obj.stays o = true ∨ o.isCells = false) → W'.heap[k]? = some o
theorem Kt.refl (W : World) : Kt W W := ⟨Nat.le_refl _, fun _ _ h _ => h⟩
theorem Kt.trans {X Y Z : World} (h : Kt X Y) (k : Kt Y Z) : Kt X Z := ⟨Nat.le_trans h.size k.size, fun i o hi ho => k.same i o (h.same i o hi ho) ho⟩
theorem Kt.of_below {W W' : World} (h : Below W.heap.size W W') : Kt W W' := ⟨h.size, fun k _ hk _ => (h.block k (lt_of_heap hk)).trans hk⟩
theorem Kt.keeps {W W' : World} (h : Kt W W') : KeepsOthers W W' := ⟨h.size, fun k o hk ho => h.same k o hk (.inr ho)⟩
theorem Kt.alloc (W : World) (o : Obj) : Kt W (W.alloc o) := Kt.of_below (one_below _ _)
/-- a step that turns one block of another type -/
theorem Kt.but {W W' : World} {p : Nat} {cs : Array Value} {t : TypeId} {fr : Nat × Nat} (hp : W.heap[p]? = some (.cells cs t fr)) (ht : (t == 55 || t == 33) = false) (hs : W.heap.size ≤ W'.heap.size) (h : ∀ k, k < W.heap.size → k ≠ p → W'.heap[k]? = W.heap[k]?) : Kt W W' :=
  ⟨hs, fun k o hk ho => (h k (lt_of_heap hk) (fun e => by
    subst e
    rw [hp] at hk
    cases hk
    simp only [Obj.stays, ht, Obj.isCells] at ho
    rcases ho with ho | ho <;> cases ho)).trans hk⟩
theorem Kt.grown {W W' : World} {base n : Nat} {v : Value} {xs : List Value} (hown : W.ownsRow base 51 4 v n xs) (hg : W.grownBy W' v.ownBlock) : Kt W W' := by
  rcases hown.2 with ⟨rfl, -⟩ | ⟨g, cap, cur, rfl, -, hgg, -⟩
  · exact ⟨hg.size, fun k o hk _ => (hg.block k (lt_of_heap hk) (by simp [Value.ownBlock])).trans hk⟩
  · exact Kt.but hgg (by decide) hg.size fun k hk hne => hg.block k hk (by simpa [Value.ownBlock] using hne)
theorem TyRow.kt {W W' : World} {t : TypeId} {v : Value} {n : Nat} {xs : List Value} (h : TyRow W t v n xs) (ht : (t == 55 || t == 33) = true) (k : Kt W W') : TyRow W' t v n xs := by
  obtain ⟨a, c, rfl, hz, h⟩ := h
  refine ⟨a, c, rfl, hz, fun hn => ?_⟩
  obtain ⟨b, cur, ha, hb, hc⟩ := h hn
  exact ⟨b, cur, ha, k.same _ _ hb (.inl ht), hc⟩
theorem TyRow.of_own {w : World} {base : Nat} {t : TypeId} {size : Nat} {v : Value} {n : Nat} {xs : List Value} (h : w.ownsRow base t size v n xs) : TyRow w t v n xs := by
  rcases h.2 with ⟨rfl, rfl⟩ | ⟨g, cap, cur, rfl, -, hg, hc, -, hs, htk⟩
  · exact ⟨none, 0, rfl, ⟨fun _ => ⟨rfl, rfl⟩, Nat.le_refl _⟩, fun h => absurd rfl h⟩
  · refine ⟨some ⟨g, 0, none⟩, cap, rfl, ⟨(fun h => by cases h), ?_⟩, fun _ => ⟨g, cur, rfl, hg, fun j u hu => ?_⟩⟩
    · omega
    rw [← htk, List.getElem?_take] at hu
    split at hu
    · simpa using hu
    · cases hu
/-- an update's row and loops lie in blocks of the rows' types -/
structure UpT (w : World) (rv lv : Value) (u : Upd) : Prop where
  row : TyRow w 55 rv u.row.length (rowCells u.row)
  loops : TyRow w 33 lv u.loops.length (wordCells u.loops)
theorem UpT.kt {W W' : World} {rv lv : Value} {u : Upd} (h : UpT W rv lv u) (k : Kt W W') : UpT W' rv lv u := ⟨h.row.kt rfl k, h.loops.kt rfl k⟩
theorem UpT.rowAt {w : World} {rv lv : Value} {u : Upd} (h : UpT w rv lv u) : RowAt w rv u.row := by
  obtain ⟨a, c, rfl, hz, h⟩ := h.row
  refine ⟨a, c, rfl, fun e => (hz.1 e).1, fun hne => ?_⟩
  obtain ⟨b, cur, rfl, hb, hc⟩ := h (by simpa using hne)
  refine ⟨b, 0, rfl, trivial, fun i d hd => ?_⟩
  have hq : ∀ j, j < 4 → ∀ x, d.cells[j]? = some x → w.cell? ⟨b, 0 + i * 4 + j, none⟩ = some x := fun j hj x hx =>
    cell_of_heap hb (hc _ _ (by rw [Nat.zero_add, rowCells_at u.row i d j hd hj]; exact hx))
  exact ⟨hq 0 (by decide) _ rfl, hq 1 (by decide) _ rfl, hq 2 (by decide) _ rfl, hq 3 (by decide) _ rfl⟩
theorem UpT.wordsAt {w : World} {rv lv : Value} {u : Upd} (h : UpT w rv lv u) : WordsAt w lv u.loops := by
  obtain ⟨a, c, rfl, hz, h⟩ := h.loops
  refine ⟨a, c, rfl, fun e => (hz.1 e).1, fun hne => ?_⟩
  obtain ⟨b, cur, rfl, hb, hc⟩ := h (by simpa using hne)
  exact ⟨b, 0, rfl, fun i x hx => cell_of_heap hb (hc _ _ (by rw [Nat.zero_add, wordCells, List.getElem?_map, hx]; rfl))⟩
/-- values that hold updates of which that is so -/
structure ElsT (w : World) (xs : List Value) (us : List Upd) : Prop where
  len : xs.length = us.length * 4
  el : ∀ i u, us[i]? = some u → ∃ rv lv, xs[i * 4]? = some rv ∧ xs[i * 4 + 1]? = some (.int .u64 u.epoch) ∧ xs[i * 4 + 2]? = some lv ∧ xs[i * 4 + 3]? = some (.int .i64 u.diff) ∧ UpT w rv lv u
theorem ElsT.kt {W W' : World} {xs : List Value} {us : List Upd} (h : ElsT W xs us) (k : Kt W W') : ElsT W' xs us := ⟨h.len, fun i u hu => by
  obtain ⟨rv, lv, q0, q1, q2, q3, hr⟩ := h.el i u hu
  exact ⟨rv, lv, q0, q1, q2, q3, hr.kt k⟩⟩
theorem ElsT.els {W : World} {xs : List Value} {us : List Upd} (h : ElsT W xs us) : Els W xs us := ⟨h.len, fun i u hu => by
  obtain ⟨rv, lv, q0, q1, q2, q3, hr⟩ := h.el i u hu
  exact ⟨rv, lv, q0, q1, q2, q3, hr.rowAt, hr.wordsAt⟩⟩
theorem ElsT.nil {w : World} : ElsT w [] [] := ⟨rfl, fun i u h => by simp at h⟩
theorem ElsT.snoc {w : World} {xs : List Value} {us : List Upd} {rv lv : Value} {u : Upd} (h : ElsT w xs us) (hu : UpT w rv lv u) : ElsT w (xs ++ [rv, .int .u64 u.epoch, lv, .int .i64 u.diff]) (us ++ [u]) := ⟨by simp [h.len]; omega, fun i x hx => by
  have hl := h.len
  by_cases hi : i < us.length
  · rw [List.getElem?_append_left hi] at hx
    obtain ⟨rv', lv', q0, q1, q2, q3, hr⟩ := h.el i x hx
    refine ⟨rv', lv', ?_, ?_, ?_, ?_, hr⟩ <;> rw [List.getElem?_append_left (by omega)] <;> assumption
  · rw [List.getElem?_append_right (by omega)] at hx
    have hi2 : i = us.length := by
      rcases Nat.lt_or_ge us.length i with h | h
      · rw [List.getElem?_eq_none (by simp; omega)] at hx; cases hx
      · omega
    subst hi2
    simp at hx
    subst hx
    refine ⟨rv, lv, ?_, ?_, ?_, ?_, hu⟩ <;> rw [List.getElem?_append_right (by omega), hl] <;> simp⟩
end Go.Proofs.YtlpehdhgdpeoeaaGreatDoor
/- kept's closure. -/
namespace Go.Proofs.YtlpehdhgdpeoeaaGreatDoor
open Go.RowKit Go.Pen Go.Shelf
attribute [local go_sem] Oper.semAt_some

/-- all but one block stays -/
structure But (p : Nat) (W W' : World) : Prop where
  os : W'.os = W.os
  tape : W'.tape = W.tape
  output : W'.output = W.output
  size : W.heap.size ≤ W'.heap.size
  block : ∀ k, k < W.heap.size → k ≠ p → W'.heap[k]? = W.heap[k]?
theorem But.of_below {p : Nat} {W W' : World} (h : Below W.heap.size W W') : But p W W' := ⟨h.os, h.tape, h.output, h.size, fun k hk _ => h.block k hk⟩
theorem But.below {p B : Nat} {w W W' : World} (h : Below B w W) (k : But p W W') (hp : B ≤ p) (hB : B ≤ W.heap.size) : Below B w W' := h.trans ⟨k.os, k.tape, k.output, k.size, fun i hi => k.block i (by omega) (by omega)⟩
/-- the boxes that kept and each have made -/
structure Box (w : World) (s : Nat) (dov lv clos : Value) (W : World) : Prop where
  below : Below s w W
  b0 : W.heap[s]? = some (.cells #[dov] 66 (0, 0))
  b3 : W.heap[s + 3]? = some (.cells #[lv] 22 (0, 0))
  b4 : W.heap[s + 4]? = some (.cells #[clos] 72 (0, 0))
/-- what kept holds: what is kept, and the errors -/
def JK (w : World) (s : Nat) (dov lv clos : Value) (outs errs : List Upd) (X : Nat → Prop) (W : World) : Prop :=
  Box w s dov lv clos W ∧ ∃ ov xs ev ys, W.heap[s + 1]? = some (.cells #[ov] 22 (0, 0)) ∧ W.heap[s + 2]? = some (.cells #[ev] 22 (0, 0)) ∧ W.ownsRow (s + 5) 51 4 ov outs.length xs ∧ W.ownsRow (s + 5) 51 4 ev errs.length ys ∧
    (∀ k, ov.ownBlock = some k → ¬ X k ∧ ev.ownBlock ≠ some k) ∧ (∀ k, ev.ownBlock = some k → ¬ X k) ∧ ElsT W xs outs ∧ ElsT W ys errs
theorem owns_same {W W' : World} {base e size n : Nat} {v : Value} {xs : List Value} (h : W.ownsRow base e size v n xs) (hs : ∀ k, v.ownBlock = some k → W'.heap[k]? = W.heap[k]?) : W'.ownsRow base e size v n xs := by
  refine ⟨h.1, ?_⟩
  rcases h.2 with hn | ⟨g, cap, cur, rfl, hb, hg, rest⟩
  · exact .inl hn
  · exact .inr ⟨g, cap, cur, rfl, hb, (hs g rfl).trans hg, rest⟩
theorem JK.but {w W W' : World} {s p : Nat} {dov lv clos : Value} {outs errs : List Upd} {X : Nat → Prop} (h : JK w s dov lv clos outs errs X W) (hX : X p) (hp : s + 5 ≤ p) (hb : But p W W') (hk : Kt W W') : JK w s dov lv clos outs errs X W' := by
  obtain ⟨⟨bl, b0, b3, b4⟩, ov, xs, ev, ys, h1, h2, h3, h4, h5, h6, h7, h8⟩ := h
  have hsz := lt_of_heap b4
  refine ⟨⟨But.below bl hb (by omega) (by omega), (hb.block _ (lt_of_heap b0) (by omega)).trans b0, (hb.block _ (lt_of_heap b3) (by omega)).trans b3, (hb.block _ (lt_of_heap b4) (by omega)).trans b4⟩, ov, xs, ev, ys, (hb.block _ (lt_of_heap h1) (by omega)).trans h1, (hb.block _ (lt_of_heap h2) (by omega)).trans h2,
    owns_same h3 (fun k hk => hb.block k (h3.lt k hk).2 (fun e => (h5 k hk).1 (e ▸ hX))), owns_same h4 (fun k hk => hb.block k (h4.lt k hk).2 (fun e => h6 k hk (e ▸ hX))), h5, h6, h7.kt hk, h8.kt hk⟩
/-- an update that tells an error -/
def errU (u : Upd) (n : Nat) : Upd := { u with row := [num n] }

set_option maxRecDepth 100000 in
set_option maxHeartbeats 1000000 in
theorem kept1_44 (w : World) (s Y : Nat) (lv clos : Value) (outs errs : List Upd) (p : Nat) (u' : Upd) (kb : Bool) (n : Nat) (W : World) (hJ : JK w s (.func (.func 24) #[] #[.pointer (some ⟨Y, 0, none⟩)]) lv clos outs errs (· = p) W) (hps : s + 5 ≤ p) (hlen : errs.length ≤ 1000000) (hn : n ≤ 65535)
    (hdo : Calls Tryz.prog 24 #[.pointer (some ⟨p, 0, none⟩), .pointer (some ⟨Y, 0, none⟩)] W fun e W' => ∃ rv' lv', e = .returned (.tuple #[.bool kb, .int .u16 n]) ∧ W'.heap[p]? = some (.cells (upV rv' lv' u') 51 (0, 0)) ∧ UpT W' rv' lv' u' ∧ But p W W' ∧ Kt W W') :
    Calls Tryz.prog 44 #[.pointer (some ⟨p, 0, none⟩), .pointer (some ⟨s, 0, none⟩), .pointer (some ⟨s + 2, 0, none⟩)] W fun e W' => ∃ rv' lv', e = .returned (.bool (kb && n == 0)) ∧ W'.heap[p]? = some (.cells (upV rv' lv' u') 51 (0, 0)) ∧ UpT W' rv' lv' u' ∧
      JK w s (.func (.func 24) #[] #[.pointer (some ⟨Y, 0, none⟩)]) lv clos outs (if n = 0 then errs else errs ++ [errU u' n]) (· = p) W' ∧ Kt W W' := by
  obtain ⟨i0, hi0, hz0, hz1, hz2⟩ := info_parts info51
  have HJ := Lib.hid hJ
  have y0 := cell_of_heap (o := 0) hJ.1.b0 rfl
  have HDO := Lib.hid hdo
  clear hJ hdo
  go_enter Tryz.func44, Tryz.ntmps44
  by_cases hn0 : n = 0
  · subst hn0
    go_wp2_with (go_at_call 24; refine HDO.out.mono ?_; rintro e w1 ⟨rv1, lv1, rfl, hp1, hu1, hb1, hk1⟩)
    all_goals (go_ret; exact ⟨rfl, rv1, lv1, hp1, hu1, HJ.out.but rfl hps hb1 hk1, hk1⟩)
  · have hn1 : ((n : Int) != 0) = true := by simp; omega
    go_upto_region 5 with (go_at_call 24; refine HDO.out.mono ?_; rintro e w1 ⟨rv1, lv1, rfl, hp1, hu1, hb1, hk1⟩; have HU1 := Lib.hid hu1; have HP1 := Lib.hid hp1; have HB1 := Lib.hid hb1; have HK1 := Lib.hid hk1; obtain ⟨ra, rc, rfl, -, -⟩ := hu1.row; obtain ⟨la, lc, rfl, -, -⟩ := hu1.loops; obtain ⟨rn, ern⟩ : ∃ rn, rn = u'.row.length := ⟨_, rfl⟩; obtain ⟨ln, eln⟩ : ∃ ln, ln = u'.loops.length := ⟨_, rfl⟩; rw [← ern, ← eln] at hp1 HP1 HU1; have q0 : w1.cell? ⟨p, 0, none⟩ = some (.slice ra rn rc) := cell_of_heap hp1 rfl; have q1 : w1.cell? ⟨p, 1, none⟩ = some (.int .u64 u'.epoch) := cell_of_heap hp1 rfl; have q2 : w1.cell? ⟨p, 2, none⟩ = some (.slice la ln lc) := cell_of_heap hp1 rfl; have q3 : w1.cell? ⟨p, 3, none⟩ = some (.int .i64 u'.diff) := cell_of_heap hp1 rfl; clear ern eln hu1 hp1 hb1 hk1)
    obtain ⟨F, eF⟩ : ∃ F, F = w1.heap.size := ⟨_, rfl⟩
    obtain ⟨w2, hw2⟩ : ∃ w2, w2 = (w1.alloc (.cells #[.slice (some ⟨F + 1, 0, none⟩) 1 1, .int .u64 u'.epoch, .slice la ln lc, .int .i64 u'.diff] 51)).alloc (.cells #[.int .u8 3, .bool false, .int .i64 n, .string ⟨#[]⟩] 55) := ⟨_, rfl⟩
    have hb2 : Below w1.heap.size w1 w2 := by rw [hw2]; exact two_below _ _ _
    have hF : w2.heap[F]? = some (.cells #[.slice (some ⟨F + 1, 0, none⟩) 1 1, .int .u64 u'.epoch, .slice la ln lc, .int .i64 u'.diff] 51 (0, 0)) := by rw [hw2, eF]; exact keepAt' (heap_alloc_new _ _) _
    have hD : w2.heap[F + 1]? = some (.cells #[.int .u8 3, .bool false, .int .i64 n, .string ⟨#[]⟩] 55 (0, 0)) := by rw [hw2, eF]; have := heap_alloc_new (w1.alloc (.cells #[.slice (some ⟨w1.heap.size + 1, 0, none⟩) 1 1, .int .u64 u'.epoch, .slice la ln lc, .int .i64 u'.diff] 51)) (.cells #[.int .u8 3, .bool false, .int .i64 n, .string ⟨#[]⟩] 55); rw [World.size_alloc] at this; exact this
    rw [← eF, ← hw2]
    have hk2 := Kt.of_below hb2
    have hj2 := (HJ.out.but rfl hps HB1.out HK1.out).but rfl hps (But.of_below hb2) hk2
    have hu2 : UpT w2 (.slice (some ⟨F + 1, 0, none⟩) 1 1) (.slice la ln lc) (errU u' n) := ⟨⟨_, _, rfl, ⟨(fun h => by cases h), Nat.le_refl _⟩, fun _ => ⟨_, _, rfl, hD, fun j u hu => by
      simp only [errU, rowCells, List.flatMap_cons, List.flatMap_nil, Dat.cells, num, List.append_nil] at hu
      simpa using hu⟩⟩, (HU1.out.kt hk2).loops⟩
    have HP2 := Lib.hid (keepB HP1.out hb2)
    have HK2 := Lib.hid (HK1.out.trans hk2)
    have HU2 := Lib.hid hu2
    have HV2 := Lib.hid (HU1.out.kt hk2)
    obtain ⟨⟨bl, b0, b3, b4⟩, ov, xs, ev, ys, h1, h2, h3, h4, h5, h6, h7, h8⟩ := hj2
    have x0 : w2.cell? ⟨F, 0, none⟩ = some (.slice (some ⟨F + 1, 0, none⟩) 1 1) := cell_of_heap hF rfl
    have x1 : w2.cell? ⟨F, 1, none⟩ = some (.int .u64 u'.epoch) := cell_of_heap hF rfl
    have x2 : w2.cell? ⟨F, 2, none⟩ = some (.slice la ln lc) := cell_of_heap hF rfl
    have x3 : w2.cell? ⟨F, 3, none⟩ = some (.int .i64 u'.diff) := cell_of_heap hF rfl
    have x4 : w2.cell? ⟨s + 2, 0, none⟩ = some ev := cell_of_heap h2 rfl
    obtain ⟨ea, ec, rfl⟩ := ownsRow_slice h4
    have hs2 := lt_of_heap b4
    have HBX := Lib.hid (Box.mk bl b0 b3 b4)
    have H1 := Lib.hid h1
    have H2 := Lib.hid h2
    have H3 := Lib.hid h3
    have H4 := Lib.hid h4
    have H5 := Lib.hid h5
    have H6 := Lib.hid h6
    have H7 := Lib.hid h7
    have H8 := Lib.hid h8
    have hpF : p ≠ s + 2 := by omega
    clear hw2 hF hD hb2 hk2 hu2 bl b0 b3 b4 h1 h2 h3 h4 h5 h6 h7 h8 q0 q1 q2 q3 HP1 HK1 HU1 HB1 eF y0 HDO
    go_wp2_with (at_builtin; go_must (refine wpList_append_lies _ rfl _ _ 22 rfl (s + 5) 51 i0 _ 4 64 Tryz.underlying22 hi0 hz0 hz1 hz2 rfl (by decide) _ errs.length ys rfl (H4.out.alloc _) ⟨w2.heap.size, 0, none⟩ 1 1 [.slice (some ⟨F + 1, 0, none⟩) 1 1, .int .u64 u'.epoch, .slice la ln lc, .int .i64 u'.diff] rfl rfl ?c1 ?c2 (by decide) ?c3 ?c4 ?c5 _ rfl ?_))
    case c2 => exact ⟨rfl, rfl, rfl, rfl⟩
    case c3 => unfold maxLen; omega
    case c4 => omega
    case c5 => omega
    intro g cap w3 hown3 hgrow3 hat3 hlt3
    obtain ⟨w2a, hw2a⟩ : ∃ w2a, w2a = w2.alloc (.cells #[.slice (some ⟨F + 1, 0, none⟩) 1 1, .int .u64 u'.epoch, .slice la ln lc, .int .i64 u'.diff] 51) := ⟨_, rfl⟩
    rw [← hw2a] at hgrow3
    have hba : Below w2.heap.size w2 w2a := by rw [hw2a]; exact one_below _ _
    have hsa : w2a.heap.size = w2.heap.size + 1 := by rw [hw2a]; simp
    have hob : ∀ k, (Value.slice ea errs.length ec).ownBlock = some k → s + 5 ≤ k ∧ k < w2.heap.size := fun k hk => H4.out.lt k hk
    have hg5 : s + 5 ≤ g := by rcases hat3 with h | h <;> first | exact (hob g h).1 | omega
    have hold : ∀ k y, w2.heap[k]? = some y → (Value.slice ea errs.length ec).ownBlock ≠ some k → w3.heap[k]? = some y := fun k y hk hne => (hgrow3.block k (by have := lt_of_heap hk; omega) (Ne.symm hne)).trans (keepB hk hba)
    have hne : ∀ k, k < s + 5 → (Value.slice ea errs.length ec).ownBlock ≠ some k := fun k hk e => by have := (hob k e).1; omega
    have e2 := hold _ _ H2.out (hne _ (by omega))
    have z2 := cell_of_heap (o := 0) e2 rfl
    have g2 := frozen_of_heap (o := 0) e2
    have hk3 : Kt w2 w3 := (Kt.of_below hba).trans (Kt.grown (by rw [hw2a]; exact H4.out.alloc _) hgrow3)
    have hb3 : Below s w w3 := (HBX.out.below.trans ((hba.mono (by omega)))).grown hgrow3 (by omega) (fun k hk => by have := (hob k hk).1; omega)
    have hfin : JK w s (.func (.func 24) #[] #[.pointer (some ⟨Y, 0, none⟩)]) lv clos outs (errs ++ [errU u' n]) (· = p) (w3.setCell ⟨s + 2, 0, none⟩ (.slice (some ⟨g, 0, none⟩) (errs.length + 1) cap)) ∧ Kt W (w3.setCell ⟨s + 2, 0, none⟩ (.slice (some ⟨g, 0, none⟩) (errs.length + 1) cap)) ∧ (w3.setCell ⟨s + 2, 0, none⟩ (.slice (some ⟨g, 0, none⟩) (errs.length + 1) cap)).heap[p]? = some (.cells (upV (.slice ra rn rc) (.slice la ln lc) u') 51 (0, 0)) ∧ UpT (w3.setCell ⟨s + 2, 0, none⟩ (.slice (some ⟨g, 0, none⟩) (errs.length + 1) cap)) (.slice ra rn rc) (.slice la ln lc) u' := by
      obtain ⟨w4, hw4⟩ : ∃ w4, w4 = w3.setCell ⟨s + 2, 0, none⟩ (.slice (some ⟨g, 0, none⟩) (errs.length + 1) cap) := ⟨_, rfl⟩
      rw [← hw4]
      have hs4 : w4.heap.size = w3.heap.size := by rw [hw4]; simp [World.setCell]
      have h34 : ∀ k, k ≠ s + 2 → w4.heap[k]? = w3.heap[k]? := fun k hk => by rw [hw4]; exact heap_set_ne hk
      have hk4 : Kt w3 w4 := Kt.but e2 (by decide) (by omega) fun k _ hk => h34 k hk
      have hu4 := hk3.trans hk4
      have hp4 : w4.heap[p]? = some (.cells (upV (.slice ra rn rc) (.slice la ln lc) u') 51 (0, 0)) := (h34 p (by omega)).trans (hold _ _ HP2.out (fun e => (H6.out p e) rfl))
      have h24 : w4.heap[s + 2]? = some (.cells #[.slice (some ⟨g, 0, none⟩) (errs.length + 1) cap] 22 (0, 0)) := by rw [hw4, heap_set_same e2]; rfl
      have hgo : ∀ k, ov.ownBlock = some k → (Value.slice ea errs.length ec).ownBlock ≠ some k := fun k hk => (H5.out k hk).2
      refine ⟨⟨⟨by rw [hw4]; exact hb3.setCell (p := ⟨s + 2, 0, none⟩) (by show s ≤ s + 2; omega) _, (h34 _ (by omega)).trans (hold _ _ HBX.out.b0 (hne _ (by omega))), (h34 _ (by omega)).trans (hold _ _ HBX.out.b3 (hne _ (by omega))), (h34 _ (by omega)).trans (hold _ _ HBX.out.b4 (hne _ (by omega)))⟩, ov, xs, _, _, (h34 _ (by omega)).trans (hold _ _ H1.out (hne _ (by omega))), h24, ?_, ?_, ?_, ?_, H7.out.kt hu4, H8.out.kt hu4 |>.snoc (HU2.out.kt hu4)⟩, HK2.out.trans hu4, hp4, HV2.out.kt hu4⟩
      · refine owns_same H3.out fun k hk => ?_
        obtain ⟨hl1, hl2⟩ := H3.out.lt k hk
        rw [h34 k (by omega), hgrow3.block k (by omega) (Ne.symm (hgo k hk)), hba.block k hl2]
      · rw [List.length_append]
        exact owns_same hown3 fun k hk => h34 k (by simp [Value.ownBlock] at hk; omega)
      · intro k hk
        refine ⟨(H5.out k hk).1, ?_⟩
        have hl := (H3.out.lt k hk).2
        intro e
        simp [Value.ownBlock] at e
        subst e
        rcases hat3 with h | h
        · exact hgo g hk h
        · omega
      · intro k hk e
        simp [Value.ownBlock] at hk
        subst hk
        have hl := lt_of_heap HP2.out
        rcases hat3 with h | h
        · exact H6.out g h e
        · subst e; omega
    have HFIN := Lib.hid hfin
    clear hfin hown3 hgrow3 hat3 hlt3 hw2a hba hsa hob hg5 hold hne hk3 hb3 e2
    have hnn : (n == 0) = false := by simp [hn0]
    rcases kb with _ | _
    all_goals
      go_wp2_with fail
      go_ret
      exact ⟨by first | rfl | (simp; omega), _, _, HFIN.out.2.2.1, HFIN.out.2.2.2, HFIN.out.1, HFIN.out.2.1⟩
end Go.Proofs.YtlpehdhgdpeoeaaGreatDoor
