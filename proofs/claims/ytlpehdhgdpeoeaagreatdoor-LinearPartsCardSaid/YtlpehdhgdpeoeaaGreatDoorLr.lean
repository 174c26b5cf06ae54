import Derived.Test.YtlpehdhgdpeoeaaGreatDoorLo
import Derived.Laws.AppendOwnNone
/- linear.Filter. -/
namespace Go.Proofs.YtlpehdhgdpeoeaaGreatDoor
open Go.RowKit Go.Pen Go.Shelf
attribute [local go_sem] Oper.semAt_some

/-- what Filter does to an update -/
def filtD (es : List ET) : Does := fun u => (u, filtR u.row es)

set_option maxRecDepth 100000 in
set_option maxHeartbeats 1000000 in
theorem filter_9 (us : List Upd) (es : List ET) (a : Option Addr) (uc : Nat) (ev : Value) (w : World) (hus : UpsAt w (.slice a us.length uc) us) (hn : us.length ≤ 300) (fus : ∀ u ∈ us, u.fits) (hes : ExprsAt w ev es) (fes : ∀ e ∈ es, e.fits) (hel : es.length ≤ 140737488355328)
    (hT : Lib.Utf8Tabs 1 2 w) (hE : ErrTy w) (h3 : 3 ≤ w.heap.size) (hnum : ∀ u ∈ us, (filtR u.row es).2 ≤ 65535) :
    Calls Tryz.prog 9 #[.slice a us.length uc, ev] w fun e w' => ∃ ov ew, e = .returned (.tuple #[ov, ew]) ∧ UpsAt w' ov (keepF (filtD es) us) ∧ UpsAt w' ew (errF (filtD es) us) ∧ Below w.heap.size w w' := by
  obtain ⟨ea, ec, eev, -, -⟩ := ExprsAt.iff.1 hes
  subst eev
  obtain ⟨w1, hw1⟩ : ∃ w1, w1 = w.alloc (.cells #[.slice ea es.length ec] 23) := ⟨_, rfl⟩
  have hb1 : Below w.heap.size w w1 := by rw [hw1]; exact one_below _ _
  have hs1 : w1.heap.size = w.heap.size + 1 := by rw [hw1]; simp
  have hy1 : w1.heap[w.heap.size]? = some (.cells #[.slice ea es.length ec] 23 (0, 0)) := by rw [hw1]; exact heap_alloc_new _ _
  have hk := kept_23 (filtD es) us a uc w1 w1.heap.size w.heap.size rfl (hus.below hb1) hn fus (fun u p rv lv outs errs W hu he hps hJ hp hut => by
    have hbw : Below w1.heap.size w1 W := hJ.1.below
    have hbb : Below w.heap.size w W := hb1.trans (hbw.mono (by omega))
    obtain ⟨ra, rc, erv, -, -⟩ := id hut.row
    subst erv
    refine kept1_44 w1 w1.heap.size w.heap.size _ _ outs errs p u (filtR u.row es).1 (filtR u.row es).2 W hJ hps (by omega) (hnum u hu) ?_
    refine (filt_24 u.row es p w.heap.size ra rc u.epoch lv u.diff _ W hp hut.rowAt (fus u hu).row ((hbw.block _ (by omega)).trans hy1) (hes.below hbb) fes hel (tabs_below hT hbb h3) (cell_keep hbb hE) (Nat.le_trans h3 hbb.size)).mono ?_
    rintro e W' ⟨rfl, hb⟩
    exact ⟨_, lv, rfl, keepB hp hb, hut.kt (Kt.of_below hb), But.of_below hb, Kt.of_below hb⟩)
  rw [hw1] at hk
  have HK := Lib.hid hk
  clear hk hw1 hb1 hs1 hy1
  go_enter Tryz.func9, Tryz.ntmps9
  go_wp2_with (go_at_call 23; refine HK.out.mono ?_; rintro e w5 ⟨ov, ew, rfl, ho, hew, hb5⟩)
  go_ret2
  exact ⟨ov, ew, rfl, ho, hew, (one_below _ _).trans (hb5.mono (by simp))⟩
end Go.Proofs.YtlpehdhgdpeoeaaGreatDoor
/- LinearFilters, the plain law. -/
namespace Go.Proofs.YtlpehdhgdpeoeaaGreatDoor

theorem filtR_app (r : List Dat) (a b : List ET) : filtR r (a ++ b) = if (filtR r a).1 = true then filtR r b else filtR r a := by
  induction a with
  | nil => simp [filtR]
  | cons e a ih =>
    simp only [List.cons_append, filtR]
    split
    · simp
    · split
      · simp
      · split
        · simp
        · exact ih
theorem filtR_true (r : List Dat) (a : List ET) : (filtR r a).1 = true → (filtR r a).2 = 0 := by
  induction a with
  | nil => intro _; rfl
  | cons e a ih =>
    simp only [filtR]
    split
    · intro h; cases h
    · split
      · intro h; cases h
      · split
        · intro h; cases h
        · exact ih
theorem keepF_cons {D : Does} {l : List Upd} {u : Upd} : keepF D (u :: l) = (if ((D u).2.1 && (D u).2.2 == 0) = true then [(D u).1] else []) ++ keepF D l := by
  unfold keepF
  rw [List.filterMap_cons]
  split
  · next h => split at h <;> simp_all
  · next h => split at h <;> simp_all
theorem errF_cons {D : Does} {l : List Upd} {u : Upd} : errF D (u :: l) = (if (D u).2.2 = 0 then [] else [errU (D u).1 (D u).2.2]) ++ errF D l := by
  unfold errF
  rw [List.filterMap_cons]
  split
  · next h => split at h <;> simp_all
  · next h => split at h <;> simp_all
/-- one behind the other: what is kept -/
theorem keep_two (a b : List ET) : ∀ l : List Upd, keepF (filtD (a ++ b)) l = keepF (filtD b) (keepF (filtD a) l)
  | [] => rfl
  | u :: l => by
    rw [keepF_cons, keepF_cons, keep_two a b l]
    simp only [filtD, filtR_app]
    by_cases h : (filtR u.row a).1 = true
    · have h0 := filtR_true _ _ h
      simp only [h, h0, if_true, Bool.true_and, beq_self_eq_true, List.singleton_append, keepF_cons]
      rfl
    · simp [h]
/-- .. and the errors -/
theorem err_two (a b : List ET) : ∀ l : List Upd, (errF (filtD (a ++ b)) l).Perm (errF (filtD a) l ++ errF (filtD b) (keepF (filtD a) l))
  | [] => .refl _
  | u :: l => by
    rw [errF_cons, errF_cons, keepF_cons]
    have ih := err_two a b l
    simp only [filtD, filtR_app]
    by_cases h : (filtR u.row a).1 = true
    · have h0 := filtR_true _ _ h
      simp only [h, h0, if_true, Bool.true_and, beq_self_eq_true, List.singleton_append, errF_cons, List.nil_append]
      refine (List.Perm.append_left _ ih).trans ?_
      rw [← List.append_assoc, ← List.append_assoc]
      exact List.Perm.append_right _ List.perm_append_comm
    · simp only [h, Bool.false_eq_true, if_false, Bool.false_and, List.nil_append, List.append_assoc]
      exact List.Perm.append_left _ ih
end Go.Proofs.YtlpehdhgdpeoeaaGreatDoor
/- What comes out of Filter fits. -/
namespace Go.Proofs.YtlpehdhgdpeoeaaGreatDoor

theorem evalR_num {r : List Dat} (hr : ∀ d ∈ r, d.fits) {e : ET} (he : e.fits) : (evalR r e).2 ≤ 65535 := by
  unfold evalR
  split
  · next h =>
    have hg : e.good okD 1 = true := by
      have := h.1
      simp only [ET.may, Bool.and_eq_true] at this
      exact this.1
    have hv := (val_ok r hr e 1 he hg).2
    split
    · exact hv
    · exact hv
  · show (30 : Nat) ≤ 65535; decide
theorem filtR_num {r : List Dat} (hr : ∀ d ∈ r, d.fits) : ∀ {es : List ET}, (∀ e ∈ es, e.fits) → (filtR r es).2 ≤ 65535
  | [], _ => by simp [filtR]
  | e :: es, h => by
    simp only [filtR]
    split
    · exact evalR_num hr (h e (by simp))
    · split
      · show (31 : Nat) ≤ 65535; decide
      · split
        · show (0 : Nat) ≤ 65535; decide
        · exact filtR_num hr (fun x hx => h x (by simp [hx]))
theorem keepF_mem {es : List ET} {l : List Upd} {u : Upd} (h : u ∈ keepF (filtD es) l) : u ∈ l := by
  obtain ⟨x, hx, he⟩ := List.mem_filterMap.1 h
  split at he
  · cases he; exact hx
  · cases he
theorem num_fits {n : Nat} (h : n ≤ 65535) : (num n).fits := (num_ok (n := n) ⟨by omega, by omega⟩).1
theorem num_okD (n : Int) : okD (num n) = true := by
  unfold okD
  have hv : Lib.validD [] = true := by decide
  have hz : (⟨#[]⟩ : ByteArray).size = 0 := rfl
  simp [chkD, num, hv, hz]
theorem errF_mem {es : List ET} {l : List Upd} {x : Upd} (hl : ∀ u ∈ l, u.fits) (hes : ∀ e ∈ es, e.fits) (h : x ∈ errF (filtD es) l) : x.fits ∧ x.okR := by
  obtain ⟨u, hu, he⟩ := List.mem_filterMap.1 h
  split at he
  · cases he
  · cases he
    have hf := hl u hu
    have hn := filtR_num hf.row hes
    refine ⟨{ hf with row := fun d hd => ?_, lr := by simp [errU] }, fun d hd => ?_⟩
    · simp only [errU, filtD, List.mem_singleton] at hd
      subst hd
      exact num_fits hn
    · simp only [errU, List.mem_singleton] at hd
      subst hd
      exact num_okD _
/-- the errors of conditions in one filter and in two come, put together, to the same -/
theorem err_sum (a b : List ET) (l : List Upd) (hl : ∀ u ∈ l, u.fits) (ha : ∀ e ∈ a, e.fits) (hb : ∀ e ∈ b, e.fits) : sumU (errF (filtD (a ++ b)) l) = sumU (errF (filtD a) l ++ errF (filtD b) (keepF (filtD a) l)) :=
  sumU_perm (fun u hu => by
    have := errF_mem hl (fun e he => (List.mem_append.1 he).elim (ha e) (hb e)) hu
    exact ⟨this.2, this.1.diff⟩) (err_two a b l)
end Go.Proofs.YtlpehdhgdpeoeaaGreatDoor
/- append of any slice, nil or not. -/
namespace Go.Proofs.YtlpehdhgdpeoeaaGreatDoor
open Go.RowKit Go.Pen Go.Shelf

theorem wpList_append_any {P : Program} (w : World) {ops : Array Oper} {rest : List Oper} {o : Oper} {a : Act} {Q : Exit → Act → World → Prop} (hgd : o.guard = none) (s x : Operand) (t : TypeId)
    (ho : o.op = .call { callee := .builtin .append, args := #[s, x], argTypes := #[t, t] })
    (base : Nat) (e : TypeId) (i : TypeInfo) (z : Value) (size bytes : Nat) (ht : P.underlying t = some (.slice e)) (hi : P.info? e = some i) (hz : i.zero = some z)
    (hsize : i.size = size) (hby : i.bytes = bytes) (hzs : z.cells.size = size) (hsz : 0 < size)
    (v : Value) (n : Nat) (xs : List Value) (hs : a.eval s = v) (hown : w.ownsRow base e size v n xs)
    (ox : Option Addr) (m c : Nat) (news : List Value) (hx : a.eval x = .slice ox m c) (hnil : ox = none → m = 0 ∧ c = 0) (hl : news.length = m * size) (hnews : ∀ ad, ox = some ad → ∀ j u, news[j]? = some u → w.cell? (ad.add j) = some u) (h1 : ∀ u ∈ news, u.oneCell' = true)
    (h63 : n + m ≤ maxLen) (hbytes : (n + m) * bytes ≤ 140737488355328) (hbase : base ≤ w.heap.size)
    (h : ∀ v' w', w'.ownsRow base e size v' (n + m) (xs ++ news) → w.grownBy w' v.ownBlock → wpList P ops Q rest (a.put o.dst v') w') : wpList P ops Q (o :: rest) a w := by
  rcases ox with _ | ad
  · obtain ⟨rfl, rfl⟩ := hnil rfl
    have hn : news = [] := List.length_eq_zero_iff.1 (by rw [hl]; omega)
    subst hn
    refine wpList_append_own_none hgd s x t ho base e i size ht hi v n xs hs hown hx (h v w ?_ ⟨rfl, rfl, rfl, Nat.le_refl _, fun _ _ _ => rfl⟩)
    simpa using hown
  · exact wpList_append_own w hgd s x t ho base e i z size bytes ht hi hz hsize hby hzs hsz v n xs hs hown ad m c news hx hl (hnews ad rfl) h1 h63 hbytes hbase fun v' w' k1 k2 _ => h v' w' k1 k2
end Go.Proofs.YtlpehdhgdpeoeaaGreatDoor
/- Lists of expressions as values. -/
namespace Go.Proofs.YtlpehdhgdpeoeaaGreatDoor
open Go.RowKit Go.Pen Go.Shelf

/-- values that hold expressions, seven each -/
structure EEls (w : World) (xs : List Value) (es : List ET) : Prop where
  len : xs.length = es.length * 7
  el : ∀ i e, es[i]? = some e → ∃ kv, (∀ j, j < 7 → xs[i * 7 + j]? = (e.cells kv)[j]?) ∧ e.At w kv
theorem EEls.nil {w : World} : EEls w [] [] := ⟨rfl, fun i e h => by simp at h⟩
theorem EEls.below {w w' : World} {xs : List Value} {es : List ET} (h : EEls w xs es) (hb : Below w.heap.size w w') : EEls w' xs es := ⟨h.len, fun i e he => by
  obtain ⟨kv, h1, h2⟩ := h.el i e he
  exact ⟨kv, h1, ET.On.below h2 hb⟩⟩
theorem EEls.append {w : World} {xs ys : List Value} {es fs : List ET} (h : EEls w xs es) (k : EEls w ys fs) : EEls w (xs ++ ys) (es ++ fs) := ⟨by rw [List.length_append, List.length_append, h.len, k.len]; omega, fun i e he => by
  have hl := h.len
  by_cases hi : i < es.length
  · rw [List.getElem?_append_left hi] at he
    obtain ⟨kv, h1, h2⟩ := h.el i e he
    exact ⟨kv, fun j hj => by rw [List.getElem?_append_left (by omega)]; exact h1 j hj, h2⟩
  · rw [List.getElem?_append_right (by omega)] at he
    obtain ⟨kv, h1, h2⟩ := k.el _ e he
    exact ⟨kv, fun j hj => by rw [List.getElem?_append_right (by omega), ← h1 j hj]; congr 1; omega, h2⟩⟩
theorem EEls.ones {w : World} {xs : List Value} {es : List ET} (h : EEls w xs es) : ∀ v ∈ xs, v.oneCell' = true := by
  intro v hv
  obtain ⟨j, hj⟩ := List.getElem?_of_mem hv
  have hl := (List.getElem?_eq_some_iff.1 hj).1
  have hn := h.len
  have hi : j / 7 < es.length := by omega
  obtain ⟨kv, h1, h2⟩ := h.el (j / 7) es[j / 7] (List.getElem?_eq_getElem hi)
  obtain ⟨a, c, rfl⟩ := h2.slice
  have h3 := h1 (j % 7) (by omega)
  rw [show j / 7 * 7 + j % 7 = j by omega, hj] at h3
  have hm := List.mem_of_getElem? h3.symm
  simp only [ET.cells, List.mem_cons, List.not_mem_nil, or_false] at hm
  rcases hm with rfl | rfl | rfl | rfl | rfl | rfl | rfl <;> rfl
theorem ExprsAt.els {w : World} {v : Value} {es : List ET} (h : ExprsAt w v es) : ∃ a c xs, v = .slice a es.length c ∧ EEls w xs es ∧ (∀ ad, a = some ad → ∀ j x, xs[j]? = some x → w.cell? (ad.add j) = some x) ∧ (a = none → c = 0 ∧ es = []) := by
  obtain ⟨a, c, rfl, hz, h⟩ := ExprsAt.iff.1 h
  by_cases hne : es = []
  · subst hne
    exact ⟨a, c, [], rfl, EEls.nil, fun ad _ j x hx => by simp at hx, fun e => ⟨hz e, rfl⟩⟩
  · obtain ⟨b, o, rfl, -, g⟩ := h hne
    have hkid : ∀ i e, es[i]? = some e → ∃ kv, (∀ j, j < 7 → w.cell? ⟨b, o + (i * 7 + j), none⟩ = (e.cells kv)[j]?) ∧ e.At w kv := fun i e he => by
      obtain ⟨kv, hk, hat⟩ := g.get he
      refine ⟨kv, fun j hj => ?_, hat⟩
      obtain ⟨k0, k1, k2, k3, k4, k5, k6⟩ := hk
      have : j = 0 ∨ j = 1 ∨ j = 2 ∨ j = 3 ∨ j = 4 ∨ j = 5 ∨ j = 6 := by omega
      rcases this with rfl | rfl | rfl | rfl | rfl | rfl | rfl
      · exact k0
      · rw [← Nat.add_assoc]; exact k1
      · rw [← Nat.add_assoc]; exact k2
      · rw [← Nat.add_assoc]; exact k3
      · rw [← Nat.add_assoc]; exact k4
      · rw [← Nat.add_assoc]; exact k5
      · rw [← Nat.add_assoc]; exact k6
    have hcell : ∀ j, j < es.length * 7 → ∃ x, w.cell? ⟨b, o + j, none⟩ = some x := fun j hj => by
      have hi : j / 7 < es.length := by omega
      obtain ⟨kv, h1, -⟩ := hkid (j / 7) es[j / 7] (List.getElem?_eq_getElem hi)
      have h3 := h1 (j % 7) (by omega)
      rw [show j / 7 * 7 + j % 7 = j by omega] at h3
      rw [h3]
      exact ⟨_, List.getElem?_eq_getElem (by simp [ET.cells]; omega)⟩
    refine ⟨some ⟨b, o, none⟩, c, (List.range (es.length * 7)).map fun j => (w.cell? ⟨b, o + j, none⟩).getD undef, rfl, ⟨by simp, fun i e he => ?_⟩, fun ad had j x hx => ?_, fun e => by cases e⟩
    · have hi := (List.getElem?_eq_some_iff.1 he).1
      obtain ⟨kv, h1, h2⟩ := hkid i e he
      refine ⟨kv, fun j hj => ?_, h2⟩
      rw [List.getElem?_map, List.getElem?_range (by omega), Option.map_some]
      obtain ⟨x, hx⟩ := hcell (i * 7 + j) (by omega)
      rw [← h1 j hj, hx]; rfl
    · cases had
      rw [List.getElem?_map] at hx
      have hj : j < es.length * 7 := by
        rcases Nat.lt_or_ge j (es.length * 7) with h | h
        · exact h
        · rw [List.getElem?_eq_none (by simpa using h)] at hx; cases hx
      rw [List.getElem?_range hj, Option.map_some] at hx
      cases hx
      obtain ⟨x, hx⟩ := hcell j hj
      rw [add_lit, hx]; rfl
theorem EEls.at {w : World} {base n : Nat} {v : Value} {xs : List Value} {es : List ET} (h : EEls w xs es) (ho : w.ownsRow base 57 7 v n xs) : n = es.length ∧ ExprsAt w v es := by
  have hl := h.len
  have hn := ho.1
  obtain rfl : n = es.length := by omega
  obtain ⟨a, c, rfl⟩ := ownsRow_slice ho
  refine ⟨rfl, ExprsAt.iff.2 ⟨a, c, rfl, owns_nil ho, fun hne => ?_⟩⟩
  obtain ⟨g, cap, hv, _, _⟩ := ho.form (List.length_pos_iff.2 hne)
  simp only [Value.slice.injEq] at hv
  obtain ⟨rfl, _, rfl⟩ := hv
  have hc := (ownsRow_heap ho).2.2.2
  refine ⟨g, 0, rfl, trivial, ET.Ons.mk fun i k hk => ?_⟩
  obtain ⟨kv, h1, h2⟩ := h.el i k hk
  have hq : ∀ j, j < 7 → ∀ x, (k.cells kv)[j]? = some x → w.cell? ⟨g, 0 + i * 7 + j, none⟩ = some x := fun j hj x hx => by
    rw [Nat.zero_add]; exact hc _ _ ((h1 j hj).trans hx)
  exact ⟨kv, ⟨hq 0 (by decide) _ rfl, hq 1 (by decide) _ rfl, hq 2 (by decide) _ rfl, hq 3 (by decide) _ rfl, hq 4 (by decide) _ rfl, hq 5 (by decide) _ rfl, hq 6 (by decide) _ rfl⟩, h2⟩
end Go.Proofs.YtlpehdhgdpeoeaaGreatDoor
