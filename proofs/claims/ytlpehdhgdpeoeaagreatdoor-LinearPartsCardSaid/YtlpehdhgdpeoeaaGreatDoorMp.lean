import Derived.Test.YtlpehdhgdpeoeaaGreatDoorMo
import Derived.Test.YtlpehdhgdpeoeaaGreatDoorLw
/- LinearSums' plain law. No program in sight. -/
namespace Go.Proofs.YtlpehdhgdpeoeaaGreatDoor
open Go.RowKit Go.Pen

theorem key_keep {D : Does} (h : ∀ (u : Upd) (n : Int), D { u with diff := n } = ({ (D u).1 with diff := n }, (D u).2)) : KeyFun (fun u => if ((D u).2.1 && (D u).2.2 == 0) = true then some (D u).1 else none) := fun u n => by
  show (if ((D { u with diff := n }).2.1 && (D { u with diff := n }).2.2 == 0) = true then some (D { u with diff := n }).1 else none) = Option.map _ (if ((D u).2.1 && (D u).2.2 == 0) = true then some (D u).1 else none)
  rw [h u n]
  by_cases hc : ((D u).2.1 && (D u).2.2 == 0) = true
  · rw [if_pos hc, if_pos hc]; rfl
  · rw [if_neg hc, if_neg hc]; rfl
theorem key_err {D : Does} (h : ∀ (u : Upd) (n : Int), D { u with diff := n } = ({ (D u).1 with diff := n }, (D u).2)) : KeyFun (fun u => if (D u).2.2 = 0 then none else some (errU (D u).1 (D u).2.2)) := fun u n => by
  show (if (D { u with diff := n }).2.2 = 0 then none else some (errU (D { u with diff := n }).1 (D { u with diff := n }).2.2)) = Option.map _ (if (D u).2.2 = 0 then none else some (errU (D u).1 (D u).2.2))
  rw [h u n]
  by_cases hc : (D u).2.2 = 0
  · rw [if_pos hc, if_pos hc]; rfl
  · rw [if_neg hc, if_neg hc]; rfl
theorem key_all {D : Upd → Upd × Bool} (h : ∀ (u : Upd) (n : Int), D { u with diff := n } = ({ (D u).1 with diff := n }, (D u).2)) : KeyFun (fun u => if (D u).2 = true then some (D u).1 else none) := fun u n => by
  show (if (D { u with diff := n }).2 = true then some (D { u with diff := n }).1 else none) = Option.map _ (if (D u).2 = true then some (D u).1 else none)
  rw [h u n]
  by_cases hc : (D u).2 = true
  · rw [if_pos hc, if_pos hc]; rfl
  · rw [if_neg hc, if_neg hc]; rfl
theorem mapD_key (es : List ET) (u : Upd) (n : Int) : mapD es { u with diff := n } = ({ (mapD es u).1 with diff := n }, (mapD es u).2) := by
  unfold mapD
  simp only
  split <;> rfl
/-- an update that may be, and what it holds fits -/
def Upd.good (u : Upd) : Prop := u.okR ∧ u.fits ∧ u.row.length ≤ 4815
theorem sumU_mem {l : List Upd} {x : Upd} (h : x ∈ sumU l) : ∃ y ∈ l, ∃ n, x = { y with diff := n } := by
  have h := (List.mem_filter.1 h).1
  have : ∀ (l a : List Upd) (x : Upd), x ∈ l.foldl addU a → ∃ y, (y ∈ l ∨ y ∈ a) ∧ ∃ n, x = { y with diff := n } := by
    intro l
    induction l with
    | nil => intro a x h; exact ⟨x, .inr h, x.diff, rfl⟩
    | cons u l ih =>
      intro a x h
      obtain ⟨y, hy, n, rfl⟩ := ih _ x h
      rcases hy with hy | hy
      · exact ⟨y, .inl (by simp [hy]), n, rfl⟩
      · rcases mem_add hy with rfl | hy | ⟨z, hz, m, rfl⟩
        · exact ⟨y, .inl (by simp), n, rfl⟩
        · exact ⟨y, .inr hy, n, rfl⟩
        · exact ⟨z, .inr hz, n, rfl⟩
  obtain ⟨y, hy, n, rfl⟩ := this l [] x h
  rcases hy with hy | hy
  · exact ⟨y, hy, n, rfl⟩
  · cases hy
theorem sumU_good {l : List Upd} (h : ∀ u ∈ l, u.good) : ∀ u ∈ sumU l, u.good := fun u hu => by
  have hf := sumU_fits (fun x hx => (h x hx).2.1) u hu
  obtain ⟨y, hy, n, rfl⟩ := sumU_mem hu
  exact ⟨(h y hy).1, hf, (h y hy).2.2⟩
theorem good_in {l : List Upd} (h : ∀ u ∈ l, u.good) : ∀ u ∈ l, u.okR ∧ InR u.diff := fun u hu => ⟨(h u hu).1, (h u hu).2.1.diff⟩
/-- what comes out of Map -/
theorem mapD_out {es : List ET} (hes : ∀ e ∈ es, e.fits) (hel : es.length ≤ 300) {u : Upd} (h : u.good) : (mapD es u).1.fits ∧ (mapD es u).1.okR ∧ (mapD es u).2.2 ≤ 65535 := by
  unfold mapD
  split
  · next h0 =>
    refine ⟨⟨fun d hd => ?_, h.2.1.ep, h.2.1.lo, h.2.1.diff, ?_, h.2.1.ll⟩, fun d hd => ?_, Nat.zero_le _⟩
    · rcases List.mem_append.1 hd with hd | hd
      · exact h.2.1.row d hd
      · obtain ⟨e, he, rfl⟩ := List.mem_map.1 hd
        exact eval_fits h.2.1.row (hes e he)
    · have h5 := h.2.2
      show (mapV u.row es).length ≤ 1073741824
      rw [mapV_len]
      omega
    · rcases List.mem_append.1 hd with hd | hd
      · exact h.1 d hd
      · obtain ⟨e, he, rfl⟩ := List.mem_map.1 hd
        exact eval_sane u.row h.1 e (mapE_zero h0 e he)
  · exact ⟨h.2.1, h.1, mapE_num h.2.1.row hes⟩
theorem errU_out {u : Upd} {n : Nat} (h : u.fits) (hn : n ≤ 65535) : (errU u n).fits ∧ (errU u n).okR := by
  refine ⟨{ h with row := fun d hd => ?_, lr := by simp [errU] }, fun d hd => ?_⟩
  · simp only [errU, List.mem_singleton] at hd
    subst hd
    exact num_fits hn
  · simp only [errU, List.mem_singleton] at hd
    subst hd
    exact num_okD _
theorem keep_in {D : Does} {l : List Upd} {x : Upd} (h : x ∈ keepF D l) : ∃ u ∈ l, x = (D u).1 := by
  obtain ⟨u, hu, he⟩ := List.mem_filterMap.1 h
  split at he
  · cases he; exact ⟨u, hu, rfl⟩
  · cases he
theorem err_in {D : Does} {l : List Upd} {x : Upd} (h : x ∈ errF D l) : ∃ u ∈ l, x = errU (D u).1 (D u).2.2 := by
  obtain ⟨u, hu, he⟩ := List.mem_filterMap.1 h
  split at he
  · cases he
  · cases he; exact ⟨u, hu, rfl⟩
theorem all_in {D : Upd → Upd × Bool} {l : List Upd} {x : Upd} (h : x ∈ allF D l) : ∃ u ∈ l, x = (D u).1 := by
  obtain ⟨u, hu, he⟩ := List.mem_filterMap.1 h
  split at he
  · cases he; exact ⟨u, hu, rfl⟩
  · cases he
theorem map_keep_fits {es : List ET} (hes : ∀ e ∈ es, e.fits) (hel : es.length ≤ 300) {l : List Upd} (h : ∀ u ∈ l, u.good) : ∀ x ∈ keepF (mapD es) l, x.fits := fun x hx => by
  obtain ⟨u, hu, rfl⟩ := keep_in hx
  exact (mapD_out hes hel (h u hu)).1
theorem map_err_fits {es : List ET} (hes : ∀ e ∈ es, e.fits) (hel : es.length ≤ 300) {l : List Upd} (h : ∀ u ∈ l, u.good) : ∀ x ∈ errF (mapD es) l, x.fits := fun x hx => by
  obtain ⟨u, hu, rfl⟩ := err_in hx
  have := mapD_out hes hel (h u hu)
  exact (errU_out this.1 this.2.2).1
theorem filt_keep_fits {es : List ET} {l : List Upd} (h : ∀ u ∈ l, u.good) : ∀ x ∈ keepF (filtD es) l, x.fits := fun x hx => by
  obtain ⟨u, hu, e⟩ := keep_in hx
  rw [e]
  exact (h u hu).2.1
theorem filt_err_fits {es : List ET} (hes : ∀ e ∈ es, e.fits) {l : List Upd} (h : ∀ u ∈ l, u.good) : ∀ x ∈ errF (filtD es) l, x.fits := fun x hx => by
  obtain ⟨u, hu, rfl⟩ := err_in hx
  exact (errU_out (h u hu).2.1 (filtR_num (h u hu).2.1.row hes)).1
theorem mapD_okR {es : List ET} {u : Upd} (h : u.okR) : (mapD es u).1.okR := by
  unfold mapD
  split
  · next h0 =>
    intro d hd
    rcases List.mem_append.1 hd with hd | hd
    · exact h d hd
    · obtain ⟨e, he, rfl⟩ := List.mem_map.1 hd
      exact eval_sane u.row h e (mapE_zero h0 e he)
  · exact h
theorem errU_okR (u : Upd) (n : Nat) : (errU u n).okR := fun d hd => by
  simp only [errU, List.mem_singleton] at hd
  subst hd
  exact num_okD _
theorem sums_keep {D : Does} (hD : ∀ (u : Upd) (n : Int), D { u with diff := n } = ({ (D u).1 with diff := n }, (D u).2)) (ho : ∀ u : Upd, u.okR → (D u).1.okR) {l : List Upd} (h : ∀ u ∈ l, u.good) :
    sumU (keepF D l) = sumU (keepF D (sumU l)) ∧ sumU (errF D l) = sumU (errF D (sumU l)) := by
  refine ⟨sum_through (key_keep hD) (good_in h) fun u x hu he => ?_, sum_through (key_err hD) (good_in h) fun u x hu he => ?_⟩
  · split at he
    · cases he; exact ho u hu
    · cases he
  · split at he
    · cases he
    · cases he; exact errU_okR _ _
theorem sums_all {D : Upd → Upd × Bool} (hD : ∀ (u : Upd) (n : Int), D { u with diff := n } = ({ (D u).1 with diff := n }, (D u).2)) (ho : ∀ u : Upd, u.okR → (D u).1.okR) {l : List Upd} (h : ∀ u ∈ l, u.good) :
    sumU (allF D l) = sumU (allF D (sumU l)) := by
  refine sum_through (key_all hD) (good_in h) fun u x hu he => ?_
  split at he
  · cases he; exact ho u hu
  · cases he
theorem projD_cases (r : List Dat) (c : Int) : projD r c ∈ r ∨ projD r c = nul := by
  unfold projD
  split
  · next h =>
    left
    obtain ⟨x, hx⟩ : ∃ x, r[c.toNat]? = some x := ⟨r[c.toNat]'(by omega), List.getElem?_eq_getElem _⟩
    rw [List.getD_eq_getElem?_getD, hx]
    exact List.mem_of_getElem? hx
  · exact .inr rfl
theorem proj_okR {cs : List Int} {u : Upd} (h : u.okR) : (projR cs u).1.okR := fun d hd => by
  obtain ⟨c, -, rfl⟩ := List.mem_map.1 hd
  rcases projD_cases u.row c with h1 | h1
  · exact h _ h1
  · rw [h1]; rfl
theorem nul_fits : nul.fits := nul_ok.1
theorem proj_fits {cs : List Int} (hc : cs.length ≤ 300) {l : List Upd} (h : ∀ u ∈ l, u.good) : ∀ x ∈ allF (projR cs) l, x.fits := fun x hx => by
  obtain ⟨u, hu, rfl⟩ := all_in hx
  have hf := (h u hu).2.1
  refine { hf with row := fun d hd => ?_, lr := ?_ }
  · obtain ⟨c, -, rfl⟩ := List.mem_map.1 hd
    rcases projD_cases u.row c with h1 | h1
    · exact hf.row _ h1
    · rw [h1]; exact nul_fits
  · show (cs.map (projD u.row)).length ≤ 1073741824
    rw [List.length_map]
    omega
theorem applyT_fits {leave add ep : Int} {en ls : List Int} (had : U32 add) (hen : ∀ x ∈ en, U32 x) (hep : 0 ≤ ep ∧ ep ≤ 18446744073709551615) (hls : ∀ x ∈ ls, U32 x) (hl : en.length ≤ 40) :
    (0 ≤ (applyT leave add en ep ls).1.1 ∧ (applyT leave add en ep ls).1.1 ≤ 18446744073709551615) ∧ (∀ x ∈ (applyT leave add en ep ls).1.2, U32 x) ∧ (applyT leave add en ep ls).1.2.length ≤ 1073741824 := by
  obtain ⟨a0, a1⟩ := had
  have hz : ((0 : Int) ≤ 0 ∧ (0 : Int) ≤ 18446744073709551615) ∧ (∀ x ∈ ([] : List Int), U32 x) ∧ ([] : List Int).length ≤ 1073741824 := ⟨by omega, by simp, by simp⟩
  unfold applyT
  split
  · exact hz
  · split
    · split
      · exact hz
      · split
        · exact hz
        · exact ⟨⟨by show 0 ≤ ep + add; omega, by show ep + add ≤ _; omega⟩, hen, by show en.length ≤ _; omega⟩
    · next hk =>
      split
      · exact hz
      · next hx =>
        split
        · exact hz
        · next h3 =>
          refine ⟨hep, fun x hx2 => ?_, ?_⟩
          · simp only [List.append_assoc, List.mem_append, List.mem_singleton] at hx2
            rcases hx2 with hx2 | rfl | hx2
            · exact hls x (List.mem_of_mem_take hx2)
            · have hlt : ls.length - leave.toNat - 1 < ls.length := by omega
              have hm : ls.getD (ls.length - leave.toNat - 1) 0 ∈ ls := by rw [List.getD_eq_getElem?_getD, List.getElem?_eq_getElem hlt]; exact List.getElem_mem _
              obtain ⟨b0, b1⟩ := hls _ hm
              exact ⟨by omega, by omega⟩
            · exact hen x hx2
          · simp only [List.length_append, List.length_take, List.length_singleton]
            omega
theorem move_fits {leave add : Int} {en : List Int} (had : U32 add) (hen : ∀ x ∈ en, U32 x) (hl : en.length ≤ 40) {l : List Upd} (h : ∀ u ∈ l, u.good) : ∀ x ∈ allF (moveR leave add en) l, x.fits := fun x hx => by
  obtain ⟨u, hu, rfl⟩ := all_in hx
  have hf := (h u hu).2.1
  have := applyT_fits (leave := leave) had hen hf.ep hf.lo hl
  exact { hf with ep := this.1, lo := this.2.1, ll := this.2.2 }
theorem neg_fits {l : List Upd} (h : ∀ u ∈ l, u.fits) : ∀ x ∈ allF negR l, x.fits := fun x hx => by
  obtain ⟨u, hu, rfl⟩ := all_in hx
  exact { h u hu with diff := wrap_in _ }
theorem neg_neg {l : List Upd} (h : ∀ u ∈ l, u.fits) : allF negR (allF negR l) = l := by
  have h1 : ∀ m : List Upd, allF negR m = m.map fun u => (negR u).1 := fun m => by
    unfold allF
    rw [show (fun u : Upd => if (negR u).2 = true then some (negR u).1 else none) = fun u => some (negR u).1 from funext fun u => if_pos rfl, List.filterMap_eq_map']
  rw [h1, h1, List.map_map]
  conv => rhs; rw [← List.map_id l]
  refine List.map_congr_left fun u hu => ?_
  obtain ⟨d1, d2⟩ := (h u hu).diff
  have : wrap64 (-wrap64 (-u.diff)) = u.diff := by unfold wrap64; omega
  show ({ u with diff := wrap64 (-wrap64 (-u.diff)) } : Upd) = u
  rw [this]
end Go.Proofs.YtlpehdhgdpeoeaaGreatDoor
