import Derived.Test.YtolikaginhjbhaaGreatDoorWb
import Derived.Test.YtolikaginhjbhaaGreatDoorUi
import Derived.Test.YtolikaginhjbhaaGreatDoorFd
import Derived.Test.YtolikaginhjbhaaGreatDoorGc
import Derived.Deep.AppendLies
/- What need not be looked at is not: the plain law of ExprLazy; steps of its walk. -/
namespace Go.Proofs.YtolikaginhjbhaaGreatDoor
open Go.RowKit Go.Pen Go.Shelf
attribute [local go_sem] Oper.semAt_some

def litE (d : Dat) : ET := .mk 2 0 d []
def opE (o : Int) (ks : List ET) : ET := .mk o 0 Dat.zero ks
theorem okD_boo (b : Bool) : okD (boo b) = true := by cases b <;> rfl
theorem okD_nm (n : Int) : okD (num n) = true := by simp [okD, okD_num]
theorem good_lit {d : Dat} (h : okD d = true) : (litE d).good okD 2 = true := by
  simp [litE, ET.good, ET.goods, ET.own, kidsOk, ET.op, ET.col, ET.lit, ET.kids, h]
theorem own_op {o : Int} {ks : List ET} (hk : kidsOk o ks.length = true) (h1 : o ≠ 1) (h2 : o ≠ 2) (h3 : o ≠ 23) : (opE o ks).own okD = true := by
  simp [opE, ET.own, ET.op, ET.col, ET.lit, ET.kids, hk, h1, h2, h3]
theorem may_op {o : Int} {ks : List ET} (hk : kidsOk o ks.length = true) (h1 : o ≠ 1) (h2 : o ≠ 2) (h3 : o ≠ 23) (hg : ∀ k ∈ ks, k.good okD 2 = true) (hs : 1 + ET.sizes ks ≤ 4000) : (opE o ks).may okD = true := by
  have ho := own_op hk h1 h2 h3
  simp only [ET.may, Bool.and_eq_true, decide_eq_true_eq]
  refine ⟨?_, hs⟩
  simp only [opE, ET.good, Bool.and_eq_true, decide_eq_true_eq, ET.goods_iff]
  exact ⟨⟨ho, by decide⟩, hg⟩
theorem within_op {o n : Int} {ks : List ET} (h1 : o ≠ 1) (hw : ∀ k ∈ ks, k.within n = true) : (opE o ks).within n = true := by
  simp only [opE, ET.within, Bool.and_eq_true, ET.withins_iff, Bool.not_eq_true', Bool.and_eq_false_iff, decide_eq_false_iff_not]
  exact ⟨.inl h1, hw⟩
theorem within_lit {d : Dat} {n : Int} : (litE d).within n = true := by simp [litE, ET.within, ET.withins]
theorem val_lit (r : List Dat) (d : Dat) : (litE d).val r = (d, 0) := by simp [litE, ET.val]
theorem truth_boo (b : Bool) : truth (boo b, 0) = (0, b, false) := by cases b <;> rfl
theorem evalR_op {r : List Dat} {o : Int} {ks : List ET} {v : Dat} (hm : (opE o ks).may okD = true) (hw : (opE o ks).within r.length = true) (hv : (opE o ks).val r = (v, 0)) : evalR r (opE o ks) = (v, 0) := by
  unfold evalR
  rw [if_pos ⟨hm, hw⟩, hv, if_pos rfl]

/-- the law: five operators that need not look at what they hold -/
theorem lazy_law {r : List Dat} {e : ET} {n : Int} (hw : e.within r.length = true) (hroom : (opE 21 [litE (boo false), e, litE (num n)]).may okD = true) :
    evalR r (opE 18 [litE (boo false), e]) = (boo false, 0) ∧ evalR r (opE 19 [litE (boo true), e]) = (boo true, 0) ∧ evalR r (opE 21 [litE (boo true), litE (num n), e]) = (num n, 0) ∧
      evalR r (opE 22 [litE (num n), e]) = (num n, 0) ∧ evalR r (opE 21 [litE (boo false), e, litE (num n)]) = (num n, 0) := by
  have hg : e.good okD 2 = true := by
    simp only [ET.may, opE, ET.good, Bool.and_eq_true, ET.goods_iff] at hroom
    exact hroom.1.2 e (by simp)
  have hs : e.size ≤ 3997 := by
    simp only [ET.may, opE, Bool.and_eq_true, decide_eq_true_eq, ET.size, ET.sizes, litE] at hroom
    omega
  have gl : ∀ b, (litE (boo b)).good okD 2 = true := fun b => good_lit (okD_boo b)
  have gn : (litE (num n)).good okD 2 = true := good_lit (okD_nm n)
  have hl : ∀ d, (litE d).size = 1 := fun d => by simp [litE, ET.size, ET.sizes]
  refine ⟨evalR_op (may_op (by simp [kidsOk]) (by decide) (by decide) (by decide) ?_ ?_) (within_op (by decide) ?_) ?_, evalR_op (may_op (by simp [kidsOk]) (by decide) (by decide) (by decide) ?_ ?_) (within_op (by decide) ?_) ?_,
    evalR_op (may_op (by simp [kidsOk]) (by decide) (by decide) (by decide) ?_ ?_) (within_op (by decide) ?_) ?_, evalR_op (may_op (by simp [kidsOk]) (by decide) (by decide) (by decide) ?_ ?_) (within_op (by decide) ?_) ?_,
    evalR_op hroom (within_op (by decide) ?_) ?_⟩
  all_goals first
    | (intro k hk; simp at hk; rcases hk with rfl | rfl | rfl <;> first | exact gl _ | exact gn | exact hg | exact within_lit | exact hw)
    | (intro k hk; simp at hk; rcases hk with rfl | rfl <;> first | exact gl _ | exact gn | exact hg | exact within_lit | exact hw)
    | (simp only [ET.sizes, hl]; omega)
    | skip
  · simp [opE, ET.val, ET.vals, val_lit, logic, truth_boo]
  · simp [opE, ET.val, ET.vals, val_lit, logic, truth_boo]
  · simp [opE, ET.val, ET.vals, val_lit, choice, truth_boo]
  · simp [opE, ET.val, ET.vals, val_lit, coal, num]
  · simp [opE, ET.val, ET.vals, val_lit, choice, truth_boo]

/-- no column is beyond a row: told by the greatest one -/
theorem within_cols {e : ET} {ks : List Int} {n : Int} (hm : e.may okD = true) (hk : Ups (colsOf (e.pre 1)) ks) (hl : ∀ c ∈ ks, c < n) : e.within n = true := by
  have hg := ET.may_good hm
  refine (ET.within_of_pre n okD e 1 hg).1 fun x hx h => ?_
  have h60 := ((ET.good_iff okD e 1).1 hg x hx).1
  have : x.2.col ∈ colsOf (e.pre 1) := List.mem_map.2 ⟨x, List.mem_filter.2 ⟨hx, by simp [h.1, h60]⟩, rfl⟩
  have := hl _ ((hk.mem _).2 this)
  omega
theorem ups_last {l ks : List Int} (h : Ups l ks) {c : Int} (hl : ks.getLast? = some c) : ∀ x ∈ ks, x ≤ c := by
  intro x hx
  obtain ⟨ys, rfl⟩ : ∃ ys, ks = ys ++ [c] := by
    rw [List.getLast?_eq_some_iff] at hl
    exact hl
  rcases List.mem_append.1 hx with hx | hx
  · have := (List.pairwise_append.1 h.up).2.2 x hx c (by simp)
    omega
  · simp at hx; omega
end Go.Proofs.YtolikaginhjbhaaGreatDoor
