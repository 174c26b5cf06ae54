import Derived.Test.YtlpehdhgdpeoeaaGreatDoorUd
import Derived.Test.YtlpehdhgdpeoeaaGreatDoorUm
import Derived.Test.YtlpehdhgdpeoeaaGreatDoorUf
import Derived.Test.YtlpehdhgdpeoeaaGreatDoorFc
/- Eval at any expression. -/
namespace Go.Proofs.YtlpehdhgdpeoeaaGreatDoor
open Go.RowKit Go.Pen Go.Shelf

theorem own_kids {o c : Int} {d : Dat} {ks : List ET} (h : ET.own okD (.mk o c d ks) = true) : kidsOk o ks.length = true := by
  simp only [ET.own, ET.op, ET.kids, Bool.and_eq_true] at h
  exact h.1.1

theorem len_two {ks : List ET} (h : ks.length = 2) : ∃ k1 k2, ks = [k1, k2] := by
  rcases ks with _ | ⟨a, _ | ⟨b, _ | ⟨c, t⟩⟩⟩
  · simp at h
  · simp at h
  · exact ⟨a, b, rfl⟩
  · simp at h

/-- Eval of any expression that may be -/
theorem eval_all (r : List Dat) (ra : Option Addr) (rc : Nat) (hrf : ∀ d ∈ r, d.fits) : ∀ (e : ET) (deep : Nat) (w : World), e.fits → e.good okD deep = true → e.within r.length = true → DatsOn (fun _ => True) w r (.slice ra r.length rc) → Lib.Utf8Tabs 1 2 w → 3 ≤ w.heap.size → EvalOK r (.slice ra r.length rc) w e := by
  refine ET.ind fun o c d ks ih deep w hf hg hw hr hT h3 kv W hb hat => ?_
  have hg' := hg
  simp only [ET.good, Bool.and_eq_true, decide_eq_true_eq, ET.goods_iff] at hg
  obtain ⟨⟨hown, -⟩, hgs⟩ := hg
  simp only [ET.within, Bool.and_eq_true, ET.withins_iff] at hw
  obtain ⟨hfar, hws⟩ := hw
  have hf' := hf
  simp only [ET.fits, ET.fitss_iff] at hf
  obtain ⟨⟨ho0, ho1⟩, -, -, hlen, hfs⟩ := hf
  have hrW := hr.below hb
  have hTW := tabs_below hT hb h3
  have h3W := Nat.le_trans h3 hb.size
  obtain ⟨a, cc, rfl, -, hks⟩ := ET.On.iff.1 hat
  simp only [ET.kids] at hks ⊢
  have ihW : ∀ k ∈ ks, EvalOK r (.slice ra r.length rc) W k := fun k hk => ih k hk (deep + 1) W (hfs k hk) (hgs k hk) (hws k hk) hrW hTW h3W
  have hok : ∀ k ∈ ks, ResOk (k.val r) := fun k hk => val_ok r hrf k (deep + 1) (hfs k hk) (hgs k hk)
  have htr : ∀ k ∈ ks, TruthOK r (.slice ra r.length rc) W k := fun k hk kv W2 hb2 hat2 => truth_85 r _ W k (ihW k hk) (hok k hk) hTW h3W kv W2 hb2 hat2
  have hkids := own_kids hown
  by_cases o1 : o = 1
  · subst o1
    have hcn := own_col_nn hown
    have hclt : c < r.length := by
      simp at hfar
      exact hfar
    exact eval_col r ra rc c d ks a cc W hrW hcn hclt
  by_cases o2 : o = 2
  · subst o2
    exact eval_lit r _ c d ks a cc W
  by_cases o23 : o = 23
  · subst o23
    have h5 := ((own_mk hown).2.2.2.2.1 rfl).2
    exact eval_fail r _ c d ks a cc W h5.1 h5.2
  by_cases o18 : o = 18
  · subst o18
    exact eval_logic_18 r _ c d ks a cc W hlen hks htr
  by_cases o19 : o = 19
  · subst o19
    exact eval_logic_19 r _ c d ks a cc W hlen hks htr
  by_cases o21 : o = 21
  · subst o21
    have hodd : ks.length % 2 = 1 := by
      simp [kidsOk] at hkids
      omega
    exact eval_case r _ c d ks a cc W hlen hodd hks htr ihW
  by_cases o22 : o = 22
  · subst o22
    exact eval_coal r _ c d ks a cc W hlen hks ihW
  by_cases hone : o = 3 ∨ o = 10 ∨ o = 17 ∨ o = 20
  · have hl1 : ks.length = 1 := by
      simp only [kidsOk] at hkids
      rw [if_neg (by omega), if_pos hone] at hkids
      simpa using hkids
    obtain ⟨k1, rfl⟩ : ∃ k, ks = [k] := List.length_eq_one_iff.1 hl1
    have i1 := ihW k1 (by simp)
    have r1 := hok k1 (by simp)
    rcases hone with rfl | rfl | rfl | rfl
    · exact eval_one_3 r _ c d k1 a cc W h3W hks i1 hTW r1
    · exact eval_one_10 r _ c d k1 a cc W h3W hks i1 hTW r1
    · exact eval_one_17 r _ c d k1 a cc W h3W hks i1 hTW r1
    · exact eval_one_20 r _ c d k1 a cc W hks i1
  · have hl2 : ks.length = 2 ∧ 0 < o ∧ o < 21 := by
      simp only [kidsOk] at hkids
      rw [if_neg (by omega), if_neg hone, if_neg o21, if_neg o22] at hkids
      simp at hkids
      exact ⟨hkids.2, hkids.1.1, hkids.1.2⟩
    obtain ⟨k1, k2, rfl⟩ : ∃ k1 k2, ks = [k1, k2] := len_two hl2.1
    have i1 := ihW k1 (by simp)
    have r1 := (hok k1 (by simp)).1
    have i2 := ihW k2 (by simp)
    have r2 := (hok k2 (by simp)).1
    rcases (show o = 4 ∨ o = 5 ∨ o = 6 ∨ o = 7 ∨ o = 8 ∨ o = 9 ∨ o = 11 ∨ o = 12 ∨ o = 13 ∨ o = 14 ∨ o = 15 ∨ o = 16 by omega) with rfl | rfl | rfl | rfl | rfl | rfl | rfl | rfl | rfl | rfl | rfl | rfl
    · exact eval_two_4 r _ c d k1 k2 a cc W h3W hks i1 i2 hTW r1 r2
    · exact eval_two_5 r _ c d k1 k2 a cc W h3W hks i1 i2 hTW r1 r2
    · exact eval_two_6 r _ c d k1 k2 a cc W h3W hks i1 i2 hTW r1 r2
    · exact eval_two_7 r _ c d k1 k2 a cc W h3W hks i1 i2 hTW r1 r2
    · exact eval_two_8 r _ c d k1 k2 a cc W h3W hks i1 i2 hTW r1 r2
    · exact eval_two_9 r _ c d k1 k2 a cc W h3W hks i1 i2 hTW r1 r2
    · exact eval_two_11 r _ c d k1 k2 a cc W h3W hks i1 i2 hTW r1 r2
    · exact eval_two_12 r _ c d k1 k2 a cc W h3W hks i1 i2 hTW r1 r2
    · exact eval_two_13 r _ c d k1 k2 a cc W h3W hks i1 i2 hTW r1 r2
    · exact eval_two_14 r _ c d k1 k2 a cc W h3W hks i1 i2 hTW r1 r2
    · exact eval_two_15 r _ c d k1 k2 a cc W h3W hks i1 i2 hTW r1 r2
    · exact eval_two_16 r _ c d k1 k2 a cc W h3W hks i1 i2 hTW r1 r2

/-- Eval 12 of any expression and any row -/
theorem eval12_all (r : List Dat) (e : ET) (a : Option Addr) (cc : Nat) (ra : Option Addr) (rc : Nat) (w : World) (hfit : e.fits) (hrf : ∀ d ∈ r, d.fits) (hat : e.At w (.slice a e.kids.length cc)) (hr : DatsOn (fun _ => True) w r (.slice ra r.length rc)) (hT : Lib.Utf8Tabs 1 2 w) (hE : ErrTy w) (h3 : 3 ≤ w.heap.size) :
    Calls Tryz.prog 25 #[e.agg (.slice a e.kids.length cc), .slice ra r.length rc] w (ResPost (evalR r e) w) :=
  eval_12 r e a cc ra rc w hfit hat hT hE h3 fun hm hw => eval_all r ra rc hrf e 1 w hfit (by simp only [ET.may, Bool.and_eq_true] at hm; exact hm.1) hw hr hT h3
end Go.Proofs.YtlpehdhgdpeoeaaGreatDoor
