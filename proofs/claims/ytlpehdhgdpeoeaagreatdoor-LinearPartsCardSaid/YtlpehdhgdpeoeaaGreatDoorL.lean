import Derived.Test.YtlpehdhgdpeoeaaGreatDoorI
import Derived.Test.YtlpehdhgdpeoeaaGreatDoorK
import Derived.Test.YtlpehdhgdpeoeaaGreatDoorF
/- The reference's Check of data. -/
namespace Go.Proofs.YtlpehdhgdpeoeaaGreatDoor
open Go.RowKit Go.Pen
attribute [local go_sem] Oper.semAt_some

theorem te_t {t : ByteArray} (h : (!t.toList.isEmpty) = true) : ¬ t.toList = [] := fun e => by rw [e] at h; cases h
theorem te_f {t : ByteArray} (h : (!t.toList.isEmpty) = false) : t.toList = [] := by
  cases hl : t.toList
  · rfl
  · rw [hl] at h; cases h
theorem neg_t {r : Int} {b : Bool} (h : decide (r < 0) = !b) (hr : r < 0) : (!b) = true := by rw [← h]; exact decide_eq_true hr
theorem neg_f {r : Int} {b : Bool} (h : decide (r < 0) = !b) (hr : 0 ≤ r) : (!b) = false := by rw [← h]; exact decide_eq_false (by omega)
theorem chk_finI {d : Dat} {m c B : Nat} {w W : World} (h : chkD d = m) (h2 : chkD d = c) (h3 : Below B w W) : Ending.returned (.int .i64 (m : Int)) = Ending.returned (.int .i64 (c : Int)) ∧ Below B w W := ⟨by rw [h.symm.trans h2], h3⟩
theorem one_below (w : World) (a : Obj) : Below w.heap.size w (w.alloc a) := (Below.refl _ _).alloc (Nat.le_refl _) _

set_option maxRecDepth 100000 in
set_option maxHeartbeats 1000000 in
theorem check_105 (d : Dat) (w : World) (hf : d.fits) :
    Calls Tryz.prog 42 #[d.agg] w fun e w' => e = .returned (.int .i64 (chkD d)) ∧ Below w.heap.size w w' := by
  obtain ⟨k, b, n, t⟩ := d
  obtain ⟨c, hc⟩ : ∃ c, chkD ⟨k, b, n, t⟩ = c := ⟨_, rfl⟩
  rw [hc]
  have HC := Lib.hid hc
  have hk0 := hf.1.1
  have hk1 := hf.1.2
  have hn0 := hf.2.1.1
  have hn1 := hf.2.1.2
  have hts : t.size ≤ 140737488355328 := hf.2.2
  clear hf hc
  simp only at hk0 hk1 hn0 hn1
  have val := fun (W : World) => runes_149 t W hts
  have VAL := Lib.hid val
  clear val
  unfold Dat.agg
  simp only
  rcases (show (k = 1 ∨ k = 2 ∨ k = 3 ∨ k = 4) ∨ (k < 1 ∨ 4 < k) by omega) with (rfl | rfl | rfl | rfl) | hbad
  rotate_left 4
  · have hc : chkD ⟨k, b, n, t⟩ = 13 := chkD_13 (.inl hbad)
    obtain rfl := hc.symm.trans HC.out
    clear hc HC
    rcases hbad with hbad | hbad
    · go_enter Tryz.func42, Tryz.ntmps42
      go_wp2_with fail
      go_ret
      exact ⟨rfl, one_below _ _⟩
    · go_enter Tryz.func42, Tryz.ntmps42
      go_wp2_with fail
      go_ret
      exact ⟨rfl, one_below _ _⟩
  all_goals
    go_enter Tryz.func42, Tryz.ntmps42
    go_wp2_with (go_at_call 56; refine (VAL.out _).mono ?_; rintro _ w2 ⟨r, rfl, ⟨hv, -⟩, rfl⟩; have HV := Lib.hid hv; clear hv)
    all_goals
      go_ret
      first
        | exact chk_finI (chkD_b (by decide) (by assumption)) HC.out (one_below _ _)
        | exact chk_finI (chkD_n (by decide) (by assumption)) HC.out (one_below _ _)
        | exact chk_finI (chkD_t (by decide) (te_t (by assumption))) HC.out (one_below _ _)
        | exact chk_finI (chkD_v (neg_t HV.out (by assumption))) HC.out (one_below _ _)
        | exact chk_finI (chkD_z12 (by decide) (by first | exact .inl rfl | exact .inr (by assumption) | exact .inr (te_f (by assumption))) (by first | exact .inl rfl | exact .inr (by assumption) | exact .inr (te_f (by assumption))) (by first | exact .inl rfl | exact .inr (by assumption) | exact .inr (te_f (by assumption))) (neg_f HV.out (by assumption)) (by assumption)) HC.out (one_below _ _)
        | exact chk_finI (chkD_z0 (by decide) (by first | exact .inl rfl | exact .inr (by assumption) | exact .inr (te_f (by assumption))) (by first | exact .inl rfl | exact .inr (by assumption) | exact .inr (te_f (by assumption))) (by first | exact .inl rfl | exact .inr (by assumption) | exact .inr (te_f (by assumption))) (neg_f HV.out (by assumption)) (by assumption)) HC.out (one_below _ _)
end Go.Proofs.YtlpehdhgdpeoeaaGreatDoor
/- The reference's may, Check and within. -/
namespace Go.Proofs.YtlpehdhgdpeoeaaGreatDoor
open Go.RowKit Go.Pen
attribute [local go_sem ↓] Go.wp_at_zero Go.wp_at_succ
attribute [local go_sem] Oper.semAt_some

theorem ET.sizes_take : ∀ (ks : List ET) (i : Nat) (k : ET), ks[i]? = some k → ET.sizes (ks.take (i + 1)) = ET.sizes (ks.take i) + k.size
  | [], i, k, h => by simp at h
  | x :: ks, 0, k, h => by simp at h; subst h; simp [ET.sizes]
  | x :: ks, i + 1, k, h => by
    have := ET.sizes_take ks i k (by simpa using h)
    simp only [List.take_succ_cons, ET.sizes]
    rw [this]; omega

theorem ET.sizes_le : ∀ (ks : List ET) (i : Nat), ET.sizes (ks.take i) ≤ ET.sizes ks
  | [], i => by simp [ET.sizes]
  | x :: ks, 0 => by simp [ET.sizes]
  | x :: ks, i + 1 => by
    have := ET.sizes_le ks i
    simp only [List.take_succ_cons, ET.sizes]; omega

theorem ET.goods_take {ok : Dat → Bool} {deep : Nat} {ks : List ET} {i : Nat} {k : ET} (hk : ks[i]? = some k) (h : ET.goods ok (ks.take i) deep = true) (hg : k.good ok deep = true) : ET.goods ok (ks.take (i + 1)) deep = true := by
  rw [ET.goods_iff] at h ⊢
  intro x hx
  rw [List.take_succ_eq_append_getElem (by exact (List.getElem?_eq_some_iff.1 hk).1)] at hx
  rcases List.mem_append.1 hx with hx | hx
  · exact h x hx
  · simp at hx
    rw [(List.getElem?_eq_some_iff.1 hk).2] at hx
    subst hx; exact hg

/-- may an expression be, so deep, behind so many parts? -/
def MayB (e : ET) (deep p : Nat) : Bool := e.good okD deep && decide (p + e.size ≤ 4000)

theorem may_bad {o c : Int} {d : Dat} {ks : List ET} {deep p : Nat} (h : ¬ (deep ≤ 60 ∧ ET.own okD (.mk o c d ks) = true ∧ p + 1 ≤ 4000)) : MayB (.mk o c d ks) deep p = false := by
  cases hb : MayB (.mk o c d ks) deep p
  · rfl
  · simp only [MayB, ET.good, Bool.and_eq_true, decide_eq_true_eq] at hb
    simp only [ET.size] at hb
    exact absurd ⟨hb.1.1.2, hb.1.1.1, by omega⟩ h

/-- a part of it may not be -/
theorem may_kid {o c : Int} {d : Dat} {ks : List ET} {deep p i q : Nat} {k : ET} (hk : ks[i]? = some k) (hq : q = p + 1 + ET.sizes (ks.take i)) (h : MayB k (deep + 1) q = false) : MayB (.mk o c d ks) deep p = false := by
  cases hb : MayB (.mk o c d ks) deep p
  · rfl
  · simp only [MayB, ET.good, Bool.and_eq_true, decide_eq_true_eq] at hb
    simp only [ET.size] at hb
    have h1 := (ET.goods_iff _ _ _).1 hb.1.2 k (List.mem_of_getElem? hk)
    have h2 := ET.sizes_take ks i k hk
    have h3 := ET.sizes_le ks (i + 1)
    have h4 : MayB k (deep + 1) q = true := by
      simp only [MayB, h1, Bool.true_and, decide_eq_true_eq]
      omega
    rw [h] at h4; cases h4

theorem may_all {o c : Int} {d : Dat} {ks : List ET} {deep p : Nat} (h1 : deep ≤ 60) (h2 : ET.own okD (.mk o c d ks) = true) (h3 : ET.goods okD ks (deep + 1) = true) (h4 : p + 1 + ET.sizes ks ≤ 4000) : MayB (.mk o c d ks) deep p = true := by
  simp only [MayB, ET.good, h1, h2, h3, Bool.and_eq_true, decide_eq_true_eq, true_and]
  simp only [ET.size]
  omega

theorem okD_fail {n : Int} : okD ⟨3, false, n, ⟨#[]⟩⟩ = true := by
  have h : chkD ⟨3, false, n, ⟨#[]⟩⟩ = 0 := (chkD_z (by decide) (.inr (by decide)) (.inl rfl) (.inr (by rw [text_nil])) (by rw [show (⟨#[]⟩ : ByteArray).data.toList = [] from rfl, Lib.validD_nil]; rfl)).trans (if_neg (by decide))
  simp [okD, h]

theorem fail_of_ok {d : Dat} (h : okD d = true) (hk : d.kind = 3) : ¬ d.bool = true ∧ d.text.toList = [] := by
  simp only [okD, beq_iff_eq] at h
  constructor
  · intro hb
    have := chkD_13 (d := d) (.inr (.inl ⟨by omega, hb⟩))
    omega
  · by_cases ht : d.text.toList = []
    · exact ht
    · have := chkD_13 (d := d) (.inr (.inr (.inr (.inl ⟨by omega, ht⟩))))
      omega

/-- what a block keeps -/
theorem one_at {w w1 : World} {a : Obj} (hb : Below (w.alloc a).heap.size (w.alloc a) w1) : w1.heap[w.heap.size]? = some a := (hb.block _ (by simp)).trans (heap_alloc_new w a)

theorem own_col' {K : Nat} {c : Int} {d : Dat} {ks : List ET} (hK : K = ks.length) (hk : kidsOk 1 K = true) (c0 : 0 ≤ c) (c9 : c ≤ 9999) (l1 : d.kind = 0) (l2 : ¬ d.bool = true) (l3 : d.int = 0) (l4 : d.text.toList = []) : ET.own okD (.mk 1 c d ks) = true := own_col (e := .mk 1 c d ks) rfl (by subst hK; exact hk) c0 c9 l1 l2 l3 l4
theorem own_lit' {K : Nat} {d : Dat} {ks : List ET} (hK : K = ks.length) (hk : kidsOk 2 K = true) (l : chkD d = 0) : ET.own okD (.mk 2 0 d ks) = true := own_lit (e := .mk 2 0 d ks) rfl (by subst hK; exact hk) rfl (by simp [okD, ET.lit, l])
theorem nz_of {A : Prop} {c : Int} (h : A ∧ (c != 0) = false) : c = 0 := by simpa using h.2
theorem own_lit2 {K : Nat} {c : Int} {d : Dat} {ks : List ET} (hK : K = ks.length) (hk : kidsOk 2 K = true) (c0 : c = 0) (l : (chkD d : Int) = 0) : ET.own okD (.mk 2 c d ks) = true := by subst c0; exact own_lit' hK hk (by omega)
theorem own_fail' {K : Nat} {d : Dat} {ks : List ET} (hK : K = ks.length) (hk : kidsOk 23 K = true) (l : chkD d = 0) (l1 : d.kind = 3) (n1 : 1 ≤ d.int) (n2 : d.int ≤ 65535) : ET.own okD (.mk 23 0 d ks) = true :=
  have h := fail_of_ok (d := d) (by simp [okD, l]) l1
  own_fail (e := .mk 23 0 d ks) rfl (by subst hK; exact hk) rfl l1 h.1 h.2 n1 n2
theorem own_fail2 {K : Nat} {c : Int} {d : Dat} {ks : List ET} (hK : K = ks.length) (hk : kidsOk 23 K = true) (c0 : c = 0) (l : (chkD d : Int) = 0) (l1 : d.kind = 3) (n1 : 1 ≤ d.int) (n2 : d.int ≤ 65535) : ET.own okD (.mk 23 c d ks) = true := by subst c0; exact own_fail' hK hk (by omega) l1 n1 n2
theorem own_other' {K : Nat} {o : Int} {d : Dat} {ks : List ET} (hK : K = ks.length) (o1 : ¬ o = 1) (o2 : ¬ o = 2) (o3 : ¬ o = 23) (hk : kidsOk o K = true) (l1 : d.kind = 0) (l2 : ¬ d.bool = true) (l3 : d.int = 0) (l4 : d.text.toList = []) : ET.own okD (.mk o 0 d ks) = true := own_other (e := .mk o 0 d ks) o1 o2 o3 (by subst hK; exact hk) rfl l1 l2 l3 l4

theorem own_other2 {K : Nat} {o c : Int} {d : Dat} {ks : List ET} (hK : K = ks.length) (o1 : ¬ o = 1) (o2 : ¬ o = 2) (o3 : ¬ o = 23) (hk : kidsOk o K = true) (c0 : c = 0) (l1 : d.kind = 0) (l2 : ¬ d.bool = true) (l3 : d.int = 0) (l4 : d.text.toList = []) : ET.own okD (.mk o c d ks) = true := by subst c0; exact own_other' hK o1 o2 o3 hk l1 l2 l3 l4


def MayPost (e : ET) (deep p : Nat) (w : World) (ev : Ending) (w' : World) : Prop := ∃ (B : Bool) (m : Int), ev = .returned (.tuple #[.bool B, .int .i64 m]) ∧ B = MayB e deep p ∧ (B = true → m = ((p + e.size : Nat) : Int)) ∧ Below w.heap.size w w'
theorem may_no {e : ET} {deep p : Nat} {w w' : World} {m : Int} (h : MayB e deep p = false) (hb : Below w.heap.size w w') : MayPost e deep p w (.returned (.tuple #[.bool false, .int .i64 m])) w' := ⟨false, m, rfl, h.symm, (fun h => by cases h), hb⟩
theorem may_yes {e : ET} {deep p : Nat} {w w' : World} {m : Int} (h : MayB e deep p = true) (hm : m = ((p + e.size : Nat) : Int)) (hb : Below w.heap.size w w') : MayPost e deep p w (.returned (.tuple #[.bool true, .int .i64 m])) w' := ⟨true, m, rfl, h.symm, fun _ => hm, hb⟩

end Go.Proofs.YtlpehdhgdpeoeaaGreatDoor
/- What a part that may be is. -/
namespace Go.Proofs.YtlpehdhgdpeoeaaGreatDoor

theorem own_inv {ok : Dat → Bool} {e : ET} (h : e.own ok = true) : kidsOk e.op e.kids.length = true ∧ (e.op = 1 → 0 ≤ e.col ∧ e.col ≤ 9999) ∧ (e.op ≠ 1 → e.col = 0) ∧ (e.op = 2 → ok e.lit = true) ∧ (e.op = 23 → e.lit = ⟨3, false, e.lit.int, ⟨#[]⟩⟩ ∧ 1 ≤ e.lit.int ∧ e.lit.int ≤ 65535) ∧ (e.op ≠ 2 → e.op ≠ 23 → e.lit = Dat.zero) := by
  simp only [ET.own, Bool.and_eq_true] at h
  obtain ⟨⟨h1, h2⟩, h3⟩ := h
  refine ⟨h1, fun e1 => ?_, fun e1 => ?_, fun e2 => ?_, fun e3 => ?_, fun e2 e3 => ?_⟩
  · rw [if_pos e1] at h2; exact of_decide_eq_true h2
  · rw [if_neg e1] at h2; exact of_decide_eq_true h2
  · rw [if_pos e2] at h3; exact h3
  · rw [if_neg (by omega), if_pos e3] at h3; exact of_decide_eq_true h3
  · rw [if_neg e2, if_neg e3] at h3; exact of_decide_eq_true h3

theorem own_mk {ok : Dat → Bool} {o c : Int} {d : Dat} {ks : List ET} (h : ET.own ok (.mk o c d ks) = true) : kidsOk o ks.length = true ∧ (o = 1 → 0 ≤ c ∧ c ≤ 9999) ∧ (o ≠ 1 → c = 0) ∧ (o = 2 → ok d = true) ∧ (o = 23 → d = ⟨3, false, d.int, ⟨#[]⟩⟩ ∧ 1 ≤ d.int ∧ d.int ≤ 65535) ∧ (o ≠ 2 → o ≠ 23 → d = Dat.zero) := own_inv h
theorem zero_inv {d : Dat} (h : d = Dat.zero) : d.kind = 0 ∧ d.bool = false ∧ d.int = 0 ∧ d.text = ⟨#[]⟩ := by subst h; exact ⟨rfl, rfl, rfl, rfl⟩
theorem fail_inv {d : Dat} (h : d = ⟨3, false, d.int, ⟨#[]⟩⟩) : d.kind = 3 ∧ d.bool = false ∧ d.text = ⟨#[]⟩ := by rw [h]; exact ⟨rfl, rfl, rfl⟩
end Go.Proofs.YtlpehdhgdpeoeaaGreatDoor
/- The reference's may: the walk. -/
namespace Go.Proofs.YtlpehdhgdpeoeaaGreatDoor
open Go.RowKit Go.Pen
attribute [local go_sem ↓] Go.wp_at_zero Go.wp_at_succ
attribute [local go_sem] Oper.semAt_some

end Go.Proofs.YtlpehdhgdpeoeaaGreatDoor
/- The reference's within. -/
namespace Go.Proofs.YtlpehdhgdpeoeaaGreatDoor
open Go.RowKit Go.Pen
attribute [local go_sem ↓] Go.wp_at_zero Go.wp_at_succ
attribute [local go_sem] Oper.semAt_some

theorem ET.withins_take {n : Int} {ks : List ET} {i : Nat} {k : ET} (hk : ks[i]? = some k) (h : ET.withins n (ks.take i) = true) (hg : k.within n = true) : ET.withins n (ks.take (i + 1)) = true := by
  rw [ET.withins_iff] at h ⊢
  intro x hx
  rw [List.take_succ_eq_append_getElem (by exact (List.getElem?_eq_some_iff.1 hk).1)] at hx
  rcases List.mem_append.1 hx with hx | hx
  · exact h x hx
  · simp at hx
    rw [(List.getElem?_eq_some_iff.1 hk).2] at hx
    subst hx; exact hg

def WiPost (b : Bool) (w : World) (ev : Ending) (w' : World) : Prop := ev = .returned (.bool b) ∧ Below w.heap.size w w'
theorem wi_mk {b c : Bool} {w w' : World} (h : c = b) (hb : Below w.heap.size w w') : WiPost b w (.returned (.bool c)) w' := ⟨by rw [h], hb⟩
theorem wi_kid {o c n : Int} {d : Dat} {ks : List ET} {k : ET} {i : Nat} (hk : ks[i]? = some k) (h : k.within n = false) : false = (ET.mk o c d ks).within n := by
  cases hw : (ET.mk o c d ks).within n
  · rfl
  · simp only [ET.within, Bool.and_eq_true, ET.withins_iff] at hw
    rw [hw.2 k (List.mem_of_getElem? hk)] at h
    cases h
theorem wi_far {o c n : Int} {d : Dat} {ks : List ET} (h1 : o = 1) (h2 : n ≤ c) : false = (ET.mk o c d ks).within n := by
  simp [ET.within, h1, h2]
theorem wi_all {o c n : Int} {d : Dat} {ks : List ET} (h : ¬ (o = 1 ∧ n ≤ c)) (hk : ET.withins n ks = true) : true = (ET.mk o c d ks).within n := by
  have h2 : (decide (o = 1) && decide (n ≤ c)) = false := by
    rw [Bool.and_eq_false_iff, decide_eq_false_iff_not, decide_eq_false_iff_not]
    by_cases h1 : o = 1
    · exact .inr fun h3 => h ⟨h1, h3⟩
    · exact .inl h1
  simp only [ET.within, hk, h2]
  rfl

end Go.Proofs.YtlpehdhgdpeoeaaGreatDoor
/- expr.turned. -/
namespace Go.Proofs.YtlpehdhgdpeoeaaGreatDoor
open Go.RowKit Go.Pen
attribute [local go_sem ↓] Go.wp_at_zero Go.wp_at_succ

mutual
/-- with other columns -/
def ET.turn (cols : List Int) : ET → ET
  | .mk o c d ks => .mk o (if o = 1 then cols.getD c.toNat 0 else c) d (ET.turns cols ks)
def ET.turns (cols : List Int) : List ET → List ET
  | [] => []
  | k :: ks => k.turn cols :: ET.turns cols ks
end

theorem ET.turns_map (cols : List Int) : ∀ ks : List ET, ET.turns cols ks = ks.map (ET.turn cols)
  | [] => rfl
  | k :: ks => by simp [ET.turns, ET.turns_map cols ks]
theorem ET.turns_len (cols : List Int) (ks : List ET) : (ET.turns cols ks).length = ks.length := by rw [ET.turns_map, List.length_map]
theorem ET.turns_get {cols : List Int} {ks : List ET} {i : Nat} {k : ET} (h : ks[i]? = some k) : (ET.turns cols ks)[i]? = some (k.turn cols) := by rw [ET.turns_map, List.getElem?_map, h]; rfl

/-- a row of numbers in memory, in a block of S -/
def IntsOn (S : Nat → Prop) (w : World) (l : List Int) (v : Value) : Prop :=
  ∃ a c, v = .slice a l.length c ∧ (a = none → c = 0) ∧ (l ≠ [] → ∃ b o, a = some ⟨b, o, none⟩ ∧ S b ∧ ∀ i x, l[i]? = some x → w.cell? ⟨b, o + i, none⟩ = some (.int .i64 x))
theorem IntsOn.below {S : Nat → Prop} {w w' : World} {l : List Int} {v : Value} (h : IntsOn S w l v) (hb : Below w.heap.size w w') : IntsOn S w' l v := by
  obtain ⟨a, c, hv, hn, h⟩ := h
  refine ⟨a, c, hv, hn, fun hne => ?_⟩
  obtain ⟨b, o, ha, hS, hc⟩ := h hne
  exact ⟨b, o, ha, hS, fun i x hx => cell_keep hb (hc i x hx)⟩

theorem own_col_nn {c : Int} {d : Dat} {ks : List ET} (h : ET.own okD (.mk 1 c d ks) = true) : 0 ≤ c := ((own_mk h).2.1 rfl).1

end Go.Proofs.YtlpehdhgdpeoeaaGreatDoor
/- The reference's turned. -/
namespace Go.Proofs.YtlpehdhgdpeoeaaGreatDoor
open Go.RowKit Go.Pen
attribute [local go_sem ↓] Go.wp_at_zero Go.wp_at_succ

mutual
/-- are all new columns numbers of columns? -/
def ET.tok (cols : List Int) : ET → Bool
  | .mk o c _ ks => (!decide (o = 1) || (decide (0 ≤ cols.getD c.toNat 0) && decide (cols.getD c.toNat 0 ≤ 9999))) && ET.toks cols ks
def ET.toks (cols : List Int) : List ET → Bool
  | [] => true
  | k :: ks => k.tok cols && ET.toks cols ks
end
theorem ET.toks_iff (cols : List Int) : ∀ ks : List ET, ET.toks cols ks = true ↔ ∀ k ∈ ks, k.tok cols = true
  | [] => by simp [ET.toks]
  | k :: ks => by simp [ET.toks, ET.toks_iff cols ks]
theorem ET.toks_take {cols : List Int} {ks : List ET} {i : Nat} {k : ET} (hk : ks[i]? = some k) (h : ET.toks cols (ks.take i) = true) (hg : k.tok cols = true) : ET.toks cols (ks.take (i + 1)) = true := by
  rw [ET.toks_iff] at h ⊢
  intro x hx
  rw [List.take_succ_eq_append_getElem (by exact (List.getElem?_eq_some_iff.1 hk).1)] at hx
  rcases List.mem_append.1 hx with hx | hx
  · exact h x hx
  · simp at hx
    rw [(List.getElem?_eq_some_iff.1 hk).2] at hx
    subst hx; exact hg
theorem tok_kid {o c : Int} {d : Dat} {ks : List ET} {cols : List Int} {k : ET} {i : Nat} (hk : ks[i]? = some k) (h : k.tok cols = false) : (ET.mk o c d ks).tok cols = false := by
  cases hw : (ET.mk o c d ks).tok cols
  · rfl
  · simp only [ET.tok, Bool.and_eq_true, ET.toks_iff] at hw
    rw [hw.2 k (List.mem_of_getElem? hk)] at h
    cases h
theorem tok_all {o c : Int} {d : Dat} {ks : List ET} {cols : List Int} (h : ¬ o = 1) (hk : ET.toks cols ks = true) : (ET.mk o c d ks).tok cols = true := by
  simp [ET.tok, h, hk]

/-- so many have come -/
def LRow (ks : List ET) (base k : Nat) (v : Value) (wr : World) : Prop :=
  ∃ xs, wr.ownsRow base 57 7 v k xs ∧ (∀ (j : Nat) x, j < k → ks[j]? = some x → ∃ lo hi, base ≤ lo ∧ hi ≤ wr.heap.size ∧ (∀ g, v.ownBlock = some g → g < lo ∨ hi ≤ g) ∧ ElOn (Btw lo hi) wr xs j x)

theorem lrow_step {ks : List ET} {base : Nat} {wr w3 w4 w5 : World} {k : Nat} {v v' kv : Value} {x : ET} {xs : List Value} (sb : base ≤ wr.heap.size) (hown : wr.ownsRow base 57 7 v k xs)
    (hel : ∀ (j : Nat) x, j < k → ks[j]? = some x → ∃ lo hi, base ≤ lo ∧ hi ≤ wr.heap.size ∧ (∀ g, v.ownBlock = some g → g < lo ∨ hi ≤ g) ∧ ElOn (Btw lo hi) wr xs j x) (hx : ks[k]? = some x)
    (h3 : Below wr.heap.size wr w3) (hat : x.On (Btw wr.heap.size w3.heap.size) w3 kv) (h4 : Below w3.heap.size w3 w4) (h5 : w5.ownsRow base 57 7 v' (k + 1) (xs ++ x.cells kv)) (hg : w4.grownBy w5 v.ownBlock) (hv' : ∀ g, v'.ownBlock = some g → v.ownBlock = some g ∨ w4.heap.size ≤ g) : LRow ks base (k + 1) v' w5 := by
  have s3 := h3.size
  have s4 := h4.size
  have s5 := hg.size
  have keep : ∀ {S : Nat → Prop} {e : ET} {u : Value} {W : World}, e.On S W u → Below W.heap.size W w4 → (∀ g, S g → v.ownBlock ≠ some g) → e.On S w5 u := fun {S e u W} ho hbl hne => by
    refine (ho.below hbl).frame fun g hS hgl => hg.block g hgl fun e => hne g hS e.symm
  refine ⟨_, h5, fun j y hj hy => ?_⟩
  have hl := hown.1
  by_cases e : j < k
  · obtain ⟨lo, hi, q1, q2, q3, kv', h1, h2⟩ := hel j y e hy
    refine ⟨lo, hi, q1, by omega, fun g hgv => ?_, kv', fun t z hz => ?_, keep h2 (h3.trans (h4.mono s3)) fun g hS hgv => ?_⟩
    · rcases hv' g hgv with h | h
      · exact q3 g h
      · right; omega
    · have ht := (List.getElem?_eq_some_iff.1 hz).1
      simp only [ET.cells, List.length_cons, List.length_nil] at ht
      rw [List.getElem?_append_left (by omega)]
      exact h1 t z hz
    · have := q3 g hgv
      have := hS.1
      have := hS.2
      omega
  · obtain rfl : j = k := by omega
    rw [hx] at hy; cases hy
    refine ⟨wr.heap.size, w3.heap.size, sb, by omega, fun g hgv => ?_, kv, fun t z hz => ?_, keep hat h4 fun g hS hgv => ?_⟩
    · rcases hv' g hgv with h | h
      · left; exact (hown.lt g h).2
      · right; omega
    · rw [List.getElem?_append_right (by omega), show j * 7 + t - xs.length = t by omega]
      exact hz
    · have := (hown.lt g hgv).2
      have := hS.1
      omega

theorem lrow_set {ks : List ET} {base k b o : Nat} {v x : Value} {w : World} (h : LRow ks base k v w) (hb : b < base) : LRow ks base k v (w.setCell ⟨b, o, none⟩ x) := by
  obtain ⟨xs, hown, hel⟩ := h
  have hs : (w.setCell ⟨b, o, none⟩ x).heap.size = w.heap.size := by simp [World.setCell]
  refine ⟨xs, ownsRow_frame hown fun g hg => heap_set_ne (by have := (hown.lt g hg).1; omega), fun j y hj hy => ?_⟩
  obtain ⟨lo, hi, q1, q2, q3, kv, h1, h2⟩ := hel j y hj hy
  exact ⟨lo, hi, q1, by rw [hs]; exact q2, q3, kv, h1, h2.frame fun g hS _ => heap_set_ne (by have := hS.1; omega)⟩

theorem results_row_tmp {P : Program} {fn : Func} {p u : Tmp} {ty : TypeId} (h : fn.results = #[.cell p ty, .tmp u]) (tmps : Array Value) (w : World) (g : Nat) (t : TypeId) (cs : Array Value) (fr : Nat × Nat) (d : TypeDesc)
    (hp : tmps.getD p undef = .pointer (some ⟨g, 0, none⟩)) (hg : w.heap[g]? = some (.cells cs t fr))
    (hu : P.underlying ty = some d) (hd : (match d with | .struct _ | .array _ _ => true | _ => false) = true) (hi : (P.info? ty).map (·.size) = some cs.size) :
    (results fn tmps).run P w = .ok (.tuple #[.agg cs, tmps.getD u undef]) w := by
  have hp' : tmps[p]?.getD undef = .pointer (some ⟨g, 0, none⟩) := by simpa using hp
  simp [results, h, hp', asAddr, run_loadVar_row w g t ty cs fr d hg hu hd hi]

theorem on_nil (S : Nat → Prop) (w : World) (o c : Int) (d : Dat) : (ET.mk o c d []).On S w (.slice none 0 0) := ET.On.iff.2 ⟨none, 0, rfl, fun _ => rfl, fun h => absurd rfl h⟩

def T52 (cols : List Int) (e : ET) (w : World) (ev : Ending) (w' : World) : Prop :=
  Below w.heap.size w w' ∧ ∃ (x : ET) (sa : Option Addr) (sn sc : Nat), ev = .returned (.tuple #[x.agg (.slice sa sn sc), .bool (e.tok cols)]) ∧ (e.tok cols = true → x = e.turn cols ∧ (e.turn cols).On (Btw w.heap.size w'.heap.size) w' (.slice sa sn sc))

theorem three_below' (w : World) (a b c : Obj) : Below w.heap.size w (((w.alloc a).alloc b).alloc c) := three_below w a b c

end Go.Proofs.YtlpehdhgdpeoeaaGreatDoor
/- expr.Turn. -/
namespace Go.Proofs.YtlpehdhgdpeoeaaGreatDoor
open Go.RowKit Go.Pen Go.Shelf
attribute [local go_sem] Oper.semAt_some

def RTurn (cols : List Int) (e : ET) : Option ET := if e.may okD = true ∧ e.within cols.length = true ∧ e.tok cols = true then some (e.turn cols) else none
/-- what Turn answers: the expression and the error's number -/
def rTurn (cols : List Int) (e : ET) : ET := (RTurn cols e).getD (.mk 0 0 Dat.zero [])
def rTurnN (cols : List Int) (e : ET) : Nat := if (RTurn cols e).isSome then 0 else 30
theorem rTurn_yes {cols : List Int} {e : ET} (h : e.may okD = true ∧ e.within cols.length = true ∧ e.tok cols = true) : rTurn cols e = e.turn cols ∧ rTurnN cols e = 0 := by
  simp only [rTurn, rTurnN, RTurn, if_pos h]
  exact ⟨rfl, rfl⟩
theorem rTurn_no {cols : List Int} {e : ET} (h : ¬ (e.may okD = true ∧ e.within cols.length = true ∧ e.tok cols = true)) : rTurn cols e = .mk 0 0 Dat.zero [] ∧ rTurnN cols e = 30 := by
  simp only [rTurn, rTurnN, RTurn, if_neg h]
  exact ⟨rfl, rfl⟩

theorem size_of_may {ok : Dat → Bool} {e : ET} (h : e.may ok = true) : e.size ≤ 12000 := by
  simp only [ET.may, Bool.and_eq_true, decide_eq_true_eq] at h
  omega

/-- what is known of the parts -/
def TkQ (n : Nat) (x : ET) : Prop := x.fits ∧ (∃ deep, x.good okD deep = true) ∧ x.within n = true
theorem TkQ.closed (n : Nat) : ∀ e, TkQ n e → e.fits ∧ ∀ k ∈ e.kids, TkQ n k := by
  intro e h
  refine ⟨h.1, fun k hk => ?_⟩
  obtain ⟨h1, ⟨deep, h2⟩, h3⟩ := h
  cases e with
  | mk o c d ks =>
    simp only [ET.fits] at h1
    simp only [ET.good, Bool.and_eq_true, ET.goods_iff] at h2
    simp only [ET.within, Bool.and_eq_true, ET.withins_iff] at h3
    exact ⟨ET.fitss_iff.1 h1.2.2.2.2 k hk, ⟨deep + 1, h2.2 k hk⟩, h3.2 k hk⟩
theorem TkQ.col {n : Nat} {e : ET} (h : TkQ n e) (o1 : e.op = 1) : 0 ≤ e.col ∧ e.col < n := by
  obtain ⟨-, ⟨deep, h2⟩, h3⟩ := h
  cases e with
  | mk o c d ks =>
    simp only [ET.op] at o1
    subst o1
    simp only [ET.good, Bool.and_eq_true] at h2
    simp only [ET.within, Bool.and_eq_true] at h3
    refine ⟨((own_mk h2.1.1).2.1 rfl).1, ?_⟩
    have := h3.1
    simp at this
    exact this

/-- a part whose new column is none -/
def TkBad (cols : List Int) (x : ET) : Prop := x.op = 1 ∧ ¬ (0 ≤ cols.getD x.col.toNat 0 ∧ cols.getD x.col.toNat 0 ≤ 9999)

theorem ET.tok_of_pre (cols : List Int) (ok : Dat → Bool) : ∀ (e : ET) (deep : Nat), e.good ok deep = true → ((∀ x ∈ e.pre deep, ¬ TkBad cols x.2) ↔ e.tok cols = true) := by
  refine ET.ind fun o c d ks ih deep hg => ?_
  simp only [ET.good, Bool.and_eq_true, decide_eq_true_eq, ET.goods_iff] at hg
  obtain ⟨⟨-, h2⟩, h3⟩ := hg
  simp only [ET.pre, if_pos h2, List.mem_cons, ET.tok, Bool.and_eq_true, ET.toks_iff, Bool.or_eq_true, Bool.not_eq_true', decide_eq_false_iff_not, decide_eq_true_eq]
  constructor
  · intro h
    refine ⟨?_, fun k hk => (ih k hk (deep + 1) (h3 k hk)).1 fun x hx => h x (.inr (ET.mem_pres.2 ⟨k, hk, hx⟩))⟩
    have := h _ (.inl rfl)
    simp only [TkBad, ET.op, ET.col] at this
    by_cases e : o = 1
    · right
      exact Classical.not_not.1 fun hn => this ⟨e, hn⟩
    · left; exact e
  · rintro ⟨h1, h4⟩ x (rfl | hx) ⟨ho, hn⟩
    · simp only [ET.op, ET.col] at ho hn
      rcases h1 with h1 | h1
      · exact h1 ho
      · exact hn h1
    · obtain ⟨k, hk, hx⟩ := ET.mem_pres.1 hx
      exact (ih k hk (deep + 1) (h3 k hk)).2 (h4 k hk) x hx ⟨ho, hn⟩

structure TkAll (cols : List Int) {Q : ET → Prop} (ps : List (PartQ Q)) : Prop where
  «at» : ∀ x ∈ ps, ¬ TkBad cols x.e
structure TkNo (cols : List Int) {Q : ET → Prop} (ps : List (PartQ Q)) : Prop where
  out : ¬ ∀ x ∈ ps, ¬ TkBad cols x.e
theorem TkAll.nil {cols : List Int} {Q : ET → Prop} : TkAll cols ([] : List (PartQ Q)) := ⟨fun x hx => by cases hx⟩
theorem TkAll.snoc {cols : List Int} {Q : ET → Prop} {ps : List (PartQ Q)} {x : PartQ Q} (h : TkAll cols ps) (hx : ¬ TkBad cols x.e) : TkAll cols (ps ++ [x]) := ⟨fun y hy => by
  rcases List.mem_append.1 hy with hy | hy
  · exact h.at y hy
  · simp at hy; subst hy; exact hx⟩
theorem TkNo.snoc {cols : List Int} {Q : ET → Prop} {ps : List (PartQ Q)} {x : PartQ Q} (hx : TkBad cols x.e) : TkNo cols (ps ++ [x]) := ⟨fun h => h x (by simp) hx⟩

theorem results_row_cell {P : Program} {fn : Func} {p q : Tmp} {ty ty2 : TypeId} (h : fn.results = #[.cell p ty, .cell q ty2]) (tmps : Array Value) (w : World) (g g2 : Nat) (t t2 : TypeId) (cs : Array Value) (fr fr2 : Nat × Nat) (d : TypeDesc) (v : Value)
    (hp : tmps.getD p undef = .pointer (some ⟨g, 0, none⟩)) (hq : tmps.getD q undef = .pointer (some ⟨g2, 0, none⟩)) (hg : w.heap[g]? = some (.cells cs t fr)) (hg2 : w.heap[g2]? = some (.cells #[v] t2 fr2))
    (hu : P.underlying ty = some d) (hd : (match d with | .struct _ | .array _ _ => true | _ => false) = true) (hi : (P.info? ty).map (·.size) = some cs.size) (ha : (isAgg ty2).run P w = .ok false w) :
    (results fn tmps).run P w = .ok (.tuple #[.agg cs, v]) w := by
  have hp' : tmps[p]?.getD undef = .pointer (some ⟨g, 0, none⟩) := by simpa using hp
  have hq' : tmps[q]?.getD undef = .pointer (some ⟨g2, 0, none⟩) := by simpa using hq
  have hc : w.cell? ⟨g2, 0, none⟩ = some v := cell_of_heap hg2 rfl
  have hl2 : (loadVar ty2 ⟨g2, 0, none⟩).run P w = .ok v w := by simp [loadVar, ha, hc, go_sem]
  simp [results, h, hp', hq', asAddr, run_loadVar_row w g t ty cs fr d hg hu hd hi, hl2]

/-- a row of cells that is written over -/
def setRow7 (w : World) (b : Nat) (v0 v1 v2 v3 v4 v5 v6 : Value) : World := ((((((w.setCell ⟨b, 0, none⟩ v0).setCell ⟨b, 1, none⟩ v1).setCell ⟨b, 2, none⟩ v2).setCell ⟨b, 3, none⟩ v3).setCell ⟨b, 4, none⟩ v4).setCell ⟨b, 5, none⟩ v5).setCell ⟨b, 6, none⟩ v6
theorem setRow7_size {w : World} {b : Nat} {v0 v1 v2 v3 v4 v5 v6 : Value} : (setRow7 w b v0 v1 v2 v3 v4 v5 v6).heap.size = w.heap.size := by simp [setRow7, World.setCell]
theorem setRow7_at {w : World} {b : Nat} {c0 c1 c2 c3 c4 c5 c6 v0 v1 v2 v3 v4 v5 v6 : Value} {t : TypeId} {f : Nat × Nat} (h : w.heap[b]? = some (.cells #[c0, c1, c2, c3, c4, c5, c6] t f)) : (setRow7 w b v0 v1 v2 v3 v4 v5 v6).heap[b]? = some (.cells #[v0, v1, v2, v3, v4, v5, v6] t f) := by
  have h := heap_set_same (o := 6) (v := v6) (heap_set_same (o := 5) (v := v5) (heap_set_same (o := 4) (v := v4) (heap_set_same (o := 3) (v := v3) (heap_set_same (o := 2) (v := v2) (heap_set_same (o := 1) (v := v1) (heap_set_same (o := 0) (v := v0) h))))))
  simpa [setRow7] using h
theorem setRow7_ne {w : World} {b g : Nat} {v0 v1 v2 v3 v4 v5 v6 : Value} (h : g ≠ b) : (setRow7 w b v0 v1 v2 v3 v4 v5 v6).heap[g]? = w.heap[g]? := by
  simp only [setRow7, heap_set_ne h]
theorem setRow7_below {B : Nat} {w w' : World} {b : Nat} {v0 v1 v2 v3 v4 v5 v6 : Value} (h : Below B w w') (hb : B ≤ b) : Below B w (setRow7 w' b v0 v1 v2 v3 v4 v5 v6) :=
  ((((((h.setCell (p := ⟨b, 0, none⟩) hb _).setCell (p := ⟨b, 1, none⟩) hb _).setCell (p := ⟨b, 2, none⟩) hb _).setCell (p := ⟨b, 3, none⟩) hb _).setCell (p := ⟨b, 4, none⟩) hb _).setCell (p := ⟨b, 5, none⟩) hb _).setCell (p := ⟨b, 6, none⟩) hb _
theorem setRow7_kps {S : Nat → Prop} {w : World} {b : Nat} {v0 v1 v2 v3 v4 v5 v6 : Value} (hb : S b) : KpS S w (setRow7 w b v0 v1 v2 v3 v4 v5 v6) :=
  ((((((KpS.setCell hb).trans (KpS.setCell hb)).trans (KpS.setCell hb)).trans (KpS.setCell hb)).trans (KpS.setCell hb)).trans (KpS.setCell hb)).trans (KpS.setCell hb)
theorem setRow7_keeps {w : World} {b : Nat} {v0 v1 v2 v3 v4 v5 v6 : Value} : KeepsOthers w (setRow7 w b v0 v1 v2 v3 v4 v5 v6) :=
  ((((((KeepsOthers.setCell _ _ _).trans (KeepsOthers.setCell _ _ _)).trans (KeepsOthers.setCell _ _ _)).trans (KeepsOthers.setCell _ _ _)).trans (KeepsOthers.setCell _ _ _)).trans (KeepsOthers.setCell _ _ _)).trans (KeepsOthers.setCell _ _ _)

theorem four_below (w : World) (a b c d : Obj) : Below w.heap.size w ((((w.alloc a).alloc b).alloc c).alloc d) := (three_below w a b c).alloc (by simp <;> omega) _
theorem four_at {w w1 : World} {a b c d : Obj} (hb : Below ((((w.alloc a).alloc b).alloc c).alloc d).heap.size ((((w.alloc a).alloc b).alloc c).alloc d) w1) : w1.heap[w.heap.size]? = some a ∧ w1.heap[w.heap.size + 1]? = some b ∧ w1.heap[w.heap.size + 1 + 1]? = some c ∧ w1.heap[w.heap.size + 1 + 1 + 1]? = some d := by
  have h := three_at (w := w) (a := a) (b := b) (c := c) (w1 := (((w.alloc a).alloc b).alloc c).alloc d) ((Below.refl _ _).alloc (Nat.le_refl _) _)
  refine ⟨(hb.block _ (by simp <;> omega)).trans h.1, (hb.block _ (by simp <;> omega)).trans h.2.1, (hb.block _ (by simp <;> omega)).trans h.2.2, (hb.block _ (by simp)).trans ?_⟩
  have h := heap_alloc_new (((w.alloc a).alloc b).alloc c) d
  rw [World.size_alloc, World.size_alloc, World.size_alloc] at h
  exact h

def T18 (cols : List Int) (e : ET) (w : World) (ev : Ending) (w' : World) : Prop :=
  ∃ (sa : Option Addr) (sn sc : Nat), ev = .returned (.tuple #[(rTurn cols e).agg (.slice sa sn sc), .int .u16 (rTurnN cols e)]) ∧ (rTurn cols e).On (Btw w.heap.size w'.heap.size) w' (.slice sa sn sc) ∧ Below w.heap.size w w'
theorem t18_no {cols : List Int} {e : ET} {w w' : World} (h : ¬ (e.may okD = true ∧ e.within cols.length = true ∧ e.tok cols = true)) (hb : Below w.heap.size w w') : T18 cols e w (.returned (.tuple #[.agg #[.int .u8 0, .slice none 0 0, .int .i64 0, .int .u8 0, .bool false, .int .i64 0, .string ⟨#[]⟩], .int .u16 30])) w' := by
  obtain ⟨h1, h2⟩ := rTurn_no h
  refine ⟨none, 0, 0, ?_, ?_, hb⟩
  · rw [h1, h2]; rfl
  · rw [h1]; exact on_nil _ _ _ _ _

end Go.Proofs.YtlpehdhgdpeoeaaGreatDoor
/- The reference's Turn. -/
namespace Go.Proofs.YtlpehdhgdpeoeaaGreatDoor
open Go.RowKit Go.Pen Go.Shelf
attribute [local go_sem] Oper.semAt_some

def T19 (cols : List Int) (e : ET) (w : World) (ev : Ending) (w' : World) : Prop :=
  ∃ (sa : Option Addr) (sn sc : Nat), ev = .returned (.tuple #[(rTurn cols e).agg (.slice sa sn sc), .int .i64 (rTurnN cols e)]) ∧ (rTurn cols e).On (Btw w.heap.size w'.heap.size) w' (.slice sa sn sc) ∧ Below w.heap.size w w'
theorem t19_no {cols : List Int} {e : ET} {w w' : World} (h : ¬ (e.may okD = true ∧ e.within cols.length = true ∧ e.tok cols = true)) (hb : Below w.heap.size w w') : T19 cols e w (.returned (.tuple #[.agg #[.int .u8 0, .slice none 0 0, .int .i64 0, .int .u8 0, .bool false, .int .i64 0, .string ⟨#[]⟩], .int .i64 30])) w' := by
  obtain ⟨h1, h2⟩ := rTurn_no h
  refine ⟨none, 0, 0, ?_, ?_, hb⟩
  · rw [h1, h2]; rfl
  · rw [h1]; exact on_nil _ _ _ _ _
theorem t19_yes {cols : List Int} {e : ET} {w w' : World} {sa : Option Addr} {sn sc : Nat} (h : rTurn cols e = e.turn cols ∧ rTurnN cols e = 0) (ho : (e.turn cols).On (Btw w.heap.size w'.heap.size) w' (.slice sa sn sc)) (hb : Below w.heap.size w w') : T19 cols e w (.returned (.tuple #[(e.turn cols).agg (.slice sa sn sc), .int .i64 0])) w' := by
  refine ⟨sa, sn, sc, ?_, ?_, hb⟩
  · rw [h.1, h.2]; rfl
  · rw [h.1]; exact ho
theorem two_at {w w1 : World} {a b : Obj} (hb : Below ((w.alloc a).alloc b).heap.size ((w.alloc a).alloc b) w1) : w1.heap[w.heap.size]? = some a ∧ w1.heap[w.heap.size + 1]? = some b := by
  refine ⟨(hb.block _ (by simp <;> omega)).trans ?_, (hb.block _ (by simp <;> omega)).trans ?_⟩
  · rw [Below.heap_alloc _ _ _ (by simp <;> omega)]
    exact heap_alloc_new w a
  · have h := heap_alloc_new (w.alloc a) b
    rw [World.size_alloc] at h
    exact h

end Go.Proofs.YtlpehdhgdpeoeaaGreatDoor
/- The reference's Far, Check and Turn. -/
namespace Go.Proofs.YtlpehdhgdpeoeaaGreatDoor
open Go.RowKit Go.Pen
attribute [local go_sem] Oper.semAt_some

theorem mayB_may (e : ET) : MayB e 1 0 = e.may okD := by simp [MayB, ET.may]

end Go.Proofs.YtlpehdhgdpeoeaaGreatDoor
