import Derived.Test.YtmmhedlagnjbiaaGreatDoorFm
import Derived.Test.YtmmhedlagnjbiaaGreatDoorN
import Derived.Lib.SliceRun
/- our texts, shortened by program (pack.py) -/
set_option maxRecDepth 100000
set_option maxHeartbeats 2000000
namespace Go.Proofs.YtmmhedlagnjbiaaGreatDoor
open Go.RowKit Go.Pen
attribute [local go_sem] Oper.semAt_some
theorem isLit_op (e : ET) : e.isLit = decide (e.op = 2) := rfl
theorem literal_48 (e : ET) (a : Option Addr) (n cc : Nat) (w : World) :
  Calls Tryz.prog 48 #[e.agg (.slice a n cc)] w fun ev w' => ev = .returned (.bool e.isLit) ∧ Below w.heap.size w w' := by
 unfold ET.agg
 go_enter Tryz.func48, Tryz.ntmps48
 go_wp2
 go_ret
 exact ⟨rfl, one_below _ _⟩
theorem literal_59 (e : ET) (a : Option Addr) (n cc : Nat) (w : World) :
  Calls Tryz.prog 59 #[e.agg (.slice a n cc)] w fun ev w' => ev = .returned (.bool e.isLit) ∧ Below w.heap.size w w' := by
 unfold ET.agg
 go_enter Tryz.func59, Tryz.ntmps59
 go_wp2
 go_ret
 exact ⟨rfl, one_below _ _⟩
def ET.is (b : Bool) (e : ET) : Bool := e.isLit && decide (e.lit = ⟨2, b, 0, ⟨#[]⟩⟩)
theorem run_eq_dat (d : Dat) (k : Int) (b : Bool) (n : Int) (t : ByteArray) (w : World) : (Op.equalIn 10000 25 (.agg #[.int .u8 d.kind, .bool d.bool, .int .i64 d.int, .string d.text]) (.agg #[.int .u8 k, .bool b, .int .i64 n, .string t])).run Tryz.prog w = .ok (decide (d = ⟨k, b, n, t⟩)) w := by
 obtain ⟨dk, db, di, dt⟩ := d
 have ht : (dt.toList = t.toList) ↔ dt = t := by
  rw [ByteArray.toList_eq, ByteArray.toList_eq]
  obtain ⟨⟨x⟩⟩ := dt
  obtain ⟨⟨y⟩⟩ := t
  simp
 simp [go_sem, ht]
 by_cases h1 : dk = k <;> by_cases h2 : db = b <;> by_cases h3 : di = n <;> by_cases h4 : dt = t <;> simp [h1, h2, h3, h4]
theorem is_50 (e : ET) (b : Bool) (a : Option Addr) (n cc : Nat) (w : World) :
  Calls Tryz.prog 50 #[e.agg (.slice a n cc), .bool b] w fun ev w' => ev = .returned (.bool (e.is b)) ∧ Below w.heap.size w w' := by
 have hl := fun W => literal_48 e a n cc W
 have hX : e.is b = (e.isLit && (e.is b)) := by unfold ET.is; cases e.isLit <;> rfl
 obtain ⟨X, eX⟩ : ∃ X, X = e.is b := ⟨_, rfl⟩
 rw [← eX] at hX ⊢
 obtain ⟨p, hp⟩ : ∃ p, p = e.isLit := ⟨_, rfl⟩
 simp only [← hp] at hl hX
 have HX := Lib.hid hX
 have HP := Lib.hid hp
 have EX := Lib.hid eX
 unfold ET.agg at hl ⊢
 have HL := Lib.hid hl
 clear hl hp hX eX
 cases p
 ·have e0 := HX.out
  simp only [Bool.false_and] at e0
  subst e0
  go_enter Tryz.func50, Tryz.ntmps50
  go_wp2_with fail
  refine (HL.out _).mono ?_
  rintro ev w2 ⟨rfl, hb2⟩
  have HB := Lib.hid ((one_below _ _).trans (hb2.mono (by simp)))
  clear hb2
  go_wp2
  go_ret
  exact ⟨rfl, HB.out⟩
 ·go_enter Tryz.func50, Tryz.ntmps50
  go_wp2_with fail
  refine (HL.out _).mono ?_
  rintro ev w2 ⟨rfl, hb2⟩
  have t := one_at hb2
  have c3 := cell_of_heap (o := 3) t rfl
  have c4 := cell_of_heap (o := 4) t rfl
  have c5 := cell_of_heap (o := 5) t rfl
  have c6 := cell_of_heap (o := 6) t rfl
  have HB := Lib.hid ((one_below _ _).trans (hb2.mono (by simp)))
  clear t hb2
  have q := run_eq_dat e.lit 2 b 0 ⟨#[]⟩
  go_wp2
  go_ret
  refine ⟨?_, HB.out⟩
  rw [EX.out]
  unfold ET.is
  rw [← HP.out]
  rfl
theorem null_51 (e : ET) (a : Option Addr) (n cc : Nat) (w : World) :
  Calls Tryz.prog 51 #[e.agg (.slice a n cc)] w fun ev w' => ev = .returned (.bool (e.nil)) ∧ Below w.heap.size w w' := by
 have hl := fun W => literal_48 e a n cc W
 have hX : e.nil = (e.isLit && (e.nil)) := by unfold ET.nil ET.isLit; cases decide (e.op = 2) <;> rfl
 obtain ⟨X, eX⟩ : ∃ X, X = e.nil := ⟨_, rfl⟩
 rw [← eX] at hX ⊢
 obtain ⟨p, hp⟩ : ∃ p, p = e.isLit := ⟨_, rfl⟩
 simp only [← hp] at hl hX
 have HX := Lib.hid hX
 have HP := Lib.hid hp
 have EX := Lib.hid eX
 unfold ET.agg at hl ⊢
 have HL := Lib.hid hl
 clear hl hp hX eX
 cases p
 ·have e0 := HX.out
  simp only [Bool.false_and] at e0
  subst e0
  go_enter Tryz.func51, Tryz.ntmps51
  go_wp2_with fail
  refine (HL.out _).mono ?_
  rintro ev w2 ⟨rfl, hb2⟩
  have HB := Lib.hid ((one_below _ _).trans (hb2.mono (by simp)))
  clear hb2
  go_wp2
  go_ret
  exact ⟨rfl, HB.out⟩
 ·go_enter Tryz.func51, Tryz.ntmps51
  go_wp2_with fail
  refine (HL.out _).mono ?_
  rintro ev w2 ⟨rfl, hb2⟩
  have t := one_at hb2
  have c3 := cell_of_heap (o := 3) t rfl
  have c4 := cell_of_heap (o := 4) t rfl
  have c5 := cell_of_heap (o := 5) t rfl
  have c6 := cell_of_heap (o := 6) t rfl
  have HB := Lib.hid ((one_below _ _).trans (hb2.mono (by simp)))
  clear t hb2
  go_wp2
  go_ret
  refine ⟨?_, HB.out⟩
  rw [EX.out]
  have h := HP.out
  unfold ET.isLit at h
  unfold ET.nil
  rw [← h]
  rfl
theorem null_58 (e : ET) (a : Option Addr) (n cc : Nat) (w : World) :
  Calls Tryz.prog 58 #[e.agg (.slice a n cc)] w fun ev w' => ev = .returned (.bool (e.nil)) ∧ Below w.heap.size w w' := by
 have hl := fun W => literal_59 e a n cc W
 have hX : e.nil = (e.isLit && (e.nil)) := by unfold ET.nil ET.isLit; cases decide (e.op = 2) <;> rfl
 obtain ⟨X, eX⟩ : ∃ X, X = e.nil := ⟨_, rfl⟩
 rw [← eX] at hX ⊢
 obtain ⟨p, hp⟩ : ∃ p, p = e.isLit := ⟨_, rfl⟩
 simp only [← hp] at hl hX
 have HX := Lib.hid hX
 have HP := Lib.hid hp
 have EX := Lib.hid eX
 unfold ET.agg at hl ⊢
 have HL := Lib.hid hl
 clear hl hp hX eX
 cases p
 ·have e0 := HX.out
  simp only [Bool.false_and] at e0
  subst e0
  go_enter Tryz.func58, Tryz.ntmps58
  go_wp2_with fail
  refine (HL.out _).mono ?_
  rintro ev w2 ⟨rfl, hb2⟩
  have HB := Lib.hid ((one_below _ _).trans (hb2.mono (by simp)))
  clear hb2
  go_wp2
  go_ret
  exact ⟨rfl, HB.out⟩
 ·go_enter Tryz.func58, Tryz.ntmps58
  go_wp2_with fail
  refine (HL.out _).mono ?_
  rintro ev w2 ⟨rfl, hb2⟩
  have t := one_at hb2
  have c3 := cell_of_heap (o := 3) t rfl
  have c4 := cell_of_heap (o := 4) t rfl
  have c5 := cell_of_heap (o := 5) t rfl
  have c6 := cell_of_heap (o := 6) t rfl
  have HB := Lib.hid ((one_below _ _).trans (hb2.mono (by simp)))
  clear t hb2
  go_wp2
  go_ret
  refine ⟨?_, HB.out⟩
  rw [EX.out]
  have h := HP.out
  unfold ET.isLit at h
  unfold ET.nil
  rw [← h]
  rfl
theorem step1_47 (k : ET) (a : Option Addr) (n cc : Nat) (w : World) :
  Calls Tryz.prog 47 #[k.agg (.slice a n cc)] w fun ev w' => ev = .returned (.bool (!k.isLit)) ∧ Below w.heap.size w w' := by
 have hl := fun W => literal_48 k a n cc W
 obtain ⟨p, hp⟩ : ∃ p, p = k.isLit := ⟨_, rfl⟩
 simp only [← hp] at hl ⊢
 unfold ET.agg at hl ⊢
 have HL := Lib.hid hl
 clear hl hp
 go_enter Tryz.func47, Tryz.ntmps47
 go_wp2_with fail
 refine (HL.out _).mono ?_
 rintro ev w2 ⟨rfl, hb2⟩
 have HB := Lib.hid ((one_below _ _).trans (hb2.mono (by simp)))
 clear hb2
 go_wp2
 go_ret
 exact ⟨rfl, HB.out⟩
theorem step2_54 (k : ET) (a : Option Addr) (n cc : Nat) (w : World) :
  Calls Tryz.prog 54 #[k.agg (.slice a n cc)] w fun ev w' => ev = .returned (.bool k.full) ∧ Below w.heap.size w w' := by
 have hl := fun W => literal_48 k a n cc W
 have hn := fun W => null_51 k a n cc W
 obtain ⟨p, hp⟩ : ∃ p, p = k.isLit := ⟨_, rfl⟩
 obtain ⟨q, hq⟩ : ∃ q, q = k.nil := ⟨_, rfl⟩
 have hX : k.full = (p && !q) := by
  rw [hp, hq]; unfold ET.full ET.isLit ET.nil
  cases decide (k.op = 2) <;> cases decide (k.lit.kind = 1) <;> rfl
 rw [hX]
 simp only [← hp] at hl
 simp only [← hq] at hn
 unfold ET.agg at hl hn ⊢
 have HL := Lib.hid hl
 have HN := Lib.hid hn
 clear hl hp hn hq hX
 cases p
 ·go_enter Tryz.func54, Tryz.ntmps54
  go_wp2_with fail
  refine (HL.out _).mono ?_
  rintro ev w2 ⟨rfl, hb2⟩
  have HB := Lib.hid ((one_below _ _).trans (hb2.mono (by simp)))
  clear hb2
  go_wp2
  go_ret
  exact ⟨rfl, HB.out⟩
 ·go_enter Tryz.func54, Tryz.ntmps54
  go_wp2_with fail
  refine (HL.out _).mono ?_
  rintro ev w2 ⟨rfl, hb2⟩
  have t := one_at hb2
  obtain ⟨c0, c1, c2, c3, c4, c5, c6⟩ := cs7 t
  have HB := Lib.hid ((one_below _ _).trans (hb2.mono (by simp)))
  clear t hb2
  go_wp2_with fail
  refine (HN.out _).mono ?_
  rintro ev w3 ⟨rfl, hb3⟩
  have HB3 := Lib.hid (HB.out.trans (hb3.mono HB.out.size))
  clear hb3 c0 c1 c2 c3 c4 c5 c6
  go_wp2
  go_ret
  exact ⟨rfl, HB3.out⟩
theorem truth_57 (e : ET) (b : Bool) (a : Option Addr) (n cc : Nat) (w : World) :
  Calls Tryz.prog 57 #[e.agg (.slice a n cc), .bool b] w fun ev w' => ev = .returned (.bool (e.tru b)) ∧ Below w.heap.size w w' := by
 have hl := fun W => literal_59 e a n cc W
 obtain ⟨p, hp⟩ : ∃ p, p = e.isLit := ⟨_, rfl⟩
 obtain ⟨q, hq⟩ : ∃ q, q = decide (e.lit.kind = 2) := ⟨_, rfl⟩
 have hX : e.tru b = (p && q && (e.lit.bool == b)) := by rw [hp, hq]; rfl
 have hk : (e.lit.kind == 2) = q := by rw [hq]; rfl
 rw [hX]
 simp only [← hp] at hl
 unfold ET.agg at hl ⊢
 have HL := Lib.hid hl
 clear hl hp hq hX
 cases p
 ·go_enter Tryz.func57, Tryz.ntmps57
  go_wp2_with fail
  refine (HL.out _).mono ?_
  rintro ev w2 ⟨rfl, hb2⟩
  have HB := Lib.hid ((one_below _ _).trans (hb2.mono (by simp)))
  clear hb2
  go_wp2
  go_ret
  exact ⟨rfl, HB.out⟩
 ·cases q
  all_goals
   go_enter Tryz.func57, Tryz.ntmps57
   go_wp2_with fail
   refine (HL.out _).mono ?_
   rintro ev w2 ⟨rfl, hb2⟩
   have t := one_at hb2
   have c3 := cell_of_heap (o := 3) t rfl
   have c4 := cell_of_heap (o := 4) t rfl
   have HB := Lib.hid ((one_below _ _).trans (hb2.mono (by simp)))
   clear t hb2
   go_wp2
   go_ret
   exact ⟨rfl, HB.out⟩
theorem literals_56 (o c : Int) (d : Dat) (ks : List ET) (v : Value) (w : World) (hat : (ET.mk o c d ks).At w v) (hn : ks.length ≤ 12000) :
  Calls Tryz.prog 56 #[v] w fun ev w' => ev = .returned (.bool (ks.all ET.isLit)) ∧ Below w.heap.size w w' := by
 obtain ⟨a, cc, rfl, -, hks⟩ := ET.On.iff.1 hat
 simp only [ET.kids] at hks ⊢
 obtain ⟨K, eK⟩ : ∃ K, K = ks.length := ⟨_, rfl⟩
 rw [← eK] at hn ⊢
 have EK := Lib.hid eK
 have HKS := Lib.hid hks
 have hcl := fun (k : ET) a n cc W => literal_59 k a n cc W
 unfold ET.agg at hcl
 have HCL := Lib.hid hcl
 obtain ⟨R, eR⟩ : ∃ R, R = ks.all ET.isLit := ⟨_, rfl⟩
 rw [← eR]
 have ER := Lib.hid eR
 clear hat hks eK hcl eR
 go_enter Tryz.func56, Tryz.ntmps56
 go_wp2_with fail
 go_loopg [3] K (fun g s3 wr => ∃ i : Nat, i ≤ K ∧ g = K - i ∧ s3 = .int .i64 i ∧ (∀ (j : Nat) x, j < i → ks[j]? = some x → x.isLit = true) ∧ Below w.heap.size w wr)
 case atStart => exact ⟨0, Nat.zero_le _, by omega, rfl, (fun j x hj => by omega), Below.refl _ _⟩
 case round =>
  obtain ⟨i, hi, rfl, rfl, hall, hbw⟩ := hrel
  have HALL := Lib.hid hall
  clear hall
  by_cases hlt : i < K
  ·obtain ⟨k, hk⟩ : ∃ k, ks[i]? = some k := ⟨ks[i]'(by rw [← EK.out]; exact hlt), List.getElem?_eq_getElem _⟩
   obtain ⟨b, off, rfl, -, hats⟩ := HKS.out (fun e => by rw [e] at hk; simp at hk)
   obtain ⟨kv, hkc, hkat⟩ := hats.get hk
   obtain ⟨a', c', rfl⟩ := hkat.slice
   obtain ⟨k0, k1, k2, k3, k4, k5, k6⟩ := hkc.below hbw
   have HK := Lib.hid hk
   have HBW := Lib.hid hbw
   clear hats hkc hkat hk hbw
   go_wp2_with fail
   refine (HCL.out k a' k.kids.length c' _).mono ?_
   rintro ev w3 ⟨rfl, hb3⟩
   have HB3 := Lib.hid (HBW.out.trans (hb3.mono HBW.out.size))
   clear hb3 k0 k1 k2 k3 k4 k5 k6
   obtain ⟨p, hp⟩ : ∃ p, p = k.isLit := ⟨_, rfl⟩
   rw [← hp]
   have HP := Lib.hid hp
   clear hp
   cases p
   ·go_wp2
    go_ret
    refine ⟨?_, HB3.out⟩
    rw [ER.out]
    have : ks.all ET.isLit = false := by
     rw [List.all_eq_false]
     exact ⟨k, List.mem_of_getElem? HK.out, by rw [← HP.out]; decide⟩
    rw [this]; rfl
   ·go_wp2
    go_roundg (K - (i + 1))
    case measure => omega
    case rel => exact ⟨i + 1, by omega, rfl, by go_num, fun j x hj hx => by
     by_cases e : j < i
     ·exact HALL.out j x e hx
     ·obtain rfl : j = i := by omega
      rw [HK.out] at hx; cases hx; exact HP.out.symm, HB3.out⟩
  ·obtain rfl : i = K := by omega
   have HBW := Lib.hid hbw
   clear hbw
   go_wp2
   go_ret
   refine ⟨?_, HBW.out⟩
   rw [ER.out]
   have : ks.all ET.isLit = true := by
    rw [List.all_eq_true]
    intro x hx
    obtain ⟨j, hj, he⟩ := List.mem_iff_getElem.1 hx
    exact HALL.out j x (by rw [EK.out]; exact hj) (by rw [← he]; exact List.getElem?_eq_getElem _)
   rw [this]; rfl
end Go.Proofs.YtmmhedlagnjbiaaGreatDoor
namespace Go.Proofs.YtmmhedlagnjbiaaGreatDoor
open Go.RowKit Go.Pen
attribute [local go_sem ↓] Go.wp_at_zero Go.wp_at_succ
attribute [local go_sem] Oper.semAt_some
def idxR (Pr : ET → Bool) (ks : List ET) : Int := if ks.findIdx Pr < ks.length then (ks.findIdx Pr : Int) else -1
theorem idxR_at {Pr : ET → Bool} {ks : List ET} {i : Nat} {k : ET} (hk : ks[i]? = some k) (hp : Pr k = true) (hl : ∀ (j : Nat) x, j < i → ks[j]? = some x → Pr x = false) : idxR Pr ks = i := by
 have hi := (List.getElem?_eq_some_iff.1 hk).1
 have h : ks.findIdx Pr = i := by
  refine (List.findIdx_eq hi).2 ⟨?_, fun j hj => hl j _ hj (List.getElem?_eq_getElem _)⟩
  rw [(List.getElem?_eq_some_iff.1 hk).2]; exact hp
 unfold idxR
 rw [if_pos (by omega), h]
theorem idxR_none {Pr : ET → Bool} {ks : List ET} (hl : ∀ (j : Nat) x, j < ks.length → ks[j]? = some x → Pr x = false) : idxR Pr ks = -1 := by
 have h : ks.findIdx Pr = ks.length := by
  refine List.findIdx_eq_length_of_false fun x hx => ?_
  obtain ⟨j, hj, he⟩ := List.mem_iff_getElem.1 hx
  have := hl j x hj (by rw [← he]; exact List.getElem?_eq_getElem _)
  simp [this]
 unfold idxR
 rw [if_neg (by omega)]
theorem idxR_any (Pr : ET → Bool) (ks : List ET) : decide (0 ≤ idxR Pr ks) = ks.any Pr := by
 have h := List.findIdx_lt_length (p := Pr) (xs := ks)
 unfold idxR
 by_cases hl : ks.findIdx Pr < ks.length
 ·rw [if_pos hl, List.any_eq_true.2 (h.1 hl)]; simp
 ·rw [if_neg hl]
  have : ks.any Pr = false := by
   rw [Bool.eq_false_iff]
   intro ha
   exact hl (h.2 (List.any_eq_true.1 ha))
  rw [this]; rfl
theorem index_53 (gf : Nat) (hg : gf = 47 ∨ gf = 54) (Pr : ET → Bool) (hcl : ∀ (k : ET) (a : Option Addr) (n cc : Nat) (W : World), Calls Tryz.prog gf #[k.agg (.slice a n cc)] W fun ev w' => ev = .returned (.bool (Pr k)) ∧ Below W.heap.size W w')
  (o c : Int) (d : Dat) (ks : List ET) (v : Value) (w : World) (hat : (ET.mk o c d ks).At w v) (hn : ks.length ≤ 12000) :
  Calls Tryz.prog 53 #[v, .func (.func gf) #[] #[]] w fun ev w' => ev = .returned (.int .i64 (idxR Pr ks)) ∧ Below w.heap.size w w' := by
 obtain ⟨a, cc, rfl, -, hks⟩ := ET.On.iff.1 hat
 simp only [ET.kids] at hks ⊢
 obtain ⟨K, eK⟩ : ∃ K, K = ks.length := ⟨_, rfl⟩
 rw [← eK] at hn ⊢
 have EK := Lib.hid eK
 have HKS := Lib.hid hks
 unfold ET.agg at hcl
 have HCL := Lib.hid hcl
 obtain ⟨R, eR⟩ : ∃ R, R = idxR Pr ks := ⟨_, rfl⟩
 rw [← eR]
 have ER := Lib.hid eR
 clear hat hks eK hcl eR
 rcases hg with rfl | rfl
 all_goals
  go_enter Tryz.func53, Tryz.ntmps53
  go_wp2_with fail
  go_loopg [8] K (fun g s8 wr => ∃ i : Nat, i ≤ K ∧ g = K - i ∧ s8 = .int .i64 i ∧ (∀ (j : Nat) x, j < i → ks[j]? = some x → Pr x = false) ∧ Below w.heap.size w wr)
  case atStart => exact ⟨0, Nat.zero_le _, by omega, rfl, (fun j x hj => by omega), Below.refl _ _⟩
  case round =>
   obtain ⟨i, hi, rfl, rfl, hall, hbw⟩ := hrel
   have HALL := Lib.hid hall
   clear hall
   by_cases hlt : i < K
   ·obtain ⟨k, hk⟩ : ∃ k, ks[i]? = some k := ⟨ks[i]'(by rw [← EK.out]; exact hlt), List.getElem?_eq_getElem _⟩
    obtain ⟨b, off, rfl, -, hats⟩ := HKS.out (fun e => by rw [e] at hk; simp at hk)
    obtain ⟨kv, hkc, hkat⟩ := hats.get hk
    obtain ⟨a', c', rfl⟩ := hkat.slice
    obtain ⟨k0, k1, k2, k3, k4, k5, k6⟩ := hkc.below hbw
    have HK := Lib.hid hk
    have HBW := Lib.hid hbw
    clear hats hkc hkat hk hbw
    go_wp2_with fail
    refine (HCL.out k a' k.kids.length c' _).mono ?_
    rintro ev w3 ⟨rfl, hb3⟩
    have HB3 := Lib.hid (HBW.out.trans (hb3.mono HBW.out.size))
    clear hb3 k0 k1 k2 k3 k4 k5 k6
    obtain ⟨p, hp⟩ : ∃ p, p = Pr k := ⟨_, rfl⟩
    rw [← hp]
    have HP := Lib.hid hp
    clear hp
    cases p
    ·go_wp2
     go_roundg (K - (i + 1))
     case measure => omega
     case rel => exact ⟨i + 1, by omega, rfl, by go_num, fun j x hj hx => by
      by_cases e : j < i
      ·exact HALL.out j x e hx
      ·obtain rfl : j = i := by omega
       rw [HK.out] at hx; cases hx; exact HP.out.symm, HB3.out⟩
    ·go_wp2
     go_ret
     exact ⟨by rw [ER.out, idxR_at HK.out HP.out.symm HALL.out]; rfl, HB3.out⟩
   ·obtain rfl : i = K := by omega
    have HBW := Lib.hid hbw
    clear hbw
    go_wp2
    go_ret
    exact ⟨by rw [ER.out, idxR_none (by rw [← EK.out]; exact HALL.out)]; rfl, HBW.out⟩
theorem contains_46 (gf : Nat) (hg : gf = 47 ∨ gf = 54) (Pr : ET → Bool) (hcl : ∀ (k : ET) (a : Option Addr) (n cc : Nat) (W : World), Calls Tryz.prog gf #[k.agg (.slice a n cc)] W fun ev w' => ev = .returned (.bool (Pr k)) ∧ Below W.heap.size W w')
  (o c : Int) (d : Dat) (ks : List ET) (v : Value) (w : World) (hat : (ET.mk o c d ks).At w v) (hn : ks.length ≤ 12000) :
  Calls Tryz.prog 46 #[v, .func (.func gf) #[] #[]] w fun ev w' => ev = .returned (.bool (ks.any Pr)) ∧ Below w.heap.size w w' := by
 have hix := index_53 gf hg Pr hcl o c d ks v w hat hn
 obtain ⟨a, cc, rfl⟩ := hat.slice
 rw [← idxR_any]
 obtain ⟨R, eR⟩ : ∃ R, R = idxR Pr ks := ⟨_, rfl⟩
 rw [← eR] at hix ⊢
 have HIX := Lib.hid hix
 clear hix hat hcl eR
 go_enter Tryz.func46, Tryz.ntmps46
 go_wp2_with fail
 refine HIX.out.mono ?_
 rintro ev w2 ⟨rfl, hb⟩
 go_wp2
 go_ret
 exact ⟨rfl, hb⟩
end Go.Proofs.YtmmhedlagnjbiaaGreatDoor
namespace Go.Proofs.YtmmhedlagnjbiaaGreatDoor
open Go.RowKit Go.Pen
attribute [local go_sem ↓] Go.wp_at_zero Go.wp_at_succ
attribute [local go_sem] Oper.semAt_some
mutual
def ET.OnC (S : Nat → Prop) (w : World) : ET → Value → Prop
 | .mk _ _ _ ks, v => ∃ a c, v = .slice a ks.length c ∧ (a = none → c = 0) ∧ (ks ≠ [] → ks.length ≤ c ∧ ∃ b o, a = some ⟨b, o, none⟩ ∧ S b ∧ ET.OnsC S w ks b o)
def ET.OnsC (S : Nat → Prop) (w : World) : List ET → Nat → Nat → Prop
 | [], _, _ => True
 | k :: ks, b, o => (∃ kv, KidCells w b o k kv ∧ k.OnC S w kv) ∧ ET.OnsC S w ks b (o + 7)
end
theorem ET.OnC.iff {S : Nat → Prop} {w : World} {e : ET} {v : Value} : e.OnC S w v ↔ ∃ a c, v = .slice a e.kids.length c ∧ (a = none → c = 0) ∧ (e.kids ≠ [] → e.kids.length ≤ c ∧ ∃ b o, a = some ⟨b, o, none⟩ ∧ S b ∧ ET.OnsC S w e.kids b o) := by
 cases e; simp only [ET.OnC, ET.kids]
theorem ET.OnsC.get {S : Nat → Prop} {w : World} {b : Nat} : ∀ {ks : List ET} {o : Nat}, ET.OnsC S w ks b o → ∀ {i : Nat} {k : ET}, ks[i]? = some k → ∃ kv, KidCells w b (o + i * 7) k kv ∧ k.OnC S w kv
 | [], _, _, i, k, hk => by simp at hk
 | x :: ks, o, h, i, k, hk => by
  simp only [ET.OnsC] at h
  cases i with
  | zero => simp at hk; subst hk; simpa using h.1
  | succ i =>
   obtain ⟨kv, h1, h2⟩ := ET.OnsC.get h.2 (i := i) (by simpa using hk)
   exact ⟨kv, by rw [show o + (i + 1) * 7 = o + 7 + i * 7 by omega]; exact h1, h2⟩
theorem ET.OnsC.mk {S : Nat → Prop} {w : World} {b : Nat} : ∀ {ks : List ET} {o : Nat}, (∀ (i : Nat) (k : ET), ks[i]? = some k → ∃ kv, KidCells w b (o + i * 7) k kv ∧ k.OnC S w kv) → ET.OnsC S w ks b o
 | [], _, _ => by simp only [ET.OnsC]
 | x :: ks, o, h => by
  simp only [ET.OnsC]
  refine ⟨by simpa using h 0 x rfl, ET.OnsC.mk fun i k hk => ?_⟩
  obtain ⟨kv, h1, h2⟩ := h (i + 1) k (by simpa using hk)
  exact ⟨kv, by rw [show o + 7 + i * 7 = o + (i + 1) * 7 by omega]; exact h1, h2⟩
theorem ET.OnC.frame {S S' : Nat → Prop} {w w' : World} (hS : ∀ g, S g → g < w.heap.size → S' g) (hf : ∀ g, S g → g < w.heap.size → w'.heap[g]? = w.heap[g]?) : ∀ {e : ET} {v : Value}, e.OnC S w v → e.OnC S' w' v := by
 intro e
 refine ET.ind (C := fun e => ∀ {v : Value}, e.OnC S w v → e.OnC S' w' v) (fun o c d ks ih v h => ?_) e
 rw [ET.OnC.iff] at h ⊢
 obtain ⟨a, cc, hv, hn, h⟩ := h
 refine ⟨a, cc, hv, hn, fun hne => ?_⟩
 obtain ⟨hcc, b, off, ha, hSb, h⟩ := h hne
 have hlt : b < w.heap.size := by
  obtain ⟨k, hk⟩ : ∃ k, (ET.mk o c d ks).kids[0]? = some k := ⟨_, List.getElem?_eq_getElem (List.length_pos_iff.2 hne)⟩
  obtain ⟨kv, h1, -⟩ := h.get hk
  exact World.block_lt_of_cell? w _ h1.1
 refine ⟨hcc, b, off, ha, hS b hSb hlt, ET.OnsC.mk fun i k hk => ?_⟩
 obtain ⟨kv, h1, h2⟩ := h.get hk
 exact ⟨kv, h1.frame (hf b hSb), ih k (List.mem_of_getElem? hk) h2⟩
theorem ET.OnC.below {S : Nat → Prop} {w w' : World} {e : ET} {v : Value} (h : e.OnC S w v) (hb : Below w.heap.size w w') : e.OnC S w' v := h.frame (fun _ h _ => h) fun g _ hg => hb.block g hg
theorem ET.OnC.wide {S S' : Nat → Prop} {w : World} (hf : ∀ g, S g → S' g) {e : ET} {v : Value} (h : e.OnC S w v) : e.OnC S' w v := h.frame (fun g h _ => hf g h) fun _ _ _ => rfl
theorem ET.OnC.lt {S : Nat → Prop} {w : World} {e : ET} {v : Value} (h : e.OnC S w v) : e.OnC (fun g => S g ∧ g < w.heap.size) w v := h.frame (fun _ h hl => ⟨h, hl⟩) fun _ _ _ => rfl
theorem ET.OnC.on {S : Nat → Prop} {w : World} : ∀ {e : ET} {v : Value}, e.OnC S w v → e.On S w v := by
 intro e
 refine ET.ind (C := fun e => ∀ {v : Value}, e.OnC S w v → e.On S w v) (fun o c d ks ih v h => ?_) e
 rw [ET.OnC.iff] at h
 rw [ET.On.iff]
 obtain ⟨a, cc, hv, hn, h⟩ := h
 refine ⟨a, cc, hv, hn, fun hne => ?_⟩
 obtain ⟨-, b, off, ha, hS, h⟩ := h hne
 refine ⟨b, off, ha, hS, ET.Ons.mk fun i k hk => ?_⟩
 obtain ⟨kv, h1, h2⟩ := h.get hk
 exact ⟨kv, h1, ih k (List.mem_of_getElem? hk) h2⟩
theorem ET.OnC.at {S : Nat → Prop} {w : World} {e : ET} {v : Value} (h : e.OnC S w v) : e.At w v := h.on.at
theorem ET.OnC.slice {S : Nat → Prop} {w : World} {e : ET} {v : Value} (h : e.OnC S w v) : ∃ a c, v = .slice a e.kids.length c := h.on.slice
theorem ET.On.slt {S : Nat → Prop} {w : World} : ∀ {e : ET} {v : Value}, e.On S w v → e.On (fun g => S g ∧ g < w.heap.size) w v := by
 intro e
 refine ET.ind (C := fun e => ∀ {v : Value}, e.On S w v → e.On (fun g => S g ∧ g < w.heap.size) w v) (fun o c d ks ih v h => ?_) e
 rw [ET.On.iff] at h ⊢
 obtain ⟨a, cc, hv, hn, h⟩ := h
 refine ⟨a, cc, hv, hn, fun hne => ?_⟩
 obtain ⟨b, off, ha, hS, h⟩ := h hne
 have hlt : b < w.heap.size := by
  obtain ⟨k, hk⟩ : ∃ k, (ET.mk o c d ks).kids[0]? = some k := ⟨_, List.getElem?_eq_getElem (List.length_pos_iff.2 hne)⟩
  obtain ⟨kv, h1, -⟩ := h.get hk
  exact World.block_lt_of_cell? w _ h1.1
 refine ⟨b, off, ha, ⟨hS, hlt⟩, ET.Ons.mk fun i k hk => ?_⟩
 obtain ⟨kv, h1, h2⟩ := h.get hk
 exact ⟨kv, h1, ih k (List.mem_of_getElem? hk) h2⟩
theorem ET.On.leaf {S S' : Nat → Prop} {w w' : World} {e : ET} {v : Value} (h : e.On S w v) (hk : e.kids = []) : e.OnC S' w' v := by
 obtain ⟨a, c, hv, hn, -⟩ := ET.On.iff.1 h
 exact ET.OnC.iff.2 ⟨a, c, hv, hn, fun hne => absurd hk hne⟩
theorem onC_nil (S : Nat → Prop) (w : World) (o c : Int) (d : Dat) : (ET.mk o c d []).OnC S w (.slice none 0 0) := ET.OnC.iff.2 ⟨none, 0, rfl, fun _ => rfl, fun h => absurd rfl h⟩
theorem onC_take {S : Nat → Prop} {w : World} {b off cc m : Nat} {ks : List ET} (hm : m ≤ ks.length) (hc : ks.length ≤ cc) (hS : S b) (h : ET.OnsC S w ks b off) (o c : Int) (d : Dat) : (ET.mk o c d (ks.take m)).OnC S w (.slice (some ⟨b, off, none⟩) m cc) := by
 have hl : (ks.take m).length = m := by rw [List.length_take]; omega
 refine ET.OnC.iff.2 ⟨_, cc, by rw [ET.kids, hl], (fun h => by cases h), fun _ => ⟨by rw [ET.kids, hl]; omega, b, off, rfl, hS, ET.OnsC.mk fun i k hk => ?_⟩⟩
 refine h.get (List.getElem?_eq_some_iff.2 ?_)
 obtain ⟨hi, he⟩ := List.getElem?_eq_some_iff.1 hk
 simp only [ET.kids] at hi he
 rw [hl] at hi
 exact ⟨by omega, by rw [← he, List.getElem_take]⟩
theorem onC_drop {S : Nat → Prop} {w : World} {b off cc m : Nat} {ks : List ET} (hm : m ≤ ks.length) (hc : ks.length ≤ cc) (hS : S b) (h : ET.OnsC S w ks b off) (o c : Int) (d : Dat) : (ET.mk o c d (ks.drop m)).OnC S w (.slice (some ⟨b, off + m * 7, none⟩) (ks.length - m) (cc - m)) := by
 have hl : (ks.drop m).length = ks.length - m := List.length_drop ..
 refine ET.OnC.iff.2 ⟨_, cc - m, by rw [ET.kids, hl], (fun h => by cases h), fun _ => ⟨by rw [ET.kids, hl]; omega, b, off + m * 7, rfl, hS, ET.OnsC.mk fun i k hk => ?_⟩⟩
 simp only [ET.kids, List.getElem?_drop] at hk
 obtain ⟨kv, h1, h2⟩ := h.get hk
 exact ⟨kv, by rw [show off + m * 7 + i * 7 = off + (m + i) * 7 by omega]; exact h1, h2⟩
def setRow7 (w : World) (b : Nat) (v0 v1 v2 v3 v4 v5 v6 : Value) : World := ((((((w.setCell ⟨b, 0, none⟩ v0).setCell ⟨b, 1, none⟩ v1).setCell ⟨b, 2, none⟩ v2).setCell ⟨b, 3, none⟩ v3).setCell ⟨b, 4, none⟩ v4).setCell ⟨b, 5, none⟩ v5).setCell ⟨b, 6, none⟩ v6
theorem setRow7_size {w : World} {b : Nat} {v0 v1 v2 v3 v4 v5 v6 : Value} : (setRow7 w b v0 v1 v2 v3 v4 v5 v6).heap.size = w.heap.size := by simp [setRow7, World.setCell]
theorem setRow7_at {w : World} {b : Nat} {c0 c1 c2 c3 c4 c5 c6 v0 v1 v2 v3 v4 v5 v6 : Value} {t : TypeId} {f : Nat × Nat} (h : w.heap[b]? = some (.cells #[c0, c1, c2, c3, c4, c5, c6] t f)) : (setRow7 w b v0 v1 v2 v3 v4 v5 v6).heap[b]? = some (.cells #[v0, v1, v2, v3, v4, v5, v6] t f) := by
 have h := heap_set_same (o := 6) (v := v6) (heap_set_same (o := 5) (v := v5) (heap_set_same (o := 4) (v := v4) (heap_set_same (o := 3) (v := v3) (heap_set_same (o := 2) (v := v2) (heap_set_same (o := 1) (v := v1) (heap_set_same (o := 0) (v := v0) h))))))
 simpa [setRow7] using h
theorem setRow7_ne {w : World} {b g : Nat} {v0 v1 v2 v3 v4 v5 v6 : Value} (h : g ≠ b) : (setRow7 w b v0 v1 v2 v3 v4 v5 v6).heap[g]? = w.heap[g]? := by
 simp only [setRow7, heap_set_ne h]
theorem setRow7_below {B : Nat} {w w' : World} {b : Nat} {v0 v1 v2 v3 v4 v5 v6 : Value} (h : Below B w w') (hb : B ≤ b) : Below B w (setRow7 w' b v0 v1 v2 v3 v4 v5 v6) :=
 ((((((h.setCell (p := ⟨b, 0, none⟩) hb _).setCell (p := ⟨b, 1, none⟩) hb _).setCell (p := ⟨b, 2, none⟩) hb _).setCell (p := ⟨b, 3, none⟩) hb _).setCell (p := ⟨b, 4, none⟩) hb _).setCell (p := ⟨b, 5, none⟩) hb _).setCell (p := ⟨b, 6, none⟩) hb _
def ElOnC (S : Nat → Prop) (w : World) (xs : List Value) (j : Nat) (k : ET) : Prop := ∃ kv, (∀ (t : Nat) x, (k.cells kv)[t]? = some x → xs[j * 7 + t]? = some x) ∧ k.OnC S w kv
theorem ElOnC.below {S : Nat → Prop} {w w' : World} {xs : List Value} {j : Nat} {k : ET} (h : ElOnC S w xs j k) (hb : Below w.heap.size w w') : ElOnC S w' xs j k := by
 obtain ⟨kv, h1, h2⟩ := h
 exact ⟨kv, h1, h2.below hb⟩
theorem onC_of_row {S : Nat → Prop} {w : World} {base hi : Nat} {v : Value} {ks : List ET} {xs : List Value} (h : w.ownsRow base 27 7 v ks.length xs) (hhi : w.heap.size ≤ hi) (hel : ∀ (j : Nat) k, ks[j]? = some k → ElOnC S w xs j k) (o c : Int) (d : Dat) : (ET.mk o c d ks).OnC (fun g => S g ∨ Btw base hi g) w v := by
 rw [ET.OnC.iff]
 simp only [ET.kids]
 rcases Nat.eq_zero_or_pos ks.length with h0 | h0
 ·have hnil : ks = [] := List.length_eq_zero_iff.1 h0
  subst hnil
  rcases h.2 with ⟨hv, -⟩ | ⟨g, cap, cur, hv, -⟩
  ·exact ⟨none, 0, hv, fun _ => rfl, fun h => absurd rfl h⟩
  ·exact ⟨some ⟨g, 0, none⟩, cap, hv, (fun h => by cases h), fun h => absurd rfl h⟩
 ·obtain ⟨g, cap, rfl, hg1, hg2⟩ := h.form h0
  obtain ⟨-, -, hcap, hc⟩ := ownsRow_heap h
  refine ⟨some ⟨g, 0, none⟩, cap, rfl, (fun h => by cases h), fun _ => ⟨hcap, g, 0, rfl, .inr ⟨hg1, by omega⟩, ET.OnsC.mk fun i k hk => ?_⟩⟩
  obtain ⟨kv, h1, h2⟩ := hel i k hk
  rw [Nat.zero_add]
  exact ⟨kv, ⟨hc _ _ (h1 0 _ rfl), hc _ _ (h1 1 _ rfl), hc _ _ (h1 2 _ rfl), hc _ _ (h1 3 _ rfl), hc _ _ (h1 4 _ rfl), hc _ _ (h1 5 _ rfl), hc _ _ (h1 6 _ rfl)⟩, h2.wide fun g hg => .inl hg⟩
theorem onsC_cells {S : Nat → Prop} {w : World} {b : Nat} : ∀ {ks : List ET} {o : Nat}, ET.OnsC S w ks b o → ∃ xs : List Value, xs.length = ks.length * 7 ∧ (∀ (j : Nat) u, xs[j]? = some u → w.cell? ⟨b, o + j, none⟩ = some u) ∧ (∀ u ∈ xs, u.oneCell' = true) ∧ ∀ (i : Nat) k, ks[i]? = some k → ElOnC S w xs i k
 | [], o, _ => ⟨[], rfl, (fun j u h => by simp at h), (fun u h => by cases h), (fun i k h => by simp at h)⟩
 | k :: ks, o, h => by
  simp only [ET.OnsC] at h
  obtain ⟨⟨kv, ⟨k0, k1, k2, k3, k4, k5, k6⟩, hat⟩, h⟩ := h
  obtain ⟨xs, hl, hc, h1, hel⟩ := onsC_cells h
  obtain ⟨a', c', rfl⟩ := hat.slice
  have hcl : (k.cells (.slice a' k.kids.length c')).length = 7 := rfl
  refine ⟨k.cells (.slice a' k.kids.length c') ++ xs, by simp [hl, hcl]; omega, fun j u hj => ?_, fun u hu => ?_, fun i y hy => ?_⟩
  ·by_cases hlt : j < 7
   ·rw [List.getElem?_append_left (by rw [hcl]; exact hlt)] at hj
    rcases (show j = 0 ∨ j = 1 ∨ j = 2 ∨ j = 3 ∨ j = 4 ∨ j = 5 ∨ j = 6 by omega) with rfl | rfl | rfl | rfl | rfl | rfl | rfl <;> (simp [ET.cells] at hj; subst hj; assumption)
   ·rw [List.getElem?_append_right (by rw [hcl]; omega), hcl] at hj
    have := hc (j - 7) u hj
    rwa [show o + 7 + (j - 7) = o + j by omega] at this
  ·rcases List.mem_append.1 hu with hu | hu
   ·simp [ET.cells] at hu
    rcases hu with rfl | rfl | rfl | rfl | rfl | rfl | rfl <;> rfl
   ·exact h1 u hu
  ·cases i with
   | zero =>
    simp at hy; subst hy
    exact ⟨_, fun t x hx => by
     have ht := (List.getElem?_eq_some_iff.1 hx).1
     rw [Nat.zero_mul, Nat.zero_add, List.getElem?_append_left ht]; exact hx, hat⟩
   | succ i =>
    obtain ⟨kv', q1, q2⟩ := hel i y (by simpa using hy)
    exact ⟨kv', fun t x hx => by
     rw [List.getElem?_append_right (by rw [hcl]; omega), hcl, show (i + 1) * 7 + t - 7 = i * 7 + t by omega]; exact q1 t x hx, q2⟩
theorem clone_52 (S : Nat → Prop) (o c : Int) (d : Dat) (ks : List ET) (v : Value) (w : World) (hat : (ET.mk o c d ks).OnC S w v) (hn : ks.length ≤ 12000) :
  Calls Tryz.prog 52 #[v] w fun ev w' => ∃ v', ev = .returned v' ∧ (ET.mk o c d ks).OnC (fun g => S g ∨ Btw w.heap.size w'.heap.size g) w' v' ∧ Below w.heap.size w w' := by
 obtain ⟨i0, hi0, hz0, hz1, hz2⟩ := info_parts info27
 have q22 : ∀ (w : World) (a : Option Addr) (n c n' c' : Nat), (binOp .eql 22 (.slice a n c) (.slice none n' c')).run Tryz.prog w = .ok (.bool a.isNone) w := fun w a n c n' c' => Lib.run_eql_slice_nil w _ _ a n c n' c' Tryz.underlying22
 obtain ⟨a, cc, rfl, hz, hks⟩ := ET.OnC.iff.1 hat
 simp only [ET.kids] at *
 obtain ⟨n, en⟩ : ∃ n, n = ks.length := ⟨_, rfl⟩
 rw [← en] at hn ⊢
 have EN := Lib.hid en
 have HKS := Lib.hid hks
 clear en hks hat
 rcases a with _ | ad
 ·have hnil : ks = [] := Classical.byContradiction fun h => by obtain ⟨-, b, o, hb, -⟩ := HKS.out h; cases hb
  have hn0 : n = 0 := by rw [EN.out, hnil]; rfl
  subst hn0
  subst hnil
  go_enter Tryz.func52, Tryz.ntmps52
  go_wp2_with fail
  go_ret
  exact ⟨_, rfl, ET.OnC.iff.2 ⟨none, 0, rfl, fun _ => rfl, fun h => absurd rfl h⟩, Below.refl _ _⟩
 ·obtain ⟨xs, hl, hcx, h1, hel⟩ : ∃ xs : List Value, xs.length = ks.length * 7 ∧ (∀ j u, xs[j]? = some u → w.cell? (ad.add j) = some u) ∧ (∀ u ∈ xs, u.oneCell' = true) ∧ ∀ (i : Nat) k, ks[i]? = some k → ElOnC S w xs i k := by
   by_cases hne : ks = []
   ·subst hne
    exact ⟨[], rfl, (fun j u h => by simp at h), (fun u h => by cases h), (fun i k h => by simp at h)⟩
   ·obtain ⟨-, b, off, hb, -, hats⟩ := HKS.out hne
    cases hb
    obtain ⟨xs, q1, q2, q3, q4⟩ := onsC_cells hats
    exact ⟨xs, q1, fun j u hj => by rw [add_lit]; exact q2 j u hj, q3, q4⟩
  have HC := Lib.hid hcx
  have H1 := Lib.hid h1
  have HL := Lib.hid hl
  have HEL := Lib.hid hel
  clear hcx h1 hl hel
  go_enter Tryz.func52, Tryz.ntmps52
  go_wp2_with (at_builtin; refine wpList_append_own _ rfl _ _ 22 rfl w.heap.size 27 i0 _ 7 72 Tryz.underlying22 hi0 hz0 hz1 hz2 rfl (by decide) _ _ _ rfl (World.ownsRow_made w #[] 0 (Nat.le_refl _) (Nat.zero_le _) rfl) ad n cc xs rfl ?qc1 ?qc2 ?qc3 ?qc4 ?qc5 ?qc6 ?_)
  case qc1 => rw [HL.out, EN.out]
  case qc2 => exact fun j u hu => Lib.cell?_alloc_some _ (HC.out j u hu)
  case qc3 => exact H1.out
  case qc4 => unfold maxLen; omega
  case qc5 => omega
  try case qc6 => simp
  intro v' w1 hown hgrow hnil
  have hB : Below w.heap.size w w1 := ((Below.refl _ w).alloc (Nat.le_refl _) _).grown hgrow (by simp) (by intro k hk; simp [Value.ownBlock] at hk; omega)
  have HB := Lib.hid hB
  have HOWN := Lib.hid (show w1.ownsRow w.heap.size 27 7 v' ks.length xs by simpa [EN.out] using hown)
  clear hB hgrow hown
  go_wp2
  go_ret
  exact ⟨v', rfl, onC_of_row HOWN.out (Nat.le_refl _) (fun j k hk => (HEL.out j k hk).below HB.out) o c d, HB.out⟩
end Go.Proofs.YtmmhedlagnjbiaaGreatDoor
namespace Go.Proofs.YtmmhedlagnjbiaaGreatDoor
open Go.RowKit Go.Pen
attribute [local go_sem ↓] Go.wp_at_zero Go.wp_at_succ
attribute [local go_sem] Oper.semAt_some
def Cloned (e : ET) : Prop := e.size ≤ 12000 → ∀ (kv : Value) (w : World), e.At w kv → Calls Tryz.prog 17 #[e.agg kv] w fun ev w' => ∃ kv', ev = .returned (e.agg kv') ∧ e.On (Btw w.heap.size w'.heap.size) w' kv' ∧ Below w.heap.size w w'
theorem clone_17 : ∀ e : ET, Cloned e := by
 refine ET.ind fun o c d ks ih hn kv w hat => ?_
 obtain ⟨i0, hi0, hz0, hz1, hz2⟩ := info_parts info27
 simp only [ET.size] at hn
 obtain ⟨a, cc, rfl, -, hks⟩ := ET.On.iff.1 hat
 simp only [ET.kids] at hks
 have hl := ET.sizes_len ks
 have HKS := Lib.hid hks
 have IH := Lib.hid ih
 obtain ⟨K, eK⟩ : ∃ K, K = ks.length := ⟨_, rfl⟩
 rw [← eK] at hl
 have EK := Lib.hid eK
 have HN : Hid (ET.sizes ks ≤ 12000) := Lib.hid (by omega)
 have hK : K ≤ 12000 := by omega
 unfold ET.agg
 simp only [ET.op, ET.col, ET.lit, ET.kids]
 rw [← eK]
 clear hks ih eK hn hl hat
 obtain ⟨H, eH⟩ : ∃ H, H = w.heap.size := ⟨_, rfl⟩
 have EH := Lib.hid eH
 clear eH
 go_enter Tryz.func17, Tryz.ntmps17
 go_wp2_with fail
 obtain ⟨w1, hw1⟩ : ∃ w1, w1 = (w.alloc (.cells #[.int .u8 o, .slice a K cc, .int .i64 c, .int .u8 d.kind, .bool d.bool, .int .i64 d.int, .string d.text] 27)).alloc (.cells #[.int .u8 0, .slice none 0 0, .int .i64 0, .int .u8 0, .bool false, .int .i64 0, .string ⟨#[]⟩] 27) := ⟨_, rfl⟩
 have hb1 : Below w.heap.size w w1 := by rw [hw1]; exact two_below _ _ _
 have e0 : w1.heap[H]? = some (.cells #[.int .u8 o, .slice a K cc, .int .i64 c, .int .u8 d.kind, .bool d.bool, .int .i64 d.int, .string d.text] 27 (0, 0)) := by
  rw [hw1, EH.out, Below.heap_alloc _ _ _ (by simp)]; exact heap_alloc_new _ _
 have e1 : w1.heap[H + 1]? = some (.cells #[.int .u8 0, .slice none 0 0, .int .i64 0, .int .u8 0, .bool false, .int .i64 0, .string ⟨#[]⟩] 27 (0, 0)) := by
  rw [hw1, EH.out]
  have h := heap_alloc_new (w.alloc (.cells #[.int .u8 o, .slice a K cc, .int .i64 c, .int .u8 d.kind, .bool d.bool, .int .i64 d.int, .string d.text] 27)) (.cells #[.int .u8 0, .slice none 0 0, .int .i64 0, .int .u8 0, .bool false, .int .i64 0, .string ⟨#[]⟩] 27)
  rw [World.size_alloc] at h
  exact h
 have hs1 : w1.heap.size = H + 2 := by rw [hw1, EH.out]; simp
 rw [← hw1, ← EH.out]
 have HS1 := Lib.hid hs1
 have E0' := Lib.hid e0
 have E1' := Lib.hid e1
 have HB1 := Lib.hid hb1
 clear hw1 hb1 e0 e1 hs1
 go_loopg [3, 9] K (fun g s3 s9 wr => ∃ i : Nat, i ≤ K ∧ g = K - i ∧ s9 = .int .i64 i ∧ LRel (ks) w1 i s3 wr)
 case atStart => exact ⟨0, Nat.zero_le _, by omega, rfl, [], World.ownsRow_nil _ _ _ _, fun j x hj => by omega, Below.refl _ _⟩
 case round =>
  obtain ⟨i, hi, rfl, rfl, hrl⟩ := hrel
  by_cases hlt : i < K
  ·obtain ⟨k, hk⟩ : ∃ k, ks[i]? = some k := ⟨ks[i]'(by rw [← EK.out]; exact hlt), List.getElem?_eq_getElem _⟩
   obtain ⟨b, off, rfl, -, hats⟩ := HKS.out (fun e => by rw [e] at hk; simp at hk)
   obtain ⟨kv, hkc, hkat⟩ := hats.get hk
   obtain ⟨a', c', rfl⟩ := hkat.slice
   obtain ⟨xs, hown, hel, hbw⟩ := hrl
   have hbww : Below w.heap.size w wr := HB1.out.trans (hbw.mono HB1.out.size)
   obtain ⟨k0, k1, k2, k3, k4, k5, k6⟩ := hkc.below hbww
   have hct := fun (W : World) (hb : Below wr.heap.size wr W) => IH.out k (List.mem_of_getElem? hk) (Nat.le_trans (ET.sizes_mem (List.mem_of_getElem? hk)) HN.out) _ W ((hkat.below hbww).below hb)
   unfold ET.agg at hct
   have HCT := Lib.hid hct
   have HK := Lib.hid hk
   have HOW := Lib.hid hown
   have HEL := Lib.hid hel
   have HBW := Lib.hid hbw
   clear hats hkc hkat hct hk hown hel hbw hbww
   go_wp2_with fail
   refine (HCT.out _ (one_below _ _)).mono ?_
   rintro ev w3 ⟨kv', rfl, hon, hb3⟩
   obtain ⟨a3, c3, rfl⟩ := hon.slice
   have hb3' : Below wr.heap.size wr w3 := (one_below _ _).trans (hb3.mono (by simp))
   have hon' := hon.wide (S' := Btw wr.heap.size w3.heap.size) fun g hg => ⟨by have := hg.1; simp at this; omega, hg.2⟩
   have hsz3 := hb3'.size
   have hszw := HBW.out.size
   have HON := Lib.hid hon'
   have HB3 := Lib.hid hb3'
   clear hon hb3 hon' hb3' k0 k1 k2 k3 k4 k5 k6 HCT
   go_wp2_with (at_builtin; go_must (refine wpList_append_lies _ rfl _ _ 22 rfl w1.heap.size 27 i0 _ 7 72 Tryz.underlying22 hi0 hz0 hz1 hz2 rfl (by decide) u3 i xs rfl ((Below.ownsRow' HB3.out HOW.out).alloc _) ⟨w3.heap.size, 0, none⟩ 1 1 (k.cells (.slice a3 k.kids.length c3)) rfl rfl ?c1 ?c2 (by decide) ?c3 ?c4 ?c5 _ rfl ?_))
   case c1 =>
    intro j u hj
    rw [add_lit, Nat.zero_add]
    exact cell_of_heap (heap_alloc_new _ _) (by rw [List.getElem?_toArray]; exact hj)
   case c2 => intro u hu; simp [ET.cells] at hu; rcases hu with rfl | rfl | rfl | rfl | rfl | rfl | rfl <;> rfl
   case c3 => unfold maxLen; omega
   case c4 => omega
   case c5 => simp; omega
   intro g cap w5 hown5 hgrow hat5 _
   have hstep : LRel (ks) w1 (i + 1) (.slice (some ⟨g, 0, none⟩) (i + 1) cap) w5 := by
    refine lrel_step HOW.out HEL.out HBW.out (HK.out) HB3.out HON.out ((Below.refl _ _).alloc (Nat.le_refl _) _) hown5 hgrow fun g' hg' => ?_
    cases hg'
    rcases hat5 with h | h
    ·exact .inl h
    ·exact .inr (by rw [World.size_alloc]; exact Nat.le_of_eq h.symm)
   have HS := Lib.hid hstep
   clear hstep hown5 hgrow hat5
   go_wp2
   go_roundg (K - (i + 1))
   case measure => omega
   case rel => exact ⟨i + 1, by omega, rfl, by go_num, HS.out⟩
  ·obtain rfl : K = i := by omega
   obtain ⟨xs, hown, hel, hb2⟩ := hrl
   have hlen : ks.length = K := EK.out.symm
   have hon : (ET.mk o c d (ks)).On (Btw w1.heap.size wr.heap.size) wr u3 := by
    refine on_of_row (xs := xs) (by rw [hlen]; exact hown) (Nat.le_refl _) (fun j k hk => ?_) o c d
    obtain ⟨lo, hi, q1, q2, -, kv, h1, h2⟩ := hel j k (by rw [← hlen]; exact (List.getElem?_eq_some_iff.1 hk).1) hk
    exact ⟨kv, h1, h2.wide fun g hg => ⟨Nat.le_trans q1 hg.1, Nat.lt_of_lt_of_le hg.2 q2⟩⟩
   obtain ⟨aa, c2, rfl⟩ := hon.slice
   simp only [ET.kids] at hon ⊢
   rw [hlen] at hon ⊢
   have E0 := Lib.hid ((hb2.block H (lt_of_heap E0'.out)).trans E0'.out)
   have E1 := Lib.hid ((hb2.block (H + 1) (lt_of_heap E1'.out)).trans E1'.out)
   have HON := Lib.hid hon
   have HB2 := Lib.hid hb2
   have HLEN := Lib.hid hlen
   clear hon hb2 E0' E1' hown hel hlen
   have a0 : wr.cell? ⟨H, 0, none⟩ = some (.int .u8 o) := cell_of_heap E0.out rfl
   have a1 : wr.cell? ⟨H, 1, none⟩ = some (.slice a K cc) := cell_of_heap E0.out rfl
   have a2 : wr.cell? ⟨H, 2, none⟩ = some (.int .i64 c) := cell_of_heap E0.out rfl
   have a3 : wr.cell? ⟨H, 3, none⟩ = some (.int .u8 d.kind) := cell_of_heap E0.out rfl
   have a4 : wr.cell? ⟨H, 4, none⟩ = some (.bool d.bool) := cell_of_heap E0.out rfl
   have a5 : wr.cell? ⟨H, 5, none⟩ = some (.int .i64 d.int) := cell_of_heap E0.out rfl
   have a6 : wr.cell? ⟨H, 6, none⟩ = some (.string d.text) := cell_of_heap E0.out rfl
   have f1 : wr.frozen? ⟨H, 1, none⟩ = false := frozen_of_heap E0.out
   have z0 : wr.cell? ⟨H + 1, 0, none⟩ = some (.int .u8 0) := cell_of_heap E1.out rfl
   have z1 : wr.cell? ⟨H + 1, 1, none⟩ = some (.slice none 0 0) := cell_of_heap E1.out rfl
   have z2 : wr.cell? ⟨H + 1, 2, none⟩ = some (.int .i64 0) := cell_of_heap E1.out rfl
   have z3 : wr.cell? ⟨H + 1, 3, none⟩ = some (.int .u8 0) := cell_of_heap E1.out rfl
   have z4 : wr.cell? ⟨H + 1, 4, none⟩ = some (.bool false) := cell_of_heap E1.out rfl
   have z5 : wr.cell? ⟨H + 1, 5, none⟩ = some (.int .i64 0) := cell_of_heap E1.out rfl
   have z6 : wr.cell? ⟨H + 1, 6, none⟩ = some (.string ⟨#[]⟩) := cell_of_heap E1.out rfl
   have g0 : wr.frozen? ⟨H + 1, 0, none⟩ = false := frozen_of_heap E1.out
   have g1 : wr.frozen? ⟨H + 1, 1, none⟩ = false := frozen_of_heap E1.out
   have g2 : wr.frozen? ⟨H + 1, 2, none⟩ = false := frozen_of_heap E1.out
   have g3 : wr.frozen? ⟨H + 1, 3, none⟩ = false := frozen_of_heap E1.out
   have g4 : wr.frozen? ⟨H + 1, 4, none⟩ = false := frozen_of_heap E1.out
   have g5 : wr.frozen? ⟨H + 1, 5, none⟩ = false := frozen_of_heap E1.out
   have g6 : wr.frozen? ⟨H + 1, 6, none⟩ = false := frozen_of_heap E1.out
   go_wp2
   obtain ⟨W, eW⟩ : ∃ W, W = ((((((((wr.setCell ⟨H, 1, none⟩ (.slice aa K c2)).setCell ⟨H + 1, 0, none⟩ (.int .u8 o)).setCell ⟨H + 1, 1, none⟩ (.slice aa K c2)).setCell ⟨H + 1, 2, none⟩ (.int .i64 c)).setCell ⟨H + 1, 3, none⟩ (.int .u8 d.kind)).setCell ⟨H + 1, 4, none⟩ (.bool d.bool)).setCell ⟨H + 1, 5, none⟩ (.int .i64 d.int)).setCell ⟨H + 1, 6, none⟩ (.string d.text)) := ⟨_, rfl⟩
   have hW : W.heap[H + 1]? = some (.cells #[.int .u8 o, .slice aa K c2, .int .i64 c, .int .u8 d.kind, .bool d.bool, .int .i64 d.int, .string d.text] 27 (0, 0)) := by
    rw [eW]
    have h := (heap_set_same (o := 6) (v := .string d.text) (heap_set_same (o := 5) (v := .int .i64 d.int) (heap_set_same (o := 4) (v := .bool d.bool) (heap_set_same (o := 3) (v := .int .u8 d.kind) (heap_set_same (o := 2) (v := .int .i64 c) (heap_set_same (o := 1) (v := .slice aa K c2) (heap_set_same (o := 0) (v := .int .u8 o) ((heap_set_ne (o := 1) (v := .slice aa K c2) (show H + 1 ≠ H by omega)).trans E1.out))))))))
    simpa using h
   have hne : ∀ g, H + 2 ≤ g → W.heap[g]? = wr.heap[g]? := fun g hg => by
    rw [eW]
    simp only [heap_set_ne (show g ≠ H + 1 by omega), heap_set_ne (show g ≠ H by omega)]
   have hbW : Below w.heap.size wr W := by
    rw [eW]
    exact (((((((((Below.refl w.heap.size wr).setCell (p := ⟨H, 1, none⟩) (by show w.heap.size ≤ H; have := EH.out; omega) _).setCell (p := ⟨H + 1, 0, none⟩) (by show w.heap.size ≤ H + 1; have := EH.out; omega) _).setCell (p := ⟨H + 1, 1, none⟩) (by show w.heap.size ≤ H + 1; have := EH.out; omega) _).setCell (p := ⟨H + 1, 2, none⟩) (by show w.heap.size ≤ H + 1; have := EH.out; omega) _).setCell (p := ⟨H + 1, 3, none⟩) (by show w.heap.size ≤ H + 1; have := EH.out; omega) _).setCell (p := ⟨H + 1, 4, none⟩) (by show w.heap.size ≤ H + 1; have := EH.out; omega) _).setCell (p := ⟨H + 1, 5, none⟩) (by show w.heap.size ≤ H + 1; have := EH.out; omega) _).setCell (p := ⟨H + 1, 6, none⟩) (by show w.heap.size ≤ H + 1; have := EH.out; omega) _)
   rw [← eW]
   have HNE := Lib.hid hne
   have HBW := Lib.hid hbW
   have HSZ := Lib.hid (show W.heap.size = wr.heap.size by rw [eW]; simp [World.setCell])
   have HWW := Lib.hid hW
   clear eW hne hbW hW a0 a1 a2 a3 a4 a5 a6 f1 z0 z1 z2 z3 z4 z5 z6 g0 g1 g2 g3 g4 g5 g6
   refine bodyPost_ret (v := .agg #[.int .u8 o, .slice aa K c2, .int .i64 c, .int .u8 d.kind, .bool d.bool, .int .i64 d.int, .string d.text]) (results_cell_row rfl _ _ (H + 1) 27 _ (0, 0) _ rfl HWW.out Tryz.underlying27 rfl (by kernel_rfl)) rfl ?_
   refine ⟨_, rfl, ?_, HB1.out.trans ((HB2.out.mono HB1.out.size).trans HBW.out)⟩
   have hle : w.heap.size ≤ w1.heap.size := HB1.out.size
   refine (HON.out.frame fun g hg _ => HNE.out g (by have := HS1.out; have := hg.1; omega)).wide fun g hg => ⟨by have := hg.1; omega, by have := hg.2; have := HSZ.out; omega⟩
end Go.Proofs.YtmmhedlagnjbiaaGreatDoor
