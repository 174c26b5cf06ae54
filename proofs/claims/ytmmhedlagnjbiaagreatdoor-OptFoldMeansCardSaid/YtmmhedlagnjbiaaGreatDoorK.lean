import Derived.Test.YtmmhedlagnjbiaaGreatDoorBase
import Derived.Test.YtmmhedlagnjbiaaGreatDoorI
/- our texts, shortened by program (pack.py) -/
set_option maxRecDepth 100000
set_option maxHeartbeats 4000000
namespace Go.Proofs.YtmmhedlagnjbiaaGreatDoor
open Go.RowKit Go.Pen
abbrev Bytes := List UInt8
theorem len_list (s : ByteArray) : s.data.toList.length = s.size := Array.length_toList
theorem drop_cons {s : ByteArray} {j : Nat} (h : j < s.size) : ∃ c cs, s.data.toList.drop j = c :: cs ∧ s.data.toList.drop (j + 1) = cs := by
 have h' : j < s.data.toList.length := by rw [len_list]; exact h
 exact ⟨s.data.toList[j], s.data.toList.drop (j + 1), List.drop_eq_getElem_cons h', rfl⟩
theorem get_of_drop {s : ByteArray} {j : Nat} {c : UInt8} {cs : Bytes} (hc : s.data.toList.drop j = c :: cs) (h : j < s.size) : s[j]'h = c := by
 have h' : j < s.data.toList.length := by rw [len_list]; exact h
 rw [List.drop_eq_getElem_cons h'] at hc
 exact (List.cons.inj hc).1
def lv : Nat → Bytes → Nat → Option Nat
 | v, _, 0 => some v
 | _, [], _ + 1 => none
 | v, d :: ds, k + 1 => if 128 ≤ d.toNat ∧ d.toNat < 192 then lv (64 * v + d.toNat - 128) ds k else none
def badN (n v : Nat) : Bool := (n == 3 && (decide (v < 2048) || decide (55296 ≤ v) && decide (v < 57344))) || (n == 4 && (decide (v < 65536) || decide (1114111 < v)))
def headN (c : Nat) : Option (Nat × Nat) :=
 if 194 ≤ c ∧ c < 224 then some (2, c - 192) else if 224 ≤ c ∧ c < 240 then some (3, c - 224) else if 240 ≤ c ∧ c < 245 then some (4, c - 240) else none
def longN : Bytes → Nat
 | [] => 0
 | c :: cs =>
  if c.toNat < 128 then 1 else
  match headN c.toNat with
  | none => 0
  | some (n, v) => if cs.length + 1 < n then 0 else match lv v cs (n - 1) with
   | none => 0
   | some x => if badN n x then 0 else n
theorem headN_n {c n v : Nat} (h : headN c = some (n, v)) : (n = 2 ∧ v ≤ 31) ∨ (n = 3 ∧ v ≤ 15) ∨ (n = 4 ∧ v ≤ 4) := by
 unfold headN at h
 repeat' split at h
 all_goals first | (cases h; done) | (cases h; omega)
def longM (n b0 b1 b2 b3 : Nat) : Nat :=
 if b0 < 128 then 1
 else if 194 ≤ b0 ∧ b0 < 224 then (if 2 ≤ n ∧ (128 ≤ b1 ∧ b1 < 192) then 2 else 0)
 else if 224 ≤ b0 ∧ b0 < 240 then (if 3 ≤ n ∧ (128 ≤ b1 ∧ b1 < 192) ∧ (128 ≤ b2 ∧ b2 < 192) ∧ ¬ badN 3 (64 * (64 * (b0 - 224) + b1 - 128) + b2 - 128) = true then 3 else 0)
 else if 240 ≤ b0 ∧ b0 < 245 then (if 4 ≤ n ∧ (128 ≤ b1 ∧ b1 < 192) ∧ (128 ≤ b2 ∧ b2 < 192) ∧ (128 ≤ b3 ∧ b3 < 192) ∧ ¬ badN 4 (64 * (64 * (64 * (b0 - 240) + b1 - 128) + b2 - 128) + b3 - 128) = true then 4 else 0)
 else 0
theorem long_M (c : UInt8) (cs : Bytes) : longN (c :: cs) = longM (cs.length + 1) c.toNat (cs.getD 0 0).toNat (cs.getD 1 0).toNat (cs.getD 2 0).toNat := by
 unfold longN longM headN
 simp only []
 by_cases h0 : c.toNat < 128
 ·rw [if_pos h0, if_pos h0]
 rw [if_neg h0, if_neg h0]
 by_cases h1 : 194 ≤ c.toNat ∧ c.toNat < 224
 ·rw [if_pos h1, if_pos h1]
  rcases cs with _ | ⟨d, ds⟩
  ·simp
  ·by_cases hd : 128 ≤ d.toNat ∧ d.toNat < 192
   ·simp [lv, hd, badN]
   ·simp [lv, hd]
 rw [if_neg h1, if_neg h1]
 by_cases h2 : 224 ≤ c.toNat ∧ c.toNat < 240
 ·rw [if_pos h2, if_pos h2]
  rcases cs with _ | ⟨d, _ | ⟨e, es⟩⟩
  ·simp
  ·simp
  ·by_cases hd : 128 ≤ d.toNat ∧ d.toNat < 192
   ·by_cases he : 128 ≤ e.toNat ∧ e.toNat < 192
    ·simp [lv, hd, he]
     rw [if_neg (by omega)]
     cases badN 3 (64 * (64 * (c.toNat - 224) + d.toNat - 128) + e.toNat - 128) <;> rfl
    ·simp [lv, hd, he]
   ·simp [lv, hd]
 rw [if_neg h2, if_neg h2]
 by_cases h3 : 240 ≤ c.toNat ∧ c.toNat < 245
 ·rw [if_pos h3, if_pos h3]
  rcases cs with _ | ⟨d, _ | ⟨e, _ | ⟨f, fs⟩⟩⟩
  ·simp
  ·simp
  ·simp
  ·by_cases hd : 128 ≤ d.toNat ∧ d.toNat < 192
   ·by_cases he : 128 ≤ e.toNat ∧ e.toNat < 192
    ·by_cases hf : 128 ≤ f.toNat ∧ f.toNat < 192
     ·simp [lv, hd, he, hf]
      rw [if_neg (by omega)]
      cases badN 4 (64 * (64 * (64 * (c.toNat - 240) + d.toNat - 128) + e.toNat - 128) + f.toNat - 128) <;> rfl
     ·simp [lv, hd, he, hf]
    ·simp [lv, hd, he]
   ·simp [lv, hd]
 rw [if_neg h3, if_neg h3]
theorem long_decode (n b0 b1 b2 b3 : Nat) (h0 : b0 < 256) (h1 : b1 < 256) (h2 : b2 < 256) (h3 : b3 < 256) :
  (longM n b0 b1 b2 b3 = 0 ∧ (Lib.decodeN n b0 b1 b2 b3 = (65533, 1))) ∨ (longM n b0 b1 b2 b3 ≠ 0 ∧ (Lib.decodeN n b0 b1 b2 b3).2 = longM n b0 b1 b2 b3 ∧ Lib.decodeN n b0 b1 b2 b3 ≠ (65533, 1)) := by
 have e3 : ∀ v, badN 3 v = true ↔ (v < 2048 ∨ 55296 ≤ v ∧ v < 57344) := fun v => by simp [badN]
 have e4 : ∀ v, badN 4 v = true ↔ (v < 65536 ∨ 1114111 < v) := fun v => by simp [badN]
 unfold longM Lib.decodeN
 simp only [e3, e4]
 repeat' split
 all_goals first | (left; exact ⟨rfl, rfl⟩) | (right; refine ⟨by decide, rfl, ?_⟩; intro h; simp only [Prod.mk.injEq] at h; omega) | (exfalso; omega)
theorem valid_long (c : UInt8) (cs : Bytes) : Lib.validD (c :: cs) = if longN (c :: cs) = 0 then false else Lib.validD ((c :: cs).drop (longN (c :: cs))) := by
 rw [Lib.validD_step _ (by simp), Lib.decodeL_N, long_M]
 have h := long_decode (cs.length + 1) c.toNat (cs.getD 0 0).toNat (cs.getD 1 0).toNat (cs.getD 2 0).toNat c.toNat_lt (UInt8.toNat_lt _) (UInt8.toNat_lt _) (UInt8.toNat_lt _)
 have e : Lib.decodeN (c :: cs).length ((c :: cs).getD 0 0).toNat ((c :: cs).getD 1 0).toNat ((c :: cs).getD 2 0).toNat ((c :: cs).getD 3 0).toNat = Lib.decodeN (cs.length + 1) c.toNat (cs.getD 0 0).toNat (cs.getD 1 0).toNat (cs.getD 2 0).toNat := rfl
 rw [e]
 rcases h with ⟨h1, h2⟩ | ⟨h1, h2, h3⟩
 ·rw [h1, h2]; rfl
 ·rw [if_neg h1, h2, if_neg]
  intro ⟨g1, g2⟩
  exact h3 (Prod.ext g1 (h2.trans g2))
theorem longN_le {c : UInt8} {cs : Bytes} : longN (c :: cs) ≤ cs.length + 1 := by
 rw [long_M]
 unfold longM
 repeat' split
 all_goals omega
def LvRel (cs : Bytes) (n v0 i v : Nat) : Prop := 1 ≤ i ∧ i ≤ n ∧ lv v (cs.drop (i - 1)) (n - i) = lv v0 cs (n - 1) ∧ v < 32 * 64 ^ (i - 1)
theorem lv_step {cs : Bytes} {n v0 i v : Nat} {d : UInt8} (h : LvRel cs n v0 i v) (hi : i < n) (hd : cs[i - 1]? = some d) :
  (128 ≤ d.toNat ∧ d.toNat < 192 → LvRel cs n v0 (i + 1) (64 * v + d.toNat - 128)) ∧ (¬(128 ≤ d.toNat ∧ d.toNat < 192) → lv v0 cs (n - 1) = none) := by
 obtain ⟨h1, h2, h3, h4⟩ := h
 have hdr : cs.drop (i - 1) = d :: cs.drop i := by
  have hlt := (List.getElem?_eq_some_iff.1 hd).1
  rw [List.drop_eq_getElem_cons hlt, (List.getElem?_eq_some_iff.1 hd).2, show i - 1 + 1 = i by omega]
 have hni : n - i = (n - (i + 1)) + 1 := by omega
 rw [hdr, hni, lv] at h3
 constructor
 ·intro hr
  rw [if_pos hr] at h3
  refine ⟨by omega, by omega, by rw [Nat.add_sub_cancel]; exact h3, ?_⟩
  rw [Nat.add_sub_cancel]
  have : 64 ^ i = 64 * 64 ^ (i - 1) := by
   conv => lhs; rw [show i = (i - 1) + 1 by omega, Nat.pow_succ]
   exact Nat.mul_comm _ _
  omega
 ·intro hr
  rw [if_neg hr] at h3
  exact h3.symm
theorem long_eq {c : UInt8} {cs : Bytes} {n v : Nat} (h1 : ¬ c.toNat < 128) (h2 : headN c.toNat = some (n, v)) (h3 : ¬ cs.length + 1 < n) :
  longN (c :: cs) = match lv v cs (n - 1) with
   | none => 0
   | some x => if badN n x then 0 else n := by
 unfold longN
 simp only []
 rw [if_neg h1, h2]
 simp only []
 rw [if_neg h3]
theorem lv_bound {cs : Bytes} {n v0 i v : Nat} (h : LvRel cs n v0 i v) (hi : i < 5) : v ≤ 8388607 := by
 have := h.2.2.2
 have h1 := h.1
 have : i = 1 ∨ i = 2 ∨ i = 3 ∨ i = 4 := by omega
 rcases this with rfl | rfl | rfl | rfl <;> simp at * <;> omega
theorem get_of_cons' {l : Bytes} {j : Nat} {c : UInt8} {cs : Bytes} (h : l.drop j = c :: cs) : l[j]? = some c := by
 have := congrArg List.head? h
 rwa [List.head?_drop] at this
theorem long_195 (s : ByteArray) (k : Nat) (w : World) (hk : k < s.size) (hs : s.size ≤ 140737488355328) :
  Calls Tryz.prog 85 #[.string s, .int .i64 k] w fun e w' => e = .returned (.int .i64 (longN (s.data.toList.drop k))) ∧ w' = w := by
 obtain ⟨c, cs, hcs, hcs'⟩ := drop_cons hk
 have hget := get_of_drop hcs hk
 have hlen : cs.length + 1 = s.size - k := by
  have := congrArg List.length hcs
  rw [List.length_drop, len_list, List.length_cons] at this; omega
 have b1 : (0 : Int) ≤ (k : Int) := by omega
 have b2 : (k : Int) < (s.size : Int) := by omega
 rw [hcs]
 have HCS := Lib.hid hcs
 clear hcs hcs'
 by_cases h128 : c.toNat < 128
 ·have hl : longN (c :: cs) = 1 := by unfold longN; simp only []; rw [if_pos h128]
  have d1 : decide ((c.toNat : Int) < 128) = true := by simp; omega
  rw [hl]
  go_enter Tryz.func85, Tryz.ntmps85
  go_wp2_with fail
  go_ret
  exact ⟨rfl, rfl⟩
 ·have d1 : decide ((c.toNat : Int) < 128) = false := by simp; omega
  cases hh : headN c.toNat with
  | none =>
   have hl : longN (c :: cs) = 0 := by unfold longN; simp only []; rw [if_neg h128, hh]
   rw [hl]
   have hc : c.toNat < 194 ∨ 245 ≤ c.toNat := by
    unfold headN at hh
    repeat' split at hh
    all_goals first | (cases hh; done) | omega
   clear hh
   rcases hc with hc | hc
   ·have d2 : decide ((194 : Int) ≤ (c.toNat : Int)) = false := by simp; omega
    have d3 : decide ((224 : Int) ≤ (c.toNat : Int)) = false := by simp; omega
    have d4 : decide ((240 : Int) ≤ (c.toNat : Int)) = false := by simp; omega
    go_enter Tryz.func85, Tryz.ntmps85
    go_wp2_with fail
    go_ret
    exact ⟨rfl, rfl⟩
   ·have d2 : decide ((194 : Int) ≤ (c.toNat : Int)) = true := by simp; omega
    have d3 : decide ((224 : Int) ≤ (c.toNat : Int)) = true := by simp; omega
    have d4 : decide ((240 : Int) ≤ (c.toNat : Int)) = true := by simp; omega
    have d5 : decide ((c.toNat : Int) < 224) = false := by simp; omega
    have d6 : decide ((c.toNat : Int) < 240) = false := by simp; omega
    have d7 : decide ((c.toNat : Int) < 245) = false := by simp; omega
    go_enter Tryz.func85, Tryz.ntmps85
    go_wp2_with fail
    go_ret
    exact ⟨rfl, rfl⟩
  | some p =>
   obtain ⟨n, v⟩ := p
   have hn := headN_n hh
   obtain ⟨hc, hv⟩ : (n = 2 ∧ 194 ≤ c.toNat ∧ c.toNat < 224 ∨ n = 3 ∧ 224 ≤ c.toNat ∧ c.toNat < 240 ∨ n = 4 ∧ 240 ≤ c.toNat ∧ c.toNat < 245) ∧ (n = 2 → v = c.toNat - 192) ∧ (n = 3 → v = c.toNat - 224) ∧ (n = 4 → v = c.toNat - 240) := by
    have hh2 := hh
    unfold headN at hh2
    repeat' split at hh2
    all_goals first | (cases hh2; done) | (cases hh2; omega)
   have hv31 : v < 32 := by omega
   rcases hc with ⟨rfl, hc1, hc2⟩ | ⟨rfl, hc1, hc2⟩ | ⟨rfl, hc1, hc2⟩
   ·have d2 : decide ((194 : Int) ≤ (c.toNat : Int)) = true := by simp; omega
    have d5 : decide ((c.toNat : Int) < 224) = true := by simp; omega
    have hv2 := hv.1 rfl
    have hvv : (c.toNat : Int) - 192 = (v : Int) := by omega
    clear hv hn hv2
    by_cases hshort : cs.length + 1 < 2
    ·have hL : longN (c :: cs) = 0 := by
      unfold longN; simp only []; rw [if_neg h128, hh]; simp only []; rw [if_pos hshort]
     have dl : decide ((s.size : Int) < (k : Int) + 2) = true := by simp; omega
     rw [hL]
     clear hh
     go_enter Tryz.func85, Tryz.ntmps85
     go_wp2_with fail
     go_ret
     exact ⟨rfl, rfl⟩
    ·have hL := long_eq h128 hh hshort
     have dl : decide ((s.size : Int) < (k : Int) + 2) = false := by simp; omega
     obtain ⟨R, hR⟩ : ∃ R, longN (c :: cs) = R := ⟨_, rfl⟩
     rw [hR] at hL ⊢
     have HL := Lib.hid hL
     clear hh hL hR
     go_enter Tryz.func85, Tryz.ntmps85
     go_wp2_with fail
     go_loopw [7, 8] (fun u i wr => ∃ (iv vv : Nat), i = .int .i64 iv ∧ u = .int .i64 vv ∧ LvRel cs 2 v iv vv ∧ wr = w) (fun _ i _ => 2 - (intOf i).toNat)
     case atStart => exact ⟨1, v, rfl, rfl, ⟨Nat.le_refl _, by decide, rfl, by simp; omega⟩, rfl⟩
     case round =>
      obtain ⟨iv, vv, rfl, rfl, hr, rfl⟩ := hrel
      have hr1 := hr.1
      have hr2 := hr.2.1
      have hbd := lv_bound hr (by omega)
      have HR := Lib.hid hr
      clear hr hvv
      rcases Nat.lt_or_ge iv 2 with hlt | hge
      ·have di : decide ((iv : Int) < 2) = true := by simp; omega
       obtain ⟨d, ds, hds, -⟩ := drop_cons (s := s) (j := k + iv) (by omega)
       have hgd := get_of_drop hds (by omega)
       have hdi : cs[iv - 1]? = some d := by
        have h1 := get_of_cons' hds
        have h2 := congrArg (fun l => l[iv]?) HCS.out
        simp only [List.getElem?_drop] at h2
        rw [h1] at h2
        rw [h2, ← List.getElem?_cons_succ (a := c), Nat.sub_add_cancel hr1]
       obtain ⟨st1, st2⟩ := lv_step HR.out hlt hdi
       have ST1 := Lib.hid st1
       have ST2 := Lib.hid st2
       have hpi : ((k : Int) + (iv : Int)).toNat = k + iv := by omega
       have c1 : (0 : Int) ≤ (k : Int) + (iv : Int) := by omega
       have c2 : (k : Int) + (iv : Int) < (s.size : Int) := by omega
       have hd255 := d.toNat_lt
       clear hds hdi st1 st2
       by_cases hlo : d.toNat < 128
       ·have q1 : decide ((d.toNat : Int) < 128) = true := by simp; omega
        go_wp2_with fail
        have hR0 : R = 0 := by rw [HL.out, ST2.out (by omega)]
        subst hR0
        go_ret
        exact ⟨rfl, rfl⟩
       ·have q1 : decide ((d.toNat : Int) < 128) = false := by simp; omega
        by_cases hhi : 192 ≤ d.toNat
        ·have q2 : decide ((192 : Int) ≤ (d.toNat : Int)) = true := by simp; omega
         go_wp2_with fail
         have hR0 : R = 0 := by rw [HL.out, ST2.out (by omega)]
         subst hR0
         go_ret
         exact ⟨rfl, rfl⟩
        ·have q2 : decide ((192 : Int) ≤ (d.toNat : Int)) = false := by simp; omega
         have hnv : 64 * (vv : Int) + (d.toNat : Int) - 128 = ((64 * vv + d.toNat - 128 : Nat) : Int) := by omega
         go_wp2_with fail
         exact ⟨⟨iv + 1, 64 * vv + d.toNat - 128, by simp, rfl, ST1.out (by omega), trivial⟩, by simp [intOf]; omega⟩
      ·have di : decide ((iv : Int) < 2) = false := by simp; omega
       obtain rfl : iv = 2 := by omega
       have hlv : lv v cs (2 - 1) = some vv := by rw [← HR.out.2.2.1]; rfl
       have hRv := HL.out
       rw [hlv] at hRv
       simp only [] at hRv
       rw [show badN 2 vv = false by simp [badN]] at hRv
       rw [if_neg (by decide)] at hRv
       subst hRv
       go_wp2_with fail
       go_ret
       exact ⟨rfl, rfl⟩
   ·have d2 : decide ((194 : Int) ≤ (c.toNat : Int)) = true := by simp; omega
    have d5 : decide ((c.toNat : Int) < 224) = false := by simp; omega
    have d3 : decide ((224 : Int) ≤ (c.toNat : Int)) = true := by simp; omega
    have d6 : decide ((c.toNat : Int) < 240) = true := by simp; omega
    have hv2 := hv.2.1 rfl
    have hvv : (c.toNat : Int) - 224 = (v : Int) := by omega
    clear hv hn hv2
    by_cases hshort : cs.length + 1 < 3
    ·have hL : longN (c :: cs) = 0 := by
      unfold longN; simp only []; rw [if_neg h128, hh]; simp only []; rw [if_pos hshort]
     have dl : decide ((s.size : Int) < (k : Int) + 3) = true := by simp; omega
     rw [hL]
     clear hh
     go_enter Tryz.func85, Tryz.ntmps85
     go_wp2_with fail
     go_ret
     exact ⟨rfl, rfl⟩
    ·have hL := long_eq h128 hh hshort
     have dl : decide ((s.size : Int) < (k : Int) + 3) = false := by simp; omega
     obtain ⟨R, hR⟩ : ∃ R, longN (c :: cs) = R := ⟨_, rfl⟩
     rw [hR] at hL ⊢
     have HL := Lib.hid hL
     clear hh hL hR
     go_enter Tryz.func85, Tryz.ntmps85
     go_wp2_with fail
     go_loopw [7, 8] (fun u i wr => ∃ (iv vv : Nat), i = .int .i64 iv ∧ u = .int .i64 vv ∧ LvRel cs 3 v iv vv ∧ wr = w) (fun _ i _ => 3 - (intOf i).toNat)
     case atStart => exact ⟨1, v, rfl, rfl, ⟨Nat.le_refl _, by decide, rfl, by simp; omega⟩, rfl⟩
     case round =>
      obtain ⟨iv, vv, rfl, rfl, hr, rfl⟩ := hrel
      have hr1 := hr.1
      have hr2 := hr.2.1
      have hbd := lv_bound hr (by omega)
      have HR := Lib.hid hr
      clear hr hvv
      rcases Nat.lt_or_ge iv 3 with hlt | hge
      ·have di : decide ((iv : Int) < 3) = true := by simp; omega
       obtain ⟨d, ds, hds, -⟩ := drop_cons (s := s) (j := k + iv) (by omega)
       have hgd := get_of_drop hds (by omega)
       have hdi : cs[iv - 1]? = some d := by
        have h1 := get_of_cons' hds
        have h2 := congrArg (fun l => l[iv]?) HCS.out
        simp only [List.getElem?_drop] at h2
        rw [h1] at h2
        rw [h2, ← List.getElem?_cons_succ (a := c), Nat.sub_add_cancel hr1]
       obtain ⟨st1, st2⟩ := lv_step HR.out hlt hdi
       have ST1 := Lib.hid st1
       have ST2 := Lib.hid st2
       have hpi : ((k : Int) + (iv : Int)).toNat = k + iv := by omega
       have c1 : (0 : Int) ≤ (k : Int) + (iv : Int) := by omega
       have c2 : (k : Int) + (iv : Int) < (s.size : Int) := by omega
       have hd255 := d.toNat_lt
       clear hds hdi st1 st2
       by_cases hlo : d.toNat < 128
       ·have q1 : decide ((d.toNat : Int) < 128) = true := by simp; omega
        go_wp2_with fail
        have hR0 : R = 0 := by rw [HL.out, ST2.out (by omega)]
        subst hR0
        go_ret
        exact ⟨rfl, rfl⟩
       ·have q1 : decide ((d.toNat : Int) < 128) = false := by simp; omega
        by_cases hhi : 192 ≤ d.toNat
        ·have q2 : decide ((192 : Int) ≤ (d.toNat : Int)) = true := by simp; omega
         go_wp2_with fail
         have hR0 : R = 0 := by rw [HL.out, ST2.out (by omega)]
         subst hR0
         go_ret
         exact ⟨rfl, rfl⟩
        ·have q2 : decide ((192 : Int) ≤ (d.toNat : Int)) = false := by simp; omega
         have hnv : 64 * (vv : Int) + (d.toNat : Int) - 128 = ((64 * vv + d.toNat - 128 : Nat) : Int) := by omega
         go_wp2_with fail
         exact ⟨⟨iv + 1, 64 * vv + d.toNat - 128, by simp, rfl, ST1.out (by omega), trivial⟩, by simp [intOf]; omega⟩
      ·have di : decide ((iv : Int) < 3) = false := by simp; omega
       obtain rfl : iv = 3 := by omega
       have hlv : lv v cs (3 - 1) = some vv := by rw [← HR.out.2.2.1]; rfl
       have hRv := HL.out
       rw [hlv] at hRv
       simp only [] at hRv
       by_cases h1 : vv < 2048
       ·have x1 : decide ((vv : Int) < 2048) = true := by simp; omega
        rw [show badN 3 vv = true by simp [badN]; omega] at hRv
        rw [if_pos rfl] at hRv
        subst hRv
        go_wp2_with fail
        go_ret
        exact ⟨rfl, rfl⟩
       ·have x1 : decide ((vv : Int) < 2048) = false := by simp; omega
        by_cases h2 : 55296 ≤ vv
        ·have x2 : decide ((55296 : Int) ≤ (vv : Int)) = true := by simp; omega
         by_cases h3 : vv < 57344
         ·have x3 : decide ((vv : Int) < 57344) = true := by simp; omega
          rw [show badN 3 vv = true by simp [badN]; omega] at hRv
          rw [if_pos rfl] at hRv
          subst hRv
          go_wp2_with fail
          go_ret
          exact ⟨rfl, rfl⟩
         ·have x3 : decide ((vv : Int) < 57344) = false := by simp; omega
          rw [show badN 3 vv = false by simp [badN]; omega] at hRv
          rw [if_neg (by decide)] at hRv
          subst hRv
          go_wp2_with fail
          go_ret
          exact ⟨rfl, rfl⟩
        ·have x2 : decide ((55296 : Int) ≤ (vv : Int)) = false := by simp; omega
         rw [show badN 3 vv = false by simp [badN]; omega] at hRv
         rw [if_neg (by decide)] at hRv
         subst hRv
         go_wp2_with fail
         go_ret
         exact ⟨rfl, rfl⟩
   ·have d2 : decide ((194 : Int) ≤ (c.toNat : Int)) = true := by simp; omega
    have d5 : decide ((c.toNat : Int) < 224) = false := by simp; omega
    have d3 : decide ((224 : Int) ≤ (c.toNat : Int)) = true := by simp; omega
    have d6 : decide ((c.toNat : Int) < 240) = false := by simp; omega
    have d4 : decide ((240 : Int) ≤ (c.toNat : Int)) = true := by simp; omega
    have d7 : decide ((c.toNat : Int) < 245) = true := by simp; omega
    have hv2 := hv.2.2 rfl
    have hvv : (c.toNat : Int) - 240 = (v : Int) := by omega
    clear hv hn hv2
    by_cases hshort : cs.length + 1 < 4
    ·have hL : longN (c :: cs) = 0 := by
      unfold longN; simp only []; rw [if_neg h128, hh]; simp only []; rw [if_pos hshort]
     have dl : decide ((s.size : Int) < (k : Int) + 4) = true := by simp; omega
     rw [hL]
     clear hh
     go_enter Tryz.func85, Tryz.ntmps85
     go_wp2_with fail
     go_ret
     exact ⟨rfl, rfl⟩
    ·have hL := long_eq h128 hh hshort
     have dl : decide ((s.size : Int) < (k : Int) + 4) = false := by simp; omega
     obtain ⟨R, hR⟩ : ∃ R, longN (c :: cs) = R := ⟨_, rfl⟩
     rw [hR] at hL ⊢
     have HL := Lib.hid hL
     clear hh hL hR
     go_enter Tryz.func85, Tryz.ntmps85
     go_wp2_with fail
     go_loopw [7, 8] (fun u i wr => ∃ (iv vv : Nat), i = .int .i64 iv ∧ u = .int .i64 vv ∧ LvRel cs 4 v iv vv ∧ wr = w) (fun _ i _ => 4 - (intOf i).toNat)
     case atStart => exact ⟨1, v, rfl, rfl, ⟨Nat.le_refl _, by decide, rfl, by simp; omega⟩, rfl⟩
     case round =>
      obtain ⟨iv, vv, rfl, rfl, hr, rfl⟩ := hrel
      have hr1 := hr.1
      have hr2 := hr.2.1
      have hbd := lv_bound hr (by omega)
      have HR := Lib.hid hr
      clear hr hvv
      rcases Nat.lt_or_ge iv 4 with hlt | hge
      ·have di : decide ((iv : Int) < 4) = true := by simp; omega
       obtain ⟨d, ds, hds, -⟩ := drop_cons (s := s) (j := k + iv) (by omega)
       have hgd := get_of_drop hds (by omega)
       have hdi : cs[iv - 1]? = some d := by
        have h1 := get_of_cons' hds
        have h2 := congrArg (fun l => l[iv]?) HCS.out
        simp only [List.getElem?_drop] at h2
        rw [h1] at h2
        rw [h2, ← List.getElem?_cons_succ (a := c), Nat.sub_add_cancel hr1]
       obtain ⟨st1, st2⟩ := lv_step HR.out hlt hdi
       have ST1 := Lib.hid st1
       have ST2 := Lib.hid st2
       have hpi : ((k : Int) + (iv : Int)).toNat = k + iv := by omega
       have c1 : (0 : Int) ≤ (k : Int) + (iv : Int) := by omega
       have c2 : (k : Int) + (iv : Int) < (s.size : Int) := by omega
       have hd255 := d.toNat_lt
       clear hds hdi st1 st2
       by_cases hlo : d.toNat < 128
       ·have q1 : decide ((d.toNat : Int) < 128) = true := by simp; omega
        go_wp2_with fail
        have hR0 : R = 0 := by rw [HL.out, ST2.out (by omega)]
        subst hR0
        go_ret
        exact ⟨rfl, rfl⟩
       ·have q1 : decide ((d.toNat : Int) < 128) = false := by simp; omega
        by_cases hhi : 192 ≤ d.toNat
        ·have q2 : decide ((192 : Int) ≤ (d.toNat : Int)) = true := by simp; omega
         go_wp2_with fail
         have hR0 : R = 0 := by rw [HL.out, ST2.out (by omega)]
         subst hR0
         go_ret
         exact ⟨rfl, rfl⟩
        ·have q2 : decide ((192 : Int) ≤ (d.toNat : Int)) = false := by simp; omega
         have hnv : 64 * (vv : Int) + (d.toNat : Int) - 128 = ((64 * vv + d.toNat - 128 : Nat) : Int) := by omega
         go_wp2_with fail
         exact ⟨⟨iv + 1, 64 * vv + d.toNat - 128, by simp, rfl, ST1.out (by omega), trivial⟩, by simp [intOf]; omega⟩
      ·have di : decide ((iv : Int) < 4) = false := by simp; omega
       obtain rfl : iv = 4 := by omega
       have hlv : lv v cs (4 - 1) = some vv := by rw [← HR.out.2.2.1]; rfl
       have hRv := HL.out
       rw [hlv] at hRv
       simp only [] at hRv
       by_cases h1 : vv < 65536
       ·have x1 : decide ((vv : Int) < 65536) = true := by simp; omega
        rw [show badN 4 vv = true by simp [badN]; omega] at hRv
        rw [if_pos rfl] at hRv
        subst hRv
        go_wp2_with fail
        go_ret
        exact ⟨rfl, rfl⟩
       ·have x1 : decide ((vv : Int) < 65536) = false := by simp; omega
        by_cases h2 : 1114111 < vv
        ·have x2 : decide ((1114111 : Int) < (vv : Int)) = true := by simp; omega
         rw [show badN 4 vv = true by simp [badN]; omega] at hRv
         rw [if_pos rfl] at hRv
         subst hRv
         go_wp2_with fail
         go_ret
         exact ⟨rfl, rfl⟩
        ·have x2 : decide ((1114111 : Int) < (vv : Int)) = false := by simp; omega
         rw [show badN 4 vv = false by simp [badN]; omega] at hRv
         rw [if_neg (by decide)] at hRv
         subst hRv
         go_wp2_with fail
         go_ret
         exact ⟨rfl, rfl⟩
theorem runesN_fuel : ∀ (n m : Nat) (l : Bytes), l.length ≤ n → l.length ≤ m → runesN n l = runesN m l
 | 0, m, l, hn, _ => by
  obtain rfl : l = [] := List.eq_nil_of_length_eq_zero (by omega)
  cases m <;> rfl
 | n + 1, 0, l, _, hm => by
  obtain rfl : l = [] := List.eq_nil_of_length_eq_zero (by omega)
  rfl
 | n + 1, m + 1, [], hn, hm => rfl
 | n + 1, m + 1, c :: cs, hn, hm => by
  have hw := Lib.decodeL_width (c :: cs)
  simp only [runesN]
  rw [runesN_fuel n m _ (by rw [List.length_drop]; omega) (by rw [List.length_drop]; omega)]
theorem runes_nil : runes [] = 0 := rfl
theorem runes_step (c : UInt8) (cs : Bytes) : runes (c :: cs) = 1 + runes ((c :: cs).drop (Lib.decodeL (c :: cs)).2) := by
 have hw := Lib.decodeL_width (c :: cs)
 rw [runes, List.length_cons]
 simp only [runesN]
 rw [runesN_fuel _ _ _ (by rw [List.length_drop, List.length_cons]; omega) (Nat.le_refl _), runes]
theorem runes_long (c : UInt8) (cs : Bytes) (h0 : longN (c :: cs) ≠ 0) : runes (c :: cs) = 1 + runes ((c :: cs).drop (longN (c :: cs))) := by
 rw [runes_step, Lib.decodeL_N]
 have h := long_decode (cs.length + 1) c.toNat (cs.getD 0 0).toNat (cs.getD 1 0).toNat (cs.getD 2 0).toNat c.toNat_lt (UInt8.toNat_lt _) (UInt8.toNat_lt _) (UInt8.toNat_lt _)
 have e : Lib.decodeN (c :: cs).length ((c :: cs).getD 0 0).toNat ((c :: cs).getD 1 0).toNat ((c :: cs).getD 2 0).toNat ((c :: cs).getD 3 0).toNat = Lib.decodeN (cs.length + 1) c.toNat (cs.getD 0 0).toNat (cs.getD 1 0).toNat (cs.getD 2 0).toNat := rfl
 rw [e]
 rw [long_M] at h0 ⊢
 rcases h with ⟨h1, -⟩ | ⟨-, h2, -⟩
 ·exact absurd h1 h0
 ·rw [h2]
theorem runes_149 (s : ByteArray) (w : World) (hs : s.size ≤ 140737488355328) :
  Calls Tryz.prog 42 #[.string s] w fun e w' => ∃ r : Int, e = .returned (.int .i64 r) ∧ (decide (r < 0) = !Lib.validD s.data.toList ∧ (Lib.validD s.data.toList = true → r = runes s.data.toList)) ∧ w' = w := by
 go_enter Tryz.func42, Tryz.ntmps42
 go_wp2_with fail
 go_loopw [3, 4] (fun n a wr => ∃ (nv av : Nat), n = .int .i64 nv ∧ a = .int .i64 av ∧ nv ≤ av ∧ av ≤ s.size ∧ (Lib.validD (s.data.toList.drop av) = Lib.validD s.data.toList ∧ nv + runes (s.data.toList.drop av) = runes s.data.toList) ∧ wr = w) (fun _ a _ => s.size - (intOf a).toNat)
 case atStart => exact ⟨0, 0, rfl, rfl, Nat.le_refl _, Nat.zero_le _, ⟨rfl, Nat.zero_add _⟩, rfl⟩
 case round =>
  obtain ⟨nv, av, rfl, rfl, h1, h2, ⟨hv, hr⟩, rfl⟩ := hrel
  have HV := Lib.hid hv
  have HR := Lib.hid hr
  clear hv hr
  rcases Nat.lt_or_ge av s.size with hlt | hge
  ·have hd : decide ((av : Int) < (s.size : Int)) = true := by simp; omega
   obtain ⟨c, cs, hcs, -⟩ := drop_cons hlt
   have hvl := valid_long c cs
   have hrl := runes_long c cs
   have hle := longN_le (c := c) (cs := cs)
   have hlen := congrArg List.length hcs
   rw [List.length_drop, len_list, List.length_cons] at hlen
   rw [← hcs] at hvl hle hrl
   rw [HV.out, List.drop_drop] at hvl
   rw [List.drop_drop] at hrl
   have hlg := long_195 s av wr hlt hs
   have HLG := Lib.hid hlg
   obtain ⟨L, hL⟩ : ∃ L, longN (s.data.toList.drop av) = L := ⟨_, rfl⟩
   rw [hL] at HLG hvl hle hrl
   have HVL := Lib.hid hvl
   have HRL := Lib.hid hrl
   clear hvl hcs hL hlg hrl
   go_wp2_with fail
   refine HLG.out.mono ?_
   rintro _ _ ⟨rfl, rfl⟩
   by_cases h0 : L = 0
   ·have hz : ((L : Int) == 0) = true := by simp; omega
    have hbad : Lib.validD s.data.toList = false := by rw [HVL.out, if_pos h0]
    have HBAD := Lib.hid hbad
    clear h0 hbad
    go_wp2_with fail
    go_ret
    exact ⟨-1, rfl, ⟨by rw [HBAD.out]; rfl, fun h => by rw [HBAD.out] at h; cases h⟩, rfl⟩
   ·have hz : ((L : Int) == 0) = false := by simp; omega
    go_wp2_with fail
    exact ⟨⟨nv + 1, av + L, by simp, by simp, by omega, by omega, ⟨by rw [HVL.out, if_neg h0], by have h3 := HRL.out h0; have h4 := HR.out; omega⟩, trivial⟩, by simp [intOf]; omega⟩
  ·have hd : decide ((av : Int) < (s.size : Int)) = false := by simp; omega
   go_wp2_with fail
   go_ret
   refine ⟨_, rfl, ⟨?_, fun _ => by have h4 := HR.out; rw [List.drop_of_length_le (by rw [len_list]; omega), runes_nil] at h4; omega⟩, rfl⟩
   have : Lib.validD s.data.toList = true := by rw [← HV.out, List.drop_of_length_le (by rw [len_list]; omega)]; rfl
   rw [this]
   simp
end Go.Proofs.YtmmhedlagnjbiaaGreatDoor
namespace Go.Proofs.YtmmhedlagnjbiaaGreatDoor
open Go.RowKit Go.Pen
attribute [local go_sem] Oper.semAt_some
theorem te_t {t : ByteArray} (h : (!t.toList.isEmpty) = true) : ¬ t.toList = [] := fun e => by rw [e] at h; cases h
theorem te_f {t : ByteArray} (h : (!t.toList.isEmpty) = false) : t.toList = [] := by
 cases hl : t.toList
 ·rfl
 ·rw [hl] at h; cases h
theorem neg_t {r : Int} {b : Bool} (h : decide (r < 0) = !b) (hr : r < 0) : (!b) = true := by rw [← h]; exact decide_eq_true hr
theorem neg_f {r : Int} {b : Bool} (h : decide (r < 0) = !b) (hr : 0 ≤ r) : (!b) = false := by rw [← h]; exact decide_eq_false (by omega)
theorem chk_finI {d : Dat} {m c B : Nat} {w W : World} (h : chkD d = m) (h2 : chkD d = c) (h3 : Below B w W) : Ending.returned (.int .i64 (m : Int)) = Ending.returned (.int .i64 (c : Int)) ∧ Below B w W := ⟨by rw [h.symm.trans h2], h3⟩
theorem one_below (w : World) (a : Obj) : Below w.heap.size w (w.alloc a) := (Below.refl _ _).alloc (Nat.le_refl _) _
theorem check_105 (d : Dat) (w : World) (hf : d.fits) :
  Calls Tryz.prog 26 #[d.agg] w fun e w' => e = .returned (.int .i64 (chkD d)) ∧ Below w.heap.size w w' := by
 obtain ⟨k, b, n, t⟩ := d
 obtain ⟨c, hc⟩ : ∃ c, chkD ⟨k, b, n, t⟩ = c := ⟨_, rfl⟩
 rw [hc]
 have HC := Lib.hid hc
 have hk0 := hf.1.1
 have hk1 := hf.1.2
 have hn0 := hf.2.1.1
 have hn1 := hf.2.1.2
 have hts : t.size ≤ 140737488355328 := hf.2.2
 clear hf hc
 simp only at hk0 hk1 hn0 hn1
 have val := fun (W : World) => runes_149 t W hts
 have VAL := Lib.hid val
 clear val
 unfold Dat.agg
 simp only
 rcases (show (k = 1 ∨ k = 2 ∨ k = 3 ∨ k = 4) ∨ (k < 1 ∨ 4 < k) by omega) with (rfl | rfl | rfl | rfl) | hbad
 rotate_left 4
 ·have hc : chkD ⟨k, b, n, t⟩ = 13 := chkD_13 (.inl hbad)
  obtain rfl := hc.symm.trans HC.out
  clear hc HC
  rcases hbad with hbad | hbad
  ·go_enter Tryz.func26, Tryz.ntmps26
   go_wp2_with fail
   go_ret
   exact ⟨rfl, one_below _ _⟩
  ·go_enter Tryz.func26, Tryz.ntmps26
   go_wp2_with fail
   go_ret
   exact ⟨rfl, one_below _ _⟩
 all_goals
  go_enter Tryz.func26, Tryz.ntmps26
  go_wp2_with (go_at_call 42; refine (VAL.out _).mono ?_; rintro _ w2 ⟨r, rfl, ⟨hv, -⟩, rfl⟩; have HV := Lib.hid hv; clear hv)
  all_goals
   go_ret
   first
    | exact chk_finI (chkD_b (by decide) (by assumption)) HC.out (one_below _ _)
    | exact chk_finI (chkD_n (by decide) (by assumption)) HC.out (one_below _ _)
    | exact chk_finI (chkD_t (by decide) (te_t (by assumption))) HC.out (one_below _ _)
    | exact chk_finI (chkD_v (neg_t HV.out (by assumption))) HC.out (one_below _ _)
    | exact chk_finI (chkD_z12 (by decide) (by first | exact .inl rfl | exact .inr (by assumption) | exact .inr (te_f (by assumption))) (by first | exact .inl rfl | exact .inr (by assumption) | exact .inr (te_f (by assumption))) (by first | exact .inl rfl | exact .inr (by assumption) | exact .inr (te_f (by assumption))) (neg_f HV.out (by assumption)) (by assumption)) HC.out (one_below _ _)
    | exact chk_finI (chkD_z0 (by decide) (by first | exact .inl rfl | exact .inr (by assumption) | exact .inr (te_f (by assumption))) (by first | exact .inl rfl | exact .inr (by assumption) | exact .inr (te_f (by assumption))) (by first | exact .inl rfl | exact .inr (by assumption) | exact .inr (te_f (by assumption))) (neg_f HV.out (by assumption)) (by assumption)) HC.out (one_below _ _)
end Go.Proofs.YtmmhedlagnjbiaaGreatDoor
namespace Go.Proofs.YtmmhedlagnjbiaaGreatDoor
theorem own_inv {ok : Dat → Bool} {e : ET} (h : e.own ok = true) : kidsOk e.op e.kids.length = true ∧ (e.op = 1 → 0 ≤ e.col ∧ e.col ≤ 9999) ∧ (e.op ≠ 1 → e.col = 0) ∧ (e.op = 2 → ok e.lit = true) ∧ (e.op = 23 → e.lit = ⟨3, false, e.lit.int, ⟨#[]⟩⟩ ∧ 1 ≤ e.lit.int ∧ e.lit.int ≤ 65535) ∧ (e.op ≠ 2 → e.op ≠ 23 → e.lit = Dat.zero) := by
 simp only [ET.own, Bool.and_eq_true] at h
 obtain ⟨⟨h1, h2⟩, h3⟩ := h
 refine ⟨h1, fun e1 => ?_, fun e1 => ?_, fun e2 => ?_, fun e3 => ?_, fun e2 e3 => ?_⟩
 ·rw [if_pos e1] at h2; exact of_decide_eq_true h2
 ·rw [if_neg e1] at h2; exact of_decide_eq_true h2
 ·rw [if_pos e2] at h3; exact h3
 ·rw [if_neg (by omega), if_pos e3] at h3; exact of_decide_eq_true h3
 ·rw [if_neg e2, if_neg e3] at h3; exact of_decide_eq_true h3
theorem own_mk {ok : Dat → Bool} {o c : Int} {d : Dat} {ks : List ET} (h : ET.own ok (.mk o c d ks) = true) : kidsOk o ks.length = true ∧ (o = 1 → 0 ≤ c ∧ c ≤ 9999) ∧ (o ≠ 1 → c = 0) ∧ (o = 2 → ok d = true) ∧ (o = 23 → d = ⟨3, false, d.int, ⟨#[]⟩⟩ ∧ 1 ≤ d.int ∧ d.int ≤ 65535) ∧ (o ≠ 2 → o ≠ 23 → d = Dat.zero) := own_inv h
theorem zero_inv {d : Dat} (h : d = Dat.zero) : d.kind = 0 ∧ d.bool = false ∧ d.int = 0 ∧ d.text = ⟨#[]⟩ := by subst h; exact ⟨rfl, rfl, rfl, rfl⟩
theorem fail_inv {d : Dat} (h : d = ⟨3, false, d.int, ⟨#[]⟩⟩) : d.kind = 3 ∧ d.bool = false ∧ d.text = ⟨#[]⟩ := by rw [h]; exact ⟨rfl, rfl, rfl⟩
end Go.Proofs.YtmmhedlagnjbiaaGreatDoor
namespace Go.Proofs.YtmmhedlagnjbiaaGreatDoor
open Go.RowKit Go.Pen
attribute [local go_sem ↓] Go.wp_at_zero Go.wp_at_succ
attribute [local go_sem] Oper.semAt_some
theorem ET.withins_take {n : Int} {ks : List ET} {i : Nat} {k : ET} (hk : ks[i]? = some k) (h : ET.withins n (ks.take i) = true) (hg : k.within n = true) : ET.withins n (ks.take (i + 1)) = true := by
 rw [ET.withins_iff] at h ⊢
 intro x hx
 rw [List.take_succ_eq_append_getElem (by exact (List.getElem?_eq_some_iff.1 hk).1)] at hx
 rcases List.mem_append.1 hx with hx | hx
 ·exact h x hx
 ·simp at hx
  rw [(List.getElem?_eq_some_iff.1 hk).2] at hx
  subst hx; exact hg
def WiPost (b : Bool) (w : World) (ev : Ending) (w' : World) : Prop := ev = .returned (.bool b) ∧ Below w.heap.size w w'
theorem wi_mk {b c : Bool} {w w' : World} (h : c = b) (hb : Below w.heap.size w w') : WiPost b w (.returned (.bool c)) w' := ⟨by rw [h], hb⟩
theorem wi_kid {o c n : Int} {d : Dat} {ks : List ET} {k : ET} {i : Nat} (hk : ks[i]? = some k) (h : k.within n = false) : false = (ET.mk o c d ks).within n := by
 cases hw : (ET.mk o c d ks).within n
 ·rfl
 ·simp only [ET.within, Bool.and_eq_true, ET.withins_iff] at hw
  rw [hw.2 k (List.mem_of_getElem? hk)] at h
  cases h
theorem wi_far {o c n : Int} {d : Dat} {ks : List ET} (h1 : o = 1) (h2 : n ≤ c) : false = (ET.mk o c d ks).within n := by
 simp [ET.within, h1, h2]
theorem wi_all {o c n : Int} {d : Dat} {ks : List ET} (h : ¬ (o = 1 ∧ n ≤ c)) (hk : ET.withins n ks = true) : true = (ET.mk o c d ks).within n := by
 have h2 : (decide (o = 1) && decide (n ≤ c)) = false := by
  rw [Bool.and_eq_false_iff, decide_eq_false_iff_not, decide_eq_false_iff_not]
  by_cases h1 : o = 1
  ·exact .inr fun h3 => h ⟨h1, h3⟩
  ·exact .inl h1
 simp only [ET.within, hk, h2]
 rfl
theorem within_44 : ∀ (e : ET) (kv : Value) (n : Int) (w : World), e.At w kv → e.fits →
  Calls Tryz.prog 24 #[e.agg kv, .int .i64 n] w (WiPost (e.within n) w) := by
 refine ET.ind fun o c d ks ih kv n w hat hfit => ?_
 obtain ⟨a, cc, rfl, -, hks⟩ := ET.On.iff.1 hat
 simp only [ET.fits] at hfit
 obtain ⟨⟨ho0, ho1⟩, ⟨hc0, hc1⟩, -, hkl, hfs⟩ := hfit
 have HF := Lib.hid (ET.fitss_iff.1 hfs)
 have HKS := Lib.hid hks
 have IH := Lib.hid ih
 obtain ⟨K, eK⟩ : ∃ K, K = ks.length := ⟨_, rfl⟩
 rw [← eK] at hkl
 have EK := Lib.hid eK
 clear hfs hks ih hat
 unfold ET.agg
 simp only [ET.op, ET.col, ET.lit, ET.kids]
 rw [← eK]
 clear eK
 obtain ⟨R, eR⟩ : ∃ R, R = (ET.mk o c d ks).within n := ⟨_, rfl⟩
 rw [← eR]
 have ER := Lib.hid eR
 clear eR
 by_cases hfar : o = 1 ∧ n ≤ c
 ·obtain ⟨rfl, h2⟩ := hfar
  obtain rfl : R = false := ER.out.trans (wi_far rfl h2).symm
  go_enter Tryz.func24, Tryz.ntmps24
  go_wp2_with fail
  go_ret
  exact wi_mk rfl (one_below _ _)
 ·have HFAR := Lib.hid hfar
  have hno : (o == 1) = false ∨ (o == 1) = true ∧ c < n := by
   by_cases h1 : o = 1
   ·exact .inr ⟨by simpa using h1, by omega⟩
   ·exact .inl (by simpa using h1)
  clear hfar
  rcases hno with hno | ⟨hno, hlt⟩
  all_goals
   go_enter Tryz.func24, Tryz.ntmps24
   go_wp2_with fail
   obtain ⟨w1, hw1⟩ : ∃ w1, w1 = w.alloc (.cells #[.int .u8 o, .slice a K cc, .int .i64 c, .int .u8 d.kind, .bool d.bool, .int .i64 d.int, .string d.text] 27) := ⟨_, rfl⟩
   have hb1 : Below w.heap.size w w1 := by rw [hw1]; exact one_below _ _
   have c1 : w1.cell? ⟨w.heap.size, 1, none⟩ = some (.slice a K cc) := by rw [hw1]; exact cell_of_heap (heap_alloc_new _ _) rfl
   rw [← hw1]
   have HB1 := Lib.hid hb1
   clear hw1 hb1
   go_loopg [5] K (fun g s5 wr => ∃ i : Nat, i ≤ K ∧ g = K - i ∧ s5 = .int .i64 i ∧ ET.withins n (ks.take i) = true ∧ Below w1.heap.size w1 wr)
   case atStart => exact ⟨0, Nat.zero_le _, rfl, rfl, rfl, Below.refl _ _⟩
   case round =>
    obtain ⟨i, hi, rfl, rfl, hws, hbr⟩ := hrel
    have c1r := cell_keep hbr c1
    have HWS := Lib.hid hws
    clear hws
    by_cases hlt : i < K
    ·obtain ⟨k, hk⟩ : ∃ k, ks[i]? = some k := ⟨ks[i]'(by rw [← EK.out]; exact hlt), List.getElem?_eq_getElem _⟩
     obtain ⟨b, off, rfl, -, hats⟩ := HKS.out (fun e => by simp only [ET.kids] at e; rw [e] at hk; simp at hk)
     obtain ⟨kv, hkc, hkat⟩ := hats.get hk
     obtain ⟨a', c', rfl⟩ := hkat.slice
     have hbw : Below w.heap.size w wr := HB1.out.trans (hbr.mono HB1.out.size)
     obtain ⟨k0, k1, k2, k3, k4, k5, k6⟩ := hkc.below hbw
     have hct := IH.out k (List.mem_of_getElem? hk) _ n wr (hkat.below hbw) (HF.out k (List.mem_of_getElem? hk))
     unfold ET.agg at hct
     have HCT := Lib.hid hct
     have HBR := Lib.hid hbr
     have HK := Lib.hid hk
     clear hats hkc hkat hbw hct hbr hk
     go_wp2_with fail
     refine HCT.out.mono ?_
     rintro ev w2 ⟨rfl, hb2⟩
     have HB2 : Hid (Below w1.heap.size w1 w2) := HBR.out.trans (hb2.mono HBR.out.size)
     clear k0 k1 k2 k3 k4 k5 k6 hb2 HCT
     cases hkw : k.within n
     ·obtain rfl : R = false := ER.out.trans (wi_kid HK.out hkw).symm
      clear hkw
      go_wp2
      go_ret
      exact wi_mk rfl (HB1.out.trans (HB2.out.mono HB1.out.size))
     ·have HKW := Lib.hid hkw
      clear hkw
      go_wp2
      go_roundg (K - (i + 1))
      case measure => omega
      case rel => exact ⟨i + 1, by omega, rfl, by go_num, ET.withins_take HK.out HWS.out HKW.out, HB2.out⟩
    ·obtain rfl : i = K := by omega
     have HBR := Lib.hid hbr
     have hwl : ks.take i = ks := List.take_of_length_le (by rw [EK.out]; exact Nat.le_refl _)
     have hws := HWS.out
     rw [hwl] at hws
     obtain rfl : R = true := ER.out.trans (wi_all HFAR.out hws).symm
     clear hws hwl hbr
     go_wp2
     go_ret
     exact wi_mk rfl (HB1.out.trans (HBR.out.mono HB1.out.size))
end Go.Proofs.YtmmhedlagnjbiaaGreatDoor
