import Derived.Test.YtolikaginhjbhaaDoorV
import Derived.Test.YtolikaginhjbhaaDoorA
/- The reference's Runes: whether a text is UTF-8, and how many runes it has. -/
namespace Go.Proofs.YtolikaginhjbhaaDoor
open Go.RowKit Go.Pen

abbrev Bytes := List UInt8
theorem len_list (s : ByteArray) : s.data.toList.length = s.size := Array.length_toList

theorem drop_cons {s : ByteArray} {j : Nat} (h : j < s.size) : ∃ c cs, s.data.toList.drop j = c :: cs ∧ s.data.toList.drop (j + 1) = cs := by
  have h' : j < s.data.toList.length := by rw [len_list]; exact h
  exact ⟨s.data.toList[j], s.data.toList.drop (j + 1), List.drop_eq_getElem_cons h', rfl⟩

theorem get_of_drop {s : ByteArray} {j : Nat} {c : UInt8} {cs : Bytes} (hc : s.data.toList.drop j = c :: cs) (h : j < s.size) : s[j]'h = c := by
  have h' : j < s.data.toList.length := by rw [len_list]; exact h
  rw [List.drop_eq_getElem_cons h'] at hc
  exact (List.cons.inj hc).1

/-- the code point so far, k bytes more -/
def lv : Nat → Bytes → Nat → Option Nat
  | v, _, 0 => some v
  | _, [], _ + 1 => none
  | v, d :: ds, k + 1 => if 128 ≤ d.toNat ∧ d.toNat < 192 then lv (64 * v + d.toNat - 128) ds k else none

def badN (n v : Nat) : Bool := (n == 3 && (decide (v < 2048) || decide (55296 ≤ v) && decide (v < 57344))) || (n == 4 && (decide (v < 65536) || decide (1114111 < v)))

def headN (c : Nat) : Option (Nat × Nat) :=
  if 194 ≤ c ∧ c < 224 then some (2, c - 192) else if 224 ≤ c ∧ c < 240 then some (3, c - 224) else if 240 ≤ c ∧ c < 245 then some (4, c - 240) else none

/-- how many bytes the rune has; 0: there is none -/
def longN : Bytes → Nat
  | [] => 0
  | c :: cs =>
    if c.toNat < 128 then 1 else
    match headN c.toNat with
    | none => 0
    | some (n, v) => if cs.length + 1 < n then 0 else match lv v cs (n - 1) with
      | none => 0
      | some x => if badN n x then 0 else n

theorem headN_n {c n v : Nat} (h : headN c = some (n, v)) : (n = 2 ∧ v ≤ 31) ∨ (n = 3 ∧ v ≤ 15) ∨ (n = 4 ∧ v ≤ 4) := by
  unfold headN at h
  repeat' split at h
  all_goals first | (cases h; done) | (cases h; omega)

/-- the same on numbers -/
def longM (n b0 b1 b2 b3 : Nat) : Nat :=
  if b0 < 128 then 1
  else if 194 ≤ b0 ∧ b0 < 224 then (if 2 ≤ n ∧ (128 ≤ b1 ∧ b1 < 192) then 2 else 0)
  else if 224 ≤ b0 ∧ b0 < 240 then (if 3 ≤ n ∧ (128 ≤ b1 ∧ b1 < 192) ∧ (128 ≤ b2 ∧ b2 < 192) ∧ ¬ badN 3 (64 * (64 * (b0 - 224) + b1 - 128) + b2 - 128) = true then 3 else 0)
  else if 240 ≤ b0 ∧ b0 < 245 then (if 4 ≤ n ∧ (128 ≤ b1 ∧ b1 < 192) ∧ (128 ≤ b2 ∧ b2 < 192) ∧ (128 ≤ b3 ∧ b3 < 192) ∧ ¬ badN 4 (64 * (64 * (64 * (b0 - 240) + b1 - 128) + b2 - 128) + b3 - 128) = true then 4 else 0)
  else 0

theorem long_M (c : UInt8) (cs : Bytes) : longN (c :: cs) = longM (cs.length + 1) c.toNat (cs.getD 0 0).toNat (cs.getD 1 0).toNat (cs.getD 2 0).toNat := by
  unfold longN longM headN
  simp only []
  by_cases h0 : c.toNat < 128
  · rw [if_pos h0, if_pos h0]
  rw [if_neg h0, if_neg h0]
  by_cases h1 : 194 ≤ c.toNat ∧ c.toNat < 224
  · rw [if_pos h1, if_pos h1]
    rcases cs with _ | ⟨d, ds⟩
    · simp
    · by_cases hd : 128 ≤ d.toNat ∧ d.toNat < 192
      · simp [lv, hd, badN]
      · simp [lv, hd]
  rw [if_neg h1, if_neg h1]
  by_cases h2 : 224 ≤ c.toNat ∧ c.toNat < 240
  · rw [if_pos h2, if_pos h2]
    rcases cs with _ | ⟨d, _ | ⟨e, es⟩⟩
    · simp
    · simp
    · by_cases hd : 128 ≤ d.toNat ∧ d.toNat < 192
      · by_cases he : 128 ≤ e.toNat ∧ e.toNat < 192
        · simp [lv, hd, he]
          rw [if_neg (by omega)]
          cases badN 3 (64 * (64 * (c.toNat - 224) + d.toNat - 128) + e.toNat - 128) <;> rfl
        · simp [lv, hd, he]
      · simp [lv, hd]
  rw [if_neg h2, if_neg h2]
  by_cases h3 : 240 ≤ c.toNat ∧ c.toNat < 245
  · rw [if_pos h3, if_pos h3]
    rcases cs with _ | ⟨d, _ | ⟨e, _ | ⟨f, fs⟩⟩⟩
    · simp
    · simp
    · simp
    · by_cases hd : 128 ≤ d.toNat ∧ d.toNat < 192
      · by_cases he : 128 ≤ e.toNat ∧ e.toNat < 192
        · by_cases hf : 128 ≤ f.toNat ∧ f.toNat < 192
          · simp [lv, hd, he, hf]
            rw [if_neg (by omega)]
            cases badN 4 (64 * (64 * (64 * (c.toNat - 240) + d.toNat - 128) + e.toNat - 128) + f.toNat - 128) <;> rfl
          · simp [lv, hd, he, hf]
        · simp [lv, hd, he]
      · simp [lv, hd]
  rw [if_neg h3, if_neg h3]

set_option maxRecDepth 100000 in
set_option maxHeartbeats 4000000 in
/-- it is what the decoder says -/
theorem long_decode (n b0 b1 b2 b3 : Nat) (h0 : b0 < 256) (h1 : b1 < 256) (h2 : b2 < 256) (h3 : b3 < 256) :
    (longM n b0 b1 b2 b3 = 0 ∧ (Lib.decodeN n b0 b1 b2 b3 = (65533, 1))) ∨ (longM n b0 b1 b2 b3 ≠ 0 ∧ (Lib.decodeN n b0 b1 b2 b3).2 = longM n b0 b1 b2 b3 ∧ Lib.decodeN n b0 b1 b2 b3 ≠ (65533, 1)) := by
  have e3 : ∀ v, badN 3 v = true ↔ (v < 2048 ∨ 55296 ≤ v ∧ v < 57344) := fun v => by simp [badN]
  have e4 : ∀ v, badN 4 v = true ↔ (v < 65536 ∨ 1114111 < v) := fun v => by simp [badN]
  unfold longM Lib.decodeN
  simp only [e3, e4]
  repeat' split
  all_goals first | (left; exact ⟨rfl, rfl⟩) | (right; refine ⟨by decide, rfl, ?_⟩; intro h; simp only [Prod.mk.injEq] at h; omega) | (exfalso; omega)

theorem valid_long (c : UInt8) (cs : Bytes) : Lib.validD (c :: cs) = if longN (c :: cs) = 0 then false else Lib.validD ((c :: cs).drop (longN (c :: cs))) := by
  rw [Lib.validD_step _ (by simp), Lib.decodeL_N, long_M]
  have h := long_decode (cs.length + 1) c.toNat (cs.getD 0 0).toNat (cs.getD 1 0).toNat (cs.getD 2 0).toNat c.toNat_lt (UInt8.toNat_lt _) (UInt8.toNat_lt _) (UInt8.toNat_lt _)
  have e : Lib.decodeN (c :: cs).length ((c :: cs).getD 0 0).toNat ((c :: cs).getD 1 0).toNat ((c :: cs).getD 2 0).toNat ((c :: cs).getD 3 0).toNat = Lib.decodeN (cs.length + 1) c.toNat (cs.getD 0 0).toNat (cs.getD 1 0).toNat (cs.getD 2 0).toNat := rfl
  rw [e]
  rcases h with ⟨h1, h2⟩ | ⟨h1, h2, h3⟩
  · rw [h1, h2]; rfl
  · rw [if_neg h1, h2, if_neg]
    intro ⟨g1, g2⟩
    exact h3 (Prod.ext g1 (h2.trans g2))

theorem longN_le {c : UInt8} {cs : Bytes} : longN (c :: cs) ≤ cs.length + 1 := by
  rw [long_M]
  unfold longM
  repeat' split
  all_goals omega

/-- what the loop over a rune's bytes keeps: i bytes are taken, the value is v -/
def LvRel (cs : Bytes) (n v0 i v : Nat) : Prop := 1 ≤ i ∧ i ≤ n ∧ lv v (cs.drop (i - 1)) (n - i) = lv v0 cs (n - 1) ∧ v < 32 * 64 ^ (i - 1)

theorem lv_step {cs : Bytes} {n v0 i v : Nat} {d : UInt8} (h : LvRel cs n v0 i v) (hi : i < n) (hd : cs[i - 1]? = some d) :
    (128 ≤ d.toNat ∧ d.toNat < 192 → LvRel cs n v0 (i + 1) (64 * v + d.toNat - 128)) ∧ (¬(128 ≤ d.toNat ∧ d.toNat < 192) → lv v0 cs (n - 1) = none) := by
  obtain ⟨h1, h2, h3, h4⟩ := h
  have hdr : cs.drop (i - 1) = d :: cs.drop i := by
    have hlt := (List.getElem?_eq_some_iff.1 hd).1
    rw [List.drop_eq_getElem_cons hlt, (List.getElem?_eq_some_iff.1 hd).2, show i - 1 + 1 = i by omega]
  have hni : n - i = (n - (i + 1)) + 1 := by omega
  rw [hdr, hni, lv] at h3
  constructor
  · intro hr
    rw [if_pos hr] at h3
    refine ⟨by omega, by omega, by rw [Nat.add_sub_cancel]; exact h3, ?_⟩
    rw [Nat.add_sub_cancel]
    have : 64 ^ i = 64 * 64 ^ (i - 1) := by
      conv => lhs; rw [show i = (i - 1) + 1 by omega, Nat.pow_succ]
      exact Nat.mul_comm _ _
    omega
  · intro hr
    rw [if_neg hr] at h3
    exact h3.symm

theorem long_eq {c : UInt8} {cs : Bytes} {n v : Nat} (h1 : ¬ c.toNat < 128) (h2 : headN c.toNat = some (n, v)) (h3 : ¬ cs.length + 1 < n) :
    longN (c :: cs) = match lv v cs (n - 1) with
      | none => 0
      | some x => if badN n x then 0 else n := by
  unfold longN
  simp only []
  rw [if_neg h1, h2]
  simp only []
  rw [if_neg h3]

theorem lv_bound {cs : Bytes} {n v0 i v : Nat} (h : LvRel cs n v0 i v) (hi : i < 5) : v ≤ 8388607 := by
  have := h.2.2.2
  have h1 := h.1
  have : i = 1 ∨ i = 2 ∨ i = 3 ∨ i = 4 := by omega
  rcases this with rfl | rfl | rfl | rfl <;> simp at * <;> omega

theorem get_of_cons' {l : Bytes} {j : Nat} {c : UInt8} {cs : Bytes} (h : l.drop j = c :: cs) : l[j]? = some c := by
  have := congrArg List.head? h
  rwa [List.head?_drop] at this

theorem runesN_fuel : ∀ (n m : Nat) (l : Bytes), l.length ≤ n → l.length ≤ m → runesN n l = runesN m l
  | 0, m, l, hn, _ => by
    obtain rfl : l = [] := List.eq_nil_of_length_eq_zero (by omega)
    cases m <;> rfl
  | n + 1, 0, l, _, hm => by
    obtain rfl : l = [] := List.eq_nil_of_length_eq_zero (by omega)
    rfl
  | n + 1, m + 1, [], hn, hm => rfl
  | n + 1, m + 1, c :: cs, hn, hm => by
    have hw := Lib.decodeL_width (c :: cs)
    simp only [runesN]
    rw [runesN_fuel n m _ (by rw [List.length_drop]; omega) (by rw [List.length_drop]; omega)]

theorem runes_nil : runes [] = 0 := rfl
theorem runes_step (c : UInt8) (cs : Bytes) : runes (c :: cs) = 1 + runes ((c :: cs).drop (Lib.decodeL (c :: cs)).2) := by
  have hw := Lib.decodeL_width (c :: cs)
  rw [runes, List.length_cons]
  simp only [runesN]
  rw [runesN_fuel _ _ _ (by rw [List.length_drop, List.length_cons]; omega) (Nat.le_refl _), runes]

theorem runes_long (c : UInt8) (cs : Bytes) (h0 : longN (c :: cs) ≠ 0) : runes (c :: cs) = 1 + runes ((c :: cs).drop (longN (c :: cs))) := by
  rw [runes_step, Lib.decodeL_N]
  have h := long_decode (cs.length + 1) c.toNat (cs.getD 0 0).toNat (cs.getD 1 0).toNat (cs.getD 2 0).toNat c.toNat_lt (UInt8.toNat_lt _) (UInt8.toNat_lt _) (UInt8.toNat_lt _)
  have e : Lib.decodeN (c :: cs).length ((c :: cs).getD 0 0).toNat ((c :: cs).getD 1 0).toNat ((c :: cs).getD 2 0).toNat ((c :: cs).getD 3 0).toNat = Lib.decodeN (cs.length + 1) c.toNat (cs.getD 0 0).toNat (cs.getD 1 0).toNat (cs.getD 2 0).toNat := rfl
  rw [e]
  rw [long_M] at h0 ⊢
  rcases h with ⟨h1, -⟩ | ⟨-, h2, -⟩
  · exact absurd h1 h0
  · rw [h2]

end Go.Proofs.YtolikaginhjbhaaDoor
