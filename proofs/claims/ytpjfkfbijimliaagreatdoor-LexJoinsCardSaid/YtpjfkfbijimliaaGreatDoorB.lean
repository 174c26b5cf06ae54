import Derived.Test.YtpjfkfbijimliaaGreatDoorA
import Derived.Test.YtpjfkfbijimliaaGreatDoorBase
import Derived.Test.YtpjfkfbijimliaaGreatDoorShelf
import Derived.Lib.IndexAny
namespace Go.Proofs.YtpjfkfbijimliaaGreatDoor
open Go.RowKit Go.Pen

def blk (c : UInt8) : Bool := c == 32 || c == 9 || c == 13 || c == 10

/-- how many bytes of blanks and remarks stand ahead (in a remark: true) -/
def sk : Bool → Bytes → Nat
  | _, [] => 0
  | false, c :: cs => if blk c then 1 + sk false cs else if c == 45 && cs.head? == some 45 then 1 + sk true cs else 0
  | true, c :: cs => if c == 10 then 1 + sk false cs else 1 + sk true cs

theorem sk_true_none : ∀ {l : Bytes}, Lib.indexByte l 10 = -1 → sk true l = l.length
  | [], _ => rfl
  | c :: cs, h => by
    rw [Lib.indexByte] at h
    split at h
    · exact absurd h (by decide)
    · rename_i hc
      have h' : Lib.indexByte cs 10 = -1 := by
        split at h
        · rename_i h2; exact eq_of_beq h2
        · have := Lib.indexByte_ge cs 10; omega
      simp only [sk, hc, Bool.false_eq_true, if_false, sk_true_none h', List.length_cons]
      exact Nat.add_comm _ _

theorem sk_true_some : ∀ {l : Bytes} {i : Nat}, Lib.indexByte l 10 = (i : Int) → sk true l = i + sk false (l.drop i) ∧ i < l.length
  | [], i, h => by simp [Lib.indexByte] at h
  | c :: cs, i, h => by
    rw [Lib.indexByte] at h
    split at h
    · rename_i hc
      obtain rfl : i = 0 := by omega
      have : c = 10 := eq_of_beq hc
      subst this
      simp [sk, blk]
    · rename_i hc
      split at h
      · omega
      · rename_i h2
        have := Lib.indexByte_ge cs 10
        have h3 : Lib.indexByte cs 10 = ((i - 1 : Nat) : Int) := by
          have : Lib.indexByte cs 10 ≠ -1 := fun e => h2 (by rw [e]; rfl)
          omega
        obtain ⟨h4, h5⟩ := sk_true_some h3
        have h6 : Lib.indexByte cs 10 ≠ -1 := fun e => h2 (by rw [e]; rfl)
        obtain ⟨j, rfl⟩ : ∃ j, i = j + 1 := ⟨i - 1, by omega⟩
        simp only [sk, hc, Bool.false_eq_true, if_false, List.drop_succ_cons, List.length_cons]
        simp only [Nat.add_sub_cancel] at h4 h5
        omega

/-- the lexer at a block -/
def LexIs (w : World) (B : Nat) (s : ByteArray) (k : Nat) : Prop := w.heap[B]? = some (.cells #[.string s, .int .i64 k] 53 (0, 0))

def lexPos (w : World) (B : Nat) : Nat := match w.cell? ⟨B, 1, none⟩ with | some v => (intOf v).toNat | _ => 0
theorem lexPos_of {w : World} {B : Nat} {s : ByteArray} {k : Nat} (h : LexIs w B s k) : lexPos w B = k := by
  rw [lexPos, cell_of_heap (v := .int .i64 k) h rfl]; simp [intOf]

structure Moved (B : Nat) (s : ByteArray) (k : Nat) (w w' : World) : Prop where
  below : Below B w w'
  lex : LexIs w' B s k
  rest : ∀ g, g < w.heap.size → g ≠ B → w'.heap[g]? = w.heap[g]?

theorem Moved.refl {B s k w} (h : LexIs w B s k) : Moved B s k w w := ⟨Below.refl _ _, h, fun _ _ _ => rfl⟩
theorem Moved.trans {B s k k' w w' w''} (h : Moved B s k w w') (h' : Moved B s k' w' w'') : Moved B s k' w w'' :=
  ⟨h.below.trans h'.below, h'.lex, fun g hg hB => (h'.rest g (Nat.lt_of_lt_of_le hg h.below.size) hB).trans (h.rest g hg hB)⟩

theorem ext_list (s : ByteArray) (j : Nat) : (s.extract j s.size).data.toList = s.data.toList.drop j := by
  rw [Lib.extract_data, List.take_of_length_le]
  rw [List.length_drop, Array.length_toList]
  exact Nat.le_refl _

theorem ext_zero (s : ByteArray) (j : Nat) (h : 0 < (s.extract j s.size).size) {c : UInt8} {cs : Bytes} (hc : s.data.toList.drop j = c :: cs) : (s.extract j s.size)[0]'h = c := by
  have h1 := ext_list s j
  rw [hc] at h1
  have h2 : (s.extract j s.size).data[0]? = some c := by rw [← Array.getElem?_toList, h1]; rfl
  exact (Array.getElem?_eq_some_iff.1 h2).2

theorem len_list (s : ByteArray) : s.data.toList.length = s.size := Array.length_toList

theorem drop_cons {s : ByteArray} {j : Nat} (h : j < s.size) : ∃ c cs, s.data.toList.drop j = c :: cs ∧ s.data.toList.drop (j + 1) = cs := by
  have h' : j < s.data.toList.length := by rw [len_list]; exact h
  exact ⟨s.data.toList[j], s.data.toList.drop (j + 1), List.drop_eq_getElem_cons h', rfl⟩

theorem moved_set {B : Nat} {s : ByteArray} {j j' n : Nat} {w wr : World} (h : Moved B s j w wr) : Moved B s j' w ((wr.drewN n).setCell ⟨B, 1, none⟩ (.int .i64 j')) := by
  have hL := h.lex
  have hB : (wr.drewN n).heap[B]? = some (.cells #[.string s, .int .i64 j] 53 (0, 0)) := hL
  have hb : Below B w (wr.drewN n) := Go.Pen.below_drewN h.below
  refine ⟨?_, ?_, fun g hg hne => ?_⟩
  · exact hb.setCell (Nat.le_refl _) _
  · exact heap_set_same hB
  · rw [heap_set_ne hne]; exact h.rest g hg hne

theorem moved_drew {B : Nat} {s : ByteArray} {j n : Nat} {w wr : World} (h : Moved B s j w wr) : Moved B s j w (wr.drewN n) :=
  ⟨Go.Pen.below_drewN h.below, h.lex, h.rest⟩

theorem blk_idx (c : UInt8) : decide (0 ≤ Lib.indexByte (⟨#[32, 9, 13, 10]⟩ : ByteArray).data.toList ((c.toNat : Int)).toNat.toUInt8) = blk c := by
  have h : ((c.toNat : Int)).toNat.toUInt8 = c := by simp
  rw [h, ← Lib.contains_iff_indexByte, blk, Bool.eq_iff_iff]
  simp [or_assoc]

theorem pre_dash {c : UInt8} {cs : Bytes} : Lib.hasPrefix (c :: cs) (⟨#[45, 45]⟩ : ByteArray).data.toList = (c == 45 && cs.head? == some 45) := by
  cases cs with
  | nil => simp [Lib.hasPrefix, List.isPrefixOf]
  | cons d ds =>
    simp only [Lib.hasPrefix, List.isPrefixOf, List.head?_cons]
    rw [Bool.eq_iff_iff]
    simp only [Bool.and_eq_true, beq_iff_eq, Bool.and_true, Option.some.injEq]
    exact ⟨fun h => ⟨h.1.symm, h.2.symm⟩, fun h => ⟨h.1.symm, h.2.symm⟩⟩

theorem sk_dash {c : UInt8} {cs : Bytes} (hb : blk c = false) (hp : (c == 45 && cs.head? == some 45) = true) : sk false (c :: cs) = sk true (c :: cs) := by
  have h45 : c = 45 := by rw [Bool.and_eq_true] at hp; exact eq_of_beq hp.1
  rw [sk, sk, hb, hp, if_neg (by decide), if_pos rfl]
  rw [h45, if_neg (by decide)]

theorem blanks_round {B : Nat} {s : ByteArray} {j j' n K : Nat} {x : Int} {w wr : World} (hm : Moved B s j w wr) (hlt : j < s.size) (hx : x = (j' : Int)) (hj : j < j') (hj' : j' ≤ s.size) (he : j' + sk false (s.data.toList.drop j') = K) :
    (∃ j_1, j_1 ≤ s.size ∧ Moved B s j_1 w ((wr.drewN n).setCell ⟨B, 1, none⟩ (.int .i64 x)) ∧ j_1 + sk false (s.data.toList.drop j_1) = K) ∧ s.size - lexPos ((wr.drewN n).setCell ⟨B, 1, none⟩ (.int .i64 x)) B < s.size - lexPos wr B := by
  subst hx
  have hm' : Moved B s j' w ((wr.drewN n).setCell ⟨B, 1, none⟩ (.int .i64 j')) := moved_set hm
  refine ⟨⟨j', hj', hm', he⟩, ?_⟩
  rw [lexPos_of hm'.lex, lexPos_of hm.lex]
  omega

set_option maxRecDepth 100000 in
set_option maxHeartbeats 2000000 in
theorem blanks_23 (B : Nat) (s : ByteArray) (k : Nat) (w : World) (hB : LexIs w B s k) (hk : k ≤ s.size) (hs : s.size ≤ 16384) :
    Calls Tryz.prog 31 #[.pointer (some ⟨B, 0, none⟩)] w fun e w' => e = .returned (.tuple #[]) ∧ Moved B s (k + sk false (s.data.toList.drop k)) w w' := by
  go_enter Tryz.func31, Tryz.ntmps31
  go_wp2_with fail
  go_loopw [] (fun wr => ∃ j, j ≤ s.size ∧ Moved B s j w wr ∧ j + sk false (s.data.toList.drop j) = k + sk false (s.data.toList.drop k)) (fun wr => s.size - lexPos wr B)
  case atStart => exact ⟨k, hk, Moved.refl hB, rfl⟩
  case round =>
    obtain ⟨j, hj, hm, he⟩ := hrel
    have hL := hm.lex
    have hc0 : wr.cell? ⟨B, 0, none⟩ = some (.string s) := cell_of_heap hL rfl
    have hc1 : wr.cell? ⟨B, 1, none⟩ = some (.int .i64 j) := cell_of_heap hL rfl
    have hfz : wr.frozen? ⟨B, 1, none⟩ = false := frozen_of_heap hL
    have hpos := lexPos_of hL
    by_cases hlt : j < s.size
    · have hd : decide ((j : Int) < (s.size : Int)) = true := by simpa using hlt
      obtain ⟨c, cs, hcs, hcs'⟩ := drop_cons hlt
      go_wp2_with fail
      go_quiet (fail)
      go_wp2_with fail
      go_quiet (fail)
      go_wp2_with fail
      rw [ext_zero s j _ hcs]
      refine (Tryz.strings_IndexByte _ _ _).mono ?_
      rintro _ _ ⟨rfl, rfl⟩
      have hbi := blk_idx c
      generalize Lib.indexByte (⟨#[32, 9, 13, 10]⟩ : ByteArray).data.toList ((c.toNat : Int)).toNat.toUInt8 = x at hbi ⊢
      by_cases hb : blk c = true
      · rw [hb] at hbi
        go_wp2_with fail
        refine blanks_round hm hlt (by omega) (Nat.lt_succ_self _) hlt ?_
        rw [← he, hcs, hcs']
        simp only [sk, hb, if_true]
        omega
      · have hb' : blk c = false := by simpa using hb
        rw [hb'] at hbi
        go_wp2_with fail
        refine (Tryz.strings_HasPrefix _ _ _).mono ?_
        rintro _ _ ⟨rfl, rfl⟩
        rw [ext_list, hcs, pre_dash]
        cases hp : (c == 45 && cs.head? == some 45)
        · go_wp2_with fail
          have h0 : sk false (c :: cs) = 0 := by simp only [sk, hb', hp, Bool.false_eq_true, if_false]
          rw [hcs, h0, Nat.add_zero] at he
          refine bodyPost_ret (v := .tuple #[]) (by simp [results, Tryz.results31, go_sem]) rfl ⟨rfl, ?_⟩
          rw [← he]
          exact moved_drew hm
        · go_wp2_with fail
          refine (Tryz.strings_IndexByte _ _ _).mono ?_
          rintro _ _ ⟨rfl, rfl⟩
          rw [ext_list, hcs]
          have hsk := sk_dash hb' hp
          have h10 : ((10 : Int)).toNat.toUInt8 = 10 := rfl
          rw [h10]
          rcases Int.lt_or_le (Lib.indexByte (c :: cs) 10) 0 with hneg | hpos'
          · have hm1 : Lib.indexByte (c :: cs) 10 = -1 := by have := Lib.indexByte_ge (c :: cs) 10; omega
            rw [hm1]
            go_wp2_with fail
            refine blanks_round hm hlt rfl hlt (Nat.le_refl _) ?_
            have h1 := sk_true_none hm1
            rw [← he, hcs, hsk, h1, ← hcs, List.length_drop, len_list, List.drop_of_length_le (by rw [len_list]; exact Nat.le_refl _)]
            simp only [sk]
            omega
          · obtain ⟨i, hi⟩ : ∃ i : Nat, Lib.indexByte (c :: cs) 10 = (i : Int) := ⟨_, (Int.toNat_of_nonneg hpos').symm⟩
            obtain ⟨h1, h2⟩ := sk_true_some hi
            rw [hi]
            have hlen : (c :: cs).length = s.size - j := by rw [← hcs, List.length_drop, len_list]
            have hi0 : i ≠ 0 := fun e => by
              subst e
              have h45 : c = 45 := by simp at hp; exact hp.1
              subst h45
              simp [Lib.indexByte] at hi
              split at hi <;> first | omega | (have := Lib.indexByte_ge cs 10; omega)
            have hdi : decide (0 ≤ (i : Int)) = true := by simp
            go_wp2_with fail
            refine blanks_round (j' := j + i) hm hlt (by omega) (by omega) (by omega) ?_
            rw [← he, hcs, hsk, h1, ← hcs, List.drop_drop]
            omega
    · have hd : decide ((j : Int) < (s.size : Int)) = false := by simpa using hlt
      go_wp2_with fail
      go_quiet (fail)
      go_wp2_with fail
      have h0 : s.data.toList.drop j = [] := List.drop_of_length_le (by rw [len_list]; omega)
      rw [h0] at he
      have h1 : sk false [] = 0 := rfl
      rw [h1, Nat.add_zero] at he
      rw [← he]
      go_end0
      exact ⟨rfl, moved_drew hm⟩
end Go.Proofs.YtpjfkfbijimliaaGreatDoor
