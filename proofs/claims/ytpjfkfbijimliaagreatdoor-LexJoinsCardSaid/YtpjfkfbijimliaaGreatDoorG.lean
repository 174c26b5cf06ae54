import Derived.Test.YtpjfkfbijimliaaGreatDoorF
import Derived.Laws.IdiomStrings
namespace Go.Proofs.YtpjfkfbijimliaaGreatDoor
open Go.RowKit Go.Pen

def low (c : UInt8) : UInt8 := if 65 ≤ c.toNat && c.toNat ≤ 90 then c + 32 else c
def bv (c : UInt8) : Value := .int .u8 c.toNat

theorem frozen_mark {w : World} {b o z : Nat} {c : Array Value} {t : TypeId} (h : w.heap[b]? = some (.cells c t (z, z + 1))) (ho : o < z) : w.frozen? ⟨b, o, none⟩ = false := by
  simp only [World.frozen?, h]
  simp; omega

def SmRel (H : Nat) (t : ByteArray) (z : Nat) (w : World) (m : Nat) (wr : World) : Prop :=
  ∃ cur : List Value, wr.heap[H]? = some (.cells cur.toArray 5 (z, z + 1)) ∧ cur.length = z ∧ (∀ j, j < m → cur[j]? = (t.data.toList[j]?).map (bv ∘ low)) ∧ (∀ j, m ≤ j → j < t.size → cur[j]? = (t.data.toList[j]?).map bv) ∧ Below H w wr

theorem smRel_keep {H z m : Nat} {t : ByteArray} {w wr : World} {c : UInt8} (h : SmRel H t z w m wr) (hc : t.data.toList[m]? = some c) (hl : low c = c) : SmRel H t z w (m + 1) wr := by
  obtain ⟨cur, h1, h2, h3, h4, h5⟩ := h
  refine ⟨cur, h1, h2, fun j hj => ?_, fun j hj hj' => h4 j (by omega) hj', h5⟩
  rcases Nat.lt_or_eq_of_le (Nat.le_of_lt_succ hj) with h | rfl
  · exact h3 j h
  · have hlt : j < t.size := by rw [← len_list]; exact (List.getElem?_eq_some_iff.1 hc).1
    rw [h4 j (Nat.le_refl _) hlt, hc]
    simp [hl]

theorem smRel_set {H z m : Nat} {t : ByteArray} {w wr : World} {c : UInt8} {x : Int} (h : SmRel H t z w m wr) (hz : t.size ≤ z) (hc : t.data.toList[m]? = some c) (hl : x = (low c).toNat) : SmRel H t z w (m + 1) (wr.setCell ⟨H, m, none⟩ (.int .u8 x)) := by
  obtain ⟨cur, h1, h2, h3, h4, h5⟩ := h
  have hlt : m < t.size := by rw [← len_list]; exact (List.getElem?_eq_some_iff.1 hc).1
  refine ⟨cur.set m (bv (low c)), ?_, by simp [h2], fun j hj => ?_, fun j hj hj' => ?_, h5.setCell (Nat.le_refl _) _⟩
  · rw [heap_set_same h1, hl]; simp [bv]
  · rw [List.getElem?_set]
    by_cases e : m = j
    · subst e
      rw [if_pos rfl, if_pos (by omega), hc]; rfl
    · rw [if_neg e]; exact h3 j (by omega)
  · rw [List.getElem?_set, if_neg (by omega)]; exact h4 j (by omega) hj'

set_option maxRecDepth 100000 in
set_option maxHeartbeats 2000000 in
theorem small_43 (t : ByteArray) (w : World) (hs : t.size ≤ 16384) :
    Calls Tryz.prog 52 #[.string t] w fun e w' => e = .returned (.string ⟨(t.data.toList.map low).toArray⟩) ∧ Below w.heap.size w w' := by
  have hcv := run_bytes_of_string (P := Tryz.prog) w 9 56 5 t Tryz.underlying9 Tryz.underlying56 Tryz.underlying5
  have hcap : t.size ≤ (bytesRow t (grownCap w t.size 0 5)).size := by
    rw [bytesRow, Array.size_append, Array.size_map]
    exact Nat.le_add_right _ _
  have hrow : ∀ j, j < t.size → (bytesRow t (grownCap w t.size 0 5)).toList[j]? = (t.data.toList[j]?).map bv := fun j hj => by
    have : j < t.data.size := hj
    rw [bytesRow, Array.toList_append, Array.toList_map, List.getElem?_append_left (by rw [List.length_map]; exact this), List.getElem?_map]
    rfl
  generalize grownCap w t.size 0 5 = C at hcv hcap hrow
  generalize bytesRow t C = R at hcv hcap hrow
  obtain ⟨z, hz⟩ : ∃ z, R.size = z := ⟨_, rfl⟩
  rw [hz] at hcv hcap
  go_enter Tryz.func52, Tryz.ntmps52
  go_wp2_with fail
  have hR : SmRel w.heap.size t z w 0 (w.alloc (Obj.cells R 5 (z, z + 1))).drew := by
    refine ⟨R.toList, ?_, by simpa using hz, fun j hj => absurd hj (Nat.not_lt_zero _), fun j _ hj => hrow j hj, ((Below.refl _ _).alloc (Nat.le_refl _) _).drew⟩
    exact Array.getElem?_push_size
  generalize (w.alloc (Obj.cells R 5 (z, z + 1))).drew = w1 at hR ⊢
  clear hcv hrow hz
  obtain ⟨H, hHe⟩ : ∃ H, w.heap.size = H := ⟨_, rfl⟩
  rw [hHe] at hR ⊢
  go_loopw [10] (fun i wr => ∃ m : Nat, m ≤ t.size ∧ i = .int .i64 m ∧ SmRel H t z w m wr) (fun i _ => t.size - (intOf i).toNat)
  case atStart => exact ⟨0, Nat.zero_le _, rfl, hR⟩
  case round =>
    obtain ⟨m, hm, rfl, hr⟩ := hrel
    obtain ⟨cur, g1, g2, g3, g4, g5⟩ := id hr
    rcases Nat.lt_or_ge m t.size with hlt | hge
    · have hd : decide ((m : Int) < (t.size : Int)) = true := by simpa using hlt
      obtain ⟨c, cs, hcs, -⟩ := drop_cons hlt
      have hc : t.data.toList[m]? = some c := by
        have := congrArg List.head? hcs
        simpa [List.head?_drop] using this
      have hcell : wr.cell? ⟨H, m, none⟩ = some (.int .u8 c.toNat) := cell_of_heap g1 (by rw [List.getElem?_toArray, g4 m (Nat.le_refl _) hlt, hc]; rfl)
      have hfz : wr.frozen? ⟨H, m, none⟩ = false := frozen_mark g1 (by omega)
      by_cases hlo : 65 ≤ c.toNat
      · by_cases hhi : c.toNat ≤ 90
        · have hl : ((c.toNat : Int) + 97 - 65) = ((low c).toNat : Int) := by
            have h1 : low c = c + 32 := by simp [low, hlo, hhi]
            rw [h1, UInt8.toNat_add]
            have : (32 : UInt8).toNat = 32 := rfl
            omega
          have hd1 : decide (65 ≤ (c.toNat : Int)) = true := by simp; omega
          have hd2 : decide ((c.toNat : Int) ≤ 90) = true := by simp; omega
          clear hcs g3 g4
          go_wp2_with fail
          exact ⟨⟨m + 1, hlt, by simp, smRel_set hr hcap hc rfl⟩, by simp [intOf]; omega⟩
        · have hl : low c = c := by simp [low, hhi]
          have hd1 : decide (65 ≤ (c.toNat : Int)) = true := by simp; omega
          have hd2 : decide ((c.toNat : Int) ≤ 90) = false := by simp; omega
          clear hcs g3 g4
          go_wp2_with fail
          exact ⟨⟨m + 1, hlt, by simp, smRel_keep hr hc hl⟩, by simp [intOf]; omega⟩
      · have hl : low c = c := by simp [low, hlo]
        have hd1 : decide (65 ≤ (c.toNat : Int)) = false := by simp; omega
        clear hcs g3 g4
        go_wp2_with fail
        exact ⟨⟨m + 1, hlt, by simp, smRel_keep hr hc hl⟩, by simp [intOf]; omega⟩
    · have hd : decide ((m : Int) < (t.size : Int)) = false := by simp; omega
      obtain rfl : m = t.size := by omega
      have hlen : (t.data.toList.map low).length = t.size := by rw [List.length_map, len_list]
      have hback := run_convert_bytes_back (P := Tryz.prog) wr 56 9 5 ⟨H, 0, none⟩ C (t.data.toList.map low) Tryz.underlying56 Tryz.underlying5 Tryz.underlying9 (fun j hj => by
        rw [add_lit, Nat.zero_add]
        refine cell_of_heap g1 ?_
        rw [List.getElem?_toArray, g3 j (by omega)]
        have hj' : j < t.data.toList.length := by rw [len_list]; omega
        rw [List.getElem?_eq_getElem hj', List.getElem_map]
        rfl)
      rw [hlen] at hback
      clear g3 g4 hlen
      go_wp2_with fail
      go_ret
      exact ⟨rfl, by rw [hHe]; exact g5⟩
end Go.Proofs.YtpjfkfbijimliaaGreatDoor
