import Derived.Test.YtpjfkfbijimliaaGreatDoorT
namespace Go.Proofs.YtpjfkfbijimliaaGreatDoor
open Go.RowKit Go.Pen

def chkE (l : Bytes) : Nat := if !Lib.validD l then 13 else if 1000 < l.length then 12 else 0
def txtDat (t : ByteArray) : Value := .agg #[.int .u8 4, .bool false, .int .i64 0, .string t]

theorem tabs_below {B : Nat} {w w' : World} (h : Lib.Utf8Tabs 0 1 w) (hb : Below B w w') (hB : 10 ≤ B) : Lib.Utf8Tabs 0 1 w' :=
  ⟨fun c hc => (hb.cell (p := ⟨0, c, none⟩) (by show 0 < B; omega)).trans (h.1 c hc), fun i hi => ⟨(hb.cell (p := ⟨1, 2 * i, none⟩) (by show 1 < B; omega)).trans (h.2 i hi).1, (hb.cell (p := ⟨1, 2 * i + 1, none⟩) (by show 1 < B; omega)).trans (h.2 i hi).2⟩⟩

set_option maxRecDepth 100000 in
set_option maxHeartbeats 4000000 in
theorem check_51 (t : ByteArray) (w : World) (hs : t.size ≤ 9223372036854775807) (hT : Lib.Utf8Tabs 0 1 w) (h11 : 10 ≤ w.heap.size) :
    Calls Tryz.prog 20 #[txtDat t] w fun e w' => e = .returned (.int .u16 (chkE t.data.toList)) ∧ Below w.heap.size w w' := by
  obtain ⟨H, hH⟩ : ∃ H, w.heap.size = H := ⟨_, rfl⟩
  have HH := Lib.hid hH
  have HT := Lib.hid hT
  clear hT hH
  obtain ⟨R, hR⟩ : ∃ R, chkE t.data.toList = R := ⟨_, rfl⟩
  rw [hR]
  have HR := Lib.hid hR
  clear hR
  unfold txtDat
  go_enter Tryz.func20, Tryz.ntmps20
  go_wp2_with fail
  rw [HH.out]
  generalize hw1 : World.alloc _ _ = w1
  have hb1 : Below H w w1 := by
    rw [← hw1]
    exact ((Below.refl _ _).alloc (by have := HH.out; omega) _).alloc (by have := HH.out; simp; omega) _
  have e1 : w1.heap[H]? = some (.cells #[.int .u8 4, .bool false, .int .i64 0, .string t] 43 (0, 0)) := by
    rw [← hw1, ← HH.out, Below.heap_alloc _ _ _ (by simp)]
    exact heap_alloc_new w _
  have hz1 : H < w1.heap.size := lt_of_heap e1
  clear hw1
  refine (Tryz.utf8_ValidString t w1 hs (tabs_below HT.out hb1 (by have := HH.out; omega))).mono ?_
  rintro _ w2 ⟨rfl, hb2⟩
  have c3 : w2.cell? ⟨H, 3, none⟩ = some (.string t) := (hb2.cell (p := ⟨H, 3, none⟩) hz1).trans (cell_of_heap e1 rfl)
  have hb : Below H w w2 := hb1.trans (hb2.mono (Nat.le_of_lt hz1))
  have HB := Lib.hid hb
  clear hb hb1 hb2 e1
  have hcE := HR.out
  rw [chkE] at hcE
  cases hv : Lib.validD t.data.toList
  · rw [hv, if_pos (by decide)] at hcE
    subst hcE
    go_wp2_with fail
    go_ret
    exact ⟨rfl, by rw [HH.out]; exact HB.out⟩
  · rw [hv, if_neg (by decide), len_list] at hcE
    by_cases hbig : 1000 < t.size
    · have hd : decide ((1000 : Int) < (t.size : Int)) = true := by simp; omega
      rw [if_pos hbig] at hcE
      subst hcE
      go_wp2_with fail
      go_ret
      exact ⟨rfl, by rw [HH.out]; exact HB.out⟩
    · have hd : decide ((1000 : Int) < (t.size : Int)) = false := by simp; omega
      rw [if_neg hbig] at hcE
      subst hcE
      go_wp2_with fail
      go_ret
      exact ⟨rfl, by rw [HH.out]; exact HB.out⟩

/-- what is written of a text -/
def prt (l : Bytes) : Bytes := if chkE l = 0 then quo l else []

set_option maxRecDepth 100000 in
set_option maxHeartbeats 4000000 in
theorem print_50 (t : ByteArray) (w : World) (hs : t.size ≤ 9223372036854775807) (hT : Lib.Utf8Tabs 0 1 w) (h11 : 10 ≤ w.heap.size) (hp : ∀ c ∈ t.data.toList, plainCh c = true) :
    Calls Tryz.prog 19 #[txtDat t] w fun e w' => e = .returned (.string ⟨(prt t.data.toList).toArray⟩) ∧ Below w.heap.size w w' := by
  obtain ⟨H, hH⟩ : ∃ H, w.heap.size = H := ⟨_, rfl⟩
  have HH := Lib.hid hH
  have HT := Lib.hid hT
  clear hT hH
  unfold txtDat
  go_enter Tryz.func19, Tryz.ntmps19
  go_wp2_with fail
  rw [HH.out]
  generalize hw1 : World.alloc _ _ = w1
  have hb1 : Below H w w1 := by rw [← hw1]; exact (Below.refl _ _).alloc (by have := HH.out; omega) _
  have e1 : w1.heap[H]? = some (.cells #[.int .u8 4, .bool false, .int .i64 0, .string t] 43 (0, 0)) := by
    rw [← hw1, ← HH.out]; exact heap_alloc_new w _
  have hz1 : H < w1.heap.size := lt_of_heap e1
  clear hw1
  refine (check_51 t w1 hs (tabs_below HT.out hb1 (by have := HH.out; omega)) (by have := HH.out; omega)).mono ?_
  rintro _ w2 ⟨rfl, hb2⟩
  have c0 : w2.cell? ⟨H, 0, none⟩ = some (.int .u8 4) := (hb2.cell (p := ⟨H, 0, none⟩) hz1).trans (cell_of_heap e1 rfl)
  have c3 : w2.cell? ⟨H, 3, none⟩ = some (.string t) := (hb2.cell (p := ⟨H, 3, none⟩) hz1).trans (cell_of_heap e1 rfl)
  have hb : Below H w w2 := hb1.trans (hb2.mono (Nat.le_of_lt hz1))
  have HB := Lib.hid hb
  have HP := Lib.hid hp
  clear hb hb1 hb2 e1 hp
  by_cases hk : chkE t.data.toList = 0
  · have HK := Lib.hid hk
    rw [hk]
    have hlen : t.size ≤ 1000 := by
      rw [chkE] at hk
      split at hk
      · omega
      · split at hk
        · omega
        · rename_i h; rw [len_list] at h; omega
    clear hk
    go_wp2_with fail
    refine (quoted_70 t w2 hlen HP.out).mono ?_
    rintro _ w3 ⟨rfl, hb3⟩
    go_wp2_with fail
    go_ret
    exact ⟨by rw [prt, if_pos HK.out]; rfl, by rw [HH.out]; exact HB.out.trans (hb3.mono (by have := HB.out.size; have := HH.out; omega))⟩
  · have HK := Lib.hid hk
    have hne : ((chkE t.data.toList : Int) != 0) = true := by simp; exact hk
    generalize chkE t.data.toList = X at hne ⊢
    clear hk
    go_wp2_with fail
    go_ret
    exact ⟨by rw [prt, if_neg HK.out]; rfl, by rw [HH.out]; exact HB.out⟩
end Go.Proofs.YtpjfkfbijimliaaGreatDoor
