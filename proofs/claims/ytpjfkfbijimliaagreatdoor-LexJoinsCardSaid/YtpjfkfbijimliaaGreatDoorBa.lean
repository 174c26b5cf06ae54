/- strconv.FormatUint at base 16 of a byte. -/
import Derived.Test.YtpjfkfbijimliaaGreatDoorM
import Derived.Lib.ItoaWalk
namespace Go.Proofs.YtpjfkfbijimliaaGreatDoor
open Go.RowKit Go.Pen

def hexd (n : Nat) : UInt8 := if n < 10 then (48 + n).toUInt8 else (87 + n).toUInt8
def hexText (u : Nat) : Bytes := if u < 16 then [hexd u] else [hexd (u / 16), hexd (u % 16)]
def hexDigits : ByteArray := ⟨#[48, 49, 50, 51, 52, 53, 54, 55, 56, 57, 97, 98, 99, 100, 101, 102, 103, 104, 105, 106, 107, 108, 109, 110, 111, 112, 113, 114, 115, 116, 117, 118, 119, 120, 121, 122]⟩

theorem hexd_at : ∀ n : Fin 16, hexDigits.data[n.val]? = some (hexd n.val) := by decide +kernel

theorem idx_hex (z : Int) (i : Nat) (hz : z = (i : Int)) (hi : i < 16) (w : World) :
    (Instr.index 9 (.string hexDigits) (.int .u64 z)).run Tryz.prog w = .ok (.int .u8 ((hexd i).toNat : Int)) w := by
  subst hz
  have hs : hexDigits.size = 36 := by decide +kernel
  rw [run_index_string w 9 hexDigits .u64 _ Tryz.underlying9, dif_pos ⟨by omega, by rw [hs]; omega⟩]
  have e : ((i : Int)).toNat = i := by omega
  simp only [e]
  have h := hexd_at ⟨i, hi⟩
  have h2 : hexDigits[i]'(by rw [hs]; omega) = hexd i := by
    have h3 : hexDigits.data[i]'(by have : hexDigits.data.size = 36 := hs; omega) = hexd i := by
      rw [Array.getElem?_eq_getElem (by have : hexDigits.data.size = 36 := hs; omega)] at h
      exact Option.some.inj h
    exact h3
  rw [h2]

set_option maxRecDepth 100000 in
theorem and15 : ∀ u : Fin 256, bits BinOp.and IntKind.u64 (u.val : Int) 15 = ((u.val % 16 : Nat) : Int) := by decide +kernel

theorem pow_106 (w : World) : Calls Tryz.prog 75 #[.int .i64 16] w fun e w' => e = .returned (.bool true) ∧ w' = w := by
  go_enter Tryz.func75, Tryz.ntmps75
  go_wp2_with fail
  go_ret
  exact ⟨rfl, rfl⟩

theorem tz_114 (w : World) (hc : w.cell? ⟨9, 15, none⟩ = some (.int .u8 4)) : Calls Tryz.prog 89 #[.int .u64 16] w fun e w' => e = .returned (.int .i64 4) ∧ w' = w := by
  have h1 : IntKind.u64.wrap (bits BinOp.and IntKind.u64 16 (IntKind.u64.wrap (-16)) * 285870213051353865) / 288230376151711744 = 15 := by kernel_rfl
  go_enter Tryz.func89, Tryz.ntmps89
  go_wp2_with fail
  go_ret
  exact ⟨rfl, rfl⟩

theorem tz_107 (w : World) (hc : w.cell? ⟨9, 15, none⟩ = some (.int .u8 4)) : Calls Tryz.prog 76 #[.int .u64 16] w fun e w' => e = .returned (.int .i64 4) ∧ w' = w := by
  go_enter Tryz.func76, Tryz.ntmps76
  go_wp2_with fail
  refine (tz_114 _ hc).mono ?_
  rintro _ w9 ⟨rfl, hw⟩; rw [hw]; clear hw
  go_wp2_with fail
  go_ret
  exact ⟨rfl, rfl⟩

theorem slice_129 (H j : Nat) (hj : j < 65) (w : World) : (Instr.sliceAt 109 (.pointer (some ⟨H, 0, none⟩)) (some (.int .i64 j)) none none).run Tryz.prog w = .ok (.slice (some ⟨H, j, none⟩) (65 - j : Nat) (65 - j : Nat)) w := by
  have hal : Tryz.prog.arrayLen 109 = 65 := by kernel_rfl
  have he : Tryz.prog.elem 109 = 5 := by kernel_rfl
  obtain ⟨i0, hi, -, hz, -⟩ := info_parts infoByte
  rw [run_sliceAt_array_l w 109 ⟨H, 0, none⟩ (by kernel_rfl) .i64 j (by omega) (by rw [hal]; omega)]
  rw [hal, he]
  have hne : ¬ 65 = j := by omega
  simp [sizeOf, typeInfo, hi, hz, slicedAt, hne, add_lit]

/-- the digits so far -/
def BtRel (H u : Nat) (w : World) (m x : Nat) (wr : World) : Prop :=
  ∃ cur : List Value, wr.heap[H]? = some (.cells cur.toArray 109 (0, 0)) ∧ cur.length = 65 ∧ Below H w wr ∧ ((m = 0 ∧ x = u) ∨ (m = 1 ∧ 16 ≤ u ∧ x = u / 16 ∧ cur[64]? = some (.int .u8 (hexd (u % 16)).toNat)))

set_option maxRecDepth 100000 in
set_option maxHeartbeats 4000000 in
theorem bits_87 (u : Nat) (hu : u < 256) (w : World) (hc : w.cell? ⟨9, 15, none⟩ = some (.int .u8 4)) :
    Calls Tryz.prog 57 #[.slice none 0 0, .int .u64 u, .int .i64 16, .bool false, .bool false] w fun e w' => e = .returned (.tuple #[.slice none 0 0, .string ⟨(hexText u).toArray⟩]) ∧ Below w.heap.size w w' := by
  obtain ⟨H, hH⟩ : ∃ H, w.heap.size = H := ⟨_, rfl⟩
  have HH := Lib.hid hH
  clear hH
  go_enter Tryz.func57, Tryz.ntmps57
  go_name_bytes_deep 36 DX hDX
  clear hDX
  go_name_bytes_deep 36 DG hDG
  have eDG : DG = hexDigits := by rw [← hDG]; decide +kernel
  subst eDG
  clear hDG
  go_wp2_with fail
  rw [HH.out]
  generalize hw1 : World.alloc _ _ = w1
  have e1 : w1.heap[H]? = some (.cells Tryz.zeroCells109 109 (0, 0)) := by rw [← hw1, ← HH.out]; exact heap_alloc_new w _
  have hb1 : Below H w w1 := by rw [← hw1]; exact (Below.refl _ _).alloc (by have := HH.out; omega) _
  have hc1 : w1.cell? ⟨9, 15, none⟩ = some (.int .u8 4) := (hb1.cell (p := ⟨9, 15, none⟩) (by have := World.block_lt_of_cell? w _ hc; have := HH.out; simp at *; omega)).trans hc
  have hz1 : (Tryz.zeroCells109 : Array Value).size = 65 := by decide +kernel
  have hr1 : BtRel H u w 0 u w1 := ⟨Tryz.zeroCells109.toList, by simpa using e1, hz1, hb1, .inl ⟨rfl, rfl⟩⟩
  have HC1 := Lib.hid hc1
  clear hw1 e1 hb1 hc1 hz1 hc
  refine (pow_106 _).mono ?_
  rintro _ w9 ⟨rfl, hw⟩; rw [hw]; clear hw
  go_wp2_with fail
  refine (tz_107 _ HC1.out).mono ?_
  rintro _ w9 ⟨rfl, hw⟩; rw [hw]; clear hw
  go_wp2_with fail
  go_loopw [1, 13] (fun x i wr => ∃ m y : Nat, x = .int .u64 y ∧ i = .int .i64 (65 - m) ∧ BtRel H u w m y wr) (fun x _ _ => (intOf x).toNat)
  case atStart => exact ⟨0, u, rfl, rfl, hr1⟩
  case round =>
    clear hr1
    obtain ⟨m, y, rfl, rfl, hr⟩ := hrel
    obtain ⟨cur, q1, q2, q3, q4⟩ := hr
    have hy : y < 256 := by omega
    by_cases h16 : y < 16
    · have hd : decide ((16 : Int) ≤ (y : Int)) = false := by simp; omega
      have hidx := idx_hex (y : Int) y rfl h16
      have HH2 := Lib.hid q3
      rcases q4 with ⟨rfl, rfl⟩ | ⟨rfl, hu16, hyu, q5⟩
      · have e0 : ((65 : Int) - ((0 : Nat) : Int)) = 65 := rfl
        rw [e0]
        obtain ⟨cm, hcm⟩ : ∃ cm, cur[64]? = some cm := ⟨_, List.getElem?_eq_getElem (by omega)⟩
        have c3 : wr.cell? ⟨H, 64, none⟩ = some cm := cell_of_heap q1 (by rw [List.getElem?_toArray]; exact hcm)
        have f3 : wr.frozen? ⟨H, 64, none⟩ = false := frozen_of_heap q1
        have hsl : ∀ W, (Instr.sliceAt 109 (.pointer (some ⟨H, 0, none⟩)) (some (.int .i64 64)) none none).run Tryz.prog W = .ok (.slice (some ⟨H, 64, none⟩) 1 1) W := slice_129 H 64 (by omega)
        have hback := run_convert_bytes_back (P := Tryz.prog) (wr.setCell ⟨H, 64, none⟩ (.int .u8 (hexd y).toNat)) 56 9 5 ⟨H, 64, none⟩ 1 [hexd y] Tryz.underlying56 Tryz.underlying5 Tryz.underlying9 (fun j hj => by
          obtain rfl : j = 0 := by simp at hj; omega
          exact cell_of_heap (heap_set_same q1) (by rw [Array.getElem?_setIfInBounds]; simp [q2]))
        rw [show [hexd y].length = 1 from rfl] at hback
        have HX : Hid (hexText y = [hexd y]) := Lib.hid (by rw [hexText, if_pos h16])
        clear q1 q2 q3 hcm
        go_wp2_with fail
        refine bodyPost_ret (v := .tuple #[.slice none 0 0, .string ⟨[hexd y].toArray⟩]) (by simp [results, Tryz.results57, go_sem]) rfl ⟨by rw [HX.out], by rw [HH.out]; exact HH2.out.setCell (Nat.le_refl _) _⟩
      · have e0 : ((65 : Int) - ((1 : Nat) : Int)) = 64 := rfl
        rw [e0]
        obtain ⟨cm, hcm⟩ : ∃ cm, cur[63]? = some cm := ⟨_, List.getElem?_eq_getElem (by omega)⟩
        have c3 : wr.cell? ⟨H, 63, none⟩ = some cm := cell_of_heap q1 (by rw [List.getElem?_toArray]; exact hcm)
        have f3 : wr.frozen? ⟨H, 63, none⟩ = false := frozen_of_heap q1
        have hsl : ∀ W, (Instr.sliceAt 109 (.pointer (some ⟨H, 0, none⟩)) (some (.int .i64 63)) none none).run Tryz.prog W = .ok (.slice (some ⟨H, 63, none⟩) 2 2) W := slice_129 H 63 (by omega)
        have hback := run_convert_bytes_back (P := Tryz.prog) (wr.setCell ⟨H, 63, none⟩ (.int .u8 (hexd (y)).toNat)) 56 9 5 ⟨H, 63, none⟩ 2 [hexd (y), hexd (u % 16)] Tryz.underlying56 Tryz.underlying5 Tryz.underlying9 (fun j hj => by
          rw [add_lit]
          refine cell_of_heap (heap_set_same q1) ?_
          have hjj : j = 0 ∨ j = 1 := by simp at hj; omega
          rcases hjj with rfl | rfl
          · rw [Array.getElem?_setIfInBounds]; simp [q2]
          · rw [Array.getElem?_setIfInBounds]; simp [q5])
        rw [show [hexd (y), hexd (u % 16)].length = 2 from rfl] at hback
        have HX : Hid (hexText u = [hexd (y), hexd (u % 16)]) := Lib.hid (by rw [hexText, if_neg (by omega), hyu])
        clear hyu q1 q2 q3 q5 hcm
        go_wp2_with fail
        refine bodyPost_ret (v := .tuple #[.slice none 0 0, .string ⟨[hexd (y), hexd (u % 16)].toArray⟩]) (by simp [results, Tryz.results57, go_sem]) rfl ⟨by rw [HX.out], by rw [HH.out]; exact HH2.out.setCell (Nat.le_refl _) _⟩
    · have hm : m = 0 ∧ y = u := by omega
      obtain ⟨rfl, rfl⟩ := hm
      have e0 : ((65 : Int) - ((0 : Nat) : Int)) = 65 := rfl
      rw [e0]
      have hd : decide ((16 : Int) ≤ (y : Int)) = true := by simp; omega
      obtain ⟨r, hr⟩ : ∃ r, y % 16 = r := ⟨_, rfl⟩
      have ha : bits BinOp.and IntKind.u64 (y : Int) 15 = (r : Int) := by rw [← hr]; exact and15 ⟨y, hu⟩
      have hidx := idx_hex (r : Int) r rfl (by omega)
      obtain ⟨cm, hcm⟩ : ∃ cm, cur[64]? = some cm := ⟨_, List.getElem?_eq_getElem (by omega)⟩
      have c3 : wr.cell? ⟨H, 64, none⟩ = some cm := cell_of_heap q1 (by rw [List.getElem?_toArray]; exact hcm)
      have f3 : wr.frozen? ⟨H, 64, none⟩ = false := frozen_of_heap q1
      have HR : Hid (BtRel H y w 1 (y / 16) (wr.setCell ⟨H, 64, none⟩ (.int .u8 (hexd r).toNat))) := Lib.hid ⟨cur.set 64 (.int .u8 (hexd r).toNat), by rw [heap_set_same q1]; simp, by simpa using q2, q3.setCell (Nat.le_refl _) _, .inr ⟨rfl, by omega, rfl, by rw [List.getElem?_set, hr]; simp [q2]⟩⟩
      clear q1 q2 q3 q4 hcm hr
      go_wp2_with fail
      exact ⟨⟨1, y / 16, by simp, rfl, HR.out⟩, by simp [intOf]; omega⟩

theorem formatUint_108 (u : Nat) (hu : u < 256) (w : World) (hc : w.cell? ⟨9, 15, none⟩ = some (.int .u8 4)) :
    Calls Tryz.prog 77 #[.int .u64 u, .int .i64 16] w fun e w' => e = .returned (.string ⟨(hexText u).toArray⟩) ∧ Below w.heap.size w w' := by
  go_enter Tryz.func77, Tryz.ntmps77
  go_wp2_with fail
  refine (bits_87 u hu _ hc).mono ?_
  rintro _ w9 ⟨rfl, hb⟩
  go_wp2_with fail
  go_ret
  exact ⟨rfl, hb⟩

theorem formatUint_89 (u : Nat) (hu : u < 256) (w : World) (hc : w.cell? ⟨9, 15, none⟩ = some (.int .u8 4)) :
    Calls Tryz.prog 60 #[.int .u64 u, .int .i64 16] w fun e w' => e = .returned (.string ⟨(hexText u).toArray⟩) ∧ Below w.heap.size w w' := by
  go_enter Tryz.func60, Tryz.ntmps60
  go_wp2_with fail
  refine (formatUint_108 u hu _ hc).mono ?_
  rintro _ w9 ⟨rfl, hb⟩
  go_wp2_with fail
  go_ret
  exact ⟨rfl, hb⟩
end Go.Proofs.YtpjfkfbijimliaaGreatDoor
