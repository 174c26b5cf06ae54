import Derived.Test.YtolikaginhjbhaaGreatDoorXc
import Derived.Shelf.Strings.BuilderK
import Derived.Lib.ItoaWalk
import Derived.Test.YtolikaginhjbhaaGreatDoorShelf
import Derived.Lib.ItoaLen
import Derived.Lib.ItoaMem
import Derived.Deep.RegionHeld3
import Derived.Deep.RegionWith
import Derived.Lib.AppendStr
import Derived.Deep.AppendLies
import Derived.Laws.BytesArg
/- datum.quoted of any text (turned from lex). -/
namespace Go.Proofs.YtolikaginhjbhaaGreatDoor
open Go.RowKit Go.Pen
attribute [local go_sem ↓] Go.wp_at_zero Go.wp_at_succ
theorem builder_frame {H b : Nat} {bs : List Value} {w w' : World} (h : Lib.IsBuilderF 194 5 H b bs w) (hf : ∀ g, H ≤ g → g < w.heap.size → w'.heap[g]? = w.heap[g]?) : Lib.IsBuilderF 194 5 H b bs w' := by
  have key : ∀ p, Lib.BuilderAtF 194 5 H b p bs w → Lib.BuilderAtF 194 5 H b p bs w' := fun p hp => by
    obtain ⟨hB, v, hb, ho, hne⟩ := hp
    refine ⟨hB, v, by rw [hf b hB (lt_of_heap hb)]; exact hb, ⟨ho.1, ?_⟩, hne⟩
    rcases ho.2 with h1 | ⟨g, cap, cur, fz, h1, h2, h3, h4⟩
    · exact .inl h1
    · exact .inr ⟨g, cap, cur, fz, h1, h2, by rw [hf g h2 (lt_of_heap h3)]; exact h3, h4⟩
  exact h.elim (fun x => .inl (key _ x)) (fun x => .inr (key _ x))


theorem cells_app (a b : Bytes) : Lib.byteCells a ++ Lib.byteCells b = Lib.byteCells (a ++ b) := by simp [Lib.byteCells]
theorem cells_len (a : Bytes) : (Lib.byteCells a).length = a.length := by simp [Lib.byteCells]


end Go.Proofs.YtolikaginhjbhaaGreatDoor
/- strings.Builder's writing methods over this dump (the shelf's proofs, turned: here copyCheck's panic is refused by the loader). -/
namespace Go.Proofs.YtolikaginhjbhaaGreatDoor
open Go.RowKit Go.Pen

theorem sizeBuilder : (Tryz.prog.info? 194).map (·.size) = some 2 := by kernel_rfl
theorem liesBuilder : liesAt Tryz.prog Tryz.prog.depth 194 (2 / Tryz.prog.cellsOf 194) 0 194 1 = true := by kernel_rfl
theorem infoByte : (Tryz.prog.info? 5).map (fun i => (i.zero, i.size, i.bytes)) = some (some (.int .u8 0), 1, 1) := by kernel_rfl

set_option maxHeartbeats 1000000 in
set_option maxRecDepth 100000 in
theorem copyCheck_used (b : Nat) (w : World) (h0 : w.cell? ⟨b, 0, none⟩ = some (.pointer (some ⟨b, 0, none⟩))) :
    Calls Tryz.prog 158 #[.pointer (some ⟨b, 0, none⟩)] w fun e w' => e = .returned (.tuple #[]) ∧ w' = w := by
  obtain ⟨j, hj, _⟩ := Option.map_eq_some_iff.1 sizeBuilder
  go_enter Tryz.func158, Tryz.ntmps158
  go_wp2
  rw [Lib.run_neq_ptr_same w _ Tryz.underlying192 hj]
  go_wp2
  go_end0
  exact ⟨rfl, rfl⟩

set_option maxHeartbeats 1000000 in
set_option maxRecDepth 100000 in
theorem copyCheck_fresh (b : Nat) (w : World) (h0 : w.cell? ⟨b, 0, none⟩ = some (.pointer none)) (hsh : w.shape? b = some (194, 2)) (hfz : w.frozen? ⟨b, 0, none⟩ = false) :
    Calls Tryz.prog 158 #[.pointer (some ⟨b, 0, none⟩)] w fun e w' => e = .returned (.tuple #[]) ∧ w' = w.setCell ⟨b, 0, none⟩ (.pointer (some ⟨b, 0, none⟩)) := by
  obtain ⟨j, hj, hjs⟩ := Option.map_eq_some_iff.1 sizeBuilder
  go_enter Tryz.func158, Tryz.ntmps158
  go_wp2
  rw [Lib.run_to_unsafe w ⟨b, 0, none⟩ Tryz.underlying192 Tryz.underlying205 hj (by rw [hjs]; decide) hsh (Nat.zero_lt_succ 1)]
  simp only [Result.andThen]
  rw [Oper.upon_value]
  go_wp2
  rw [run_callFunc_extern Tryz.func204 (by kernel_rfl) (by kernel_rfl) (by kernel_rfl) (e := Extern.AbiNoEscape.same) (by kernel_rfl)]
  rw [Lib.run_noEscape]
  simp only [Result.andThen]
  rw [Oper.upon_value]
  go_wp2
  rw [Lib.run_from_unsafe w ⟨b, 0, none⟩ Tryz.underlying205 Tryz.underlying192 hj hsh liesBuilder]
  simp only [Result.andThen]
  rw [Oper.upon_value]
  go_wp2
  go_end0
  exact ⟨rfl, rfl⟩

theorem copyCheck_71 (B b : Nat) (bs : List Value) (w : World) (h : Lib.IsBuilderF 194 5 B b bs w) :
    Calls Tryz.prog 158 #[.pointer (some ⟨b, 0, none⟩)] w fun e w' => e = .returned (.tuple #[]) ∧ (Lib.BuilderAtF 194 5 B b (.pointer (some ⟨b, 0, none⟩)) bs w' ∧ Below B w w' ∧ Lib.OthersKept 5 (some b) w w') := by
  rcases h with h | h
  · refine (copyCheck_fresh b w h.cell0 h.shape h.frozen0).mono ?_
    rintro e w' ⟨rfl, rfl⟩
    exact ⟨rfl, h.used _, (Below.refl B w).setCell (p := ⟨b, 0, none⟩) h.1 _, (Lib.OthersKept.refl _ _ w).setCell ⟨b, 0, none⟩ rfl _⟩
  · refine (copyCheck_used b w h.cell0).mono ?_
    rintro e w' ⟨rfl, rfl⟩
    exact ⟨rfl, h, Below.refl B _, Lib.OthersKept.refl _ _ _⟩

set_option maxHeartbeats 2000000 in
set_option maxRecDepth 100000 in
theorem writeByte_61 (B b : Nat) (bs : List Value) (c : Int) (w : World) (h : Lib.IsBuilderF 194 5 B b bs w) (hlen : bs.length + 1 ≤ 140737488355328) (hBw : B ≤ w.heap.size) :
    Calls Tryz.prog 151 #[.pointer (some ⟨b, 0, none⟩), .int .u8 c] w fun e w' => e = .returned .nilIface ∧ (Lib.BuilderAtF 194 5 B b (.pointer (some ⟨b, 0, none⟩)) (bs ++ [.int .u8 c]) w' ∧ Below B w w' ∧ Lib.OthersKept 5 (some b) w w') := by
  obtain ⟨i0, hi, hz0, hz1, hz2⟩ := info_parts infoByte
  go_enter Tryz.func151, Tryz.ntmps151
  go_wp2_with fail
  refine (copyCheck_71 B b bs _ h).mono ?_
  rintro e w1 ⟨rfl, h1, hb1, hk1⟩
  obtain ⟨hB, v, hbk, hown, hne⟩ := h1
  have c0 : w1.cell? ⟨b, 0, none⟩ = some (.pointer (some ⟨b, 0, none⟩)) := by rw [Lib.cell_of_heap hbk]; rfl
  have c1 : w1.cell? ⟨b, 1, none⟩ = some v := by rw [Lib.cell_of_heap hbk]; rfl
  go_wp2_with (at_builtin; refine wpList_append_ownF _ rfl _ _ 154 rfl B 5 i0 (.int .u8 0) 1 1 Tryz.underlying154 hi hz0 hz1 hz2 rfl (by decide) _ _ _ rfl (hown.alloc _) ⟨w1.heap.size, 0, none⟩ 1 1 [.int .u8 c] rfl rfl ?c1 ?c2 ?c3 ?c4 ?c5 ?_)
  case c1 =>
    intro j u hj
    match j, hj with
    | 0, hj => simp at hj; subst hj; simp [Addr.add]
  case c2 => intro u hu; simp at hu; subst hu; rfl
  case c3 => unfold maxLen; omega
  case c4 => omega
  case c5 => have := hb1.size; simp; omega
  intro v' w2 hown' hgrow _
  have hlt : b < w1.heap.size := lt_of_heap hbk
  have hb2 : w2.heap[b]? = some (.cells #[.pointer (some ⟨b, 0, none⟩), v] 194 (0, 0)) := by
    rw [hgrow.block b (by simp; omega) (fun e => hne e.symm), Lib.alloc_old w1 _ b hlt]
    exact hbk
  have d0 : w2.cell? ⟨b, 0, none⟩ = some (.pointer (some ⟨b, 0, none⟩)) := by rw [Lib.cell_of_heap hb2]; rfl
  have d1 : w2.cell? ⟨b, 1, none⟩ = some v := by rw [Lib.cell_of_heap hb2]; rfl
  have f1 : w2.frozen? ⟨b, 1, none⟩ = false := Lib.frozen_of_heap hb2 1
  obtain ⟨g, cap, rfl⟩ : ∃ g cap, v' = .slice (some ⟨g, 0, none⟩) (bs.length + 1) cap := by
    rcases hown'.2 with ⟨_, h0⟩ | ⟨g, cap, cur, fz, hv, _⟩
    · omega
    · exact ⟨g, cap, hv⟩
  go_wp2
  go_ret
  refine ⟨rfl, ?_, ?_, ((hk1.alloc _).grown hgrow (Lib.ownsRowF_kind (hown.alloc _))).setCell ⟨b, 1, none⟩ rfl _⟩
  · exact Lib.BuilderAtF.put (T := 194) (e := 5) hB hb2 (bs' := bs ++ [.int .u8 c]) (by simpa using hown') (by decide)
  · exact ((hb1.alloc (by have := hb1.size; omega) _).grown hgrow (by have := hb1.size; simp; omega) (fun k hk => (hown.lt k hk).1)).setCell (p := ⟨b, 1, none⟩) hB _

set_option maxHeartbeats 2000000 in
set_option maxRecDepth 100000 in
theorem writeString_53 (B b : Nat) (bs : List Value) (s : ByteArray) (w : World) (h : Lib.IsBuilderF 194 5 B b bs w) (hlen : bs.length + s.size ≤ 140737488355328) (hBw : B ≤ w.heap.size) :
    Calls Tryz.prog 112 #[.pointer (some ⟨b, 0, none⟩), .string s] w fun e w' => e = .returned (.tuple #[.int .i64 s.size, .nilIface]) ∧ (Lib.BuilderAtF 194 5 B b (.pointer (some ⟨b, 0, none⟩)) (bs ++ Lib.strCells s) w' ∧ Below B w w' ∧ Lib.OthersKept 5 (some b) w w') := by
  obtain ⟨i0, hi, hz0, hz1, hz2⟩ := info_parts infoByte
  go_enter Tryz.func112, Tryz.ntmps112
  go_wp2_with fail
  refine (copyCheck_71 B b bs _ h).mono ?_
  rintro e w1 ⟨rfl, h1, hb1, hk1⟩
  obtain ⟨hB, v, hbk, hown, hne⟩ := h1
  have c0 : w1.cell? ⟨b, 0, none⟩ = some (.pointer (some ⟨b, 0, none⟩)) := by rw [Lib.cell_of_heap hbk]; rfl
  have c1 : w1.cell? ⟨b, 1, none⟩ = some v := by rw [Lib.cell_of_heap hbk]; rfl
  go_wp2_with (at_builtin; refine Lib.wpList_append_own_stringF _ rfl _ _ 154 9 rfl B 5 i0 Tryz.underlying154 Tryz.underlying9 hi hz0 hz1 hz2 _ _ _ rfl hown s rfl ?c3 ?c4 ?c5 ?_)
  case c3 => unfold maxLen; omega
  case c4 => omega
  case c5 => have := hb1.size; omega
  intro v' w2 hown' hgrow _
  have hlt : b < w1.heap.size := lt_of_heap hbk
  have hb2 : w2.heap[b]? = some (.cells #[.pointer (some ⟨b, 0, none⟩), v] 194 (0, 0)) := by
    rw [hgrow.block b hlt (fun e => hne e.symm)]
    exact hbk
  have d0 : w2.cell? ⟨b, 0, none⟩ = some (.pointer (some ⟨b, 0, none⟩)) := by rw [Lib.cell_of_heap hb2]; rfl
  have d1 : w2.cell? ⟨b, 1, none⟩ = some v := by rw [Lib.cell_of_heap hb2]; rfl
  have f1 : w2.frozen? ⟨b, 1, none⟩ = false := Lib.frozen_of_heap hb2 1
  obtain ⟨ao, n', cap, rfl⟩ : ∃ ao n' cap, v' = .slice ao n' cap := by
    rcases hown'.2 with ⟨hv, _⟩ | ⟨g, cap, cur, fz, hv, _⟩
    · exact ⟨_, _, _, hv⟩
    · exact ⟨_, _, _, hv⟩
  go_wp2
  go_ret2
  refine ⟨rfl, ?_, ?_, (hk1.grown hgrow (Lib.ownsRowF_kind hown)).setCell ⟨b, 1, none⟩ rfl _⟩
  · exact Lib.BuilderAtF.put (T := 194) (e := 5) hB hb2 (bs' := bs ++ Lib.strCells s) (by simpa [Lib.strCells_length] using hown') (by decide)
  · exact (hb1.grown hgrow (by have := hb1.size; omega) (fun k hk => (hown.lt k hk).1)).setCell (p := ⟨b, 1, none⟩) hB _
end Go.Proofs.YtolikaginhjbhaaGreatDoor

/- strconv.FormatUint at base 16 of a byte. -/
namespace Go.Proofs.YtolikaginhjbhaaGreatDoor
open Go.RowKit Go.Pen

def hexd (n : Nat) : UInt8 := if n < 10 then (48 + n).toUInt8 else (87 + n).toUInt8
def hexText (u : Nat) : Bytes := if u < 16 then [hexd u] else [hexd (u / 16), hexd (u % 16)]
def hexDigits : ByteArray := ⟨#[48, 49, 50, 51, 52, 53, 54, 55, 56, 57, 97, 98, 99, 100, 101, 102, 103, 104, 105, 106, 107, 108, 109, 110, 111, 112, 113, 114, 115, 116, 117, 118, 119, 120, 121, 122]⟩

theorem hexd_at : ∀ n : Fin 16, hexDigits.data[n.val]? = some (hexd n.val) := by decide +kernel

theorem idx_hex (z : Int) (i : Nat) (hz : z = (i : Int)) (hi : i < 16) (w : World) :
    (Instr.index 9 (.string hexDigits) (.int .u64 z)).run Tryz.prog w = .ok (.int .u8 ((hexd i).toNat : Int)) w := by
  subst hz
  have hs : hexDigits.size = 36 := by decide +kernel
  rw [run_index_string w 9 hexDigits .u64 _ Tryz.underlying9, dif_pos ⟨by omega, by rw [hs]; omega⟩]
  have e : ((i : Int)).toNat = i := by omega
  simp only [e]
  have h := hexd_at ⟨i, hi⟩
  have h2 : hexDigits[i]'(by rw [hs]; omega) = hexd i := by
    have h3 : hexDigits.data[i]'(by have : hexDigits.data.size = 36 := hs; omega) = hexd i := by
      rw [Array.getElem?_eq_getElem (by have : hexDigits.data.size = 36 := hs; omega)] at h
      exact Option.some.inj h
    exact h3
  rw [h2]

set_option maxRecDepth 100000 in
theorem and15 : ∀ u : Fin 256, bits BinOp.and IntKind.u64 (u.val : Int) 15 = ((u.val % 16 : Nat) : Int) := by decide +kernel

theorem pow_106 (w : World) : Calls Tryz.prog 202 #[.int .i64 16] w fun e w' => e = .returned (.bool true) ∧ w' = w := by
  go_enter Tryz.func202, Tryz.ntmps202
  go_wp2_with fail
  go_ret
  exact ⟨rfl, rfl⟩

theorem tz_114 (w : World) (hc : w.cell? ⟨6, 15, none⟩ = some (.int .u8 4)) : Calls Tryz.prog 220 #[.int .u64 16] w fun e w' => e = .returned (.int .i64 4) ∧ w' = w := by
  have h1 : IntKind.u64.wrap (bits BinOp.and IntKind.u64 16 (IntKind.u64.wrap (-16)) * 285870213051353865) / 288230376151711744 = 15 := by kernel_rfl
  go_enter Tryz.func220, Tryz.ntmps220
  go_wp2_with fail
  go_ret
  exact ⟨rfl, rfl⟩

theorem tz_107 (w : World) (hc : w.cell? ⟨6, 15, none⟩ = some (.int .u8 4)) : Calls Tryz.prog 203 #[.int .u64 16] w fun e w' => e = .returned (.int .i64 4) ∧ w' = w := by
  go_enter Tryz.func203, Tryz.ntmps203
  go_wp2_with fail
  refine (tz_114 _ hc).mono ?_
  rintro _ w9 ⟨rfl, hw⟩; rw [hw]; clear hw
  go_wp2_with fail
  go_ret
  exact ⟨rfl, rfl⟩

theorem slice_129 (H j : Nat) (hj : j < 65) (w : World) : (Instr.sliceAt 283 (.pointer (some ⟨H, 0, none⟩)) (some (.int .i64 j)) none none).run Tryz.prog w = .ok (.slice (some ⟨H, j, none⟩) (65 - j : Nat) (65 - j : Nat)) w := by
  have hal : Tryz.prog.arrayLen 283 = 65 := by kernel_rfl
  have he : Tryz.prog.elem 283 = 5 := by kernel_rfl
  obtain ⟨i0, hi, -, hz, -⟩ := info_parts infoByte
  rw [run_sliceAt_array_l w 283 ⟨H, 0, none⟩ (by kernel_rfl) .i64 j (by omega) (by rw [hal]; omega)]
  rw [hal, he]
  have hne : ¬ 65 = j := by omega
  simp [sizeOf, typeInfo, hi, hz, slicedAt, hne, add_lit]

/-- the digits so far -/
def BtRel (H u : Nat) (w : World) (m x : Nat) (wr : World) : Prop :=
  ∃ cur : List Value, wr.heap[H]? = some (.cells cur.toArray 283 (0, 0)) ∧ cur.length = 65 ∧ Below H w wr ∧ ((m = 0 ∧ x = u) ∨ (m = 1 ∧ 16 ≤ u ∧ x = u / 16 ∧ cur[64]? = some (.int .u8 (hexd (u % 16)).toNat)))

set_option maxRecDepth 100000 in
set_option maxHeartbeats 4000000 in
theorem bits_87 (u : Nat) (hu : u < 256) (w : World) (hc : w.cell? ⟨6, 15, none⟩ = some (.int .u8 4)) :
    Calls Tryz.prog 157 #[.slice none 0 0, .int .u64 u, .int .i64 16, .bool false, .bool false] w fun e w' => e = .returned (.tuple #[.slice none 0 0, .string ⟨(hexText u).toArray⟩]) ∧ Below w.heap.size w w' := by
  obtain ⟨H, hH⟩ : ∃ H, w.heap.size = H := ⟨_, rfl⟩
  have HH := Lib.hid hH
  clear hH
  go_enter Tryz.func157, Tryz.ntmps157
  go_name_bytes_deep 36 DX hDX
  clear hDX
  go_name_bytes_deep 36 DG hDG
  have eDG : DG = hexDigits := by rw [← hDG]; decide +kernel
  subst eDG
  clear hDG
  go_wp2_with fail
  rw [HH.out]
  generalize hw1 : World.alloc _ _ = w1
  have e1 : w1.heap[H]? = some (.cells Tryz.zeroCells283 283 (0, 0)) := by rw [← hw1, ← HH.out]; exact heap_alloc_new w _
  have hb1 : Below H w w1 := by rw [← hw1]; exact (Below.refl _ _).alloc (by have := HH.out; omega) _
  have hc1 : w1.cell? ⟨6, 15, none⟩ = some (.int .u8 4) := (hb1.cell (p := ⟨6, 15, none⟩) (by have := World.block_lt_of_cell? w _ hc; have := HH.out; simp at *; omega)).trans hc
  have hz1 : (Tryz.zeroCells283 : Array Value).size = 65 := by decide +kernel
  have hr1 : BtRel H u w 0 u w1 := ⟨Tryz.zeroCells283.toList, by simpa using e1, hz1, hb1, .inl ⟨rfl, rfl⟩⟩
  have HC1 := Lib.hid hc1
  clear hw1 e1 hb1 hc1 hz1 hc
  refine (pow_106 _).mono ?_
  rintro _ w9 ⟨rfl, hw⟩; rw [hw]; clear hw
  go_wp2_with fail
  refine (tz_107 _ HC1.out).mono ?_
  rintro _ w9 ⟨rfl, hw⟩; rw [hw]; clear hw
  go_wp2_with fail
  go_loopw [1, 13] (fun x i wr => ∃ m y : Nat, x = .int .u64 y ∧ i = .int .i64 (65 - m) ∧ BtRel H u w m y wr) (fun x _ _ => (intOf x).toNat)
  case atStart => exact ⟨0, u, rfl, rfl, hr1⟩
  case round =>
    clear hr1
    obtain ⟨m, y, rfl, rfl, hr⟩ := hrel
    obtain ⟨cur, q1, q2, q3, q4⟩ := hr
    have hy : y < 256 := by omega
    by_cases h16 : y < 16
    · have hd : decide ((16 : Int) ≤ (y : Int)) = false := by simp; omega
      have hidx := idx_hex (y : Int) y rfl h16
      have HH2 := Lib.hid q3
      rcases q4 with ⟨rfl, rfl⟩ | ⟨rfl, hu16, hyu, q5⟩
      · have e0 : ((65 : Int) - ((0 : Nat) : Int)) = 65 := rfl
        rw [e0]
        obtain ⟨cm, hcm⟩ : ∃ cm, cur[64]? = some cm := ⟨_, List.getElem?_eq_getElem (by omega)⟩
        have c3 : wr.cell? ⟨H, 64, none⟩ = some cm := cell_of_heap q1 (by rw [List.getElem?_toArray]; exact hcm)
        have f3 : wr.frozen? ⟨H, 64, none⟩ = false := frozen_of_heap q1
        have hsl : ∀ W, (Instr.sliceAt 283 (.pointer (some ⟨H, 0, none⟩)) (some (.int .i64 64)) none none).run Tryz.prog W = .ok (.slice (some ⟨H, 64, none⟩) 1 1) W := slice_129 H 64 (by omega)
        have hback := run_convert_bytes_back (P := Tryz.prog) (wr.setCell ⟨H, 64, none⟩ (.int .u8 (hexd y).toNat)) 154 9 5 ⟨H, 64, none⟩ 1 [hexd y] Tryz.underlying154 Tryz.underlying5 Tryz.underlying9 (fun j hj => by
          obtain rfl : j = 0 := by simp at hj; omega
          exact cell_of_heap (heap_set_same q1) (by rw [Array.getElem?_setIfInBounds]; simp [q2]))
        rw [show [hexd y].length = 1 from rfl] at hback
        have HX : Hid (hexText y = [hexd y]) := Lib.hid (by rw [hexText, if_pos h16])
        clear q1 q2 q3 hcm
        go_wp2_with fail
        refine bodyPost_ret (v := .tuple #[.slice none 0 0, .string ⟨[hexd y].toArray⟩]) (by simp [results, Tryz.results157, go_sem]) rfl ⟨by rw [HX.out], by rw [HH.out]; exact HH2.out.setCell (Nat.le_refl _) _⟩
      · have e0 : ((65 : Int) - ((1 : Nat) : Int)) = 64 := rfl
        rw [e0]
        obtain ⟨cm, hcm⟩ : ∃ cm, cur[63]? = some cm := ⟨_, List.getElem?_eq_getElem (by omega)⟩
        have c3 : wr.cell? ⟨H, 63, none⟩ = some cm := cell_of_heap q1 (by rw [List.getElem?_toArray]; exact hcm)
        have f3 : wr.frozen? ⟨H, 63, none⟩ = false := frozen_of_heap q1
        have hsl : ∀ W, (Instr.sliceAt 283 (.pointer (some ⟨H, 0, none⟩)) (some (.int .i64 63)) none none).run Tryz.prog W = .ok (.slice (some ⟨H, 63, none⟩) 2 2) W := slice_129 H 63 (by omega)
        have hback := run_convert_bytes_back (P := Tryz.prog) (wr.setCell ⟨H, 63, none⟩ (.int .u8 (hexd (y)).toNat)) 154 9 5 ⟨H, 63, none⟩ 2 [hexd (y), hexd (u % 16)] Tryz.underlying154 Tryz.underlying5 Tryz.underlying9 (fun j hj => by
          rw [add_lit]
          refine cell_of_heap (heap_set_same q1) ?_
          have hjj : j = 0 ∨ j = 1 := by simp at hj; omega
          rcases hjj with rfl | rfl
          · rw [Array.getElem?_setIfInBounds]; simp [q2]
          · rw [Array.getElem?_setIfInBounds]; simp [q5])
        rw [show [hexd (y), hexd (u % 16)].length = 2 from rfl] at hback
        have HX : Hid (hexText u = [hexd (y), hexd (u % 16)]) := Lib.hid (by rw [hexText, if_neg (by omega), hyu])
        clear hyu q1 q2 q3 q5 hcm
        go_wp2_with fail
        refine bodyPost_ret (v := .tuple #[.slice none 0 0, .string ⟨[hexd (y), hexd (u % 16)].toArray⟩]) (by simp [results, Tryz.results157, go_sem]) rfl ⟨by rw [HX.out], by rw [HH.out]; exact HH2.out.setCell (Nat.le_refl _) _⟩
    · have hm : m = 0 ∧ y = u := by omega
      obtain ⟨rfl, rfl⟩ := hm
      have e0 : ((65 : Int) - ((0 : Nat) : Int)) = 65 := rfl
      rw [e0]
      have hd : decide ((16 : Int) ≤ (y : Int)) = true := by simp; omega
      obtain ⟨r, hr⟩ : ∃ r, y % 16 = r := ⟨_, rfl⟩
      have ha : bits BinOp.and IntKind.u64 (y : Int) 15 = (r : Int) := by rw [← hr]; exact and15 ⟨y, hu⟩
      have hidx := idx_hex (r : Int) r rfl (by omega)
      obtain ⟨cm, hcm⟩ : ∃ cm, cur[64]? = some cm := ⟨_, List.getElem?_eq_getElem (by omega)⟩
      have c3 : wr.cell? ⟨H, 64, none⟩ = some cm := cell_of_heap q1 (by rw [List.getElem?_toArray]; exact hcm)
      have f3 : wr.frozen? ⟨H, 64, none⟩ = false := frozen_of_heap q1
      have HR : Hid (BtRel H y w 1 (y / 16) (wr.setCell ⟨H, 64, none⟩ (.int .u8 (hexd r).toNat))) := Lib.hid ⟨cur.set 64 (.int .u8 (hexd r).toNat), by rw [heap_set_same q1]; simp, by simpa using q2, q3.setCell (Nat.le_refl _) _, .inr ⟨rfl, by omega, rfl, by rw [List.getElem?_set, hr]; simp [q2]⟩⟩
      clear q1 q2 q3 q4 hcm hr
      go_wp2_with fail
      exact ⟨⟨1, y / 16, by simp, rfl, HR.out⟩, by simp [intOf]; omega⟩

theorem formatUint_108 (u : Nat) (hu : u < 256) (w : World) (hc : w.cell? ⟨6, 15, none⟩ = some (.int .u8 4)) :
    Calls Tryz.prog 196 #[.int .u64 u, .int .i64 16] w fun e w' => e = .returned (.string ⟨(hexText u).toArray⟩) ∧ Below w.heap.size w w' := by
  go_enter Tryz.func196, Tryz.ntmps196
  go_wp2_with fail
  refine (bits_87 u hu _ hc).mono ?_
  rintro _ w9 ⟨rfl, hb⟩
  go_wp2_with fail
  go_ret
  exact ⟨rfl, hb⟩

theorem formatUint_89 (u : Nat) (hu : u < 256) (w : World) (hc : w.cell? ⟨6, 15, none⟩ = some (.int .u8 4)) :
    Calls Tryz.prog 152 #[.int .u64 u, .int .i64 16] w fun e w' => e = .returned (.string ⟨(hexText u).toArray⟩) ∧ Below w.heap.size w w' := by
  go_enter Tryz.func152, Tryz.ntmps152
  go_wp2_with fail
  refine (formatUint_108 u hu _ hc).mono ?_
  rintro _ w9 ⟨rfl, hb⟩
  go_wp2_with fail
  go_ret
  exact ⟨rfl, hb⟩
end Go.Proofs.YtolikaginhjbhaaGreatDoor

/- datum.quoted 70 of any text. -/
namespace Go.Proofs.YtolikaginhjbhaaGreatDoor
open Go.RowKit Go.Pen

/-- a text's byte as it is written -/
def qcf (c : UInt8) : Bytes :=
  if c.toNat = 39 then [39, 39] else if c.toNat = 92 then [92, 92] else if c.toNat = 10 then [92, 110] else if c.toNat = 13 then [92, 114] else if c.toNat = 9 then [92, 116] else if c.toNat < 32 ∨ c.toNat = 127 then [92, 120, hexd (c.toNat / 16), hexd (c.toNat % 16)] else [c]
def quf (l : Bytes) : Bytes := 39 :: (l.flatMap qcf ++ [39])

theorem qcf_len (c : UInt8) : (qcf c).length ≤ 4 := by
  unfold qcf; repeat' split
  all_goals simp

theorem fx_len (l : Bytes) : (l.flatMap qcf).length ≤ 4 * l.length := by
  induction l with
  | nil => simp
  | cons c cs ih => have := qcf_len c; simp only [List.flatMap_cons, List.length_append, List.length_cons]; omega

theorem fx_take {t : ByteArray} {m : Nat} {c : UInt8} (hc : t.data.toList[m]? = some c) : (t.data.toList.take (m + 1)).flatMap qcf = (t.data.toList.take m).flatMap qcf ++ qcf c := by
  rw [List.take_add_one, hc, List.flatMap_append]; simp

def QxRel (t : ByteArray) (H : Nat) (w : World) (m : Nat) (wr : World) : Prop :=
  Lib.IsBuilderF 194 5 H H (Lib.byteCells (39 :: (t.data.toList.take m).flatMap qcf)) wr ∧ Below H w wr

theorem qx_step {t : ByteArray} {H m : Nat} {w wr w1 : World} {c : UInt8} {X : List Value} (hb : Below H w wr) (hc : t.data.toList[m]? = some c) (hX : X = Lib.byteCells (39 :: (t.data.toList.take m).flatMap qcf) ++ Lib.byteCells (qcf c)) (h1 : Lib.BuilderAtF 194 5 H H (.pointer (some ⟨H, 0, none⟩)) X w1) (h2 : Below H wr w1) : QxRel t H w (m + 1) w1 := by
  refine ⟨.inr ?_, hb.trans h2⟩
  rw [fx_take hc, ← List.cons_append, ← cells_app, ← hX]
  exact h1

theorem qx_step2 {t : ByteArray} {H m : Nat} {w w2 w1 : World} {c : UInt8} {X : List Value} (hb : Below H w w2) (hc : t.data.toList[m]? = some c) (hX : X = Lib.byteCells (39 :: (t.data.toList.take m).flatMap qcf) ++ Lib.byteCells (qcf c)) (h1 : Lib.BuilderAtF 194 5 H H (.pointer (some ⟨H, 0, none⟩)) X w1) (h2 : Below H w2 w1) : QxRel t H w (m + 1) w1 := by
  refine ⟨.inr ?_, hb.trans h2⟩
  rw [fx_take hc, ← List.cons_append, ← cells_app, ← hX]
  exact h1

theorem hex_low {n : Nat} (h : n < 16) : ([92, 120, hexd (n / 16), hexd (n % 16)] : Bytes) = [92, 120, 48, hexd n] := by
  rw [Nat.div_eq_of_lt h, Nat.mod_eq_of_lt h]; rfl

set_option maxRecDepth 100000 in
set_option maxHeartbeats 4000000 in
theorem quotedF_70 (t : ByteArray) (w : World) (hs : t.size ≤ 1000) (h16 : 7 ≤ w.heap.size) (hc9 : w.cell? ⟨6, 15, none⟩ = some (.int .u8 4)) :
    Calls Tryz.prog 109 #[.string t] w fun e w' => e = .returned (.string ⟨(quf t.data.toList).toArray⟩) ∧ Below w.heap.size w w' := by
  obtain ⟨H, hH⟩ : ∃ H, w.heap.size = H := ⟨_, rfl⟩
  have HH := Lib.hid hH
  have HC9 := Lib.hid hc9
  clear hH hc9
  go_enter Tryz.func109, Tryz.ntmps109
  go_wp2_with fail
  rw [HH.out]
  generalize hw1 : World.alloc _ _ = w1
  have hbd : Lib.IsBuilderF 194 5 H H [] w1 := by
    rw [← hw1]
    refine .inl ⟨Nat.le_refl _, .slice none 0 0, ?_, ⟨rfl, .inl ⟨rfl, rfl⟩⟩, by simp [Value.ownBlock]⟩
    rw [← HH.out]
    exact heap_alloc_new w _
  have hb1 : Below H w w1 := by rw [← hw1]; exact (Below.refl _ _).alloc (by have := HH.out; omega) _
  have hz1 : H ≤ w1.heap.size := by have := hb1.size; have := HH.out; omega
  clear hw1
  refine (writeByte_61 H H [] 39 w1 hbd (by simp) hz1).mono ?_
  rintro _ w2 ⟨rfl, hb2, hbe2, -⟩
  have hr2 : QxRel t H w 0 w2 := ⟨.inr hb2, hb1.trans hbe2⟩
  clear hb2 hbe2 hbd hb1 hz1
  go_wp2_with fail
  go_loopw [4] (fun i wr => ∃ m : Nat, m ≤ t.size ∧ i = .int .i64 m ∧ QxRel t H w m wr) (fun i _ => t.size - (intOf i).toNat)
  case atStart => exact ⟨0, Nat.zero_le _, rfl, hr2⟩
  case round =>
    clear hr2
    obtain ⟨m, hm, rfl, hq⟩ := hrel
    have HQ := Lib.hid hq
    have hz : H ≤ wr.heap.size := by have := hq.2.size; have := HH.out; omega
    have hlen : (Lib.byteCells (39 :: (t.data.toList.take m).flatMap qcf)).length ≤ 4001 := by
      rw [cells_len]
      have := fx_len (t.data.toList.take m)
      have := List.length_take_le m t.data.toList
      simp only [List.length_cons]; omega
    clear hq
    rcases Nat.lt_or_ge m t.size with hlt | hge
    · have hd : decide ((m : Int) < (t.size : Int)) = true := by simpa using hlt
      obtain ⟨c, cs, hcs, -⟩ := drop_cons hlt
      have hget := get_of_drop hcs hlt
      have hc : t.data.toList[m]? = some c := by
        have := congrArg List.head? hcs
        simpa [List.head?_drop] using this
      have HC := Lib.hid hc
      clear hcs hc
      by_cases h39 : c.toNat = 39
      · have e39 : ((c.toNat : Int) == 39) = true := by simp; omega
        have hqc : qcf c = [39, 39] := by rw [qcf, if_pos h39]
        have HX := Lib.hid hqc
        clear h39 hqc
        go_wp2_with fail
        refine (writeString_53 H H (Lib.byteCells (39 :: (t.data.toList.take m).flatMap qcf)) ⟨#[39, 39]⟩ wr HQ.out.1 (by simp [ByteArray.size]; omega) hz).mono ?_
        rintro _ w3 ⟨rfl, hb3, hbe3, -⟩
        have HR := Lib.hid (qx_step HQ.out.2 HC.out (by rw [HX.out]; rfl) hb3 hbe3)
        clear hb3 hbe3
        go_wp2_with fail
        exact ⟨⟨m + 1, hlt, by simp, HR.out⟩, by simp [intOf]; omega⟩
      by_cases h92 : c.toNat = 92
      · have e92 : ((c.toNat : Int) == 92) = true := by simp; omega
        have e39 : ((c.toNat : Int) == 39) = false := by simp; omega
        have hqc : qcf c = [92, 92] := by rw [qcf, if_neg h39, if_pos h92]
        have HX := Lib.hid hqc
        clear h39 h92 hqc
        go_wp2_with fail
        refine (writeString_53 H H (Lib.byteCells (39 :: (t.data.toList.take m).flatMap qcf)) ⟨#[92, 92]⟩ wr HQ.out.1 (by simp [ByteArray.size]; omega) hz).mono ?_
        rintro _ w3 ⟨rfl, hb3, hbe3, -⟩
        have HR := Lib.hid (qx_step HQ.out.2 HC.out (by rw [HX.out]; rfl) hb3 hbe3)
        clear hb3 hbe3
        go_wp2_with fail
        exact ⟨⟨m + 1, hlt, by simp, HR.out⟩, by simp [intOf]; omega⟩
      by_cases h10 : c.toNat = 10
      · have e10 : ((c.toNat : Int) == 10) = true := by simp; omega
        have e39 : ((c.toNat : Int) == 39) = false := by simp; omega
        have e92 : ((c.toNat : Int) == 92) = false := by simp; omega
        have hqc : qcf c = [92, 110] := by rw [qcf, if_neg h39, if_neg h92, if_pos h10]
        have HX := Lib.hid hqc
        clear h39 h92 h10 hqc
        go_wp2_with fail
        refine (writeString_53 H H (Lib.byteCells (39 :: (t.data.toList.take m).flatMap qcf)) ⟨#[92, 110]⟩ wr HQ.out.1 (by simp [ByteArray.size]; omega) hz).mono ?_
        rintro _ w3 ⟨rfl, hb3, hbe3, -⟩
        have HR := Lib.hid (qx_step HQ.out.2 HC.out (by rw [HX.out]; rfl) hb3 hbe3)
        clear hb3 hbe3
        go_wp2_with fail
        exact ⟨⟨m + 1, hlt, by simp, HR.out⟩, by simp [intOf]; omega⟩
      by_cases h13 : c.toNat = 13
      · have e13 : ((c.toNat : Int) == 13) = true := by simp; omega
        have e39 : ((c.toNat : Int) == 39) = false := by simp; omega
        have e92 : ((c.toNat : Int) == 92) = false := by simp; omega
        have e10 : ((c.toNat : Int) == 10) = false := by simp; omega
        have hqc : qcf c = [92, 114] := by rw [qcf, if_neg h39, if_neg h92, if_neg h10, if_pos h13]
        have HX := Lib.hid hqc
        clear h39 h92 h10 h13 hqc
        go_wp2_with fail
        refine (writeString_53 H H (Lib.byteCells (39 :: (t.data.toList.take m).flatMap qcf)) ⟨#[92, 114]⟩ wr HQ.out.1 (by simp [ByteArray.size]; omega) hz).mono ?_
        rintro _ w3 ⟨rfl, hb3, hbe3, -⟩
        have HR := Lib.hid (qx_step HQ.out.2 HC.out (by rw [HX.out]; rfl) hb3 hbe3)
        clear hb3 hbe3
        go_wp2_with fail
        exact ⟨⟨m + 1, hlt, by simp, HR.out⟩, by simp [intOf]; omega⟩
      by_cases h9 : c.toNat = 9
      · have e9 : ((c.toNat : Int) == 9) = true := by simp; omega
        have e39 : ((c.toNat : Int) == 39) = false := by simp; omega
        have e92 : ((c.toNat : Int) == 92) = false := by simp; omega
        have e10 : ((c.toNat : Int) == 10) = false := by simp; omega
        have e13 : ((c.toNat : Int) == 13) = false := by simp; omega
        have hqc : qcf c = [92, 116] := by rw [qcf, if_neg h39, if_neg h92, if_neg h10, if_neg h13, if_pos h9]
        have HX := Lib.hid hqc
        clear h39 h92 h10 h13 h9 hqc
        go_wp2_with fail
        refine (writeString_53 H H (Lib.byteCells (39 :: (t.data.toList.take m).flatMap qcf)) ⟨#[92, 116]⟩ wr HQ.out.1 (by simp [ByteArray.size]; omega) hz).mono ?_
        rintro _ w3 ⟨rfl, hb3, hbe3, -⟩
        have HR := Lib.hid (qx_step HQ.out.2 HC.out (by rw [HX.out]; rfl) hb3 hbe3)
        clear hb3 hbe3
        go_wp2_with fail
        exact ⟨⟨m + 1, hlt, by simp, HR.out⟩, by simp [intOf]; omega⟩
      by_cases hx : c.toNat < 32 ∨ c.toNat = 127
      · have e39 : ((c.toNat : Int) == 39) = false := by simp; omega
        have e92 : ((c.toNat : Int) == 92) = false := by simp; omega
        have e10 : ((c.toNat : Int) == 10) = false := by simp; omega
        have e13 : ((c.toNat : Int) == 13) = false := by simp; omega
        have e9 : ((c.toNat : Int) == 9) = false := by simp; omega
        have hqc : qcf c = [92, 120, hexd (c.toNat / 16), hexd (c.toNat % 16)] := by rw [qcf, if_neg h39, if_neg h92, if_neg h10, if_neg h13, if_neg h9, if_pos hx]
        have HX := Lib.hid hqc
        have hcell : wr.cell? ⟨6, 15, none⟩ = some (.int .u8 4) := (HQ.out.2.cell (p := ⟨6, 15, none⟩) (by have := HH.out; show 6 < H; omega)).trans HC9.out
        have HCE := Lib.hid hcell
        have hcl : c.toNat < 256 := c.toNat_lt
        have hor : decide ((c.toNat : Int) < 32) = true ∨ (decide ((c.toNat : Int) < 32) = false ∧ ((c.toNat : Int) == 127) = true) := by simp; omega
        clear h39 h92 h10 h13 h9 hqc hcell hx
        rcases hor with e32 | ⟨e32, e127⟩ <;> (
          go_wp2_with fail
          refine (formatUint_89 c.toNat hcl wr HCE.out).mono ?_
          rintro _ w2 ⟨rfl, hb2⟩
          have hz2 : H ≤ w2.heap.size := by have := hb2.size; omega
          have HB2 := Lib.hid (HQ.out.2.trans (hb2.mono hz))
          have HD2 := Lib.hid (builder_frame HQ.out.1 fun g hg hl => hb2.block g hl)
          clear hb2
          by_cases h16c : c.toNat < 16
          · have hht : hexText c.toNat = [hexd c.toNat] := by rw [hexText, if_pos h16c]
            rw [hht]
            have HT := Lib.hid hht
            clear hht
            go_wp2_with fail
            refine (Tryz.strings_Repeat_one _ _).mono ?_
            rintro _ w9 ⟨rfl, hw⟩; rw [hw]; clear hw
            go_wp2_with fail
            refine (writeString_53 H H (Lib.byteCells (39 :: (t.data.toList.take m).flatMap qcf)) ⟨#[92, 120, 48, hexd c.toNat]⟩ w2 HD2.out (by simp [ByteArray.size]; omega) hz2).mono ?_
            rintro _ w3 ⟨rfl, hb3, hbe3, -⟩
            have HR := Lib.hid (qx_step2 HB2.out HC.out (by rw [HX.out, hex_low h16c]; rfl) hb3 hbe3)
            clear hb3 hbe3
            go_wp2_with fail
            exact ⟨⟨m + 1, hlt, by simp, HR.out⟩, by simp [intOf]; omega⟩
          · have hht : hexText c.toNat = [hexd (c.toNat / 16), hexd (c.toNat % 16)] := by rw [hexText, if_neg h16c]
            rw [hht]
            have HT := Lib.hid hht
            clear hht
            generalize hexd (c.toNat / 16) = x1 at HX ⊢
            generalize hexd (c.toNat % 16) = x2 at HX ⊢
            go_wp2_with fail
            refine (Tryz.strings_Repeat_zero _ _).mono ?_
            rintro _ w9 ⟨rfl, hw⟩; rw [hw]; clear hw
            go_wp2_with fail
            refine (writeString_53 H H (Lib.byteCells (39 :: (t.data.toList.take m).flatMap qcf)) ⟨#[92, 120, x1, x2]⟩ w2 HD2.out (by simp [ByteArray.size]; omega) hz2).mono ?_
            rintro _ w3 ⟨rfl, hb3, hbe3, -⟩
            have HR := Lib.hid (qx_step2 HB2.out HC.out (by rw [HX.out]; rfl) hb3 hbe3)
            clear hb3 hbe3
            go_wp2_with fail
            exact ⟨⟨m + 1, hlt, by simp, HR.out⟩, by simp [intOf]; omega⟩)
      have e39 : ((c.toNat : Int) == 39) = false := by simp; omega
      have e92 : ((c.toNat : Int) == 92) = false := by simp; omega
      have e10 : ((c.toNat : Int) == 10) = false := by simp; omega
      have e13 : ((c.toNat : Int) == 13) = false := by simp; omega
      have e9 : ((c.toNat : Int) == 9) = false := by simp; omega
      have e32 : decide ((c.toNat : Int) < 32) = false := by simp; omega
      have e127 : ((c.toNat : Int) == 127) = false := by simp; omega
      have hqc : qcf c = [c] := by rw [qcf, if_neg h39, if_neg h92, if_neg h10, if_neg h13, if_neg h9, if_neg hx]
      have HX := Lib.hid hqc
      clear h39 h92 h10 h13 h9 hx hqc
      go_wp2_with fail
      refine (writeByte_61 H H (Lib.byteCells (39 :: (t.data.toList.take m).flatMap qcf)) c.toNat wr HQ.out.1 (by omega) hz).mono ?_
      rintro _ w3 ⟨rfl, hb3, hbe3, -⟩
      have HR := Lib.hid (qx_step HQ.out.2 HC.out (by rw [HX.out]; rfl) hb3 hbe3)
      clear hb3 hbe3
      go_wp2_with fail
      exact ⟨⟨m + 1, hlt, by simp, HR.out⟩, by simp [intOf]; omega⟩
    · have hd : decide ((m : Int) < (t.size : Int)) = false := by simp; omega
      obtain rfl : m = t.size := by omega
      have hta : t.data.toList.take t.size = t.data.toList := List.take_of_length_le (by rw [len_list]; exact Nat.le_refl _)
      go_wp2_with fail
      refine (writeByte_61 H H (Lib.byteCells (39 :: (t.data.toList.take t.size).flatMap qcf)) 39 wr HQ.out.1 (by omega) hz).mono ?_
      rintro _ w3 ⟨rfl, hb3, hbe3, -⟩
      have hb3' : Lib.IsBuilderF 194 5 H H (Lib.byteCells (quf t.data.toList)) w3 := by
        have e : Lib.byteCells (quf t.data.toList) = Lib.byteCells (39 :: (t.data.toList.take t.size).flatMap qcf) ++ [.int .u8 39] := by
          rw [hta]
          simp [quf, Lib.byteCells]
        rw [e]; exact .inr hb3
      have HB := Lib.hid hb3'
      have HE3 := Lib.hid (HQ.out.2.trans hbe3)
      clear hb3 hbe3 hb3' hta
      go_wp2_with fail
      refine (Tryz.Builder_String_any_f H H (quf t.data.toList) w3 HB.out (by have := HE3.out.size; have := HH.out; omega)).mono ?_
      rintro _ w4 ⟨rfl, -, hbe4⟩
      go_wp2_with fail
      go_ret
      exact ⟨rfl, by rw [HH.out]; exact HE3.out.trans hbe4⟩
end Go.Proofs.YtolikaginhjbhaaGreatDoor
/- the reference's digits, quoted (turned from lex). -/
namespace Go.Proofs.YtolikaginhjbhaaGreatDoor
open Go.RowKit Go.Pen
attribute [local go_sem ↓] Go.wp_at_zero Go.wp_at_succ
def bv (c : UInt8) : Value := .int .u8 c.toNat


theorem info5 : (Tryz.prog.info? 5).map (fun i => (i.zero, i.size, i.bytes)) = some (some (.int .u8 0), 1, 1) := by kernel_rfl

theorem out_text {H n c : Nat} {w : World} {a : Option Addr} {l : Bytes} (ho : w.ownsRow H 5 1 (.slice a n c) n (l.map bv)) (hn : l.length = n) : (convert 154 9 (.slice a n c)).run Tryz.prog w = .ok (.string ⟨l.toArray⟩) w := by
  subst hn
  rcases ho.2 with ⟨h, h0⟩ | ⟨b, c', cur, h, hb, hg, hnc, hcm, hcs, ht⟩
  · have : l = [] := List.eq_nil_of_length_eq_zero h0
    subst this
    cases h
    exact run_convert_bytes_nil (P := Tryz.prog) w 154 5 Tryz.underlying154 Tryz.underlying5 _ _ 9 Tryz.underlying9
  · cases h
    refine run_convert_bytes_back (P := Tryz.prog) w 154 9 5 ⟨b, 0, none⟩ _ l Tryz.underlying154 Tryz.underlying5 Tryz.underlying9 (fun j hj => ?_)
    rw [add_lit, Nat.zero_add]
    have := ownsRow_cell ho rfl (j := j) (u := bv l[j]) (by rw [List.getElem?_map, List.getElem?_eq_getElem hj]; rfl)
    simpa [bv] using this


end Go.Proofs.YtolikaginhjbhaaGreatDoor
/- ref digits 30. -/
namespace Go.Proofs.YtolikaginhjbhaaGreatDoor
open Go.RowKit Go.Pen

theorem new_lt (w : World) (o : Obj) : w.heap.size < (w.alloc o).drew.heap.size := by
  have : (w.alloc o).drew.heap.size = w.heap.size + 1 := by simp
  rw [this]; exact Nat.lt_succ_self _
theorem new_cell (w : World) (c : UInt8) : (w.alloc (.cells #[.int .u8 c.toNat] 5)).drew.cell? ⟨w.heap.size, 0, none⟩ = some (.int .u8 c.toNat) := cell_of_heap (heap_alloc_new w _) rfl

set_option maxRecDepth 100000 in
set_option maxHeartbeats 4000000 in
theorem digits_30 (u : Nat) (hu : u ≤ 9223372036854775808) (w : World) :
    Calls Tryz.prog 161 #[.int .u64 u] w fun e w' => e = .returned (.string ⟨(Lib.decDigits u).toArray⟩) ∧ Below w.heap.size w w' := by
  induction u using Nat.strongRecOn generalizing w with
  | ind u ih =>
    have hconv : ∀ (W : World) (b : Nat) (c : UInt8), W.cell? ⟨b, 0, none⟩ = some (.int .u8 c.toNat) → (convert 154 9 (.slice (some ⟨b, 0, none⟩) 1 1)).run Tryz.prog W = .ok (.string ⟨#[c]⟩) W := fun W b c hc =>
      run_convert_bytes_back (P := Tryz.prog) W 154 9 5 ⟨b, 0, none⟩ 1 [c] Tryz.underlying154 Tryz.underlying5 Tryz.underlying9 (fun j hj => by
        obtain rfl : j = 0 := by simp at hj; omega
        exact hc)
    by_cases h10 : u < 10
    · have hd : decide ((u : Int) < 10) = true := by simp; omega
      rw [Lib.decDigits_one h10]
      obtain ⟨c, hcu⟩ : ∃ c : UInt8, UInt8.ofNat (48 + u) = c := ⟨_, rfl⟩
      have hc : ((48 : Int) + (u : Int)) = (c.toNat : Int) := by
        rw [← hcu, UInt8.toNat_ofNat']; omega
      rw [hcu]
      clear hcu
      go_enter Tryz.func161, Tryz.ntmps161
      have hA : ∀ W : World, (convert 154 9 (.slice (some ⟨W.heap.size, 0, none⟩) 1 1)).run Tryz.prog (W.alloc (.cells #[.int .u8 c.toNat] 5)) = .ok (.string ⟨#[c]⟩) (W.alloc (.cells #[.int .u8 c.toNat] 5)) := fun W => hconv _ _ c (by simp)
      go_wp2_with fail
      go_ret
      exact ⟨rfl, (Below.refl _ _).alloc (Nat.le_refl _) _⟩
    · have hd : decide ((u : Int) < 10) = false := by simp; omega
      have hde : Lib.decDigits u = Lib.decDigits (u / 10) ++ [UInt8.ofNat (48 + u % 10)] := by rw [Lib.decDigits, dif_neg h10]
      obtain ⟨c, hcu⟩ : ∃ c : UInt8, UInt8.ofNat (48 + u % 10) = c := ⟨_, rfl⟩
      obtain ⟨q, hq⟩ : ∃ q, u / 10 = q := ⟨_, rfl⟩
      obtain ⟨r, hr⟩ : ∃ r, u % 10 = r := ⟨_, rfl⟩
      have hc : ((48 : Int) + (r : Int)) = (c.toNat : Int) := by
        rw [← hcu, UInt8.toNat_ofNat', hr]; omega
      have hr' : (u : Int).tmod 10 = (r : Int) := by rw [← hr, Int.tmod_eq_emod_of_nonneg (by omega)]; omega
      have hq' : (u : Int).tdiv 10 = (q : Int) := by rw [← hq, Int.tdiv_eq_ediv_of_nonneg (by omega)]; omega
      have hr9 : r < 10 := by omega
      have ihq := fun W => ih q (by omega) (by omega) W
      obtain ⟨DQ, hDQ⟩ : ∃ DQ : ByteArray, ⟨(Lib.decDigits q).toArray⟩ = DQ := ⟨_, rfl⟩
      have hln : DQ.size ≤ 21 := by
        have := Lib.itoa_length_le (q : Int) (by omega) (by omega)
        rw [Lib.itoa_nonneg] at this
        rw [← hDQ]; simpa [ByteArray.size] using this
      have hadd : ¬ (9223372036854775807 < DQ.size + (⟨#[c]⟩ : ByteArray).size) := by
        have : (⟨#[c]⟩ : ByteArray).size = 1 := rfl
        omega
      have hadd' : ¬ (9223372036854775807 < DQ.size + 1) := by omega
      have hres : DQ ++ (⟨#[c]⟩ : ByteArray) = ⟨(Lib.decDigits q ++ [c]).toArray⟩ := by
        rw [← hDQ]; apply ByteArray.ext; simp
      rw [hDQ] at ihq
      have IH := Lib.hid ihq
      have HRES := Lib.hid hres
      rw [hcu, hq] at hde
      have HD := Lib.hid hde
      have hwq : IntKind.u64.wrap (q : Int) = (q : Int) := by rw [IntKind.wrap_u64]; omega
      have hwr : IntKind.u8.wrap (r : Int) = (r : Int) := by rw [IntKind.wrap_u8]; omega
      have hwc : IntKind.u8.wrap (48 + (r : Int)) = (c.toNat : Int) := by rw [hc, IntKind.wrap_u8]; have := c.toNat_lt; omega
      have hA : ∀ W : World, (convert 154 9 (.slice (some ⟨W.heap.size, 0, none⟩) 1 1)).run Tryz.prog (W.alloc (.cells #[.int .u8 c.toNat] 5)) = .ok (.string ⟨#[c]⟩) (W.alloc (.cells #[.int .u8 c.toNat] 5)) := fun W => hconv _ _ c (by simp)
      have hA2 := hconv _ _ c (new_cell w c)
      clear hcu hq hr ih ihq hde hc hr9 hDQ hres hln
      go_enter Tryz.func161, Tryz.ntmps161
      go_wp2_with fail
      go_region_with (go_at_call 161; refine (IH.out _).mono ?_; rintro e w5 ⟨rfl, hb5⟩; (try (have hcB := hconv w5 w.heap.size c ((hb5.cell (p := ⟨w.heap.size, 0, none⟩) (new_lt w _)).trans (new_cell w c)))))
      all_goals (
        have HB : Hid (Below w.heap.size w w5) := Lib.hid (by first | exact (((Below.refl _ _).alloc (Nat.le_refl _) _).drew).trans (hb5.mono (Nat.le_of_lt (new_lt w _))) | exact below_undrew hb5)
        clear hb5
        go_wp2_with fail
        go_ret
        refine ⟨by show Ending.returned (.string (DQ ++ ⟨#[c]⟩)) = _; rw [HD.out, HRES.out], ?_⟩
        first | exact HB.out | exact HB.out.alloc HB.out.size _)
end Go.Proofs.YtolikaginhjbhaaGreatDoor

/- ref quoted 29. Printed by gen_quoted.py. -/
namespace Go.Proofs.YtolikaginhjbhaaGreatDoor
open Go.RowKit Go.Pen

/-- what is written so far -/
def qpre (t : ByteArray) (m : Nat) : Bytes := 39 :: (t.data.toList.take m).flatMap qcf
def QzRel (t : ByteArray) (H : Nat) (w : World) (m : Nat) (v : Value) (wr : World) : Prop := wr.ownsRow H 5 1 v (qpre t m).length ((qpre t m).map bv) ∧ Below H w wr

theorem qpre_len (t : ByteArray) (m : Nat) (hs : t.size ≤ 1000) : (qpre t m).length ≤ 4001 := by
  have h1 := fx_len (t.data.toList.take m)
  have h2 := List.length_take_le m t.data.toList
  have h3 : t.data.toList.length = t.size := len_list t
  have h4 : (t.data.toList.take m).length ≤ t.data.toList.length := by rw [List.length_take]; omega
  unfold qpre
  simp only [List.length_cons]; omega

theorem qpre_succ {t : ByteArray} {m : Nat} {c : UInt8} (hc : t.data.toList[m]? = some c) : qpre t (m + 1) = qpre t m ++ qcf c := by
  unfold qpre
  rw [fx_take hc, List.cons_append]

theorem qz_step {t : ByteArray} {H m n : Nat} {w w0 w1 : World} {v v' : Value} {c : UInt8} {xs : List Value} (hb0 : Below H w w0) (hH : H ≤ w0.heap.size) (hc : t.data.toList[m]? = some c)
    (ho : w1.ownsRow H 5 1 v' n xs) (hn : n = (qpre t m).length + (qcf c).length) (hx : xs = (qpre t m).map bv ++ (qcf c).map bv) (hg : w0.grownBy w1 v.ownBlock) (hv : ∀ g, v.ownBlock = some g → H ≤ g) : QzRel t H w (m + 1) v' w1 := by
  subst hn hx
  exact ⟨by rw [qpre_succ hc, List.length_append, List.map_append]; exact ho, hb0.grown hg hH hv⟩

theorem own_far {w w' : World} {base e size n : Nat} {v : Value} {xs : List Value} (ho : w.ownsRow base e size v n xs) (hf : ∀ g, g < w.heap.size → w'.heap[g]? = w.heap[g]?) : w'.ownsRow base e size v n xs :=
  ownsRow_frame ho fun g hg => hf g (ho.lt g hg).2

theorem fourB_at {w : World} {B : Nat} {a b c d : Value} (h : w.heap[B]? = some (.cells #[a, b, c, d] 5 (0, 0))) : ∀ j u, [a, b, c, d][j]? = some u → w.cell? ((⟨B, 0, none⟩ : Addr).add j) = some u := by
  intro j u hj
  rw [add_lit, Nat.zero_add]
  exact cell_of_heap h (by rw [List.getElem?_toArray]; exact hj)

theorem four_one (y z : Int) : ∀ u ∈ [Value.int .u8 92, .int .u8 120, .int .u8 y, .int .u8 z], u.oneCell' = true := by
  intro u hu
  simp only [List.mem_cons, List.not_mem_nil, or_false] at hu
  rcases hu with rfl | rfl | rfl | rfl <;> rfl

theorem hexdig_at : ∀ n : Fin 16, (⟨#[48, 49, 50, 51, 52, 53, 54, 55, 56, 57, 97, 98, 99, 100, 101, 102]⟩ : ByteArray).data[n.val]? = some (hexd n.val) := by decide +kernel

theorem idx_hex16 (z : Int) (i : Nat) (hz : z = (i : Int)) (hi : i < 16) (w : World) :
    (Instr.index 9 (.string ⟨#[48, 49, 50, 51, 52, 53, 54, 55, 56, 57, 97, 98, 99, 100, 101, 102]⟩) (.int .u8 z)).run Tryz.prog w = .ok (.int .u8 ((hexd i).toNat : Int)) w := by
  subst hz
  obtain ⟨D, hD⟩ : ∃ D : ByteArray, (⟨#[48, 49, 50, 51, 52, 53, 54, 55, 56, 57, 97, 98, 99, 100, 101, 102]⟩ : ByteArray) = D := ⟨_, rfl⟩
  have hs : D.size = 16 := by rw [← hD]; rfl
  have h := hexdig_at ⟨i, hi⟩
  rw [hD] at h ⊢
  rw [run_index_string w 9 D .u8 _ Tryz.underlying9, dif_pos ⟨by omega, by rw [hs]; omega⟩]
  have e : ((i : Int)).toNat = i := by omega
  simp only [e]
  have h2 : D[i]'(by rw [hs]; omega) = hexd i := by
    have h3 : D.data[i]'(by have : D.data.size = 16 := hs; omega) = hexd i := by
      rw [Array.getElem?_eq_getElem (by have : D.data.size = 16 := hs; omega)] at h
      exact Option.some.inj h
    exact h3
  rw [h2]

set_option maxRecDepth 100000 in
theorem nib : ∀ u : Fin 256, bits BinOp.and IntKind.u8 (u.val : Int) 15 = ((u.val % 16 : Nat) : Int) := by decide +kernel

set_option maxRecDepth 100000 in
set_option maxHeartbeats 8000000 in
theorem quoted_29 (t : ByteArray) (w : World) (hs : t.size ≤ 1000) :
    Calls Tryz.prog 160 #[.string t] w fun e w' => e = .returned (.string ⟨(quf t.data.toList).toArray⟩) ∧ Below w.heap.size w w' := by
  obtain ⟨i0, hi, hz0, hz1, hz2⟩ := info_parts info5
  obtain ⟨H, hH⟩ : ∃ H, w.heap.size = H := ⟨_, rfl⟩
  have HH := Lib.hid hH
  clear hH
  have hrel0 : QzRel t H w 0 (.slice (some ⟨H, 0, none⟩) 1 1) (w.alloc (.cells #[.int .u8 39] 5)) := by
    refine ⟨⟨by simp [qpre], .inr ⟨H, 1, #[.int .u8 39], rfl, Nat.le_refl _, by rw [← HH.out]; exact heap_alloc_new w _, Nat.le_refl _, by decide, rfl, rfl⟩⟩, (Below.refl _ _).alloc (by have := HH.out; omega) _⟩
  have HR0 := Lib.hid hrel0
  clear hrel0
  go_enter Tryz.func160, Tryz.ntmps160
  go_wp2_with fail
  rw [HH.out]
  go_loopw [3, 4] (fun v i wr => ∃ m : Nat, m ≤ t.size ∧ i = .int .i64 m ∧ QzRel t H w m v wr) (fun _ i _ => t.size - (intOf i).toNat)
  case atStart => exact ⟨0, Nat.zero_le _, rfl, HR0.out⟩
  case round =>
    obtain ⟨m, hm, rfl, hq⟩ := hrel
    obtain ⟨ho, hb⟩ := hq
    have hpl := qpre_len t m hs
    obtain ⟨n, hn⟩ : ∃ n, (qpre t m).length = n := ⟨_, rfl⟩
    obtain ⟨X, hX⟩ : ∃ X, (qpre t m).map bv = X := ⟨_, rfl⟩
    rw [hn] at hpl
    rw [hn, hX] at ho
    obtain ⟨va, vc, rfl⟩ := ownsRow_slice ho
    have hHs : H ≤ wr.heap.size := by have := hb.size; have := HH.out; omega
    have hvb : ∀ g, (Value.slice va n vc).ownBlock = some g → H ≤ g := fun g hg => (ho.lt g hg).1
    have HN := Lib.hid hn
    have HX := Lib.hid hX
    have HB := Lib.hid hb
    have HVB := Lib.hid hvb
    clear hn hX hb hvb
    rcases Nat.lt_or_ge m t.size with hlt | hge
    · have hd : decide ((m : Int) < (t.size : Int)) = true := by simpa using hlt
      obtain ⟨c, cs, hcs, -⟩ := drop_cons hlt
      have hget := get_of_drop hcs hlt
      have hc : t.data.toList[m]? = some c := by
        have := congrArg List.head? hcs
        simpa [List.head?_drop] using this
      have HC := Lib.hid hc
      clear hcs hc
      by_cases h39 : c.toNat = 39
      · have e39 : ((c.toNat : Int) == 39) = true := by simp; omega
        have hqc : qcf c = [39, 39] := by rw [qcf, if_pos h39]
        have HQ := Lib.hid hqc
        clear h39 hqc
        go_wp2_with (at_builtin; go_must (refine Lib.wpList_append_own_string _ rfl _ _ 154 9 rfl H 5 i0 Tryz.underlying154 Tryz.underlying9 hi hz0 hz1 hz2 (.slice va n vc) n X rfl ho ⟨#[39, 39]⟩ rfl ?c3 ?c4 ?c5 ?_))
        case c3 => unfold maxLen; simp [ByteArray.size]; omega
        case c4 => simp [ByteArray.size]; omega
        case c5 => exact hHs
        intro v' w1 hown' hgrow _
        have HS := Lib.hid (qz_step HB.out hHs HC.out hown' (by rw [HN.out, HQ.out]; rfl) (by rw [HX.out, HQ.out]; rfl) hgrow HVB.out)
        clear hown' hgrow
        go_wp2_with fail
        exact ⟨⟨m + 1, hlt, by simp, HS.out⟩, by simp [intOf]; omega⟩
      by_cases h92 : c.toNat = 92
      · have e92 : ((c.toNat : Int) == 92) = true := by simp; omega
        have e39 : ((c.toNat : Int) == 39) = false := by simp; omega
        have hqc : qcf c = [92, 92] := by rw [qcf, if_neg h39, if_pos h92]
        have HQ := Lib.hid hqc
        clear h39 h92 hqc
        go_wp2_with (at_builtin; go_must (refine Lib.wpList_append_own_string _ rfl _ _ 154 9 rfl H 5 i0 Tryz.underlying154 Tryz.underlying9 hi hz0 hz1 hz2 (.slice va n vc) n X rfl ho ⟨#[92, 92]⟩ rfl ?c3 ?c4 ?c5 ?_))
        case c3 => unfold maxLen; simp [ByteArray.size]; omega
        case c4 => simp [ByteArray.size]; omega
        case c5 => exact hHs
        intro v' w1 hown' hgrow _
        have HS := Lib.hid (qz_step HB.out hHs HC.out hown' (by rw [HN.out, HQ.out]; rfl) (by rw [HX.out, HQ.out]; rfl) hgrow HVB.out)
        clear hown' hgrow
        go_wp2_with fail
        exact ⟨⟨m + 1, hlt, by simp, HS.out⟩, by simp [intOf]; omega⟩
      by_cases h10 : c.toNat = 10
      · have e10 : ((c.toNat : Int) == 10) = true := by simp; omega
        have e39 : ((c.toNat : Int) == 39) = false := by simp; omega
        have e92 : ((c.toNat : Int) == 92) = false := by simp; omega
        have hqc : qcf c = [92, 110] := by rw [qcf, if_neg h39, if_neg h92, if_pos h10]
        have HQ := Lib.hid hqc
        clear h39 h92 h10 hqc
        go_wp2_with (at_builtin; go_must (refine Lib.wpList_append_own_string _ rfl _ _ 154 9 rfl H 5 i0 Tryz.underlying154 Tryz.underlying9 hi hz0 hz1 hz2 (.slice va n vc) n X rfl ho ⟨#[92, 110]⟩ rfl ?c3 ?c4 ?c5 ?_))
        case c3 => unfold maxLen; simp [ByteArray.size]; omega
        case c4 => simp [ByteArray.size]; omega
        case c5 => exact hHs
        intro v' w1 hown' hgrow _
        have HS := Lib.hid (qz_step HB.out hHs HC.out hown' (by rw [HN.out, HQ.out]; rfl) (by rw [HX.out, HQ.out]; rfl) hgrow HVB.out)
        clear hown' hgrow
        go_wp2_with fail
        exact ⟨⟨m + 1, hlt, by simp, HS.out⟩, by simp [intOf]; omega⟩
      by_cases h13 : c.toNat = 13
      · have e13 : ((c.toNat : Int) == 13) = true := by simp; omega
        have e39 : ((c.toNat : Int) == 39) = false := by simp; omega
        have e92 : ((c.toNat : Int) == 92) = false := by simp; omega
        have e10 : ((c.toNat : Int) == 10) = false := by simp; omega
        have hqc : qcf c = [92, 114] := by rw [qcf, if_neg h39, if_neg h92, if_neg h10, if_pos h13]
        have HQ := Lib.hid hqc
        clear h39 h92 h10 h13 hqc
        go_wp2_with (at_builtin; go_must (refine Lib.wpList_append_own_string _ rfl _ _ 154 9 rfl H 5 i0 Tryz.underlying154 Tryz.underlying9 hi hz0 hz1 hz2 (.slice va n vc) n X rfl ho ⟨#[92, 114]⟩ rfl ?c3 ?c4 ?c5 ?_))
        case c3 => unfold maxLen; simp [ByteArray.size]; omega
        case c4 => simp [ByteArray.size]; omega
        case c5 => exact hHs
        intro v' w1 hown' hgrow _
        have HS := Lib.hid (qz_step HB.out hHs HC.out hown' (by rw [HN.out, HQ.out]; rfl) (by rw [HX.out, HQ.out]; rfl) hgrow HVB.out)
        clear hown' hgrow
        go_wp2_with fail
        exact ⟨⟨m + 1, hlt, by simp, HS.out⟩, by simp [intOf]; omega⟩
      by_cases h9 : c.toNat = 9
      · have e9 : ((c.toNat : Int) == 9) = true := by simp; omega
        have e39 : ((c.toNat : Int) == 39) = false := by simp; omega
        have e92 : ((c.toNat : Int) == 92) = false := by simp; omega
        have e10 : ((c.toNat : Int) == 10) = false := by simp; omega
        have e13 : ((c.toNat : Int) == 13) = false := by simp; omega
        have hqc : qcf c = [92, 116] := by rw [qcf, if_neg h39, if_neg h92, if_neg h10, if_neg h13, if_pos h9]
        have HQ := Lib.hid hqc
        clear h39 h92 h10 h13 h9 hqc
        go_wp2_with (at_builtin; go_must (refine Lib.wpList_append_own_string _ rfl _ _ 154 9 rfl H 5 i0 Tryz.underlying154 Tryz.underlying9 hi hz0 hz1 hz2 (.slice va n vc) n X rfl ho ⟨#[92, 116]⟩ rfl ?c3 ?c4 ?c5 ?_))
        case c3 => unfold maxLen; simp [ByteArray.size]; omega
        case c4 => simp [ByteArray.size]; omega
        case c5 => exact hHs
        intro v' w1 hown' hgrow _
        have HS := Lib.hid (qz_step HB.out hHs HC.out hown' (by rw [HN.out, HQ.out]; rfl) (by rw [HX.out, HQ.out]; rfl) hgrow HVB.out)
        clear hown' hgrow
        go_wp2_with fail
        exact ⟨⟨m + 1, hlt, by simp, HS.out⟩, by simp [intOf]; omega⟩
      have e39 : ((c.toNat : Int) == 39) = false := by simp; omega
      have e92 : ((c.toNat : Int) == 92) = false := by simp; omega
      have e10 : ((c.toNat : Int) == 10) = false := by simp; omega
      have e13 : ((c.toNat : Int) == 13) = false := by simp; omega
      have e9 : ((c.toNat : Int) == 9) = false := by simp; omega
      by_cases hx : c.toNat < 32 ∨ c.toNat = 127
      · have hqc : qcf c = [92, 120, hexd (c.toNat / 16), hexd (c.toNat % 16)] := by rw [qcf, if_neg h39, if_neg h92, if_neg h10, if_neg h13, if_neg h9, if_pos hx]
        have hcl : c.toNat < 256 := c.toNat_lt
        have hor : decide ((c.toNat : Int) < 32) = true ∨ (decide ((c.toNat : Int) < 32) = false ∧ ((c.toNat : Int) == 127) = true) := by simp; omega
        have ha := nib ⟨c.toNat, hcl⟩
        have hi1 := idx_hex16 ((c.toNat : Int) / 16) (c.toNat / 16) (by omega) (by omega)
        obtain ⟨r, hr⟩ : ∃ r, c.toNat % 16 = r := ⟨_, rfl⟩
        obtain ⟨y, hy⟩ : ∃ y, hexd (c.toNat / 16) = y := ⟨_, rfl⟩
        obtain ⟨z, hz⟩ : ∃ z, hexd r = z := ⟨_, rfl⟩
        have hi2 := idx_hex16 (r : Int) r rfl (by omega)
        rw [hr] at hqc ha
        rw [hy] at hqc hi1
        rw [hz] at hqc hi2
        have HQ := Lib.hid hqc
        have hrl : r < 16 := by omega
        simp only [] at ha
        have hm1 : n + 4 ≤ maxLen := by unfold maxLen; omega
        have HM1 := Lib.hid hm1
        clear h39 h92 h10 h13 h9 hx hqc hr hy hz hm1
        rcases hor with e32 | ⟨e32, e127⟩ <;> (
          go_wp2_with fail
          go_region_held3 (fun _ => True) (exact trivial)
            (first | (refine step_append_lies _ rfl (.tmp 52) (.tmp 59) 154 rfl H 5 i0 (.int .u8 0) 1 1 Tryz.underlying154 hi hz0 hz1 hz2 rfl (by decide) (.slice va n vc) n X (by simp [Act.eval]) (own_far ho (by intro g hg; exact Below.heap_alloc wr _ g hg)) ⟨wr.heap.size, 0, none⟩ 4 4 [.int .u8 92, .int .u8 120, .int .u8 y.toNat, .int .u8 z.toNat] (by simp [Act.eval]) rfl (fourB_at (heap_alloc_new wr _)) (four_one _ _) (by decide) HM1.out (by omega) (by simp; omega) _ rfl ?_; intro g9 cap9 w9 hown9 hgrow9 hat9 hlt9))
          all_goals (
            have HS := Lib.hid (qz_step ((HB.out.alloc hHs _).drew) (by simp; omega) HC.out hown9 (by rw [HN.out, HQ.out]; rfl) (by rw [HX.out, HQ.out]; rfl) hgrow9 HVB.out)
            clear hown9 hgrow9 hat9 hlt9
            go_wp2_with fail
            exact ⟨⟨m + 1, hlt, by simp, HS.out⟩, by simp [intOf]; omega⟩))
      · have e32 : decide ((c.toNat : Int) < 32) = false := by simp; omega
        have e127 : ((c.toNat : Int) == 127) = false := by simp; omega
        have hqc : qcf c = [c] := by rw [qcf, if_neg h39, if_neg h92, if_neg h10, if_neg h13, if_neg h9, if_neg hx]
        have HQ := Lib.hid hqc
        clear h39 h92 h10 h13 h9 hx hqc
        go_wp2_with (at_builtin; go_must (refine wpList_append_own _ rfl _ _ 154 rfl H 5 i0 (.int .u8 0) 1 1 Tryz.underlying154 hi hz0 hz1 hz2 rfl (by decide) (.slice va n vc) n X rfl (ho.alloc _) ⟨wr.heap.size, 0, none⟩ 1 1 [.int .u8 c.toNat] rfl rfl ?c1 ?c2 ?c3 ?c4 ?c5 ?_))
        case c1 =>
          intro j u hj
          match j, hj with
          | 0, hj => simp at hj; subst hj; simp [Addr.add]
        case c2 => intro u hu; simp at hu; subst hu; rfl
        case c3 => unfold maxLen; omega
        case c4 => omega
        case c5 => simp; omega
        intro v' w1 hown' hgrow _
        have HS := Lib.hid (qz_step (HB.out.alloc hHs _) (by simp; omega) HC.out hown' (by rw [HN.out, HQ.out]; rfl) (by rw [HX.out, HQ.out]; rfl) hgrow HVB.out)
        clear hown' hgrow
        go_wp2_with fail
        exact ⟨⟨m + 1, hlt, by simp, HS.out⟩, by simp [intOf]; omega⟩
    · have hd : decide ((m : Int) < (t.size : Int)) = false := by simp; omega
      obtain rfl : m = t.size := by omega
      have hfin : qpre t t.size ++ [39] = quf t.data.toList := by
        unfold qpre quf
        rw [List.take_of_length_le (by rw [len_list]; exact Nat.le_refl _), List.cons_append]
      have HF := Lib.hid hfin
      clear hfin
      go_wp2_with (at_builtin; go_must (refine wpList_append_own _ rfl _ _ 154 rfl H 5 i0 (.int .u8 0) 1 1 Tryz.underlying154 hi hz0 hz1 hz2 rfl (by decide) (.slice va n vc) n X rfl (ho.alloc _) ⟨wr.heap.size, 0, none⟩ 1 1 [.int .u8 39] rfl rfl ?c1 ?c2 ?c3 ?c4 ?c5 ?_))
      case c1 =>
        intro j u hj
        match j, hj with
        | 0, hj => simp at hj; subst hj; simp [Addr.add]
      case c2 => intro u hu; simp at hu; subst hu; rfl
      case c3 => unfold maxLen; omega
      case c4 => omega
      case c5 => simp; omega
      intro v' w1 hown' hgrow _
      obtain ⟨va', vc', rfl⟩ := ownsRow_slice hown'
      have hb1 : Below H w w1 := (HB.out.alloc hHs _).grown hgrow (by simp; omega) HVB.out
      have hback := out_text (H := H) (w := w1) (l := quf t.data.toList) (n := n + 1) (by rw [← HF.out, List.map_append, HX.out]; exact hown') (by rw [← HF.out, List.length_append, HN.out]; rfl)
      have HB1 := Lib.hid hb1
      clear hown' hgrow hb1
      go_wp2_with fail
      go_ret
      exact ⟨rfl, by rw [HH.out]; exact HB1.out⟩
end Go.Proofs.YtolikaginhjbhaaGreatDoor
/- datum.Print, the reference's Print of a datum. -/
namespace Go.Proofs.YtolikaginhjbhaaGreatDoor
open Go.RowKit Go.Pen Go.Shelf
attribute [local go_sem] Oper.semAt_some

/-- a datum as it is written -/
def datW (d : Dat) : ByteArray :=
  if d.kind = 2 then ⟨(Lib.formatBool d.bool).toArray⟩ else if d.kind = 3 then ⟨(Lib.itoa d.int).toArray⟩ else if d.kind = 4 then ⟨(quf d.text.data.toList).toArray⟩ else ⟨#[110, 117, 108, 108]⟩

/-- what the variables hold -/
structure GlobP (w : World) : Prop where
  tabs : Lib.Utf8Tabs 1 2 w
  pow : Lib.TabIs Tryz.prog w "internal/strconv.uint64pow10" .u64 Lib.pow10Tab
  bits : w.cell? ⟨6, 15, none⟩ = some (.int .u8 4)
  big : 7 ≤ w.heap.size
theorem globP10 : Tryz.prog.globalNamed "internal/strconv.uint64pow10" = some 3 := by kernel_rfl
theorem GlobP.below {w w' : World} (h : GlobP w) (hb : Below w.heap.size w w') : GlobP w' := by
  have hs := hb.size
  have h7 := h.big
  refine ⟨tabs_below h.tabs hb (by omega), ?_, cell_keep hb h.bits, by omega⟩
  have hp := h.pow
  unfold Lib.TabIs World.var? at hp ⊢
  rw [globP10] at hp ⊢
  simp only [Option.bind_some] at hp ⊢
  rw [hb.block 3 (by omega)]
  exact hp

theorem ok_parts {d : Dat} (h : okD d = true) : (1 ≤ d.kind ∧ d.kind ≤ 4) ∧ d.text.size ≤ 1000 := by
  have h0 : chkD d = 0 := by simpa [okD] using h
  by_cases hk : 1 ≤ d.kind ∧ d.kind ≤ 4
  · refine ⟨hk, ?_⟩
    by_cases h1 : d.kind ≠ 2 ∧ d.bool = true
    · rw [chkD_13 (.inr (.inl h1))] at h0; cases h0
    by_cases h2 : d.kind ≠ 3 ∧ d.int ≠ 0
    · rw [chkD_13 (.inr (.inr (.inl h2)))] at h0; cases h0
    by_cases h3 : d.kind ≠ 4 ∧ ¬ d.text.toList = []
    · rw [chkD_13 (.inr (.inr (.inr (.inl h3))))] at h0; cases h0
    cases h4 : Lib.validD d.text.data.toList
    · rw [chkD_13 (.inr (.inr (.inr (.inr h4))))] at h0; cases h0
    rw [chkD_12 hk h1 h2 h3 h4] at h0
    split at h0
    · cases h0
    · omega
  · rw [chkD_13 (.inl (by omega))] at h0; cases h0

theorem below_grow (w : World) (os : Array Obj) (B : Nat) (hB : B ≤ w.heap.size) : Below B w (Go.Sort.grow w os) := by
  have key : ∀ (l : List Obj) (w : World), B ≤ w.heap.size → Below B w (Go.Sort.grow w l.toArray) := fun l => by
    induction l with
    | nil => intro w h; rw [Go.Sort.grow_empty]; exact Below.refl _ _
    | cons x xs ih =>
      intro w h
      have e : Go.Sort.grow w (x :: xs).toArray = Go.Sort.grow (w.alloc x) xs.toArray := by
        rw [Go.Sort.alloc_eq_grow, Go.Sort.grow_grow]; simp
      rw [e]
      exact ((Below.refl _ _).alloc h _).trans (ih _ (by simp; omega))
  have := key os.toList w hB
  simpa using this
theorem grow_drew_below {w : World} {k : Nat} {os : Array Obj} : Below w.heap.size w (Go.Sort.grow (w.drewN k) os) := (Go.Pen.below_drewN (Below.refl _ _)).trans (below_grow _ _ _ (by simp))

def dagg (d : Dat) : Value := .agg #[.int .u8 d.kind, .bool d.bool, .int .i64 d.int, .string d.text]
theorem chk_ok {d : Dat} (h : okD d = true) : chkD d = 0 := by simpa [okD] using h

set_option maxRecDepth 100000 in
set_option maxHeartbeats 2000000 in
theorem print_81 (d : Dat) (w : World) (hf : d.fits) (hok : okD d = true) (hG : GlobP w) :
    Calls Tryz.prog 81 #[dagg d] w fun e w' => e = .returned (.string (datW d)) ∧ Below w.heap.size w w' := by
  obtain ⟨⟨hk1, hk4⟩, hts⟩ := ok_parts hok
  have h54 := fun (W : World) (hb : Below w.heap.size w W) => check_54 d W hf (hG.below hb).tabs (by have := (hG.below hb).big; omega)
  have hfb := fun (W : World) => Tryz.strconv_FormatBool d.bool W
  have hfi := fun (W : World) (hb : Below w.heap.size w W) => Tryz.strconv_FormatInt_10 d.int hf.2.1.1 hf.2.1.2 W (hG.below hb).pow
  have hqu := fun (W : World) (hb : Below w.heap.size w W) => quotedF_70 d.text W hts (hG.below hb).big (hG.below hb).bits
  rw [chk_ok hok] at h54
  have H54 := Lib.hid h54
  have HFB := Lib.hid hfb
  have HFI := Lib.hid hfi
  have HQU := Lib.hid hqu
  obtain ⟨R, eR⟩ : ∃ R, R = datW d := ⟨_, rfl⟩
  rw [← eR]
  have ER := Lib.hid eR
  have HF := Lib.hid hf
  clear h54 hfb hfi hqu hf hok hG hts eR
  unfold dagg
  go_enter Tryz.func81, Tryz.ntmps81
  go_wp2_with fail
  refine (H54.out _ (one_below _ _)).mono ?_
  rintro ev w1 ⟨rfl, hb1⟩
  have k1 := one_at hb1
  have y0 := cell_of_heap (o := 0) k1 rfl
  have y1 := cell_of_heap (o := 1) k1 rfl
  have y2 := cell_of_heap (o := 2) k1 rfl
  have y3 := cell_of_heap (o := 3) k1 rfl
  have HB1 := Lib.hid ((one_below _ _).trans (hb1.mono (by simp)))
  clear hb1 k1 H54
  rcases (show d.kind = 1 ∨ d.kind = 2 ∨ d.kind = 3 ∨ d.kind = 4 by omega) with h | h | h | h
  · have hr : R = ⟨#[110, 117, 108, 108]⟩ := by rw [ER.out]; unfold datW; rw [if_neg (by omega), if_neg (by omega), if_neg (by omega)]
    rw [h] at y0
    subst hr
    go_wp2_with fail
    go_ret
    exact ⟨rfl, HB1.out⟩
  · have hr : R = ⟨(Lib.formatBool d.bool).toArray⟩ := by rw [ER.out]; unfold datW; rw [if_pos h]
    rw [h] at y0
    subst hr
    go_wp2_with fail
    refine (HFB.out _).mono ?_
    rintro ev w2 ⟨rfl, rfl⟩
    go_wp2_with fail
    go_ret
    exact ⟨rfl, HB1.out⟩
  · have hr : R = ⟨(Lib.itoa d.int).toArray⟩ := by rw [ER.out]; unfold datW; rw [if_neg (by omega), if_pos h]
    rw [h] at y0
    subst hr
    go_wp2_with fail
    refine (HFI.out _ HB1.out).mono ?_
    rintro ev w2 ⟨rfl, k, os, hw2⟩
    have hb2 : Below w1.heap.size w1 w2 := by rw [hw2]; exact grow_drew_below
    have HB2 := Lib.hid (HB1.out.trans (hb2.mono HB1.out.size))
    clear hw2 hb2
    go_wp2_with fail
    go_ret
    exact ⟨rfl, HB2.out⟩
  · have hr : R = ⟨(quf d.text.data.toList).toArray⟩ := by rw [ER.out]; unfold datW; rw [if_neg (by omega), if_neg (by omega), if_pos h]
    rw [h] at y0
    subst hr
    go_wp2_with fail
    refine (HQU.out _ HB1.out).mono ?_
    rintro ev w2 ⟨rfl, hb2⟩
    have HB2 := Lib.hid (HB1.out.trans (hb2.mono HB1.out.size))
    clear hb2
    go_wp2_with fail
    go_ret
    exact ⟨rfl, HB2.out⟩

theorem u64_in (z : Int) (h : 0 ≤ z ∧ z < 18446744073709551616) : IntKind.u64.wrap z = z := by
  simp [IntKind.wrap, IntKind.bits, IntKind.signed]
  omega
theorem itoa_neg' (u : Nat) (h : 1 ≤ u) : (⟨#[45]⟩ : ByteArray) ++ ⟨(Lib.itoa (u : Int)).toArray⟩ = ⟨(Lib.itoa (-(u : Int))).toArray⟩ := by
  rw [Lib.itoa_neg u h, Lib.itoa_nonneg u]
  apply ByteArray.ext
  simp

set_option maxRecDepth 100000 in
set_option maxHeartbeats 2000000 in
theorem rprint_115 (d : Dat) (w : World) (hf : d.fits) (hok : okD d = true) :
    Calls Tryz.prog 115 #[dagg d] w fun e w' => e = .returned (.string (datW d)) ∧ Below w.heap.size w w' := by
  obtain ⟨⟨hk1, hk4⟩, hts⟩ := ok_parts hok
  have h54 := fun (W : World) => check_105 d W hf
  have hqu := fun (W : World) => quoted_29 d.text W hts
  have hdg := fun (u : Nat) (hu : u ≤ 9223372036854775808) (W : World) => digits_30 u hu W
  rw [chk_ok hok] at h54
  have H54 := Lib.hid h54
  have HQU := Lib.hid hqu
  have HDG := Lib.hid hdg
  obtain ⟨R, eR⟩ : ∃ R, R = datW d := ⟨_, rfl⟩
  rw [← eR]
  have ER := Lib.hid eR
  have hn := hf.2.1
  clear h54 hqu hdg hf hok hts eR
  unfold dagg
  go_enter Tryz.func115, Tryz.ntmps115
  go_wp2_with fail
  refine (H54.out _).mono ?_
  rintro ev w1 ⟨rfl, hb1⟩
  have k1 := one_at hb1
  have y0 := cell_of_heap (o := 0) k1 rfl
  have y1 := cell_of_heap (o := 1) k1 rfl
  have y2 := cell_of_heap (o := 2) k1 rfl
  have y3 := cell_of_heap (o := 3) k1 rfl
  have HB1 := Lib.hid ((one_below _ _).trans (hb1.mono (by simp)))
  clear hb1 k1 H54
  rcases (show d.kind = 1 ∨ d.kind = 2 ∨ d.kind = 3 ∨ d.kind = 4 by omega) with h | h | h | h
  · have hr : R = ⟨#[110, 117, 108, 108]⟩ := by rw [ER.out]; unfold datW; rw [if_neg (by omega), if_neg (by omega), if_neg (by omega)]
    rw [h] at y0
    subst hr
    go_wp2_with fail
    go_ret
    exact ⟨rfl, HB1.out⟩
  · have hr : R = ⟨(Lib.formatBool d.bool).toArray⟩ := by rw [ER.out]; unfold datW; rw [if_pos h]
    rw [h] at y0
    cases hb : d.bool
    all_goals
      rw [hb] at y1 hr
      subst hr
      go_wp2_with fail
      go_ret
      exact ⟨rfl, HB1.out⟩
  · have hr : R = ⟨(Lib.itoa d.int).toArray⟩ := by rw [ER.out]; unfold datW; rw [if_neg (by omega), if_pos h]
    rw [h] at y0
    obtain ⟨n, en⟩ : ∃ n, n = d.int := ⟨_, rfl⟩
    rw [← en] at y2 hr hn
    clear en
    subst hr
    by_cases hneg : n < 0
    · obtain ⟨u, rfl⟩ : ∃ u : Nat, n = -(u : Int) := ⟨n.natAbs, by omega⟩
      have w1' : IntKind.i64.wrap (-(u : Int) + 1) = -(u : Int) + 1 := IntWalk.i64_in _ (by omega)
      have w2' : IntKind.i64.wrap (-(-(u : Int) + 1)) = -(-(u : Int) + 1) := IntWalk.i64_in _ (by omega)
      have w3' : IntKind.u64.wrap (-(-(u : Int) + 1)) = -(-(u : Int) + 1) := u64_in _ (by omega)
      have w4' : IntKind.u64.wrap (-(-(u : Int) + 1) + 1) = (u : Int) := by rw [u64_in _ (by omega)]; omega
      have hc := HDG.out u (by omega) w1
      have HC := Lib.hid hc
      have hadd : ¬ (9223372036854775807 < (⟨#[45]⟩ : ByteArray).size + (⟨(Lib.itoa (u : Int)).toArray⟩ : ByteArray).size) := by
        have := Lib.itoa_length_le (-(u : Int)) (by omega) (by omega)
        rw [Lib.itoa_neg u (by omega)] at this
        rw [Lib.itoa_nonneg]
        simp only [List.length_cons] at this
        simp [ByteArray.size]
        omega
      have HU := Lib.hid (itoa_neg' u (by omega))
      clear hc
      go_wp2_with fail
      refine HC.out.mono ?_
      rintro ev w2 ⟨rfl, hb2⟩
      have HB2 := Lib.hid (HB1.out.trans (hb2.mono HB1.out.size))
      clear hb2
      go_wp2_with fail
      go_ret
      exact ⟨by rw [← HU.out]; rfl, HB2.out⟩
    · obtain ⟨u, rfl⟩ : ∃ u : Nat, n = (u : Int) := ⟨n.toNat, by omega⟩
      have w3' : IntKind.u64.wrap (u : Int) = (u : Int) := u64_in _ (by omega)
      have hc := HDG.out u (by omega) w1
      have HC := Lib.hid hc
      clear hc
      go_wp2_with fail
      refine HC.out.mono ?_
      rintro ev w2 ⟨rfl, hb2⟩
      have HB2 := Lib.hid (HB1.out.trans (hb2.mono HB1.out.size))
      clear hb2
      go_wp2_with fail
      go_ret
      exact ⟨rfl, HB2.out⟩
  · have hr : R = ⟨(quf d.text.data.toList).toArray⟩ := by rw [ER.out]; unfold datW; rw [if_neg (by omega), if_neg (by omega), if_pos h]
    rw [h] at y0
    subst hr
    go_wp2_with fail
    refine (HQU.out _).mono ?_
    rintro ev w2 ⟨rfl, hb2⟩
    have HB2 := Lib.hid (HB1.out.trans (hb2.mono HB1.out.size))
    clear hb2
    go_wp2_with fail
    go_ret
    exact ⟨rfl, HB2.out⟩
end Go.Proofs.YtolikaginhjbhaaGreatDoor
