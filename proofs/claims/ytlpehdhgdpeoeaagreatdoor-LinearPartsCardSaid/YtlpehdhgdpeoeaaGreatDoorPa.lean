import Derived.Test.YtlpehdhgdpeoeaaGreatDoorLm
import Derived.Laws.BytesArg
import Derived.Test.YtlpehdhgdpeoeaaGreatDoorMd
import Derived.Test.YtlpehdhgdpeoeaaGreatDoorMp
/- row.put, the reference's bytes: a datum's bytes. -/
namespace Go.Proofs.YtlpehdhgdpeoeaaGreatDoor
open Go.RowKit Go.Pen Go.Shelf
attribute [local go_sem] Oper.semAt_some

theorem info5 : (Tryz.prog.info? 5).map (fun i => (i.zero, i.size, i.bytes)) = some (some (.int .u8 0), 1, 1) := by kernel_rfl
/-- a number's bytes -/
def encI (n : Int) : List Int := (List.range 8).map fun i => (n + 9223372036854775808) / 2 ^ (56 - 8 * i) % 256
def encC (c : UInt8) : List Int := if c = 0 then [0, 255] else [(c.toNat : Int)]
/-- a datum's bytes -/
def encD (d : Dat) : List Int :=
  if d.kind = 1 then [16] else if d.kind = 2 then [if d.bool = true then 33 else 32] else if d.kind = 3 then 48 :: encI d.int else if d.kind = 4 then 64 :: (d.text.data.toList.flatMap encC ++ [0, 1]) else []
/-- bytes as values -/
def bv (x : Int) : Value := .int .u8 x
theorem okD_size {d : Dat} (h : okD d = true) : d.text.size ≤ 1000 := by
  have h := (show chkD d = 0 by simpa [okD] using h)
  unfold chkD at h
  split at h
  · cases h
  · split at h
    · cases h
    · split at h
      · cases h
      · split at h
        · cases h
        · omega
/-- the bytes behind i of a text's -/
def encP (t : ByteArray) (i : Nat) : List Int := 64 :: (t.data.toList.take i).flatMap encC
theorem encP_snoc {t : ByteArray} {i : Nat} {c : UInt8} (h : t.data.toList[i]? = some c) : encP t (i + 1) = encP t i ++ encC c := by
  unfold encP
  rw [List.take_add_one, h, List.flatMap_append]
  simp
theorem encC_len (c : UInt8) : (encC c).length ≤ 2 := by unfold encC; split <;> simp
theorem encP_len (t : ByteArray) (i : Nat) : (encP t i).length ≤ 1 + 2 * i := by
  have : ∀ l : List UInt8, (l.flatMap encC).length ≤ 2 * l.length := by
    intro l
    induction l with
    | nil => simp
    | cons c l ih => have := encC_len c; simp only [List.flatMap_cons, List.length_append, List.length_cons]; omega
  have h1 := this (t.data.toList.take i)
  have h2 := List.length_take_le i t.data.toList
  unfold encP
  rw [List.length_cons]
  omega
theorem wrap_enc {n : Int} (h : -9223372036854775808 ≤ n ∧ n ≤ 9223372036854775807) : IntKind.u64.wrap (IntKind.u64.wrap n + 9223372036854775808) = n + 9223372036854775808 := by
  simp only [IntKind.wrap_u64]
  omega
theorem World.ownsRow.lower {w : World} {B base e size n : Nat} {v : Value} {xs : List Value} (hB : B ≤ base) (h : w.ownsRow base e size v n xs) : w.ownsRow B e size v n xs := by
  refine ⟨h.1, ?_⟩
  rcases h.2 with hn | ⟨g, cap, cur, rfl, hb, rest⟩
  · exact .inl hn
  · exact .inr ⟨g, cap, cur, rfl, by omega, rest⟩

set_option maxRecDepth 100000 in
set_option maxHeartbeats 2000000 in
theorem put_53 (d : Dat) (w : World) (fd : d.fits) (hk : okD d = true) :
    Calls Tryz.prog 53 #[.slice none 0 0, d.agg] w fun e w' => ∃ v, e = .returned v ∧ w'.ownsRow w.heap.size 5 1 v (encD d).length ((encD d).map bv) ∧ Below w.heap.size w w' := by
  obtain ⟨i0, hi0, hz0, hz1, hz2⟩ := info_parts info5
  obtain ⟨k, bo, n, t⟩ := d
  obtain ⟨hk1, -⟩ := okD_parts hk
  obtain ⟨-, hn64, ht64⟩ := fd
  simp only at hn64 ht64
  unfold Dat.agg
  simp only at hk1 ⊢
  by_cases k1 : k = 1
  · subst k1
    obtain ⟨w1, hw1⟩ : ∃ w1, w1 = w.alloc (.cells #[.int .u8 1, .bool bo, .int .i64 n, .string t] 55) := ⟨_, rfl⟩
    have HW1 := Lib.hid (show Below w.heap.size w w1 by rw [hw1]; exact one_below _ _)
    have hbx : w1.heap[w.heap.size]? = some (.cells #[.int .u8 1, .bool bo, .int .i64 n, .string t] 55 (0, 0)) := by rw [hw1]; exact heap_alloc_new _ _
    have HBX := Lib.hid hbx
    have HB1 := Lib.hid (Below.refl w1.heap.size w1)
    have b0 := cell_of_heap (o := 0) hbx rfl
    have b1 := cell_of_heap (o := 1) hbx rfl
    have b2 := cell_of_heap (o := 2) hbx rfl
    have b3 := cell_of_heap (o := 3) hbx rfl
    have hs1 := HW1.out.size
    clear hbx
    go_enter Tryz.func53, Tryz.ntmps53
    go_upto_region 1 with fail
    rw [← hw1]
    clear hw1
    go_wp2_with (at_builtin; go_must (refine wpList_append_own _ rfl _ _ 96 rfl w1.heap.size 5 i0 (.int .u8 0) 1 1 Tryz.underlying96 hi0 hz0 hz1 hz2 rfl (by decide) _ 0 _ rfl (World.ownsRow_nil _ _ _ _) ⟨w1.heap.size, 0, none⟩ 1 1 [.int .u8 16] rfl rfl (World.news_of_block (cs := #[.int .u8 16]) (heap_alloc_new _ _)) (by intro u hu; simp at hu; (first | subst hu | (rcases hu with rfl | rfl)) <;> rfl) (by unfold maxLen; omega) (by omega) (by simp <;> omega) ?_))
    intro v2 w2 hown hgrow _
    obtain ⟨va2, vc2, rfl⟩ := ownsRow_slice hown
    have HB2 := Lib.hid ((HB1.out.alloc HB1.out.size (.cells #[.int .u8 16] 5)).grown hgrow (by have := HB1.out.size; simp <;> omega) (fun q hq => (by cases hq)))
    have HO2 := Lib.hid hown
    have hs2 := HB2.out.size
    clear hown hgrow
    go_wp2
    go_ret
    exact ⟨_, rfl, by rw [show encD ⟨1, bo, n, t⟩ = [16] from rfl]; exact World.ownsRow.lower HW1.out.size HO2.out, HW1.out.trans (HB2.out.mono HW1.out.size)⟩
  by_cases k2 : k = 2
  · subst k2
    rcases bo with _ | _
    · obtain ⟨w1, hw1⟩ : ∃ w1, w1 = w.alloc (.cells #[.int .u8 2, .bool false, .int .i64 n, .string t] 55) := ⟨_, rfl⟩
      have HW1 := Lib.hid (show Below w.heap.size w w1 by rw [hw1]; exact one_below _ _)
      have hbx : w1.heap[w.heap.size]? = some (.cells #[.int .u8 2, .bool false, .int .i64 n, .string t] 55 (0, 0)) := by rw [hw1]; exact heap_alloc_new _ _
      have HBX := Lib.hid hbx
      have HB1 := Lib.hid (Below.refl w1.heap.size w1)
      have b0 := cell_of_heap (o := 0) hbx rfl
      have b1 := cell_of_heap (o := 1) hbx rfl
      have b2 := cell_of_heap (o := 2) hbx rfl
      have b3 := cell_of_heap (o := 3) hbx rfl
      have hs1 := HW1.out.size
      clear hbx
      go_enter Tryz.func53, Tryz.ntmps53
      go_upto_region 1 with fail
      rw [← hw1]
      clear hw1
      go_wp2_with (at_builtin; go_must (refine wpList_append_own _ rfl _ _ 96 rfl w1.heap.size 5 i0 (.int .u8 0) 1 1 Tryz.underlying96 hi0 hz0 hz1 hz2 rfl (by decide) _ 0 _ rfl (World.ownsRow_nil _ _ _ _) ⟨w1.heap.size, 0, none⟩ 1 1 [.int .u8 32] rfl rfl (World.news_of_block (cs := #[.int .u8 32]) (heap_alloc_new _ _)) (by intro u hu; simp at hu; (first | subst hu | (rcases hu with rfl | rfl)) <;> rfl) (by unfold maxLen; omega) (by omega) (by simp <;> omega) ?_))
      intro v2 w2 hown hgrow _
      obtain ⟨va2, vc2, rfl⟩ := ownsRow_slice hown
      have HB2 := Lib.hid ((HB1.out.alloc HB1.out.size (.cells #[.int .u8 32] 5)).grown hgrow (by have := HB1.out.size; simp <;> omega) (fun q hq => (by cases hq)))
      have HO2 := Lib.hid hown
      have hs2 := HB2.out.size
      clear hown hgrow
      go_wp2
      go_ret
      exact ⟨_, rfl, by rw [show encD ⟨2, false, n, t⟩ = [32] from rfl]; exact World.ownsRow.lower HW1.out.size HO2.out, HW1.out.trans (HB2.out.mono HW1.out.size)⟩
    · obtain ⟨w1, hw1⟩ : ∃ w1, w1 = w.alloc (.cells #[.int .u8 2, .bool true, .int .i64 n, .string t] 55) := ⟨_, rfl⟩
      have HW1 := Lib.hid (show Below w.heap.size w w1 by rw [hw1]; exact one_below _ _)
      have hbx : w1.heap[w.heap.size]? = some (.cells #[.int .u8 2, .bool true, .int .i64 n, .string t] 55 (0, 0)) := by rw [hw1]; exact heap_alloc_new _ _
      have HBX := Lib.hid hbx
      have HB1 := Lib.hid (Below.refl w1.heap.size w1)
      have b0 := cell_of_heap (o := 0) hbx rfl
      have b1 := cell_of_heap (o := 1) hbx rfl
      have b2 := cell_of_heap (o := 2) hbx rfl
      have b3 := cell_of_heap (o := 3) hbx rfl
      have hs1 := HW1.out.size
      clear hbx
      go_enter Tryz.func53, Tryz.ntmps53
      go_upto_region 1 with fail
      rw [← hw1]
      clear hw1
      go_wp2_with (at_builtin; go_must (refine wpList_append_own _ rfl _ _ 96 rfl w1.heap.size 5 i0 (.int .u8 0) 1 1 Tryz.underlying96 hi0 hz0 hz1 hz2 rfl (by decide) _ 0 _ rfl (World.ownsRow_nil _ _ _ _) ⟨w1.heap.size, 0, none⟩ 1 1 [.int .u8 33] rfl rfl (World.news_of_block (cs := #[.int .u8 33]) (heap_alloc_new _ _)) (by intro u hu; simp at hu; (first | subst hu | (rcases hu with rfl | rfl)) <;> rfl) (by unfold maxLen; omega) (by omega) (by simp <;> omega) ?_))
      intro v2 w2 hown hgrow _
      obtain ⟨va2, vc2, rfl⟩ := ownsRow_slice hown
      have HB2 := Lib.hid ((HB1.out.alloc HB1.out.size (.cells #[.int .u8 33] 5)).grown hgrow (by have := HB1.out.size; simp <;> omega) (fun q hq => (by cases hq)))
      have HO2 := Lib.hid hown
      have hs2 := HB2.out.size
      clear hown hgrow
      go_wp2
      go_ret
      exact ⟨_, rfl, by rw [show encD ⟨2, true, n, t⟩ = [33] from rfl]; exact World.ownsRow.lower HW1.out.size HO2.out, HW1.out.trans (HB2.out.mono HW1.out.size)⟩
  by_cases k3 : k = 3
  · subst k3
    obtain ⟨w1, hw1⟩ : ∃ w1, w1 = w.alloc (.cells #[.int .u8 3, .bool bo, .int .i64 n, .string t] 55) := ⟨_, rfl⟩
    have HW1 := Lib.hid (show Below w.heap.size w w1 by rw [hw1]; exact one_below _ _)
    have hbx : w1.heap[w.heap.size]? = some (.cells #[.int .u8 3, .bool bo, .int .i64 n, .string t] 55 (0, 0)) := by rw [hw1]; exact heap_alloc_new _ _
    have HBX := Lib.hid hbx
    have HB1 := Lib.hid (Below.refl w1.heap.size w1)
    have b0 := cell_of_heap (o := 0) hbx rfl
    have b1 := cell_of_heap (o := 1) hbx rfl
    have b2 := cell_of_heap (o := 2) hbx rfl
    have b3 := cell_of_heap (o := 3) hbx rfl
    have hs1 := HW1.out.size
    clear hbx
    go_enter Tryz.func53, Tryz.ntmps53
    go_upto_region 1 with fail
    rw [← hw1]
    clear hw1
    go_wp2_with (at_builtin; go_must (refine wpList_append_own _ rfl _ _ 96 rfl w1.heap.size 5 i0 (.int .u8 0) 1 1 Tryz.underlying96 hi0 hz0 hz1 hz2 rfl (by decide) _ 0 _ rfl (World.ownsRow_nil _ _ _ _) ⟨w1.heap.size, 0, none⟩ 1 1 [.int .u8 48] rfl rfl (World.news_of_block (cs := #[.int .u8 48]) (heap_alloc_new _ _)) (by intro u hu; simp at hu; (first | subst hu | (rcases hu with rfl | rfl)) <;> rfl) (by unfold maxLen; omega) (by omega) (by simp <;> omega) ?_))
    intro v2 w2 hown hgrow _
    obtain ⟨va2, vc2, rfl⟩ := ownsRow_slice hown
    have HB2 := Lib.hid ((HB1.out.alloc HB1.out.size (.cells #[.int .u8 48] 5)).grown hgrow (by have := HB1.out.size; simp <;> omega) (fun q hq => (by cases hq)))
    have HO2 := Lib.hid hown
    have hs2 := HB2.out.size
    clear hown hgrow
    have HI := Lib.hid (show (encI n).length = 8 by simp [encI])
    have hw0 : IntKind.u64.wrap (IntKind.u64.wrap n + 9223372036854775808) = n + 9223372036854775808 := wrap_enc hn64
    have b2a := cell_keep HB2.out b2
    go_wp2_with fail
    go_loopg [0, 5] 9 (fun g q0 q5 wr => ∃ i : Nat, i ≤ 8 ∧ g = 9 - i ∧ q5 = .int .i64 (56 - 8 * i) ∧ wr.ownsRow w1.heap.size 5 1 q0 (1 + i) ((48 :: (encI n).take i).map bv) ∧ Below w1.heap.size w1 wr)
    case atStart => exact ⟨0, Nat.zero_le _, rfl, rfl, HO2.out, HB2.out⟩
    case round =>
      obtain ⟨i, hi, hgi, rfl, hown, hbr⟩ := hrel
      obtain ⟨oa, oc, rfl⟩ := ownsRow_slice hown
      obtain ⟨XS, hXS⟩ : ∃ XS, XS = (48 :: (encI n).take i).map bv := ⟨_, rfl⟩
      rw [← hXS] at hown
      have HXS := Lib.hid hXS
      have HOW := Lib.hid hown
      have HBR := Lib.hid hbr
      have hsr := hbr.size
      have b2 := cell_keep hbr b2
      clear hown hbr hXS
      by_cases hlt : i < 8
      · have hge : (0 : Int) ≤ 56 - 8 * (i : Int) := by omega
        obtain ⟨x, hx⟩ : ∃ x, (n + 9223372036854775808) / 2 ^ (56 - 8 * i) % 256 = x := ⟨_, rfl⟩
        have hxi : (encI n)[i]? = some x := by rw [← hx, encI, List.getElem?_map, List.getElem?_range hlt]; rfl
        have HXI := Lib.hid hxi
        clear hxi
        go_wp2_with (at_builtin; go_must (refine wpList_append_own _ rfl _ _ 96 rfl w1.heap.size 5 i0 (.int .u8 0) 1 1 Tryz.underlying96 hi0 hz0 hz1 hz2 rfl (by decide) _ (1 + i) _ rfl (HOW.out.alloc _) ⟨wr.heap.size, 0, none⟩ 1 1 [.int .u8 x] rfl rfl (World.news_of_block (cs := #[.int .u8 x]) (heap_alloc_new _ _)) (by intro u hu; simp at hu; (first | subst hu | (rcases hu with rfl | rfl)) <;> rfl) (by unfold maxLen; omega) (by omega) (by simp <;> omega) ?_))
        intro v5 w5 hown5 hgrow5 _
        have hb5 : Below w1.heap.size w1 w5 := (HBR.out.alloc HBR.out.size (.cells #[.int .u8 x] 5)).grown hgrow5 (by simp <;> omega) (fun q hq => (HOW.out.lt q hq).1)
        have hxs : (48 :: (encI n).take (i + 1)).map bv = XS ++ [.int .u8 x] := by rw [HXS.out, List.take_add_one, HXI.out]; simp [bv]
        rw [← hxs] at hown5
        have HB5 := Lib.hid hb5
        have HO5 := Lib.hid hown5
        clear hown5 hgrow5 hb5 hxs
        go_wp2
        go_roundg (9 - (i + 1))
        case measure => omega
        case rel => exact ⟨i + 1, by omega, rfl, by first | rfl | (go_num) | (congr 1; omega), HO5.out, HB5.out⟩
      · have hie : i = 8 := by omega
        subst hie
        have hge : ¬ (0 : Int) ≤ 56 - 8 * ((8 : Nat) : Int) := by omega
        have how := HOW.out
        rw [HXS.out, List.take_of_length_le (by rw [HI.out]; exact Nat.le_refl _)] at how
        have hln : (encD ⟨3, bo, n, t⟩).length = 1 + 8 := by show (encI n).length + 1 = 1 + 8; rw [HI.out]
        have HOW2 := Lib.hid how
        have HLN := Lib.hid hln
        clear how hln
        go_wp2_with fail
        go_ret
        exact ⟨_, rfl, by rw [HLN.out]; exact World.ownsRow.lower HW1.out.size HOW2.out, HW1.out.trans (HBR.out.mono HW1.out.size)⟩
  have k4 : k = 4 := by omega
  subst k4
  obtain ⟨w1, hw1⟩ : ∃ w1, w1 = w.alloc (.cells #[.int .u8 4, .bool bo, .int .i64 n, .string t] 55) := ⟨_, rfl⟩
  have HW1 := Lib.hid (show Below w.heap.size w w1 by rw [hw1]; exact one_below _ _)
  have hbx : w1.heap[w.heap.size]? = some (.cells #[.int .u8 4, .bool bo, .int .i64 n, .string t] 55 (0, 0)) := by rw [hw1]; exact heap_alloc_new _ _
  have HBX := Lib.hid hbx
  have HB1 := Lib.hid (Below.refl w1.heap.size w1)
  have b0 := cell_of_heap (o := 0) hbx rfl
  have b1 := cell_of_heap (o := 1) hbx rfl
  have b2 := cell_of_heap (o := 2) hbx rfl
  have b3 := cell_of_heap (o := 3) hbx rfl
  have hs1 := HW1.out.size
  clear hbx
  go_enter Tryz.func53, Tryz.ntmps53
  go_upto_region 1 with fail
  rw [← hw1]
  clear hw1
  go_wp2_with (at_builtin; go_must (refine wpList_append_own _ rfl _ _ 96 rfl w1.heap.size 5 i0 (.int .u8 0) 1 1 Tryz.underlying96 hi0 hz0 hz1 hz2 rfl (by decide) _ 0 _ rfl (World.ownsRow_nil _ _ _ _) ⟨w1.heap.size, 0, none⟩ 1 1 [.int .u8 64] rfl rfl (World.news_of_block (cs := #[.int .u8 64]) (heap_alloc_new _ _)) (by intro u hu; simp at hu; (first | subst hu | (rcases hu with rfl | rfl)) <;> rfl) (by unfold maxLen; omega) (by omega) (by simp <;> omega) ?_))
  intro v2 w2 hown hgrow _
  obtain ⟨va2, vc2, rfl⟩ := ownsRow_slice hown
  have HB2 := Lib.hid ((HB1.out.alloc HB1.out.size (.cells #[.int .u8 64] 5)).grown hgrow (by have := HB1.out.size; simp <;> omega) (fun q hq => (by cases hq)))
  have HO2 := Lib.hid hown
  have hs2 := HB2.out.size
  clear hown hgrow
  have ht1 : t.size ≤ 1000 := okD_size hk
  have b3a := cell_keep HB2.out b3
  go_wp2_with fail
  go_loopg [0, 52] t.size (fun g q0 q5 wr => ∃ i : Nat, i ≤ t.size ∧ g = t.size - i ∧ q5 = .int .i64 i ∧ wr.ownsRow w1.heap.size 5 1 q0 (encP t i).length ((encP t i).map bv) ∧ Below w1.heap.size w1 wr)
  case atStart => exact ⟨0, Nat.zero_le _, rfl, rfl, HO2.out, HB2.out⟩
  case round =>
    obtain ⟨i, hi, hgi, rfl, hown, hbr⟩ := hrel
    obtain ⟨M, hM⟩ : ∃ M, M = (encP t i).length := ⟨_, rfl⟩
    obtain ⟨XS, hXS⟩ : ∃ XS, XS = (encP t i).map bv := ⟨_, rfl⟩
    have hml := encP_len t i
    rw [← hM] at hml
    rw [← hXS, ← hM] at hown
    obtain ⟨oa, oc, rfl⟩ := ownsRow_slice hown
    have HXS := Lib.hid hXS
    have HM := Lib.hid hM
    have HOW := Lib.hid hown
    have HBR := Lib.hid hbr
    have hsr := hbr.size
    have b3 := cell_keep hbr b3
    clear hown hbr hXS hM
    by_cases hlt : i < t.size
    · obtain ⟨c, cs, hcs, -⟩ := drop_cons hlt
      have hget := get_of_drop hcs hlt
      have hc : t.data.toList[i]? = some c := by
        have := congrArg List.head? hcs
        simpa [List.head?_drop] using this
      have HC := Lib.hid hc
      clear hc hcs
      by_cases hz : c = 0
      · have hcz : (c.toNat : Int) = 0 := by rw [hz]; rfl
        have hxs : encP t (i + 1) = encP t i ++ [0, 255] := by rw [encP_snoc HC.out, encC, if_pos hz]
        have HXX := Lib.hid hxs
        have HZ := Lib.hid hz
        clear hxs hz
        go_wp2_with (at_builtin; go_must (refine wpList_append_own _ rfl _ _ 96 rfl w1.heap.size 5 i0 (.int .u8 0) 1 1 Tryz.underlying96 hi0 hz0 hz1 hz2 rfl (by decide) _ M _ rfl (HOW.out.alloc _) ⟨wr.heap.size, 0, none⟩ 1 1 [.int .u8 0] rfl rfl (World.news_of_block (cs := #[.int .u8 0]) (heap_alloc_new _ _)) (by intro u hu; simp at hu; (first | subst hu | (rcases hu with rfl | rfl)) <;> rfl) (by unfold maxLen; omega) (by omega) (by simp <;> omega) ?_))
        intro v5 w5 hown5 hgrow5 _
        obtain ⟨va5, vc5, rfl⟩ := ownsRow_slice hown5
        have hb5 : Below w1.heap.size w1 w5 := (HBR.out.alloc HBR.out.size (.cells #[.int .u8 0] 5)).grown hgrow5 (by simp <;> omega) (fun q hq => (HOW.out.lt q hq).1)
        have HB5 := Lib.hid hb5
        have HO5 := Lib.hid hown5
        have hs5 := hb5.size
        have b3 := cell_keep hb5 (cell_of_heap (o := 3) (keepB HBX.out HB1.out) rfl)
        clear hown5 hgrow5 hb5
        go_wp2_with (at_builtin; go_must (refine wpList_append_own _ rfl _ _ 96 rfl w1.heap.size 5 i0 (.int .u8 0) 1 1 Tryz.underlying96 hi0 hz0 hz1 hz2 rfl (by decide) _ (M + 1) _ rfl (HO5.out.alloc _) ⟨w5.heap.size, 0, none⟩ 1 1 [.int .u8 255] rfl rfl (World.news_of_block (cs := #[.int .u8 255]) (heap_alloc_new _ _)) (by intro u hu; simp at hu; (first | subst hu | (rcases hu with rfl | rfl)) <;> rfl) (by unfold maxLen; omega) (by omega) (by simp <;> omega) ?_))
        intro v6 w6 hown6 hgrow6 _
        have hb6 : Below w1.heap.size w1 w6 := (HB5.out.alloc HB5.out.size (.cells #[.int .u8 255] 5)).grown hgrow6 (by simp <;> omega) (fun q hq => (HO5.out.lt q hq).1)
        have hown7 : w6.ownsRow w1.heap.size 5 1 v6 (encP t (i + 1)).length ((encP t (i + 1)).map bv) := by
          rw [HXX.out, List.map_append, ← HXS.out, List.length_append, ← HM.out]
          exact hown6
        have HB6 := Lib.hid hb6
        have HO7 := Lib.hid hown7
        clear hown6 hgrow6 hb6 hown7
        go_wp2
        go_roundg (t.size - (i + 1))
        case measure => omega
        case rel => exact ⟨i + 1, by omega, rfl, by go_num, HO7.out, HB6.out⟩
      · have hcz : ¬ (c.toNat : Int) = 0 := fun h => hz (UInt8.toNat_inj.1 (by show c.toNat = 0; omega))
        have hxs : encP t (i + 1) = encP t i ++ [(c.toNat : Int)] := by rw [encP_snoc HC.out, encC, if_neg hz]
        have HXX := Lib.hid hxs
        clear hxs hz
        go_wp2_with (at_builtin; go_must (refine wpList_append_own _ rfl _ _ 96 rfl w1.heap.size 5 i0 (.int .u8 0) 1 1 Tryz.underlying96 hi0 hz0 hz1 hz2 rfl (by decide) _ M _ rfl (HOW.out.alloc _) ⟨wr.heap.size, 0, none⟩ 1 1 [.int .u8 c.toNat] rfl rfl (World.news_of_block (cs := #[.int .u8 c.toNat]) (heap_alloc_new _ _)) (by intro u hu; simp at hu; (first | subst hu | (rcases hu with rfl | rfl)) <;> rfl) (by unfold maxLen; omega) (by omega) (by simp <;> omega) ?_))
        intro v5 w5 hown5 hgrow5 _
        obtain ⟨va5, vc5, rfl⟩ := ownsRow_slice hown5
        have hb5 : Below w1.heap.size w1 w5 := (HBR.out.alloc HBR.out.size (.cells #[.int .u8 c.toNat] 5)).grown hgrow5 (by simp <;> omega) (fun q hq => (HOW.out.lt q hq).1)
        have hown7 : w5.ownsRow w1.heap.size 5 1 (.slice va5 (M + 1) vc5) (encP t (i + 1)).length ((encP t (i + 1)).map bv) := by
          rw [HXX.out, List.map_append, ← HXS.out, List.length_append, ← HM.out]
          exact hown5
        have HB5 := Lib.hid hb5
        have HO7 := Lib.hid hown7
        have hs5 := hb5.size
        have b3 := cell_keep hb5 (cell_of_heap (o := 3) (keepB HBX.out HB1.out) rfl)
        clear hown5 hgrow5 hb5 hown7
        go_wp2_with fail
        go_roundg (t.size - (i + 1))
        case measure => omega
        case rel => exact ⟨i + 1, by omega, rfl, by go_num, HO7.out, HB5.out⟩
    · have hie : i = t.size := by omega
      subst hie
      have hv : encD ⟨4, bo, n, t⟩ = encP t t.size ++ [0, 1] := by
        show 64 :: (t.data.toList.flatMap encC ++ [0, 1]) = 64 :: (t.data.toList.take t.size).flatMap encC ++ [0, 1]
        rw [List.take_of_length_le (by rw [len_list]; exact Nat.le_refl _)]; rfl
      have HV := Lib.hid hv
      clear hv
      go_wp2_with (at_builtin; go_must (refine wpList_append_own _ rfl _ _ 96 rfl w1.heap.size 5 i0 (.int .u8 0) 1 1 Tryz.underlying96 hi0 hz0 hz1 hz2 rfl (by decide) _ M _ rfl (HOW.out.alloc _) ⟨wr.heap.size, 0, none⟩ 2 2 [.int .u8 0, .int .u8 1] rfl rfl (World.news_of_block (cs := #[.int .u8 0, .int .u8 1]) (heap_alloc_new _ _)) (by intro u hu; simp at hu; (first | subst hu | (rcases hu with rfl | rfl)) <;> rfl) (by unfold maxLen; omega) (by omega) (by simp <;> omega) ?_))
      intro v5 w5 hown5 hgrow5 _
      have hb5 : Below w1.heap.size w1 w5 := (HBR.out.alloc HBR.out.size (.cells #[.int .u8 0, .int .u8 1] 5)).grown hgrow5 (by simp <;> omega) (fun q hq => (HOW.out.lt q hq).1)
      have hown7 : w5.ownsRow w1.heap.size 5 1 v5 (encD ⟨4, bo, n, t⟩).length ((encD ⟨4, bo, n, t⟩).map bv) := by
        rw [HV.out, List.map_append, ← HXS.out, List.length_append, ← HM.out]
        exact hown5
      have HB5 := Lib.hid hb5
      have HO7 := Lib.hid hown7
      clear hown5 hgrow5 hb5 hown7
      go_wp2
      go_ret
      exact ⟨_, rfl, World.ownsRow.lower HW1.out.size HO7.out, HW1.out.trans (HB5.out.mono HW1.out.size)⟩
set_option maxRecDepth 100000 in
set_option maxHeartbeats 2000000 in
theorem bytes_54 (d : Dat) (w : World) (fd : d.fits) (hk : okD d = true) :
    Calls Tryz.prog 54 #[d.agg] w fun e w' => ∃ v, e = .returned v ∧ w'.ownsRow w.heap.size 5 1 v (encD d).length ((encD d).map bv) ∧ Below w.heap.size w w' := by
  obtain ⟨i0, hi0, hz0, hz1, hz2⟩ := info_parts info5
  obtain ⟨k, bo, n, t⟩ := d
  obtain ⟨hk1, -⟩ := okD_parts hk
  obtain ⟨-, hn64, ht64⟩ := fd
  simp only at hn64 ht64
  unfold Dat.agg
  simp only at hk1 ⊢
  by_cases k1 : k = 1
  · subst k1
    obtain ⟨w1, hw1⟩ : ∃ w1, w1 = w.alloc (.cells #[.int .u8 1, .bool bo, .int .i64 n, .string t] 55) := ⟨_, rfl⟩
    have HW1 := Lib.hid (show Below w.heap.size w w1 by rw [hw1]; exact one_below _ _)
    have hbx : w1.heap[w.heap.size]? = some (.cells #[.int .u8 1, .bool bo, .int .i64 n, .string t] 55 (0, 0)) := by rw [hw1]; exact heap_alloc_new _ _
    have HBX := Lib.hid hbx
    have HB1 := Lib.hid (Below.refl w1.heap.size w1)
    have b0 := cell_of_heap (o := 0) hbx rfl
    have b1 := cell_of_heap (o := 1) hbx rfl
    have b2 := cell_of_heap (o := 2) hbx rfl
    have b3 := cell_of_heap (o := 3) hbx rfl
    have hs1 := HW1.out.size
    clear hbx
    go_enter Tryz.func54, Tryz.ntmps54
    go_upto_region 1 with fail
    rw [← hw1]
    clear hw1
    go_wp2_with (at_builtin; go_must (refine wpList_append_own _ rfl _ _ 96 rfl w1.heap.size 5 i0 (.int .u8 0) 1 1 Tryz.underlying96 hi0 hz0 hz1 hz2 rfl (by decide) _ 0 _ rfl (World.ownsRow_nil _ _ _ _) ⟨w1.heap.size, 0, none⟩ 1 1 [.int .u8 16] rfl rfl (World.news_of_block (cs := #[.int .u8 16]) (heap_alloc_new _ _)) (by intro u hu; simp at hu; (first | subst hu | (rcases hu with rfl | rfl)) <;> rfl) (by unfold maxLen; omega) (by omega) (by simp <;> omega) ?_))
    intro v2 w2 hown hgrow _
    obtain ⟨va2, vc2, rfl⟩ := ownsRow_slice hown
    have HB2 := Lib.hid ((HB1.out.alloc HB1.out.size (.cells #[.int .u8 16] 5)).grown hgrow (by have := HB1.out.size; simp <;> omega) (fun q hq => (by cases hq)))
    have HO2 := Lib.hid hown
    have hs2 := HB2.out.size
    clear hown hgrow
    go_wp2
    go_ret
    exact ⟨_, rfl, by rw [show encD ⟨1, bo, n, t⟩ = [16] from rfl]; exact World.ownsRow.lower HW1.out.size HO2.out, HW1.out.trans (HB2.out.mono HW1.out.size)⟩
  by_cases k2 : k = 2
  · subst k2
    rcases bo with _ | _
    · obtain ⟨w1, hw1⟩ : ∃ w1, w1 = w.alloc (.cells #[.int .u8 2, .bool false, .int .i64 n, .string t] 55) := ⟨_, rfl⟩
      have HW1 := Lib.hid (show Below w.heap.size w w1 by rw [hw1]; exact one_below _ _)
      have hbx : w1.heap[w.heap.size]? = some (.cells #[.int .u8 2, .bool false, .int .i64 n, .string t] 55 (0, 0)) := by rw [hw1]; exact heap_alloc_new _ _
      have HBX := Lib.hid hbx
      have HB1 := Lib.hid (Below.refl w1.heap.size w1)
      have b0 := cell_of_heap (o := 0) hbx rfl
      have b1 := cell_of_heap (o := 1) hbx rfl
      have b2 := cell_of_heap (o := 2) hbx rfl
      have b3 := cell_of_heap (o := 3) hbx rfl
      have hs1 := HW1.out.size
      clear hbx
      go_enter Tryz.func54, Tryz.ntmps54
      go_upto_region 1 with fail
      rw [← hw1]
      clear hw1
      go_wp2_with (at_builtin; go_must (refine wpList_append_own _ rfl _ _ 96 rfl w1.heap.size 5 i0 (.int .u8 0) 1 1 Tryz.underlying96 hi0 hz0 hz1 hz2 rfl (by decide) _ 0 _ rfl (World.ownsRow_nil _ _ _ _) ⟨w1.heap.size, 0, none⟩ 1 1 [.int .u8 32] rfl rfl (World.news_of_block (cs := #[.int .u8 32]) (heap_alloc_new _ _)) (by intro u hu; simp at hu; (first | subst hu | (rcases hu with rfl | rfl)) <;> rfl) (by unfold maxLen; omega) (by omega) (by simp <;> omega) ?_))
      intro v2 w2 hown hgrow _
      obtain ⟨va2, vc2, rfl⟩ := ownsRow_slice hown
      have HB2 := Lib.hid ((HB1.out.alloc HB1.out.size (.cells #[.int .u8 32] 5)).grown hgrow (by have := HB1.out.size; simp <;> omega) (fun q hq => (by cases hq)))
      have HO2 := Lib.hid hown
      have hs2 := HB2.out.size
      clear hown hgrow
      go_wp2
      go_ret
      exact ⟨_, rfl, by rw [show encD ⟨2, false, n, t⟩ = [32] from rfl]; exact World.ownsRow.lower HW1.out.size HO2.out, HW1.out.trans (HB2.out.mono HW1.out.size)⟩
    · obtain ⟨w1, hw1⟩ : ∃ w1, w1 = w.alloc (.cells #[.int .u8 2, .bool true, .int .i64 n, .string t] 55) := ⟨_, rfl⟩
      have HW1 := Lib.hid (show Below w.heap.size w w1 by rw [hw1]; exact one_below _ _)
      have hbx : w1.heap[w.heap.size]? = some (.cells #[.int .u8 2, .bool true, .int .i64 n, .string t] 55 (0, 0)) := by rw [hw1]; exact heap_alloc_new _ _
      have HBX := Lib.hid hbx
      have HB1 := Lib.hid (Below.refl w1.heap.size w1)
      have b0 := cell_of_heap (o := 0) hbx rfl
      have b1 := cell_of_heap (o := 1) hbx rfl
      have b2 := cell_of_heap (o := 2) hbx rfl
      have b3 := cell_of_heap (o := 3) hbx rfl
      have hs1 := HW1.out.size
      clear hbx
      go_enter Tryz.func54, Tryz.ntmps54
      go_upto_region 1 with fail
      rw [← hw1]
      clear hw1
      go_wp2_with (at_builtin; go_must (refine wpList_append_own _ rfl _ _ 96 rfl w1.heap.size 5 i0 (.int .u8 0) 1 1 Tryz.underlying96 hi0 hz0 hz1 hz2 rfl (by decide) _ 0 _ rfl (World.ownsRow_nil _ _ _ _) ⟨w1.heap.size, 0, none⟩ 1 1 [.int .u8 33] rfl rfl (World.news_of_block (cs := #[.int .u8 33]) (heap_alloc_new _ _)) (by intro u hu; simp at hu; (first | subst hu | (rcases hu with rfl | rfl)) <;> rfl) (by unfold maxLen; omega) (by omega) (by simp <;> omega) ?_))
      intro v2 w2 hown hgrow _
      obtain ⟨va2, vc2, rfl⟩ := ownsRow_slice hown
      have HB2 := Lib.hid ((HB1.out.alloc HB1.out.size (.cells #[.int .u8 33] 5)).grown hgrow (by have := HB1.out.size; simp <;> omega) (fun q hq => (by cases hq)))
      have HO2 := Lib.hid hown
      have hs2 := HB2.out.size
      clear hown hgrow
      go_wp2
      go_ret
      exact ⟨_, rfl, by rw [show encD ⟨2, true, n, t⟩ = [33] from rfl]; exact World.ownsRow.lower HW1.out.size HO2.out, HW1.out.trans (HB2.out.mono HW1.out.size)⟩
  by_cases k3 : k = 3
  · subst k3
    obtain ⟨w1, hw1⟩ : ∃ w1, w1 = w.alloc (.cells #[.int .u8 3, .bool bo, .int .i64 n, .string t] 55) := ⟨_, rfl⟩
    have HW1 := Lib.hid (show Below w.heap.size w w1 by rw [hw1]; exact one_below _ _)
    have hbx : w1.heap[w.heap.size]? = some (.cells #[.int .u8 3, .bool bo, .int .i64 n, .string t] 55 (0, 0)) := by rw [hw1]; exact heap_alloc_new _ _
    have HBX := Lib.hid hbx
    have HB1 := Lib.hid (Below.refl w1.heap.size w1)
    have b0 := cell_of_heap (o := 0) hbx rfl
    have b1 := cell_of_heap (o := 1) hbx rfl
    have b2 := cell_of_heap (o := 2) hbx rfl
    have b3 := cell_of_heap (o := 3) hbx rfl
    have hs1 := HW1.out.size
    clear hbx
    go_enter Tryz.func54, Tryz.ntmps54
    go_upto_region 1 with fail
    rw [← hw1]
    clear hw1
    go_wp2_with (at_builtin; go_must (refine wpList_append_own _ rfl _ _ 96 rfl w1.heap.size 5 i0 (.int .u8 0) 1 1 Tryz.underlying96 hi0 hz0 hz1 hz2 rfl (by decide) _ 0 _ rfl (World.ownsRow_nil _ _ _ _) ⟨w1.heap.size, 0, none⟩ 1 1 [.int .u8 48] rfl rfl (World.news_of_block (cs := #[.int .u8 48]) (heap_alloc_new _ _)) (by intro u hu; simp at hu; (first | subst hu | (rcases hu with rfl | rfl)) <;> rfl) (by unfold maxLen; omega) (by omega) (by simp <;> omega) ?_))
    intro v2 w2 hown hgrow _
    obtain ⟨va2, vc2, rfl⟩ := ownsRow_slice hown
    have HB2 := Lib.hid ((HB1.out.alloc HB1.out.size (.cells #[.int .u8 48] 5)).grown hgrow (by have := HB1.out.size; simp <;> omega) (fun q hq => (by cases hq)))
    have HO2 := Lib.hid hown
    have hs2 := HB2.out.size
    clear hown hgrow
    have HI := Lib.hid (show (encI n).length = 8 by simp [encI])
    have hw0 : IntKind.u64.wrap (IntKind.u64.wrap n + 9223372036854775808) = n + 9223372036854775808 := wrap_enc hn64
    have b2a := cell_keep HB2.out b2
    go_wp2_with fail
    go_loopg [3, 5] 9 (fun g q0 q5 wr => ∃ i : Nat, i ≤ 8 ∧ g = 9 - i ∧ q5 = .int .i64 (i) ∧ wr.ownsRow w1.heap.size 5 1 q0 (1 + i) ((48 :: (encI n).take i).map bv) ∧ Below w1.heap.size w1 wr)
    case atStart => exact ⟨0, Nat.zero_le _, rfl, rfl, HO2.out, HB2.out⟩
    case round =>
      obtain ⟨i, hi, hgi, rfl, hown, hbr⟩ := hrel
      obtain ⟨oa, oc, rfl⟩ := ownsRow_slice hown
      obtain ⟨XS, hXS⟩ : ∃ XS, XS = (48 :: (encI n).take i).map bv := ⟨_, rfl⟩
      rw [← hXS] at hown
      have HXS := Lib.hid hXS
      have HOW := Lib.hid hown
      have HBR := Lib.hid hbr
      have hsr := hbr.size
      have b2 := cell_keep hbr b2
      clear hown hbr hXS
      by_cases hlt : i < 8
      · have hge : (i : Int) < 8 := by omega
        obtain ⟨x, hx⟩ : ∃ x, (n + 9223372036854775808) / 2 ^ (56 - 8 * i) % 256 = x := ⟨_, rfl⟩
        have hxi : (encI n)[i]? = some x := by rw [← hx, encI, List.getElem?_map, List.getElem?_range hlt]; rfl
        have HXI := Lib.hid hxi
        clear hxi
        go_wp2_with (at_builtin; go_must (refine wpList_append_own _ rfl _ _ 96 rfl w1.heap.size 5 i0 (.int .u8 0) 1 1 Tryz.underlying96 hi0 hz0 hz1 hz2 rfl (by decide) _ (1 + i) _ rfl (HOW.out.alloc _) ⟨wr.heap.size, 0, none⟩ 1 1 [.int .u8 x] rfl rfl (World.news_of_block (cs := #[.int .u8 x]) (heap_alloc_new _ _)) (by intro u hu; simp at hu; (first | subst hu | (rcases hu with rfl | rfl)) <;> rfl) (by unfold maxLen; omega) (by omega) (by simp <;> omega) ?_))
        intro v5 w5 hown5 hgrow5 _
        have hb5 : Below w1.heap.size w1 w5 := (HBR.out.alloc HBR.out.size (.cells #[.int .u8 x] 5)).grown hgrow5 (by simp <;> omega) (fun q hq => (HOW.out.lt q hq).1)
        have hxs : (48 :: (encI n).take (i + 1)).map bv = XS ++ [.int .u8 x] := by rw [HXS.out, List.take_add_one, HXI.out]; simp [bv]
        rw [← hxs] at hown5
        have HB5 := Lib.hid hb5
        have HO5 := Lib.hid hown5
        clear hown5 hgrow5 hb5 hxs
        go_wp2
        go_roundg (9 - (i + 1))
        case measure => omega
        case rel => exact ⟨i + 1, by omega, rfl, by first | rfl | (go_num) | (congr 1; omega), HO5.out, HB5.out⟩
      · have hie : i = 8 := by omega
        subst hie
        have hge : ¬ ((8 : Nat) : Int) < 8 := by omega
        have how := HOW.out
        rw [HXS.out, List.take_of_length_le (by rw [HI.out]; exact Nat.le_refl _)] at how
        have hln : (encD ⟨3, bo, n, t⟩).length = 1 + 8 := by show (encI n).length + 1 = 1 + 8; rw [HI.out]
        have HOW2 := Lib.hid how
        have HLN := Lib.hid hln
        clear how hln
        go_wp2_with fail
        go_ret
        exact ⟨_, rfl, by rw [HLN.out]; exact World.ownsRow.lower HW1.out.size HOW2.out, HW1.out.trans (HBR.out.mono HW1.out.size)⟩
  have k4 : k = 4 := by omega
  subst k4
  obtain ⟨w1, hw1⟩ : ∃ w1, w1 = w.alloc (.cells #[.int .u8 4, .bool bo, .int .i64 n, .string t] 55) := ⟨_, rfl⟩
  have HW1 := Lib.hid (show Below w.heap.size w w1 by rw [hw1]; exact one_below _ _)
  have hbx : w1.heap[w.heap.size]? = some (.cells #[.int .u8 4, .bool bo, .int .i64 n, .string t] 55 (0, 0)) := by rw [hw1]; exact heap_alloc_new _ _
  have HBX := Lib.hid hbx
  have HB1 := Lib.hid (Below.refl w1.heap.size w1)
  have b0 := cell_of_heap (o := 0) hbx rfl
  have b1 := cell_of_heap (o := 1) hbx rfl
  have b2 := cell_of_heap (o := 2) hbx rfl
  have b3 := cell_of_heap (o := 3) hbx rfl
  have hs1 := HW1.out.size
  clear hbx
  go_enter Tryz.func54, Tryz.ntmps54
  go_upto_region 1 with fail
  rw [← hw1]
  clear hw1
  go_wp2_with (at_builtin; go_must (refine wpList_append_own _ rfl _ _ 96 rfl w1.heap.size 5 i0 (.int .u8 0) 1 1 Tryz.underlying96 hi0 hz0 hz1 hz2 rfl (by decide) _ 0 _ rfl (World.ownsRow_nil _ _ _ _) ⟨w1.heap.size, 0, none⟩ 1 1 [.int .u8 64] rfl rfl (World.news_of_block (cs := #[.int .u8 64]) (heap_alloc_new _ _)) (by intro u hu; simp at hu; (first | subst hu | (rcases hu with rfl | rfl)) <;> rfl) (by unfold maxLen; omega) (by omega) (by simp <;> omega) ?_))
  intro v2 w2 hown hgrow _
  obtain ⟨va2, vc2, rfl⟩ := ownsRow_slice hown
  have HB2 := Lib.hid ((HB1.out.alloc HB1.out.size (.cells #[.int .u8 64] 5)).grown hgrow (by have := HB1.out.size; simp <;> omega) (fun q hq => (by cases hq)))
  have HO2 := Lib.hid hown
  have hs2 := HB2.out.size
  clear hown hgrow
  have ht1 : t.size ≤ 1000 := okD_size hk
  have b3a := cell_keep HB2.out b3
  go_wp2_with fail
  go_loopg [3, 6] t.size (fun g q0 q5 wr => ∃ i : Nat, i ≤ t.size ∧ g = t.size - i ∧ q5 = .int .i64 i ∧ wr.ownsRow w1.heap.size 5 1 q0 (encP t i).length ((encP t i).map bv) ∧ Below w1.heap.size w1 wr)
  case atStart => exact ⟨0, Nat.zero_le _, rfl, rfl, HO2.out, HB2.out⟩
  case round =>
    obtain ⟨i, hi, hgi, rfl, hown, hbr⟩ := hrel
    obtain ⟨M, hM⟩ : ∃ M, M = (encP t i).length := ⟨_, rfl⟩
    obtain ⟨XS, hXS⟩ : ∃ XS, XS = (encP t i).map bv := ⟨_, rfl⟩
    have hml := encP_len t i
    rw [← hM] at hml
    rw [← hXS, ← hM] at hown
    obtain ⟨oa, oc, rfl⟩ := ownsRow_slice hown
    have HXS := Lib.hid hXS
    have HM := Lib.hid hM
    have HOW := Lib.hid hown
    have HBR := Lib.hid hbr
    have hsr := hbr.size
    have b3 := cell_keep hbr b3
    clear hown hbr hXS hM
    by_cases hlt : i < t.size
    · obtain ⟨c, cs, hcs, -⟩ := drop_cons hlt
      have hget := get_of_drop hcs hlt
      have hc : t.data.toList[i]? = some c := by
        have := congrArg List.head? hcs
        simpa [List.head?_drop] using this
      have HC := Lib.hid hc
      clear hc hcs
      by_cases hz : c = 0
      · have hcz : (c.toNat : Int) = 0 := by rw [hz]; rfl
        have hxs : encP t (i + 1) = encP t i ++ [0, 255] := by rw [encP_snoc HC.out, encC, if_pos hz]
        have HXX := Lib.hid hxs
        have HZ := Lib.hid hz
        clear hxs hz
        go_wp2_with (at_builtin; go_must (refine wpList_append_own _ rfl _ _ 96 rfl w1.heap.size 5 i0 (.int .u8 0) 1 1 Tryz.underlying96 hi0 hz0 hz1 hz2 rfl (by decide) _ M _ rfl (HOW.out.alloc _) ⟨wr.heap.size, 0, none⟩ 1 1 [.int .u8 0] rfl rfl (World.news_of_block (cs := #[.int .u8 0]) (heap_alloc_new _ _)) (by intro u hu; simp at hu; (first | subst hu | (rcases hu with rfl | rfl)) <;> rfl) (by unfold maxLen; omega) (by omega) (by simp <;> omega) ?_))
        intro v5 w5 hown5 hgrow5 _
        obtain ⟨va5, vc5, rfl⟩ := ownsRow_slice hown5
        have hb5 : Below w1.heap.size w1 w5 := (HBR.out.alloc HBR.out.size (.cells #[.int .u8 0] 5)).grown hgrow5 (by simp <;> omega) (fun q hq => (HOW.out.lt q hq).1)
        have HB5 := Lib.hid hb5
        have HO5 := Lib.hid hown5
        have hs5 := hb5.size
        have b3 := cell_keep hb5 (cell_of_heap (o := 3) (keepB HBX.out HB1.out) rfl)
        clear hown5 hgrow5 hb5
        go_wp2_with (at_builtin; go_must (refine wpList_append_own _ rfl _ _ 96 rfl w1.heap.size 5 i0 (.int .u8 0) 1 1 Tryz.underlying96 hi0 hz0 hz1 hz2 rfl (by decide) _ (M + 1) _ rfl (HO5.out.alloc _) ⟨w5.heap.size, 0, none⟩ 1 1 [.int .u8 255] rfl rfl (World.news_of_block (cs := #[.int .u8 255]) (heap_alloc_new _ _)) (by intro u hu; simp at hu; (first | subst hu | (rcases hu with rfl | rfl)) <;> rfl) (by unfold maxLen; omega) (by omega) (by simp <;> omega) ?_))
        intro v6 w6 hown6 hgrow6 _
        have hb6 : Below w1.heap.size w1 w6 := (HB5.out.alloc HB5.out.size (.cells #[.int .u8 255] 5)).grown hgrow6 (by simp <;> omega) (fun q hq => (HO5.out.lt q hq).1)
        have hown7 : w6.ownsRow w1.heap.size 5 1 v6 (encP t (i + 1)).length ((encP t (i + 1)).map bv) := by
          rw [HXX.out, List.map_append, ← HXS.out, List.length_append, ← HM.out]
          exact hown6
        have HB6 := Lib.hid hb6
        have HO7 := Lib.hid hown7
        clear hown6 hgrow6 hb6 hown7
        go_wp2
        go_roundg (t.size - (i + 1))
        case measure => omega
        case rel => exact ⟨i + 1, by omega, rfl, by go_num, HO7.out, HB6.out⟩
      · have hcz : ¬ (c.toNat : Int) = 0 := fun h => hz (UInt8.toNat_inj.1 (by show c.toNat = 0; omega))
        have hxs : encP t (i + 1) = encP t i ++ [(c.toNat : Int)] := by rw [encP_snoc HC.out, encC, if_neg hz]
        have HXX := Lib.hid hxs
        clear hxs hz
        go_wp2_with (at_builtin; go_must (refine wpList_append_own _ rfl _ _ 96 rfl w1.heap.size 5 i0 (.int .u8 0) 1 1 Tryz.underlying96 hi0 hz0 hz1 hz2 rfl (by decide) _ M _ rfl (HOW.out.alloc _) ⟨wr.heap.size, 0, none⟩ 1 1 [.int .u8 c.toNat] rfl rfl (World.news_of_block (cs := #[.int .u8 c.toNat]) (heap_alloc_new _ _)) (by intro u hu; simp at hu; (first | subst hu | (rcases hu with rfl | rfl)) <;> rfl) (by unfold maxLen; omega) (by omega) (by simp <;> omega) ?_))
        intro v5 w5 hown5 hgrow5 _
        obtain ⟨va5, vc5, rfl⟩ := ownsRow_slice hown5
        have hb5 : Below w1.heap.size w1 w5 := (HBR.out.alloc HBR.out.size (.cells #[.int .u8 c.toNat] 5)).grown hgrow5 (by simp <;> omega) (fun q hq => (HOW.out.lt q hq).1)
        have hown7 : w5.ownsRow w1.heap.size 5 1 (.slice va5 (M + 1) vc5) (encP t (i + 1)).length ((encP t (i + 1)).map bv) := by
          rw [HXX.out, List.map_append, ← HXS.out, List.length_append, ← HM.out]
          exact hown5
        have HB5 := Lib.hid hb5
        have HO7 := Lib.hid hown7
        have hs5 := hb5.size
        have b3 := cell_keep hb5 (cell_of_heap (o := 3) (keepB HBX.out HB1.out) rfl)
        clear hown5 hgrow5 hb5 hown7
        go_wp2_with fail
        go_roundg (t.size - (i + 1))
        case measure => omega
        case rel => exact ⟨i + 1, by omega, rfl, by go_num, HO7.out, HB5.out⟩
    · have hie : i = t.size := by omega
      subst hie
      have hv : encD ⟨4, bo, n, t⟩ = encP t t.size ++ [0, 1] := by
        show 64 :: (t.data.toList.flatMap encC ++ [0, 1]) = 64 :: (t.data.toList.take t.size).flatMap encC ++ [0, 1]
        rw [List.take_of_length_le (by rw [len_list]; exact Nat.le_refl _)]; rfl
      have HV := Lib.hid hv
      clear hv
      go_wp2_with (at_builtin; go_must (refine wpList_append_own _ rfl _ _ 96 rfl w1.heap.size 5 i0 (.int .u8 0) 1 1 Tryz.underlying96 hi0 hz0 hz1 hz2 rfl (by decide) _ M _ rfl (HOW.out.alloc _) ⟨wr.heap.size, 0, none⟩ 2 2 [.int .u8 0, .int .u8 1] rfl rfl (World.news_of_block (cs := #[.int .u8 0, .int .u8 1]) (heap_alloc_new _ _)) (by intro u hu; simp at hu; (first | subst hu | (rcases hu with rfl | rfl)) <;> rfl) (by unfold maxLen; omega) (by omega) (by simp <;> omega) ?_))
      intro v5 w5 hown5 hgrow5 _
      have hb5 : Below w1.heap.size w1 w5 := (HBR.out.alloc HBR.out.size (.cells #[.int .u8 0, .int .u8 1] 5)).grown hgrow5 (by simp <;> omega) (fun q hq => (HOW.out.lt q hq).1)
      have hown7 : w5.ownsRow w1.heap.size 5 1 v5 (encD ⟨4, bo, n, t⟩).length ((encD ⟨4, bo, n, t⟩).map bv) := by
        rw [HV.out, List.map_append, ← HXS.out, List.length_append, ← HM.out]
        exact hown5
      have HB5 := Lib.hid hb5
      have HO7 := Lib.hid hown7
      clear hown5 hgrow5 hb5 hown7
      go_wp2
      go_ret
      exact ⟨_, rfl, World.ownsRow.lower HW1.out.size HO7.out, HW1.out.trans (HB5.out.mono HW1.out.size)⟩
end Go.Proofs.YtlpehdhgdpeoeaaGreatDoor
/- row.Hash, the reference's. -/
namespace Go.Proofs.YtlpehdhgdpeoeaaGreatDoor
open Go.RowKit Go.Pen Go.Shelf
attribute [local go_sem] Oper.semAt_some

theorem encI_byte (n : Int) : ∀ x ∈ encI n, 0 ≤ x ∧ x ≤ 255 := fun x hx => by
  obtain ⟨i, -, rfl⟩ := List.mem_map.1 hx
  omega
theorem encC_byte (c : UInt8) : ∀ x ∈ encC c, 0 ≤ x ∧ x ≤ 255 := fun x hx => by
  unfold encC at hx
  split at hx
  · simp at hx; omega
  · simp at hx
    subst hx
    have := UInt8.toNat_lt c
    omega
theorem encD_byte (d : Dat) : ∀ x ∈ encD d, 0 ≤ x ∧ x ≤ 255 := fun x hx => by
  unfold encD at hx
  split at hx
  · simp at hx; omega
  · split at hx
    · simp at hx
      subst hx
      split <;> omega
    · split at hx
      · rcases List.mem_cons.1 hx with rfl | hx
        · omega
        · exact encI_byte _ x hx
      · split at hx
        · rcases List.mem_cons.1 hx with rfl | hx
          · omega
          · rcases List.mem_append.1 hx with hx | hx
            · obtain ⟨c, -, hc⟩ := List.mem_flatMap.1 hx
              exact encC_byte c x hc
            · simp at hx; omega
        · cases hx
theorem encD_len {d : Dat} (h : okD d = true) : (encD d).length ≤ 2003 := by
  have hs := okD_size h
  unfold encD
  split
  · simp
  · split
    · simp
    · split
      · simp [encI]
      · split
        · have h1 := encP_len d.text d.text.data.toList.length
          unfold encP at h1
          rw [List.take_length, List.length_cons, len_list] at h1
          simp only [List.length_cons, List.length_append, List.length_nil]
          omega
        · simp
/-- one byte more -/
def hash1 (h x : Int) : Int := IntKind.u64.wrap (bits BinOp.xor IntKind.u64 h x * 1099511628211)
def hashB (h : Int) (l : List Int) : Int := l.foldl hash1 h
def hashR (r : List Dat) (cs : List Int) : Int := cs.foldl (fun (h c : Int) => if 0 ≤ c ∧ c < r.length then hashB h (encD (r.getD c.toNat nul)) else h) (14695981039346656037 : Int)
theorem hashB_snoc {h x : Int} {l : List Int} {j : Nat} (e : l[j]? = some x) : hashB h (l.take (j + 1)) = hash1 (hashB h (l.take j)) x := by
  rw [List.take_add_one, e]
  simp [hashB]
theorem hashR_snoc {r : List Dat} {c : Int} {cs : List Int} {i : Nat} (e : cs[i]? = some c) : hashR r (cs.take (i + 1)) = if 0 ≤ c ∧ c < r.length then hashB (hashR r (cs.take i)) (encD (r.getD c.toNat nul)) else hashR r (cs.take i) := by
  rw [List.take_add_one, e]
  simp [hashR]
theorem hash1_u (h x : Int) : 0 ≤ hash1 h x ∧ hash1 h x ≤ 18446744073709551615 := by
  unfold hash1
  simp only [IntKind.wrap_u64]
  omega

set_option maxRecDepth 100000 in
set_option maxHeartbeats 2000000 in
theorem hash_38 (r : List Dat) (cs : List Int) (rv cv : Value) (w : World) (hr : RowAt w rv r) (hok : ∀ d ∈ r, okD d = true) (hrf : ∀ d ∈ r, d.fits) (hrl : r.length ≤ 1073741824) (hc : IntsOn (fun _ => True) w cs cv) (hcl : cs.length ≤ 1073741824) :
    Calls Tryz.prog 38 #[rv, cv] w fun e w' => e = .returned (.int .u64 (hashR r cs)) ∧ Below w.heap.size w w' := by
  obtain ⟨ca, cc, rfl, -, hci⟩ := hc
  obtain ⟨ra, rc, rfl, -, hri⟩ := hr
  obtain ⟨K, eK⟩ : ∃ K, K = cs.length := ⟨_, rfl⟩
  obtain ⟨N, eN⟩ : ∃ N, N = r.length := ⟨_, rfl⟩
  rw [← eK] at hcl ⊢
  rw [← eN] at hrl ⊢
  have EK := Lib.hid eK
  have EN := Lib.hid eN
  have HRI := Lib.hid hri
  have HCI := Lib.hid hci
  have HOK := Lib.hid hok
  have HRF := Lib.hid hrf
  clear eK eN hri hci hok hrf
  go_enter Tryz.func38, Tryz.ntmps38
  go_wp2_with fail
  go_loopg [5, 12] K (fun g s5 s12 wr => ∃ (i : Nat), i ≤ K ∧ g = K - i ∧ s12 = .int .i64 i ∧ s5 = .int .u64 (hashR r (cs.take i)) ∧ Below w.heap.size w wr)
  case atStart => exact ⟨0, Nat.zero_le _, rfl, rfl, rfl, Below.refl _ _⟩
  case round =>
    obtain ⟨i, hi, rfl, rfl, rfl, hbr⟩ := hrel
    have HBR := Lib.hid hbr
    clear hbr
    obtain ⟨h0, eh0⟩ : ∃ h0, h0 = hashR r (cs.take i) := ⟨_, rfl⟩
    rw [← eh0]
    have EH := Lib.hid eh0
    clear eh0
    by_cases hlt : i < K
    · obtain ⟨c, hcx⟩ : ∃ c, cs[i]? = some c := ⟨cs[i]'(by rw [← EK.out]; exact hlt), List.getElem?_eq_getElem _⟩
      obtain ⟨cb, co, rfl, -, hcs⟩ := HCI.out (fun e => by rw [e] at hcx; simp at hcx)
      have k0 := cell_keep HBR.out (hcs i c hcx)
      have HCX := Lib.hid hcx
      clear hcs hcx
      by_cases hin : 0 ≤ c ∧ c < (N : Int)
      · have hc0 : ¬ c < 0 := by omega
        have hc1 : ¬ (N : Int) ≤ c := by omega
        have hc2 : c < (N : Int) := hin.2
        have hc3 : 0 ≤ c := hin.1
        obtain ⟨x, hx⟩ : ∃ x, r[c.toNat]? = some x := ⟨r[c.toNat]'(by have := EN.out; omega), List.getElem?_eq_getElem _⟩
        obtain ⟨b, off, rfl, -, hrs⟩ := HRI.out (fun e => by rw [e] at hx; simp at hx)
        obtain ⟨q0, q1, q2, q3⟩ := hrs _ _ hx
        have q0 := cell_keep HBR.out q0
        have q1 := cell_keep HBR.out q1
        have q2 := cell_keep HBR.out q2
        have q3 := cell_keep HBR.out q3
        have xc : (c.toNat : Int) = c := by omega
        have hxm := List.mem_of_getElem? hx
        have HX := Lib.hid hx
        have hpt := put_53 x wr (HRF.out x hxm) (HOK.out x hxm)
        unfold Dat.agg at hpt
        have HPT := Lib.hid hpt
        clear hrs hx hpt
        go_wp2_with fail
        refine HPT.out.mono ?_
        rintro e w5 ⟨v5, rfl, ho5, hb5⟩
        obtain ⟨oa, oc, rfl⟩ := ownsRow_slice ho5
        obtain ⟨M, eM⟩ : ∃ M, M = (encD x).length := ⟨_, rfl⟩
        rw [← eM]
        rw [← eM] at ho5
        have HO5 := Lib.hid ho5
        have HB5 := Lib.hid (stepB HBR.out hb5)
        have EM := Lib.hid eM
        have hml : M ≤ 2003 := by rw [eM]; exact encD_len (HOK.out x hxm)
        clear ho5 hb5 eM HPT
        go_wp2_with fail
        go_loopg [5, 30] M (fun g s5 s30 ws => ∃ (j : Nat), j ≤ M ∧ g = M - j ∧ s30 = .int .i64 j ∧ s5 = .int .u64 (hashB h0 ((encD x).take j)) ∧ w5 = ws)
        case atStart => exact ⟨0, Nat.zero_le _, rfl, rfl, rfl, rfl⟩
        case round =>
          obtain ⟨j, hj, rfl, rfl, rfl, ews⟩ := hrel
          subst ews
          by_cases hjt : j < M
          · obtain ⟨y, hy⟩ : ∃ y, (encD x)[j]? = some y := ⟨(encD x)[j]'(by rw [← EM.out]; exact hjt), List.getElem?_eq_getElem _⟩
            obtain ⟨oa', oc', eo, -, hob⟩ := TyRow.of_own HO5.out
            cases eo
            obtain ⟨g, cur, rfl, hgc, hgx⟩ := hob (by omega)
            have ye : w5.cell? ⟨g, j, none⟩ = some (.int .u8 y) := cell_of_heap hgc (hgx j _ (by rw [List.getElem?_map, hy]; rfl))
            obtain ⟨y0, y1⟩ := encD_byte x y (List.mem_of_getElem? hy)
            have hyw : IntKind.u64.wrap y = y := by rw [IntKind.wrap_u64]; omega
            have HY := Lib.hid hy
            clear hgc hgx hob hy
            go_wp2_with fail
            go_roundg (M - (j + 1))
            case measure => omega
            case rel => exact ⟨j + 1, by omega, rfl, by go_num, by rw [hashB_snoc HY.out]; rfl, rfl⟩
          · have hjm : j = M := by omega
            subst hjm
            have hfin : hashR r (cs.take (i + 1)) = hashB h0 ((encD x).take j) := by
              rw [hashR_snoc HCX.out, if_pos (by rw [← EN.out]; exact hin), ← EH.out, List.getD_eq_getElem?_getD, HX.out, List.take_of_length_le (by rw [← EM.out]; exact Nat.le_refl _)]
              rfl
            have HFIN := Lib.hid hfin
            clear hfin
            go_wp2_with fail
            go_roundg (K - (i + 1))
            case measure => omega
            case rel => exact ⟨i + 1, by omega, rfl, by go_num, by rw [HFIN.out], HB5.out⟩
      · have hfin : hashR r (cs.take (i + 1)) = h0 := by rw [hashR_snoc HCX.out, if_neg (by rw [← EN.out]; exact hin), ← EH.out]
        have HFIN := Lib.hid hfin
        clear hfin
        by_cases hc0 : c < 0
        · go_wp2_with fail
          go_roundg (K - (i + 1))
          case measure => omega
          case rel => exact ⟨i + 1, by omega, rfl, by go_num, by rw [HFIN.out], HBR.out⟩
        · have hc1 : (N : Int) ≤ c := by omega
          go_wp2_with fail
          go_roundg (K - (i + 1))
          case measure => omega
          case rel => exact ⟨i + 1, by omega, rfl, by go_num, by rw [HFIN.out], HBR.out⟩
    · have hiK : i = K := by omega
      subst hiK
      have hh : h0 = hashR r cs := by rw [EH.out, List.take_of_length_le (by have := EK.out; omega)]
      go_wp2_with fail
      go_ret
      exact ⟨by rw [← hh]; rfl, HBR.out⟩

set_option maxRecDepth 100000 in
set_option maxHeartbeats 2000000 in
theorem hash_39 (r : List Dat) (cs : List Int) (rv cv : Value) (w : World) (hr : RowAt w rv r) (hok : ∀ d ∈ r, okD d = true) (hrf : ∀ d ∈ r, d.fits) (hrl : r.length ≤ 1073741824) (hc : IntsOn (fun _ => True) w cs cv) (hcl : cs.length ≤ 1073741824) :
    Calls Tryz.prog 39 #[rv, cv] w fun e w' => e = .returned (.int .u64 (hashR r cs)) ∧ Below w.heap.size w w' := by
  obtain ⟨ca, cc, rfl, -, hci⟩ := hc
  obtain ⟨ra, rc, rfl, -, hri⟩ := hr
  obtain ⟨K, eK⟩ : ∃ K, K = cs.length := ⟨_, rfl⟩
  obtain ⟨N, eN⟩ : ∃ N, N = r.length := ⟨_, rfl⟩
  rw [← eK] at hcl ⊢
  rw [← eN] at hrl ⊢
  have EK := Lib.hid eK
  have EN := Lib.hid eN
  have HRI := Lib.hid hri
  have HCI := Lib.hid hci
  have HOK := Lib.hid hok
  have HRF := Lib.hid hrf
  clear eK eN hri hci hok hrf
  go_enter Tryz.func39, Tryz.ntmps39
  go_wp2_with fail
  go_loopg [5, 6] K (fun g s5 s12 wr => ∃ (i : Nat), i ≤ K ∧ g = K - i ∧ s12 = .int .i64 i ∧ s5 = .int .u64 (hashR r (cs.take i)) ∧ Below w.heap.size w wr)
  case atStart => exact ⟨0, Nat.zero_le _, rfl, rfl, rfl, Below.refl _ _⟩
  case round =>
    obtain ⟨i, hi, rfl, rfl, rfl, hbr⟩ := hrel
    have HBR := Lib.hid hbr
    clear hbr
    obtain ⟨h0, eh0⟩ : ∃ h0, h0 = hashR r (cs.take i) := ⟨_, rfl⟩
    rw [← eh0]
    have EH := Lib.hid eh0
    clear eh0
    by_cases hlt : i < K
    · obtain ⟨c, hcx⟩ : ∃ c, cs[i]? = some c := ⟨cs[i]'(by rw [← EK.out]; exact hlt), List.getElem?_eq_getElem _⟩
      obtain ⟨cb, co, rfl, -, hcs⟩ := HCI.out (fun e => by rw [e] at hcx; simp at hcx)
      have k0 := cell_keep HBR.out (hcs i c hcx)
      have HCX := Lib.hid hcx
      clear hcs hcx
      by_cases hin : 0 ≤ c ∧ c < (N : Int)
      · have hc0 : ¬ c < 0 := by omega
        have hc1 : ¬ (N : Int) ≤ c := by omega
        have hc2 : c < (N : Int) := hin.2
        have hc3 : 0 ≤ c := hin.1
        obtain ⟨x, hx⟩ : ∃ x, r[c.toNat]? = some x := ⟨r[c.toNat]'(by have := EN.out; omega), List.getElem?_eq_getElem _⟩
        obtain ⟨b, off, rfl, -, hrs⟩ := HRI.out (fun e => by rw [e] at hx; simp at hx)
        obtain ⟨q0, q1, q2, q3⟩ := hrs _ _ hx
        have q0 := cell_keep HBR.out q0
        have q1 := cell_keep HBR.out q1
        have q2 := cell_keep HBR.out q2
        have q3 := cell_keep HBR.out q3
        have xc : (c.toNat : Int) = c := by omega
        have hxm := List.mem_of_getElem? hx
        have HX := Lib.hid hx
        have hpt := bytes_54 x wr (HRF.out x hxm) (HOK.out x hxm)
        unfold Dat.agg at hpt
        have HPT := Lib.hid hpt
        clear hrs hx hpt
        go_wp2_with fail
        refine HPT.out.mono ?_
        rintro e w5 ⟨v5, rfl, ho5, hb5⟩
        obtain ⟨oa, oc, rfl⟩ := ownsRow_slice ho5
        obtain ⟨M, eM⟩ : ∃ M, M = (encD x).length := ⟨_, rfl⟩
        rw [← eM]
        rw [← eM] at ho5
        have HO5 := Lib.hid ho5
        have HB5 := Lib.hid (stepB HBR.out hb5)
        have EM := Lib.hid eM
        have hml : M ≤ 2003 := by rw [eM]; exact encD_len (HOK.out x hxm)
        clear ho5 hb5 eM HPT
        go_wp2_with fail
        go_loopg [5, 8] M (fun g s5 s30 ws => ∃ (j : Nat), j ≤ M ∧ g = M - j ∧ s30 = .int .i64 j ∧ s5 = .int .u64 (hashB h0 ((encD x).take j)) ∧ w5 = ws)
        case atStart => exact ⟨0, Nat.zero_le _, rfl, rfl, rfl, rfl⟩
        case round =>
          obtain ⟨j, hj, rfl, rfl, rfl, ews⟩ := hrel
          subst ews
          by_cases hjt : j < M
          · obtain ⟨y, hy⟩ : ∃ y, (encD x)[j]? = some y := ⟨(encD x)[j]'(by rw [← EM.out]; exact hjt), List.getElem?_eq_getElem _⟩
            obtain ⟨oa', oc', eo, -, hob⟩ := TyRow.of_own HO5.out
            cases eo
            obtain ⟨g, cur, rfl, hgc, hgx⟩ := hob (by omega)
            have ye : w5.cell? ⟨g, j, none⟩ = some (.int .u8 y) := cell_of_heap hgc (hgx j _ (by rw [List.getElem?_map, hy]; rfl))
            obtain ⟨y0, y1⟩ := encD_byte x y (List.mem_of_getElem? hy)
            have hyw : IntKind.u64.wrap y = y := by rw [IntKind.wrap_u64]; omega
            have HY := Lib.hid hy
            clear hgc hgx hob hy
            go_wp2_with fail
            go_roundg (M - (j + 1))
            case measure => omega
            case rel => exact ⟨j + 1, by omega, rfl, by go_num, by rw [hashB_snoc HY.out]; rfl, rfl⟩
          · have hjm : j = M := by omega
            subst hjm
            have hfin : hashR r (cs.take (i + 1)) = hashB h0 ((encD x).take j) := by
              rw [hashR_snoc HCX.out, if_pos (by rw [← EN.out]; exact hin), ← EH.out, List.getD_eq_getElem?_getD, HX.out, List.take_of_length_le (by rw [← EM.out]; exact Nat.le_refl _)]
              rfl
            have HFIN := Lib.hid hfin
            clear hfin
            go_wp2_with fail
            go_roundg (K - (i + 1))
            case measure => omega
            case rel => exact ⟨i + 1, by omega, rfl, by go_num, by rw [HFIN.out], HB5.out⟩
      · have hfin : hashR r (cs.take (i + 1)) = h0 := by rw [hashR_snoc HCX.out, if_neg (by rw [← EN.out]; exact hin), ← EH.out]
        have HFIN := Lib.hid hfin
        clear hfin
        by_cases hc0 : c < 0
        · go_wp2_with fail
          go_roundg (K - (i + 1))
          case measure => omega
          case rel => exact ⟨i + 1, by omega, rfl, by go_num, by rw [HFIN.out], HBR.out⟩
        · have hc1 : (N : Int) ≤ c := by omega
          go_wp2_with fail
          go_roundg (K - (i + 1))
          case measure => omega
          case rel => exact ⟨i + 1, by omega, rfl, by go_num, by rw [HFIN.out], HBR.out⟩
    · have hiK : i = K := by omega
      subst hiK
      have hh : h0 = hashR r cs := by rw [EH.out, List.take_of_length_le (by have := EK.out; omega)]
      go_wp2_with fail
      go_ret
      exact ⟨by rw [← hh]; rfl, HBR.out⟩
end Go.Proofs.YtlpehdhgdpeoeaaGreatDoor
/- linear.Part, the reference's. -/
namespace Go.Proofs.YtlpehdhgdpeoeaaGreatDoor
open Go.RowKit Go.Pen Go.Shelf
attribute [local go_sem] Oper.semAt_some

/-- those that fall to a worker -/
def partD (cs : List Int) (n v : Int) : Upd → Upd × Bool := fun u => (u, decide (hashR u.row cs % n = v))
theorem hashB_u {h : Int} (h0 : 0 ≤ h ∧ h ≤ 18446744073709551615) : ∀ l : List Int, 0 ≤ hashB h l ∧ hashB h l ≤ 18446744073709551615 := fun l => by
  unfold hashB
  induction l generalizing h with
  | nil => exact h0
  | cons x l ih => exact ih (hash1_u h x)
theorem hashR_u (r : List Dat) (cs : List Int) : 0 ≤ hashR r cs ∧ hashR r cs ≤ 18446744073709551615 := by
  have : ∀ (l : List Int) (h : Int), (0 ≤ h ∧ h ≤ 18446744073709551615) → 0 ≤ l.foldl (fun (h c : Int) => if 0 ≤ c ∧ c < r.length then hashB h (encD (r.getD c.toNat nul)) else h) h ∧ l.foldl (fun (h c : Int) => if 0 ≤ c ∧ c < r.length then hashB h (encD (r.getD c.toNat nul)) else h) h ≤ 18446744073709551615 := by
    intro l
    induction l with
    | nil => exact fun h h0 => h0
    | cons x l ih =>
      intro h h0
      refine ih _ ?_
      dsimp only
      split
      · exact hashB_u h0 _
      · exact h0
  exact this cs _ ⟨by decide, by decide⟩

set_option maxRecDepth 100000 in
set_option maxHeartbeats 1000000 in
theorem part1_37 (r : List Dat) (cs : List Int) (n v : Int) (p Y : Nat) (rv cv x1 x2 x3 : Value) (w : World) (hp : w.heap[p]? = some (.cells #[rv, x1, x2, x3] 51 (0, 0))) (hr : RowAt w rv r) (hok : ∀ d ∈ r, okD d = true) (hrf : ∀ d ∈ r, d.fits) (hrl : r.length ≤ 1073741824)
    (hY : w.heap[Y]? = some (.cells #[cv] 32 (0, 0))) (hY1 : w.heap[Y + 1]? = some (.cells #[.int .i64 n] 3 (0, 0))) (hY2 : w.heap[Y + 2]? = some (.cells #[.int .i64 v] 3 (0, 0))) (hc : IntsOn (fun _ => True) w cs cv) (hcl : cs.length ≤ 1073741824) (hn : 1 ≤ n ∧ n ≤ 8) (hv : 0 ≤ v ∧ v < n) :
    Calls Tryz.prog 37 #[.pointer (some ⟨p, 0, none⟩), .pointer (some ⟨Y, 0, none⟩), .pointer (some ⟨Y + 1, 0, none⟩), .pointer (some ⟨Y + 2, 0, none⟩)] w fun e w' => e = .returned (.bool (decide (hashR r cs % n = v))) ∧ Below w.heap.size w w' := by
  obtain ⟨ca, cc, rfl, -, -⟩ := id hc
  obtain ⟨ra, rc, rfl⟩ := rowAt_slice hr
  have hh : ∀ W, Below w.heap.size w W → Calls Tryz.prog 38 #[.slice ra r.length rc, .slice ca cs.length cc] W fun e w' => e = .returned (.int .u64 (hashR r cs)) ∧ Below W.heap.size W w' := fun W hb => hash_38 r cs _ _ W (hr.below hb) hok hrf hrl (hc.below hb) hcl
  obtain ⟨N, eN⟩ : ∃ N, N = r.length := ⟨_, rfl⟩
  obtain ⟨h, eh⟩ : ∃ h, h = hashR r cs := ⟨_, rfl⟩
  obtain ⟨h0, h1⟩ := hashR_u r cs
  rw [← eh] at h0 h1 hh ⊢
  rw [← eN] at hh hp
  have HH := Lib.hid hh
  have hs : ∀ W, Below w.heap.size w W → W.cell? ⟨p, 0, none⟩ = some (.slice ra N rc) ∧ W.cell? ⟨Y, 0, none⟩ = some (.slice ca cs.length cc) ∧ W.cell? ⟨Y + 1, 0, none⟩ = some (.int .i64 n) ∧ W.cell? ⟨Y + 2, 0, none⟩ = some (.int .i64 v) := fun W hb => ⟨cell_of_heap (keepB hp hb) rfl, cell_of_heap (keepB hY hb) rfl, cell_of_heap (keepB hY1 hb) rfl, cell_of_heap (keepB hY2 hb) rfl⟩
  have HS := Lib.hid hs
  have hn1 : IntKind.u64.wrap n = n := by rw [IntKind.wrap_u64]; omega
  have hv1 : IntKind.u64.wrap v = v := by rw [IntKind.wrap_u64]; omega
  have hn0 : ¬ n = 0 := by omega
  have HFIN := Lib.hid (show (h.tmod n == v) = decide (h % n = v) by rw [Int.tmod_eq_emod_of_nonneg h0]; by_cases e : h % n = v <;> simp [e])
  clear hh hs hp hY hY1 hY2 hr hc eh eN hok hrf
  go_enter Tryz.func37, Tryz.ntmps37
  go_upto_region 1 with fail
  have CB0 := Lib.hid (show Below w.heap.size w w.drew from ⟨rfl, rfl, rfl, Nat.le_refl _, fun _ _ => rfl⟩)
  refine wp_region_held_drew (S := fun W => W.cell? ⟨p, 0, none⟩ = some (.slice ra N rc) ∧ W.cell? ⟨Y, 0, none⟩ = some (.slice ca cs.length cc) ∧ W.cell? ⟨Y + 1, 0, none⟩ = some (.int .i64 n) ∧ W.cell? ⟨Y + 2, 0, none⟩ = some (.int .i64 v)) (by kernel_rfl) (HS.out _ CB0.out) (fun hHeld => ?_)
  refine wpAnyH_take (i := 0) (oi := ⟨some 6, _, _, _, _, _⟩) (v := ?_) rfl (by kernel_rfl) (by kernel_rfl) (by kernel_rfl) (fun _ _ _ h => h) (Or.inl ⟨by rfl, ?_⟩) (by assumption) ?_; rotate_left; (intro w hSw; (try dsimp only at hSw); go_simp; (try with_reducible rfl)); (try simp only [Act.put, List.setIfInBounds_toArray, List.set_cons_zero, List.set_cons_succ])
  refine wpAnyH_take (i := 1) (oi := ⟨some 7, _, _, _, _, _⟩) (v := ?_) rfl (by kernel_rfl) (by kernel_rfl) (by kernel_rfl) (fun _ _ _ h => h) (Or.inl ⟨by rfl, ?_⟩) (by assumption) ?_; rotate_left; (intro w hSw; (try dsimp only at hSw); go_simp; (try with_reducible rfl)); (try simp only [Act.put, List.setIfInBounds_toArray, List.set_cons_zero, List.set_cons_succ])
  refine wpAnyH_take (i := 2) (oi := ⟨some 8, _, _, _, _, _⟩) (v := ?_) rfl (by kernel_rfl) (by kernel_rfl) (by kernel_rfl) (fun _ _ _ h => h) (Or.inl ⟨by rfl, ?_⟩) (by assumption) ?_; rotate_left; (intro w hSw; (try dsimp only at hSw); go_simp; (try with_reducible rfl)); (try simp only [Act.put, List.setIfInBounds_toArray, List.set_cons_zero, List.set_cons_succ])
  refine wpAnyH_take (i := 3) (oi := ⟨some 9, _, _, _, _, _⟩) (v := ?_) rfl (by kernel_rfl) (by kernel_rfl) (by kernel_rfl) (fun _ _ _ h => h) (Or.inl ⟨by rfl, ?_⟩) (by assumption) ?_; rotate_left; (intro w hSw; (try dsimp only at hSw); go_simp; (try with_reducible rfl)); (try simp only [Act.put, List.setIfInBounds_toArray, List.set_cons_zero, List.set_cons_succ])
  refine wpAnyH_take (i := 4) (oi := ⟨some 10, _, _, _, _, _⟩) (v := ?_) rfl (by kernel_rfl) (by kernel_rfl) (by kernel_rfl) (fun _ _ _ h => h) (Or.inl ⟨by rfl, ?_⟩) (by assumption) ?_; rotate_left; (intro w hSw; (try dsimp only at hSw); go_simp; (try with_reducible rfl)); (try simp only [Act.put, List.setIfInBounds_toArray, List.set_cons_zero, List.set_cons_succ])
  refine wpAnyH_take (i := 6) (oi := ⟨some 12, _, _, _, _, _⟩) (v := ?_) rfl (by kernel_rfl) (by kernel_rfl) (by kernel_rfl) (fun _ _ _ h => h) (Or.inl ⟨by rfl, ?_⟩) (by assumption) ?_; rotate_left; (intro w hSw; (try dsimp only at hSw); go_simp; (try with_reducible rfl)); (try simp only [Act.put, List.setIfInBounds_toArray, List.set_cons_zero, List.set_cons_succ])
  refine wpAnyH_take (i := 7) (oi := ⟨some 13, _, _, _, _, _⟩) (v := ?_) rfl (by kernel_rfl) (by kernel_rfl) (by kernel_rfl) (fun _ _ _ h => h) (Or.inl ⟨by rfl, ?_⟩) (by assumption) ?_; rotate_left; (intro w hSw; (try dsimp only at hSw); go_simp; (try with_reducible rfl)); (try simp only [Act.put, List.setIfInBounds_toArray, List.set_cons_zero, List.set_cons_succ])
  refine wpAnyH_take (i := 9) (oi := ⟨some 15, _, _, _, _, _⟩) (v := ?_) rfl (by kernel_rfl) (by kernel_rfl) (by kernel_rfl) (fun _ _ _ h => h) (Or.inl ⟨by rfl, ?_⟩) (by assumption) ?_; rotate_left; (intro w hSw; (try dsimp only at hSw); go_simp; (try with_reducible rfl)); (try simp only [Act.put, List.setIfInBounds_toArray, List.set_cons_zero, List.set_cons_succ])
  refine wpAnyH_take (i := 10) (oi := ⟨some 16, _, _, _, _, _⟩) (v := ?_) rfl (by kernel_rfl) (by kernel_rfl) (by kernel_rfl) (fun _ _ _ h => h) (Or.inl ⟨by rfl, ?_⟩) (by assumption) ?_; rotate_left; (intro w hSw; (try dsimp only at hSw); go_simp; (try with_reducible rfl)); (try simp only [Act.put, List.setIfInBounds_toArray, List.set_cons_zero, List.set_cons_succ])
  refine wpAnyH_ready (rs := [5]) (by kernel_rfl) (by simp) ?_
  refine AllReadyH.cons (o := ⟨some 11, _, _, _, _, _⟩) rfl (fun K hK => ?_) (AllReadyH.nil)
  go_simp
  go_at_call 38
  with_reducible refine (HH.out _ CB0.out).mono ?_
  rintro ev V1 ⟨rfl, hbx⟩
  have CB1 := Lib.hid (stepB CB0.out hbx)
  clear hbx
  go_wp2_with fail
  refine hK.out _ _ (HS.out _ CB1.out) (fun hHeld => ?_)
  clear hK K
  skip
  refine wpAnyH_take (i := 8) (oi := ⟨some 14, _, _, _, _, _⟩) (v := ?_) rfl (by kernel_rfl) (by kernel_rfl) (by kernel_rfl) (fun _ _ _ h => h) (Or.inl ⟨by rfl, ?_⟩) (by assumption) ?_; rotate_left; (intro w hSw; (try dsimp only at hSw); go_simp; (try with_reducible rfl)); (try simp only [Act.put, List.setIfInBounds_toArray, List.set_cons_zero, List.set_cons_succ])
  refine wpAnyH_take (i := 11) (oi := ⟨some 17, _, _, _, _, _⟩) (v := ?_) rfl (by kernel_rfl) (by kernel_rfl) (by kernel_rfl) (fun _ _ _ h => h) (Or.inl ⟨by rfl, ?_⟩) (by assumption) ?_; rotate_left; (intro w hSw; (try dsimp only at hSw); go_simp; (try with_reducible rfl)); (try simp only [Act.put, List.setIfInBounds_toArray, List.set_cons_zero, List.set_cons_succ])
  refine wpAnyH_take (i := 12) (oi := ⟨some 5, _, _, _, _, _⟩) (v := ?_) rfl (by kernel_rfl) (by kernel_rfl) (by kernel_rfl) (fun _ _ _ h => h) (Or.inl ⟨by rfl, ?_⟩) (by assumption) ?_; rotate_left; (intro w hSw; (try dsimp only at hSw); go_simp; (try with_reducible rfl)); (try simp only [Act.put, List.setIfInBounds_toArray, List.set_cons_zero, List.set_cons_succ])
  refine wpAnyH_done (by kernel_rfl) ?_ _
  go_wp2_with fail
  go_ret
  exact ⟨by rw [← HFIN.out]; rfl, CB1.out⟩

set_option maxRecDepth 100000 in
set_option maxHeartbeats 1000000 in
theorem part_none (a ca : Option Addr) (n uc cn cc : Nat) (w : World) : Calls Tryz.prog 16 #[.slice a n uc, .slice ca cn cc, .int .i64 0, .int .i64 0] w fun e w' => e = .returned (.slice none 0 0) ∧ Below w.heap.size w w' := by
  go_enter Tryz.func16, Tryz.ntmps16
  go_wp2_with fail
  go_ret
  exact ⟨rfl, three_below _ _ _ _⟩
end Go.Proofs.YtlpehdhgdpeoeaaGreatDoor
/- The reference's Part. -/
namespace Go.Proofs.YtlpehdhgdpeoeaaGreatDoor
open Go.RowKit Go.Pen Go.Shelf
attribute [local go_sem] Oper.semAt_some

set_option maxRecDepth 100000 in
set_option maxHeartbeats 2000000 in
theorem refpart_17 (us : List Upd) (cs : List Int) (n v : Int) (a : Option Addr) (uc : Nat) (cv : Value) (w : World) (hus : UpsAt w (.slice a us.length uc) us) (hl : us.length ≤ 300) (gus : ∀ u ∈ us, u.good) (hc : IntsOn (fun _ => True) w cs cv) (hcl : cs.length ≤ 1073741824) (hn : 1 ≤ n ∧ n ≤ 8) (hv : 0 ≤ v ∧ v < n) :
    Calls Tryz.prog 17 #[.slice a us.length uc, cv, .int .i64 n, .int .i64 v] w fun e w' => ∃ ov, e = .returned ov ∧ UpsAt w' ov (allF (partD cs n v) us) ∧ Below w.heap.size w w' := by
  obtain ⟨i0, hi0, hz0, hz1, hz2⟩ := info_parts info51
  obtain ⟨ca, cc, rfl, -, -⟩ := id hc
  obtain ⟨a', uc', ea, -, hat⟩ := hus
  cases ea
  obtain ⟨K, eK⟩ : ∃ K, K = us.length := ⟨_, rfl⟩
  rw [← eK] at hl ⊢
  have EK := Lib.hid eK
  have HAT := Lib.hid hat
  have GUS := Lib.hid gus
  have HC := Lib.hid hc
  have hn1 : 1 ≤ n := hn.1
  have hnw : IntKind.u64.wrap n = n := by rw [IntKind.wrap_u64]; omega
  have hvw : IntKind.u64.wrap v = v := by rw [IntKind.wrap_u64]; omega
  have hn0 : ¬ n = 0 := by omega
  have hv0 : 0 ≤ v := hv.1
  clear eK hat gus hc
  go_enter Tryz.func17, Tryz.ntmps17
  go_wp2_with fail
  go_loopg [9, 10] K (fun g s9 s10 wr => ∃ (i : Nat) (xs : List Value), i ≤ K ∧ g = K - i ∧ s10 = .int .i64 i ∧ wr.ownsRow w.heap.size 51 4 s9 (allF (partD cs n v) (us.take i)).length xs ∧ Els w xs (allF (partD cs n v) (us.take i)) ∧ Below w.heap.size w wr)
  case atStart => exact ⟨0, [], Nat.zero_le _, rfl, rfl, World.ownsRow_nil _ _ _ _, Els.nil, Below.refl _ _⟩
  case round =>
    obtain ⟨i, xs, hi, rfl, rfl, hown, hels, hbr⟩ := hrel
    obtain ⟨oa, oc, rfl⟩ := ownsRow_slice hown
    obtain ⟨M, eM⟩ : ∃ M, M = (allF (partD cs n v) (us.take i)).length := ⟨_, rfl⟩
    have hml : M ≤ 300 := by rw [eM]; exact Nat.le_trans (allF_len _) (by rw [List.length_take]; omega)
    rw [← eM] at hown
    rw [← eM]
    have EM := Lib.hid eM
    have HOW := Lib.hid hown
    have HEL := Lib.hid hels
    have HBR := Lib.hid hbr
    clear hown hels hbr eM
    by_cases hlt : i < K
    · obtain ⟨u, hu⟩ : ∃ u, us[i]? = some u := ⟨us[i]'(by rw [← EK.out]; exact hlt), List.getElem?_eq_getElem _⟩
      obtain ⟨b, o, rfl, hg⟩ := HAT.out (fun e => by rw [e] at hu; simp at hu)
      obtain ⟨xrv, xlv, p0, p1, p2, p3, hxr, hxl⟩ := hg i u hu
      have hgu := GUS.out u (List.mem_of_getElem? hu)
      have hhc := hash_39 u.row cs xrv _ wr (hxr.below HBR.out) hgu.1 hgu.2.1.row hgu.2.1.lr (HC.out.below HBR.out) hcl
      obtain ⟨h, eh⟩ : ∃ h, h = hashR u.row cs := ⟨_, rfl⟩
      obtain ⟨h0, h1⟩ := hashR_u u.row cs
      rw [← eh] at h0 h1 hhc
      have HH := Lib.hid hhc
      have HXR := Lib.hid hxr
      have HXL := Lib.hid hxl
      obtain ⟨xa, xc, rfl⟩ := rowAt_slice hxr
      obtain ⟨xl, xd, rfl⟩ := hxl.slice
      have q0 := cell_keep HBR.out p0
      have htk : us.take (i + 1) = us.take i ++ [u] := by rw [List.take_add_one, hu]; rfl
      have EH := Lib.hid eh
      have HTK := Lib.hid htk
      have P0 := Lib.hid p0
      have P1 := Lib.hid p1
      have P2 := Lib.hid p2
      have P3 := Lib.hid p3
      clear hg hu hhc hxr hxl eh htk hgu p0 p1 p2 p3
      by_cases hin : h % n = v
      · have hbp : h.tmod n = v := by rw [Int.tmod_eq_emod_of_nonneg h0]; exact hin
        have hnew : allF (partD cs n v) (us.take (i + 1)) = allF (partD cs n v) (us.take i) ++ [u] := by rw [HTK.out, allF_snoc, if_pos (by show decide (hashR u.row cs % n = v) = true; rw [← EH.out]; simp [hin])]; rfl
        have HNW := Lib.hid hnew
        clear hnew hin
        go_wp2_with fail
        refine HH.out.mono ?_
        rintro e w5 ⟨rfl, hb5⟩
        have HB5 := Lib.hid (stepB HBR.out hb5)
        have HO5 := Lib.hid (Below.ownsRow' hb5 HOW.out)
        have p0 := cell_keep HB5.out P0.out
        have p1 := cell_keep HB5.out P1.out
        have p2 := cell_keep HB5.out P2.out
        have p3 := cell_keep HB5.out P3.out
        have hs5 := HB5.out.size
        clear hb5 HH q0
        go_wp2_with (at_builtin; go_must (refine wpList_append_own _ rfl _ _ 22 rfl w.heap.size 51 i0 _ 4 64 Tryz.underlying22 hi0 hz0 hz1 hz2 rfl (by decide) _ M xs rfl (HO5.out.alloc _) ⟨w5.heap.size, 0, none⟩ 1 1 [.slice xa u.row.length xc, .int .u64 u.epoch, .slice xl u.loops.length xd, .int .i64 u.diff] rfl rfl (World.news_of_block (cs := #[.slice xa u.row.length xc, .int .u64 u.epoch, .slice xl u.loops.length xd, .int .i64 u.diff]) (heap_alloc_new _ _)) (by intro y hy; simp at hy; rcases hy with rfl | rfl | rfl | rfl <;> rfl) (by unfold maxLen; omega) (by omega) (by simp <;> omega) ?_))
        intro v6 w6 hown6 hgrow6 _
        have hb6 : Below w.heap.size w w6 := (HB5.out.alloc HB5.out.size (.cells #[.slice xa u.row.length xc, .int .u64 u.epoch, .slice xl u.loops.length xd, .int .i64 u.diff] 51)).grown hgrow6 (by simp <;> omega) (fun q hq => (HO5.out.lt q hq).1)
        have HB6 := Lib.hid hb6
        have hown7 : w6.ownsRow w.heap.size 51 4 v6 (allF (partD cs n v) (us.take (i + 1))).length (xs ++ [.slice xa u.row.length xc, .int .u64 u.epoch, .slice xl u.loops.length xd, .int .i64 u.diff]) := by rw [HNW.out, List.length_append, ← EM.out]; exact hown6
        have HO7 := Lib.hid hown7
        clear hown6 hgrow6 hb6 hown7
        go_wp2
        go_roundg (K - (i + 1))
        case measure => omega
        case rel => exact ⟨i + 1, _, by omega, rfl, by go_num, HO7.out, by rw [HNW.out]; exact HEL.out.append (Els.one HXR.out HXL.out), HB6.out⟩
      · have hbp : ¬ h.tmod n = v := by rw [Int.tmod_eq_emod_of_nonneg h0]; exact hin
        have hbe : (h % n == v) = false := by simp [hin]
        have hnew : allF (partD cs n v) (us.take (i + 1)) = allF (partD cs n v) (us.take i) := by rw [HTK.out, allF_snoc, if_neg (by show ¬ decide (hashR u.row cs % n = v) = true; rw [← EH.out]; simp [hin])]
        have HNW := Lib.hid hnew
        clear hnew
        go_wp2_with fail
        refine HH.out.mono ?_
        rintro e w5 ⟨rfl, hb5⟩
        have HB5 := Lib.hid (stepB HBR.out hb5)
        have HO5 := Lib.hid (Below.ownsRow' hb5 HOW.out)
        clear hb5 HH q0
        go_wp2_with fail
        go_roundg (K - (i + 1))
        case measure => omega
        case rel => exact ⟨i + 1, xs, by omega, rfl, by go_num, by rw [HNW.out, ← EM.out]; exact HO5.out, by rw [HNW.out]; exact HEL.out, HB5.out⟩
    · have hiK : us.take i = us := List.take_of_length_le (by have := EK.out; omega)
      have hel := HEL.out
      have hem := EM.out
      rw [hiK] at hel hem
      have HU := Lib.hid ((hel.below HBR.out).at HOW.out).2
      clear hel hem
      go_wp2_with fail
      go_ret
      exact ⟨_, rfl, HU.out, HBR.out⟩
end Go.Proofs.YtlpehdhgdpeoeaaGreatDoor
/- Rows with counts: what a slice of them reads as. -/
namespace Go.Proofs.YtlpehdhgdpeoeaaGreatDoor
open Go.RowKit Go.Pen Go.Shelf
attribute [local go_sem] Oper.semAt_some

/-- what a slice of rows with counts reads as (the counts stand for differences, at time 0) -/
def CtsAt (w : World) (v : Value) (us : List Upd) : Prop :=
  ∃ a c, v = .slice a us.length c ∧ (a = none → c = 0) ∧ (us ≠ [] → ∃ b o, a = some ⟨b, o, none⟩ ∧ ∀ i u, us[i]? = some u → ∃ rv, w.cell? ⟨b, o + i * 2, none⟩ = some rv ∧ w.cell? ⟨b, o + i * 2 + 1, none⟩ = some (.int .i64 u.diff) ∧ RowAt w rv u.row)
/-- values that hold rows with counts, two each -/
structure Els2 (w : World) (xs : List Value) (us : List Upd) : Prop where
  len : xs.length = us.length * 2
  el : ∀ i u, us[i]? = some u → ∃ rv, xs[i * 2]? = some rv ∧ xs[i * 2 + 1]? = some (.int .i64 u.diff) ∧ RowAt w rv u.row
theorem CtsAt.below {w w' : World} {v : Value} {us : List Upd} (h : CtsAt w v us) (hb : Below w.heap.size w w') : CtsAt w' v us := by
  obtain ⟨a, c, rfl, hz, h⟩ := h
  refine ⟨a, c, rfl, hz, fun hne => ?_⟩
  obtain ⟨b, o, rfl, g⟩ := h hne
  refine ⟨b, o, rfl, fun i u hu => ?_⟩
  obtain ⟨rv, q0, q1, hr⟩ := g i u hu
  exact ⟨rv, cell_keep hb q0, cell_keep hb q1, hr.below hb⟩
theorem Els2.below {w w' : World} {xs : List Value} {us : List Upd} (h : Els2 w xs us) (hb : Below w.heap.size w w') : Els2 w' xs us := ⟨h.len, fun i u hu => by
  obtain ⟨rv, q0, q1, hr⟩ := h.el i u hu
  exact ⟨rv, q0, q1, hr.below hb⟩⟩
theorem CtsAt.slice {w : World} {v : Value} {xs : List Upd} (h : CtsAt w v xs) : ∃ a c, v = .slice a xs.length c := by obtain ⟨a, c, rfl, _⟩ := h; exact ⟨a, c, rfl⟩
theorem Els2.nil {w : World} : Els2 w [] [] := ⟨rfl, fun i u h => by simp at h⟩
theorem Els2.one {w : World} {rv : Value} {u : Upd} (hr : RowAt w rv u.row) : Els2 w [rv, .int .i64 u.diff] [u] := ⟨rfl, fun i x hx => by
  rcases i with _ | i
  · cases hx; exact ⟨rv, rfl, rfl, hr⟩
  · simp at hx⟩
theorem Els2.append {w : World} {xs ys : List Value} {us vs : List Upd} (h : Els2 w xs us) (k : Els2 w ys vs) : Els2 w (xs ++ ys) (us ++ vs) := ⟨by rw [List.length_append, List.length_append, h.len, k.len]; omega, fun i u hu => by
  have hl := h.len
  by_cases hi : i < us.length
  · rw [List.getElem?_append_left hi] at hu
    obtain ⟨rv, q0, q1, hr⟩ := h.el i u hu
    refine ⟨rv, ?_, ?_, hr⟩ <;> rw [List.getElem?_append_left (by omega)] <;> assumption
  · rw [List.getElem?_append_right (by omega)] at hu
    obtain ⟨rv, q0, q1, hr⟩ := k.el _ u hu
    refine ⟨rv, ?_, ?_, hr⟩ <;> rw [List.getElem?_append_right (by omega)]
    · rw [show i * 2 - xs.length = (i - us.length) * 2 by omega]; exact q0
    · rw [show i * 2 + 1 - xs.length = (i - us.length) * 2 + 1 by omega]; exact q1⟩
theorem Els2.take {w : World} {xs : List Value} {us : List Upd} (h : Els2 w xs us) {k : Nat} (hk : k ≤ us.length) : Els2 w (xs.take (k * 2)) (us.take k) := ⟨by have := h.len; rw [List.length_take, List.length_take]; omega, fun i u hu => by
  rw [List.getElem?_take] at hu
  split at hu
  · next hi =>
    obtain ⟨rv, q0, q1, hr⟩ := h.el i u hu
    refine ⟨rv, ?_, ?_, hr⟩ <;> rw [List.getElem?_take_of_lt (by omega)] <;> assumption
  · cases hu⟩
theorem Els2.drop {w : World} {xs : List Value} {us : List Upd} (h : Els2 w xs us) (k : Nat) : Els2 w (xs.drop (k * 2)) (us.drop k) := ⟨by have := h.len; rw [List.length_drop, List.length_drop]; omega, fun i u hu => by
  rw [List.getElem?_drop] at hu
  obtain ⟨rv, q0, q1, hr⟩ := h.el (k + i) u hu
  refine ⟨rv, ?_, ?_, hr⟩ <;> rw [List.getElem?_drop]
  · rw [show k * 2 + i * 2 = (k + i) * 2 by omega]; exact q0
  · rw [show k * 2 + (i * 2 + 1) = (k + i) * 2 + 1 by omega]; exact q1⟩
/-- what is read, as values -/
theorem CtsAt.els {w : World} {v : Value} {us : List Upd} (h : CtsAt w v us) : ∃ a c xs, v = .slice a us.length c ∧ Els2 w xs us ∧ (∀ ad, a = some ad → ∀ j x, xs[j]? = some x → w.cell? (ad.add j) = some x) ∧ (a = none → c = 0 ∧ us = []) := by
  obtain ⟨a, c, rfl, hz, h⟩ := h
  by_cases hne : us = []
  · subst hne
    exact ⟨a, c, [], rfl, Els2.nil, fun ad _ j x hx => by simp at hx, fun e => ⟨hz e, rfl⟩⟩
  · obtain ⟨b, o, rfl, g⟩ := h hne
    have hcell : ∀ j, j < us.length * 2 → ∃ x, w.cell? ⟨b, o + j, none⟩ = some x := fun j hj => by
      have hi : j / 2 < us.length := by omega
      obtain ⟨rv, q0, q1, -⟩ := g (j / 2) us[j / 2] (List.getElem?_eq_getElem hi)
      have : j % 2 = 0 ∨ j % 2 = 1 := by omega
      rcases this with e | e
      · exact ⟨_, by rw [show o + j = o + j / 2 * 2 by omega]; exact q0⟩
      · exact ⟨_, by rw [show o + j = o + j / 2 * 2 + 1 by omega]; exact q1⟩
    have hget : ∀ j x, j < us.length * 2 → w.cell? ⟨b, o + j, none⟩ = some x → ((List.range (us.length * 2)).map fun j => (w.cell? ⟨b, o + j, none⟩).getD undef)[j]? = some x := fun j x hj hx => by
      rw [List.getElem?_map, List.getElem?_range hj]
      simp [hx]
    refine ⟨_, c, (List.range (us.length * 2)).map fun j => (w.cell? ⟨b, o + j, none⟩).getD undef, rfl, ⟨by simp, fun i u hu => ?_⟩, fun ad e j x hx => ?_, fun e => by cases e⟩
    · have hi := (List.getElem?_eq_some_iff.1 hu).1
      obtain ⟨rv, q0, q1, hr⟩ := g i u hu
      exact ⟨rv, hget _ _ (by omega) q0, hget _ _ (by omega) q1, hr⟩
    · cases e
      have hj := (List.getElem?_eq_some_iff.1 hx).1
      simp at hj
      obtain ⟨y, hy⟩ := hcell j hj
      rw [hget j y hj hy] at hx
      cases hx
      rw [add_lit]
      exact hy
theorem Els2.at {w : World} {base n : Nat} {v : Value} {xs : List Value} {us : List Upd} (h : Els2 w xs us) (ho : w.ownsRow base 77 2 v n xs) : n = us.length ∧ CtsAt w v us := by
  have hl := h.len
  have hn := ho.1
  obtain rfl : n = us.length := by omega
  obtain ⟨a, c, rfl⟩ := ownsRow_slice ho
  refine ⟨rfl, a, c, rfl, owns_nil ho, fun hne => ?_⟩
  obtain ⟨g, cap, hv, _, _⟩ := ho.form (List.length_pos_iff.2 hne)
  simp only [Value.slice.injEq] at hv
  obtain ⟨rfl, _, rfl⟩ := hv
  refine ⟨g, 0, rfl, fun i u hu => ?_⟩
  have hc := (ownsRow_heap ho).2.2.2
  obtain ⟨rv, q0, q1, hr⟩ := h.el i u hu
  rw [Nat.zero_add]
  exact ⟨rv, hc _ _ q0, hc _ _ q1, hr⟩
theorem Els2.ones {w : World} {xs : List Value} {us : List Upd} (h : Els2 w xs us) : ∀ x ∈ xs, x.oneCell' = true := fun x hx => by
  obtain ⟨j, hj⟩ := List.mem_iff_getElem?.1 hx
  have hl := h.len
  have hjl := (List.getElem?_eq_some_iff.1 hj).1
  have hi : j / 2 < us.length := by omega
  obtain ⟨rv, q0, q1, hr⟩ := h.el (j / 2) us[j / 2] (List.getElem?_eq_getElem hi)
  have : j % 2 = 0 ∨ j % 2 = 1 := by omega
  rcases this with e | e
  · rw [show j = j / 2 * 2 by omega, q0] at hj
    cases hj
    obtain ⟨a, c, rfl⟩ := rowAt_slice hr
    rfl
  · rw [show j = j / 2 * 2 + 1 by omega, q1] at hj
    cases hj
    rfl
theorem info77 : (Tryz.prog.info? 77).map (fun i => (i.zero, i.size, i.bytes)) = some (some (.agg #[.slice none 0 0, .int .i64 0]), 2, 32) := by kernel_rfl
end Go.Proofs.YtlpehdhgdpeoeaaGreatDoor
