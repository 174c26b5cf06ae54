/- The reference's Lex. -/
import Derived.Test.YtpjfkfbijimliaaDoorZv
import Derived.Test.YtpjfkfbijimliaaDoorZg
namespace Go.Proofs.YtpjfkfbijimliaaDoor
open Go.RowKit Go.Pen

def RefPost (s : ByteArray) (w : World) (e : Ending) (w' : World) : Prop :=
  match lexed s.data.toList with
  | .ok ts => ∃ v, e = .returned (.tuple #[v, .int .i64 0, .int .i64 0]) ∧ w'.ownsRow w.heap.size 37 4 v ts.length (toksc ts) ∧ Below w.heap.size w w'
  | .err a c => e = .returned (.tuple #[.slice none 0 0, .int .i64 a, .int .i64 c]) ∧ Below w.heap.size w w'

theorem refPost_err {s : ByteArray} {w w' : World} {a c : Nat} (h : lexed s.data.toList = .err a c) (hb : Below w.heap.size w w') : RefPost s w (.returned (.tuple #[.slice none 0 0, .int .i64 a, .int .i64 c])) w' := by
  rw [RefPost, h]; exact ⟨rfl, hb⟩

def RxRel (s : ByteArray) (H : Nat) (w : World) (v : Value) (j : Nat) (wr : World) : Prop :=
  ∃ f acc, j ≤ s.size ∧ acc.length ≤ j ∧ s.size - j ≤ f ∧ Below H w wr ∧ wr.ownsRow H 37 4 v acc.length (toksc acc) ∧ Res.app acc (lxb (lx f) acc.length j (s.data.toList.drop j)) = lexed s.data.toList

set_option maxRecDepth 100000 in
set_option maxHeartbeats 16000000 in
theorem lex_12 (s : ByteArray) (w : World) : Calls Tryd.prog 12 #[.string s] w (RefPost s w) := by
  obtain ⟨i0, hi, hz0, hz1, hz2⟩ := info_parts info37
  by_cases hbig : 16384 < s.size
  · have hd : decide ((16384 : Int) < (s.size : Int)) = true := by simp; omega
    go_enter Tryd.func12, Tryd.ntmps12
    go_wp2_with fail
    refine bodyPost_ret (v := .tuple #[.slice none 0 0, .int .i64 16384, .int .i64 162]) (by simp [results, Tryd.results12, go_sem]) rfl ?_
    exact refPost_err (a := 16384) (c := 162) (by rw [lexed, if_pos (by rw [len_list]; exact hbig)]) (Below.refl _ _)
  · have hd : decide ((16384 : Int) < (s.size : Int)) = false := by simp; omega
    have hs : s.size ≤ 16384 := by omega
    have HLX : Hid (lexed s.data.toList = lxb (lx s.size) 0 (sk false s.data.toList) (s.data.toList.drop (sk false s.data.toList))) := Lib.hid (by
      rw [lexed, if_neg (by rw [len_list]; exact hbig), lx, len_list]
      simp only [Nat.zero_add])
    obtain ⟨H, hH⟩ : ∃ H, w.heap.size = H := ⟨_, rfl⟩
    have HH := Lib.hid hH
    clear hbig hH
    obtain ⟨J, hJ⟩ : ∃ J, 0 + sk false (s.data.toList.drop 0) = J := ⟨_, rfl⟩
    have hbl := blank_26 s 0 w (Nat.zero_le _) hs
    rw [hJ] at hbl
    have HBL := Lib.hid hbl
    have hr0 : RxRel s H w (.slice none 0 0) J w := by
      rw [List.drop_zero, Nat.zero_add] at hJ
      rw [← hJ]
      refine ⟨s.size, [], ?_, Nat.zero_le _, by omega, Below.refl _ _, World.ownsRow_nil _ _ _ _, HLX.out.symm⟩
      have := sk_le false s.data.toList; rwa [len_list] at this
    have HR0 := Lib.hid hr0
    clear hbl hJ hr0
    go_enter Tryd.func12, Tryd.ntmps12
    go_wp2_with fail
    refine HBL.out.mono ?_
    rintro _ wx ⟨rfl, hwx⟩
    rw [hwx]
    clear hwx HBL
    clear hd
    go_wp2_with fail
    go_loopw [5, 6] (fun v a wr => ∃ j : Nat, a = .int .i64 j ∧ RxRel s H w v j wr) (fun _ a _ => s.size - (intOf a).toNat)
    case atStart => exact ⟨J, rfl, HR0.out⟩
    case round =>
      clear HR0
      obtain ⟨j, rfl, f, acc, hj, hacc, hf, hb, ho, he⟩ := hrel
      obtain ⟨va, vc, rfl⟩ := ownsRow_slice ho
      have HE := Lib.hid he
      have HO := Lib.hid ho
      have HB := Lib.hid hb
      clear he ho hb
      by_cases hlt : j < s.size
      · have hd : decide ((j : Int) < (s.size : Int)) = true := by simpa using hlt
        obtain ⟨c, cs, hcs, -⟩ := drop_cons hlt
        have hget := get_of_drop hcs hlt
        have HC := Lib.hid hcs
        have hne : (s.data.toList.drop j).isEmpty = false := by rw [hcs]; rfl
        have HE1 := HE.out
        rw [lxb, hne, if_neg (by decide)] at HE1
        have hbeg : beg (s.data.toList.drop j) = (c == 39 || dig c || let_ c || !(sgn (s.data.toList.drop j)).isEmpty) := by rw [hcs]; rfl
        have HBEG := Lib.hid hbeg
        have hone := one_30 s j
        have hsg := fun u => sign_29 s j u (Nat.le_of_lt hlt) hs
        have HSG := Lib.hid hsg
        have HE2 := Lib.hid HE1
        clear hcs hne HE1 hbeg hone hsg
        go_wp2_with fail
        refine (digit_27 c wr).mono ?_
        rintro _ wx ⟨rfl, hwx⟩
        rw [hwx]
        clear hwx
        cases hdg : dig c
        · go_wp2_with fail
          refine (letter_28 c wr).mono ?_
          rintro _ wx ⟨rfl, hwx⟩
          rw [hwx]
          clear hwx
          cases hlt2 : let_ c
          · by_cases h39 : c.toNat = 39
            · have e39 : ((c.toNat : Int) != 39) = false := by simp; omega
              have hbt : beg (s.data.toList.drop j) = true := by rw [HBEG.out, show (c == 39) = true by rw [beq_iff_eq]; exact UInt8.toNat_inj.1 h39]; rfl
              have HBT := Lib.hid hbt
              have hHW : H ≤ wr.heap.size := by have := HB.out.size; have := HH.out; omega
              have HE3 := HE2.out
              rw [hbt, if_neg (by decide)] at HE3
              clear hbt
              by_cases h4 : acc.length = 4000
              · have he4 : ((acc.length : Int) == 4000) = true := by simp; omega
                have HE4 : Hid (lexed s.data.toList = .err j 163) := Lib.hid (by rw [← HE3, if_pos h4, Res.app_err])
                clear HE3 h4
                go_wp2_with fail
                refine bodyPost_ret (v := .tuple #[.slice none 0 0, .int .i64 j, .int .i64 163]) (by simp [results, Tryd.results12, go_sem]) rfl ?_
                exact refPost_err (a := j) (c := 163) HE4.out (by rw [HH.out]; exact HB.out)
              · have he4 : ((acc.length : Int) == 4000) = false := by simp; omega
                rw [if_neg h4] at HE3
                have hone := one_30 s j wr hlt hs
                clear h4
                cases htk : tok j (s.data.toList.drop j) with
                | error x =>
                  rw [oneV_err htk] at hone
                  rw [htk] at HE3
                  have HE4 : Hid (lexed s.data.toList = .err j x) := Lib.hid (by rw [← HE3, Res.app_err])
                  have hx : ((x : Int) != 0) = true := by rw [HC.out] at htk; have := tok_err htk; simp; omega
                  have HON := Lib.hid hone
                  clear HE3 hone htk
                  unfold noTok at HON
                  go_wp2_with fail
                  refine HON.out.mono ?_
                  rintro _ w4 ⟨rfl, hb4⟩
                  have HB4 : Hid (Below H w w4) := Lib.hid (HB.out.trans (hb4.mono hHW))
                  clear hb4
                  go_wp2_with fail
                  refine bodyPost_ret (v := .tuple #[.slice none 0 0, .int .i64 j, .int .i64 x]) (by simp [results, Tryd.results12, go_sem]) rfl ?_
                  exact refPost_err (a := j) (c := x) HE4.out (by rw [HH.out]; exact HB4.out.alloc (by have := HB4.out.size; have := HH.out; omega) _)
                | ok tm =>
                  obtain ⟨t, m⟩ := tm
                  rw [oneV_ok htk] at hone
                  rw [htk] at HE3
                  obtain ⟨f', rfl⟩ : ∃ f', f = f' + 1 := ⟨f - 1, by omega⟩
                  have hl := tok_le HBT.out htk
                  rw [List.length_drop, len_list] at hl
                  obtain ⟨hl1, hl2, -⟩ := hl
                  have HE4 := Lib.hid (lx_next HE3 rfl)
                  have HON := Lib.hid hone
                  clear HE3 hone htk HE HE2
                  unfold tokv at HON
                  go_wp2_with fail
                  refine HON.out.mono ?_
                  rintro _ w4 ⟨rfl, hb4⟩
                  have HB4 : Hid (Below H w w4) := Lib.hid (HB.out.trans (hb4.mono hHW))
                  have ho4 : w4.ownsRow H 37 4 (.slice va acc.length vc) acc.length (toksc acc) := Below.ownsRow' hb4 HO.out
                  have hH4 : H ≤ w4.heap.size := by have := HB4.out.size; have := HH.out; omega
                  clear hb4
                  go_wp2_with (at_builtin; go_must (refine wpList_append_own _ rfl _ _ 22 rfl H 37 i0 (.agg #[.int .u8 0, .string ⟨#[]⟩, .int .i64 0, .int .i64 0]) 4 40 Tryd.underlying22 hi hz0 hz1 hz2 rfl (by decide) (.slice va acc.length vc) acc.length _ rfl ((ho4.alloc _).alloc _) ⟨w4.heap.size + 1, 0, none⟩ 1 1 (tokc t) rfl rfl ?c1 ?c2 ?c3 ?c4 ?c5 ?_))
                  case c1 =>
                    intro i u hu
                    rw [add_lit, Nat.zero_add]
                    have hnew : ((w4.alloc (.cells (tokc t).toArray 37)).alloc (.cells (tokc t).toArray 37)).heap[w4.heap.size + 1]? = some (.cells (tokc t).toArray 37 (0, 0)) := by
                      have hz : (w4.alloc (.cells (tokc t).toArray 37)).heap.size = w4.heap.size + 1 := by simp
                      rw [← hz]; exact heap_alloc_new _ _
                    exact cell_of_heap hnew (by rw [List.getElem?_toArray]; exact hu)
                  case c2 => intro u hu; simp [tokc] at hu; rcases hu with rfl | rfl | rfl | rfl <;> rfl
                  case c3 => unfold maxLen; omega
                  case c4 => omega
                  case c5 => simp; omega
                  intro v' w5 hown' hgrow _
                  have hb5 : Below H w w5 := ((HB4.out.alloc hH4 _).alloc (by simp; omega) _).grown hgrow (by simp; omega) (fun g hg => (ho4.lt g hg).1)
                  have ho5 : w5.ownsRow H 37 4 v' (acc ++ [t]).length (toksc (acc ++ [t])) := by
                    rw [← toksc_snoc, List.length_append, List.length_singleton]; exact hown'
                  have HB5 := Lib.hid hb5
                  have HO5 := Lib.hid ho5
                  have hbk := blank_26 s (j + m) w5 (by omega) hs
                  have HBK := Lib.hid hbk
                  have hsk := sk_le false (s.data.toList.drop (j + m))
                  rw [List.length_drop, len_list] at hsk
                  have hr6 : RxRel s H w v' (j + m + sk false (s.data.toList.drop (j + m))) w5 :=
                    ⟨f', acc ++ [t], by omega, by simp; omega, by omega, HB5.out, HO5.out, HE4.out⟩
                  have HR6 := Lib.hid hr6
                  clear hown' hgrow ho4 hb5 ho5 hbk hr6
                  go_wp2_with fail
                  refine HBK.out.mono ?_
                  rintro _ wx ⟨rfl, hwx⟩
                  rw [hwx]
                  clear hwx
                  go_wp2_with fail
                  exact ⟨⟨j + m + sk false (s.data.toList.drop (j + m)), rfl, HR6.out⟩, by simp [intOf]; omega⟩
            · have e39 : ((c.toNat : Int) != 39) = true := by simp; omega
              have hq39 : (c == 39) = false := by rw [beq_eq_false_iff_ne]; intro e; exact h39 (by rw [e]; rfl)
              obtain ⟨S, hS⟩ : ∃ S, sgn (s.data.toList.drop j) = S := ⟨_, rfl⟩
              have hsg := HSG.out wr
              rw [hS] at hsg
              have HSG2 := Lib.hid hsg
              have HS := Lib.hid hS
              clear hsg hS h39 HSG
              go_wp2_with fail
              refine HSG2.out.mono ?_
              rintro _ w3 ⟨rfl, hb3⟩
              have hHr : H ≤ wr.heap.size := by have := HB.out.size; have := HH.out; omega
              have HB3 : Hid (Below H w w3) := Lib.hid (HB.out.trans (hb3.mono hHr))
              have HO3 : Hid (w3.ownsRow H 37 4 (.slice va acc.length vc) acc.length (toksc acc)) := Lib.hid (Below.ownsRow' hb3 HO.out)
              clear hb3 hHr
              cases S with
              | nil =>
                have HE4 : Hid (lexed s.data.toList = .err j 160) := Lib.hid (by
                  rw [← HE2.out, HBEG.out, HS.out, hq39, hdg, hlt2, if_pos (by decide), Res.app_err])
                go_wp2_with fail
                refine bodyPost_ret (v := .tuple #[.slice none 0 0, .int .i64 j, .int .i64 160]) (by simp [results, Tryd.results12, go_sem]) rfl ?_
                exact refPost_err (a := j) (c := 160) HE4.out (by rw [HH.out]; exact HB3.out)
              | cons s0 ss =>
                have hse := str_ne_empty (s0 :: ss)
                have hbt : beg (s.data.toList.drop j) = true := by rw [HBEG.out, HS.out]; simp
                have HBT := Lib.hid hbt
                have hHW : H ≤ w3.heap.size := by have := HB3.out.size; have := HH.out; omega
                have HE3 := HE2.out
                rw [hbt, if_neg (by decide)] at HE3
                clear hbt
                by_cases h4 : acc.length = 4000
                · have he4 : ((acc.length : Int) == 4000) = true := by simp; omega
                  have HE4 : Hid (lexed s.data.toList = .err j 163) := Lib.hid (by rw [← HE3, if_pos h4, Res.app_err])
                  clear HE3 h4
                  go_wp2_with fail
                  refine bodyPost_ret (v := .tuple #[.slice none 0 0, .int .i64 j, .int .i64 163]) (by simp [results, Tryd.results12, go_sem]) rfl ?_
                  exact refPost_err (a := j) (c := 163) HE4.out (by rw [HH.out]; exact HB3.out)
                · have he4 : ((acc.length : Int) == 4000) = false := by simp; omega
                  rw [if_neg h4] at HE3
                  have hone := one_30 s j w3 hlt hs
                  clear h4
                  cases htk : tok j (s.data.toList.drop j) with
                  | error x =>
                    rw [oneV_err htk] at hone
                    rw [htk] at HE3
                    have HE4 : Hid (lexed s.data.toList = .err j x) := Lib.hid (by rw [← HE3, Res.app_err])
                    have hx : ((x : Int) != 0) = true := by rw [HC.out] at htk; have := tok_err htk; simp; omega
                    have HON := Lib.hid hone
                    clear HE3 hone htk
                    unfold noTok at HON
                    go_wp2_with fail
                    refine HON.out.mono ?_
                    rintro _ w4 ⟨rfl, hb4⟩
                    have HB4 : Hid (Below H w w4) := Lib.hid (HB3.out.trans (hb4.mono hHW))
                    clear hb4
                    go_wp2_with fail
                    refine bodyPost_ret (v := .tuple #[.slice none 0 0, .int .i64 j, .int .i64 x]) (by simp [results, Tryd.results12, go_sem]) rfl ?_
                    exact refPost_err (a := j) (c := x) HE4.out (by rw [HH.out]; exact HB4.out.alloc (by have := HB4.out.size; have := HH.out; omega) _)
                  | ok tm =>
                    obtain ⟨t, m⟩ := tm
                    rw [oneV_ok htk] at hone
                    rw [htk] at HE3
                    obtain ⟨f', rfl⟩ : ∃ f', f = f' + 1 := ⟨f - 1, by omega⟩
                    have hl := tok_le HBT.out htk
                    rw [List.length_drop, len_list] at hl
                    obtain ⟨hl1, hl2, -⟩ := hl
                    have HE4 := Lib.hid (lx_next HE3 rfl)
                    have HON := Lib.hid hone
                    clear HE3 hone htk HE HE2
                    unfold tokv at HON
                    go_wp2_with fail
                    refine HON.out.mono ?_
                    rintro _ w4 ⟨rfl, hb4⟩
                    have HB4 : Hid (Below H w w4) := Lib.hid (HB3.out.trans (hb4.mono hHW))
                    have ho4 : w4.ownsRow H 37 4 (.slice va acc.length vc) acc.length (toksc acc) := Below.ownsRow' hb4 HO3.out
                    have hH4 : H ≤ w4.heap.size := by have := HB4.out.size; have := HH.out; omega
                    clear hb4
                    go_wp2_with (at_builtin; go_must (refine wpList_append_own _ rfl _ _ 22 rfl H 37 i0 (.agg #[.int .u8 0, .string ⟨#[]⟩, .int .i64 0, .int .i64 0]) 4 40 Tryd.underlying22 hi hz0 hz1 hz2 rfl (by decide) (.slice va acc.length vc) acc.length _ rfl ((ho4.alloc _).alloc _) ⟨w4.heap.size + 1, 0, none⟩ 1 1 (tokc t) rfl rfl ?c1 ?c2 ?c3 ?c4 ?c5 ?_))
                    case c1 =>
                      intro i u hu
                      rw [add_lit, Nat.zero_add]
                      have hnew : ((w4.alloc (.cells (tokc t).toArray 37)).alloc (.cells (tokc t).toArray 37)).heap[w4.heap.size + 1]? = some (.cells (tokc t).toArray 37 (0, 0)) := by
                        have hz : (w4.alloc (.cells (tokc t).toArray 37)).heap.size = w4.heap.size + 1 := by simp
                        rw [← hz]; exact heap_alloc_new _ _
                      exact cell_of_heap hnew (by rw [List.getElem?_toArray]; exact hu)
                    case c2 => intro u hu; simp [tokc] at hu; rcases hu with rfl | rfl | rfl | rfl <;> rfl
                    case c3 => unfold maxLen; omega
                    case c4 => omega
                    case c5 => simp; omega
                    intro v' w5 hown' hgrow _
                    have hb5 : Below H w w5 := ((HB4.out.alloc hH4 _).alloc (by simp; omega) _).grown hgrow (by simp; omega) (fun g hg => (ho4.lt g hg).1)
                    have ho5 : w5.ownsRow H 37 4 v' (acc ++ [t]).length (toksc (acc ++ [t])) := by
                      rw [← toksc_snoc, List.length_append, List.length_singleton]; exact hown'
                    have HB5 := Lib.hid hb5
                    have HO5 := Lib.hid ho5
                    have hbk := blank_26 s (j + m) w5 (by omega) hs
                    have HBK := Lib.hid hbk
                    have hsk := sk_le false (s.data.toList.drop (j + m))
                    rw [List.length_drop, len_list] at hsk
                    have hr6 : RxRel s H w v' (j + m + sk false (s.data.toList.drop (j + m))) w5 :=
                      ⟨f', acc ++ [t], by omega, by simp; omega, by omega, HB5.out, HO5.out, HE4.out⟩
                    have HR6 := Lib.hid hr6
                    clear hown' hgrow ho4 hb5 ho5 hbk hr6
                    go_wp2_with fail
                    refine HBK.out.mono ?_
                    rintro _ wx ⟨rfl, hwx⟩
                    rw [hwx]
                    clear hwx
                    go_wp2_with fail
                    exact ⟨⟨j + m + sk false (s.data.toList.drop (j + m)), rfl, HR6.out⟩, by simp [intOf]; omega⟩
          ·
            have hbt : beg (s.data.toList.drop j) = true := by rw [HBEG.out, hlt2]; simp
            have HBT := Lib.hid hbt
            have hHW : H ≤ wr.heap.size := by have := HB.out.size; have := HH.out; omega
            have HE3 := HE2.out
            rw [hbt, if_neg (by decide)] at HE3
            clear hbt
            by_cases h4 : acc.length = 4000
            · have he4 : ((acc.length : Int) == 4000) = true := by simp; omega
              have HE4 : Hid (lexed s.data.toList = .err j 163) := Lib.hid (by rw [← HE3, if_pos h4, Res.app_err])
              clear HE3 h4
              go_wp2_with fail
              refine bodyPost_ret (v := .tuple #[.slice none 0 0, .int .i64 j, .int .i64 163]) (by simp [results, Tryd.results12, go_sem]) rfl ?_
              exact refPost_err (a := j) (c := 163) HE4.out (by rw [HH.out]; exact HB.out)
            · have he4 : ((acc.length : Int) == 4000) = false := by simp; omega
              rw [if_neg h4] at HE3
              have hone := one_30 s j wr hlt hs
              clear h4
              cases htk : tok j (s.data.toList.drop j) with
              | error x =>
                rw [oneV_err htk] at hone
                rw [htk] at HE3
                have HE4 : Hid (lexed s.data.toList = .err j x) := Lib.hid (by rw [← HE3, Res.app_err])
                have hx : ((x : Int) != 0) = true := by rw [HC.out] at htk; have := tok_err htk; simp; omega
                have HON := Lib.hid hone
                clear HE3 hone htk
                unfold noTok at HON
                go_wp2_with fail
                refine HON.out.mono ?_
                rintro _ w4 ⟨rfl, hb4⟩
                have HB4 : Hid (Below H w w4) := Lib.hid (HB.out.trans (hb4.mono hHW))
                clear hb4
                go_wp2_with fail
                refine bodyPost_ret (v := .tuple #[.slice none 0 0, .int .i64 j, .int .i64 x]) (by simp [results, Tryd.results12, go_sem]) rfl ?_
                exact refPost_err (a := j) (c := x) HE4.out (by rw [HH.out]; exact HB4.out.alloc (by have := HB4.out.size; have := HH.out; omega) _)
              | ok tm =>
                obtain ⟨t, m⟩ := tm
                rw [oneV_ok htk] at hone
                rw [htk] at HE3
                obtain ⟨f', rfl⟩ : ∃ f', f = f' + 1 := ⟨f - 1, by omega⟩
                have hl := tok_le HBT.out htk
                rw [List.length_drop, len_list] at hl
                obtain ⟨hl1, hl2, -⟩ := hl
                have HE4 := Lib.hid (lx_next HE3 rfl)
                have HON := Lib.hid hone
                clear HE3 hone htk HE HE2
                unfold tokv at HON
                go_wp2_with fail
                refine HON.out.mono ?_
                rintro _ w4 ⟨rfl, hb4⟩
                have HB4 : Hid (Below H w w4) := Lib.hid (HB.out.trans (hb4.mono hHW))
                have ho4 : w4.ownsRow H 37 4 (.slice va acc.length vc) acc.length (toksc acc) := Below.ownsRow' hb4 HO.out
                have hH4 : H ≤ w4.heap.size := by have := HB4.out.size; have := HH.out; omega
                clear hb4
                go_wp2_with (at_builtin; go_must (refine wpList_append_own _ rfl _ _ 22 rfl H 37 i0 (.agg #[.int .u8 0, .string ⟨#[]⟩, .int .i64 0, .int .i64 0]) 4 40 Tryd.underlying22 hi hz0 hz1 hz2 rfl (by decide) (.slice va acc.length vc) acc.length _ rfl ((ho4.alloc _).alloc _) ⟨w4.heap.size + 1, 0, none⟩ 1 1 (tokc t) rfl rfl ?c1 ?c2 ?c3 ?c4 ?c5 ?_))
                case c1 =>
                  intro i u hu
                  rw [add_lit, Nat.zero_add]
                  have hnew : ((w4.alloc (.cells (tokc t).toArray 37)).alloc (.cells (tokc t).toArray 37)).heap[w4.heap.size + 1]? = some (.cells (tokc t).toArray 37 (0, 0)) := by
                    have hz : (w4.alloc (.cells (tokc t).toArray 37)).heap.size = w4.heap.size + 1 := by simp
                    rw [← hz]; exact heap_alloc_new _ _
                  exact cell_of_heap hnew (by rw [List.getElem?_toArray]; exact hu)
                case c2 => intro u hu; simp [tokc] at hu; rcases hu with rfl | rfl | rfl | rfl <;> rfl
                case c3 => unfold maxLen; omega
                case c4 => omega
                case c5 => simp; omega
                intro v' w5 hown' hgrow _
                have hb5 : Below H w w5 := ((HB4.out.alloc hH4 _).alloc (by simp; omega) _).grown hgrow (by simp; omega) (fun g hg => (ho4.lt g hg).1)
                have ho5 : w5.ownsRow H 37 4 v' (acc ++ [t]).length (toksc (acc ++ [t])) := by
                  rw [← toksc_snoc, List.length_append, List.length_singleton]; exact hown'
                have HB5 := Lib.hid hb5
                have HO5 := Lib.hid ho5
                have hbk := blank_26 s (j + m) w5 (by omega) hs
                have HBK := Lib.hid hbk
                have hsk := sk_le false (s.data.toList.drop (j + m))
                rw [List.length_drop, len_list] at hsk
                have hr6 : RxRel s H w v' (j + m + sk false (s.data.toList.drop (j + m))) w5 :=
                  ⟨f', acc ++ [t], by omega, by simp; omega, by omega, HB5.out, HO5.out, HE4.out⟩
                have HR6 := Lib.hid hr6
                clear hown' hgrow ho4 hb5 ho5 hbk hr6
                go_wp2_with fail
                refine HBK.out.mono ?_
                rintro _ wx ⟨rfl, hwx⟩
                rw [hwx]
                clear hwx
                go_wp2_with fail
                exact ⟨⟨j + m + sk false (s.data.toList.drop (j + m)), rfl, HR6.out⟩, by simp [intOf]; omega⟩
        ·
          have hbt : beg (s.data.toList.drop j) = true := by rw [HBEG.out, hdg]; simp
          have HBT := Lib.hid hbt
          have hHW : H ≤ wr.heap.size := by have := HB.out.size; have := HH.out; omega
          have HE3 := HE2.out
          rw [hbt, if_neg (by decide)] at HE3
          clear hbt
          by_cases h4 : acc.length = 4000
          · have he4 : ((acc.length : Int) == 4000) = true := by simp; omega
            have HE4 : Hid (lexed s.data.toList = .err j 163) := Lib.hid (by rw [← HE3, if_pos h4, Res.app_err])
            clear HE3 h4
            go_wp2_with fail
            refine bodyPost_ret (v := .tuple #[.slice none 0 0, .int .i64 j, .int .i64 163]) (by simp [results, Tryd.results12, go_sem]) rfl ?_
            exact refPost_err (a := j) (c := 163) HE4.out (by rw [HH.out]; exact HB.out)
          · have he4 : ((acc.length : Int) == 4000) = false := by simp; omega
            rw [if_neg h4] at HE3
            have hone := one_30 s j wr hlt hs
            clear h4
            cases htk : tok j (s.data.toList.drop j) with
            | error x =>
              rw [oneV_err htk] at hone
              rw [htk] at HE3
              have HE4 : Hid (lexed s.data.toList = .err j x) := Lib.hid (by rw [← HE3, Res.app_err])
              have hx : ((x : Int) != 0) = true := by rw [HC.out] at htk; have := tok_err htk; simp; omega
              have HON := Lib.hid hone
              clear HE3 hone htk
              unfold noTok at HON
              go_wp2_with fail
              refine HON.out.mono ?_
              rintro _ w4 ⟨rfl, hb4⟩
              have HB4 : Hid (Below H w w4) := Lib.hid (HB.out.trans (hb4.mono hHW))
              clear hb4
              go_wp2_with fail
              refine bodyPost_ret (v := .tuple #[.slice none 0 0, .int .i64 j, .int .i64 x]) (by simp [results, Tryd.results12, go_sem]) rfl ?_
              exact refPost_err (a := j) (c := x) HE4.out (by rw [HH.out]; exact HB4.out.alloc (by have := HB4.out.size; have := HH.out; omega) _)
            | ok tm =>
              obtain ⟨t, m⟩ := tm
              rw [oneV_ok htk] at hone
              rw [htk] at HE3
              obtain ⟨f', rfl⟩ : ∃ f', f = f' + 1 := ⟨f - 1, by omega⟩
              have hl := tok_le HBT.out htk
              rw [List.length_drop, len_list] at hl
              obtain ⟨hl1, hl2, -⟩ := hl
              have HE4 := Lib.hid (lx_next HE3 rfl)
              have HON := Lib.hid hone
              clear HE3 hone htk HE HE2
              unfold tokv at HON
              go_wp2_with fail
              refine HON.out.mono ?_
              rintro _ w4 ⟨rfl, hb4⟩
              have HB4 : Hid (Below H w w4) := Lib.hid (HB.out.trans (hb4.mono hHW))
              have ho4 : w4.ownsRow H 37 4 (.slice va acc.length vc) acc.length (toksc acc) := Below.ownsRow' hb4 HO.out
              have hH4 : H ≤ w4.heap.size := by have := HB4.out.size; have := HH.out; omega
              clear hb4
              go_wp2_with (at_builtin; go_must (refine wpList_append_own _ rfl _ _ 22 rfl H 37 i0 (.agg #[.int .u8 0, .string ⟨#[]⟩, .int .i64 0, .int .i64 0]) 4 40 Tryd.underlying22 hi hz0 hz1 hz2 rfl (by decide) (.slice va acc.length vc) acc.length _ rfl ((ho4.alloc _).alloc _) ⟨w4.heap.size + 1, 0, none⟩ 1 1 (tokc t) rfl rfl ?c1 ?c2 ?c3 ?c4 ?c5 ?_))
              case c1 =>
                intro i u hu
                rw [add_lit, Nat.zero_add]
                have hnew : ((w4.alloc (.cells (tokc t).toArray 37)).alloc (.cells (tokc t).toArray 37)).heap[w4.heap.size + 1]? = some (.cells (tokc t).toArray 37 (0, 0)) := by
                  have hz : (w4.alloc (.cells (tokc t).toArray 37)).heap.size = w4.heap.size + 1 := by simp
                  rw [← hz]; exact heap_alloc_new _ _
                exact cell_of_heap hnew (by rw [List.getElem?_toArray]; exact hu)
              case c2 => intro u hu; simp [tokc] at hu; rcases hu with rfl | rfl | rfl | rfl <;> rfl
              case c3 => unfold maxLen; omega
              case c4 => omega
              case c5 => simp; omega
              intro v' w5 hown' hgrow _
              have hb5 : Below H w w5 := ((HB4.out.alloc hH4 _).alloc (by simp; omega) _).grown hgrow (by simp; omega) (fun g hg => (ho4.lt g hg).1)
              have ho5 : w5.ownsRow H 37 4 v' (acc ++ [t]).length (toksc (acc ++ [t])) := by
                rw [← toksc_snoc, List.length_append, List.length_singleton]; exact hown'
              have HB5 := Lib.hid hb5
              have HO5 := Lib.hid ho5
              have hbk := blank_26 s (j + m) w5 (by omega) hs
              have HBK := Lib.hid hbk
              have hsk := sk_le false (s.data.toList.drop (j + m))
              rw [List.length_drop, len_list] at hsk
              have hr6 : RxRel s H w v' (j + m + sk false (s.data.toList.drop (j + m))) w5 :=
                ⟨f', acc ++ [t], by omega, by simp; omega, by omega, HB5.out, HO5.out, HE4.out⟩
              have HR6 := Lib.hid hr6
              clear hown' hgrow ho4 hb5 ho5 hbk hr6
              go_wp2_with fail
              refine HBK.out.mono ?_
              rintro _ wx ⟨rfl, hwx⟩
              rw [hwx]
              clear hwx
              go_wp2_with fail
              exact ⟨⟨j + m + sk false (s.data.toList.drop (j + m)), rfl, HR6.out⟩, by simp [intOf]; omega⟩
      · have hd : decide ((j : Int) < (s.size : Int)) = false := by simpa using hlt
        have h0 : s.data.toList.drop j = [] := List.drop_of_length_le (by rw [len_list]; omega)
        have HN := Lib.hid h0
        clear h0
        go_wp2_with fail
        refine bodyPost_ret (v := .tuple #[.slice va acc.length vc, .int .i64 0, .int .i64 0]) (by simp [results, Tryd.results12, go_sem]) rfl ?_
        have he := HE.out
        rw [HN.out, lxb, List.isEmpty_nil, if_pos rfl, Res.app_ok, List.append_nil] at he
        rw [RefPost, ← he]
        exact ⟨_, rfl, by rw [HH.out]; exact HO.out, by rw [HH.out]; exact HB.out⟩
end Go.Proofs.YtpjfkfbijimliaaDoor
