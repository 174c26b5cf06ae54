import Derived.Test.YtpjfkfbijimliaaGreatDoorQ
namespace Go.Proofs.YtpjfkfbijimliaaGreatDoor
open Go.RowKit Go.Pen

theorem info37 : (Tryz.prog.info? 34).map (fun i => (i.zero, i.size, i.bytes)) = some (some (.agg #[.int .u8 0, .string ⟨#[]⟩, .int .i64 0, .int .i64 0]), 4, 40) := by kernel_rfl

def tokc (t : Tok) : List Value := [.int .u8 t.kind, .string ⟨t.text.toArray⟩, .int .i64 t.number, .int .i64 t.at_]
def toksc (ts : List Tok) : List Value := ts.flatMap tokc

theorem toksc_snoc (ts : List Tok) (t : Tok) : toksc ts ++ tokc t = toksc (ts ++ [t]) := by simp [toksc]

def LexPost (s : ByteArray) (w : World) (e : Ending) (w' : World) : Prop :=
  match lexed s.data.toList with
  | .ok ts => ∃ v, e = .returned (.tuple #[v, .int .i64 0, .int .u16 0]) ∧ w'.ownsRow w.heap.size 34 4 v ts.length (toksc ts) ∧ Below w.heap.size w w'
  | .err a c => e = .returned (.tuple #[.slice none 0 0, .int .i64 a, .int .u16 c]) ∧ Below w.heap.size w w'

def LxRel (s : ByteArray) (H : Nat) (w : World) (v : Value) (wr : World) : Prop :=
  ∃ j f acc, j ≤ s.size ∧ acc.length ≤ j ∧ s.size - j ≤ f ∧ LexIs wr H s j ∧ Below H w wr ∧ wr.ownsRow H 34 4 v acc.length (toksc acc) ∧ Res.app acc (lxb (lx f) acc.length j (s.data.toList.drop j)) = lexed s.data.toList

theorem lexPost_err {s : ByteArray} {w w' : World} {a c : Nat} (h : lexed s.data.toList = .err a c) (hb : Below w.heap.size w w') : LexPost s w (.returned (.tuple #[.slice none 0 0, .int .i64 a, .int .u16 c])) w' := by
  rw [LexPost, h]; exact ⟨rfl, hb⟩

theorem own_moved {H B : Nat} {s : ByteArray} {k n : Nat} {v : Value} {xs : List Value} {w w' : World} (ho : w.ownsRow H 34 4 v n xs) (hL : LexIs w B s k) {j : Nat} (hm : Moved B s j w w') : w'.ownsRow H 34 4 v n xs := by
  refine ownsRow_frame ho fun g hg => ?_
  obtain ⟨-, hlt, cur, hc⟩ := ownsRow_block ho hg
  refine hm.rest g hlt fun e => ?_
  subst e
  unfold LexIs at hL
  rw [hc] at hL
  simp at hL

theorem txr_err {l : Bytes} {x : Nat} (h : txr l = .error x) : x = 161 ∨ x = 162 := by
  rw [txr] at h
  split at h
  · cases h; exact .inl rfl
  · split at h
    · cases h; exact .inl rfl
    · split at h
      · cases h; exact .inr rfl
      · cases h

theorem tok_err {k x : Nat} {c : UInt8} {cs : Bytes} (h : tok k (c :: cs) = .error x) : x = 161 ∨ x = 162 := by
  rw [tok] at h
  split at h
  · split at h
    · cases h
    · cases h; exact .inr rfl
  · split at h
    · split at h
      · cases h; exact .inr rfl
      · cases h
    · split at h
      · split at h
        · rename_i h2; cases h; exact txr_err h2
        · cases h
      · cases h

theorem lx_next {s : ByteArray} {f n j m : Nat} {acc : List Tok} {t : Tok} {R : Res} (h : Res.app acc ((lx (f + 1) (n + 1) (j + m) ((s.data.toList.drop j).drop m)).cons t) = R) (hn : n = acc.length) :
    Res.app (acc ++ [t]) (lxb (lx f) (acc ++ [t]).length (j + m + sk false (s.data.toList.drop (j + m))) (s.data.toList.drop (j + m + sk false (s.data.toList.drop (j + m))))) = R := by
  rw [← h, Res.app_cons, lx, List.drop_drop, List.length_append, List.length_singleton, hn]
  simp only [List.drop_drop]

set_option maxRecDepth 100000 in
set_option maxHeartbeats 4000000 in
theorem lex_11 (s : ByteArray) (w : World) (hg : Glob w) (h11 : 10 ≤ w.heap.size) :
    Calls Tryz.prog 15 #[.string s] w (LexPost s w) := by
  obtain ⟨i0, hi, hz0, hz1, hz2⟩ := info_parts info37
  by_cases hbig : 16384 < s.size
  · have hd : decide ((16384 : Int) < (s.size : Int)) = true := by simp; omega
    go_enter Tryz.func15, Tryz.ntmps15
    go_wp2_with fail
    refine bodyPost_ret (v := .tuple #[.slice none 0 0, .int .i64 16384, .int .u16 162]) (by simp [results, Tryz.results15, go_sem]) rfl ?_
    exact lexPost_err (a := 16384) (c := 162) (by rw [lexed, if_pos (by rw [len_list]; exact hbig)]) (Below.refl _ _)
  · have hd : decide ((16384 : Int) < (s.size : Int)) = false := by simp; omega
    have hs : s.size ≤ 16384 := by omega
    have HLX : Hid (lexed s.data.toList = lxb (lx s.size) 0 (sk false s.data.toList) (s.data.toList.drop (sk false s.data.toList))) := Lib.hid (by
      rw [lexed, if_neg (by rw [len_list]; exact hbig), lx, len_list]
      simp only [Nat.zero_add])
    obtain ⟨H, hH⟩ : ∃ H, w.heap.size = H := ⟨_, rfl⟩
    have HH := Lib.hid hH
    have HG := Lib.hid hg
    clear hbig hg
    rw [hH] at h11
    clear hH
    go_enter Tryz.func15, Tryz.ntmps15
    go_wp2_with fail
    rw [HH.out]
    generalize hw1 : World.alloc _ _ = w1
    have hL1 : LexIs w1 H s 0 := by rw [← hw1, ← HH.out]; exact heap_alloc_new w _
    have hb1 : Below H w w1 := by rw [← hw1]; exact (Below.refl _ _).alloc (by have := HH.out; omega) _
    clear hw1
    refine (blanks_23 H s 0 w1 hL1 (Nat.zero_le _) hs).mono ?_
    rintro _ w2 ⟨rfl, hm2⟩
    have hr2 : LxRel s H w (.slice none 0 0) w2 := by
      refine ⟨sk false s.data.toList, s.size, [], ?_, Nat.zero_le _, by omega, ?_, hb1.trans hm2.below, World.ownsRow_nil _ _ _ _, HLX.out.symm⟩
      · have := sk_le false s.data.toList; rwa [len_list] at this
      · have := hm2.lex; rwa [Nat.zero_add] at this
    clear hm2 hb1 hL1 hd
    go_wp2_with fail
    go_loopw [5] (fun v wr => LxRel s H w v wr) (fun _ wr => s.size - lexPos wr H)
    case atStart => exact hr2
    case round =>
      clear hr2
      obtain ⟨j, f, acc, hj, hacc, hf, hL, hb, ho, he⟩ := hrel
      obtain ⟨va, vc, rfl⟩ := ownsRow_slice ho
      have HE := Lib.hid he
      have HO := Lib.hid ho
      have HB := Lib.hid hb
      have hc1 : wr.cell? ⟨H, 1, none⟩ = some (.int .i64 j) := cell_of_heap hL rfl
      clear he ho hb
      by_cases hlt : j < s.size
      · have hd : decide ((j : Int) < (s.size : Int)) = true := by simpa using hlt
        obtain ⟨c, cs, hcs, -⟩ := drop_cons hlt
        have HC := Lib.hid hcs
        clear hcs
        have hbg := begins_24 H s j wr hL hlt (HG.out.below HB.out h11).spaces
        have HX := Lib.hid hbg
        clear hbg
        go_wp2_with fail
        refine HX.out.mono ?_
        rintro _ w3 ⟨rfl, hb3⟩
        have hbe : Below H w w3 := HB.out.trans (hb3.mono (by have := HB.out.size; have := HH.out; omega))
        have HB3 := Lib.hid hbe
        have hL3 : LexIs w3 H s j := (hb3.block H (lt_of_heap hL)).trans hL
        have ho3 : w3.ownsRow H 34 4 (.slice va acc.length vc) acc.length (toksc acc) := Below.ownsRow' hb3 HO.out
        have HO3 := Lib.hid ho3
        have hpos := lexPos_of hL
        have HP := Lib.hid hpos
        clear hb3 hbe ho3 HO HB HX hL hc1 hpos
        have hne : (s.data.toList.drop j).isEmpty = false := by rw [HC.out]; rfl
        have HE1 := HE.out
        rw [lxb, hne, if_neg (by decide)] at HE1
        cases hbg : beg (s.data.toList.drop j)
        · rw [hbg] at HE1
          have HE2 : Hid (lexed s.data.toList = .err j 160) := Lib.hid (by rw [← HE1, if_pos (by decide), Res.app_err])
          clear HE1 hne hd
          go_wp2_with fail
          refine bodyPost_ret (v := .tuple #[.slice none 0 0, .int .i64 j, .int .u16 160]) (by simp [results, Tryz.results15, go_sem]) rfl ?_
          exact lexPost_err (a := j) (c := 160) HE2.out (by rw [HH.out]; exact HB3.out)
        · rw [hbg] at HE1
          by_cases h4 : acc.length = 4000
          · have he4 : ((acc.length : Int) == 4000) = true := by simp; omega
            have HE2 : Hid (lexed s.data.toList = .err j 163) := Lib.hid (by rw [← HE1, if_neg (by decide), if_pos h4, Res.app_err])
            clear HE1 hne hd h4
            go_wp2_with fail
            refine bodyPost_ret (v := .tuple #[.slice none 0 0, .int .i64 j, .int .u16 163]) (by simp [results, Tryz.results15, go_sem]) rfl ?_
            exact lexPost_err (a := j) (c := 163) HE2.out (by rw [HH.out]; exact HB3.out)
          · have he4 : ((acc.length : Int) == 4000) = false := by simp; omega
            rw [if_neg (by decide), if_neg h4] at HE1
            have HE2 := Lib.hid HE1
            have htk := token_25 H s j w3 hL3 hlt hs (HG.out.below HB3.out h11) h11
            have HX := Lib.hid htk
            have HBG := Lib.hid hbg
            clear HE1 hne hd h4 htk hbg
            go_wp2_with fail
            refine HX.out.mono ?_
            intro e w4 hp
            rw [TokPost] at hp
            have HE3 := HE2.out
            cases htk : tok j (s.data.toList.drop j) with
            | error x =>
              rw [htk] at hp HE3
              obtain ⟨rfl, k', hm4⟩ := hp
              have HE4 : Hid (lexed s.data.toList = .err j x) := Lib.hid (by rw [← HE3, Res.app_err])
              have hx : ((x : Int) != 0) = true := by rw [HC.out] at htk; have := tok_err htk; simp; omega
              have HB4 : Hid (Below H w w4) := Lib.hid (HB3.out.trans hm4.below)
              unfold noTok
              clear HE3 HE2 htk hm4
              go_wp2_with fail
              refine bodyPost_ret (v := .tuple #[.slice none 0 0, .int .i64 j, .int .u16 x]) (by simp [results, Tryz.results15, go_sem]) rfl ?_
              exact lexPost_err (a := j) (c := x) HE4.out (by rw [HH.out]; exact HB4.out.alloc (by have := HB4.out.size; have := HH.out; omega) _)
            | ok tm =>
              obtain ⟨t, m⟩ := tm
              rw [htk] at hp HE3
              obtain ⟨rfl, hm4⟩ := hp
              obtain ⟨f', rfl⟩ : ∃ f', f = f' + 1 := ⟨f - 1, by omega⟩
              have hl := tok_le HBG.out htk
              rw [List.length_drop, len_list] at hl
              obtain ⟨hl1, hl2, -⟩ := hl
              have HE4 := Lib.hid (lx_next HE3 rfl)
              have HB4 : Hid (Below H w w4) := Lib.hid (HB3.out.trans hm4.below)
              have ho4 : w4.ownsRow H 34 4 (.slice va acc.length vc) acc.length (toksc acc) := own_moved HO3.out hL3 hm4
              have HM4 := Lib.hid hm4
              have hH4 : H ≤ w4.heap.size := by have := HB4.out.size; have := HH.out; omega
              unfold tokv
              clear HE3 HE2 htk hm4 HE
              go_wp2_with (at_builtin; go_must (refine wpList_append_own _ rfl _ _ 22 rfl H 34 i0 (.agg #[.int .u8 0, .string ⟨#[]⟩, .int .i64 0, .int .i64 0]) 4 40 Tryz.underlying22 hi hz0 hz1 hz2 rfl (by decide) (.slice va acc.length vc) acc.length _ rfl ((ho4.alloc _).alloc _) ⟨w4.heap.size + 1, 0, none⟩ 1 1 (tokc t) rfl rfl ?c1 ?c2 ?c3 ?c4 ?c5 ?_))
              case c1 =>
                intro i u hu
                rw [add_lit, Nat.zero_add]
                have hnew : ((w4.alloc (.cells (tokc t).toArray 34)).alloc (.cells (tokc t).toArray 34)).heap[w4.heap.size + 1]? = some (.cells (tokc t).toArray 34 (0, 0)) := by
                  have hz : (w4.alloc (.cells (tokc t).toArray 34)).heap.size = w4.heap.size + 1 := by simp
                  rw [← hz]; exact heap_alloc_new _ _
                exact cell_of_heap hnew (by rw [List.getElem?_toArray]; exact hu)
              case c2 => intro u hu; simp [tokc] at hu; rcases hu with rfl | rfl | rfl | rfl <;> rfl
              case c3 => unfold maxLen; omega
              case c4 => omega
              case c5 => simp; omega
              intro v' w5 hown' hgrow _
              have hlt4 : H < w4.heap.size := lt_of_heap HM4.out.lex
              have hL5 : LexIs w5 H s (j + m) := by
                have hne : some H ≠ (Value.slice va acc.length vc).ownBlock := fun e => by
                  obtain ⟨-, -, cur, hc⟩ := ownsRow_block ho4 e.symm
                  have := HM4.out.lex
                  unfold LexIs at this
                  rw [hc] at this
                  simp at this
                unfold LexIs
                rw [hgrow.block H (by simp; omega) hne, Below.heap_alloc _ _ _ (by simp; omega), Below.heap_alloc _ _ _ (by omega)]
                exact HM4.out.lex
              have hb5 : Below H w w5 := ((HB4.out.alloc hH4 _).alloc (by simp; omega) _).grown hgrow (by simp; omega) (fun g hg => (ho4.lt g hg).1)
              have ho5 : w5.ownsRow H 34 4 v' (acc ++ [t]).length (toksc (acc ++ [t])) := by
                rw [← toksc_snoc, List.length_append, List.length_singleton]; exact hown'
              have HB5 := Lib.hid hb5
              have HO5 := Lib.hid ho5
              have HL5 := Lib.hid hL5
              clear hown' hgrow ho4 hb5 ho5 hL5
              go_wp2_with fail
              refine (blanks_23 H s (j + m) w5 HL5.out (by omega) hs).mono ?_
              rintro _ w6 ⟨rfl, hm6⟩
              have hsk := sk_le false (s.data.toList.drop (j + m))
              rw [List.length_drop, len_list] at hsk
              have hr6 : LxRel s H w v' w6 ∧ s.size - lexPos w6 H < s.size - lexPos wr H := by
                refine ⟨⟨j + m + sk false (s.data.toList.drop (j + m)), f', acc ++ [t], by omega, by simp; omega, by omega, hm6.lex, HB5.out.trans hm6.below, own_moved HO5.out HL5.out hm6, HE4.out⟩, ?_⟩
                rw [lexPos_of hm6.lex, HP.out]
                omega
              have HR := Lib.hid hr6
              clear hr6 hm6
              go_wp2_with fail
              exact HR.out
      · have hd : decide ((j : Int) < (s.size : Int)) = false := by simpa using hlt
        have h0 : s.data.toList.drop j = [] := List.drop_of_length_le (by rw [len_list]; omega)
        go_wp2_with fail
        refine bodyPost_ret (v := .tuple #[.slice va acc.length vc, .int .i64 0, .int .u16 0]) (by simp [results, Tryz.results15, go_sem]) rfl ?_
        have he := HE.out
        rw [h0, lxb, List.isEmpty_nil, if_pos rfl, Res.app_ok, List.append_nil] at he
        rw [LexPost, ← he]
        exact ⟨_, rfl, by rw [HH.out]; exact HO.out, by rw [HH.out]; exact HB.out⟩
end Go.Proofs.YtpjfkfbijimliaaGreatDoor
