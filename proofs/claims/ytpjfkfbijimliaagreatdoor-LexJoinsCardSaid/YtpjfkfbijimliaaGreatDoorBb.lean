/- datum.quoted 70 of any text. -/
import Derived.Test.YtpjfkfbijimliaaGreatDoorBa
import Derived.Test.YtpjfkfbijimliaaGreatDoorX
namespace Go.Proofs.YtpjfkfbijimliaaGreatDoor
open Go.RowKit Go.Pen

/-- a text's byte as it is written -/
def qcf (c : UInt8) : Bytes :=
  if c.toNat = 39 then [39, 39] else if c.toNat = 92 then [92, 92] else if c.toNat = 10 then [92, 110] else if c.toNat = 13 then [92, 114] else if c.toNat = 9 then [92, 116] else if c.toNat < 32 ∨ c.toNat = 127 then [92, 120, hexd (c.toNat / 16), hexd (c.toNat % 16)] else [c]
def quf (l : Bytes) : Bytes := 39 :: (l.flatMap qcf ++ [39])

theorem qcf_len (c : UInt8) : (qcf c).length ≤ 4 := by
  unfold qcf; repeat' split
  all_goals simp

theorem fx_len (l : Bytes) : (l.flatMap qcf).length ≤ 4 * l.length := by
  induction l with
  | nil => simp
  | cons c cs ih => have := qcf_len c; simp only [List.flatMap_cons, List.length_append, List.length_cons]; omega

theorem fx_take {t : ByteArray} {m : Nat} {c : UInt8} (hc : t.data.toList[m]? = some c) : (t.data.toList.take (m + 1)).flatMap qcf = (t.data.toList.take m).flatMap qcf ++ qcf c := by
  rw [List.take_add_one, hc, List.flatMap_append]; simp

def QxRel (t : ByteArray) (H : Nat) (w : World) (m : Nat) (wr : World) : Prop :=
  Lib.IsBuilderF 58 5 H H (Lib.byteCells (39 :: (t.data.toList.take m).flatMap qcf)) wr ∧ Below H w wr

theorem qx_step {t : ByteArray} {H m : Nat} {w wr w1 : World} {c : UInt8} {X : List Value} (hb : Below H w wr) (hc : t.data.toList[m]? = some c) (hX : X = Lib.byteCells (39 :: (t.data.toList.take m).flatMap qcf) ++ Lib.byteCells (qcf c)) (h1 : Lib.BuilderAtF 58 5 H H (.pointer (some ⟨H, 0, none⟩)) X w1) (h2 : Below H wr w1) : QxRel t H w (m + 1) w1 := by
  refine ⟨.inr ?_, hb.trans h2⟩
  rw [fx_take hc, ← List.cons_append, ← cells_app, ← hX]
  exact h1

theorem qx_step2 {t : ByteArray} {H m : Nat} {w w2 w1 : World} {c : UInt8} {X : List Value} (hb : Below H w w2) (hc : t.data.toList[m]? = some c) (hX : X = Lib.byteCells (39 :: (t.data.toList.take m).flatMap qcf) ++ Lib.byteCells (qcf c)) (h1 : Lib.BuilderAtF 58 5 H H (.pointer (some ⟨H, 0, none⟩)) X w1) (h2 : Below H w2 w1) : QxRel t H w (m + 1) w1 := by
  refine ⟨.inr ?_, hb.trans h2⟩
  rw [fx_take hc, ← List.cons_append, ← cells_app, ← hX]
  exact h1

theorem hex_low {n : Nat} (h : n < 16) : ([92, 120, hexd (n / 16), hexd (n % 16)] : Bytes) = [92, 120, 48, hexd n] := by
  rw [Nat.div_eq_of_lt h, Nat.mod_eq_of_lt h]; rfl

set_option maxRecDepth 100000 in
set_option maxHeartbeats 4000000 in
theorem quotedF_70 (t : ByteArray) (w : World) (hs : t.size ≤ 1000) (h16 : 10 ≤ w.heap.size) (hc9 : w.cell? ⟨9, 15, none⟩ = some (.int .u8 4)) :
    Calls Tryz.prog 38 #[.string t] w fun e w' => e = .returned (.string ⟨(quf t.data.toList).toArray⟩) ∧ Below w.heap.size w w' := by
  obtain ⟨H, hH⟩ : ∃ H, w.heap.size = H := ⟨_, rfl⟩
  have HH := Lib.hid hH
  have HC9 := Lib.hid hc9
  clear hH hc9
  go_enter Tryz.func38, Tryz.ntmps38
  go_wp2_with fail
  rw [HH.out]
  generalize hw1 : World.alloc _ _ = w1
  have hbd : Lib.IsBuilderF 58 5 H H [] w1 := by
    rw [← hw1]
    refine .inl ⟨Nat.le_refl _, .slice none 0 0, ?_, ⟨rfl, .inl ⟨rfl, rfl⟩⟩, by simp [Value.ownBlock]⟩
    rw [← HH.out]
    exact heap_alloc_new w _
  have hb1 : Below H w w1 := by rw [← hw1]; exact (Below.refl _ _).alloc (by have := HH.out; omega) _
  have hz1 : H ≤ w1.heap.size := by have := hb1.size; have := HH.out; omega
  clear hw1
  refine (writeByte_61 H H [] 39 w1 hbd (by simp) hz1).mono ?_
  rintro _ w2 ⟨rfl, hb2, hbe2, -⟩
  have hr2 : QxRel t H w 0 w2 := ⟨.inr hb2, hb1.trans hbe2⟩
  clear hb2 hbe2 hbd hb1 hz1
  go_wp2_with fail
  go_loopw [4] (fun i wr => ∃ m : Nat, m ≤ t.size ∧ i = .int .i64 m ∧ QxRel t H w m wr) (fun i _ => t.size - (intOf i).toNat)
  case atStart => exact ⟨0, Nat.zero_le _, rfl, hr2⟩
  case round =>
    clear hr2
    obtain ⟨m, hm, rfl, hq⟩ := hrel
    have HQ := Lib.hid hq
    have hz : H ≤ wr.heap.size := by have := hq.2.size; have := HH.out; omega
    have hlen : (Lib.byteCells (39 :: (t.data.toList.take m).flatMap qcf)).length ≤ 4001 := by
      rw [cells_len]
      have := fx_len (t.data.toList.take m)
      have := List.length_take_le m t.data.toList
      simp only [List.length_cons]; omega
    clear hq
    rcases Nat.lt_or_ge m t.size with hlt | hge
    · have hd : decide ((m : Int) < (t.size : Int)) = true := by simpa using hlt
      obtain ⟨c, cs, hcs, -⟩ := drop_cons hlt
      have hget := get_of_drop hcs hlt
      have hc : t.data.toList[m]? = some c := by
        have := congrArg List.head? hcs
        simpa [List.head?_drop] using this
      have HC := Lib.hid hc
      clear hcs hc
      by_cases h39 : c.toNat = 39
      · have e39 : ((c.toNat : Int) == 39) = true := by simp; omega
        have hqc : qcf c = [39, 39] := by rw [qcf, if_pos h39]
        have HX := Lib.hid hqc
        clear h39 hqc
        go_wp2_with fail
        refine (writeString_53 H H (Lib.byteCells (39 :: (t.data.toList.take m).flatMap qcf)) ⟨#[39, 39]⟩ wr HQ.out.1 (by simp [ByteArray.size]; omega) hz).mono ?_
        rintro _ w3 ⟨rfl, hb3, hbe3, -⟩
        have HR := Lib.hid (qx_step HQ.out.2 HC.out (by rw [HX.out]; rfl) hb3 hbe3)
        clear hb3 hbe3
        go_wp2_with fail
        exact ⟨⟨m + 1, hlt, by simp, HR.out⟩, by simp [intOf]; omega⟩
      by_cases h92 : c.toNat = 92
      · have e92 : ((c.toNat : Int) == 92) = true := by simp; omega
        have e39 : ((c.toNat : Int) == 39) = false := by simp; omega
        have hqc : qcf c = [92, 92] := by rw [qcf, if_neg h39, if_pos h92]
        have HX := Lib.hid hqc
        clear h39 h92 hqc
        go_wp2_with fail
        refine (writeString_53 H H (Lib.byteCells (39 :: (t.data.toList.take m).flatMap qcf)) ⟨#[92, 92]⟩ wr HQ.out.1 (by simp [ByteArray.size]; omega) hz).mono ?_
        rintro _ w3 ⟨rfl, hb3, hbe3, -⟩
        have HR := Lib.hid (qx_step HQ.out.2 HC.out (by rw [HX.out]; rfl) hb3 hbe3)
        clear hb3 hbe3
        go_wp2_with fail
        exact ⟨⟨m + 1, hlt, by simp, HR.out⟩, by simp [intOf]; omega⟩
      by_cases h10 : c.toNat = 10
      · have e10 : ((c.toNat : Int) == 10) = true := by simp; omega
        have e39 : ((c.toNat : Int) == 39) = false := by simp; omega
        have e92 : ((c.toNat : Int) == 92) = false := by simp; omega
        have hqc : qcf c = [92, 110] := by rw [qcf, if_neg h39, if_neg h92, if_pos h10]
        have HX := Lib.hid hqc
        clear h39 h92 h10 hqc
        go_wp2_with fail
        refine (writeString_53 H H (Lib.byteCells (39 :: (t.data.toList.take m).flatMap qcf)) ⟨#[92, 110]⟩ wr HQ.out.1 (by simp [ByteArray.size]; omega) hz).mono ?_
        rintro _ w3 ⟨rfl, hb3, hbe3, -⟩
        have HR := Lib.hid (qx_step HQ.out.2 HC.out (by rw [HX.out]; rfl) hb3 hbe3)
        clear hb3 hbe3
        go_wp2_with fail
        exact ⟨⟨m + 1, hlt, by simp, HR.out⟩, by simp [intOf]; omega⟩
      by_cases h13 : c.toNat = 13
      · have e13 : ((c.toNat : Int) == 13) = true := by simp; omega
        have e39 : ((c.toNat : Int) == 39) = false := by simp; omega
        have e92 : ((c.toNat : Int) == 92) = false := by simp; omega
        have e10 : ((c.toNat : Int) == 10) = false := by simp; omega
        have hqc : qcf c = [92, 114] := by rw [qcf, if_neg h39, if_neg h92, if_neg h10, if_pos h13]
        have HX := Lib.hid hqc
        clear h39 h92 h10 h13 hqc
        go_wp2_with fail
        refine (writeString_53 H H (Lib.byteCells (39 :: (t.data.toList.take m).flatMap qcf)) ⟨#[92, 114]⟩ wr HQ.out.1 (by simp [ByteArray.size]; omega) hz).mono ?_
        rintro _ w3 ⟨rfl, hb3, hbe3, -⟩
        have HR := Lib.hid (qx_step HQ.out.2 HC.out (by rw [HX.out]; rfl) hb3 hbe3)
        clear hb3 hbe3
        go_wp2_with fail
        exact ⟨⟨m + 1, hlt, by simp, HR.out⟩, by simp [intOf]; omega⟩
      by_cases h9 : c.toNat = 9
      · have e9 : ((c.toNat : Int) == 9) = true := by simp; omega
        have e39 : ((c.toNat : Int) == 39) = false := by simp; omega
        have e92 : ((c.toNat : Int) == 92) = false := by simp; omega
        have e10 : ((c.toNat : Int) == 10) = false := by simp; omega
        have e13 : ((c.toNat : Int) == 13) = false := by simp; omega
        have hqc : qcf c = [92, 116] := by rw [qcf, if_neg h39, if_neg h92, if_neg h10, if_neg h13, if_pos h9]
        have HX := Lib.hid hqc
        clear h39 h92 h10 h13 h9 hqc
        go_wp2_with fail
        refine (writeString_53 H H (Lib.byteCells (39 :: (t.data.toList.take m).flatMap qcf)) ⟨#[92, 116]⟩ wr HQ.out.1 (by simp [ByteArray.size]; omega) hz).mono ?_
        rintro _ w3 ⟨rfl, hb3, hbe3, -⟩
        have HR := Lib.hid (qx_step HQ.out.2 HC.out (by rw [HX.out]; rfl) hb3 hbe3)
        clear hb3 hbe3
        go_wp2_with fail
        exact ⟨⟨m + 1, hlt, by simp, HR.out⟩, by simp [intOf]; omega⟩
      by_cases hx : c.toNat < 32 ∨ c.toNat = 127
      · have e39 : ((c.toNat : Int) == 39) = false := by simp; omega
        have e92 : ((c.toNat : Int) == 92) = false := by simp; omega
        have e10 : ((c.toNat : Int) == 10) = false := by simp; omega
        have e13 : ((c.toNat : Int) == 13) = false := by simp; omega
        have e9 : ((c.toNat : Int) == 9) = false := by simp; omega
        have hqc : qcf c = [92, 120, hexd (c.toNat / 16), hexd (c.toNat % 16)] := by rw [qcf, if_neg h39, if_neg h92, if_neg h10, if_neg h13, if_neg h9, if_pos hx]
        have HX := Lib.hid hqc
        have hcell : wr.cell? ⟨9, 15, none⟩ = some (.int .u8 4) := (HQ.out.2.cell (p := ⟨9, 15, none⟩) (by have := HH.out; show 9 < H; omega)).trans HC9.out
        have HCE := Lib.hid hcell
        have hcl : c.toNat < 256 := c.toNat_lt
        have hor : decide ((c.toNat : Int) < 32) = true ∨ (decide ((c.toNat : Int) < 32) = false ∧ ((c.toNat : Int) == 127) = true) := by simp; omega
        clear h39 h92 h10 h13 h9 hqc hcell hx
        rcases hor with e32 | ⟨e32, e127⟩ <;> (
          go_wp2_with fail
          refine (formatUint_89 c.toNat hcl wr HCE.out).mono ?_
          rintro _ w2 ⟨rfl, hb2⟩
          have hz2 : H ≤ w2.heap.size := by have := hb2.size; omega
          have HB2 := Lib.hid (HQ.out.2.trans (hb2.mono hz))
          have HD2 := Lib.hid (builder_frame HQ.out.1 fun g hg hl => hb2.block g hl)
          clear hb2
          by_cases h16c : c.toNat < 16
          · have hht : hexText c.toNat = [hexd c.toNat] := by rw [hexText, if_pos h16c]
            rw [hht]
            have HT := Lib.hid hht
            clear hht
            go_wp2_with fail
            refine (Tryz.strings_Repeat_one _ _).mono ?_
            rintro _ w9 ⟨rfl, hw⟩; rw [hw]; clear hw
            go_wp2_with fail
            refine (writeString_53 H H (Lib.byteCells (39 :: (t.data.toList.take m).flatMap qcf)) ⟨#[92, 120, 48, hexd c.toNat]⟩ w2 HD2.out (by simp [ByteArray.size]; omega) hz2).mono ?_
            rintro _ w3 ⟨rfl, hb3, hbe3, -⟩
            have HR := Lib.hid (qx_step2 HB2.out HC.out (by rw [HX.out, hex_low h16c]; rfl) hb3 hbe3)
            clear hb3 hbe3
            go_wp2_with fail
            exact ⟨⟨m + 1, hlt, by simp, HR.out⟩, by simp [intOf]; omega⟩
          · have hht : hexText c.toNat = [hexd (c.toNat / 16), hexd (c.toNat % 16)] := by rw [hexText, if_neg h16c]
            rw [hht]
            have HT := Lib.hid hht
            clear hht
            generalize hexd (c.toNat / 16) = x1 at HX ⊢
            generalize hexd (c.toNat % 16) = x2 at HX ⊢
            go_wp2_with fail
            refine (Tryz.strings_Repeat_zero _ _).mono ?_
            rintro _ w9 ⟨rfl, hw⟩; rw [hw]; clear hw
            go_wp2_with fail
            refine (writeString_53 H H (Lib.byteCells (39 :: (t.data.toList.take m).flatMap qcf)) ⟨#[92, 120, x1, x2]⟩ w2 HD2.out (by simp [ByteArray.size]; omega) hz2).mono ?_
            rintro _ w3 ⟨rfl, hb3, hbe3, -⟩
            have HR := Lib.hid (qx_step2 HB2.out HC.out (by rw [HX.out]; rfl) hb3 hbe3)
            clear hb3 hbe3
            go_wp2_with fail
            exact ⟨⟨m + 1, hlt, by simp, HR.out⟩, by simp [intOf]; omega⟩)
      have e39 : ((c.toNat : Int) == 39) = false := by simp; omega
      have e92 : ((c.toNat : Int) == 92) = false := by simp; omega
      have e10 : ((c.toNat : Int) == 10) = false := by simp; omega
      have e13 : ((c.toNat : Int) == 13) = false := by simp; omega
      have e9 : ((c.toNat : Int) == 9) = false := by simp; omega
      have e32 : decide ((c.toNat : Int) < 32) = false := by simp; omega
      have e127 : ((c.toNat : Int) == 127) = false := by simp; omega
      have hqc : qcf c = [c] := by rw [qcf, if_neg h39, if_neg h92, if_neg h10, if_neg h13, if_neg h9, if_neg hx]
      have HX := Lib.hid hqc
      clear h39 h92 h10 h13 h9 hx hqc
      go_wp2_with fail
      refine (writeByte_61 H H (Lib.byteCells (39 :: (t.data.toList.take m).flatMap qcf)) c.toNat wr HQ.out.1 (by omega) hz).mono ?_
      rintro _ w3 ⟨rfl, hb3, hbe3, -⟩
      have HR := Lib.hid (qx_step HQ.out.2 HC.out (by rw [HX.out]; rfl) hb3 hbe3)
      clear hb3 hbe3
      go_wp2_with fail
      exact ⟨⟨m + 1, hlt, by simp, HR.out⟩, by simp [intOf]; omega⟩
    · have hd : decide ((m : Int) < (t.size : Int)) = false := by simp; omega
      obtain rfl : m = t.size := by omega
      have hta : t.data.toList.take t.size = t.data.toList := List.take_of_length_le (by rw [len_list]; exact Nat.le_refl _)
      go_wp2_with fail
      refine (writeByte_61 H H (Lib.byteCells (39 :: (t.data.toList.take t.size).flatMap qcf)) 39 wr HQ.out.1 (by omega) hz).mono ?_
      rintro _ w3 ⟨rfl, hb3, hbe3, -⟩
      have hb3' : Lib.IsBuilderF 58 5 H H (Lib.byteCells (quf t.data.toList)) w3 := by
        have e : Lib.byteCells (quf t.data.toList) = Lib.byteCells (39 :: (t.data.toList.take t.size).flatMap qcf) ++ [.int .u8 39] := by
          rw [hta]
          simp [quf, Lib.byteCells]
        rw [e]; exact .inr hb3
      have HB := Lib.hid hb3'
      have HE3 := Lib.hid (HQ.out.2.trans hbe3)
      clear hb3 hbe3 hb3' hta
      go_wp2_with fail
      refine (Tryz.Builder_String_any_f H H (quf t.data.toList) w3 HB.out (by have := HE3.out.size; have := HH.out; omega)).mono ?_
      rintro _ w4 ⟨rfl, -, hbe4⟩
      go_wp2_with fail
      go_ret
      exact ⟨rfl, by rw [HH.out]; exact HE3.out.trans hbe4⟩
end Go.Proofs.YtpjfkfbijimliaaGreatDoor
