/- ref quoted 29. Printed by gen_quoted.py. -/
import Derived.Test.YtpjfkfbijimliaaGreatDoorBb
import Derived.Test.YtpjfkfbijimliaaGreatDoorCa
import Derived.Lib.AppendStr
import Derived.Deep.AppendLies
namespace Go.Proofs.YtpjfkfbijimliaaGreatDoor
open Go.RowKit Go.Pen

/-- what is written so far -/
def qpre (t : ByteArray) (m : Nat) : Bytes := 39 :: (t.data.toList.take m).flatMap qcf
def QzRel (t : ByteArray) (H : Nat) (w : World) (m : Nat) (v : Value) (wr : World) : Prop := wr.ownsRow H 5 1 v (qpre t m).length ((qpre t m).map bv) ∧ Below H w wr

theorem qpre_len (t : ByteArray) (m : Nat) (hs : t.size ≤ 1000) : (qpre t m).length ≤ 4001 := by
  have h1 := fx_len (t.data.toList.take m)
  have h2 := List.length_take_le m t.data.toList
  have h3 : t.data.toList.length = t.size := len_list t
  have h4 : (t.data.toList.take m).length ≤ t.data.toList.length := by rw [List.length_take]; omega
  unfold qpre
  simp only [List.length_cons]; omega

theorem qpre_succ {t : ByteArray} {m : Nat} {c : UInt8} (hc : t.data.toList[m]? = some c) : qpre t (m + 1) = qpre t m ++ qcf c := by
  unfold qpre
  rw [fx_take hc, List.cons_append]

theorem qz_step {t : ByteArray} {H m n : Nat} {w w0 w1 : World} {v v' : Value} {c : UInt8} {xs : List Value} (hb0 : Below H w w0) (hH : H ≤ w0.heap.size) (hc : t.data.toList[m]? = some c)
    (ho : w1.ownsRow H 5 1 v' n xs) (hn : n = (qpre t m).length + (qcf c).length) (hx : xs = (qpre t m).map bv ++ (qcf c).map bv) (hg : w0.grownBy w1 v.ownBlock) (hv : ∀ g, v.ownBlock = some g → H ≤ g) : QzRel t H w (m + 1) v' w1 := by
  subst hn hx
  exact ⟨by rw [qpre_succ hc, List.length_append, List.map_append]; exact ho, hb0.grown hg hH hv⟩

theorem own_far {w w' : World} {base e size n : Nat} {v : Value} {xs : List Value} (ho : w.ownsRow base e size v n xs) (hf : ∀ g, g < w.heap.size → w'.heap[g]? = w.heap[g]?) : w'.ownsRow base e size v n xs :=
  ownsRow_frame ho fun g hg => hf g (ho.lt g hg).2

theorem four_at {w : World} {B : Nat} {a b c d : Value} (h : w.heap[B]? = some (.cells #[a, b, c, d] 5 (0, 0))) : ∀ j u, [a, b, c, d][j]? = some u → w.cell? ((⟨B, 0, none⟩ : Addr).add j) = some u := by
  intro j u hj
  rw [add_lit, Nat.zero_add]
  exact cell_of_heap h (by rw [List.getElem?_toArray]; exact hj)

theorem four_one (y z : Int) : ∀ u ∈ [Value.int .u8 92, .int .u8 120, .int .u8 y, .int .u8 z], u.oneCell' = true := by
  intro u hu
  simp only [List.mem_cons, List.not_mem_nil, or_false] at hu
  rcases hu with rfl | rfl | rfl | rfl <;> rfl

theorem hexdig_at : ∀ n : Fin 16, (⟨#[48, 49, 50, 51, 52, 53, 54, 55, 56, 57, 97, 98, 99, 100, 101, 102]⟩ : ByteArray).data[n.val]? = some (hexd n.val) := by decide +kernel

theorem idx_hex16 (z : Int) (i : Nat) (hz : z = (i : Int)) (hi : i < 16) (w : World) :
    (Instr.index 9 (.string ⟨#[48, 49, 50, 51, 52, 53, 54, 55, 56, 57, 97, 98, 99, 100, 101, 102]⟩) (.int .u8 z)).run Tryz.prog w = .ok (.int .u8 ((hexd i).toNat : Int)) w := by
  subst hz
  obtain ⟨D, hD⟩ : ∃ D : ByteArray, (⟨#[48, 49, 50, 51, 52, 53, 54, 55, 56, 57, 97, 98, 99, 100, 101, 102]⟩ : ByteArray) = D := ⟨_, rfl⟩
  have hs : D.size = 16 := by rw [← hD]; rfl
  have h := hexdig_at ⟨i, hi⟩
  rw [hD] at h ⊢
  rw [run_index_string w 9 D .u8 _ Tryz.underlying9, dif_pos ⟨by omega, by rw [hs]; omega⟩]
  have e : ((i : Int)).toNat = i := by omega
  simp only [e]
  have h2 : D[i]'(by rw [hs]; omega) = hexd i := by
    have h3 : D.data[i]'(by have : D.data.size = 16 := hs; omega) = hexd i := by
      rw [Array.getElem?_eq_getElem (by have : D.data.size = 16 := hs; omega)] at h
      exact Option.some.inj h
    exact h3
  rw [h2]

set_option maxRecDepth 100000 in
theorem nib : ∀ u : Fin 256, bits BinOp.and IntKind.u8 (u.val : Int) 15 = ((u.val % 16 : Nat) : Int) := by decide +kernel

set_option maxRecDepth 100000 in
set_option maxHeartbeats 8000000 in
theorem quoted_29 (t : ByteArray) (w : World) (hs : t.size ≤ 1000) :
    Calls Tryz.prog 29 #[.string t] w fun e w' => e = .returned (.string ⟨(quf t.data.toList).toArray⟩) ∧ Below w.heap.size w w' := by
  obtain ⟨i0, hi, hz0, hz1, hz2⟩ := info_parts info5
  obtain ⟨H, hH⟩ : ∃ H, w.heap.size = H := ⟨_, rfl⟩
  have HH := Lib.hid hH
  clear hH
  have hrel0 : QzRel t H w 0 (.slice (some ⟨H, 0, none⟩) 1 1) (w.alloc (.cells #[.int .u8 39] 5)) := by
    refine ⟨⟨by simp [qpre], .inr ⟨H, 1, #[.int .u8 39], rfl, Nat.le_refl _, by rw [← HH.out]; exact heap_alloc_new w _, Nat.le_refl _, by decide, rfl, rfl⟩⟩, (Below.refl _ _).alloc (by have := HH.out; omega) _⟩
  have HR0 := Lib.hid hrel0
  clear hrel0
  go_enter Tryz.func29, Tryz.ntmps29
  go_wp2_with fail
  rw [HH.out]
  go_loopw [3, 4] (fun v i wr => ∃ m : Nat, m ≤ t.size ∧ i = .int .i64 m ∧ QzRel t H w m v wr) (fun _ i _ => t.size - (intOf i).toNat)
  case atStart => exact ⟨0, Nat.zero_le _, rfl, HR0.out⟩
  case round =>
    obtain ⟨m, hm, rfl, hq⟩ := hrel
    obtain ⟨ho, hb⟩ := hq
    have hpl := qpre_len t m hs
    obtain ⟨n, hn⟩ : ∃ n, (qpre t m).length = n := ⟨_, rfl⟩
    obtain ⟨X, hX⟩ : ∃ X, (qpre t m).map bv = X := ⟨_, rfl⟩
    rw [hn] at hpl
    rw [hn, hX] at ho
    obtain ⟨va, vc, rfl⟩ := ownsRow_slice ho
    have hHs : H ≤ wr.heap.size := by have := hb.size; have := HH.out; omega
    have hvb : ∀ g, (Value.slice va n vc).ownBlock = some g → H ≤ g := fun g hg => (ho.lt g hg).1
    have HN := Lib.hid hn
    have HX := Lib.hid hX
    have HB := Lib.hid hb
    have HVB := Lib.hid hvb
    clear hn hX hb hvb
    rcases Nat.lt_or_ge m t.size with hlt | hge
    · have hd : decide ((m : Int) < (t.size : Int)) = true := by simpa using hlt
      obtain ⟨c, cs, hcs, -⟩ := drop_cons hlt
      have hget := get_of_drop hcs hlt
      have hc : t.data.toList[m]? = some c := by
        have := congrArg List.head? hcs
        simpa [List.head?_drop] using this
      have HC := Lib.hid hc
      clear hcs hc
      by_cases h39 : c.toNat = 39
      · have e39 : ((c.toNat : Int) == 39) = true := by simp; omega
        have hqc : qcf c = [39, 39] := by rw [qcf, if_pos h39]
        have HQ := Lib.hid hqc
        clear h39 hqc
        go_wp2_with (at_builtin; go_must (refine Lib.wpList_append_own_string _ rfl _ _ 56 9 rfl H 5 i0 Tryz.underlying56 Tryz.underlying9 hi hz0 hz1 hz2 (.slice va n vc) n X rfl ho ⟨#[39, 39]⟩ rfl ?c3 ?c4 ?c5 ?_))
        case c3 => unfold maxLen; simp [ByteArray.size]; omega
        case c4 => simp [ByteArray.size]; omega
        case c5 => exact hHs
        intro v' w1 hown' hgrow _
        have HS := Lib.hid (qz_step HB.out hHs HC.out hown' (by rw [HN.out, HQ.out]; rfl) (by rw [HX.out, HQ.out]; rfl) hgrow HVB.out)
        clear hown' hgrow
        go_wp2_with fail
        exact ⟨⟨m + 1, hlt, by simp, HS.out⟩, by simp [intOf]; omega⟩
      by_cases h92 : c.toNat = 92
      · have e92 : ((c.toNat : Int) == 92) = true := by simp; omega
        have e39 : ((c.toNat : Int) == 39) = false := by simp; omega
        have hqc : qcf c = [92, 92] := by rw [qcf, if_neg h39, if_pos h92]
        have HQ := Lib.hid hqc
        clear h39 h92 hqc
        go_wp2_with (at_builtin; go_must (refine Lib.wpList_append_own_string _ rfl _ _ 56 9 rfl H 5 i0 Tryz.underlying56 Tryz.underlying9 hi hz0 hz1 hz2 (.slice va n vc) n X rfl ho ⟨#[92, 92]⟩ rfl ?c3 ?c4 ?c5 ?_))
        case c3 => unfold maxLen; simp [ByteArray.size]; omega
        case c4 => simp [ByteArray.size]; omega
        case c5 => exact hHs
        intro v' w1 hown' hgrow _
        have HS := Lib.hid (qz_step HB.out hHs HC.out hown' (by rw [HN.out, HQ.out]; rfl) (by rw [HX.out, HQ.out]; rfl) hgrow HVB.out)
        clear hown' hgrow
        go_wp2_with fail
        exact ⟨⟨m + 1, hlt, by simp, HS.out⟩, by simp [intOf]; omega⟩
      by_cases h10 : c.toNat = 10
      · have e10 : ((c.toNat : Int) == 10) = true := by simp; omega
        have e39 : ((c.toNat : Int) == 39) = false := by simp; omega
        have e92 : ((c.toNat : Int) == 92) = false := by simp; omega
        have hqc : qcf c = [92, 110] := by rw [qcf, if_neg h39, if_neg h92, if_pos h10]
        have HQ := Lib.hid hqc
        clear h39 h92 h10 hqc
        go_wp2_with (at_builtin; go_must (refine Lib.wpList_append_own_string _ rfl _ _ 56 9 rfl H 5 i0 Tryz.underlying56 Tryz.underlying9 hi hz0 hz1 hz2 (.slice va n vc) n X rfl ho ⟨#[92, 110]⟩ rfl ?c3 ?c4 ?c5 ?_))
        case c3 => unfold maxLen; simp [ByteArray.size]; omega
        case c4 => simp [ByteArray.size]; omega
        case c5 => exact hHs
        intro v' w1 hown' hgrow _
        have HS := Lib.hid (qz_step HB.out hHs HC.out hown' (by rw [HN.out, HQ.out]; rfl) (by rw [HX.out, HQ.out]; rfl) hgrow HVB.out)
        clear hown' hgrow
        go_wp2_with fail
        exact ⟨⟨m + 1, hlt, by simp, HS.out⟩, by simp [intOf]; omega⟩
      by_cases h13 : c.toNat = 13
      · have e13 : ((c.toNat : Int) == 13) = true := by simp; omega
        have e39 : ((c.toNat : Int) == 39) = false := by simp; omega
        have e92 : ((c.toNat : Int) == 92) = false := by simp; omega
        have e10 : ((c.toNat : Int) == 10) = false := by simp; omega
        have hqc : qcf c = [92, 114] := by rw [qcf, if_neg h39, if_neg h92, if_neg h10, if_pos h13]
        have HQ := Lib.hid hqc
        clear h39 h92 h10 h13 hqc
        go_wp2_with (at_builtin; go_must (refine Lib.wpList_append_own_string _ rfl _ _ 56 9 rfl H 5 i0 Tryz.underlying56 Tryz.underlying9 hi hz0 hz1 hz2 (.slice va n vc) n X rfl ho ⟨#[92, 114]⟩ rfl ?c3 ?c4 ?c5 ?_))
        case c3 => unfold maxLen; simp [ByteArray.size]; omega
        case c4 => simp [ByteArray.size]; omega
        case c5 => exact hHs
        intro v' w1 hown' hgrow _
        have HS := Lib.hid (qz_step HB.out hHs HC.out hown' (by rw [HN.out, HQ.out]; rfl) (by rw [HX.out, HQ.out]; rfl) hgrow HVB.out)
        clear hown' hgrow
        go_wp2_with fail
        exact ⟨⟨m + 1, hlt, by simp, HS.out⟩, by simp [intOf]; omega⟩
      by_cases h9 : c.toNat = 9
      · have e9 : ((c.toNat : Int) == 9) = true := by simp; omega
        have e39 : ((c.toNat : Int) == 39) = false := by simp; omega
        have e92 : ((c.toNat : Int) == 92) = false := by simp; omega
        have e10 : ((c.toNat : Int) == 10) = false := by simp; omega
        have e13 : ((c.toNat : Int) == 13) = false := by simp; omega
        have hqc : qcf c = [92, 116] := by rw [qcf, if_neg h39, if_neg h92, if_neg h10, if_neg h13, if_pos h9]
        have HQ := Lib.hid hqc
        clear h39 h92 h10 h13 h9 hqc
        go_wp2_with (at_builtin; go_must (refine Lib.wpList_append_own_string _ rfl _ _ 56 9 rfl H 5 i0 Tryz.underlying56 Tryz.underlying9 hi hz0 hz1 hz2 (.slice va n vc) n X rfl ho ⟨#[92, 116]⟩ rfl ?c3 ?c4 ?c5 ?_))
        case c3 => unfold maxLen; simp [ByteArray.size]; omega
        case c4 => simp [ByteArray.size]; omega
        case c5 => exact hHs
        intro v' w1 hown' hgrow _
        have HS := Lib.hid (qz_step HB.out hHs HC.out hown' (by rw [HN.out, HQ.out]; rfl) (by rw [HX.out, HQ.out]; rfl) hgrow HVB.out)
        clear hown' hgrow
        go_wp2_with fail
        exact ⟨⟨m + 1, hlt, by simp, HS.out⟩, by simp [intOf]; omega⟩
      have e39 : ((c.toNat : Int) == 39) = false := by simp; omega
      have e92 : ((c.toNat : Int) == 92) = false := by simp; omega
      have e10 : ((c.toNat : Int) == 10) = false := by simp; omega
      have e13 : ((c.toNat : Int) == 13) = false := by simp; omega
      have e9 : ((c.toNat : Int) == 9) = false := by simp; omega
      by_cases hx : c.toNat < 32 ∨ c.toNat = 127
      · have hqc : qcf c = [92, 120, hexd (c.toNat / 16), hexd (c.toNat % 16)] := by rw [qcf, if_neg h39, if_neg h92, if_neg h10, if_neg h13, if_neg h9, if_pos hx]
        have hcl : c.toNat < 256 := c.toNat_lt
        have hor : decide ((c.toNat : Int) < 32) = true ∨ (decide ((c.toNat : Int) < 32) = false ∧ ((c.toNat : Int) == 127) = true) := by simp; omega
        have ha := nib ⟨c.toNat, hcl⟩
        have hi1 := idx_hex16 ((c.toNat : Int) / 16) (c.toNat / 16) (by omega) (by omega)
        obtain ⟨r, hr⟩ : ∃ r, c.toNat % 16 = r := ⟨_, rfl⟩
        obtain ⟨y, hy⟩ : ∃ y, hexd (c.toNat / 16) = y := ⟨_, rfl⟩
        obtain ⟨z, hz⟩ : ∃ z, hexd r = z := ⟨_, rfl⟩
        have hi2 := idx_hex16 (r : Int) r rfl (by omega)
        rw [hr] at hqc ha
        rw [hy] at hqc hi1
        rw [hz] at hqc hi2
        have HQ := Lib.hid hqc
        have hrl : r < 16 := by omega
        simp only [] at ha
        have hm1 : n + 4 ≤ maxLen := by unfold maxLen; omega
        have HM1 := Lib.hid hm1
        clear h39 h92 h10 h13 h9 hx hqc hr hy hz hm1
        rcases hor with e32 | ⟨e32, e127⟩ <;> (
          go_wp2_with fail
          go_region_held3 (fun _ => True) (exact trivial)
            (first | (refine step_append_lies _ rfl (.tmp 52) (.tmp 59) 56 rfl H 5 i0 (.int .u8 0) 1 1 Tryz.underlying56 hi hz0 hz1 hz2 rfl (by decide) (.slice va n vc) n X (by simp [Act.eval]) (own_far ho (by intro g hg; exact Below.heap_alloc wr _ g hg)) ⟨wr.heap.size, 0, none⟩ 4 4 [.int .u8 92, .int .u8 120, .int .u8 y.toNat, .int .u8 z.toNat] (by simp [Act.eval]) rfl (four_at (heap_alloc_new wr _)) (four_one _ _) (by decide) HM1.out (by omega) (by simp; omega) _ rfl ?_; intro g9 cap9 w9 hown9 hgrow9 hat9 hlt9))
          all_goals (
            have HS := Lib.hid (qz_step ((HB.out.alloc hHs _).drew) (by simp; omega) HC.out hown9 (by rw [HN.out, HQ.out]; rfl) (by rw [HX.out, HQ.out]; rfl) hgrow9 HVB.out)
            clear hown9 hgrow9 hat9 hlt9
            go_wp2_with fail
            exact ⟨⟨m + 1, hlt, by simp, HS.out⟩, by simp [intOf]; omega⟩))
      · have e32 : decide ((c.toNat : Int) < 32) = false := by simp; omega
        have e127 : ((c.toNat : Int) == 127) = false := by simp; omega
        have hqc : qcf c = [c] := by rw [qcf, if_neg h39, if_neg h92, if_neg h10, if_neg h13, if_neg h9, if_neg hx]
        have HQ := Lib.hid hqc
        clear h39 h92 h10 h13 h9 hx hqc
        go_wp2_with (at_builtin; go_must (refine wpList_append_own _ rfl _ _ 56 rfl H 5 i0 (.int .u8 0) 1 1 Tryz.underlying56 hi hz0 hz1 hz2 rfl (by decide) (.slice va n vc) n X rfl (ho.alloc _) ⟨wr.heap.size, 0, none⟩ 1 1 [.int .u8 c.toNat] rfl rfl ?c1 ?c2 ?c3 ?c4 ?c5 ?_))
        case c1 =>
          intro j u hj
          match j, hj with
          | 0, hj => simp at hj; subst hj; simp [Addr.add]
        case c2 => intro u hu; simp at hu; subst hu; rfl
        case c3 => unfold maxLen; omega
        case c4 => omega
        case c5 => simp; omega
        intro v' w1 hown' hgrow _
        have HS := Lib.hid (qz_step (HB.out.alloc hHs _) (by simp; omega) HC.out hown' (by rw [HN.out, HQ.out]; rfl) (by rw [HX.out, HQ.out]; rfl) hgrow HVB.out)
        clear hown' hgrow
        go_wp2_with fail
        exact ⟨⟨m + 1, hlt, by simp, HS.out⟩, by simp [intOf]; omega⟩
    · have hd : decide ((m : Int) < (t.size : Int)) = false := by simp; omega
      obtain rfl : m = t.size := by omega
      have hfin : qpre t t.size ++ [39] = quf t.data.toList := by
        unfold qpre quf
        rw [List.take_of_length_le (by rw [len_list]; exact Nat.le_refl _), List.cons_append]
      have HF := Lib.hid hfin
      clear hfin
      go_wp2_with (at_builtin; go_must (refine wpList_append_own _ rfl _ _ 56 rfl H 5 i0 (.int .u8 0) 1 1 Tryz.underlying56 hi hz0 hz1 hz2 rfl (by decide) (.slice va n vc) n X rfl (ho.alloc _) ⟨wr.heap.size, 0, none⟩ 1 1 [.int .u8 39] rfl rfl ?c1 ?c2 ?c3 ?c4 ?c5 ?_))
      case c1 =>
        intro j u hj
        match j, hj with
        | 0, hj => simp at hj; subst hj; simp [Addr.add]
      case c2 => intro u hu; simp at hu; subst hu; rfl
      case c3 => unfold maxLen; omega
      case c4 => omega
      case c5 => simp; omega
      intro v' w1 hown' hgrow _
      obtain ⟨va', vc', rfl⟩ := ownsRow_slice hown'
      have hb1 : Below H w w1 := (HB.out.alloc hHs _).grown hgrow (by simp; omega) HVB.out
      have hback := out_text (H := H) (w := w1) (l := quf t.data.toList) (n := n + 1) (by rw [← HF.out, List.map_append, HX.out]; exact hown') (by rw [← HF.out, List.length_append, HN.out]; rfl)
      have HB1 := Lib.hid hb1
      clear hown' hgrow hb1
      go_wp2_with fail
      go_ret
      exact ⟨rfl, by rw [HH.out]; exact HB1.out⟩
end Go.Proofs.YtpjfkfbijimliaaGreatDoor
