/- ref Join 6 of any row. Printed by gen_refjoin.py. -/
import Derived.Test.YtpjfkfbijimliaaGreatDoorCd
namespace Go.Proofs.YtpjfkfbijimliaaGreatDoor
open Go.RowKit Go.Pen

def wbz (g : GTok) : Bytes := (fW g).1.data.toList
def jpre (gs : List GTok) (m : Nat) : Bytes := Lib.join ((gs.take m).map wbz) [32]

theorem join_snoc (xs : List Bytes) (y : Bytes) : Lib.join (xs ++ [y]) [32] = if xs = [] then y else Lib.join xs [32] ++ 32 :: y := by
  cases xs with
  | nil => rw [List.nil_append, Lib.join_one, if_pos rfl]
  | cons x xs =>
    rw [if_neg (by simp), List.cons_append, Lib.join_cons, Lib.join_cons]
    simp [Lib.joinTail]

theorem jpre_succ {gs : List GTok} {m : Nat} {g : GTok} (hg : gs[m]? = some g) : jpre gs (m + 1) = if m = 0 then wbz g else jpre gs m ++ 32 :: wbz g := by
  unfold jpre
  rw [List.take_add_one, hg, List.map_append]
  show Lib.join (List.map wbz (List.take m gs) ++ [wbz g]) [32] = _
  rw [join_snoc]
  by_cases hm : m = 0
  · subst hm; rfl
  · have hl : m < gs.length := (List.getElem?_eq_some_iff.1 hg).1
    rw [if_neg hm, if_neg]
    intro e
    have := congrArg List.length e
    rw [List.length_map, List.length_take, List.length_nil] at this
    omega

theorem jpre_len {gs : List GTok} {m : Nat} (hf : ∀ g ∈ gs, g.fits) (ho : gs.all (fun g => (fW g).2) = true) : (jpre gs m).length ≤ 4003 * m := by
  induction m with
  | zero => simp [jpre, Lib.join_nil]
  | succ m ih =>
    cases hg : gs[m]? with
    | none =>
      have hl : gs.length ≤ m := by simpa using hg
      have e : jpre gs (m + 1) = jpre gs m := by unfold jpre; rw [List.take_of_length_le hl, List.take_of_length_le (by omega)]
      rw [e]; omega
    | some g =>
      have hmem := List.mem_of_getElem? hg
      have hl := fW_len (hf g hmem) (List.all_eq_true.1 ho g hmem)
      rw [jpre_succ hg]
      unfold wbz
      split
      · omega
      · rw [List.length_append, List.length_cons]; omega

def J1Rel (gs : List GTok) (H : Nat) (w : World) (m : Nat) (wr : World) : Prop := (gs.take m).all (fun g => (fW g).2) = true ∧ Below H w wr
def J2Rel (gs : List GTok) (H : Nat) (w : World) (m : Nat) (S : ByteArray) (wr : World) : Prop := S.data.toList = jpre gs m ∧ Below H w wr

theorem j1_step {gs : List GTok} {H m : Nat} {w wr w1 : World} {g : GTok} (h : J1Rel gs H w m wr) (hg : gs[m]? = some g) (ho : (fW g).2 = true) (hb : Below H wr w1) : J1Rel gs H w (m + 1) w1 :=
  ⟨by rw [List.take_add_one, hg, List.all_append, h.1]; simp [ho], h.2.trans hb⟩

theorem ba_list (a b : ByteArray) : (a ++ b).data.toList = a.data.toList ++ b.data.toList := by simp

theorem j2_first {gs : List GTok} {H : Nat} {w wr w1 : World} {g : GTok} {S T : ByteArray} (h : J2Rel gs H w 0 S wr) (hg : gs[0]? = some g) (hT : T.data.toList = wbz g) (hb : Below H wr w1) : J2Rel gs H w 1 (S ++ T) w1 := by
  refine ⟨?_, h.2.trans hb⟩
  rw [ba_list, h.1, hT, jpre_succ hg, if_pos rfl]
  simp [jpre, Lib.join_nil]

theorem j2_next {gs : List GTok} {H m : Nat} {w wr w1 : World} {g : GTok} {S T : ByteArray} (h : J2Rel gs H w m S wr) (hm : m ≠ 0) (hg : gs[m]? = some g) (hT : T.data.toList = wbz g) (hb : Below H wr w1) : J2Rel gs H w (m + 1) (S ++ ⟨#[32]⟩ ++ T) w1 := by
  refine ⟨?_, h.2.trans hb⟩
  rw [ba_list, ba_list, h.1, hT, jpre_succ hg, if_neg hm]
  simp

set_option maxRecDepth 100000 in
set_option maxHeartbeats 8000000 in
theorem refjoin_6 (gs : List GTok) (v : Value) (w : World) (hv : TokRow w v gs) (hn : gs.length ≤ 4398046511104) (hf : ∀ g ∈ gs, g.fits) :
    Calls Tryz.prog 6 #[v] w fun e w' => e = .returned (.tuple #[.string ⟨(joinR fW gs).1.toArray⟩, .int .i64 (joinR fW gs).2]) ∧ Below w.heap.size w w' := by
  obtain ⟨a, c, rfl, hrow⟩ := hv
  obtain ⟨H, hH⟩ : ∃ H, w.heap.size = H := ⟨_, rfl⟩
  obtain ⟨n, hnn⟩ : ∃ n, gs.length = n := ⟨_, rfl⟩
  rw [hnn] at hn ⊢
  have HH := Lib.hid hH
  have HN := Lib.hid hnn
  have HF := Lib.hid hf
  have HR := Lib.hid hrow
  have hr0 : J1Rel gs H w 0 w := ⟨rfl, Below.refl _ _⟩
  clear hH hnn hf hrow
  go_enter Tryz.func6, Tryz.ntmps6
  go_wp2_with fail
  go_loopw [4] (fun i wr => ∃ m : Nat, m ≤ n ∧ i = .int .i64 m ∧ J1Rel gs H w m wr) (fun i _ => n - (intOf i).toNat)
  case atStart => exact ⟨0, Nat.zero_le _, rfl, hr0⟩
  case round =>
    clear hr0
    obtain ⟨m, hm, rfl, hj⟩ := hrel
    have HJ := Lib.hid hj
    have hHs : H ≤ wr.heap.size := by have := hj.2.size; have := HH.out; omega
    rcases Nat.lt_or_ge m n with hlt | hge
    · have hd : decide ((m : Int) < (n : Int)) = true := by simpa using hlt
      obtain ⟨g, hgm⟩ : ∃ g, gs[m]? = some g := ⟨_, List.getElem?_eq_getElem (by have := HN.out; omega)⟩
      have hne : gs ≠ [] := by intro e; rw [e] at hgm; simp at hgm
      obtain ⟨b, o, rfl, hbl, ht⟩ := HR.out hne
      have hbH : b < H := by have := HH.out; omega
      obtain ⟨g0, g1, g2, g3⟩ := ht m g hgm
      have c0 := (hj.2.cell (p := ⟨b, o + m * 4, none⟩) hbH).trans g0
      have c1 := (hj.2.cell (p := ⟨b, o + m * 4 + 1, none⟩) hbH).trans g1
      have c2 := (hj.2.cell (p := ⟨b, o + m * 4 + 2, none⟩) hbH).trans g2
      have c3 := (hj.2.cell (p := ⟨b, o + m * 4 + 3, none⟩) hbH).trans g3
      have b1 : (0 : Int) ≤ (m : Int) := by omega
      have b2 : (m : Int) < (n : Int) := by omega
      have HG := Lib.hid hgm
      have hri := fun W => right_11 g (HF.out g (List.mem_of_getElem? hgm)) W
      have HRI := Lib.hid hri
      clear g0 g1 g2 g3 ht hgm hne hj hri
      go_wp2_with fail
      refine (HRI.out _).mono ?_
      rintro _ w1 ⟨rfl, hb1⟩
      clear c0 c1 c2 c3
      cases hfg : (fW g).2
      · have HM := Lib.hid (all_miss HG.out hfg)
        have HB1 := Lib.hid (HJ.out.2.trans (hb1.mono hHs))
        clear hb1
        go_wp2_with fail
        refine bodyPost_ret (v := .tuple #[.string ⟨#[]⟩, .int .i64 1]) (by simp [results, Tryz.results6, go_sem]) rfl ⟨?_, ?_⟩
        · rw [HM.out]; rfl
        · rw [HH.out]; exact HB1.out
      · have HS := Lib.hid (j1_step HJ.out HG.out hfg (hb1.mono hHs))
        clear hb1
        go_wp2_with fail
        exact ⟨⟨m + 1, hlt, by simp, HS.out⟩, by simp [intOf]; omega⟩
    · have hd : decide ((m : Int) < (n : Int)) = false := by simp; omega
      obtain rfl : n = m := by omega
      have hall : gs.all (fun g => (fW g).2) = true := by
        have := hj.1
        rwa [List.take_of_length_le (by have := HN.out; omega)] at this
      by_cases h4 : 4000 < n
      · have hd4 : decide ((4000 : Int) < (n : Int)) = true := by simp; omega
        have HM : Hid (joinR fW gs = ([], 163)) := Lib.hid (by rw [joinR, hall, if_pos rfl, if_pos (by rw [HN.out]; exact h4)])
        clear hj hall
        go_wp2_with fail
        refine bodyPost_ret (v := .tuple #[.string ⟨#[]⟩, .int .i64 163]) (by simp [results, Tryz.results6, go_sem]) rfl ⟨?_, ?_⟩
        · rw [HM.out]; rfl
        · rw [HH.out]; exact HJ.out.2
      · have hd4 : decide ((4000 : Int) < (n : Int)) = false := by simp; omega
        have HM : Hid (joinR fW gs = (Lib.join (gs.map fun g => (fW g).1.data.toList) [32], 0)) := Lib.hid (by rw [joinR, hall, if_pos rfl, if_neg (by rw [HN.out]; exact h4)])
        have HALL := Lib.hid hall
        have hr2 : J2Rel gs H w 0 ⟨#[]⟩ wr := ⟨by simp [jpre, Lib.join_nil], hj.2⟩
        clear hj hall HJ hge
        go_wp2_with fail
        go_loopw [5, 6] (fun s i wr => ∃ (m : Nat) (S : ByteArray), m ≤ n ∧ i = .int .i64 m ∧ s = .string S ∧ J2Rel gs H w m S wr) (fun _ i _ => n - (intOf i).toNat)
        case atStart => exact ⟨0, ⟨#[]⟩, Nat.zero_le _, rfl, rfl, hr2⟩
        case round =>
          clear hr2
          obtain ⟨m, S, hm, rfl, rfl, hj⟩ := hrel
          have HJ := Lib.hid hj
          have hHs : H ≤ wr.heap.size := by have := hj.2.size; have := HH.out; omega
          have hsl : S.size ≤ 4003 * m := by
            have := jpre_len (m := m) HF.out HALL.out
            rw [← hj.1, len_list] at this
            exact this
          rcases Nat.lt_or_ge m n with hlt | hge
          · have hd : decide ((m : Int) < (n : Int)) = true := by simpa using hlt
            obtain ⟨g, hgm⟩ : ∃ g, gs[m]? = some g := ⟨_, List.getElem?_eq_getElem (by have := HN.out; omega)⟩
            have hne : gs ≠ [] := by intro e; rw [e] at hgm; simp at hgm
            obtain ⟨b, o, rfl, hbl, ht⟩ := HR.out hne
            have hbH : b < H := by have := HH.out; omega
            obtain ⟨g0, g1, g2, g3⟩ := ht m g hgm
            have c0 := (hj.2.cell (p := ⟨b, o + m * 4, none⟩) hbH).trans g0
            have c1 := (hj.2.cell (p := ⟨b, o + m * 4 + 1, none⟩) hbH).trans g1
            have c2 := (hj.2.cell (p := ⟨b, o + m * 4 + 2, none⟩) hbH).trans g2
            have b1 : (0 : Int) ≤ (m : Int) := by omega
            have b2 : (m : Int) < (n : Int) := by omega
            have HG := Lib.hid hgm
            have hmem := List.mem_of_getElem? hgm
            have hok := List.all_eq_true.1 HALL.out g hmem
            have hfit := HF.out g hmem
            have hwl := fW_len hfit hok
            clear g0 g1 g2 g3 ht hgm hne hj hmem
            obtain ⟨k, t, nn, aa⟩ := g
            simp only [] at c0 c1 c2
            have hkind : k = 2 ∨ (k = 1 ∨ k = 4) ∨ k = 3 := by
              rcases Decidable.em (k = 2) with h | h2
              · exact .inl h
              rcases Decidable.em (k = 1) with h | h1
              · exact .inr (.inl (.inl h))
              rcases Decidable.em (k = 3) with h | h3
              · exact .inr (.inr h)
              rcases Decidable.em (k = 4) with h | h4
              · exact .inr (.inl (.inr h))
              · exfalso
                unfold fW at hok
                simp only [if_neg h1, if_neg h2, if_neg h3, if_neg h4] at hok
                cases hok
            rcases hkind with rfl | hk | rfl
            · rcases Nat.eq_zero_or_pos m with rfl | hpos
              · have hnn : 0 ≤ nn := by
                  have : (decide (0 ≤ nn) && t.toList.isEmpty) = true := hok
                  simp only [Bool.and_eq_true, decide_eq_true_eq] at this
                  exact this.1
                obtain ⟨u, rfl⟩ : ∃ u : Nat, nn = u := ⟨nn.toNat, by omega⟩
                have hu : u ≤ 9223372036854775807 := by have := hfit.2.1; simp only [] at this; omega
                obtain ⟨T, hT⟩ : ∃ T : ByteArray, ⟨(Lib.itoa (u : Int)).toArray⟩ = T := ⟨_, rfl⟩
                have hTw : T.data.toList = wbz ⟨2, t, u, aa⟩ := by rw [← hT]; rfl
                have hTl : T.size ≤ 4002 := by rw [← len_list, hTw]; exact hwl
                have HTW := Lib.hid hTw
                have hpr := fun W => printI_12 u hu W
                rw [hT] at hpr
                have HPR := Lib.hid hpr
                clear hT hTw hwl hok hfit hpr hnn
                have hp0 : decide ((0 : Int) < ((0 : Nat) : Int)) = false := by decide
                simp only [Nat.zero_mul, Nat.add_zero, Int.natCast_zero] at c0 c1 c2 b1 b2 hd hp0 ⊢
                have ha1 : ¬ (9223372036854775807 < S.size + T.size) := by omega
                go_wp2_with fail
                refine (int_13 (u : Int) _).mono ?_
                rintro _ w2 ⟨rfl, hb2⟩
                have HB2 := Lib.hid (hb2.mono hHs)
                clear hb2
                go_wp2_with fail
                refine (HPR.out _).mono ?_
                rintro _ w3 ⟨rfl, hb3⟩
                have HS := Lib.hid (j2_first HJ.out HG.out HTW.out (HB2.out.trans (hb3.mono (by have := HB2.out.size; omega))))
                clear hb3 c0 c1 c2
                go_wp2_with fail
                exact ⟨⟨1, _, hlt, by simp, rfl, HS.out⟩, by simp [intOf]; omega⟩
              · have hnn : 0 ≤ nn := by
                  have : (decide (0 ≤ nn) && t.toList.isEmpty) = true := hok
                  simp only [Bool.and_eq_true, decide_eq_true_eq] at this
                  exact this.1
                obtain ⟨u, rfl⟩ : ∃ u : Nat, nn = u := ⟨nn.toNat, by omega⟩
                have hu : u ≤ 9223372036854775807 := by have := hfit.2.1; simp only [] at this; omega
                obtain ⟨T, hT⟩ : ∃ T : ByteArray, ⟨(Lib.itoa (u : Int)).toArray⟩ = T := ⟨_, rfl⟩
                have hTw : T.data.toList = wbz ⟨2, t, u, aa⟩ := by rw [← hT]; rfl
                have hTl : T.size ≤ 4002 := by rw [← len_list, hTw]; exact hwl
                have HTW := Lib.hid hTw
                have hpr := fun W => printI_12 u hu W
                rw [hT] at hpr
                have HPR := Lib.hid hpr
                clear hT hTw hwl hok hfit hpr hnn
                have hp0 : decide ((0 : Int) < (m : Int)) = true := by simp; omega
                have ha0 : ¬ (9223372036854775807 < S.size + (⟨#[32]⟩ : ByteArray).size) := by have : (⟨#[32]⟩ : ByteArray).size = 1 := rfl; omega
                have ha0' : ¬ (9223372036854775807 < S.size + 1) := by omega
                have ha1 : ¬ (9223372036854775807 < (S ++ (⟨#[32]⟩ : ByteArray)).size + T.size) := by have e : (S ++ (⟨#[32]⟩ : ByteArray)).size = S.size + 1 := (by rw [ByteArray.size_append]; rfl); omega
                have ha2 : ¬ (9223372036854775807 < S.size + 1 + T.size) := by omega
                go_wp2_with fail
                refine (int_13 (u : Int) _).mono ?_
                rintro _ w2 ⟨rfl, hb2⟩
                have HB2 := Lib.hid (hb2.mono hHs)
                clear hb2
                go_wp2_with fail
                refine (HPR.out _).mono ?_
                rintro _ w3 ⟨rfl, hb3⟩
                have HS := Lib.hid (j2_next HJ.out (by omega) HG.out HTW.out (HB2.out.trans (hb3.mono (by have := HB2.out.size; omega))))
                clear hb3 c0 c1 c2
                go_wp2_with fail
                exact ⟨⟨m + 1, _, hlt, by simp, rfl, HS.out⟩, by simp [intOf]; omega⟩
            · rcases Nat.eq_zero_or_pos m with rfl | hpos
              · have hTw : t.data.toList = wbz ⟨k, t, nn, aa⟩ := by
                  unfold wbz fW
                  rcases hk with rfl | rfl <;> rfl
                have hTl : t.size ≤ 4002 := by rw [← len_list, hTw]; exact hwl
                have HTW := Lib.hid hTw
                have e2 : (k == 2) = false := by rcases hk with rfl | rfl <;> rfl
                have e3 : (k == 3) = false := by rcases hk with rfl | rfl <;> rfl
                clear hTw hwl hok hfit hk
                have hp0 : decide ((0 : Int) < ((0 : Nat) : Int)) = false := by decide
                simp only [Nat.zero_mul, Nat.add_zero, Int.natCast_zero] at c0 c1 c2 b1 b2 hd hp0 ⊢
                have ha1 : ¬ (9223372036854775807 < S.size + t.size) := by omega
                have HS := Lib.hid (j2_first HJ.out HG.out HTW.out (Below.refl H wr))
                go_wp2_with fail
                exact ⟨⟨1, _, hlt, by simp, rfl, HS.out⟩, by simp [intOf]; omega⟩
              · have hTw : t.data.toList = wbz ⟨k, t, nn, aa⟩ := by
                  unfold wbz fW
                  rcases hk with rfl | rfl <;> rfl
                have hTl : t.size ≤ 4002 := by rw [← len_list, hTw]; exact hwl
                have HTW := Lib.hid hTw
                have e2 : (k == 2) = false := by rcases hk with rfl | rfl <;> rfl
                have e3 : (k == 3) = false := by rcases hk with rfl | rfl <;> rfl
                clear hTw hwl hok hfit hk
                have hp0 : decide ((0 : Int) < (m : Int)) = true := by simp; omega
                have ha0 : ¬ (9223372036854775807 < S.size + (⟨#[32]⟩ : ByteArray).size) := by have : (⟨#[32]⟩ : ByteArray).size = 1 := rfl; omega
                have ha0' : ¬ (9223372036854775807 < S.size + 1) := by omega
                have ha1 : ¬ (9223372036854775807 < (S ++ (⟨#[32]⟩ : ByteArray)).size + t.size) := by have e : (S ++ (⟨#[32]⟩ : ByteArray)).size = S.size + 1 := (by rw [ByteArray.size_append]; rfl); omega
                have ha2 : ¬ (9223372036854775807 < S.size + 1 + t.size) := by omega
                have HS := Lib.hid (j2_next HJ.out (by omega) HG.out HTW.out (Below.refl H wr))
                go_wp2_with fail
                exact ⟨⟨m + 1, _, hlt, by simp, rfl, HS.out⟩, by simp [intOf]; omega⟩
            · rcases Nat.eq_zero_or_pos m with rfl | hpos
              · have hck : chkE t.data.toList = 0 := by
                  have : (decide (nn = 0) && decide (chkE t.data.toList = 0)) = true := hok
                  simp only [Bool.and_eq_true, decide_eq_true_eq] at this
                  exact this.2
                obtain ⟨hvd, hl1⟩ := chk_len hck
                rw [len_list] at hl1
                obtain ⟨T, hT⟩ : ∃ T : ByteArray, ⟨(quf t.data.toList).toArray⟩ = T := ⟨_, rfl⟩
                have hTw : T.data.toList = wbz ⟨3, t, nn, aa⟩ := by
                  rw [← hT]
                  show (quf t.data.toList) = prf t.data.toList
                  rw [prf, if_pos hck]
                have hTl : T.size ≤ 4002 := by rw [← len_list, hTw]; exact hwl
                have HTW := Lib.hid hTw
                have hpr := fun W => printT_12 t W hvd hl1
                rw [hT] at hpr
                have HPR := Lib.hid hpr
                clear hT hTw hwl hok hfit hpr hvd hck
                have hp0 : decide ((0 : Int) < ((0 : Nat) : Int)) = false := by decide
                simp only [Nat.zero_mul, Nat.add_zero, Int.natCast_zero] at c0 c1 c2 b1 b2 hd hp0 ⊢
                have ha1 : ¬ (9223372036854775807 < S.size + T.size) := by omega
                go_wp2_with fail
                refine (text_14 t _).mono ?_
                rintro _ w2 ⟨rfl, hb2⟩
                have HB2 := Lib.hid (hb2.mono hHs)
                clear hb2
                go_wp2_with fail
                refine (HPR.out _).mono ?_
                rintro _ w3 ⟨rfl, hb3⟩
                have HS := Lib.hid (j2_first HJ.out HG.out HTW.out (HB2.out.trans (hb3.mono (by have := HB2.out.size; omega))))
                clear hb3 c0 c1 c2
                go_wp2_with fail
                exact ⟨⟨1, _, hlt, by simp, rfl, HS.out⟩, by simp [intOf]; omega⟩
              · have hck : chkE t.data.toList = 0 := by
                  have : (decide (nn = 0) && decide (chkE t.data.toList = 0)) = true := hok
                  simp only [Bool.and_eq_true, decide_eq_true_eq] at this
                  exact this.2
                obtain ⟨hvd, hl1⟩ := chk_len hck
                rw [len_list] at hl1
                obtain ⟨T, hT⟩ : ∃ T : ByteArray, ⟨(quf t.data.toList).toArray⟩ = T := ⟨_, rfl⟩
                have hTw : T.data.toList = wbz ⟨3, t, nn, aa⟩ := by
                  rw [← hT]
                  show (quf t.data.toList) = prf t.data.toList
                  rw [prf, if_pos hck]
                have hTl : T.size ≤ 4002 := by rw [← len_list, hTw]; exact hwl
                have HTW := Lib.hid hTw
                have hpr := fun W => printT_12 t W hvd hl1
                rw [hT] at hpr
                have HPR := Lib.hid hpr
                clear hT hTw hwl hok hfit hpr hvd hck
                have hp0 : decide ((0 : Int) < (m : Int)) = true := by simp; omega
                have ha0 : ¬ (9223372036854775807 < S.size + (⟨#[32]⟩ : ByteArray).size) := by have : (⟨#[32]⟩ : ByteArray).size = 1 := rfl; omega
                have ha0' : ¬ (9223372036854775807 < S.size + 1) := by omega
                have ha1 : ¬ (9223372036854775807 < (S ++ (⟨#[32]⟩ : ByteArray)).size + T.size) := by have e : (S ++ (⟨#[32]⟩ : ByteArray)).size = S.size + 1 := (by rw [ByteArray.size_append]; rfl); omega
                have ha2 : ¬ (9223372036854775807 < S.size + 1 + T.size) := by omega
                go_wp2_with fail
                refine (text_14 t _).mono ?_
                rintro _ w2 ⟨rfl, hb2⟩
                have HB2 := Lib.hid (hb2.mono hHs)
                clear hb2
                go_wp2_with fail
                refine (HPR.out _).mono ?_
                rintro _ w3 ⟨rfl, hb3⟩
                have HS := Lib.hid (j2_next HJ.out (by omega) HG.out HTW.out (HB2.out.trans (hb3.mono (by have := HB2.out.size; omega))))
                clear hb3 c0 c1 c2
                go_wp2_with fail
                exact ⟨⟨m + 1, _, hlt, by simp, rfl, HS.out⟩, by simp [intOf]; omega⟩
          · have hd : decide ((m : Int) < (n : Int)) = false := by simp; omega
            obtain rfl : m = n := by omega
            have hfin : S = ⟨(joinR fW gs).1.toArray⟩ := by
              apply ByteArray.ext
              apply Array.toList_inj.1
              rw [hj.1, HM.out]
              show jpre gs m = (Lib.join (gs.map fun g => (fW g).1.data.toList) [32]).toArray.toList
              rw [List.toList_toArray]
              unfold jpre
              rw [List.take_of_length_le (by have := HN.out; omega)]
              rfl
            have HFIN := Lib.hid hfin
            clear hj hfin
            go_wp2_with fail
            refine bodyPost_ret (v := .tuple #[.string S, .int .i64 0]) (by simp [results, Tryz.results6, go_sem]) rfl ⟨?_, ?_⟩
            · rw [HFIN.out, HM.out]; rfl
            · rw [HH.out]; exact HJ.out.2
end Go.Proofs.YtpjfkfbijimliaaGreatDoor
