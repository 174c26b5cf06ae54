/- The reference's text. -/
import Derived.Test.YtpjfkfbijimliaaDoorZt
import Derived.Test.YtpjfkfbijimliaaDoorN
import Derived.Deep.RegionHeld3
import Derived.Deep.RegionWith
namespace Go.Proofs.YtpjfkfbijimliaaDoor
open Go.RowKit Go.Pen

/-- what the reference tells of a text -/
def txtV (k : Nat) (l : Bytes) : Value :=
  match txt l.length l with
  | some (t, n) => if Lib.validD t then .tuple #[.string ⟨t.toArray⟩, .int .i64 ((k + 1 + n : Nat) : Int)] else .tuple #[.string ⟨#[]⟩, .int .i64 (-1)]
  | none => .tuple #[.string ⟨#[]⟩, .int .i64 (-1)]

theorem txtV_none {k : Nat} {l : Bytes} (h : txt l.length l = none) : txtV k l = .tuple #[.string ⟨#[]⟩, .int .i64 (-1)] := by rw [txtV, h]
theorem txtV_bad {k n : Nat} {l t : Bytes} (h : txt l.length l = some (t, n)) (hv : Lib.validD t = false) : txtV k l = .tuple #[.string ⟨#[]⟩, .int .i64 (-1)] := by
  rw [txtV, h]; simp only []; rw [hv, if_neg (by decide)]
theorem txtV_ok {k n : Nat} {l t : Bytes} (h : txt l.length l = some (t, n)) (hv : Lib.validD t = true) : txtV k l = .tuple #[.string ⟨t.toArray⟩, .int .i64 ((k + 1 + n : Nat) : Int)] := by
  rw [txtV, h]; simp only []; rw [hv, if_pos rfl]

theorem out_add {H m : Nat} {w wr w1 : World} {v v' : Value} {l : Bytes} {c : UInt8} {x : Int} {o : Obj} (hb : Below H w wr) (hHs : H ≤ wr.heap.size) (ho : wr.ownsRow H 5 1 v m (l.map bv)) (ho' : w1.ownsRow H 5 1 v' (m + 1) (l.map bv ++ [.int .u8 x])) (hg : (wr.alloc o).grownBy w1 v.ownBlock) (hx : x = (c.toNat : Int)) : OutIs H w v' (l ++ [c]) w1 := by
  have hl := ho.1
  rw [List.length_map] at hl
  subst hx
  refine ⟨?_, (hb.alloc hHs o).grown hg (by show _ ≤ (World.alloc _ _).heap.size; simp; omega) (fun g hg => (ho.lt g hg).1)⟩
  rw [List.length_append, List.map_append, show l.length = m by omega]
  exact ho'

/-- where the loop stands: what is still to be read gives the whole, behind what was read -/
def TxrRel (l : Bytes) (k i f : Nat) (X : Option (Bytes × Nat)) (acc : Bytes) : Prop :=
  X = (txt f (l.drop i)).map fun p => (acc ++ p.1, p.2 + (i - (k + 1)))

theorem tx_plain {l : Bytes} {k i f : Nat} {X : Option (Bytes × Nat)} {acc : Bytes} {c : UInt8} {cs : Bytes} (h : TxrRel l k i (f + 1) X acc) (hc : l.drop i = c :: cs) (h1 : ¬ c.toNat = 39) (h2 : ¬ c.toNat = 92) (hk : k + 1 ≤ i) : TxrRel l k (i + 1) f X (acc ++ [c]) := by
  have hd : l.drop (i + 1) = cs := by rw [← List.drop_drop, hc]; rfl
  unfold TxrRel at *
  rw [h, hc, txt, if_neg h1, if_neg h2, hd, Option.map_map]
  congr 1
  funext p
  simp only [Function.comp, List.append_assoc, List.singleton_append, Prod.mk.injEq, true_and]
  omega

theorem tx_two {l : Bytes} {k i f : Nat} {X : Option (Bytes × Nat)} {acc : Bytes} {c d : UInt8} {cs : Bytes} (h : TxrRel l k i (f + 1) X acc) (hc : l.drop i = c :: d :: cs) (h1 : c.toNat = 39) (h2 : d.toNat = 39) (hk : k + 1 ≤ i) : TxrRel l k (i + 2) f X (acc ++ [39]) := by
  have hd : l.drop (i + 2) = cs := by rw [← List.drop_drop, hc]; rfl
  have h2' : (d :: cs).head? = some 39 := by rw [List.head?_cons]; exact congrArg some (UInt8.toNat_inj.1 h2)
  unfold TxrRel at *
  rw [h, hc, txt, if_pos h1, if_pos h2', List.tail_cons, hd, Option.map_map]
  congr 1
  funext p
  simp only [Function.comp, List.append_assoc, List.singleton_append, Prod.mk.injEq, true_and]
  omega

theorem tx_end {l : Bytes} {k i f : Nat} {X : Option (Bytes × Nat)} {acc : Bytes} {c : UInt8} {cs : Bytes} (h : TxrRel l k i (f + 1) X acc) (hc : l.drop i = c :: cs) (h1 : c.toNat = 39) (h2 : cs.head? ≠ some 39) (hk : k + 1 ≤ i) : X = some (acc, i - k) := by
  unfold TxrRel at h
  rw [h, hc, txt, if_pos h1, if_neg h2, Option.map_some, List.append_nil]
  congr 2
  omega

theorem tx_esc {l : Bytes} {k i f n : Nat} {X : Option (Bytes × Nat)} {acc : Bytes} {c b : UInt8} {cs : Bytes} (h : TxrRel l k i (f + 1) X acc) (hc : l.drop i = c :: cs) (h1 : c.toNat = 92) (he : esc cs = some (b, n)) (hk : k + 1 ≤ i) : TxrRel l k (i + 1 + n) f X (acc ++ [b]) := by
  have hd : l.drop (i + 1 + n) = cs.drop n := by rw [← List.drop_drop, ← List.drop_drop, hc]; rfl
  unfold TxrRel at *
  rw [h, hc, txt, if_neg (by omega), if_pos h1, he, hd]
  simp only []
  rw [Option.map_map]
  congr 1
  funext p
  simp only [Function.comp, List.append_assoc, List.singleton_append, Prod.mk.injEq, true_and]
  omega

theorem tx_noesc {l : Bytes} {k i f : Nat} {X : Option (Bytes × Nat)} {acc : Bytes} {c : UInt8} {cs : Bytes} (h : TxrRel l k i (f + 1) X acc) (hc : l.drop i = c :: cs) (h1 : c.toNat = 92) (he : esc cs = none) : X = none := by
  unfold TxrRel at h
  rw [h, hc, txt, if_neg (by omega), if_pos h1, he]
  rfl

theorem tx_over {l : Bytes} {k i f : Nat} {X : Option (Bytes × Nat)} {acc : Bytes} (h : TxrRel l k i f X acc) (hc : l.length ≤ i) : X = none := by
  unfold TxrRel at h
  rw [h, List.drop_of_length_le hc, txt_nil]
  rfl

/-- the loop's state -/
def TxrSt (s : ByteArray) (k H : Nat) (w : World) (v iv : Value) (wr : World) : Prop :=
  ∃ i f acc, k + 1 ≤ i ∧ i ≤ s.size ∧ iv = .int .i64 (i : Int) ∧ acc.length ≤ i ∧ s.size - i ≤ f ∧ TxrRel s.data.toList k i f (txt (s.data.toList.drop (k + 1)).length (s.data.toList.drop (k + 1))) acc ∧ OutIs H w v acc wr

theorem esc_x {d a b : UInt8} {bs : Bytes} (h : d.toNat = 120) : esc (d :: a :: b :: bs) = if 0 ≤ hexv a ∧ 0 ≤ hexv b then some ((16 * hexv a + hexv b).toNat.toUInt8, 3) else none := by
  have e : esc1 d = none := by rw [esc1, if_neg (by omega), if_neg (by omega), if_neg (by omega), if_neg (by omega)]
  unfold esc
  simp only [e]
  rw [if_pos h]

theorem esc_x_short {d : UInt8} {ds : Bytes} (h : d.toNat = 120) (hl : ds.length < 2) : esc (d :: ds) = none := by
  have e : esc1 d = none := by rw [esc1, if_neg (by omega), if_neg (by omega), if_neg (by omega), if_neg (by omega)]
  unfold esc
  simp only [e]
  rw [if_pos h]
  match ds, hl with
  | [], _ => rfl
  | [_], _ => rfl
  | _ :: _ :: _, hl => simp at hl; omega

theorem esc_o {d : UInt8} {ds : Bytes} (h : ¬ d.toNat = 120) : esc (d :: ds) = (esc1 d).map fun b => (b, 1) := by
  unfold esc
  simp only []
  cases esc1 d with
  | none => simp only [Option.map_none]; rw [if_neg h]
  | some b => rfl

theorem one_new (w : World) (v : Value) : ∀ j u, [v][j]? = some u → (w.alloc (.cells #[v] 5)).cell? ((⟨w.heap.size, 0, none⟩ : Addr).add j) = some u := by
  intro j u hj
  match j, hj with
  | 0, hj => simp at hj; subst hj; simp [Addr.add]

theorem one_at {w : World} {B : Nat} {v : Value} (h : w.cell? ⟨B, 0, none⟩ = some v) : ∀ j u, [v][j]? = some u → w.cell? ((⟨B, 0, none⟩ : Addr).add j) = some u := by
  intro j u hj
  match j, hj with
  | 0, hj => simp at hj; subst hj; rw [add_lit]; exact h

theorem own_far {w w' : World} {base e size n : Nat} {v : Value} {xs : List Value} (ho : w.ownsRow base e size v n xs) (hf : ∀ g, g < w.heap.size → w'.heap[g]? = w.heap[g]?) : w'.ownsRow base e size v n xs :=
  ownsRow_frame ho fun g hg => hf g (ho.lt g hg).2

theorem one_one {x : Int} : ∀ u ∈ [Value.int .u8 x], u.oneCell' = true := by intro u hu; simp at hu; subst hu; rfl

theorem quote_head {s : ByteArray} {i : Nat} {c : UInt8} {cs : Bytes} (hc : s.data.toList.drop i = c :: cs) : (i + 1 < s.size ∧ ∃ d ds, cs = d :: ds) ∨ (s.size ≤ i + 1 ∧ cs = []) := by
  have hl := congrArg List.length hc
  rw [List.length_drop, len_list, List.length_cons] at hl
  cases cs with
  | nil => exact .inr ⟨by simp at hl; omega, rfl⟩
  | cons d ds => exact .inl ⟨by simp at hl; omega, d, ds, rfl⟩

set_option maxRecDepth 100000 in
set_option maxHeartbeats 16000000 in
theorem text_48 (s : ByteArray) (k : Nat) (w : World) (hk : k < s.size) (hs : s.size ≤ 16384) :
    Calls Tryd.prog 48 #[.string s, .int .i64 k] w fun e w' => e = .returned (txtV k (s.data.toList.drop (k + 1))) ∧ Below w.heap.size w w' := by
  obtain ⟨i0, hi, hz0, hz1, hz2⟩ := info_parts info5
  obtain ⟨H, hHe⟩ : ∃ H, w.heap.size = H := ⟨_, rfl⟩
  rw [hHe]
  have HHE := Lib.hid hHe
  clear hHe
  obtain ⟨V, hV⟩ : ∃ V, txtV k (s.data.toList.drop (k + 1)) = V := ⟨_, rfl⟩
  rw [hV]
  have HV := Lib.hid hV
  clear hV
  have hst : TxrSt s k H w (.slice none 0 0) (.int .i64 ((k : Int) + 1)) w := by
    refine ⟨k + 1, s.size - (k + 1), [], Nat.le_refl _, hk, by simp, Nat.zero_le _, Nat.le_refl _, ?_, World.ownsRow_nil _ _ _ _, Below.refl _ _⟩
    unfold TxrRel
    rw [List.length_drop, len_list]
    simp
  go_enter Tryd.func48, Tryd.ntmps48
  go_wp2_with fail
  go_loopw [6, 7] (fun v iv wr => TxrSt s k H w v iv wr) (fun _ iv _ => s.size - (intOf iv).toNat)
  case atStart => exact hst
  case round =>
    clear hst
    obtain ⟨i, f, acc, hki, his, rfl, hacc, hf, hr, ho, hb⟩ := hrel
    obtain ⟨va, vc, rfl⟩ := ownsRow_slice ho
    have hHs : H ≤ wr.heap.size := by have := hb.size; have := HHE.out; omega
    obtain ⟨m, hm⟩ : ∃ m, acc.length = m := ⟨_, rfl⟩
    rw [hm] at ho hacc ⊢
    have HM := Lib.hid hm
    have HR := Lib.hid hr
    have HB := Lib.hid hb
    have HO := Lib.hid ho
    clear hm hr
    rcases Nat.lt_or_ge i s.size with hlt | hge
    · have hd : decide ((i : Int) < (s.size : Int)) = true := by simp; omega
      obtain ⟨c, cs, hcs, -⟩ := drop_cons hlt
      have hget := get_of_drop hcs hlt
      have hq := quote_head hcs
      have HC := Lib.hid hcs
      obtain ⟨f, rfl⟩ : ∃ f', f = f' + 1 := ⟨f - 1, by omega⟩
      clear hcs
      by_cases h39 : c.toNat = 39
      · have e39 : ((c.toNat : Int) == 39) = true := by simp; omega
        by_cases hnext : ∃ d ds, cs = d :: ds ∧ d.toNat = 39
        · obtain ⟨d, ds, rfl, hd39⟩ := hnext
          have hl1 : i + 1 < s.size := by rcases hq with h | h; exact h.1; cases h.2
          have hdl : decide ((i : Int) + 1 < (s.size : Int)) = true := by simp; omega
          have hgd := get_of_drop (s := s) (j := i + 1) (c := d) (cs := ds) (by rw [← List.drop_drop, HC.out]; rfl) hl1
          have ed : ((d.toNat : Int) == 39) = true := by simp; omega
          have c1 : (0 : Int) ≤ (i : Int) + 1 := by omega
          have c2 : (i : Int) + 1 < (s.size : Int) := by omega
          have c3 : ((i : Int) + 1).toNat = i + 1 := by omega
          have HT := Lib.hid (tx_two HR.out HC.out h39 hd39 hki)
          clear hq hb
          have hb := HB.out
          go_wp2_with (at_builtin; go_must (refine wpList_append_own _ rfl _ _ 39 rfl H 5 i0 (.int .u8 0) 1 1 Tryd.underlying39 hi hz0 hz1 hz2 rfl (by decide) (.slice va m vc) m _ rfl (ho.alloc _) ⟨wr.heap.size, 0, none⟩ 1 1 [.int .u8 39] rfl rfl ?c1 ?c2 ?c3 ?c4 ?c5 ?_))
          case c1 =>
            intro j u hj
            match j, hj with
            | 0, hj => simp at hj; subst hj; simp [Addr.add]
          case c2 => intro u hu; simp at hu; subst hu; rfl
          case c3 => unfold maxLen; omega
          case c4 => omega
          case c5 => simp; omega
          intro v' w1 hown' hgrow _
          have HS := Lib.hid (out_add (c := 39) hb hHs ho hown' hgrow rfl)
          clear hown' hgrow
          go_wp2_with fail
          exact ⟨⟨i + 2, f, acc ++ [39], by omega, by omega, by simp; omega, by have := HM.out; simp; omega, by omega, HT.out, HS.out⟩, by simp [intOf]; omega⟩
        · have hh : cs.head? ≠ some 39 := by
            intro e
            cases cs with
            | nil => cases e
            | cons d ds => exact hnext ⟨d, ds, rfl, by simp at e; rw [e]; rfl⟩
          have HX := Lib.hid (tx_end HR.out HC.out h39 hh hki)
          have hback := out_text ho HM.out
          have hru := runes_65 ⟨acc.toArray⟩ wr (by simp [ByteArray.size]; have := HM.out; omega)
          have HRU := Lib.hid hru
          have hikk : ((k + 1 + (i - k) : Nat) : Int) = (i : Int) + 1 := by omega
          have HIK := Lib.hid hikk
          clear hru hikk hh ho hb
          have fin : ∀ P : Prop, P → P := fun _ h => h
          rcases hq with ⟨hl1, d, ds, rfl⟩ | ⟨hl1, rfl⟩
          · have hd39 : ¬ d.toNat = 39 := fun e => hnext ⟨d, ds, rfl, e⟩
            have hdl : decide ((i : Int) + 1 < (s.size : Int)) = true := by simp; omega
            have hgd := get_of_drop (s := s) (j := i + 1) (c := d) (cs := ds) (by rw [← List.drop_drop, HC.out]; rfl) hl1
            have ed : ((d.toNat : Int) == 39) = false := by simp; omega
            have c1 : (0 : Int) ≤ (i : Int) + 1 := by omega
            have c2 : (i : Int) + 1 < (s.size : Int) := by omega
            have c3 : ((i : Int) + 1).toNat = i + 1 := by omega
            clear hnext
            go_wp2_with fail
            refine HRU.out.mono ?_
            rintro _ _ ⟨r, rfl, hrr, rfl⟩
            cases hvd : Lib.validD acc with
            | false =>
              have hr0 : decide (r < 0) = true := by rw [hrr]; show (!Lib.validD acc) = true; rw [hvd]; rfl
              clear hrr
              go_wp2_with fail
              refine bodyPost_ret (v := .tuple #[.string ⟨#[]⟩, .int .i64 (-1)]) (by simp [results, Tryd.results48, go_sem]) rfl ⟨?_, HB.out⟩
              rw [← HV.out, txtV_bad HX.out hvd]
            | true =>
              have hr0 : decide (r < 0) = false := by rw [hrr]; show (!Lib.validD acc) = false; rw [hvd]; rfl
              clear hrr
              go_wp2_with fail
              refine bodyPost_ret (v := .tuple #[.string ⟨acc.toArray⟩, .int .i64 ((i : Int) + 1)]) (by simp [results, Tryd.results48, go_sem]) rfl ⟨?_, HB.out⟩
              rw [← HV.out, txtV_ok HX.out hvd, HIK.out]
          · have hdl : decide ((i : Int) + 1 < (s.size : Int)) = false := by simp; omega
            clear hnext
            go_wp2_with fail
            refine HRU.out.mono ?_
            rintro _ _ ⟨r, rfl, hrr, rfl⟩
            cases hvd : Lib.validD acc with
            | false =>
              have hr0 : decide (r < 0) = true := by rw [hrr]; show (!Lib.validD acc) = true; rw [hvd]; rfl
              clear hrr
              go_wp2_with fail
              refine bodyPost_ret (v := .tuple #[.string ⟨#[]⟩, .int .i64 (-1)]) (by simp [results, Tryd.results48, go_sem]) rfl ⟨?_, HB.out⟩
              rw [← HV.out, txtV_bad HX.out hvd]
            | true =>
              have hr0 : decide (r < 0) = false := by rw [hrr]; show (!Lib.validD acc) = false; rw [hvd]; rfl
              clear hrr
              go_wp2_with fail
              refine bodyPost_ret (v := .tuple #[.string ⟨acc.toArray⟩, .int .i64 ((i : Int) + 1)]) (by simp [results, Tryd.results48, go_sem]) rfl ⟨?_, HB.out⟩
              rw [← HV.out, txtV_ok HX.out hvd, HIK.out]
      · have e39 : ((c.toNat : Int) == 39) = false := by simp; omega
        by_cases h92 : c.toNat = 92
        · have e92 : ((c.toNat : Int) != 92) = false := by simp; omega
          rcases hq with ⟨hl1, d, ds, rfl⟩ | ⟨hl1, rfl⟩
          · have hdl : decide ((s.size : Int) ≤ (i : Int) + 1) = false := by simp; omega
            have hgd := get_of_drop (s := s) (j := i + 1) (c := d) (cs := ds) (by rw [← List.drop_drop, HC.out]; rfl) hl1
            have c1 : (0 : Int) ≤ (i : Int) + 1 := by omega
            have c2 : (i : Int) + 1 < (s.size : Int) := by omega
            have c3 : ((i : Int) + 1).toNat = i + 1 := by omega
            have hdrop2 : s.data.toList.drop (i + 2) = ds := by rw [← List.drop_drop, HC.out]; rfl
            have HD2 := Lib.hid hdrop2
            clear hdrop2
            by_cases hx : d.toNat = 120
            · have ex : ((d.toNat : Int) == 120) = true := by simp; omega
              by_cases hl3 : i + 3 < s.size
              · have hdl3 : decide ((s.size : Int) ≤ (i : Int) + 3) = false := by simp; omega
                obtain ⟨a, as2, hda, hdas⟩ := drop_cons (s := s) (j := i + 2) (by omega)
                obtain ⟨b, bs, hdb, -⟩ := drop_cons (s := s) (j := i + 3) (by omega)
                have hga := get_of_drop hda (by omega)
                have hgb := get_of_drop hdb (by omega)
                have hds : ds = a :: b :: bs := by
                  rw [HD2.out] at hda
                  rw [hda]
                  congr 1
                  rw [← hdas]
                  exact hdb
                have c4 : (0 : Int) ≤ (i : Int) + 2 := by omega
                have c5 : (i : Int) + 2 < (s.size : Int) := by omega
                have c6 : ((i : Int) + 2).toNat = i + 2 := by omega
                have c7 : (0 : Int) ≤ (i : Int) + 3 := by omega
                have c8 : (i : Int) + 3 < (s.size : Int) := by omega
                have c9 : ((i : Int) + 3).toNat = i + 3 := by omega
                have HDS := Lib.hid hds
                have lea := hexv_le a
                have leb := hexv_le b
                clear hda hdas hdb hds
                by_cases ha0 : hexv a < 0
                · have eha : decide (hexv a < 0) = true := by simp; omega
                  have HX := Lib.hid (tx_noesc HR.out HC.out h92 (by rw [HDS.out, esc_x hx, if_neg (by omega)]))
                  clear ho hb ha0
                  go_wp2_with fail
                  refine (hex_66 a _).mono ?_
                  rintro _ _ ⟨rfl, rfl⟩
                  go_wp2_with fail
                  refine bodyPost_ret (v := .tuple #[.string ⟨#[]⟩, .int .i64 (-1)]) (by simp [results, Tryd.results48, go_sem]) rfl ⟨?_, HB.out⟩
                  rw [← HV.out, txtV_none HX.out]
                · have eha : decide (hexv a < 0) = false := by simp; omega
                  by_cases hb0 : hexv b < 0
                  · have ehb : decide (hexv b < 0) = true := by simp; omega
                    have HX := Lib.hid (tx_noesc HR.out HC.out h92 (by rw [HDS.out, esc_x hx, if_neg (by omega)]))
                    clear ho hb ha0 hb0
                    go_wp2_with fail
                    refine (hex_66 a _).mono ?_
                    rintro _ _ ⟨rfl, rfl⟩
                    go_wp2_with fail
                    refine (hex_66 b _).mono ?_
                    rintro _ _ ⟨rfl, rfl⟩
                    go_wp2_with fail
                    refine bodyPost_ret (v := .tuple #[.string ⟨#[]⟩, .int .i64 (-1)]) (by simp [results, Tryd.results48, go_sem]) rfl ⟨?_, HB.out⟩
                    rw [← HV.out, txtV_none HX.out]
                  · have ehb : decide (hexv b < 0) = false := by simp; omega
                    have HT := Lib.hid (tx_esc HR.out HC.out h92 (by rw [HDS.out, esc_x hx, if_pos (by omega)]) hki)
                    obtain ⟨hx1, hx2, hx3⟩ := hex_byte (a := a) (b := b) (by omega)
                    obtain ⟨y, hy⟩ : ∃ y : UInt8, (16 * hexv a + hexv b).toNat.toUInt8 = y := ⟨_, rfl⟩
                    rw [hy] at HT hx1
                    clear hy
                    go_wp2_with fail
                    refine (hex_66 a _).mono ?_
                    rintro _ _ ⟨rfl, hw9⟩
                    rw [hw9]
                    clear hw9
                    go_wp2_with fail
                    refine (hex_66 b _).mono ?_
                    rintro _ _ ⟨rfl, hw9⟩
                    rw [hw9]
                    clear hw9
                    go_wp2_with fail
                    have HMX : Hid (m + 1 ≤ maxLen) := Lib.hid (by unfold maxLen; omega)
                    have w2 : IntKind.i64.wrap ((i : Int) + 2) = (i : Int) + 2 := IntWalk.i64_in _ (by omega)
                    have w3 : IntKind.i64.wrap ((i : Int) + 3) = (i : Int) + 3 := IntWalk.i64_in _ (by omega)
                    have w4 : IntKind.i64.wrap (16 * hexv a) = 16 * hexv a := IntWalk.i64_in _ (by omega)
                    have w5 : IntKind.i64.wrap (16 * hexv a + hexv b) = 16 * hexv a + hexv b := IntWalk.i64_in _ (by omega)
                    go_region_held3 (fun _ => True) (exact trivial)
                      (first | (go_at_call_of 66 (UInt8.toNat a); refine (hex_66 a _).mono ?_; rintro _ _ ⟨rfl, rfl⟩) | (go_at_call_of 66 (UInt8.toNat b); refine (hex_66 b _).mono ?_; rintro _ _ ⟨rfl, rfl⟩) | (refine step_append_lies _ rfl (.tmp 115) (.tmp 129) 39 rfl H 5 i0 (.int .u8 0) 1 1 Tryd.underlying39 hi hz0 hz1 hz2 rfl (by decide) (.slice va m vc) m (acc.map bv) (by simp [Act.eval]) (own_far ho (by intro g hg; exact Below.heap_alloc wr _ g hg)) ⟨wr.heap.size, 0, none⟩ 1 1 [.int .u8 y.toNat] (by simp [Act.eval]) rfl (one_at (by simp)) one_one (by decide) HMX.out (by omega) (by simp; omega) _ rfl ?_; intro g9 cap9 w9 hown9 hgrow9 hat9 hlt9))
                    all_goals (
                      have hgrow8 : (wr.alloc (.cells #[.int .u8 y.toNat] 5)).grownBy w9 (Value.slice va m vc).ownBlock := ⟨hgrow9.os, hgrow9.tape, hgrow9.output, hgrow9.size, hgrow9.block⟩
                      have HS := Lib.hid (out_add (c := y) hb hHs ho hown9 hgrow8 rfl)
                      clear hgrow8 hown9 hgrow9 hat9 hlt9 w2 w3 w4 w5 hx1 hx2 hx3 hga hgb c4 c5 c6 c7 c8 c9
                      go_wp2_with fail
                      exact ⟨⟨i + 1 + 3, f, acc ++ [y], by omega, by omega, by first | (simp; done) | (simp; omega), by have := HM.out; simp; omega, by omega, HT.out, HS.out⟩, by simp [intOf]; omega⟩)
              · have hdl3 : decide ((s.size : Int) ≤ (i : Int) + 3) = true := by simp; omega
                have HX := Lib.hid (tx_noesc HR.out HC.out h92 (esc_x_short hx (by have := congrArg List.length HD2.out; rw [List.length_drop, len_list] at this; omega)))
                clear ho hb
                go_wp2_with fail
                refine bodyPost_ret (v := .tuple #[.string ⟨#[]⟩, .int .i64 (-1)]) (by simp [results, Tryd.results48, go_sem]) rfl ⟨?_, HB.out⟩
                rw [← HV.out, txtV_none HX.out]
            · have ex : ((d.toNat : Int) == 120) = false := by simp; omega
              cases he : esc1 d with
              | none =>
                have HX := Lib.hid (tx_noesc HR.out HC.out h92 (by rw [esc_o hx, he]; rfl))
                have hex := escape_67 d wr
                rw [he] at hex
                have HEX := Lib.hid hex
                clear ho hb hex he
                go_wp2_with fail
                refine HEX.out.mono ?_
                rintro _ _ ⟨rfl, rfl⟩
                go_wp2_with fail
                refine bodyPost_ret (v := .tuple #[.string ⟨#[]⟩, .int .i64 (-1)]) (by simp [results, Tryd.results48, go_sem]) rfl ⟨?_, HB.out⟩
                rw [← HV.out, txtV_none HX.out]
              | some y =>
                have HT := Lib.hid (tx_esc HR.out HC.out h92 (by rw [esc_o hx, he]; rfl) hki)
                have hex := escape_67 d wr
                rw [he] at hex
                have HEX := Lib.hid hex
                clear hex he
                have hb := HB.out
                go_wp2_with fail
                refine HEX.out.mono ?_
                rintro _ _ ⟨rfl, hw9⟩
                rw [hw9]
                clear hw9
                go_wp2_with (at_builtin; go_must (refine wpList_append_own _ rfl _ _ 39 rfl H 5 i0 (.int .u8 0) 1 1 Tryd.underlying39 hi hz0 hz1 hz2 rfl (by decide) (.slice va m vc) m _ rfl (ho.alloc _) ⟨wr.heap.size, 0, none⟩ 1 1 [.int .u8 y.toNat] rfl rfl ?c1 ?c2 ?c3 ?c4 ?c5 ?_))
                case c1 =>
                  intro j u hj
                  match j, hj with
                  | 0, hj => simp at hj; subst hj; simp [Addr.add]
                case c2 => intro u hu; simp at hu; subst hu; rfl
                case c3 => unfold maxLen; omega
                case c4 => omega
                case c5 => simp; omega
                intro v' w1 hown' hgrow _
                have HS := Lib.hid (out_add (c := y) hb hHs ho hown' hgrow rfl)
                clear hown' hgrow
                go_wp2_with fail
                exact ⟨⟨i + 1 + 1, f, acc ++ [y], by omega, by omega, by first | (simp; done) | (simp; omega), by have := HM.out; simp; omega, by omega, HT.out, HS.out⟩, by simp [intOf]; omega⟩
          · have hdl : decide ((s.size : Int) ≤ (i : Int) + 1) = true := by simp; omega
            have HX := Lib.hid (tx_noesc HR.out HC.out h92 rfl)
            clear ho hb
            go_wp2_with fail
            refine bodyPost_ret (v := .tuple #[.string ⟨#[]⟩, .int .i64 (-1)]) (by simp [results, Tryd.results48, go_sem]) rfl ⟨?_, HB.out⟩
            rw [← HV.out, txtV_none HX.out]
        · have e92 : ((c.toNat : Int) != 92) = true := by simp; omega
          have HT := Lib.hid (tx_plain HR.out HC.out h39 h92 hki)
          clear hq
          go_wp2_with (at_builtin; go_must (refine wpList_append_own _ rfl _ _ 39 rfl H 5 i0 (.int .u8 0) 1 1 Tryd.underlying39 hi hz0 hz1 hz2 rfl (by decide) (.slice va m vc) m _ rfl (ho.alloc _) ⟨wr.heap.size, 0, none⟩ 1 1 [.int .u8 c.toNat] rfl rfl ?c1 ?c2 ?c3 ?c4 ?c5 ?_))
          case c1 =>
            intro j u hj
            match j, hj with
            | 0, hj => simp at hj; subst hj; simp [Addr.add]
          case c2 => intro u hu; simp at hu; subst hu; rfl
          case c3 => unfold maxLen; omega
          case c4 => omega
          case c5 => simp; omega
          intro v' w1 hown' hgrow _
          have HS := Lib.hid (out_add (c := c) hb hHs ho hown' hgrow rfl)
          clear hown' hgrow
          go_wp2_with fail
          exact ⟨⟨i + 1, f, acc ++ [c], by omega, by omega, by simp, by have := HM.out; simp; omega, by omega, HT.out, HS.out⟩, by simp [intOf]; omega⟩
    · have hd : decide ((i : Int) < (s.size : Int)) = false := by simp; omega
      have HX := Lib.hid (tx_over HR.out (by rw [len_list]; exact hge))
      clear ho hb
      go_wp2_with fail
      refine bodyPost_ret (v := .tuple #[.string ⟨#[]⟩, .int .i64 (-1)]) (by simp [results, Tryd.results48, go_sem]) rfl ⟨?_, HB.out⟩
      rw [← HV.out, txtV_none HX.out]
end Go.Proofs.YtpjfkfbijimliaaDoor
