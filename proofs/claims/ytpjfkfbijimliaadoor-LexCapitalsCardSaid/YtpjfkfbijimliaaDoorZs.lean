/- LexCapitals' walk. -/
import Derived.Test.YtpjfkfbijimliaaDoorZi
import Derived.Test.YtpjfkfbijimliaaDoorZo
import Derived.Lib.AppendStr
namespace Go.Proofs.YtpjfkfbijimliaaDoor
open Go.RowKit Go.Pen

def bcells (l : Bytes) : List Value := l.map fun b => Value.int .u8 b.toNat

/-- a slice of bools that came in, not empty -/
def BoolRow (w : World) (a : Option Addr) (len : Nat) : Prop :=
  0 < len → ∃ b o, a = some ⟨b, o, none⟩ ∧ b < w.heap.size ∧ ∀ i, i < len → ∃ v, w.cell? ⟨b, o + i, none⟩ = some (.bool v)

/-- the bytes that the loops have written over -/
def CpRel (H : Nat) (vb : Value) (s : ByteArray) (l : List Tok) (w1 wr : World) : Prop :=
  ∃ cur : Bytes, Caps l s.data.toList cur ∧ wr.ownsRow H 5 1 vb s.size (bcells cur) ∧ Below H w1 wr

theorem caps_refl (l : List Tok) (s : Bytes) : Caps l s s := ⟨rfl, fun _ c h => ⟨c, h, .inl rfl⟩⟩

set_option maxRecDepth 100000 in
theorem cap_facts (c : UInt8) : 97 ≤ c.toNat ∧ c.toNat ≤ 122 → let_ c = true ∧ let_ (c - 32) = true ∧ low (c - 32) = low c ∧ (c - 32).toNat = c.toNat - 32 :=
  byte_all (p := fun c => 97 ≤ c.toNat ∧ c.toNat ≤ 122 → let_ c = true ∧ let_ (c - 32) = true ∧ low (c - 32) = low c ∧ (c - 32).toNat = c.toNat - 32) (by decide) c

theorem caps_set {l : List Tok} {s cur : Bytes} {p : Nat} {c : UInt8} (h : Caps l s cur) (hc : cur[p]? = some c) (hw : InWord l p) (h1 : 97 ≤ c.toNat) (h2 : c.toNat ≤ 122) : Caps l s (cur.set p (c - 32)) := by
  obtain ⟨f1, f2, f3, -⟩ := cap_facts c ⟨h1, h2⟩
  refine ⟨by rw [List.length_set]; exact h.1, fun q x hq => ?_⟩
  obtain ⟨c', g1, g2⟩ := h.2 q x hq
  rw [List.getElem?_set]
  by_cases e : p = q
  · subst e
    rw [hc] at g1
    cases g1
    have hlt := (List.getElem?_eq_some_iff.1 hc).1
    rw [if_pos rfl, if_pos hlt]
    refine ⟨_, rfl, .inr ⟨hw, ?_, f2, ?_⟩⟩
    · rcases g2 with rfl | ⟨-, g3, -⟩
      · exact f1
      · exact g3
    · rcases g2 with rfl | ⟨-, -, -, g3⟩
      · exact f3
      · rw [f3, g3]
  · rw [if_neg e]; exact ⟨c', g1, g2⟩

theorem cpRel_set {H g n c : Nat} {s : ByteArray} {l : List Tok} {w1 wr : World} {p : Nat} {x : UInt8} {cur : Bytes} (hC : Caps l s.data.toList cur) (ho : wr.ownsRow H 5 1 (.slice (some ⟨g, 0, none⟩) s.size c) s.size (bcells cur)) (hb : Below H w1 wr)
    (hx : cur[p]? = some x) (hw : InWord l p) (h1 : 97 ≤ x.toNat) (h2 : x.toNat ≤ 122) (hn : n = s.size) : CpRel H (.slice (some ⟨g, 0, none⟩) n c) s l w1 (wr.setCell ⟨g, p, none⟩ (.int .u8 ((x - 32 : UInt8).toNat))) := by
  subst hn
  refine ⟨cur.set p (x - 32), caps_set hC hx hw h1 h2, ?_, ?_⟩
  · have := ownsRow_set (j := p) (x := .int .u8 ((x - 32 : UInt8).toNat)) ho
    rw [bcells, List.map_set]
    exact this
  · exact hb.setCell (ho.lt g rfl).1 _

/-- where a word stands, and how long it is -/
theorem word_fits {l : Bytes} {t : Tok} (h : Stands l t) (hk : t.kind = 1) : t.at_ + t.text.length ≤ l.length := by
  obtain ⟨h1, h2, m, h3⟩ := h
  have hle := tok_le h2 h3
  rw [List.length_drop] at hle
  cases hl : l.drop t.at_ with
  | nil => rw [hl] at h2; cases h2
  | cons c cs =>
    rw [hl] at h3
    obtain ⟨-, -, e1, -, e2⟩ := tok_word h3 hk
    have : t.text.length = m := by rw [e2, e1]; simp
    omega

set_option maxRecDepth 100000 in
theorem back_string {w : World} {H n c : Nat} {a : Option Addr} {cur : Bytes} (ho : w.ownsRow H 5 1 (.slice a n c) n (bcells cur)) (hl : cur.length = n) :
    (convert 39 9 (.slice a n c)).run Tryd.prog w = .ok (.string ⟨cur.toArray⟩) w := by
  rcases ho.2 with ⟨hv, -⟩ | ⟨g, cap, cc, hv, -⟩
  · cases hv
    have : cur = [] := List.eq_nil_of_length_eq_zero hl
    subst this
    rw [run_convert_bytes_string w 39 9 5 none 0 0 Tryd.underlying39 Tryd.underlying5 Tryd.underlying9]
    simp [Conv.bytesToString]
    rfl
  · cases hv
    obtain ⟨-, -, -, hc⟩ := ownsRow_heap ho
    have := run_convert_bytes_back (P := Tryd.prog) w 39 9 5 ⟨g, 0, none⟩ c cur Tryd.underlying39 Tryd.underlying5 Tryd.underlying9 (fun j hj => by
      rw [add_lit, Nat.zero_add]
      exact hc _ _ (by rw [bcells, List.getElem?_map, List.getElem?_eq_getElem hj]; rfl))
    rw [hl] at this
    exact this

set_option maxRecDepth 100000 in
set_option maxHeartbeats 8000000 in
theorem capitals_9 (s : ByteArray) (pa : Option Addr) (pl pc : Nat) (w : World) (hpr : BoolRow w pa pl) (hpl : pl ≤ 9223372036854775807) (hg : Glob w) (h10 : 10 ≤ w.heap.size) :
    Calls Tryd.prog 9 #[.string s, .slice pa pl pc] w fun e w' => e = .returned (.bool true) ∧ Below w.heap.size w w' := by
  obtain ⟨i0, hi, hz0, hz1, hz2⟩ := info_parts info5
  obtain ⟨L, hL⟩ : ∃ L, lexed s.data.toList = L := ⟨_, rfl⟩
  have hlx := lex_any s w hg h10
  rw [hL] at hlx
  have HLX := Lib.hid hlx
  have HG := Lib.hid hg
  have HL := Lib.hid hL
  have HPR := Lib.hid hpr
  clear hlx hg hL hpr
  go_enter Tryd.func9, Tryd.ntmps9
  go_wp2_with fail
  refine HLX.out.mono ?_
  rintro _ w1 ⟨va, rfl, hoa, hb1⟩
  obtain ⟨aa, ac, rfl⟩ := ownsRow_slice hoa
  have HOA := Lib.hid hoa
  have HB1 := Lib.hid hb1
  have hkn := fun u (hu : Below w.heap.size w u) => known_13 u (HG.out.below hu h10) (by have := hu.size; omega)
  have HKN := Lib.hid hkn
  clear hoa hb1 hkn
  cases L with
  | err pe ee =>
    have hne : ((ee : Int) != 0) = true := by have := (lexed_err HL.out).2.2; simp; omega
    simp only [Res.code]
    go_wp2_with fail
    refine (HKN.out _ HB1.out).mono ?_
    rintro _ w3 ⟨rfl, hb3⟩
    have HB3 := Lib.hid (HB1.out.trans (hb3.mono HB1.out.size))
    clear hb3
    go_wp2_with fail
    go_ret
    exact ⟨rfl, HB3.out⟩
  | ok l =>
    simp only [Res.toks, Res.place, Res.code, Int.natCast_zero] at HOA ⊢
    by_cases hp0 : pl = 0
    · have hz : ((pl : Int) == 0) = true := by simp; omega
      clear hp0
      go_wp2_with fail
      refine (HKN.out _ HB1.out).mono ?_
      rintro _ w3 ⟨rfl, hb3⟩
      have HB3 := Lib.hid (HB1.out.trans (hb3.mono HB1.out.size))
      clear hb3
      go_wp2_with fail
      go_ret
      exact ⟨rfl, HB3.out⟩
    · have hz : ((pl : Int) == 0) = false := by simp; omega
      obtain ⟨n, hn⟩ : ∃ n, l.length = n := ⟨_, rfl⟩
      have hn4 : n ≤ 4000 := by have := toks_count s.data.toList; rw [HL.out] at this; rw [← hn]; exact this
      have hok := lexed_ok HL.out
      have HOK := Lib.hid hok
      have hss : s.size ≤ 16384 := by have := hok.1; rwa [len_list] at this
      rw [hn] at HOA ⊢
      have HN := Lib.hid hn
      obtain ⟨pb, po, rfl, hpb, hpc⟩ := HPR.out (by omega)
      have HPC := Lib.hid hpc
      clear hn hok hpc
      go_wp2_with (at_builtin; go_must (refine Lib.wpList_append_own_string _ rfl _ _ 39 9 rfl w1.heap.size 5 i0 Tryd.underlying39 Tryd.underlying9 hi hz0 hz1 hz2 (.slice none 0 0) 0 [] rfl (World.ownsRow_nil _ _ _ _) s rfl (by unfold maxLen; omega) (by omega) (Nat.le_refl _) ?_))
      intro vb w2 hob hgb hnil
      obtain ⟨ba, bc, rfl⟩ := ownsRow_slice hob
      have hbw : Below w1.heap.size w1 w2 := (Below.refl _ _).grown hgb (Nat.le_refl _) (fun k hk => by cases hk)
      have hcp : CpRel w1.heap.size (.slice ba s.size bc) s l w1 w2 := ⟨s.data.toList, caps_refl _ _, hob, hbw⟩
      have HCP := Lib.hid hcp
      clear hob hgb hbw hcp
      go_wp2_with fail
      go_loopw [9] (fun i wr => ∃ m : Nat, m ≤ n ∧ i = .int .i64 m ∧ CpRel w1.heap.size (.slice ba s.size bc) s l w1 wr) (fun i _ => n - (intOf i).toNat)
      case atStart => exact ⟨0, Nat.zero_le _, rfl, HCP.out⟩
      case round =>
        obtain ⟨m, hmn, rfl, hcr⟩ := hrel
        have HCR := Lib.hid hcr
        clear hcr HCP
        rcases Nat.lt_or_ge m n with hlt | hge
        · have hd : decide ((m : Int) < (n : Int)) = true := by simp; omega
          obtain ⟨t, ht⟩ : ∃ t, l[m]? = some t := ⟨_, List.getElem?_eq_getElem (by have := HN.out; omega)⟩
          have hst := HOK.out.2.1 t (List.mem_of_getElem? ht)
          have HST := Lib.hid hst
          obtain ⟨ga, ca', hva⟩ := ownsRow_some HOA.out (by omega)
          cases hva
          obtain ⟨hga, -, -, hac⟩ := ownsRow_heap HOA.out
          obtain ⟨a0, a1, -, a3⟩ := toksc_at l m t ht
          have c0 := hac _ _ a0
          have c1 := hac _ _ a1
          have c3 := hac _ _ a3
          have HT := Lib.hid ht
          have HC0 := Lib.hid c0
          have HC1 := Lib.hid c1
          have HC3 := Lib.hid c3
          clear hac a0 a1 a3 c0 c1 c3 ht hst
          have hat : t.at_ < s.size := by have := HST.out.1; rwa [len_list] at this
          obtain ⟨tl, htl⟩ : ∃ tl, t.text.length = tl := ⟨_, rfl⟩
          have hfit : t.kind = 1 → t.at_ + tl ≤ s.size := fun h => by have := word_fits HST.out h; rwa [len_list, htl] at this
          obtain ⟨tx, htx⟩ : ∃ tx : ByteArray, (⟨t.text.toArray⟩ : ByteArray) = tx := ⟨_, rfl⟩
          have hsz : tx.size = tl := by rw [← htx, ← htl]; simp [ByteArray.size]
          rw [htx] at HC1
          clear htx
          go_wp2_with fail
          go_loopw [10] (fun k wq => ∃ q : Nat, k = .int .i64 q ∧ q ≤ tl ∧ CpRel w1.heap.size (.slice ba s.size bc) s l w1 wq) (fun k _ => tl - (intOf k).toNat)
          case atStart => exact ⟨0, rfl, Nat.zero_le _, HCR.out⟩
          case round =>
            obtain ⟨q, rfl, hql, hcq⟩ := hrel
            have HCQ := Lib.hid hcq
            clear HCR
            obtain ⟨cur, hC, hob, hbq⟩ := hcq
            have c0 := (hbq.cell (p := ⟨ga, m * 4, none⟩) hga).trans HC0.out
            have c1 := (hbq.cell (p := ⟨ga, m * 4 + 1, none⟩) hga).trans HC1.out
            have c3 := (hbq.cell (p := ⟨ga, m * 4 + 3, none⟩) hga).trans HC3.out
            have hlim : t.at_ ≤ 16384 := by omega
            obtain ⟨kd, txt, nm, at_⟩ := t
            simp only [] at c0 c3 hat hfit hlim htl
            have HOB := Lib.hid hob
            rcases Nat.lt_or_ge q tl with hq | hq
            · have hdq : decide ((q : Int) < (tl : Int)) = true := by simp; omega
              by_cases hk : kd = 1
              · subst hk
                have hfit' := hfit rfl
                obtain ⟨gb, cb, hvb⟩ := ownsRow_some hob (by omega)
                cases hvb
                obtain ⟨hgb, hgb1, -, hbc⟩ := ownsRow_heap hob
                obtain ⟨-, -, curr, hcurr⟩ := ownsRow_block hob (g := gb) rfl
                obtain ⟨p, hp⟩ : ∃ p, at_ + q = p := ⟨_, rfl⟩
                have hps : p < s.size := by omega
                have hpi : (at_ : Int) + (q : Int) = (p : Int) := by omega
                obtain ⟨x, hx⟩ : ∃ x, cur[p]? = some x := ⟨_, List.getElem?_eq_getElem (by rw [hC.1, len_list]; exact hps)⟩
                have cx : wr.cell? ⟨gb, p, none⟩ = some (.int .u8 x.toNat) := hbc _ _ (by rw [bcells, List.getElem?_map, hx]; rfl)
                have fx : wr.frozen? ⟨gb, p, none⟩ = false := frozen_of_heap hcurr
                have hw : InWord l p := ⟨_, List.mem_of_getElem? HT.out, rfl, by show at_ ≤ p; omega, by show p < at_ + txt.length; omega⟩
                obtain ⟨j, hj⟩ : ∃ j, (m + q) % pl = j := ⟨_, rfl⟩
                have hjl : j < pl := by rw [← hj]; exact Nat.mod_lt _ (by omega)
                have hmod : ((m : Int) + (q : Int)).tmod (pl : Int) = (j : Int) := by rw [← hj]; rfl
                obtain ⟨v, hv⟩ := HPC.out j hjl
                have cv : wr.cell? ⟨pb, po + j, none⟩ = some (.bool v) := (hbq.cell (p := ⟨pb, po + j, none⟩) (Nat.lt_of_lt_of_le hpb HB1.out.size)).trans ((HB1.out.cell (p := ⟨pb, po + j, none⟩) hpb).trans hv)
                have HCC := Lib.hid hC
                have HBQ := Lib.hid hbq
                have HXX := Lib.hid hx
                have HW := Lib.hid hw
                clear hC hbq hbc hcurr hx hw hv hj hp hob hfit htl
                cases v with
                | false =>
                  go_wp2_with fail
                  exact ⟨⟨q + 1, by simp, hq, HCQ.out⟩, by simp [intOf]; omega⟩
                | true =>
                  by_cases h1 : 97 ≤ x.toNat
                  · have d1 : decide ((97 : Int) ≤ (x.toNat : Int)) = true := by simp; omega
                    by_cases h2 : x.toNat ≤ 122
                    · have d2 : decide ((x.toNat : Int) ≤ 122) = true := by simp; omega
                      have hl : ((x.toNat : Int) - 97 + 65) = (((x - 32 : UInt8).toNat : Nat) : Int) := by
                        have := (cap_facts x ⟨h1, h2⟩).2.2.2; omega
                      go_wp2_with fail
                      exact ⟨⟨q + 1, by simp, hq, cpRel_set HCC.out HOB.out HBQ.out HXX.out HW.out h1 h2 rfl⟩, by simp [intOf]; omega⟩
                    · have d2 : decide ((x.toNat : Int) ≤ 122) = false := by simp; omega
                      go_wp2_with fail
                      exact ⟨⟨q + 1, by simp, hq, HCQ.out⟩, by simp [intOf]; omega⟩
                  · have d1 : decide ((97 : Int) ≤ (x.toNat : Int)) = false := by simp; omega
                    go_wp2_with fail
                    exact ⟨⟨q + 1, by simp, hq, HCQ.out⟩, by simp [intOf]; omega⟩
              · have hk2 : ((kd : Int) == 1) = false := by simp; omega
                clear hC hob hbq
                go_wp2_with fail
                exact ⟨⟨m + 1, hlt, by simp, HCQ.out⟩, by simp [intOf]; omega⟩
            · have hdq : decide ((q : Int) < (tl : Int)) = false := by simp; omega
              clear hC hob hbq
              go_wp2_with fail
              exact ⟨⟨m + 1, hlt, by simp, HCQ.out⟩, by simp [intOf]; omega⟩
        · have hd : decide ((m : Int) < (n : Int)) = false := by simp; omega
          obtain ⟨cur, hC, hob, hbr⟩ := HCR.out
          have hlen : cur.length = s.size := by rw [hC.1, len_list]
          have hlex : lexed cur = .ok l := by
            have h0 := HL.out
            rw [lexed_lxf (by rw [len_list]; exact hss)] at h0
            rw [lexed_lxf (by rw [hlen]; exact hss)]
            exact caps_law hC (s.data.toList.length - 0 + 1) 0 0 l (Nat.lt_succ_self _) (Nat.zero_le _) (fun _ _ h => h) h0
          have hb4 : Below w.heap.size w wr := HB1.out.trans (hbr.mono HB1.out.size)
          have HB4 := Lib.hid hb4
          have HOA4 := Lib.hid (Below.ownsRow' hbr HOA.out)
          have hlt := lex_any ⟨cur.toArray⟩ wr (HG.out.below hb4 h10) (by have := hb4.size; omega)
          have hcl : (⟨cur.toArray⟩ : ByteArray).data.toList = cur := rfl
          rw [hcl, hlex] at hlt
          simp only [Res.toks, Res.place, Res.code, Int.natCast_zero] at hlt
          have HLT := Lib.hid hlt
          have hback := back_string hob hlen
          have HN4 := HN.out
          clear hC hbr hlex hb4 hlt hcl hob
          go_wp2_with fail
          refine HLT.out.mono ?_
          rintro _ w5 ⟨vm, rfl, hom, hb5⟩
          have HB5 := Lib.hid (HB4.out.trans (hb5.mono HB4.out.size))
          have HOA5 := Lib.hid (Below.ownsRow' hb5 HOA4.out)
          have HOM := Lib.hid hom
          clear hom hb5 hback
          go_wp2_with fail
          refine (HKN.out _ HB5.out).mono ?_
          rintro _ w6 ⟨rfl, hb6⟩
          have HB6 := Lib.hid (HB5.out.trans (hb6.mono HB5.out.size))
          have hr1 : TokRow w6 vm (l.map Tok.g) := tokRow_of_owns (Below.ownsRow' hb6 HOM.out)
          have hr2 : TokRow w6 (.slice aa n ac) (l.map Tok.g) := by
            have h := Below.ownsRow' hb6 HOA5.out
            have e := HN.out
            rw [← e] at h ⊢
            exact tokRow_of_owns h
          have hsm := same_14 _ _ _ w6 hr1 hr2 (by rw [List.length_map, HN.out]; omega)
          have HSM := Lib.hid hsm
          clear hb6 hr1 hr2 hsm
          go_wp2_with fail
          refine HSM.out.mono ?_
          rintro _ _ ⟨rfl, q', rfl⟩
          go_wp2_with fail
          go_ret
          exact ⟨rfl, Go.Pen.below_drewN HB6.out⟩
end Go.Proofs.YtpjfkfbijimliaaDoor
