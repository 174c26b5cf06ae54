/- LexBlanks' walk. -/
import Derived.Test.YtpjfkfbijimliaaDoorZi
import Derived.Test.YtpjfkfbijimliaaDoorZn
namespace Go.Proofs.YtpjfkfbijimliaaDoor
open Go.RowKit Go.Pen

def padB (n : Nat) : Bytes :=
  if n % 7 = 0 then [32] else if n % 7 = 1 then [9, 13, 10] else if n % 7 = 2 then [32, 45, 45, 32, 39, 97, 10] else if n % 7 = 3 then [32, 32, 10] else if n % 7 = 4 then [10, 45, 45, 10, 45, 45, 120, 10] else []

theorem padB_ok (n : Nat) : PadOk (padB n) := by
  unfold padB
  repeat' split
  all_goals first | exact .inl rfl | exact .inr ⟨by decide, _, rfl, by decide⟩

theorem padB_len (n : Nat) : (padB n).length ≤ 8 := by
  unfold padB
  repeat' split
  all_goals decide

set_option maxRecDepth 100000 in
set_option maxHeartbeats 2000000 in
theorem pad_19 (z : Nat) (w : World) : Calls Tryd.prog 19 #[.int .u8 z] w fun e w' => e = .returned (.string ⟨(padB z).toArray⟩) ∧ w' = w := by
  have hr : ∃ r : Nat, z % 7 = r ∧ r < 7 := ⟨_, rfl, Nat.mod_lt _ (by decide)⟩
  obtain ⟨r, hr, hr7⟩ := hr
  have ht : (z : Int).tmod 7 = (r : Int) := by rw [← hr]; rfl
  have hp : padB z = padB r := by unfold padB; rw [hr, Nat.mod_eq_of_lt hr7]
  rw [hp]
  clear hp hr
  have : r = 0 ∨ r = 1 ∨ r = 2 ∨ r = 3 ∨ r = 4 ∨ r = 5 ∨ r = 6 := by omega
  rcases this with rfl | rfl | rfl | rfl | rfl | rfl | rfl
  all_goals (
    go_enter Tryd.func19, Tryd.ntmps19
    go_wp2_with fail
    try go_ret
    try exact ⟨rfl, rfl⟩)

/-- a slice of bytes that came in, not empty -/
def PadRow (w : World) (a : Option Addr) (len : Nat) (ps : List Nat) : Prop :=
  ps.length = len ∧ (0 < len → ∃ b o, a = some ⟨b, o, none⟩ ∧ b < w.heap.size ∧ ∀ i z, ps[i]? = some z → w.cell? ⟨b, o + i, none⟩ = some (.int .u8 (z : Nat)))

def fromI (ts : List Tok) (m : Nat) : Nat := if m = 0 then 0 else (ts.getD (m - 1) ⟨0, [], 0, 0⟩).at_

theorem fromI_le {ts : List Tok} {m : Nat} {t : Tok} (hp : ts.Pairwise (fun a b => a.at_ < b.at_)) (ht : ts[m]? = some t) : fromI ts m ≤ t.at_ := by
  unfold fromI
  split
  · omega
  · rename_i h0
    have hm := (List.getElem?_eq_some_iff.1 ht).1
    have h1 := List.pairwise_iff_getElem.1 hp (m - 1) m (by omega) hm (by omega)
    have h2 : ts[m] = t := (List.getElem?_eq_some_iff.1 ht).2
    rw [List.getD_eq_getElem?_getD, List.getElem?_eq_getElem (by omega : m - 1 < ts.length)]
    simp only [Option.getD_some]
    rw [h2] at h1
    omega

theorem fromI_succ {ts : List Tok} {m : Nat} {t : Tok} (ht : ts[m]? = some t) : fromI ts (m + 1) = t.at_ := by
  unfold fromI
  rw [if_neg (by omega), Nat.add_sub_cancel, List.getD_eq_getElem?_getD, ht]
  rfl

def padP (ps : List Nat) (i : Nat) : Bytes := padB (ps.getD (i % ps.length) 0)

/-- what the loop has built of the text, and where it stands -/
structure BlRel (ps : List Nat) (s : Bytes) (ts : List Tok) (m : Nat) (t : ByteArray) (fr : Nat) : Prop where
  le : m ≤ ts.length
  fr_eq : fr = fromI ts m
  fr_le : fr ≤ s.length
  size : t.size ≤ fr + 8 * m
  text : t.data.toList ++ pdd (padP ps) s m fr (ts.drop m) = pdd (padP ps) s 0 0 ts

theorem blRel_zero (ps : List Nat) (s : Bytes) (ts : List Tok) : BlRel ps s ts 0 ⟨#[]⟩ 0 :=
  ⟨Nat.zero_le _, rfl, Nat.zero_le _, Nat.zero_le _, rfl⟩

theorem blRel_step {ps : List Nat} {s : ByteArray} {ts : List Tok} {m : Nat} {t : ByteArray} {fr : Nat} {k : Tok} (h : BlRel ps s.data.toList ts m t fr) (hk : ts[m]? = some k) (hf : fr ≤ k.at_) (hs : k.at_ ≤ s.data.toList.length) :
    BlRel ps s.data.toList ts (m + 1) (t ++ s.extract fr k.at_ ++ ⟨(padP ps m).toArray⟩) k.at_ := by
  have hlt := (List.getElem?_eq_some_iff.1 hk).1
  have hge := (List.getElem?_eq_some_iff.1 hk).2
  refine ⟨hlt, (fromI_succ hk).symm, hs, ?_, ?_⟩
  · have h1 := h.size
    have h2 : (padP ps m).length ≤ 8 := padB_len _
    have h3 : (⟨(padP ps m).toArray⟩ : ByteArray).size = (padP ps m).length := by simp [ByteArray.size]
    have h4 : (s.extract fr k.at_).size = min k.at_ s.size - fr := ByteArray.size_extract ..
    rw [ByteArray.size_append, ByteArray.size_append, h3, h4]
    omega
  · have h1 := h.text
    rw [List.drop_eq_getElem_cons hlt, hge, pdd] at h1
    rw [← h1, ext_to]
    simp [ByteArray.data_append]

theorem blText {ps : List Nat} {s : ByteArray} {ts : List Tok} {m : Nat} {t : ByteArray} {fr : Nat} (h : BlRel ps s.data.toList ts m t fr) (hm : ts.length ≤ m) :
    (t ++ s.extract fr s.size).data.toList = pdd (padP ps) s.data.toList 0 0 ts := by
  have h1 := h.text
  rw [List.drop_of_length_le hm, pdd] at h1
  rw [← h1, ← ext_list]
  simp [ByteArray.data_append]

theorem blanks_lexed {P : Nat → Bytes} (hP : ∀ i, PadOk (P i)) {s T : Bytes} {l : List Tok} (h : lexed s = .ok l) (hT : T = pdd P s 0 0 l) (hl : T.length ≤ 16384) :
    ∃ ts', lexed T = .ok ts' ∧ ts'.map Tok.at0 = l.map Tok.at0 := by
  have hs := (lexed_ok h).1
  rw [lexed_lxf hs] at h
  obtain ⟨⟨ts', h1, h2⟩, -⟩ := blanks_law hP s (s.length - 0 + 1) 0 0 0 0 l (Nat.lt_succ_self _) (Nat.zero_le _) h
  refine ⟨ts', ?_, h2⟩
  rw [lexed_lxf hl, hT]
  exact h1

theorem gto_at0 : (GTok.to 0 ∘ Tok.g) = (GTok.to 0 ∘ Tok.g) ∘ Tok.at0 := by
  funext t; rfl

set_option maxRecDepth 100000 in
set_option maxHeartbeats 8000000 in
theorem blanks_8 (s : ByteArray) (pa : Option Addr) (pl pc : Nat) (ps : List Nat) (w : World) (hpr : PadRow w pa pl ps) (hpl : pl ≤ 9223372036854775807) (hg : Glob w) (h10 : 10 ≤ w.heap.size) :
    Calls Tryd.prog 8 #[.string s, .slice pa pl pc] w fun e w' => e = .returned (.bool true) ∧ Below w.heap.size w w' := by
  obtain ⟨L, hL⟩ : ∃ L, lexed s.data.toList = L := ⟨_, rfl⟩
  have hlx := lex_any s w hg h10
  rw [hL] at hlx
  have HLX := Lib.hid hlx
  have HG := Lib.hid hg
  have HL := Lib.hid hL
  have HPR := Lib.hid hpr
  clear hlx hg hL hpr
  go_enter Tryd.func8, Tryd.ntmps8
  go_wp2_with fail
  refine HLX.out.mono ?_
  rintro _ w1 ⟨va, rfl, hoa, hb1⟩
  obtain ⟨aa, ac, rfl⟩ := ownsRow_slice hoa
  have HOA := Lib.hid hoa
  have HB1 := Lib.hid hb1
  have hkn := fun u (hu : Below w.heap.size w u) => known_13 u (HG.out.below hu h10) (by have := hu.size; omega)
  have HKN := Lib.hid hkn
  clear hoa hb1 hkn
  cases L with
  | err pe ee =>
    have hne : ((ee : Int) != 0) = true := by have := (lexed_err HL.out).2.2; simp; omega
    simp only [Res.code]
    go_wp2_with fail
    refine (HKN.out _ HB1.out).mono ?_
    rintro _ w3 ⟨rfl, hb3⟩
    have HB3 := Lib.hid (HB1.out.trans (hb3.mono HB1.out.size))
    clear hb3
    go_wp2_with fail
    go_ret
    exact ⟨rfl, HB3.out⟩
  | ok l =>
    simp only [Res.toks, Res.place, Res.code, Int.natCast_zero] at HOA ⊢
    by_cases hp0 : pl = 0
    · have hz : ((pl : Int) == 0) = true := by simp; omega
      clear hp0
      go_wp2_with fail
      refine (HKN.out _ HB1.out).mono ?_
      rintro _ w3 ⟨rfl, hb3⟩
      have HB3 := Lib.hid (HB1.out.trans (hb3.mono HB1.out.size))
      clear hb3
      go_wp2_with fail
      go_ret
      exact ⟨rfl, HB3.out⟩
    · have hz : ((pl : Int) == 0) = false := by simp; omega
      obtain ⟨n, hn⟩ : ∃ n, l.length = n := ⟨_, rfl⟩
      have hn4 : n ≤ 4000 := by have := toks_count s.data.toList; rw [HL.out] at this; rw [← hn]; exact this
      have hok := lexed_ok HL.out
      have HOK := Lib.hid hok
      have hss : s.size ≤ 16384 := by have := hok.1; rwa [len_list] at this
      rw [hn] at HOA ⊢
      have HN := Lib.hid hn
      obtain ⟨pb, po, rfl, hpb, hpc⟩ := HPR.out.2 (by omega)
      have HPC := Lib.hid hpc
      clear hn hok hpc
      go_wp2_with fail
      go_loopw [8, 9, 10] (fun t f i wr => ∃ (m : Nat) (tb : ByteArray) (fr : Nat), t = .string tb ∧ f = .int .i64 fr ∧ i = .int .i64 m ∧ BlRel ps s.data.toList l m tb fr ∧ ∃ q, wr = w1.drewN q) (fun _ _ i _ => n - (intOf i).toNat)
      case atStart => exact ⟨0, ⟨#[]⟩, 0, rfl, rfl, rfl, blRel_zero _ _ _, 0, rfl⟩
      case round =>
        obtain ⟨m, tb, fr, rfl, rfl, rfl, hr, q, hwr⟩ := hrel
        have HWR := Lib.hid hwr
        have hmn : m ≤ n := by have := hr.le; have := HN.out; omega
        have HR := Lib.hid hr
        rcases Nat.lt_or_ge m n with hlt | hge
        · have hd : decide ((m : Int) < (n : Int)) = true := by simp; omega
          obtain ⟨t, ht⟩ : ∃ t, l[m]? = some t := ⟨_, List.getElem?_eq_getElem (by have := HN.out; omega)⟩
          have hfl : fr ≤ t.at_ := by rw [hr.fr_eq]; exact fromI_le HOK.out.2.2 ht
          have hal : t.at_ < s.size := by have := (HOK.out.2.1 t (List.mem_of_getElem? ht)).1; rwa [len_list] at this
          have hst := blRel_step hr ht hfl (by rw [len_list]; omega)
          have HST := Lib.hid hst
          have htz := hr.size
          obtain ⟨ga, ca', hva⟩ := ownsRow_some HOA.out (by omega)
          cases hva
          obtain ⟨hga, -, -, hac⟩ := ownsRow_heap HOA.out
          obtain ⟨-, -, -, a3⟩ := toksc_at l m t ht
          have c3 : wr.cell? ⟨ga, m * 4 + 3, none⟩ = some (.int .i64 t.at_) := by rw [hwr]; exact hac _ _ a3
          obtain ⟨j, hj⟩ : ∃ j, m % pl = j := ⟨_, rfl⟩
          have hjl : j < pl := by rw [← hj]; exact Nat.mod_lt _ (by omega)
          obtain ⟨z, hzj⟩ : ∃ z, ps[j]? = some z := ⟨_, List.getElem?_eq_getElem (by have := HPR.out.1; omega)⟩
          have hpz : padP ps m = padB z := by
            unfold padP
            rw [HPR.out.1, hj, List.getD_eq_getElem?_getD, hzj]; rfl
          have cz0 := HPC.out j z hzj
          have cz : wr.cell? ⟨pb, po + j, none⟩ = some (.int .u8 (z : Nat)) := by rw [hwr]; exact (HB1.out.cell (p := ⟨pb, po + j, none⟩) hpb).trans cz0
          rw [hpz] at HST
          have hmod : ((m : Int).tmod (pl : Int)) = (j : Int) := by rw [← hj]; rfl
          obtain ⟨at_, hat⟩ : ∃ x, t.at_ = x := ⟨_, rfl⟩
          rw [hat] at c3 hfl hal HST
          have b1 : (0 : Int) ≤ (fr : Int) := by omega
          have b2 : (fr : Int) ≤ (at_ : Int) := by omega
          have b3 : (at_ : Int) ≤ (s.size : Int) := by omega
          have hxs : (s.extract fr at_).size ≤ 16384 := by
            have h4 : (s.extract fr at_).size = min at_ s.size - fr := ByteArray.size_extract ..
            omega
          have hps : (⟨(padB z).toArray⟩ : ByteArray).size ≤ 8 := by simp [ByteArray.size]; exact padB_len z
          obtain ⟨xs, hx⟩ : ∃ xs, s.extract fr at_ = xs := ⟨_, rfl⟩
          obtain ⟨pz, hpz2⟩ : ∃ pz, (⟨(padB z).toArray⟩ : ByteArray) = pz := ⟨_, rfl⟩
          rw [hx] at hxs HST
          rw [hpz2] at hps HST
          have hs1 : ¬ (9223372036854775807 < tb.size + xs.size) := by omega
          have hs2 : ¬ (9223372036854775807 < tb.size + xs.size + pz.size) := by omega
          have hpad := fun u => pad_19 z u
          rw [hpz2] at hpad
          have HPAD := Lib.hid hpad
          clear hpad hpz2 hwr hr hst ht a3 hac cz0 hzj hpz hj hat
          go_wp2_with fail
          go_quiet ((go_at_call 19; exact Calls.quiet_of_same (HPAD.out _)))
          clear cz b1 b2 b3 hxs hps hx hmod htz hs1 hs2
          go_wp2_with fail
          exact ⟨⟨m + 1, _, _, rfl, rfl, by simp, HST.out, q + nq, by rw [HWR.out, World.drewN_drewN]⟩, by simp [intOf]; omega⟩
        · have hd : decide ((m : Int) < (n : Int)) = false := by simp; omega
          have hfe : fr ≤ s.size := by have := hr.fr_le; rwa [len_list] at this
          have htz := hr.size
          have htx := blText hr (by have := HN.out; omega)
          obtain ⟨T, hT⟩ : ∃ T, tb ++ s.extract fr s.size = T := ⟨_, rfl⟩
          obtain ⟨xs, hx⟩ : ∃ xs, s.extract fr s.size = xs := ⟨_, rfl⟩
          have hxs : xs.size ≤ 16384 := by
            rw [← hx]
            have h4 : (s.extract fr s.size).size = min s.size s.size - fr := ByteArray.size_extract ..
            omega
          rw [hT] at htx
          rw [hx] at hT
          have hs1 : ¬ (9223372036854775807 < tb.size + xs.size) := by omega
          have hTs : T.size ≤ 16777216 := by rw [← hT, ByteArray.size_append]; omega
          have b1 : (0 : Int) ≤ (fr : Int) := by omega
          have b2 : (fr : Int) ≤ (s.size : Int) := by omega
          have HTX := Lib.hid htx
          have hb4 : Below w.heap.size w wr := by rw [hwr]; exact HB1.out.trans (Go.Pen.below_drewN (Below.refl _ _))
          have hoa4 : wr.ownsRow w.heap.size 37 4 (.slice aa n ac) n (toksc l) := by rw [hwr]; exact HOA.out
          have HB4 := Lib.hid hb4
          have HOA4 := Lib.hid hoa4
          clear hr htx hwr hb4 hoa4
          by_cases hbig : 16384 < T.size
          · have hdT : decide ((16384 : Int) < (T.size : Int)) = true := by simp; omega
            go_wp2_with fail
            refine (HKN.out _ HB4.out).mono ?_
            rintro _ w5 ⟨rfl, hb5⟩
            have HB5 := Lib.hid (HB4.out.trans (hb5.mono HB4.out.size))
            clear hb5
            go_wp2_with fail
            go_ret
            exact ⟨rfl, HB5.out⟩
          · have hdT : decide ((16384 : Int) < (T.size : Int)) = false := by simp; omega
            obtain ⟨ts', hl', hsame⟩ := blanks_lexed (P := padP ps) (fun i => padB_ok _) HL.out (T := T.data.toList) HTX.out (by rw [len_list]; omega)
            have hlt := lex_any T wr (HG.out.below HB4.out h10) (by have := HB4.out.size; omega)
            rw [hl'] at hlt
            simp only [Res.toks, Res.place, Res.code, Int.natCast_zero] at hlt
            have HLT := Lib.hid hlt
            have HSAME := Lib.hid hsame
            clear hlt hl' hsame
            go_wp2_with fail
            refine HLT.out.mono ?_
            rintro _ w5 ⟨vm, rfl, hom, hb5⟩
            have HB5 := Lib.hid (HB4.out.trans (hb5.mono HB4.out.size))
            have HOA5 := Lib.hid (Below.ownsRow' hb5 HOA4.out)
            have HOM := Lib.hid hom
            clear hom hb5 hs1 b1 b2 hx hT hxs htz
            go_wp2_with fail
            refine (HKN.out _ HB5.out).mono ?_
            rintro _ w6 ⟨rfl, hb6⟩
            have HB6 := Lib.hid (HB5.out.trans (hb6.mono HB5.out.size))
            have hlen : ts'.length = n := by have := congrArg List.length HSAME.out; rw [List.length_map, List.length_map] at this; have := HN.out; omega
            have hr1 : TokRow w6 vm (ts'.map Tok.g) := tokRow_of_owns (Below.ownsRow' hb6 HOM.out)
            have hr2 : TokRow w6 (.slice aa n ac) (l.map Tok.g) := by
              have h := Below.ownsRow' hb6 HOA5.out
              have e := HN.out
              rw [← e] at h ⊢
              exact tokRow_of_owns h
            have hp1 := placed_16 (ts'.map Tok.g) vm 0 w6 hr1 (by rw [List.length_map]; omega)
            rw [List.length_map, hlen] at hp1
            have HP1 := Lib.hid hp1
            have HR2 := Lib.hid hr2
            clear hb6 hr1 hr2 hp1
            go_wp2_with fail
            refine HP1.out.mono ?_
            rintro _ w7 ⟨v7, rfl, ho7, hb7⟩
            have HB7 := Lib.hid (HB6.out.trans (hb7.mono HB6.out.size))
            have hp2 := placed_16 (l.map Tok.g) (.slice aa n ac) 0 w7 (HR2.out.below hb7) (by rw [List.length_map, HN.out]; omega)
            rw [List.length_map, HN.out] at hp2
            have HP2 := Lib.hid hp2
            have HO7 := Lib.hid ho7
            clear ho7 hb7 hp2
            go_wp2_with fail
            refine HP2.out.mono ?_
            rintro _ w8 ⟨v8, rfl, ho8, hb8⟩
            have HB8 := Lib.hid (HB7.out.trans (hb8.mono HB7.out.size))
            have hg0 : (ts'.map Tok.g).map (GTok.to 0) = (l.map Tok.g).map (GTok.to 0) := by
              rw [List.map_map, List.map_map, gto_at0, ← List.map_map, HSAME.out, List.map_map]
            have ht7 : TokRow w8 v7 ((l.map Tok.g).map (GTok.to 0)) := by
              have h := Below.ownsRow' hb8 HO7.out
              rw [hg0] at h
              refine tokRow_of_owns' (base := w6.heap.size) ?_
              rw [List.length_map, List.length_map, HN.out]
              exact h
            have ht8 : TokRow w8 v8 ((l.map Tok.g).map (GTok.to 0)) := by
              refine tokRow_of_owns' (base := w7.heap.size) ?_
              rw [List.length_map, List.length_map, HN.out]
              exact ho8
            have hsm := same_14 _ _ _ w8 ht7 ht8 (by rw [List.length_map, List.length_map, HN.out]; omega)
            have HSM := Lib.hid hsm
            clear ho8 hb8 hg0 ht7 ht8 hsm
            go_wp2_with fail
            refine HSM.out.mono ?_
            rintro _ _ ⟨rfl, q', rfl⟩
            go_wp2_with fail
            go_ret
            exact ⟨rfl, Go.Pen.below_drewN HB8.out⟩
end Go.Proofs.YtpjfkfbijimliaaDoor
