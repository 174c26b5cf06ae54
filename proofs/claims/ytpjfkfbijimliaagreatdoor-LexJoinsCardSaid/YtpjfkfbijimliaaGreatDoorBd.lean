/- lex.Join 15 of any tokens. -/
import Derived.Test.YtpjfkfbijimliaaGreatDoorBc
namespace Go.Proofs.YtpjfkfbijimliaaGreatDoor
open Go.RowKit Go.Pen

/-- what the package-level variables hold, those too that numbers are written by -/
structure Glob2 (w : World) : Prop where
  glob : Glob w
  bruijn : w.cell? ⟨9, 15, none⟩ = some (.int .u8 4)
  pow : Lib.TabIs Tryz.prog w "internal/strconv.uint64pow10" .u64 Lib.pow10Tab

theorem Glob2.below {B : Nat} {w w' : World} (h : Glob2 w) (hb : Below B w w') (hB : 10 ≤ B) : Glob2 w' :=
  ⟨h.glob.below hb hB, (hb.cell (p := ⟨9, 15, none⟩) (by show 9 < B; omega)).trans h.bruijn, var?_below hb globP10 (by omega) h.pow⟩

/-- a token that may be held -/
def GTok.fits (g : GTok) : Prop := -9223372036854775808 ≤ g.number ∧ g.number ≤ 9223372036854775807 ∧ g.text.size ≤ 9223372036854775807

/-- what is written of a token; whether it is one -/
def fW (g : GTok) : ByteArray × Bool :=
  if g.kind = 2 then (⟨(Lib.itoa g.number).toArray⟩, decide (0 ≤ g.number) && g.text.toList.isEmpty)
  else if g.kind = 1 then (g.text, decide (g.number = 0) && wordB g.text.data.toList)
  else if g.kind = 3 then (⟨(prf g.text.data.toList).toArray⟩, decide (g.number = 0) && decide (chkE g.text.data.toList = 0))
  else if g.kind = 4 then (g.text, decide (g.number = 0) && (!g.text.toList.isEmpty && decide (sgn g.text.data.toList = g.text.data.toList)))
  else (⟨#[]⟩, false)

/-- what written says of it -/
def Wrt2 (f : GTok → ByteArray × Bool) (g : GTok) : Prop :=
  ∀ w : World, Glob2 w → 10 ≤ w.heap.size → Calls Tryz.prog 9 #[g.val] w fun e w' => e = .returned (.tuple #[.string (f g).1, .bool (f g).2]) ∧ Below w.heap.size w w'

theorem wrt_all (g : GTok) (hf : g.fits) : Wrt2 fW g := by
  intro w hg h16
  obtain ⟨k, t, n, a⟩ := g
  obtain ⟨f1, f2, f3⟩ := hf
  simp only [] at f1 f2 f3
  unfold GTok.val fW
  simp only []
  by_cases k2 : k = 2
  · subst k2
    rw [if_pos rfl]
    exact writtenF_num t n a f1 f2 w hg.pow h16
  rw [if_neg k2]
  by_cases k1 : k = 1
  · subst k1
    rw [if_pos rfl]
    by_cases hn : n = 0
    · subst hn
      rw [decide_eq_true rfl, Bool.true_and]
      exact written_word t a w
    · rw [decide_eq_false hn, Bool.false_and]
      exact writtenF_word_n t n a hn w
  rw [if_neg k1]
  by_cases k3 : k = 3
  · subst k3
    rw [if_pos rfl]
    by_cases hn : n = 0
    · subst hn
      rw [decide_eq_true rfl, Bool.true_and]
      exact writtenF_text t a w f3 hg.glob.tabs h16 hg.bruijn
    · rw [decide_eq_false hn, Bool.false_and]
      exact writtenF_text_n t n a hn w f3 hg.glob.tabs h16 hg.bruijn
  rw [if_neg k3]
  by_cases k4 : k = 4
  · subst k4
    rw [if_pos rfl]
    by_cases hn : n = 0
    · subst hn
      rw [decide_eq_true rfl, Bool.true_and]
      cases he : t.toList.isEmpty
      · exact written_sign t a w he hg.glob.spaces (by omega)
      · exact writtenF_sign_0 t a he w
    · rw [decide_eq_false hn, Bool.false_and]
      exact writtenF_sign_n t n a hn w
  rw [if_neg k4]
  exact writtenF_other k t n a k1 k2 k3 k4 w

set_option maxRecDepth 100000 in
set_option maxHeartbeats 4000000 in
theorem join2_15 (f : GTok → ByteArray × Bool) (gs : List GTok) (b o c : Nat) (w : World) (hg : Glob2 w) (h11 : 10 ≤ w.heap.size) (hn0 : 0 < gs.length) (hb : b < w.heap.size) (hr : ToksAt w b o gs) (hn : gs.length ≤ 4398046511104)
    (hf : ∀ g ∈ gs, Wrt2 f g) (hlen : gs.all (fun g => (f g).2) = true → gs.length ≤ 4000 → (Lib.join (gs.map fun g => (f g).1.data.toList) [32]).length ≤ 140737488355328) :
    Calls Tryz.prog 5 #[.slice (some ⟨b, o, none⟩) gs.length c] w fun e w' => e = .returned (.tuple #[.string ⟨(joinR f gs).1.toArray⟩, .int .u16 (joinR f gs).2]) ∧ Below w.heap.size w w' := by
  obtain ⟨i0, hi, hz0, hz1, hz2⟩ := info_parts info9
  obtain ⟨H, hH⟩ : ∃ H, w.heap.size = H := ⟨_, rfl⟩
  obtain ⟨n, hnn⟩ : ∃ n, gs.length = n := ⟨_, rfl⟩
  rw [hnn] at hn hn0
  have hmk : ∀ u : World, (Instr.makeSlice 35 (.int .i64 (n : Int)) (.int .i64 (n : Int))).run Tryz.prog u =
      .ok (.slice (some ⟨u.heap.size, 0, none⟩) n n) (u.alloc (.cells (madeCells #[.string ⟨#[]⟩] n) 9)) := fun u => by
    have h := run_make (P := Tryz.prog) u 35 9 i0 _ Tryz.underlying35 hi hz0 .i64 .i64 (n : Int) (n : Int) (by omega) (Int.le_refl _) (by rw [hz2]; omega) (by omega)
    rw [Int.toNat_natCast] at h
    simpa [hz1, Value.cells] using h
  rw [hnn]
  have HH := Lib.hid hH
  have HN := Lib.hid hnn
  have HG := Lib.hid hg
  have HR := Lib.hid hr
  have HF := Lib.hid hf
  have HL := Lib.hid hlen
  clear hH hnn hg hr hf hlen
  go_enter Tryz.func5, Tryz.ntmps5
  go_wp2_with fail
  rw [HH.out]
  generalize hw1 : World.alloc _ _ = w1
  have hr1 : JnRel f gs H w 0 w1 := by
    rw [← hw1]
    refine ⟨⟨(madeCells #[Value.string ⟨#[]⟩] n).toList, ?_, ?_, fun i g hi => absurd hi (Nat.not_lt_zero _)⟩, (Below.refl _ _).alloc (by have := HH.out; omega) _, rfl⟩
    · rw [← HH.out]; exact heap_alloc_new w _
    · rw [HN.out]; simp [madeCells]
  clear hw1 hmk hi hz0 hz1 hz2
  go_loopw [13] (fun i wr => ∃ m : Nat, m ≤ n ∧ i = .int .i64 m ∧ JnRel f gs H w m wr) (fun i _ => n - (intOf i).toNat)
  case atStart => exact ⟨0, Nat.zero_le _, rfl, hr1⟩
  case round =>
    clear hr1
    obtain ⟨m, hm, rfl, hj⟩ := hrel
    have HJ := Lib.hid hj
    obtain ⟨⟨cur, q1, q2, q3⟩, q4, q5⟩ := hj
    have hbH : b < H := by have := HH.out; omega
    rcases Nat.lt_or_ge m n with hlt | hge
    · have hd : decide ((m : Int) < (n : Int)) = true := by simpa using hlt
      obtain ⟨g, hgm⟩ : ∃ g, gs[m]? = some g := ⟨_, List.getElem?_eq_getElem (by have := HN.out; omega)⟩
      obtain ⟨g0, g1, g2, g3⟩ := HR.out m g hgm
      have c0 := (q4.cell (p := ⟨b, o + m * 4, none⟩) hbH).trans g0
      have c1 := (q4.cell (p := ⟨b, o + m * 4 + 1, none⟩) hbH).trans g1
      have c2 := (q4.cell (p := ⟨b, o + m * 4 + 2, none⟩) hbH).trans g2
      have c3 := (q4.cell (p := ⟨b, o + m * 4 + 3, none⟩) hbH).trans g3
      have hwr := HF.out g (List.mem_of_getElem? hgm)
      have HW := Lib.hid hwr
      have HGM := Lib.hid hgm
      have HQ1 := Lib.hid q1
      have HGL := Lib.hid (HG.out.below q4 (by have := HH.out; omega))
      have hHl : H < wr.heap.size := lt_of_heap q1
      obtain ⟨cm, hcm⟩ : ∃ cm, cur[m]? = some cm := ⟨_, List.getElem?_eq_getElem (by have := HN.out; omega)⟩
      have HCM := Lib.hid hcm
      clear g0 g1 g2 g3 hgm q1 q2 q3 q4 q5 hwr hcm
      go_wp2_with fail
      generalize hw2 : World.alloc _ _ = w2
      have hb2 : Below wr.heap.size wr w2 := by rw [← hw2]; exact (Below.refl _ _).alloc (Nat.le_refl _) _
      have hg2 : Glob2 w2 := HGL.out.below hb2 (by have := HH.out; omega)
      clear hw2 c0 c1 c2 c3
      refine (HW.out w2 hg2 (by have := hb2.size; have := HH.out; omega)).mono ?_
      rintro _ w3 ⟨rfl, hb3⟩
      have hb13 : Below wr.heap.size wr w3 := hb2.trans (hb3.mono hb2.size)
      have e3 : w3.heap[H]? = some (.cells cur.toArray 9 (0, 0)) := (hb13.block H hHl).trans HQ1.out
      have c3 : w3.cell? ⟨H, m, none⟩ = some cm := cell_of_heap e3 (by rw [List.getElem?_toArray]; exact HCM.out)
      have f3 : w3.frozen? ⟨H, m, none⟩ = false := frozen_of_heap e3
      have HB13 := Lib.hid hb13
      have HQ4 : Hid (Below H w w3) := Lib.hid (HJ.out.2.1.trans (hb13.mono (Nat.le_of_lt hHl)))
      clear hb2 hb3 hb13 hg2 e3
      cases hfg : (f g).2
      · have HRR := Lib.hid (all_miss HGM.out hfg)
        go_wp2_with fail
        refine bodyPost_ret (v := .tuple #[.string ⟨#[]⟩, .int .u16 1]) (by simp [results, Tryz.results5, go_sem]) rfl ⟨?_, ?_⟩
        · rw [HRR.out]; rfl
        · rw [HH.out]; exact HQ4.out.setCell (Nat.le_refl _) _
      · have HS := Lib.hid (jn_step HJ.out HGM.out HB13.out rfl hfg)
        go_wp2_with fail
        exact ⟨⟨m + 1, hlt, by simp, HS.out⟩, by simp [intOf]; omega⟩
    · have hd : decide ((m : Int) < (n : Int)) = false := by simp; omega
      obtain rfl : m = n := by omega
      have hta : gs.take m = gs := List.take_of_length_le (by have := HN.out; omega)
      rw [hta] at q5
      have HQ5 := Lib.hid q5
      have HQ4 := Lib.hid q4
      have hcells : ∀ (j : Nat) (x : ByteArray), (gs.map fun g => (f g).1)[j]? = some x → wr.cell? ⟨H, 0 + j, none⟩ = some (.string x) := fun j x hx => by
        rw [List.getElem?_map] at hx
        obtain ⟨g, hg, rfl⟩ := Option.map_eq_some_iff.1 hx
        rw [Nat.zero_add]
        have hjl : j < m := by have := (List.getElem?_eq_some_iff.1 hg).1; have := HN.out; omega
        exact cell_of_heap q1 (by rw [List.getElem?_toArray]; exact q3 j g hjl hg)
      have HCE := Lib.hid hcells
      have hHl : H < wr.heap.size := lt_of_heap q1
      clear hta q1 q2 q3 q4 q5 hcells hge
      by_cases h4 : 4000 < m
      · have hd4 : decide ((4000 : Int) < (m : Int)) = true := by simp; omega
        have HRR : Hid (joinR f gs = ([], 163)) := Lib.hid (by rw [joinR, HQ5.out, if_pos rfl, if_pos (by rw [HN.out]; exact h4)])
        go_wp2_with fail
        refine bodyPost_ret (v := .tuple #[.string ⟨#[]⟩, .int .u16 163]) (by simp [results, Tryz.results5, go_sem]) rfl ⟨?_, ?_⟩
        · rw [HRR.out]; rfl
        · rw [HH.out]; exact HQ4.out
      · have hd4 : decide ((4000 : Int) < (m : Int)) = false := by simp; omega
        have HRR : Hid (joinR f gs = (Lib.join (gs.map fun g => (f g).1.data.toList) [32], 0)) := Lib.hid (by rw [joinR, HQ5.out, if_pos rfl, if_neg (by rw [HN.out]; exact h4)])
        have hxl : (gs.map fun g => (f g).1).length = m := by rw [List.length_map]; exact HN.out
        have hmm : ((gs.map fun g => (f g).1).map (·.data.toList)) = gs.map fun g => (f g).1.data.toList := by rw [List.map_map]; rfl
        have hjn := Tryz.strings_Join H 0 m (gs.map fun g => (f g).1) ⟨#[32]⟩ wr HCE.out hHl (by rw [hxl]; omega) (by rw [hxl]; exact Nat.le_refl _) (by rw [hmm]; exact HL.out HQ5.out (by rw [HN.out]; omega))
        rw [hxl, hmm] at hjn
        have HX := Lib.hid hjn
        clear hjn hxl hmm
        go_wp2_with fail
        refine HX.out.mono ?_
        rintro _ w2 ⟨rfl, hb2⟩
        go_wp2_with fail
        refine bodyPost_ret (v := .tuple #[.string ⟨(Lib.join (gs.map fun g => (f g).1.data.toList) [32]).toArray⟩, .int .u16 0]) (by simp [results, Tryz.results5, go_sem]) rfl ⟨?_, ?_⟩
        · rw [HRR.out]; rfl
        · rw [HH.out]; exact HQ4.out.trans (hb2.mono (Nat.le_of_lt hHl))
end Go.Proofs.YtpjfkfbijimliaaGreatDoor
