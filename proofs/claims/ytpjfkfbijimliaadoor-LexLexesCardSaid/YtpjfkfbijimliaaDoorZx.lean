/- LexLexes' walk. -/
import Derived.Test.YtpjfkfbijimliaaDoorZw
import Derived.Test.YtpjfkfbijimliaaDoorZh
import Derived.Test.YtpjfkfbijimliaaDoorZa
namespace Go.Proofs.YtpjfkfbijimliaaDoor
open Go.RowKit Go.Pen

theorem ref_any (s : ByteArray) (w : World) :
    Calls Tryd.prog 12 #[.string s] w fun e w' => ∃ v, e = .returned (.tuple #[v, .int .i64 (lexed s.data.toList).place, .int .i64 (lexed s.data.toList).code]) ∧
      w'.ownsRow w.heap.size 37 4 v (lexed s.data.toList).toks.length (toksc (lexed s.data.toList).toks) ∧ Below w.heap.size w w' := by
  refine (lex_12 s w).mono ?_
  intro e w' h
  unfold RefPost at h
  cases hl : lexed s.data.toList with
  | ok ts =>
    rw [hl] at h
    obtain ⟨v, he, ho, hb⟩ := h
    exact ⟨v, he, ho, hb⟩
  | err a c =>
    rw [hl] at h
    exact ⟨_, h.1, World.ownsRow_nil _ _ _ _, h.2⟩

theorem code_small (l : Bytes) : (lexed l).code ≤ 163 := by
  cases h : lexed l with
  | ok ts => exact Nat.zero_le _
  | err a c => have := (lexed_err h).2.2; simp [Res.code]; omega

theorem place_small (l : Bytes) : (lexed l).place ≤ 16384 := by
  cases h : lexed l with
  | ok ts => exact Nat.zero_le _
  | err a c => exact (lexed_err h).1

set_option maxRecDepth 100000 in
set_option maxHeartbeats 8000000 in
theorem lexes_3 (s : ByteArray) (w : World) (hg : Glob w) (h10 : 10 ≤ w.heap.size) :
    Calls Tryd.prog 3 #[.string s] w fun e w' => e = .returned (.bool true) ∧ Below w.heap.size w w' := by
  obtain ⟨L, hL⟩ : ∃ L, lexed s.data.toList = L := ⟨_, rfl⟩
  have hlx := lex_any s w hg h10
  have hrf := fun u => ref_any s u
  have hc := code_small s.data.toList
  have hp := place_small s.data.toList
  have hn := toks_count s.data.toList
  rw [hL] at hlx hrf hc hp hn
  obtain ⟨n, hnn⟩ : ∃ n, L.toks.length = n := ⟨_, rfl⟩
  obtain ⟨c, hcc⟩ : ∃ c, L.code = c := ⟨_, rfl⟩
  obtain ⟨p, hpp⟩ : ∃ p, L.place = p := ⟨_, rfl⟩
  rw [hnn, hcc, hpp] at hlx hrf
  rw [hcc] at hc
  rw [hpp] at hp
  rw [hnn] at hn
  have HLX := Lib.hid hlx
  have HRF := Lib.hid hrf
  have HG := Lib.hid hg
  have HN := Lib.hid hnn
  have e1 : ((p : Int) == (p : Int)) = true := by simp
  have e2 : ((c : Int) == (c : Int)) = true := by simp
  clear hlx hrf hg hL hnn hcc hpp
  go_enter Tryd.func3, Tryd.ntmps3
  go_wp2_with fail
  refine HLX.out.mono ?_
  rintro _ w1 ⟨va, rfl, hoa, hb1⟩
  obtain ⟨aa, ac, rfl⟩ := ownsRow_slice hoa
  have HOA := Lib.hid hoa
  have HB1 := Lib.hid hb1
  clear hoa hb1
  go_wp2_with fail
  refine (HRF.out w1).mono ?_
  rintro _ w2 ⟨vb, rfl, hob, hb2⟩
  obtain ⟨ba, bc, rfl⟩ := ownsRow_slice hob
  have HOB := Lib.hid hob
  have HB2 := Lib.hid (HB1.out.trans (hb2.mono HB1.out.size))
  have HOA2 := Lib.hid (Below.ownsRow' hb2 HOA.out)
  have hk := known_13 w2 (HG.out.below HB2.out h10) (by have := HB2.out.size; omega)
  have HK := Lib.hid hk
  clear hob hb2 hk
  go_wp2_with fail
  refine HK.out.mono ?_
  rintro _ w3 ⟨rfl, hb3⟩
  have HB3 := Lib.hid (HB2.out.trans (hb3.mono HB2.out.size))
  have hr1 : TokRow w3 (.slice aa n ac) (L.toks.map Tok.g) := by
    have h := Below.ownsRow' hb3 HOA2.out
    have e := HN.out
    rw [← e] at h ⊢
    exact tokRow_of_owns h
  have hr2 : TokRow w3 (.slice ba n bc) (L.toks.map Tok.g) := by
    have h := Below.ownsRow' hb3 HOB.out
    have e := HN.out
    rw [← e] at h ⊢
    exact tokRow_of_owns h
  have hsm := same_14 _ _ _ w3 hr1 hr2 (by rw [List.length_map, HN.out]; omega)
  have HSM := Lib.hid hsm
  clear hb3 hr1 hr2 hsm
  go_wp2_with fail
  refine HSM.out.mono ?_
  rintro _ _ ⟨rfl, q, rfl⟩
  go_wp2_with fail
  go_ret
  exact ⟨rfl, Go.Pen.below_drewN HB3.out⟩
end Go.Proofs.YtpjfkfbijimliaaDoor
