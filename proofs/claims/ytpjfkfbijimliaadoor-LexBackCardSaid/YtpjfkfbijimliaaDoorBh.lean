/- LexBack's walk (4). Printed by gen_back.py. -/
import Derived.Test.YtpjfkfbijimliaaDoorBg
import Derived.Test.YtpjfkfbijimliaaDoorZg
namespace Go.Proofs.YtpjfkfbijimliaaDoor
open Go.RowKit Go.Pen

/-- Lex of a text of which it is known what it comes to -/
theorem lex_said {s : ByteArray} {ts : List Tok} (h : lexed s.data.toList = .ok ts) (w : World) (hg : Glob w) (h10 : 10 ≤ w.heap.size) :
    Calls Tryd.prog 11 #[.string s] w fun e w' => ∃ v, e = .returned (.tuple #[v, .int .i64 0, .int .u16 0]) ∧ TokRow w' v (ts.map Tok.g) ∧ Below w.heap.size w w' := by
  refine (lex_any s w hg h10).mono ?_
  intro e w' hp
  rw [h] at hp
  obtain ⟨v, he, ho, hb⟩ := hp
  exact ⟨v, he, tokRow_of_owns ho, hb⟩

theorem place_row (gs : List GTok) (v : Value) (w : World) (hv : TokRow w v gs) (hn : gs.length ≤ 4000) :
    Calls Tryd.prog 16 #[v, .int .i64 0] w fun e w' => ∃ v', e = .returned v' ∧ TokRow w' v' (gs.map (GTok.to 0)) ∧ Below w.heap.size w w' := by
  refine (placed_16 gs v 0 w hv (by omega)).mono ?_
  rintro e w' ⟨v', he, ho, hb⟩
  exact ⟨v', he, tokRow_of_owns' (by rw [List.length_map]; exact ho), hb⟩

theorem joinR_count {gs : List GTok} (h : (joinR fW gs).2 = 0) : gs.length ≤ 4000 := by
  unfold joinR at h
  split at h
  · split at h
    · cases h
    · omega
  · cases h

theorem TokRow.slice {w : World} {v : Value} {gs : List GTok} (h : TokRow w v gs) : ∃ a n c, v = .slice a n c := by
  obtain ⟨a, c, h, -⟩ := h
  exact ⟨a, _, c, h⟩

set_option maxRecDepth 100000 in
set_option maxHeartbeats 4000000 in
theorem back_AE (s : ByteArray) (gs : List GTok) (v : Value) {a e : Nat} (w : World) (hg : Glob2 w) (h16 : 10 ≤ w.heap.size) (hv : TokRow w v gs) (hn : gs.length ≤ 4398046511104) (hf : ∀ g ∈ gs, g.fits) (hC : (joinR fW gs).2 ≠ 0) (hL : lexed s.data.toList = .err a e) :
    Calls Tryd.prog 4 #[.string s, v] w fun e w' => e = .returned (.bool true) ∧ Below w.heap.size w w' := by
  have hjn := fun u hu h => join_any gs v u hu h
  obtain ⟨C, hCC⟩ : ∃ C, (joinR fW gs).2 = C := ⟨_, rfl⟩
  obtain ⟨JB, hJB⟩ : ∃ JB : ByteArray, ⟨(joinR fW gs).1.toArray⟩ = JB := ⟨_, rfl⟩
  rw [hJB, hCC] at hjn
  rw [hCC] at hC
  have hne : ((C : Int) == 0) = false := by simpa using hC
  have hjn' := hjn w hg h16 hv hn hf
  obtain ⟨va, vn, vc, rfl⟩ := hv.slice
  have HJ := Lib.hid hjn'
  have he0 : e ≠ 0 := by have := (lexed_err hL).2.2; omega
  have hne2 : ((e : Int) != 0) = true := by simpa using he0
  have hlx := fun u hu h => lex_any s u hu h
  rw [hL] at hlx
  simp only [Res.toks, Res.place, Res.code, List.length_nil] at hlx
  have HX := Lib.hid hlx
  have HG := Lib.hid hg
  clear hjn hjn' hJB hCC hC hf hn hlx hL hg he0
  go_enter Tryd.func4, Tryd.ntmps4
  go_wp2_with fail
  refine HJ.out.mono ?_
  rintro _ w1 ⟨rfl, hb1⟩
  have HB := Lib.hid hb1
  clear hb1
  go_wp2_with fail
  refine (HX.out w1 (HG.out.below HB.out (by omega)).glob (by have := HB.out.size; omega)).mono ?_
  rintro _ w2 ⟨vm, rfl, hom, hb2⟩
  obtain ⟨ma, mc, rfl⟩ := ownsRow_slice hom
  have HB2 := Lib.hid (HB.out.trans (hb2.mono HB.out.size))
  clear hom hb2
  go_wp2_with fail
  refine (known_13 w2 (HG.out.below HB2.out (by omega)).glob (by have := HB2.out.size; omega)).mono ?_
  rintro _ w3 ⟨rfl, hb3⟩
  have HB3 := Lib.hid (HB2.out.trans (hb3.mono HB2.out.size))
  clear hb3
  go_wp2_with fail
  go_ret
  exact ⟨rfl, HB3.out⟩

set_option maxRecDepth 100000 in
set_option maxHeartbeats 4000000 in
theorem back_AF (s : ByteArray) (gs : List GTok) (v : Value) {ts : List Tok} (w : World) (hg : Glob2 w) (h16 : 10 ≤ w.heap.size) (hv : TokRow w v gs) (hn : gs.length ≤ 4398046511104) (hf : ∀ g ∈ gs, g.fits) (hC : (joinR fW gs).2 ≠ 0) (hL : lexed s.data.toList = .ok ts) (hU : ¬ (joinR fW (ts.map Tok.g)).1.length ≤ 16384) :
    Calls Tryd.prog 4 #[.string s, v] w fun e w' => e = .returned (.bool true) ∧ Below w.heap.size w w' := by
  have hjn := fun u hu h => join_any gs v u hu h
  obtain ⟨C, hCC⟩ : ∃ C, (joinR fW gs).2 = C := ⟨_, rfl⟩
  obtain ⟨JB, hJB⟩ : ∃ JB : ByteArray, ⟨(joinR fW gs).1.toArray⟩ = JB := ⟨_, rfl⟩
  rw [hJB, hCC] at hjn
  rw [hCC] at hC
  have hne : ((C : Int) == 0) = false := by simpa using hC
  have hjn' := hjn w hg h16 hv hn hf
  obtain ⟨va, vn, vc, rfl⟩ := hv.slice
  have HJ := Lib.hid hjn'
  have hlx := fun u hu h => lex_said hL u hu h
  obtain ⟨hc4, hfs, -⟩ := lexed_writes hL
  have hju := fun x u hu h hv => join_any (ts.map Tok.g) x u hu h hv (by rw [List.length_map]; omega) hfs
  obtain ⟨UB, hUB⟩ : ∃ UB : ByteArray, ⟨(joinR fW (ts.map Tok.g)).1.toArray⟩ = UB := ⟨_, rfl⟩
  have husz : UB.size = (joinR fW (ts.map Tok.g)).1.length := by rw [← hUB]; simp [ByteArray.size]
  rw [hUB, lex_join hL] at hju
  have hd2 : decide ((16384 : Int) < (UB.size : Int)) = true := by simp; omega
  have HX := Lib.hid hlx
  have HJU := Lib.hid hju
  have HG := Lib.hid hg
  clear hjn hjn' hJB hCC hC hf hn hlx hL hU hju hUB husz hfs hc4 hg
  go_enter Tryd.func4, Tryd.ntmps4
  go_wp2_with fail
  refine HJ.out.mono ?_
  rintro _ w1 ⟨rfl, hb1⟩
  have HB := Lib.hid hb1
  clear hb1
  go_wp2_with fail
  refine (HX.out w1 (HG.out.below HB.out (by omega)).glob (by have := HB.out.size; omega)).mono ?_
  rintro _ w2 ⟨vm, rfl, hvm, hb2⟩
  have HVM := Lib.hid hvm
  obtain ⟨ma, mn, mc, rfl⟩ := hvm.slice
  have HB2 := Lib.hid (HB.out.trans (hb2.mono HB.out.size))
  clear hvm hb2
  go_wp2_with fail
  refine (HJU.out _ w2 (HG.out.below HB2.out (by omega)) (by have := HB2.out.size; omega) HVM.out).mono ?_
  rintro _ w3 ⟨rfl, hb3⟩
  have HB3 := Lib.hid (HB2.out.trans (hb3.mono HB2.out.size))
  clear hb3
  go_wp2_with fail
  refine (known_13 w3 (HG.out.below HB3.out (by omega)).glob (by have := HB3.out.size; omega)).mono ?_
  rintro _ w4 ⟨rfl, hb4⟩
  have HB4 := Lib.hid (HB3.out.trans (hb4.mono HB3.out.size))
  clear hb4
  go_wp2_with fail
  go_ret
  exact ⟨rfl, HB4.out⟩

set_option maxRecDepth 100000 in
set_option maxHeartbeats 4000000 in
theorem back_AG (s : ByteArray) (gs : List GTok) (v : Value) {ts : List Tok} (w : World) (hg : Glob2 w) (h16 : 10 ≤ w.heap.size) (hv : TokRow w v gs) (hn : gs.length ≤ 4398046511104) (hf : ∀ g ∈ gs, g.fits) (hC : (joinR fW gs).2 ≠ 0) (hL : lexed s.data.toList = .ok ts) (hU : (joinR fW (ts.map Tok.g)).1.length ≤ 16384) :
    Calls Tryd.prog 4 #[.string s, v] w fun e w' => e = .returned (.bool true) ∧ Below w.heap.size w w' := by
  have hjn := fun u hu h => join_any gs v u hu h
  obtain ⟨C, hCC⟩ : ∃ C, (joinR fW gs).2 = C := ⟨_, rfl⟩
  obtain ⟨JB, hJB⟩ : ∃ JB : ByteArray, ⟨(joinR fW gs).1.toArray⟩ = JB := ⟨_, rfl⟩
  rw [hJB, hCC] at hjn
  rw [hCC] at hC
  have hne : ((C : Int) == 0) = false := by simpa using hC
  have hjn' := hjn w hg h16 hv hn hf
  obtain ⟨va, vn, vc, rfl⟩ := hv.slice
  have HJ := Lib.hid hjn'
  have hlx := fun u hu h => lex_said hL u hu h
  obtain ⟨hc4, hfs, -⟩ := lexed_writes hL
  have hju := fun x u hu h hv => join_any (ts.map Tok.g) x u hu h hv (by rw [List.length_map]; omega) hfs
  obtain ⟨UB, hUB⟩ : ∃ UB : ByteArray, ⟨(joinR fW (ts.map Tok.g)).1.toArray⟩ = UB := ⟨_, rfl⟩
  have husz : UB.size = (joinR fW (ts.map Tok.g)).1.length := by rw [← hUB]; simp [ByteArray.size]
  obtain ⟨tu, hlu, hmu⟩ := join_back hfs (lex_join hL) hU
  have hlU := fun u hu h => lex_said (s := UB) (by rw [← hUB]; exact hlu) u hu h
  rw [hUB, lex_join hL] at hju
  have hgl : (ts.map Tok.g).length ≤ 4000 := by rw [List.length_map]; exact hc4
  have hul : (tu.map Tok.g).length ≤ 4000 := by
    have := congrArg List.length hmu
    simp only [List.length_map] at this ⊢
    omega
  have hd2 : decide ((16384 : Int) < (UB.size : Int)) = false := by simp; omega
  have HX := Lib.hid hlx
  have HJU := Lib.hid hju
  have HLU := Lib.hid hlU
  have HMU := Lib.hid hmu
  have HG := Lib.hid hg
  clear hjn hjn' hJB hCC hC hf hn hlx hL hU hju hUB husz hfs hc4 hlU hlu hmu hg
  go_enter Tryd.func4, Tryd.ntmps4
  go_wp2_with fail
  refine HJ.out.mono ?_
  rintro _ w1 ⟨rfl, hb1⟩
  have HB := Lib.hid hb1
  clear hb1
  go_wp2_with fail
  refine (HX.out w1 (HG.out.below HB.out (by omega)).glob (by have := HB.out.size; omega)).mono ?_
  rintro _ w2 ⟨vm, rfl, hvm, hb2⟩
  have HVM := Lib.hid hvm
  obtain ⟨ma, mn, mc, rfl⟩ := hvm.slice
  have HB2 := Lib.hid (HB.out.trans (hb2.mono HB.out.size))
  clear hvm hb2
  go_wp2_with fail
  refine (HJU.out _ w2 (HG.out.below HB2.out (by omega)) (by have := HB2.out.size; omega) HVM.out).mono ?_
  rintro _ w3 ⟨rfl, hb3⟩
  have HB3 := Lib.hid (HB2.out.trans (hb3.mono HB2.out.size))
  have HVM3 := Lib.hid (HVM.out.below hb3)
  clear hb3
  go_wp2_with fail
  refine (HLU.out w3 (HG.out.below HB3.out (by omega)).glob (by have := HB3.out.size; omega)).mono ?_
  rintro _ w4 ⟨vn', rfl, hvn, hb4⟩
  have HB4 := Lib.hid (HB3.out.trans (hb4.mono HB3.out.size))
  have HVM4 := Lib.hid (HVM3.out.below hb4)
  have HVN := Lib.hid hvn
  obtain ⟨na, nn, nc, rfl⟩ := hvn.slice
  clear hb4 hvn
  go_wp2_with fail
  refine (known_13 w4 (HG.out.below HB4.out (by omega)).glob (by have := HB4.out.size; omega)).mono ?_
  rintro _ w5 ⟨rfl, hb5⟩
  have HB5 := Lib.hid (HB4.out.trans (hb5.mono HB4.out.size))
  have HVM5 := Lib.hid (HVM4.out.below hb5)
  have HVN5 := Lib.hid (HVN.out.below hb5)
  clear hb5
  go_wp2_with fail
  refine (place_row _ _ w5 HVN5.out hul).mono ?_
  rintro _ w6 ⟨vx, rfl, hvx, hb6⟩
  have HB6 := Lib.hid (HB5.out.trans (hb6.mono HB5.out.size))
  have HVM6 := Lib.hid (HVM5.out.below hb6)
  have HVX := Lib.hid hvx
  obtain ⟨xa, xn, xc, rfl⟩ := hvx.slice
  clear hvx hb6
  go_wp2_with fail
  refine (place_row _ _ w6 HVM6.out hgl).mono ?_
  rintro _ w7 ⟨vy, rfl, hvy, hb7⟩
  have HB7 := Lib.hid (HB6.out.trans (hb7.mono HB6.out.size))
  have hvx := HVX.out.below hb7
  rw [HMU.out] at hvx
  have HVX7 := Lib.hid hvx
  have HVY := Lib.hid hvy
  obtain ⟨ya, yn, yc, rfl⟩ := hvy.slice
  clear hvy hb7 hvx
  go_wp2_with fail
  refine (same_14 _ _ _ w7 HVX7.out HVY.out (by rw [List.length_map]; omega)).mono ?_
  rintro _ w8 ⟨rfl, q8, hq8⟩
  have HB8 : Hid (Below w.heap.size w w8) := Lib.hid (by rw [hq8]; exact Go.Pen.below_drewN HB7.out)
  clear hq8
  go_wp2_with fail
  go_ret
  exact ⟨rfl, HB8.out⟩

set_option maxRecDepth 100000 in
set_option maxHeartbeats 4000000 in
theorem back_BE (s : ByteArray) (gs : List GTok) (v : Value) {a e : Nat} (w : World) (hg : Glob2 w) (h16 : 10 ≤ w.heap.size) (hv : TokRow w v gs) (hn : gs.length ≤ 4398046511104) (hf : ∀ g ∈ gs, g.fits) (hC : (joinR fW gs).2 = 0) (hJ : ¬ (joinR fW gs).1.length ≤ 16384) (hL : lexed s.data.toList = .err a e) :
    Calls Tryd.prog 4 #[.string s, v] w fun e w' => e = .returned (.bool true) ∧ Below w.heap.size w w' := by
  have hjn := fun u hu h => join_any gs v u hu h
  obtain ⟨JB, hJB⟩ : ∃ JB : ByteArray, ⟨(joinR fW gs).1.toArray⟩ = JB := ⟨_, rfl⟩
  have hsz : JB.size = (joinR fW gs).1.length := by rw [← hJB]; simp [ByteArray.size]
  rw [hJB, hC] at hjn
  have hd1 : decide ((JB.size : Int) ≤ 16384) = false := by simp; omega
  have hjn' := hjn w hg h16 hv hn hf
  obtain ⟨va, vn, vc, rfl⟩ := hv.slice
  have HJ := Lib.hid hjn'
  have he0 : e ≠ 0 := by have := (lexed_err hL).2.2; omega
  have hne2 : ((e : Int) != 0) = true := by simpa using he0
  have hlx := fun u hu h => lex_any s u hu h
  rw [hL] at hlx
  simp only [Res.toks, Res.place, Res.code, List.length_nil] at hlx
  have HX := Lib.hid hlx
  have HG := Lib.hid hg
  clear hjn hjn' hJB hC hJ hsz hf hn hlx hL hg he0
  go_enter Tryd.func4, Tryd.ntmps4
  go_wp2_with fail
  refine HJ.out.mono ?_
  rintro _ w1 ⟨rfl, hb1⟩
  have HB := Lib.hid hb1
  clear hb1
  go_wp2_with fail
  refine (HX.out w1 (HG.out.below HB.out (by omega)).glob (by have := HB.out.size; omega)).mono ?_
  rintro _ w2 ⟨vm, rfl, hom, hb2⟩
  obtain ⟨ma, mc, rfl⟩ := ownsRow_slice hom
  have HB2 := Lib.hid (HB.out.trans (hb2.mono HB.out.size))
  clear hom hb2
  go_wp2_with fail
  refine (known_13 w2 (HG.out.below HB2.out (by omega)).glob (by have := HB2.out.size; omega)).mono ?_
  rintro _ w3 ⟨rfl, hb3⟩
  have HB3 := Lib.hid (HB2.out.trans (hb3.mono HB2.out.size))
  clear hb3
  go_wp2_with fail
  go_ret
  exact ⟨rfl, HB3.out⟩

set_option maxRecDepth 100000 in
set_option maxHeartbeats 4000000 in
theorem back_BF (s : ByteArray) (gs : List GTok) (v : Value) {ts : List Tok} (w : World) (hg : Glob2 w) (h16 : 10 ≤ w.heap.size) (hv : TokRow w v gs) (hn : gs.length ≤ 4398046511104) (hf : ∀ g ∈ gs, g.fits) (hC : (joinR fW gs).2 = 0) (hJ : ¬ (joinR fW gs).1.length ≤ 16384) (hL : lexed s.data.toList = .ok ts) (hU : ¬ (joinR fW (ts.map Tok.g)).1.length ≤ 16384) :
    Calls Tryd.prog 4 #[.string s, v] w fun e w' => e = .returned (.bool true) ∧ Below w.heap.size w w' := by
  have hjn := fun u hu h => join_any gs v u hu h
  obtain ⟨JB, hJB⟩ : ∃ JB : ByteArray, ⟨(joinR fW gs).1.toArray⟩ = JB := ⟨_, rfl⟩
  have hsz : JB.size = (joinR fW gs).1.length := by rw [← hJB]; simp [ByteArray.size]
  rw [hJB, hC] at hjn
  have hd1 : decide ((JB.size : Int) ≤ 16384) = false := by simp; omega
  have hjn' := hjn w hg h16 hv hn hf
  obtain ⟨va, vn, vc, rfl⟩ := hv.slice
  have HJ := Lib.hid hjn'
  have hlx := fun u hu h => lex_said hL u hu h
  obtain ⟨hc4, hfs, -⟩ := lexed_writes hL
  have hju := fun x u hu h hv => join_any (ts.map Tok.g) x u hu h hv (by rw [List.length_map]; omega) hfs
  obtain ⟨UB, hUB⟩ : ∃ UB : ByteArray, ⟨(joinR fW (ts.map Tok.g)).1.toArray⟩ = UB := ⟨_, rfl⟩
  have husz : UB.size = (joinR fW (ts.map Tok.g)).1.length := by rw [← hUB]; simp [ByteArray.size]
  rw [hUB, lex_join hL] at hju
  have hd2 : decide ((16384 : Int) < (UB.size : Int)) = true := by simp; omega
  have HX := Lib.hid hlx
  have HJU := Lib.hid hju
  have HG := Lib.hid hg
  clear hjn hjn' hJB hC hJ hsz hf hn hlx hL hU hju hUB husz hfs hc4 hg
  go_enter Tryd.func4, Tryd.ntmps4
  go_wp2_with fail
  refine HJ.out.mono ?_
  rintro _ w1 ⟨rfl, hb1⟩
  have HB := Lib.hid hb1
  clear hb1
  go_wp2_with fail
  refine (HX.out w1 (HG.out.below HB.out (by omega)).glob (by have := HB.out.size; omega)).mono ?_
  rintro _ w2 ⟨vm, rfl, hvm, hb2⟩
  have HVM := Lib.hid hvm
  obtain ⟨ma, mn, mc, rfl⟩ := hvm.slice
  have HB2 := Lib.hid (HB.out.trans (hb2.mono HB.out.size))
  clear hvm hb2
  go_wp2_with fail
  refine (HJU.out _ w2 (HG.out.below HB2.out (by omega)) (by have := HB2.out.size; omega) HVM.out).mono ?_
  rintro _ w3 ⟨rfl, hb3⟩
  have HB3 := Lib.hid (HB2.out.trans (hb3.mono HB2.out.size))
  clear hb3
  go_wp2_with fail
  refine (known_13 w3 (HG.out.below HB3.out (by omega)).glob (by have := HB3.out.size; omega)).mono ?_
  rintro _ w4 ⟨rfl, hb4⟩
  have HB4 := Lib.hid (HB3.out.trans (hb4.mono HB3.out.size))
  clear hb4
  go_wp2_with fail
  go_ret
  exact ⟨rfl, HB4.out⟩

set_option maxRecDepth 100000 in
set_option maxHeartbeats 4000000 in
theorem back_BG (s : ByteArray) (gs : List GTok) (v : Value) {ts : List Tok} (w : World) (hg : Glob2 w) (h16 : 10 ≤ w.heap.size) (hv : TokRow w v gs) (hn : gs.length ≤ 4398046511104) (hf : ∀ g ∈ gs, g.fits) (hC : (joinR fW gs).2 = 0) (hJ : ¬ (joinR fW gs).1.length ≤ 16384) (hL : lexed s.data.toList = .ok ts) (hU : (joinR fW (ts.map Tok.g)).1.length ≤ 16384) :
    Calls Tryd.prog 4 #[.string s, v] w fun e w' => e = .returned (.bool true) ∧ Below w.heap.size w w' := by
  have hjn := fun u hu h => join_any gs v u hu h
  obtain ⟨JB, hJB⟩ : ∃ JB : ByteArray, ⟨(joinR fW gs).1.toArray⟩ = JB := ⟨_, rfl⟩
  have hsz : JB.size = (joinR fW gs).1.length := by rw [← hJB]; simp [ByteArray.size]
  rw [hJB, hC] at hjn
  have hd1 : decide ((JB.size : Int) ≤ 16384) = false := by simp; omega
  have hjn' := hjn w hg h16 hv hn hf
  obtain ⟨va, vn, vc, rfl⟩ := hv.slice
  have HJ := Lib.hid hjn'
  have hlx := fun u hu h => lex_said hL u hu h
  obtain ⟨hc4, hfs, -⟩ := lexed_writes hL
  have hju := fun x u hu h hv => join_any (ts.map Tok.g) x u hu h hv (by rw [List.length_map]; omega) hfs
  obtain ⟨UB, hUB⟩ : ∃ UB : ByteArray, ⟨(joinR fW (ts.map Tok.g)).1.toArray⟩ = UB := ⟨_, rfl⟩
  have husz : UB.size = (joinR fW (ts.map Tok.g)).1.length := by rw [← hUB]; simp [ByteArray.size]
  obtain ⟨tu, hlu, hmu⟩ := join_back hfs (lex_join hL) hU
  have hlU := fun u hu h => lex_said (s := UB) (by rw [← hUB]; exact hlu) u hu h
  rw [hUB, lex_join hL] at hju
  have hgl : (ts.map Tok.g).length ≤ 4000 := by rw [List.length_map]; exact hc4
  have hul : (tu.map Tok.g).length ≤ 4000 := by
    have := congrArg List.length hmu
    simp only [List.length_map] at this ⊢
    omega
  have hd2 : decide ((16384 : Int) < (UB.size : Int)) = false := by simp; omega
  have HX := Lib.hid hlx
  have HJU := Lib.hid hju
  have HLU := Lib.hid hlU
  have HMU := Lib.hid hmu
  have HG := Lib.hid hg
  clear hjn hjn' hJB hC hJ hsz hf hn hlx hL hU hju hUB husz hfs hc4 hlU hlu hmu hg
  go_enter Tryd.func4, Tryd.ntmps4
  go_wp2_with fail
  refine HJ.out.mono ?_
  rintro _ w1 ⟨rfl, hb1⟩
  have HB := Lib.hid hb1
  clear hb1
  go_wp2_with fail
  refine (HX.out w1 (HG.out.below HB.out (by omega)).glob (by have := HB.out.size; omega)).mono ?_
  rintro _ w2 ⟨vm, rfl, hvm, hb2⟩
  have HVM := Lib.hid hvm
  obtain ⟨ma, mn, mc, rfl⟩ := hvm.slice
  have HB2 := Lib.hid (HB.out.trans (hb2.mono HB.out.size))
  clear hvm hb2
  go_wp2_with fail
  refine (HJU.out _ w2 (HG.out.below HB2.out (by omega)) (by have := HB2.out.size; omega) HVM.out).mono ?_
  rintro _ w3 ⟨rfl, hb3⟩
  have HB3 := Lib.hid (HB2.out.trans (hb3.mono HB2.out.size))
  have HVM3 := Lib.hid (HVM.out.below hb3)
  clear hb3
  go_wp2_with fail
  refine (HLU.out w3 (HG.out.below HB3.out (by omega)).glob (by have := HB3.out.size; omega)).mono ?_
  rintro _ w4 ⟨vn', rfl, hvn, hb4⟩
  have HB4 := Lib.hid (HB3.out.trans (hb4.mono HB3.out.size))
  have HVM4 := Lib.hid (HVM3.out.below hb4)
  have HVN := Lib.hid hvn
  obtain ⟨na, nn, nc, rfl⟩ := hvn.slice
  clear hb4 hvn
  go_wp2_with fail
  refine (known_13 w4 (HG.out.below HB4.out (by omega)).glob (by have := HB4.out.size; omega)).mono ?_
  rintro _ w5 ⟨rfl, hb5⟩
  have HB5 := Lib.hid (HB4.out.trans (hb5.mono HB4.out.size))
  have HVM5 := Lib.hid (HVM4.out.below hb5)
  have HVN5 := Lib.hid (HVN.out.below hb5)
  clear hb5
  go_wp2_with fail
  refine (place_row _ _ w5 HVN5.out hul).mono ?_
  rintro _ w6 ⟨vx, rfl, hvx, hb6⟩
  have HB6 := Lib.hid (HB5.out.trans (hb6.mono HB5.out.size))
  have HVM6 := Lib.hid (HVM5.out.below hb6)
  have HVX := Lib.hid hvx
  obtain ⟨xa, xn, xc, rfl⟩ := hvx.slice
  clear hvx hb6
  go_wp2_with fail
  refine (place_row _ _ w6 HVM6.out hgl).mono ?_
  rintro _ w7 ⟨vy, rfl, hvy, hb7⟩
  have HB7 := Lib.hid (HB6.out.trans (hb7.mono HB6.out.size))
  have hvx := HVX.out.below hb7
  rw [HMU.out] at hvx
  have HVX7 := Lib.hid hvx
  have HVY := Lib.hid hvy
  obtain ⟨ya, yn, yc, rfl⟩ := hvy.slice
  clear hvy hb7 hvx
  go_wp2_with fail
  refine (same_14 _ _ _ w7 HVX7.out HVY.out (by rw [List.length_map]; omega)).mono ?_
  rintro _ w8 ⟨rfl, q8, hq8⟩
  have HB8 : Hid (Below w.heap.size w w8) := Lib.hid (by rw [hq8]; exact Go.Pen.below_drewN HB7.out)
  clear hq8
  go_wp2_with fail
  go_ret
  exact ⟨rfl, HB8.out⟩

set_option maxRecDepth 100000 in
set_option maxHeartbeats 4000000 in
theorem back_CE (s : ByteArray) (gs : List GTok) (v : Value) {a e : Nat} (w : World) (hg : Glob2 w) (h16 : 10 ≤ w.heap.size) (hv : TokRow w v gs) (hn : gs.length ≤ 4398046511104) (hf : ∀ g ∈ gs, g.fits) (hC : (joinR fW gs).2 = 0) (hJ : (joinR fW gs).1.length ≤ 16384) (hL : lexed s.data.toList = .err a e) :
    Calls Tryd.prog 4 #[.string s, v] w fun e w' => e = .returned (.bool true) ∧ Below w.heap.size w w' := by
  have hjn := fun u hu h => join_any gs v u hu h
  obtain ⟨JB, hJB⟩ : ∃ JB : ByteArray, ⟨(joinR fW gs).1.toArray⟩ = JB := ⟨_, rfl⟩
  have hsz : JB.size = (joinR fW gs).1.length := by rw [← hJB]; simp [ByteArray.size]
  obtain ⟨tj, hlj, hmj⟩ := join_back hf hC hJ
  have hcnt := joinR_count hC
  have hcnt' : (tj.map Tok.g).length ≤ 4000 := by
    have := congrArg List.length hmj
    simp only [List.length_map] at this ⊢
    omega
  have hlJ := fun u hu h => lex_said (s := JB) (by rw [← hJB]; exact hlj) u hu h
  rw [hJB, hC] at hjn
  have hd1 : decide ((JB.size : Int) ≤ 16384) = true := by simp; omega
  have hjn' := hjn w hg h16 hv hn hf
  have HV0 := Lib.hid hv
  obtain ⟨va, vn, vc, rfl⟩ := hv.slice
  have HJ := Lib.hid hjn'
  have HLJ := Lib.hid hlJ
  have HMJ := Lib.hid hmj
  have he0 : e ≠ 0 := by have := (lexed_err hL).2.2; omega
  have hne2 : ((e : Int) != 0) = true := by simpa using he0
  have hlx := fun u hu h => lex_any s u hu h
  rw [hL] at hlx
  simp only [Res.toks, Res.place, Res.code, List.length_nil] at hlx
  have HX := Lib.hid hlx
  have HG := Lib.hid hg
  clear hjn hjn' hJB hC hJ hsz hf hn hlJ hlj hmj hv hlx hL hg he0
  go_enter Tryd.func4, Tryd.ntmps4
  go_wp2_with fail
  refine HJ.out.mono ?_
  rintro _ wj ⟨rfl, hbj⟩
  have HBJ := Lib.hid hbj
  clear hbj
  go_wp2_with fail
  refine (HLJ.out wj (HG.out.below HBJ.out (by omega)).glob (by have := HBJ.out.size; omega)).mono ?_
  rintro _ wl ⟨vl, rfl, hvl, hbl⟩
  have HBL := Lib.hid (HBJ.out.trans (hbl.mono HBJ.out.size))
  have HVL := Lib.hid hvl
  obtain ⟨la, ln, lc, rfl⟩ := hvl.slice
  clear hvl hbl
  go_wp2_with fail
  refine (place_row _ _ wl HVL.out hcnt').mono ?_
  rintro _ wp ⟨vp, rfl, hvp, hbp⟩
  have HBP := Lib.hid (HBL.out.trans (hbp.mono HBL.out.size))
  have HVP := Lib.hid hvp
  obtain ⟨pa, pn, pc, rfl⟩ := hvp.slice
  clear hvp hbp
  go_wp2_with fail
  refine (place_row gs _ wp (HV0.out.below HBP.out) hcnt).mono ?_
  rintro _ wq ⟨vq, rfl, hvq, hbq⟩
  have HBQ := Lib.hid (HBP.out.trans (hbq.mono HBP.out.size))
  have hvp := HVP.out.below hbq
  rw [HMJ.out] at hvp
  have HVP2 := Lib.hid hvp
  have HVQ := Lib.hid hvq
  obtain ⟨qa, qn, qc, rfl⟩ := hvq.slice
  clear hvq hbq hvp
  go_wp2_with fail
  refine (same_14 _ _ _ wq HVP2.out HVQ.out (by rw [List.length_map]; omega)).mono ?_
  rintro _ w1 ⟨rfl, q, hq⟩
  have HB : Hid (Below w.heap.size w w1) := Lib.hid (by rw [hq]; exact Go.Pen.below_drewN HBQ.out)
  clear hq
  go_wp2_with fail
  refine (HX.out w1 (HG.out.below HB.out (by omega)).glob (by have := HB.out.size; omega)).mono ?_
  rintro _ w2 ⟨vm, rfl, hom, hb2⟩
  obtain ⟨ma, mc, rfl⟩ := ownsRow_slice hom
  have HB2 := Lib.hid (HB.out.trans (hb2.mono HB.out.size))
  clear hom hb2
  go_wp2_with fail
  refine (known_13 w2 (HG.out.below HB2.out (by omega)).glob (by have := HB2.out.size; omega)).mono ?_
  rintro _ w3 ⟨rfl, hb3⟩
  have HB3 := Lib.hid (HB2.out.trans (hb3.mono HB2.out.size))
  clear hb3
  go_wp2_with fail
  go_ret
  exact ⟨rfl, HB3.out⟩

set_option maxRecDepth 100000 in
set_option maxHeartbeats 4000000 in
theorem back_CF (s : ByteArray) (gs : List GTok) (v : Value) {ts : List Tok} (w : World) (hg : Glob2 w) (h16 : 10 ≤ w.heap.size) (hv : TokRow w v gs) (hn : gs.length ≤ 4398046511104) (hf : ∀ g ∈ gs, g.fits) (hC : (joinR fW gs).2 = 0) (hJ : (joinR fW gs).1.length ≤ 16384) (hL : lexed s.data.toList = .ok ts) (hU : ¬ (joinR fW (ts.map Tok.g)).1.length ≤ 16384) :
    Calls Tryd.prog 4 #[.string s, v] w fun e w' => e = .returned (.bool true) ∧ Below w.heap.size w w' := by
  have hjn := fun u hu h => join_any gs v u hu h
  obtain ⟨JB, hJB⟩ : ∃ JB : ByteArray, ⟨(joinR fW gs).1.toArray⟩ = JB := ⟨_, rfl⟩
  have hsz : JB.size = (joinR fW gs).1.length := by rw [← hJB]; simp [ByteArray.size]
  obtain ⟨tj, hlj, hmj⟩ := join_back hf hC hJ
  have hcnt := joinR_count hC
  have hcnt' : (tj.map Tok.g).length ≤ 4000 := by
    have := congrArg List.length hmj
    simp only [List.length_map] at this ⊢
    omega
  have hlJ := fun u hu h => lex_said (s := JB) (by rw [← hJB]; exact hlj) u hu h
  rw [hJB, hC] at hjn
  have hd1 : decide ((JB.size : Int) ≤ 16384) = true := by simp; omega
  have hjn' := hjn w hg h16 hv hn hf
  have HV0 := Lib.hid hv
  obtain ⟨va, vn, vc, rfl⟩ := hv.slice
  have HJ := Lib.hid hjn'
  have HLJ := Lib.hid hlJ
  have HMJ := Lib.hid hmj
  have hlx := fun u hu h => lex_said hL u hu h
  obtain ⟨hc4, hfs, -⟩ := lexed_writes hL
  have hju := fun x u hu h hv => join_any (ts.map Tok.g) x u hu h hv (by rw [List.length_map]; omega) hfs
  obtain ⟨UB, hUB⟩ : ∃ UB : ByteArray, ⟨(joinR fW (ts.map Tok.g)).1.toArray⟩ = UB := ⟨_, rfl⟩
  have husz : UB.size = (joinR fW (ts.map Tok.g)).1.length := by rw [← hUB]; simp [ByteArray.size]
  rw [hUB, lex_join hL] at hju
  have hd2 : decide ((16384 : Int) < (UB.size : Int)) = true := by simp; omega
  have HX := Lib.hid hlx
  have HJU := Lib.hid hju
  have HG := Lib.hid hg
  clear hjn hjn' hJB hC hJ hsz hf hn hlJ hlj hmj hv hlx hL hU hju hUB husz hfs hc4 hg
  go_enter Tryd.func4, Tryd.ntmps4
  go_wp2_with fail
  refine HJ.out.mono ?_
  rintro _ wj ⟨rfl, hbj⟩
  have HBJ := Lib.hid hbj
  clear hbj
  go_wp2_with fail
  refine (HLJ.out wj (HG.out.below HBJ.out (by omega)).glob (by have := HBJ.out.size; omega)).mono ?_
  rintro _ wl ⟨vl, rfl, hvl, hbl⟩
  have HBL := Lib.hid (HBJ.out.trans (hbl.mono HBJ.out.size))
  have HVL := Lib.hid hvl
  obtain ⟨la, ln, lc, rfl⟩ := hvl.slice
  clear hvl hbl
  go_wp2_with fail
  refine (place_row _ _ wl HVL.out hcnt').mono ?_
  rintro _ wp ⟨vp, rfl, hvp, hbp⟩
  have HBP := Lib.hid (HBL.out.trans (hbp.mono HBL.out.size))
  have HVP := Lib.hid hvp
  obtain ⟨pa, pn, pc, rfl⟩ := hvp.slice
  clear hvp hbp
  go_wp2_with fail
  refine (place_row gs _ wp (HV0.out.below HBP.out) hcnt).mono ?_
  rintro _ wq ⟨vq, rfl, hvq, hbq⟩
  have HBQ := Lib.hid (HBP.out.trans (hbq.mono HBP.out.size))
  have hvp := HVP.out.below hbq
  rw [HMJ.out] at hvp
  have HVP2 := Lib.hid hvp
  have HVQ := Lib.hid hvq
  obtain ⟨qa, qn, qc, rfl⟩ := hvq.slice
  clear hvq hbq hvp
  go_wp2_with fail
  refine (same_14 _ _ _ wq HVP2.out HVQ.out (by rw [List.length_map]; omega)).mono ?_
  rintro _ w1 ⟨rfl, q, hq⟩
  have HB : Hid (Below w.heap.size w w1) := Lib.hid (by rw [hq]; exact Go.Pen.below_drewN HBQ.out)
  clear hq
  go_wp2_with fail
  refine (HX.out w1 (HG.out.below HB.out (by omega)).glob (by have := HB.out.size; omega)).mono ?_
  rintro _ w2 ⟨vm, rfl, hvm, hb2⟩
  have HVM := Lib.hid hvm
  obtain ⟨ma, mn, mc, rfl⟩ := hvm.slice
  have HB2 := Lib.hid (HB.out.trans (hb2.mono HB.out.size))
  clear hvm hb2
  go_wp2_with fail
  refine (HJU.out _ w2 (HG.out.below HB2.out (by omega)) (by have := HB2.out.size; omega) HVM.out).mono ?_
  rintro _ w3 ⟨rfl, hb3⟩
  have HB3 := Lib.hid (HB2.out.trans (hb3.mono HB2.out.size))
  clear hb3
  go_wp2_with fail
  refine (known_13 w3 (HG.out.below HB3.out (by omega)).glob (by have := HB3.out.size; omega)).mono ?_
  rintro _ w4 ⟨rfl, hb4⟩
  have HB4 := Lib.hid (HB3.out.trans (hb4.mono HB3.out.size))
  clear hb4
  go_wp2_with fail
  go_ret
  exact ⟨rfl, HB4.out⟩

set_option maxRecDepth 100000 in
set_option maxHeartbeats 4000000 in
theorem back_CG (s : ByteArray) (gs : List GTok) (v : Value) {ts : List Tok} (w : World) (hg : Glob2 w) (h16 : 10 ≤ w.heap.size) (hv : TokRow w v gs) (hn : gs.length ≤ 4398046511104) (hf : ∀ g ∈ gs, g.fits) (hC : (joinR fW gs).2 = 0) (hJ : (joinR fW gs).1.length ≤ 16384) (hL : lexed s.data.toList = .ok ts) (hU : (joinR fW (ts.map Tok.g)).1.length ≤ 16384) :
    Calls Tryd.prog 4 #[.string s, v] w fun e w' => e = .returned (.bool true) ∧ Below w.heap.size w w' := by
  have hjn := fun u hu h => join_any gs v u hu h
  obtain ⟨JB, hJB⟩ : ∃ JB : ByteArray, ⟨(joinR fW gs).1.toArray⟩ = JB := ⟨_, rfl⟩
  have hsz : JB.size = (joinR fW gs).1.length := by rw [← hJB]; simp [ByteArray.size]
  obtain ⟨tj, hlj, hmj⟩ := join_back hf hC hJ
  have hcnt := joinR_count hC
  have hcnt' : (tj.map Tok.g).length ≤ 4000 := by
    have := congrArg List.length hmj
    simp only [List.length_map] at this ⊢
    omega
  have hlJ := fun u hu h => lex_said (s := JB) (by rw [← hJB]; exact hlj) u hu h
  rw [hJB, hC] at hjn
  have hd1 : decide ((JB.size : Int) ≤ 16384) = true := by simp; omega
  have hjn' := hjn w hg h16 hv hn hf
  have HV0 := Lib.hid hv
  obtain ⟨va, vn, vc, rfl⟩ := hv.slice
  have HJ := Lib.hid hjn'
  have HLJ := Lib.hid hlJ
  have HMJ := Lib.hid hmj
  have hlx := fun u hu h => lex_said hL u hu h
  obtain ⟨hc4, hfs, -⟩ := lexed_writes hL
  have hju := fun x u hu h hv => join_any (ts.map Tok.g) x u hu h hv (by rw [List.length_map]; omega) hfs
  obtain ⟨UB, hUB⟩ : ∃ UB : ByteArray, ⟨(joinR fW (ts.map Tok.g)).1.toArray⟩ = UB := ⟨_, rfl⟩
  have husz : UB.size = (joinR fW (ts.map Tok.g)).1.length := by rw [← hUB]; simp [ByteArray.size]
  obtain ⟨tu, hlu, hmu⟩ := join_back hfs (lex_join hL) hU
  have hlU := fun u hu h => lex_said (s := UB) (by rw [← hUB]; exact hlu) u hu h
  rw [hUB, lex_join hL] at hju
  have hgl : (ts.map Tok.g).length ≤ 4000 := by rw [List.length_map]; exact hc4
  have hul : (tu.map Tok.g).length ≤ 4000 := by
    have := congrArg List.length hmu
    simp only [List.length_map] at this ⊢
    omega
  have hd2 : decide ((16384 : Int) < (UB.size : Int)) = false := by simp; omega
  have HX := Lib.hid hlx
  have HJU := Lib.hid hju
  have HLU := Lib.hid hlU
  have HMU := Lib.hid hmu
  have HG := Lib.hid hg
  clear hjn hjn' hJB hC hJ hsz hf hn hlJ hlj hmj hv hlx hL hU hju hUB husz hfs hc4 hlU hlu hmu hg
  go_enter Tryd.func4, Tryd.ntmps4
  go_wp2_with fail
  refine HJ.out.mono ?_
  rintro _ wj ⟨rfl, hbj⟩
  have HBJ := Lib.hid hbj
  clear hbj
  go_wp2_with fail
  refine (HLJ.out wj (HG.out.below HBJ.out (by omega)).glob (by have := HBJ.out.size; omega)).mono ?_
  rintro _ wl ⟨vl, rfl, hvl, hbl⟩
  have HBL := Lib.hid (HBJ.out.trans (hbl.mono HBJ.out.size))
  have HVL := Lib.hid hvl
  obtain ⟨la, ln, lc, rfl⟩ := hvl.slice
  clear hvl hbl
  go_wp2_with fail
  refine (place_row _ _ wl HVL.out hcnt').mono ?_
  rintro _ wp ⟨vp, rfl, hvp, hbp⟩
  have HBP := Lib.hid (HBL.out.trans (hbp.mono HBL.out.size))
  have HVP := Lib.hid hvp
  obtain ⟨pa, pn, pc, rfl⟩ := hvp.slice
  clear hvp hbp
  go_wp2_with fail
  refine (place_row gs _ wp (HV0.out.below HBP.out) hcnt).mono ?_
  rintro _ wq ⟨vq, rfl, hvq, hbq⟩
  have HBQ := Lib.hid (HBP.out.trans (hbq.mono HBP.out.size))
  have hvp := HVP.out.below hbq
  rw [HMJ.out] at hvp
  have HVP2 := Lib.hid hvp
  have HVQ := Lib.hid hvq
  obtain ⟨qa, qn, qc, rfl⟩ := hvq.slice
  clear hvq hbq hvp
  go_wp2_with fail
  refine (same_14 _ _ _ wq HVP2.out HVQ.out (by rw [List.length_map]; omega)).mono ?_
  rintro _ w1 ⟨rfl, q, hq⟩
  have HB : Hid (Below w.heap.size w w1) := Lib.hid (by rw [hq]; exact Go.Pen.below_drewN HBQ.out)
  clear hq
  go_wp2_with fail
  refine (HX.out w1 (HG.out.below HB.out (by omega)).glob (by have := HB.out.size; omega)).mono ?_
  rintro _ w2 ⟨vm, rfl, hvm, hb2⟩
  have HVM := Lib.hid hvm
  obtain ⟨ma, mn, mc, rfl⟩ := hvm.slice
  have HB2 := Lib.hid (HB.out.trans (hb2.mono HB.out.size))
  clear hvm hb2
  go_wp2_with fail
  refine (HJU.out _ w2 (HG.out.below HB2.out (by omega)) (by have := HB2.out.size; omega) HVM.out).mono ?_
  rintro _ w3 ⟨rfl, hb3⟩
  have HB3 := Lib.hid (HB2.out.trans (hb3.mono HB2.out.size))
  have HVM3 := Lib.hid (HVM.out.below hb3)
  clear hb3
  go_wp2_with fail
  refine (HLU.out w3 (HG.out.below HB3.out (by omega)).glob (by have := HB3.out.size; omega)).mono ?_
  rintro _ w4 ⟨vn', rfl, hvn, hb4⟩
  have HB4 := Lib.hid (HB3.out.trans (hb4.mono HB3.out.size))
  have HVM4 := Lib.hid (HVM3.out.below hb4)
  have HVN := Lib.hid hvn
  obtain ⟨na, nn, nc, rfl⟩ := hvn.slice
  clear hb4 hvn
  go_wp2_with fail
  refine (known_13 w4 (HG.out.below HB4.out (by omega)).glob (by have := HB4.out.size; omega)).mono ?_
  rintro _ w5 ⟨rfl, hb5⟩
  have HB5 := Lib.hid (HB4.out.trans (hb5.mono HB4.out.size))
  have HVM5 := Lib.hid (HVM4.out.below hb5)
  have HVN5 := Lib.hid (HVN.out.below hb5)
  clear hb5
  go_wp2_with fail
  refine (place_row _ _ w5 HVN5.out hul).mono ?_
  rintro _ w6 ⟨vx, rfl, hvx, hb6⟩
  have HB6 := Lib.hid (HB5.out.trans (hb6.mono HB5.out.size))
  have HVM6 := Lib.hid (HVM5.out.below hb6)
  have HVX := Lib.hid hvx
  obtain ⟨xa, xn, xc, rfl⟩ := hvx.slice
  clear hvx hb6
  go_wp2_with fail
  refine (place_row _ _ w6 HVM6.out hgl).mono ?_
  rintro _ w7 ⟨vy, rfl, hvy, hb7⟩
  have HB7 := Lib.hid (HB6.out.trans (hb7.mono HB6.out.size))
  have hvx := HVX.out.below hb7
  rw [HMU.out] at hvx
  have HVX7 := Lib.hid hvx
  have HVY := Lib.hid hvy
  obtain ⟨ya, yn, yc, rfl⟩ := hvy.slice
  clear hvy hb7 hvx
  go_wp2_with fail
  refine (same_14 _ _ _ w7 HVX7.out HVY.out (by rw [List.length_map]; omega)).mono ?_
  rintro _ w8 ⟨rfl, q8, hq8⟩
  have HB8 : Hid (Below w.heap.size w w8) := Lib.hid (by rw [hq8]; exact Go.Pen.below_drewN HB7.out)
  clear hq8
  go_wp2_with fail
  go_ret
  exact ⟨rfl, HB8.out⟩

/-- LexBack is true -/
theorem back_4 (s : ByteArray) (gs : List GTok) (v : Value) (w : World) (hg : Glob2 w) (h16 : 10 ≤ w.heap.size) (hv : TokRow w v gs) (hn : gs.length ≤ 4398046511104) (hf : ∀ g ∈ gs, g.fits) :
    Calls Tryd.prog 4 #[.string s, v] w fun e w' => e = .returned (.bool true) ∧ Below w.heap.size w w' := by
  cases hL : lexed s.data.toList with
  | err a e =>
    by_cases hC : (joinR fW gs).2 = 0
    · by_cases hJ : (joinR fW gs).1.length ≤ 16384
      · exact back_CE s gs v w hg h16 hv hn hf hC hJ hL
      · exact back_BE s gs v w hg h16 hv hn hf hC hJ hL
    · exact back_AE s gs v w hg h16 hv hn hf hC hL
  | ok ts =>
    by_cases hU : (joinR fW (ts.map Tok.g)).1.length ≤ 16384
    · by_cases hC : (joinR fW gs).2 = 0
      · by_cases hJ : (joinR fW gs).1.length ≤ 16384
        · exact back_CG s gs v w hg h16 hv hn hf hC hJ hL hU
        · exact back_BG s gs v w hg h16 hv hn hf hC hJ hL hU
      · exact back_AG s gs v w hg h16 hv hn hf hC hL hU
    · by_cases hC : (joinR fW gs).2 = 0
      · by_cases hJ : (joinR fW gs).1.length ≤ 16384
        · exact back_CF s gs v w hg h16 hv hn hf hC hJ hL hU
        · exact back_BF s gs v w hg h16 hv hn hf hC hJ hL hU
      · exact back_AF s gs v w hg h16 hv hn hf hC hL hU
end Go.Proofs.YtpjfkfbijimliaaDoor
