/- LexJoins' walk (3). -/
import Derived.Test.YtpjfkfbijimliaaGreatDoorCf
namespace Go.Proofs.YtpjfkfbijimliaaGreatDoor
open Go.RowKit Go.Pen

theorem Lent.below {H : Nat} {w w' : World} {v : Value} {gs : List GTok} (h : Lent H w v gs) (hb : Below w.heap.size w w') : Lent H w' v gs := by
  obtain ⟨g, cap, rfl, ho⟩ := h
  exact ⟨g, cap, rfl, Below.ownsRow' hb ho⟩

theorem joinR_le (gs : List GTok) : (joinR fW gs).2 ≤ 163 := by
  unfold joinR
  split
  · split
    · exact Nat.le_refl _
    · exact Nat.zero_le _
  · exact (by decide : 1 ≤ 163)

theorem TokRow.slice {w : World} {v : Value} {gs : List GTok} (h : TokRow w v gs) : ∃ a n c, v = .slice a n c := by
  obtain ⟨a, c, h, -⟩ := h
  exact ⟨a, _, c, h⟩

set_option maxRecDepth 100000 in
set_option maxHeartbeats 4000000 in
theorem joins_3 (gs : List GTok) (v : Value) (w : World) (hg : Glob2 w) (h10 : 10 ≤ w.heap.size) (hv : TokRow w v gs) (hnil : ∀ c, v = .slice none 0 c → c = 0) (hn : gs.length * 40 ≤ 140737488351232) (hf : ∀ g ∈ gs, g.fits) :
    Calls Tryz.prog 3 #[v] w fun e w' => e = .returned (.bool true) ∧ Below w.heap.size w w' := by
  have hlen := lent_4 gs v w hv hnil hn
  have hjn := fun x u hu h hx => join_any gs x u hu h hx (by omega) hf
  have hrj := fun u hu => refjoin_6 gs v u hu (by omega) hf
  have hwh := fun x H u hl hr => whole_8 gs x v H u hl hr hn
  have hc := joinR_le gs
  obtain ⟨JB, hJB⟩ : ∃ JB : ByteArray, ⟨(joinR fW gs).1.toArray⟩ = JB := ⟨_, rfl⟩
  obtain ⟨C, hC⟩ : ∃ C, (joinR fW gs).2 = C := ⟨_, rfl⟩
  rw [hJB, hC] at hrj
  rw [hC] at hc
  have hjn2 : ∀ x u, Glob2 u → 10 ≤ u.heap.size → TokRow u x gs → Calls Tryz.prog 5 #[x] u fun e w' => e = .returned (.tuple #[.string JB, .int .u16 C]) ∧ Below u.heap.size u w' := fun x u hu h hx => by
    have := hjn x u hu h hx
    rwa [hJB, hC] at this
  have hwC : IntKind.i64.wrap (C : Int) = (C : Int) := by rw [IntKind.wrap_i64]; omega
  have HV := Lib.hid hv
  have HL := Lib.hid hlen
  have HJ := Lib.hid hjn2
  have HRJ := Lib.hid hrj
  have HWH := Lib.hid hwh
  have HG := Lib.hid hg
  obtain ⟨va, vn, vc, rfl⟩ := hv.slice
  clear hlen hjn hrj hwh hJB hC hjn2 hg hv hnil hf hc
  go_enter Tryz.func3, Tryz.ntmps3
  go_wp2_with fail
  refine HL.out.mono ?_
  rintro _ w1 ⟨vx, rfl, hlx, hb1⟩
  have HB1 := Lib.hid hb1
  have HX1 := Lib.hid hlx
  obtain ⟨xa, xn, xc, rfl⟩ := (lent_row hlx).slice
  clear hb1 hlx
  go_wp2_with fail
  refine (HJ.out _ w1 (HG.out.below HB1.out h10) (by have := HB1.out.size; omega) (lent_row HX1.out)).mono ?_
  rintro _ w2 ⟨rfl, hb2⟩
  have HB2 := Lib.hid (HB1.out.trans (hb2.mono HB1.out.size))
  have HX2 := Lib.hid (HX1.out.below hb2)
  clear hb2
  go_wp2_with fail
  refine (HRJ.out w2 (HV.out.below HB2.out)).mono ?_
  rintro _ w3 ⟨rfl, hb3⟩
  have HB3 := Lib.hid (HB2.out.trans (hb3.mono HB2.out.size))
  have HX3 := Lib.hid (HX2.out.below hb3)
  clear hb3
  go_wp2_with fail
  refine (known_13 w3 (HG.out.below HB3.out h10).glob (by have := HB3.out.size; omega)).mono ?_
  rintro _ w4 ⟨rfl, hb4⟩
  have HB4 := Lib.hid (HB3.out.trans (hb4.mono HB3.out.size))
  have HX4 := Lib.hid (HX3.out.below hb4)
  clear hb4
  go_wp2_with fail
  refine (HWH.out _ _ w4 HX4.out (HV.out.below HB4.out)).mono ?_
  rintro _ w5 ⟨rfl, hb5⟩
  have HB5 := Lib.hid (HB4.out.trans (hb5.mono HB4.out.size))
  clear hb5
  go_wp2_with fail
  go_ret
  exact ⟨rfl, HB5.out⟩
end Go.Proofs.YtpjfkfbijimliaaGreatDoor
