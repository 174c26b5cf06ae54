import Derived.Test.YtpjfkfbijimliaaGreatDoorR
import Derived.Laws.RangeAny
namespace Go.Proofs.YtpjfkfbijimliaaGreatDoor
open Go.RowKit Go.Pen

/-- a byte of a word as a token has it -/
def wch (c : UInt8) : Bool := dig c || c.toNat == 95 || (97 ≤ c.toNat && c.toNat ≤ 122)
def wordB (l : Bytes) : Bool := !l.isEmpty && decide (l.length ≤ 32) && !dig (l.headD 0) && l.all wch

theorem wch_iff (c : UInt8) : wch c = (!(65 ≤ c.toNat && c.toNat ≤ 90) && (let_ c || dig c)) := by
  rw [Bool.eq_iff_iff]
  simp [wch, let_, dig]
  omega

theorem all_take_succ {l : Bytes} {p : Nat} {c : UInt8} (h : (l.take p).all wch = true) (hc : l.drop p = c :: l.drop (p + 1)) (hw : wch c = true) : (l.take (p + 1)).all wch = true := by
  have hp : p < l.length := by
    rcases Nat.lt_or_ge p l.length with h' | h'
    · exact h'
    · rw [List.drop_of_length_le h'] at hc; cases hc
  have hg : l[p] = c := by
    rw [List.drop_eq_getElem_cons hp] at hc
    exact (List.cons.inj hc).1
  rw [List.take_succ_eq_append_getElem hp, List.all_append, h, hg]
  simp [hw]

theorem all_bad {l : Bytes} {p : Nat} {c : UInt8} {cs : Bytes} (hc : l.drop p = c :: cs) (hw : wch c = false) : l.all wch = false := by
  rw [← List.take_append_drop p l, List.all_append, hc, List.all_cons, hw]
  simp

def WdRel (t : ByteArray) (w wr : World) : Prop := ∃ p, p ≤ t.size ∧ wr = w.iter t p ∧ (t.data.toList.take p).all wch = true

set_option maxRecDepth 100000 in
set_option maxHeartbeats 2000000 in
theorem word_18_loop (t : ByteArray) (w : World) (h0 : t.toList.isEmpty = false) (h32 : t.size ≤ 32) (c0 : UInt8) (hz : 0 < t.size) (hc0 : t[0] = c0) (hd0 : dig c0 = false) :
    Calls Tryz.prog 18 #[.string t] w fun e w' => e = .returned (.bool (t.data.toList.all wch)) ∧ Below w.heap.size w w' := by
  obtain ⟨A, hA⟩ : ∃ A, t.data.toList.all wch = A := ⟨_, rfl⟩
  rw [hA]
  have HA := Lib.hid hA
  clear hA
  have hd : decide ((32 : Int) < (t.size : Int)) = false := by simp; omega
  have hi0 : (0 : Int) < (t.size : Int) := by omega
  go_enter Tryz.func18, Tryz.ntmps18
  go_wp2_with fail
  refine (digit_33 c0 _).mono ?_
  rintro _ wx ⟨rfl, hwx⟩
  rw [hwx, hd0]
  clear hwx
  go_wp2_with fail
  go_loopw [] (fun wr => WdRel t w wr) (fun wr => t.size - wr.iterPos w.heap.size)
  case atStart => exact ⟨0, Nat.zero_le _, rfl, rfl⟩
  case round =>
    obtain ⟨p, hp, rfl, hall⟩ := hrel
    have HL := Lib.hid hall
    clear hall hc0 hd hi0
    have hbe : ∀ q, Below w.heap.size w (w.iter t q) := fun q => (Below.refl _ _).alloc (Nat.le_refl _) _
    have HBE := Lib.hid hbe
    clear hbe
    by_cases hlt : p < t.size
    · obtain ⟨c, cs, hcs, hcs'⟩ := drop_cons hlt
      have hget := get_of_drop hcs hlt
      have HC := Lib.hid hcs
      have HD := Lib.hid hcs'
      clear hcs hcs'
      by_cases hhi : 128 ≤ c.toNat
      · have hnx := fun ty => run_next_any (P := Tryz.prog) w t p ty hlt
        have hdc := (decode_high t p hlt (by rw [hget]; exact hhi)).1
        generalize (Utf8.decode t p).1 = r at hnx hdc
        generalize (Utf8.decode t p).2 = q at hnx
        have hbad : wch c = false := by
          cases h : wch c
          · rfl
          · simp [wch, dig] at h; omega
        have hd : decide ((127 : Int) < (r : Int)) = true := by simp; omega
        have hF := all_bad HC.out hbad
        rw [HA.out] at hF
        subst hF
        clear hget hbad hhi
        go_wp2_with fail
        go_ret
        exact ⟨rfl, HBE.out _⟩
      · have hnx := fun ty => run_next_ascii (P := Tryz.prog) w t p ty hlt (by rw [hget]; omega)
        rw [hget] at hnx
        have hd : decide ((127 : Int) < (c.toNat : Int)) = false := by simp; omega
        clear hget
        by_cases hup : 65 ≤ c.toNat ∧ c.toNat ≤ 90
        · have hd1 : decide ((65 : Int) ≤ (c.toNat : Int)) = true := by simp; omega
          have hd2 : decide ((c.toNat : Int) ≤ 90) = true := by simp; omega
          have hbad : wch c = false := by rw [wch_iff]; simp [hup.1, hup.2]
          have hF := all_bad HC.out hbad
          rw [HA.out] at hF
          subst hF
          clear hbad hup hhi
          go_wp2_with fail
          go_ret
          exact ⟨rfl, HBE.out _⟩
        · have hwi : wch c = (let_ c || dig c) := by
            rw [wch_iff]
            have : (decide (65 ≤ c.toNat) && decide (c.toNat ≤ 90)) = false := by
              rw [Bool.eq_false_iff]; simp; omega
            rw [this]; rfl
          have hwr : IntKind.u8.wrap (c.toNat : Int) = (c.toNat : Int) := IntWalk.u8_in _ (by omega)
          have HWI := Lib.hid hwi
          have hdd : decide ((65 : Int) ≤ (c.toNat : Int)) = false ∨ (decide ((65 : Int) ≤ (c.toNat : Int)) = true ∧ decide ((c.toNat : Int) ≤ 90) = false) := by simp; omega
          clear hwi hup hhi
          rcases hdd with hd1 | ⟨hd1, hd2⟩ <;> (
            go_wp2_with fail
            refine (letter_34 c _).mono ?_
            rintro _ wx ⟨rfl, hwx⟩
            rw [hwx]
            clear hwx
            cases hl : let_ c
            · go_wp2_with fail
              refine (digit_33 c _).mono ?_
              rintro _ wx ⟨rfl, hwx⟩
              rw [hwx]
              clear hwx
              cases hg : dig c
              · have hF := all_bad HC.out (by rw [HWI.out, hl, hg]; rfl)
                rw [HA.out] at hF
                subst hF
                go_wp2_with fail
                go_ret
                exact ⟨rfl, HBE.out _⟩
              · have HS := Lib.hid (all_take_succ HL.out (by rw [HC.out, HD.out]) (by rw [HWI.out, hl, hg]; rfl))
                go_wp2_with fail
                exact ⟨⟨p + 1, hlt, rfl, HS.out⟩, by rw [World.iterPos_iter, World.iterPos_iter]; omega⟩
            · have HS := Lib.hid (all_take_succ HL.out (by rw [HC.out, HD.out]) (by rw [HWI.out, hl]; rfl))
              go_wp2_with fail
              exact ⟨⟨p + 1, hlt, rfl, HS.out⟩, by rw [World.iterPos_iter, World.iterPos_iter]; omega⟩)
    · have hnx := fun ty => run_next_end (P := Tryz.prog) w t p ty hlt
      have hta : t.data.toList.take p = t.data.toList := List.take_of_length_le (by rw [len_list]; omega)
      have hF := HL.out
      rw [hta, HA.out] at hF
      subst hF
      clear hta
      go_wp2_with fail
      go_ret
      exact ⟨rfl, HBE.out _⟩

set_option maxRecDepth 100000 in
set_option maxHeartbeats 2000000 in
theorem word_18 (t : ByteArray) (w : World) :
    Calls Tryz.prog 18 #[.string t] w fun e w' => e = .returned (.bool (wordB t.data.toList)) ∧ Below w.heap.size w w' := by
  have htl : t.toList = t.data.toList := ByteArray.toList_eq ..
  by_cases hz : 0 < t.size
  · obtain ⟨c, cs, hcs, -⟩ := drop_cons hz
    have hget := get_of_drop hcs hz
    rw [List.drop_zero] at hcs
    have hemp : t.toList.isEmpty = false := by rw [htl, hcs]; rfl
    have hlen : t.data.toList.length = t.size := len_list t
    by_cases h32 : t.size ≤ 32
    · cases hdg : dig c
      · have := word_18_loop t w hemp h32 c hz hget hdg
        have he : wordB t.data.toList = t.data.toList.all wch := by
          rw [wordB, hlen, hcs]
          simp [h32, hdg]
        rw [he]
        exact this
      · have he : wordB t.data.toList = false := by rw [wordB, hcs]; simp [hdg]
        rw [he]
        have hd : decide ((32 : Int) < (t.size : Int)) = false := by simp; omega
        have hi0 : (0 : Int) < (t.size : Int) := by omega
        clear hcs hlen htl he
        go_enter Tryz.func18, Tryz.ntmps18
        go_wp2_with fail
        refine (digit_33 c _).mono ?_
        rintro _ wx ⟨rfl, hwx⟩
        rw [hwx, hdg]
        clear hwx
        go_wp2_with fail
        go_ret
        exact ⟨rfl, Below.refl _ _⟩
    · have he : wordB t.data.toList = false := by rw [wordB, hlen]; simp [h32]
      rw [he]
      have hd : decide ((32 : Int) < (t.size : Int)) = true := by simp; omega
      clear hcs hlen htl he hget
      go_enter Tryz.func18, Tryz.ntmps18
      go_wp2_with fail
      go_ret
      exact ⟨rfl, Below.refl _ _⟩
  · have hnil : t.data.toList = [] := List.eq_nil_of_length_eq_zero (by rw [len_list]; omega)
    have he : wordB t.data.toList = false := by rw [hnil]; rfl
    rw [he]
    have hemp : t.toList = [] := by rw [htl]; exact hnil
    clear hnil he htl
    go_enter Tryz.func18, Tryz.ntmps18
    go_wp2_with fail
    go_ret
    exact ⟨rfl, Below.refl _ _⟩
end Go.Proofs.YtpjfkfbijimliaaGreatDoor
