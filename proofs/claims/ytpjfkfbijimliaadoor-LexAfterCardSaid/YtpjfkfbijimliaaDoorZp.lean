/- remark: might a text end within a remark? -/
import Derived.Test.YtpjfkfbijimliaaDoorZm
namespace Go.Proofs.YtpjfkfbijimliaaDoor
open Go.RowKit Go.Pen

/-- from a place on: no end of a line, and nothing that may open a remark -/
def RmOk (l : Bytes) (m : Nat) : Prop := ∀ j : Nat, m ≤ j → l[j]? ≠ some 10 ∧ ¬(l[j]? = some 45 ∧ (j + 1 = l.length ∨ l[j + 1]? = some 45))

theorem rmOk_start (l : Bytes) : RmOk l l.length := fun j hj => by
  rw [List.getElem?_eq_none hj]; exact ⟨fun h => (by cases h), fun h => (by cases h.1)⟩

theorem rmOk_step {l : Bytes} {m : Nat} {c : UInt8} (h : RmOk l (m + 1)) (hc : l[m]? = some c) (h1 : c ≠ 10) (h2 : c = 45 → m + 1 ≠ l.length ∧ l[m + 1]? ≠ some 45) : RmOk l m := fun j hj => by
  rcases Nat.lt_or_ge m j with h' | h'
  · exact h j h'
  · obtain rfl : j = m := by omega
    rw [hc]
    refine ⟨fun e => h1 (Option.some.inj e), fun ⟨e, e'⟩ => ?_⟩
    have := h2 (Option.some.inj e)
    rcases e' with e' | e'
    · exact this.1 e'
    · exact this.2 e'

theorem nr_zero {l : Bytes} (h : RmOk l 0) : NR l := fun i h1 h2 => absurd ⟨h1, h2⟩ (h i (Nat.zero_le _)).2

theorem nr_line {l : Bytes} {m : Nat} (h : RmOk l (m + 1)) (hc : l[m]? = some 10) : NR l := fun i h1 h2 => by
  rcases Nat.lt_or_ge m i with h' | h'
  · exact absurd ⟨h1, h2⟩ (h i h').2
  · exact ⟨m, h', hc⟩

theorem get_of_cons {l : Bytes} {j : Nat} {c : UInt8} {cs : Bytes} (h : l.drop j = c :: cs) : l[j]? = some c := by
  have := congrArg List.head? h
  rwa [List.head?_drop] at this

set_option maxRecDepth 100000 in
set_option maxHeartbeats 4000000 in
theorem remark_17 (s : ByteArray) (w : World) (hs : s.size ≤ 16384) :
    Calls Tryd.prog 17 #[.string s] w fun e w' => ∃ b, e = .returned (.bool b) ∧ (b = false → NR s.data.toList) ∧ w' = w := by
  go_enter Tryd.func17, Tryd.ntmps17
  go_wp2_with fail
  go_loopw [3] (fun i wr => ∃ m : Nat, m ≤ s.size ∧ i = .int .i64 ((m : Int) - 1) ∧ RmOk s.data.toList m ∧ wr = w) (fun i _ => (intOf i + 1).toNat)
  case atStart => exact ⟨s.size, Nat.le_refl _, rfl, by rw [← len_list]; exact rmOk_start _, rfl⟩
  case round =>
    obtain ⟨m, hm, rfl, hr, rfl⟩ := hrel
    have HR := Lib.hid hr
    clear hr
    cases m with
    | zero =>
      have e : (((0 : Nat) : Int) - 1) = -1 := rfl
      rw [e]
      go_wp2_with fail
      go_ret
      exact ⟨false, rfl, fun _ => nr_zero HR.out, rfl⟩
    | succ m =>
      have e : (((m + 1 : Nat) : Int) - 1) = (m : Int) := by omega
      rw [e]
      clear e
      obtain ⟨c, cs, hcs, hcs'⟩ := drop_cons (s := s) (j := m) hm
      have hget := get_of_drop hcs hm
      have hc := get_of_cons hcs
      have HC := Lib.hid hc
      have b1 : (0 : Int) ≤ (m : Int) := by omega
      have b2 : (m : Int) < (s.size : Int) := by omega
      have hd : decide ((0 : Int) ≤ (m : Int)) = true := by simp
      clear hcs hc
      by_cases h10 : c = 10
      · have hn : ((c.toNat : Int) != 10) = false := by rw [h10]; rfl
        go_wp2_with fail
        go_ret
        exact ⟨false, rfl, fun _ => nr_line HR.out (by rw [HC.out, h10]), rfl⟩
      · have hn : ((c.toNat : Int) != 10) = true := by
          have : c.toNat ≠ 10 := fun e => h10 (UInt8.toNat_inj.1 e)
          simp; omega
        by_cases h45 : c = 45
        · have hq : ((c.toNat : Int) == 45) = true := by rw [h45]; rfl
          by_cases hl : m + 1 = s.size
          · have hl' : ((m : Int) == (s.size : Int) - 1) = true := by simp; omega
            go_wp2_with fail
            go_ret
            exact ⟨true, rfl, fun e => (by cases e), rfl⟩
          · have hl' : ((m : Int) == (s.size : Int) - 1) = false := by simp; omega
            obtain ⟨d, ds, hds, -⟩ := drop_cons (s := s) (j := m + 1) (by omega)
            have hget2 := get_of_drop hds (by omega)
            have hdc := get_of_cons hds
            have HD := Lib.hid hdc
            have e1 : ((m : Int) + 1).toNat = m + 1 := by omega
            have b3 : (0 : Int) ≤ (m : Int) + 1 := by omega
            have b4 : (m : Int) + 1 < (s.size : Int) := by omega
            clear hds hdc
            by_cases hd45 : d = 45
            · have hq2 : ((d.toNat : Int) == 45) = true := by rw [hd45]; rfl
              go_wp2_with fail
              go_ret
              exact ⟨true, rfl, fun e => (by cases e), rfl⟩
            · have hq2 : ((d.toNat : Int) == 45) = false := by
                have : d.toNat ≠ 45 := fun e => hd45 (UInt8.toNat_inj.1 e)
                simp; omega
              go_wp2_with fail
              exact ⟨⟨m, by omega, rfl, rmOk_step HR.out HC.out h10 (fun _ => ⟨by rw [len_list]; exact hl, by rw [HD.out]; exact fun e => hd45 (Option.some.inj e)⟩), trivial⟩, by simp [intOf]⟩
        · have hq : ((c.toNat : Int) == 45) = false := by
            have : c.toNat ≠ 45 := fun e => h45 (UInt8.toNat_inj.1 e)
            simp; omega
          go_wp2_with fail
          exact ⟨⟨m, by omega, rfl, rmOk_step HR.out HC.out h10 (fun e => absurd e h45), trivial⟩, by simp [intOf]⟩
end Go.Proofs.YtpjfkfbijimliaaDoor
