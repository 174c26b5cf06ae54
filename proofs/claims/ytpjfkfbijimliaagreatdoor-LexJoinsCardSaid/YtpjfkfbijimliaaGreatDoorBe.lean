/- lex.Join 15 of no tokens; of any row. -/
import Derived.Test.YtpjfkfbijimliaaGreatDoorBd
import Derived.Test.YtpjfkfbijimliaaGreatDoorZc
import Derived.Lib.ItoaLen
namespace Go.Proofs.YtpjfkfbijimliaaGreatDoor
open Go.RowKit Go.Pen

set_option maxRecDepth 100000 in
set_option maxHeartbeats 4000000 in
theorem join2_nil (a : Option Addr) (c : Nat) (w : World) :
    Calls Tryz.prog 5 #[.slice a (0 : Nat) c] w fun e w' => e = .returned (.tuple #[.string ⟨#[]⟩, .int .u16 0]) ∧ Below w.heap.size w w' := by
  obtain ⟨i0, hi, hz0, hz1, hz2⟩ := info_parts info9
  obtain ⟨H, hH⟩ : ∃ H, w.heap.size = H := ⟨_, rfl⟩
  have hmk : ∀ u : World, (Instr.makeSlice 35 (.int .i64 (0 : Int)) (.int .i64 (0 : Int))).run Tryz.prog u =
      .ok (.slice (some ⟨u.heap.size, 0, none⟩) 0 0) (u.alloc (.cells (madeCells #[.string ⟨#[]⟩] 0) 9)) := fun u => by
    have h := run_make (P := Tryz.prog) u 35 9 i0 _ Tryz.underlying35 hi hz0 .i64 .i64 (0 : Int) (0 : Int) (by omega) (Int.le_refl _) (by rw [hz2]; omega) (by omega)
    simpa [hz1, Value.cells] using h
  have HH := Lib.hid hH
  clear hH
  go_enter Tryz.func5, Tryz.ntmps5
  go_wp2_with fail
  rw [HH.out]
  generalize hw1 : World.alloc _ _ = w1
  have hb1 : Below H w w1 := by rw [← hw1]; exact (Below.refl _ _).alloc (by have := HH.out; omega) _
  have hz1 : H < w1.heap.size := by rw [← hw1]; simp; have := HH.out; omega
  have HB := Lib.hid hb1
  clear hw1 hmk hi hz0 hz2 hb1
  go_loopw [13] (fun i wr => i = .int .i64 0 ∧ wr = w1) (fun _ _ => 0)
  case atStart => exact ⟨rfl, rfl⟩
  case round =>
    obtain ⟨rfl, rfl⟩ := hrel
    go_wp2_with fail
    refine (Tryz.strings_Join_none _ _ _ _).mono ?_
    rintro _ w9 ⟨rfl, hw⟩; rw [hw]; clear hw
    go_wp2_with fail
    refine bodyPost_ret (v := .tuple #[.string ⟨#[]⟩, .int .u16 0]) (by simp [results, Tryz.results5, go_sem]) rfl ⟨rfl, ?_⟩
    rw [HH.out]; exact HB.out

/-- what is written of a token is short -/
theorem sgn_fix {l : Bytes} (h : sgn l = l) : l.length ≤ 2 := by
  unfold sgn at h
  cases hf : sgs.find? fun x => x.isPrefixOf l with
  | none => rw [hf] at h; rw [← h]; decide
  | some x =>
    rw [hf] at h
    have hm := List.mem_of_find?_eq_some hf
    have : x = l := h
    subst this
    have hall : ∀ y ∈ sgs, y.length ≤ 2 := by decide
    exact hall _ hm

theorem chk_len {l : Bytes} (h : chkE l = 0) : Lib.validD l = true ∧ l.length ≤ 1000 := by
  rw [chkE] at h
  split at h
  · cases h
  · rename_i hv
    split at h
    · cases h
    · exact ⟨by simpa using hv, by omega⟩

theorem fW_len {g : GTok} (hf : g.fits) (ho : (fW g).2 = true) : (fW g).1.data.toList.length ≤ 4002 := by
  obtain ⟨f1, f2, f3⟩ := hf
  unfold fW at ho ⊢
  split
  · have := Lib.itoa_length_le g.number f1 f2
    show (Lib.itoa g.number).toArray.toList.length ≤ 4002
    simp; omega
  · rename_i k2
    rw [if_neg k2] at ho
    split
    · rename_i k1
      rw [if_pos k1] at ho
      simp only [Bool.and_eq_true, wordB, decide_eq_true_eq] at ho
      have := ho.2.1.1.2
      show g.text.data.toList.length ≤ 4002
      omega
    · rename_i k1
      rw [if_neg k1] at ho
      split
      · rename_i k3
        rw [if_pos k3] at ho
        simp only [Bool.and_eq_true, decide_eq_true_eq] at ho
        have h2 := chk_len ho.2
        have h3 := fx_len g.text.data.toList
        show (prf g.text.data.toList).toArray.toList.length ≤ 4002
        rw [prf, if_pos ho.2, quf]
        simp only [List.length_cons, List.length_append, List.length_nil]
        omega
      · rename_i k3
        rw [if_neg k3] at ho
        split
        · rename_i k4
          rw [if_pos k4] at ho
          simp only [Bool.and_eq_true, decide_eq_true_eq] at ho
          have := sgn_fix ho.2.2
          show g.text.data.toList.length ≤ 4002
          omega
        · rename_i k4
          rw [if_neg k4] at ho
          cases ho

theorem lens_le : ∀ {xs : List Bytes} {b : Nat}, (∀ x ∈ xs, x.length ≤ b) → Lib.lens xs ≤ b * xs.length
  | [], b, _ => by simp [Lib.lens]
  | x :: xs, b, h => by
    have h1 := h x List.mem_cons_self
    have h2 := lens_le (xs := xs) (b := b) fun y hy => h y (List.mem_cons_of_mem _ hy)
    have e : Lib.lens (x :: xs) = x.length + Lib.lens xs := by simp [Lib.lens]
    rw [e, List.length_cons, Nat.mul_succ]; omega

theorem jn_len {gs : List GTok} (hf : ∀ g ∈ gs, g.fits) (ho : gs.all (fun g => (fW g).2) = true) (hn : gs.length ≤ 4000) : (Lib.join (gs.map fun g => (fW g).1.data.toList) [32]).length ≤ 140737488355328 := by
  have hl : Lib.lens (gs.map fun g => (fW g).1.data.toList) ≤ 4002 * gs.length := by
    have := lens_le (xs := gs.map fun g => (fW g).1.data.toList) (b := 4002) fun x hx => by
      obtain ⟨g, hg, rfl⟩ := List.mem_map.1 hx
      exact fW_len (hf g hg) (List.all_eq_true.1 ho g hg)
    rwa [List.length_map] at this
  cases gs with
  | nil => simp [Lib.join_nil]
  | cons g gs =>
    rw [List.map_cons, Lib.join_length]
    rw [List.map_cons] at hl
    simp only [List.length_cons, List.length_map, List.length_nil] at hl hn ⊢
    omega

/-- Join, of any row -/
theorem join_any (gs : List GTok) (v : Value) (w : World) (hg : Glob2 w) (h16 : 10 ≤ w.heap.size) (hv : TokRow w v gs) (hn : gs.length ≤ 4398046511104) (hf : ∀ g ∈ gs, g.fits) :
    Calls Tryz.prog 5 #[v] w fun e w' => e = .returned (.tuple #[.string ⟨(joinR fW gs).1.toArray⟩, .int .u16 (joinR fW gs).2]) ∧ Below w.heap.size w w' := by
  obtain ⟨a, c, rfl, h1⟩ := hv
  cases gs with
  | nil => exact join2_nil a c w
  | cons g gs =>
    obtain ⟨b, o, rfl, hb, ht⟩ := h1 (by simp)
    exact join2_15 fW (g :: gs) b o c w hg h16 (by simp) hb ht hn (fun x hx => wrt_all x (hf x hx)) (fun h1 h2 => jn_len hf h1 h2)
end Go.Proofs.YtpjfkfbijimliaaGreatDoor
