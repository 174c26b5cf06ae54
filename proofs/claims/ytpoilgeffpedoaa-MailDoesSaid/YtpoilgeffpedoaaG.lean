import Derived.Test.YtpoilgeffpedoaaF
namespace Go.Proofs.Ytpoilgeffpedoaa
open Go.RowKit Go.Pen
attribute [local go_sem ↓] Go.wp_at_zero Go.wp_at_succ

theorem info81 : (Try.prog.info? 81).map (fun i => (i.zero, i.size, i.bytes)) = some (some (.agg #[.int .i64 0, .int .i64 0]), 2, 16) := by kernel_rfl

/-- the ways that have messages, as pairs, among the first k -/
def readyIdx (lens : Nat → Nat) (k : Nat) : List Nat := (List.range k).filter fun i => decide (0 < lens i)
def pairCells (n : Nat) (l : List Nat) : List Value := l.flatMap fun i => [.int .i64 ((i / n : Nat) : Int), .int .i64 ((i % n : Nat) : Int)]

theorem readyIdx_succ (lens : Nat → Nat) (k : Nat) : readyIdx lens (k + 1) = readyIdx lens k ++ if 0 < lens k then [k] else [] := by
  unfold readyIdx
  rw [List.range_succ, List.filter_append]
  by_cases h : 0 < lens k <;> simp [h]
theorem readyIdx_len (lens : Nat → Nat) (k : Nat) : (readyIdx lens k).length ≤ k := by
  have := List.length_filter_le (fun i => decide (0 < lens i)) (List.range k)
  simpa [readyIdx] using this
theorem pairCells_append (n : Nat) (l : List Nat) (i : Nat) : pairCells n (l ++ [i]) = pairCells n l ++ [.int .i64 ((i / n : Nat) : Int), .int .i64 ((i % n : Nat) : Int)] := by
  simp [pairCells]

/-- what Ready's loop keeps -/
def ReadyRel (n : Nat) (lens : Nat → Nat) (w : World) (k : Nat) (v : Value) (wr : World) : Prop :=
  wr.ownsRow w.heap.size 81 2 v (readyIdx lens k).length (pairCells n (readyIdx lens k)) ∧ Below w.heap.size w wr

/-- the ways' cells as Ready reads them -/
def LensAre (w : World) (L n : Nat) (lens : Nat → Nat) : Prop :=
  ∀ k, k < n * n → ∃ a x c f, w.cell? ⟨L, k * 3, none⟩ = some (.slice a x c) ∧ w.cell? ⟨L, k * 3 + 1, none⟩ = some (.int .i64 f) ∧ w.cell? ⟨L, k * 3 + 2, none⟩ = some (.int .i64 (lens k))

set_option maxRecDepth 100000 in
set_option maxHeartbeats 2000000 in
theorem ready_any (B L n r : Nat) (lens : Nat → Nat) (w : World) (hb : BoxIs w B L n r) (h1 : 1 ≤ n) (hn : n ≤ 8) (hL : L < w.heap.size) (hl : LensAre w L n lens) :
    Calls Try.prog 22 #[.pointer (some ⟨B, 0, none⟩)] w fun e w' => ∃ v, e = .returned v ∧ ReadyRel n lens w (n * n) v w' := by
  obtain ⟨b0, b1, b2⟩ := hb.cells
  have hB : B < w.heap.size := lt_of_heap hb
  have hnn : n * n ≤ 64 := Nat.mul_le_mul hn hn
  obtain ⟨N, eN⟩ : ∃ N, N = n * n := ⟨_, rfl⟩
  rw [← eN] at b2 hnn ⊢
  obtain ⟨i0, hi0, hz0, hz1, hz2⟩ := info_parts info81
  have HL := Lib.hid hl
  have EN := Lib.hid eN
  clear hl eN hb b1
  go_enter Try.func22, Try.ntmps22
  go_wp2
  go_loopw [3, 11] (fun v i wr => ∃ k : Nat, k ≤ N ∧ i = .int .i64 k ∧ ReadyRel n lens w k v wr) (fun _ i _ => N - (intOf i).toNat)
  case atStart => exact ⟨0, Nat.zero_le _, rfl, World.ownsRow_nil _ _ _ _, Below.refl _ _⟩
  case round =>
    obtain ⟨k, hk, rfl, hr⟩ := hrel
    by_cases hlt : k < N
    · obtain ⟨hown, hbw⟩ := hr
      obtain ⟨a, x, c, f, q0, q1, q2⟩ := HL.out k (by rw [← EN.out]; exact hlt)
      have p0 := (hbw.cell (p := ⟨L, k * 3, none⟩) hL).trans q0
      have p1 := (hbw.cell (p := ⟨L, k * 3 + 1, none⟩) hL).trans q1
      have p2 := (hbw.cell (p := ⟨L, k * 3 + 2, none⟩) hL).trans q2
      have pb := (hbw.cell (p := ⟨B, 0, none⟩) hB).trans b0
      have hsz := hbw.size
      have HOW := Lib.hid hown
      by_cases hpos : 0 < lens k
      · have hpos' : (0 : Int) < (lens k : Int) := by omega
        clear hown q0 q1 q2 hpos
        go_wp2_with fail
        obtain ⟨w3, hw3⟩ : ∃ w3, w3 = wr.alloc (.cells #[.slice a x c, .int .i64 f, .int .i64 (lens k)] 103) := ⟨_, rfl⟩
        have hb3 : Below w.heap.size w w3 := by rw [hw3]; exact hbw.alloc hsz _
        have h3b : w3.cell? ⟨B, 0, none⟩ = some (.int .i64 n) := (hb3.cell (p := ⟨B, 0, none⟩) hB).trans b0
        have h3o : Hid (w3.ownsRow w.heap.size 81 2 u3 (readyIdx lens k).length (pairCells n (readyIdx lens k))) := by rw [hw3]; exact HOW.out.alloc _
        have hB3 : B < w3.heap.size := Nat.lt_of_lt_of_le hB hb3.size
        have hs3 : w.heap.size ≤ w3.heap.size := hb3.size
        rw [← hw3]
        have y1 : IntKind.i64.wrap ((k : Int) / n) = ((k / n : Nat) : Int) := by
          have h := IntWalk.tdiv_le (k : Int) n (by omega) (by omega)
          rw [IntWalk.i64_in _ (by omega)]; simp
        have y2 : (k : Int).tmod n = ((k % n : Nat) : Int) := by
          rw [Int.tmod_eq_emod_of_nonneg (by omega)]; simp
        have y3 : ¬ n = 0 := by omega
        have hcnt : (readyIdx lens k).length ≤ 64 := Nat.le_trans (readyIdx_len lens k) (by omega)
        obtain ⟨kd, ekd⟩ : ∃ kd, kd = k / n := ⟨_, rfl⟩
        obtain ⟨km, ekm⟩ : ∃ km, km = k % n := ⟨_, rfl⟩
        rw [← ekd] at y1
        rw [← ekm] at y2
        obtain ⟨cnt, ecnt⟩ : ∃ cnt, cnt = (readyIdx lens k).length := ⟨_, rfl⟩
        obtain ⟨xs, exs⟩ : ∃ xs, xs = pairCells n (readyIdx lens k) := ⟨_, rfl⟩
        rw [← ecnt, ← exs] at h3o
        rw [← ecnt] at hcnt
        have HB3 := Lib.hid hb3
        have EKD := Lib.hid ekd
        have EKM := Lib.hid ekm
        have ECN := Lib.hid ecnt
        have EXS := Lib.hid exs
        have hne3 : ∀ z, u3.ownBlock = some z → w.heap.size ≤ z := fun z hz => (h3o.out.lt z hz).1
        have HNE := Lib.hid hne3
        clear hw3 hb3 ekd ekm ecnt exs hne3 p0 p1 p2 pb hbw HOW
        go_region_held3 (fun w' => w'.cell? ⟨B, 0, none⟩ = some (.int .i64 n))
          (first | go_keep | (rw [hgrow.cell_far _ (by simp; omega) (fun e => by have := HNE.out _ e.symm; simp at this; omega)]; go_keep))
          ((refine step_append_lies _ (by rfl) _ _ _ (by rfl) w.heap.size 81 i0 _ 2 16 Try.underlying77 hi0 hz0 hz1 hz2 rfl (by omega) u3 cnt xs (by rfl) ((h3o.out.alloc _).drew) ⟨w3.heap.size, 0, none⟩ 1 1 [.int .i64 kd, .int .i64 km] (by rfl) (by rfl) (World.news_of_block (cs := #[.int .i64 kd, .int .i64 km]) (t := 81) (fr := (0, 0)) (heap_alloc_new w3 _)) (by simp [Value.oneCell']) (by omega) (by unfold maxLen; omega) (by omega) (by simp; omega) (w3.heap.size + 1) (by simp) ?_; intro gg cap w1 hown1 hgrow hat hlt1))
        have hstep : ReadyRel n lens w (k + 1) (.slice (some ⟨gg, 0, none⟩) (cnt + 1) cap) w1 := by
          rw [ReadyRel, readyIdx_succ, if_pos (by omega), pairCells_append, List.length_append, List.length_singleton, ← ECN.out, ← EXS.out, ← EKD.out, ← EKM.out]
          refine ⟨hown1, ?_⟩
          exact (((HB3.out.alloc hs3 _).drew).grown hgrow (by show _ ≤ (World.alloc _ _).heap.size; simp; omega) HNE.out)
        have HSP := Lib.hid hstep
        clear hstep hown1 hgrow
        go_wp2
        go_roundw
        case rel => exact ⟨k + 1, hlt, by go_num, HSP.out⟩
        case measure => simp [intOf]; omega
      · have hz : lens k = 0 := by omega
        rw [hz] at p2
        have p2' : wr.cell? ⟨L, k * 3 + 2, none⟩ = some (.int .i64 0) := p2
        clear hown q0 q1 q2 hpos p2
        go_wp2
        go_roundw
        case rel => 
          refine ⟨k + 1, hlt, by go_num, ?_, ?_⟩
          · rw [readyIdx_succ, if_neg (by omega), List.append_nil]
            exact HOW.out.alloc _
          · exact hbw.alloc hsz _
        case measure => simp [intOf]; omega
    · obtain rfl : k = N := by omega
      go_wp2
      go_ret
      exact ⟨_, rfl, hr⟩
end Go.Proofs.Ytpoilgeffpedoaa
