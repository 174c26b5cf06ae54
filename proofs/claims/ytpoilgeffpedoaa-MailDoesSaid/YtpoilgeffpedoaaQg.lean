import Derived.Test.YtpoilgeffpedoaaQf
/- The reference's Ready. -/
namespace Go.Proofs.Ytpoilgeffpedoaa
open Go.RowKit Go.Pen
attribute [local go_sem ↓] Go.wp_at_zero Go.wp_at_succ

theorem info50 : (Try.prog.info? 82).map (fun i => (i.zero, i.size, i.bytes)) = some (some (.slice none 0 0), 1, 24) := by kernel_rfl

def pairVals (c : Nat) (G : Nat → Nat) : List Value := (List.range c).map fun j => .slice (some ⟨G j, 0, none⟩) 2 2

theorem pairVals_succ (c : Nat) (G : Nat → Nat) (x : Nat) : pairVals (c + 1) (fun j => if j = c then x else G j) = pairVals c G ++ [.slice (some ⟨x, 0, none⟩) 2 2] := by
  unfold pairVals
  rw [List.range_succ, List.map_append]
  congr 1
  · refine List.map_congr_left fun j hj => ?_
    have : j ≠ c := by have := List.mem_range.1 hj; omega
    simp [this]
  · simp

def RRel (n : Nat) (lens : Nat → Nat) (w : World) (p : Nat) (v : Value) (wr : World) : Prop :=
  ∃ G, wr.ownsRow w.heap.size 82 1 v (readyIdx lens p).length (pairVals (readyIdx lens p).length G) ∧
    (∀ (j : Nat) x, (readyIdx lens p)[j]? = some x → wr.heap[G j]? = some (.cells #[.int .i64 ((x / n : Nat) : Int), .int .i64 ((x % n : Nat) : Int)] 3 (0, 0))) ∧ Below w.heap.size w wr

theorem RRel.below {n p : Nat} {lens : Nat → Nat} {w wr w' : World} {v : Value} (h : RRel n lens w p v wr) (hb : Below wr.heap.size wr w') : RRel n lens w p v w' := by
  obtain ⟨G, h1, h2, h3⟩ := h
  exact ⟨G, Below.ownsRow' hb h1, fun j x hx => (hb.block _ (lt_of_heap (h2 j x hx))).trans (h2 j x hx), h3.trans (hb.mono h3.size)⟩

theorem RRel.skip {n p : Nat} {lens : Nat → Nat} {w wr : World} {v : Value} (h : RRel n lens w p v wr) (hp : ¬ 0 < lens p) : RRel n lens w (p + 1) v wr := by
  unfold RRel
  rw [readyIdx_succ, if_neg hp, List.append_nil]; exact h

theorem RRel.step {n p : Nat} {lens : Nat → Nat} {w wr w3 w4 : World} {v v' : Value} {i k : Nat} (hpos : 0 < lens p) (hi : p / n = i) (hk : p % n = k)
    {G : Nat → Nat} (hown : wr.ownsRow w.heap.size 82 1 v (readyIdx lens p).length (pairVals (readyIdx lens p).length G)) (hG : ∀ (j : Nat) x, (readyIdx lens p)[j]? = some x → wr.heap[G j]? = some (.cells #[.int .i64 ((x / n : Nat) : Int), .int .i64 ((x % n : Nat) : Int)] 3 (0, 0))) (hb : Below w.heap.size w wr)
    (hb3 : Below wr.heap.size wr w3) {g : Nat} (hg : w3.heap[g]? = some (.cells #[.int .i64 (i : Int), .int .i64 (k : Int)] 3 (0, 0)))
    (hgrow : w3.grownBy w4 v.ownBlock) (hown4 : w4.ownsRow w.heap.size 82 1 v' ((readyIdx lens p).length + 1) (pairVals (readyIdx lens p).length G ++ [.slice (some ⟨g, 0, none⟩) 2 2])) : RRel n lens w (p + 1) v' w4 := by
  have hlt := hb.size
  have hne : ∀ x, v.ownBlock = some x → ∃ cur, w3.heap[x]? = some (.cells cur 82 (0, 0)) := fun x hx => by
    obtain ⟨-, h2, cur, hc⟩ := ownsRow_block hown hx
    exact ⟨cur, (hb3.block x h2).trans hc⟩
  have keep : ∀ (x : Nat) (cur : Array Value), w3.heap[x]? = some (.cells cur 3 (0, 0)) → w4.heap[x]? = some (.cells cur 3 (0, 0)) := fun x cur hx => by
    rw [hgrow.block x (lt_of_heap hx) (fun e => by obtain ⟨c, hc⟩ := hne x e.symm; exact type_ne hx hc (by decide) rfl)]; exact hx
  unfold RRel
  rw [readyIdx_succ, if_pos hpos, List.length_append, List.length_singleton]
  refine ⟨fun j => if j = (readyIdx lens p).length then g else G j, ?_, fun j x hx => ?_, ?_⟩
  · rw [pairVals_succ]; exact hown4
  · by_cases hj : j = (readyIdx lens p).length
    · subst hj
      simp at hx
      subst hx
      simp only [if_true]
      rw [hi, hk]; exact keep g _ hg
    · have hl : j < (readyIdx lens p).length := by
        have := (List.getElem?_eq_some_iff.1 hx).1
        simp at this; omega
      rw [List.getElem?_append_left hl] at hx
      simp only [if_neg hj]
      have := hG j x hx
      exact keep _ _ ((hb3.block _ (lt_of_heap this)).trans this)
  · refine (hb.trans (hb3.mono hlt)).grown hgrow (Nat.le_trans hlt hb3.size) fun x hx => (hown.lt x hx).1

set_option maxRecDepth 100000 in
set_option maxHeartbeats 2000000 in
theorem rready_any {b : Nat} {RB RQ : Nat} {RR : Nat → Nat} {n r : Nat} {V : Nat → Nat → Value} {q : Nat → Nat → List AMsg} (w : World) (h : RefIs b w RB RQ RR n r V q) (hn : n ≤ 8) (h1 : 1 ≤ n) :
    Calls Try.prog 23 #[.pointer (some ⟨RB, 0, none⟩)] w fun e w' => ∃ v, e = .returned v ∧ RRel n (fun p => (q (p / n) (p % n)).length) w (n * n) v w' := by
  obtain ⟨i0, hi0, hz0, hz1, hz2⟩ := info_parts info50
  obtain ⟨lens, elens⟩ : ∃ lens : Nat → Nat, lens = fun p => (q (p / n) (p % n)).length := ⟨_, rfl⟩
  rw [← elens]
  have hnn : n * n ≤ 64 := Nat.mul_le_mul hn hn
  have ELE := Lib.hid elens
  have H := Lib.hid h
  obtain ⟨c, -, c1⟩ := h.cells
  have s0 : RB < w.heap.size := World.block_lt_of_cell? w _ c1
  clear h elens
  go_enter Try.func23, Try.ntmps23
  go_wp2
  go_loopw [3, 4, 5] (fun v i _ wr => ∃ i' : Nat, i' ≤ n ∧ i = .int .i64 i' ∧ RRel n lens w (i' * n) v wr) (fun _ i _ _ => n - (intOf i).toNat)
  case atStart => exact ⟨0, Nat.zero_le _, rfl, by rw [Nat.zero_mul]; exact ⟨fun _ => 0, World.ownsRow_nil _ _ _ _, fun j x hx => by simp [readyIdx] at hx, Below.refl _ _⟩⟩
  case round =>
    obtain ⟨i, hi, rfl, hr⟩ := hrel
    have hrs := hr.choose_spec.2.2
    have c1' : wr.cell? ⟨RB, 1, none⟩ = _ := (hrs.cell (p := ⟨RB, 1, none⟩) s0).trans c1
    by_cases hlt : i < n
    · have HR := Lib.hid hr
      clear hr hrs
      go_wp2
      go_loopw [3, 5] (fun v k wk => ∃ k' : Nat, k' ≤ n ∧ k = .int .i64 k' ∧ RRel n lens w (i * n + k') v wk) (fun _ k _ => n - (intOf k).toNat)
      case atStart => exact ⟨0, Nat.zero_le _, rfl, HR.out⟩
      case round =>
        obtain ⟨k, hk, rfl, hr⟩ := hrel
        have hrs := hr.choose_spec.2.2
        have e1 := (hrs.cell (p := ⟨RB, 1, none⟩) s0).trans c1
        by_cases hlk : k < n
        · obtain ⟨d0, d1⟩ := (H.out.below hrs).way hlt hlk
          obtain ⟨a, cc, hv, -⟩ := H.out.que i k hlt hlk
          rw [hv] at d1
          have hp1 : (i * n + k) / n = i := by
            rw [Nat.mul_comm, Nat.mul_add_div (by omega), Nat.div_eq_of_lt hlk, Nat.add_zero]
          have hp2 : (i * n + k) % n = k := by
            rw [Nat.mul_comm, Nat.mul_add_mod, Nat.mod_eq_of_lt hlk]
          have hlen : lens (i * n + k) = (q i k).length := by rw [ELE.out]; simp only [hp1, hp2]
          rw [← hlen] at d1
          have HP1 := Lib.hid hp1
          have HP2 := Lib.hid hp2
          have HRK := Lib.hid hr
          clear hv hp1 hp2 hlen hr hrs
          by_cases hpos : 0 < lens (i * n + k)
          · have hpos' : (0 : Int) < (lens (i * n + k) : Int) := by omega
            have HPO := Lib.hid hpos
            have hpl : (readyIdx lens (i * n + k)).length ≤ 64 := by
              have h1 := readyIdx_len lens (i * n + k)
              have h2 := idx_lt hlt hlk
              omega
            obtain ⟨p, ep⟩ : ∃ p, p = i * n + k := ⟨_, rfl⟩
            rw [← ep] at HP1 HP2 HRK HPO hpl d1 hpos'
            have EP := Lib.hid ep
            obtain ⟨G, hown, hG, hbw⟩ := HRK.out
            have HOW := Lib.hid hown
            have HGG := Lib.hid hG
            have HBW := Lib.hid hbw
            have hsz := hbw.size
            obtain ⟨cnt, ecnt⟩ : ∃ cnt, cnt = (readyIdx lens p).length := ⟨_, rfl⟩
            rw [← ecnt] at HOW hpl
            have ECN := Lib.hid ecnt
            clear hpos ep hown hG hbw ecnt HRK
            go_wp2_with (at_builtin; go_must (refine wpList_append_own _ rfl _ _ 50 rfl w.heap.size 82 i0 (.slice none 0 0) 1 24 Try.underlying50 hi0 hz0 hz1 hz2 rfl (by decide) u3 cnt (pairVals cnt G) rfl ((HOW.out.alloc _).alloc _) ⟨wr.heap.size + 1, 0, none⟩ 1 1 [.slice (some ⟨wr.heap.size, 0, none⟩) 2 2] rfl rfl ?c1 ?c2 ?c3 ?c4 ?c5 ?_))
            case c1 =>
              intro j u hj
              rw [add_lit, Nat.zero_add]
              have hsz1 : (wr.alloc (.cells #[.int .i64 (i : Int), .int .i64 (k : Int)] 3)).heap.size = wr.heap.size + 1 := by simp
              rw [← hsz1]
              exact cell_of_heap (heap_alloc_new _ _) (by rw [List.getElem?_toArray]; exact hj)
            case c2 => intro u hu; simp at hu; subst hu; rfl
            case c3 => unfold maxLen; omega
            case c4 => omega
            case c5 => simp; omega
            intro v' w4 hown4 hgrow _
            have hstep : RRel n lens w (p + 1) v' w4 := by
              have hb3 : Below wr.heap.size wr ((wr.alloc (.cells #[.int .i64 (i : Int), .int .i64 (k : Int)] 3)).alloc (.cells #[.slice (some ⟨wr.heap.size, 0, none⟩) 2 2] 82)) := ((Below.refl _ _).alloc (Nat.le_refl _) _).alloc (by simp) _
              refine RRel.step (G := G) HPO.out HP1.out HP2.out (by rw [← ECN.out]; exact HOW.out) HGG.out HBW.out hb3 (g := wr.heap.size) ?_ hgrow (by rw [← ECN.out]; exact hown4)
              exact (Below.heap_alloc _ _ _ (by simp)).trans (heap_alloc_new _ _)
            have HS := Lib.hid hstep
            clear hstep hown4 hgrow
            go_wp2
            go_roundw
            case rel => exact ⟨k + 1, hlk, by go_num, by rw [show i * n + (k + 1) = p + 1 by rw [EP.out]; omega]; exact HS.out⟩
            case measure => simp [intOf]; omega
          · have hz : lens (i * n + k) = 0 := by omega
            rw [hz] at d1
            have d1' : wr.cell? ⟨RR i, k, none⟩ = some (.slice a 0 cc) := d1
            have HS := Lib.hid (HRK.out.skip (p := i * n + k) hpos)
            clear d1 hz hpos HRK
            go_wp2
            go_roundw
            case rel => exact ⟨k + 1, hlk, by go_num, HS.out⟩
            case measure => simp [intOf]; omega
        · obtain rfl : k = n := by omega
          have HRK := Lib.hid hr
          clear hr hrs
          go_wp2
          go_roundw
          case rel => exact ⟨i + 1, hlt, by go_num, by rw [Nat.add_mul, Nat.one_mul]; exact HRK.out⟩
          case measure => simp [intOf]; omega
    · obtain rfl : i = n := by omega
      have HR := Lib.hid hr
      clear hr hrs
      go_wp2
      go_ret
      exact ⟨_, rfl, HR.out⟩
end Go.Proofs.Ytpoilgeffpedoaa
