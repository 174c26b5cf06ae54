import Derived.Test.YtpoilgeffpedoaaProg
import Derived.Test.YtpoilgeffpedoaaBase
namespace Go.Proofs.Ytpoilgeffpedoaa
open Go.RowKit Go.Pen

theorem info111 : (Try.prog.info? 111).map (fun i => (i.zero, i.size, i.bytes)) = some (some (.int .u32 0), 1, 4) := by kernel_rfl
theorem info89 : (Try.prog.info? 89).map (fun i => (i.zero, i.size, i.bytes)) = some (some (.agg #[.int .u8 0, .bool false, .int .i64 0, .string .empty]), 4, 32) := by kernel_rfl
theorem info37 : (Try.prog.info? 37).map (fun i => (i.zero, i.size, i.bytes)) = some (some (.agg #[.slice none 0 0, .int .u64 0, .slice none 0 0, .int .i64 0]), 4, 64) := by kernel_rfl


set_option maxHeartbeats 400000 in
theorem clone55 (v : Value) (n : Nat) (cs : List Value) (w : World) (hv : w.ownsRow 0 111 1 v n cs) (hn : n ≤ 1073741824) (h1 : ∀ u ∈ cs, u.oneCell' = true) :
    Calls Try.prog 55 #[v] w fun e w' => ∃ v', e = .returned v' ∧ w'.ownsRow w.heap.size 111 1 v' n cs ∧ Below w.heap.size w w' := by
  have hnil := @Lib.run_eql_slice_nil Try.prog
  rcases hv.2 with ⟨rfl, rfl⟩ | ⟨b, c, cur, rfl, hb, hg, hnc, hcm, hcs, ht⟩
  · obtain rfl : cs = [] := List.eq_nil_of_length_eq_zero (by simpa using hv.1)
    go_enter Try.func55, Try.ntmps55
    go_wp2
    go_ret
    exact ⟨_, rfl, World.ownsRow_nil _ _ _ _, Below.refl _ _⟩
  · obtain ⟨i0, hi, hz0, hz1, hz2⟩ := info_parts info111
    have hl := hv.1
    have hc : ∀ j u, cs[j]? = some u → w.cell? ⟨b, j, none⟩ = some u := fun j u hu => by have := ownsRow_cell hv rfl hu; simpa using this
    have hb' : b < w.heap.size := (hv.lt b rfl).2
    go_enter Try.func55, Try.ntmps55
    go_wp2_with (at_builtin; go_must (refine wpList_append_own _ rfl _ _ 26 rfl w.heap.size 111 i0 (.int .u32 0) 1 4 Try.underlying26 hi hz0 hz1 hz2 rfl (by decide) _ 0 [] rfl ?c0 ⟨b, 0, none⟩ n c cs rfl hl ?c1 h1 ?c3 ?c4 ?c5 ?_))
    case c0 => exact World.ownsRow_made w #[] 0 (Nat.le_refl _) (Nat.zero_le _) rfl
    case c1 =>
      intro j u hu
      rw [add_lit, Nat.zero_add]
      have := Below.heap_alloc w (.cells #[] 111) b hb'
      rw [World.cell?_of_block this]; exact hc j u hu
    case c3 => unfold maxLen; omega
    case c4 => omega
    case c5 => simp
    intro v' w1 ho hg' _
    go_wp2
    go_ret
    have ho' : w1.ownsRow w.heap.size 111 1 v' n cs := by simpa using ho
    refine ⟨_, rfl, ho', ?_⟩
    exact ((Below.refl _ _).alloc (Nat.le_refl _) _).grown hg' (by simp) (by intro k hk; simp [Value.ownBlock] at hk; omega)


set_option maxHeartbeats 400000 in
theorem clone58 (v : Value) (n : Nat) (cs : List Value) (w : World) (hv : w.ownsRow 0 89 4 v n cs) (hn : n ≤ 1073741824) (h1 : ∀ u ∈ cs, u.oneCell' = true) :
    Calls Try.prog 58 #[v] w fun e w' => ∃ v', e = .returned v' ∧ w'.ownsRow w.heap.size 89 4 v' n cs ∧ Below w.heap.size w w' := by
  have hnil := @Lib.run_eql_slice_nil Try.prog
  rcases hv.2 with ⟨rfl, rfl⟩ | ⟨b, c, cur, rfl, hb, hg, hnc, hcm, hcs, ht⟩
  · obtain rfl : cs = [] := List.eq_nil_of_length_eq_zero (by simpa using hv.1)
    go_enter Try.func58, Try.ntmps58
    go_wp2
    go_ret
    exact ⟨_, rfl, World.ownsRow_nil _ _ _ _, Below.refl _ _⟩
  · obtain ⟨i0, hi, hz0, hz1, hz2⟩ := info_parts info89
    have hl := hv.1
    have hc : ∀ j u, cs[j]? = some u → w.cell? ⟨b, j, none⟩ = some u := fun j u hu => by have := ownsRow_cell hv rfl hu; simpa using this
    have hb' : b < w.heap.size := (hv.lt b rfl).2
    go_enter Try.func58, Try.ntmps58
    go_wp2_with (at_builtin; go_must (refine wpList_append_own _ rfl _ _ 35 rfl w.heap.size 89 i0 (.agg #[.int .u8 0, .bool false, .int .i64 0, .string .empty]) 4 32 Try.underlying35 hi hz0 hz1 hz2 rfl (by decide) _ 0 [] rfl ?c0 ⟨b, 0, none⟩ n c cs rfl hl ?c1 h1 ?c3 ?c4 ?c5 ?_))
    case c0 => exact World.ownsRow_made w #[] 0 (Nat.le_refl _) (Nat.zero_le _) rfl
    case c1 =>
      intro j u hu
      rw [add_lit, Nat.zero_add]
      have := Below.heap_alloc w (.cells #[] 89) b hb'
      rw [World.cell?_of_block this]; exact hc j u hu
    case c3 => unfold maxLen; omega
    case c4 => omega
    case c5 => simp
    intro v' w1 ho hg' _
    go_wp2
    go_ret
    have ho' : w1.ownsRow w.heap.size 89 4 v' n cs := by simpa using ho
    refine ⟨_, rfl, ho', ?_⟩
    exact ((Below.refl _ _).alloc (Nat.le_refl _) _).grown hg' (by simp) (by intro k hk; simp [Value.ownBlock] at hk; omega)

end Go.Proofs.Ytpoilgeffpedoaa
