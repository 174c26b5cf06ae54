import Derived.Test.YtolikaginhjbhaaGreatDoorShelfM
import Derived.Test.YtolikaginhjbhaaGreatDoorJ
import Derived.Maps.OwnIn
import Derived.Shelf.AbstractIn
/- slices.Sorted(maps.Keys(m)) at a map of ints that the call made. -/
namespace Go.Proofs.YtolikaginhjbhaaGreatDoor
open Go.RowKit Go.Pen Go.Shelf Go.Maps Go.Sort Go.Proofs
attribute [local go_sem] Oper.semAt_some

/-- slices.Sort's two contracts at this dump, at the fence that asks nothing. -/
theorem sortsA (m : Nat) : AnyZI.SortsIn Tryz.prog Tryz.sortedA_ren Fence.wide m :=
  ⟨fun blk off cap ss W hH hblk hsz => callsIn_wide.2 (AnyM.slices_Sort_int Tryz.sortA blk off cap ss W hH hblk hsz),
   fun p cap W => callsIn_wide.2 (AnyM.slices_Sort_int_none Tryz.sortA p cap W)⟩

/-- maps.Keys -/
theorem keys_56 (mb : Option Nat) (n : Nat) (W : World) : CallsIn Fence.wide n Tryz.prog 56 #[.map mb] W fun e w' => e = .returned (.func (.func 99) #[] #[.pointer (some ⟨W.heap.size, 0, none⟩)]) ∧ w' = W.alloc (.cells #[.map mb] 103) :=
  AnyZI.keys_in Tryz.keysA Fence.wide n trivial rfl mb W

/-- slices.Sorted of maps.Keys: the keys, ascending -/
theorem sorted_55 {H : Type} (b nn c : Nat) (D0 : DataW H) (R : Value → Option (DataW H × List MemPlace)) (n : Nat) (hn : 4 ≤ n) (w : World) (hc : w.heap[c]? = some (.cells #[.map (some b)] 103 (0, 0))) (hown : w.ownsMap Tryz.prog 3 R b nn D0) (hmax : Maps.size D0 ≤ maxLen) (hbytes : Maps.size D0 * 8 ≤ 140737488355328) :
    CallsIn Fence.wide n Tryz.prog 55 #[.func (.func 99) #[] #[.pointer (some ⟨c, 0, none⟩)]] w fun e w' => ∃ (v : Value) (ss : List Int), e = .returned v ∧ ss.Perm (intKeys D0) ∧
      w'.ownsRow w.heap.size 3 1 v ss.length ((ss.mergeSort (fun x y => decide (x ≤ y))).map encZ) ∧ (v = .slice none 0 0 ↔ ss = []) ∧ Below w.heap.size w w' := by
  have hseq : SeqGives Fence.wide (n - 1 - 1 - 1) Tryz.prog 99 #[.pointer (some ⟨c, 0, none⟩)] encZ (fun ss => ss.Perm (intKeys D0)) (Maps.size D0) w :=
    AnyZI.keys_gives (ρ := Tryz.keysA_ren) { Tryz.keysA with } Fence.wide _ trivial rfl (by omega) c b nn D0 _ (lt_of_heap hc) (cell_of_heap hc rfl) hown
  exact AnyZI.sorted_in Tryz.sortedA Fence.wide n trivial trivial trivial trivial rfl hn (sortsA _) (enters_of Tryz.func98 (by kernel_rfl) rfl) 99 #[.pointer (some ⟨c, 0, none⟩)] trivial (enters_of Tryz.func99 (by kernel_rfl) rfl) _ _ hmax hbytes _ hseq
end Go.Proofs.YtolikaginhjbhaaGreatDoor
