import Derived.Test.YtlpehdhgdpeoeaaGreatDoorLj
import Derived.Lib.SliceRun
/- slices.Clone of rows and of words: what comes out lies in a block of its own, of the row's type. -/
namespace Go.Proofs.YtlpehdhgdpeoeaaGreatDoor
open Go.RowKit Go.Pen Go.Shelf
attribute [local go_sem] Oper.semAt_some

def wordCells (xs : List Int) : List Value := xs.map (.int .u32)
theorem WordsAt.cells {w : World} {a : Option Addr} {n c : Nat} {xs : List Int} (h : WordsAt w (.slice a n c) xs) : ∀ ad, a = some ad → ∀ j u, (wordCells xs)[j]? = some u → w.cell? (ad.add j) = some u := by
  rintro ad rfl j u hu
  obtain ⟨a', c', hv, -, h⟩ := h
  cases hv
  have hj := (List.getElem?_eq_some_iff.1 hu).1
  simp only [wordCells, List.length_map] at hj
  obtain ⟨b, o, hb, hc⟩ := h (by intro e; rw [e] at hj; simp at hj)
  cases hb
  rw [add_lit]
  have hx : xs[j]? = some xs[j] := List.getElem?_eq_getElem hj
  have := hc _ _ hx
  rw [wordCells, List.getElem?_map, hx] at hu
  cases hu
  exact this
theorem info33 : (Tryz.prog.info? 33).map (fun i => (i.zero, i.size, i.bytes)) = some (some (.int .u32 0), 1, 4) := by kernel_rfl

set_option maxRecDepth 100000 in
set_option maxHeartbeats 1000000 in
theorem clone_30 (r : List Dat) (v : Value) (w : World) (hr : RowAt w v r) (hn : r.length ≤ 1073741824) :
    Calls Tryz.prog 30 #[v] w fun ev w' => ∃ v', ev = .returned v' ∧ w'.ownsRow w.heap.size 55 4 v' r.length (rowCells r) ∧ Below w.heap.size w w' := by
  obtain ⟨i0, hi0, hz0, hz1, hz2⟩ := info_parts info25
  have q49 : ∀ (w : World) (a : Option Addr) (n c n' c' : Nat), (binOp .eql 49 (.slice a n c) (.slice none n' c')).run Tryz.prog w = .ok (.bool a.isNone) w := fun w a n c n' c' => Lib.run_eql_slice_nil w _ _ a n c n' c' Tryz.underlying49
  have hcells := hr
  obtain ⟨a, c, rfl, hz, hat⟩ := hr
  obtain ⟨n, en⟩ : ∃ n, n = r.length := ⟨_, rfl⟩
  rw [← en] at hn hcells ⊢
  have EN := Lib.hid en
  have HC := Lib.hid (DatsOn.cells hcells)
  have HL : Hid ((rowCells r).length = r.length * 4) := Lib.hid (rowCells_len r)
  have HAT := Lib.hid hat
  clear en hat hcells
  go_enter Tryz.func30, Tryz.ntmps30
  rcases a with _ | ad
  · have hnil : r = [] := Classical.byContradiction fun h => by obtain ⟨b, o, hb, -⟩ := HAT.out h; cases hb
    have hn0 : n = 0 := by rw [EN.out, hnil]; rfl
    subst hn0
    subst hnil
    go_wp2_with fail
    go_ret
    exact ⟨_, rfl, World.ownsRow_nil _ _ _ _, Below.refl _ _⟩
  · go_wp2_with (at_builtin; refine wpList_append_own _ rfl _ _ 49 rfl w.heap.size 55 i0 _ 4 32 Tryz.underlying49 hi0 hz0 hz1 hz2 rfl (by decide) _ _ _ rfl (World.ownsRow_made w #[] 0 (Nat.le_refl _) (Nat.zero_le _) rfl) ad n c (rowCells r) rfl ?qc1 ?qc2 ?qc3 ?qc4 ?qc5 ?qc6 ?_)
    case qc1 => rw [HL.out, EN.out]
    case qc2 => exact fun j u hu => Lib.cell?_alloc_some _ (HC.out ad rfl j u hu)
    case qc3 => exact rowCells_one r
    case qc4 => unfold maxLen; omega
    case qc5 => omega
    try case qc6 => simp
    intro v' w1 hown hgrow hnil
    go_wp2
    go_ret
    exact ⟨v', rfl, by simpa using hown, ((Below.refl _ w).alloc (Nat.le_refl _) _).grown hgrow (by simp) (by intro k hk; simp [Value.ownBlock] at hk; omega)⟩
set_option maxRecDepth 100000 in
set_option maxHeartbeats 1000000 in
theorem clone_51 (r : List Int) (v : Value) (w : World) (hr : WordsAt w v r) (hn : r.length ≤ 1073741824) :
    Calls Tryz.prog 51 #[v] w fun ev w' => ∃ v', ev = .returned v' ∧ w'.ownsRow w.heap.size 33 1 v' r.length (wordCells r) ∧ Below w.heap.size w w' := by
  obtain ⟨i0, hi0, hz0, hz1, hz2⟩ := info_parts info33
  have q49 : ∀ (w : World) (a : Option Addr) (n c n' c' : Nat), (binOp .eql 34 (.slice a n c) (.slice none n' c')).run Tryz.prog w = .ok (.bool a.isNone) w := fun w a n c n' c' => Lib.run_eql_slice_nil w _ _ a n c n' c' Tryz.underlying34
  have hcells := hr
  obtain ⟨a, c, rfl, hz, hat⟩ := hr
  obtain ⟨n, en⟩ : ∃ n, n = r.length := ⟨_, rfl⟩
  rw [← en] at hn hcells ⊢
  have EN := Lib.hid en
  have HC := Lib.hid (WordsAt.cells hcells)
  have HL : Hid ((wordCells r).length = r.length * 1) := Lib.hid (by simp [wordCells])
  have HAT := Lib.hid hat
  clear en hat hcells
  go_enter Tryz.func51, Tryz.ntmps51
  rcases a with _ | ad
  · have hnil : r = [] := Classical.byContradiction fun h => by obtain ⟨b, o, hb, -⟩ := HAT.out h; cases hb
    have hn0 : n = 0 := by rw [EN.out, hnil]; rfl
    subst hn0
    subst hnil
    go_wp2_with fail
    go_ret
    exact ⟨_, rfl, World.ownsRow_nil _ _ _ _, Below.refl _ _⟩
  · go_wp2_with (at_builtin; refine wpList_append_own _ rfl _ _ 34 rfl w.heap.size 33 i0 _ 1 4 Tryz.underlying34 hi0 hz0 hz1 hz2 rfl (by decide) _ _ _ rfl (World.ownsRow_made w #[] 0 (Nat.le_refl _) (Nat.zero_le _) rfl) ad n c (wordCells r) rfl ?qc1 ?qc2 ?qc3 ?qc4 ?qc5 ?qc6 ?_)
    case qc1 => rw [HL.out, EN.out]
    case qc2 => exact fun j u hu => Lib.cell?_alloc_some _ (HC.out ad rfl j u hu)
    case qc3 => exact fun u hu => by obtain ⟨x, _, rfl⟩ := List.mem_map.1 hu; rfl
    case qc4 => unfold maxLen; omega
    case qc5 => omega
    try case qc6 => simp
    intro v' w1 hown hgrow hnil
    go_wp2
    go_ret
    exact ⟨v', rfl, by simpa using hown, ((Below.refl _ w).alloc (Nat.le_refl _) _).grown hgrow (by simp) (by intro k hk; simp [Value.ownBlock] at hk; omega)⟩
end Go.Proofs.YtlpehdhgdpeoeaaGreatDoor
