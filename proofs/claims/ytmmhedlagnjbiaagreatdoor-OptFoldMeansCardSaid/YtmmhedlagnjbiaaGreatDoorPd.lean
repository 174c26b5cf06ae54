import Derived.Test.YtmmhedlagnjbiaaGreatDoorPa
import Derived.Test.YtmmhedlagnjbiaaGreatDoorOj
import Derived.Deep.AppendLies
/- our texts, shortened by program (pack.py) -/
set_option maxRecDepth 100000
set_option maxHeartbeats 2000000
namespace Go.Proofs.YtmmhedlagnjbiaaGreatDoor
open Go.RowKit Go.Pen
attribute [local go_sem] Oper.semAt_some
def setRow13 (w : World) (b : Nat) (v0 v1 v2 v3 v4 v5 v6 v7 v8 v9 v10 v11 v12 : Value) : World := ((((((((((((w.setCell ⟨b, 0, none⟩ v0).setCell ⟨b, 1, none⟩ v1).setCell ⟨b, 2, none⟩ v2).setCell ⟨b, 3, none⟩ v3).setCell ⟨b, 4, none⟩ v4).setCell ⟨b, 5, none⟩ v5).setCell ⟨b, 6, none⟩ v6).setCell ⟨b, 7, none⟩ v7).setCell ⟨b, 8, none⟩ v8).setCell ⟨b, 9, none⟩ v9).setCell ⟨b, 10, none⟩ v10).setCell ⟨b, 11, none⟩ v11).setCell ⟨b, 12, none⟩ v12
theorem setRow13_size {w : World} {b : Nat} {v0 v1 v2 v3 v4 v5 v6 v7 v8 v9 v10 v11 v12 : Value} : (setRow13 w b v0 v1 v2 v3 v4 v5 v6 v7 v8 v9 v10 v11 v12).heap.size = w.heap.size := by simp [setRow13, World.setCell]
theorem setRow13_at {w : World} {b : Nat} {c0 c1 c2 c3 c4 c5 c6 c7 c8 c9 c10 c11 c12 v0 v1 v2 v3 v4 v5 v6 v7 v8 v9 v10 v11 v12 : Value} {t : TypeId} {f : Nat × Nat} (h : w.heap[b]? = some (.cells #[c0, c1, c2, c3, c4, c5, c6, c7, c8, c9, c10, c11, c12] t f)) : (setRow13 w b v0 v1 v2 v3 v4 v5 v6 v7 v8 v9 v10 v11 v12).heap[b]? = some (.cells #[v0, v1, v2, v3, v4, v5, v6, v7, v8, v9, v10, v11, v12] t f) := by
 have h := heap_set_same (o := 12) (v := v12) (heap_set_same (o := 11) (v := v11) (heap_set_same (o := 10) (v := v10) (heap_set_same (o := 9) (v := v9) (heap_set_same (o := 8) (v := v8) (heap_set_same (o := 7) (v := v7) (heap_set_same (o := 6) (v := v6) (heap_set_same (o := 5) (v := v5) (heap_set_same (o := 4) (v := v4) (heap_set_same (o := 3) (v := v3) (heap_set_same (o := 2) (v := v2) (heap_set_same (o := 1) (v := v1) (heap_set_same (o := 0) (v := v0) h))))))))))))
 simpa [setRow13] using h
theorem setRow13_ne {w : World} {b g : Nat} {v0 v1 v2 v3 v4 v5 v6 v7 v8 v9 v10 v11 v12 : Value} (h : g ≠ b) : (setRow13 w b v0 v1 v2 v3 v4 v5 v6 v7 v8 v9 v10 v11 v12).heap[g]? = w.heap[g]? := by
 simp only [setRow13, heap_set_ne h]
theorem setRow13_below {B : Nat} {w w' : World} {b : Nat} {v0 v1 v2 v3 v4 v5 v6 v7 v8 v9 v10 v11 v12 : Value} (h : Below B w w') (hb : B ≤ b) : Below B w (setRow13 w' b v0 v1 v2 v3 v4 v5 v6 v7 v8 v9 v10 v11 v12) :=
 ((((((((((((h.setCell (p := ⟨b, 0, none⟩) hb _).setCell (p := ⟨b, 1, none⟩) hb _).setCell (p := ⟨b, 2, none⟩) hb _).setCell (p := ⟨b, 3, none⟩) hb _).setCell (p := ⟨b, 4, none⟩) hb _).setCell (p := ⟨b, 5, none⟩) hb _).setCell (p := ⟨b, 6, none⟩) hb _).setCell (p := ⟨b, 7, none⟩) hb _).setCell (p := ⟨b, 8, none⟩) hb _).setCell (p := ⟨b, 9, none⟩) hb _).setCell (p := ⟨b, 10, none⟩) hb _).setCell (p := ⟨b, 11, none⟩) hb _).setCell (p := ⟨b, 12, none⟩) hb _
theorem heap_new2 (w : World) (a b : Obj) : ((w.alloc a).alloc b).heap[w.heap.size + 1]? = some b := (two_at (Below.refl _ _)).2
theorem need_92 (w : World) : Calls Tryz.prog 92 #[.bool true] w fun ev w' => (∃ v, ev = .returned v) ∧ w' = w := by
 go_enter Tryz.func92, Tryz.ntmps92
 go_wp2_with fail
 exact bodyPost_end (results_none rfl _ _ _) rfl ⟨⟨_, rfl⟩, rfl⟩
theorem need_no (w : World) : Calls Tryz.prog 92 #[.bool false] w fun ev w' => ev = .panicked [{ v := .iface 143 (.agg #[]), recovered := false }] ∧ w' = w := by
 go_enter Tryz.func92, Tryz.ntmps92
 go_wp2_with fail
 exact ⟨rfl, rfl, rfl⟩
theorem kids_113 (k n : Int) (w : World) (h : (k = 1 ∧ n = 0) ∨ (k = 5 ∧ n = 1) ∨ (k = 0 ∧ n = 0)) : Calls Tryz.prog 113 #[.int .u8 k, .int .i64 n] w fun ev w' => ev = .returned (.bool (decide (k ≠ 0))) ∧ w' = w := by
 rcases h with ⟨rfl, rfl⟩ | ⟨rfl, rfl⟩ | ⟨rfl, rfl⟩
 all_goals
  go_enter Tryz.func113, Tryz.ntmps113
  go_wp2
  go_ret
  exact ⟨rfl, rfl⟩
theorem bounded_116 (n : Int) (w : World) (h0 : 0 ≤ n) (h9 : n ≤ 32) : Calls Tryz.prog 116 #[.int .i64 n] w fun ev w' => ev = .returned (.int .i64 n) ∧ w' = w := by
 have HN := Lib.hid (need_92 w)
 go_enter Tryz.func116, Tryz.ntmps116
 go_wp2_with fail
 refine HN.out.mono ?_
 rintro ev w2 ⟨⟨v, rfl⟩, rfl⟩
 go_wp2
 go_ret
 exact ⟨rfl, rfl⟩
theorem empty_114 (k : Int) (w : World) : Calls Tryz.prog 114 #[.agg #[.int .u8 k, .int .i64 0, .int .i64 0, .slice none 0 0, .slice none 0 0, .slice none 0 0, .slice none 0 0, .slice none 0 0, .slice none 0 0, .slice none 0 0, .int .i64 0, .int .i64 0, .slice none 0 0]] w fun ev w' => ev = .returned (.bool true) ∧ Below w.heap.size w w' := by
 go_enter Tryz.func114, Tryz.ntmps114
 go_wp2
 go_ret
 exact ⟨rfl, (Below.refl _ _).alloc (Nat.le_refl _) _⟩
theorem bare_leaf (a i : Int) (w : World) : Calls Tryz.prog 115 #[.agg #[.int .u8 1, .int .i64 a, .int .i64 i, .slice none 0 0, .slice none 0 0, .slice none 0 0, .slice none 0 0, .slice none 0 0, .slice none 0 0, .slice none 0 0, .int .i64 0, .int .i64 0, .slice none 0 0]] w fun ev w' => ev = .returned (.agg #[.int .u8 1, .int .i64 0, .int .i64 0, .slice none 0 0, .slice none 0 0, .slice none 0 0, .slice none 0 0, .slice none 0 0, .slice none 0 0, .slice none 0 0, .int .i64 0, .int .i64 0, .slice none 0 0]) ∧ Below w.heap.size w w' := by
 go_enter Tryz.func115, Tryz.ntmps115
 go_wp2
 refine bodyPost_ret (results_cell_row rfl _ _ (w.heap.size + 1) 56 _ (0, 0) _ rfl (heap_new2 _ _ _) Tryz.underlying56 rfl (by kernel_rfl)) rfl ?_
 exact ⟨rfl, two_below _ _ _⟩
theorem bare_proj (ca : Option Addr) (cn cc : Nat) (ka : Option Addr) (kn kc : Nat) (w : World) : Calls Tryz.prog 115 #[.agg #[.int .u8 5, .int .i64 0, .int .i64 0, .slice none 0 0, .slice ca cn cc, .slice none 0 0, .slice none 0 0, .slice none 0 0, .slice none 0 0, .slice none 0 0, .int .i64 0, .int .i64 0, .slice ka kn kc]] w fun ev w' => ev = .returned (.agg #[.int .u8 5, .int .i64 0, .int .i64 0, .slice none 0 0, .slice none 0 0, .slice none 0 0, .slice none 0 0, .slice none 0 0, .slice none 0 0, .slice none 0 0, .int .i64 0, .int .i64 0, .slice none 0 0]) ∧ Below w.heap.size w w' := by
 go_enter Tryz.func115, Tryz.ntmps115
 go_wp2
 refine bodyPost_ret (results_cell_row rfl _ _ (w.heap.size + 1) 56 _ (0, 0) _ rfl (heap_new2 _ _ _) Tryz.underlying56 rfl (by kernel_rfl)) rfl ?_
 exact ⟨rfl, two_below _ _ _⟩
def Ints (w : World) (b : Nat) (cs : List Int) : Prop := ∀ (i : Nat) (c : Int), cs[i]? = some c → w.cell? ⟨b, i, none⟩ = some (.int .i64 c)
theorem below4 (w : World) (a b c d : Obj) : Below w.heap.size w ((((w.alloc a).alloc b).alloc c).alloc d) := ((((Below.refl _ _).alloc (Nat.le_refl _) _).alloc (by simp) _).alloc (by simp; omega) _).alloc (by simp; omega) _
theorem closure_159 (c n : Int) (b : Nat) (w : World) (hb : w.cell? ⟨b, 0, none⟩ = some (.int .i64 n)) (h0 : 0 ≤ c) (h1 : c < n) :
  Calls Tryz.prog 159 #[.int .i64 c, .pointer (some ⟨b, 0, none⟩)] w fun ev w' => ev = .returned (.bool true) ∧ w' = w := by
 go_enter Tryz.func159, Tryz.ntmps159
 go_wp2
 go_ret
 exact ⟨by simp, rfl⟩
theorem closure_161 (c n : Int) (f b : Nat) (w : World) (hf : w.cell? ⟨f, 0, none⟩ = some (.func (.func 159) #[] #[.pointer (some ⟨b, 0, none⟩)])) (hb : w.cell? ⟨b, 0, none⟩ = some (.int .i64 n)) (h0 : 0 ≤ c) (h1 : c < n) :
  Calls Tryz.prog 161 #[.int .i64 c, .pointer (some ⟨f, 0, none⟩)] w fun ev w' => ev = .returned (.bool false) ∧ w' = w := by
 have HC := Lib.hid (closure_159 c n b w hb h0 h1)
 go_enter Tryz.func161, Tryz.ntmps161
 go_wp2_with fail
 refine HC.out.mono ?_
 rintro ev w2 ⟨rfl, rfl⟩
 go_wp2
 go_ret
 exact ⟨rfl, rfl⟩
theorem idx_196 (n : Int) (f b cb cc : Nat) (cs : List Int) (w : World) (hf : w.cell? ⟨f, 0, none⟩ = some (.func (.func 159) #[] #[.pointer (some ⟨b, 0, none⟩)])) (hb : w.cell? ⟨b, 0, none⟩ = some (.int .i64 n)) (hcs : Ints w cb cs) (hl : cs.length ≤ 100) (hin : ∀ c ∈ cs, 0 ≤ c ∧ c < n) :
  Calls Tryz.prog 196 #[.slice (some ⟨cb, 0, none⟩) cs.length cc, .func (.func 161) #[] #[.pointer (some ⟨f, 0, none⟩)]] w fun ev w' => ev = .returned (.int .i64 (-1)) ∧ w' = w := by
 obtain ⟨K, eK⟩ : ∃ K, K = cs.length := ⟨_, rfl⟩
 rw [← eK] at hl ⊢
 have HC : Hid (∀ c ∈ cs, Calls Tryz.prog 161 #[.int .i64 c, .pointer (some ⟨f, 0, none⟩)] w fun ev w' => ev = .returned (.bool false) ∧ w' = w) := Lib.hid fun c hc => closure_161 c n f b w hf hb (hin c hc).1 (hin c hc).2
 have HCS := Lib.hid hcs
 have EK := Lib.hid eK
 clear hf hb hcs hin eK
 go_enter Tryz.func196, Tryz.ntmps196
 go_wp2_with fail
 go_loopg [8] K (fun g s8 wr => ∃ i : Nat, i ≤ K ∧ g = K - i ∧ s8 = .int .i64 i ∧ wr = w)
 case atStart => exact ⟨0, Nat.zero_le _, by omega, rfl, rfl⟩
 case round =>
  obtain ⟨i, hi, rfl, rfl, rfl⟩ := hrel
  by_cases hlt : i < K
  ·obtain ⟨c, hc⟩ : ∃ c, cs[i]? = some c := ⟨cs[i]'(by rw [← EK.out]; exact hlt), List.getElem?_eq_getElem _⟩
   have z0 := HCS.out i c hc
   have sB := World.block_lt_of_cell? wr _ z0
   have HCC := Lib.hid (HC.out c (List.mem_of_getElem? hc))
   clear hc
   go_wp2_with fail
   refine HCC.out.mono ?_
   rintro ev w3 ⟨rfl, rfl⟩
   clear z0 sB HCC
   go_wp2
   go_roundg (K - (i + 1))
   case measure => omega
   case rel => exact ⟨i + 1, by omega, rfl, by go_num, rfl⟩
  ·obtain rfl : i = K := by omega
   go_wp2
   go_ret
   exact ⟨rfl, rfl⟩
theorem contains_157 (n : Int) (f b cb cc : Nat) (cs : List Int) (w : World) (hf : w.cell? ⟨f, 0, none⟩ = some (.func (.func 159) #[] #[.pointer (some ⟨b, 0, none⟩)])) (hb : w.cell? ⟨b, 0, none⟩ = some (.int .i64 n)) (hcs : Ints w cb cs) (hl : cs.length ≤ 100) (hin : ∀ c ∈ cs, 0 ≤ c ∧ c < n) :
  Calls Tryz.prog 157 #[.slice (some ⟨cb, 0, none⟩) cs.length cc, .func (.func 161) #[] #[.pointer (some ⟨f, 0, none⟩)]] w fun ev w' => ev = .returned (.bool false) ∧ w' = w := by
 have HC := Lib.hid (idx_196 n f b cb cc cs w hf hb hcs hl hin)
 obtain ⟨K, eK⟩ : ∃ K, K = cs.length := ⟨_, rfl⟩
 rw [← eK] at HC ⊢
 clear hf hb hcs hin eK
 go_enter Tryz.func157, Tryz.ntmps157
 go_wp2_with fail
 refine HC.out.mono ?_
 rintro ev w2 ⟨rfl, rfl⟩
 go_wp2
 go_ret
 exact ⟨rfl, rfl⟩
theorem closure_160 (n : Int) (f b cb cc : Nat) (cs : List Int) (w : World) (hf : w.cell? ⟨f, 0, none⟩ = some (.func (.func 159) #[] #[.pointer (some ⟨b, 0, none⟩)])) (hb : w.cell? ⟨b, 0, none⟩ = some (.int .i64 n)) (hcs : Ints w cb cs) (hl : cs.length ≤ 100) (hin : ∀ c ∈ cs, 0 ≤ c ∧ c < n) :
  Calls Tryz.prog 160 #[.slice (some ⟨cb, 0, none⟩) cs.length cc, .pointer (some ⟨f, 0, none⟩)] w fun ev w' => ev = .returned (.bool true) ∧ w' = w := by
 have HC := Lib.hid (contains_157 n f b cb cc cs w hf hb hcs hl hin)
 obtain ⟨K, eK⟩ : ∃ K, K = cs.length := ⟨_, rfl⟩
 rw [← eK] at HC ⊢
 clear hf hb hcs hin eK
 go_enter Tryz.func160, Tryz.ntmps160
 go_wp2_with fail
 refine HC.out.mono ?_
 rintro ev w2 ⟨rfl, rfl⟩
 go_wp2
 go_ret
 exact ⟨rfl, rfl⟩
theorem own_123 (n : Int) (cb cc : Nat) (cs : List Int) (ka : Option Addr) (kn kc : Nat) (la : Option Addr) (ln lc : Nat) (w : World) (hcs : Ints w cb cs) (hcb : cb < w.heap.size) (hl : cs.length ≤ 100) (hin : ∀ c ∈ cs, 0 ≤ c ∧ c < n) :
  Calls Tryz.prog 123 #[.agg #[.int .u8 5, .int .i64 0, .int .i64 0, .slice none 0 0, .slice (some ⟨cb, 0, none⟩) cs.length cc, .slice none 0 0, .slice none 0 0, .slice none 0 0, .slice none 0 0, .slice none 0 0, .int .i64 0, .int .i64 0, .slice ka kn kc], .slice la ln lc, .int .i64 n] w fun ev w' => ev = .returned (.int .i64 cs.length) ∧ Below w.heap.size w w' := by
 have HC : Hid (∀ W, Below w.heap.size w W → W.cell? ⟨w.heap.size + 1 + 1 + 1, 0, none⟩ = some (.func (.func 159) #[] #[.pointer (some ⟨w.heap.size + 1 + 1, 0, none⟩)]) → W.cell? ⟨w.heap.size + 1 + 1, 0, none⟩ = some (.int .i64 n) →
   Calls Tryz.prog 160 #[.slice (some ⟨cb, 0, none⟩) cs.length cc, .pointer (some ⟨w.heap.size + 1 + 1 + 1, 0, none⟩)] W fun ev w' => ev = .returned (.bool true) ∧ w' = W) :=
  Lib.hid fun W hb h1 h2 => closure_160 n _ _ cb cc cs W h1 h2 (fun i c hi => cell_below hb hcb (hcs i c hi)) hl hin
 obtain ⟨K, eK⟩ : ∃ K, K = cs.length := ⟨_, rfl⟩
 rw [← eK] at HC hl ⊢
 clear hcs hin eK
 have HN := Lib.hid need_92
 go_enter Tryz.func123, Tryz.ntmps123
 go_wp2_with fail
 refine (HC.out _ (below4 _ _ _ _ _) (by simp [go_sem]) (by simp [go_sem])).mono ?_
 rintro ev w2 ⟨rfl, rfl⟩
 go_wp2_with fail
 refine (HN.out _).mono ?_
 rintro ev w2 ⟨⟨v, rfl⟩, rfl⟩
 go_wp2
 go_ret
 exact ⟨rfl, below4 _ _ _ _ _⟩
end Go.Proofs.YtmmhedlagnjbiaaGreatDoor
namespace Go.Proofs.YtmmhedlagnjbiaaGreatDoor
open Go.RowKit Go.Pen
attribute [local go_sem] Oper.semAt_some
theorem info105 : (Tryz.prog.info? 105).map (fun i => (i.zero, i.size, i.bytes)) = some (some (.agg #[.int .i64 0, .int .i64 0]), 2, 16) := by kernel_rfl
structure But (B : Nat) (w w' : World) : Prop where
 os : w'.os = w.os
 tape : w'.tape = w.tape
 output : w'.output = w.output
 size : w.heap.size ≤ w'.heap.size
 block : ∀ g, g < w.heap.size → g ≠ B → w'.heap[g]? = w.heap[g]?
theorem But.of_below {B : Nat} {w w' : World} (h : Below w.heap.size w w') : But B w w' := ⟨h.os, h.tape, h.output, h.size, fun g hg _ => h.block g hg⟩
theorem But.trans {B : Nat} {a b c : World} (h : But B a b) (k : But B b c) : But B a c :=
 ⟨k.os.trans h.os, k.tape.trans h.tape, k.output.trans h.output, Nat.le_trans h.size k.size, fun g hg hn => (k.block g (Nat.lt_of_lt_of_le hg h.size) hn).trans (h.block g hg hn)⟩
theorem But.below {B n : Nat} {w w' : World} (h : But B w w') (hn : n ≤ B) (hs : n ≤ w.heap.size) : Below n w w' := ⟨h.os, h.tape, h.output, h.size, fun g hg => h.block g (by omega) (by omega)⟩
theorem But.set {B : Nat} {w w' : World} (h : But B w w') {o : Nat} {v : Value} : But B w (w'.setCell ⟨B, o, none⟩ v) :=
 ⟨h.os, h.tape, h.output, by simp [World.setCell, h.size], fun g hg hn => (heap_set_ne hn).trans (h.block g hg hn)⟩
structure Fnd (w : World) (B mb ms ma : Nat) (n : Int) (free : Value) : Prop where
 at_ : w.heap[B]? = some (.cells #[.int .i64 n, .map (some mb), .map (some ms), .map (some ma), free] 103 (0, 0))
 bound : w.heap[mb]? = some (.map #[] 0)
 scope : w.heap[ms]? = some (.map #[] 0)
theorem Fnd.kept {w w' : World} {B mb ms ma : Nat} {n : Int} {free : Value} (h : Fnd w B mb ms ma n free) (hb : Below w.heap.size w w') : Fnd w' B mb ms ma n free :=
 ⟨(hb.block _ (lt_of_heap h.at_)).trans h.at_, (hb.block _ (lt_of_heap h.bound)).trans h.bound, (hb.block _ (lt_of_heap h.scope)).trans h.scope⟩
def Got (w : World) (lo : Nat) (free : Value) (i a : Int) : Prop := ∃ g cap, free = .slice (some ⟨g, 0, none⟩) 1 cap ∧ lo ≤ g ∧ w.cell? ⟨g, 0, none⟩ = some (.int .i64 i) ∧ w.cell? ⟨g, 1, none⟩ = some (.int .i64 a)
theorem get_end {w wr W : World} {B mb ms ma g cap : Nat} {n i a : Int} (ho : W.ownsRow wr.heap.size 105 2 (.slice (some ⟨g, 0, none⟩) (0 + 1) cap) (0 + 1) ([] ++ [.int .i64 i, .int .i64 a])) (hb : Below wr.heap.size wr W)
  (hB : Fnd wr B mb ms ma n (.slice none 0 0)) (hw : Below w.heap.size w wr) :
  ∃ free, Fnd (W.setCell ⟨B, 4, none⟩ (.slice (some ⟨g, 0, none⟩) (0 + 1) cap)) B mb ms ma n free ∧ Got (W.setCell ⟨B, 4, none⟩ (.slice (some ⟨g, 0, none⟩) (0 + 1) cap)) w.heap.size free i a ∧ But B w (W.setCell ⟨B, 4, none⟩ (.slice (some ⟨g, 0, none⟩) (0 + 1) cap)) := by
 have hf := hB.kept hb
 have hBl := lt_of_heap hB.at_
 obtain ⟨hg1, hg2⟩ := ho.lt g rfl
 have hs := hw.size
 have hne : B ≠ g := by omega
 have n1 : mb ≠ B := fun e => by have h := hf.bound; rw [e, hf.at_] at h; cases h
 have n2 : ms ≠ B := fun e => by have h := hf.scope; rw [e, hf.at_] at h; cases h
 refine ⟨.slice (some ⟨g, 0, none⟩) (0 + 1) cap, ⟨heap_set_same hf.at_, (heap_set_ne n1).trans hf.bound, (heap_set_ne n2).trans hf.scope⟩, ⟨g, cap, rfl, by omega, ?_, ?_⟩, (But.of_below (hw.trans (hb.mono hs))).set⟩
 ·rw [cell_set_ne hne]; exact ho.cellAt 0 (by decide)
 ·rw [cell_set_ne hne]; exact ho.cellAt 1 (by decide)
theorem get_117 (a i : Int) (B mb ms ma : Nat) (n : Int) (w : World) (hf : Fnd w B mb ms ma n (.slice none 0 0)) (h0 : 0 ≤ i) :
  Calls Tryz.prog 117 #[.pointer (some ⟨B, 0, none⟩), .agg #[.int .u8 1, .int .i64 a, .int .i64 i, .slice none 0 0, .slice none 0 0, .slice none 0 0, .slice none 0 0, .slice none 0 0, .slice none 0 0, .slice none 0 0, .int .i64 0, .int .i64 0, .slice none 0 0]] w fun ev w' => ev = .returned (.int .i64 a) ∧ ∃ free, Fnd w' B mb ms ma n free ∧ Got w' w.heap.size free i a ∧ But B w w' := by
 obtain ⟨i0, hi0, hz0, hz1, hz2⟩ := info_parts info105
 have hB := hf.at_
 have c2 : w.cell? ⟨B, 2, none⟩ = some (.map (some ms)) := cell_of_heap hB rfl
 have sB := lt_of_heap hB
 have HN := Lib.hid need_92
 have hbx := (Below.heap_alloc w (.cells #[.int .u8 1, .int .i64 a, .int .i64 i, .slice none 0 0, .slice none 0 0, .slice none 0 0, .slice none 0 0, .slice none 0 0, .slice none 0 0, .slice none 0 0, .int .i64 0, .int .i64 0, .slice none 0 0] 56) ms (lt_of_heap hf.scope)).trans hf.scope
 have hlk : ∀ q, (Instr.lookup 99 (.map (some ms)) (.int .i64 i) true).run Tryz.prog ((w.alloc (.cells #[.int .u8 1, .int .i64 a, .int .i64 i, .slice none 0 0, .slice none 0 0, .slice none 0 0, .slice none 0 0, .slice none 0 0, .slice none 0 0, .slice none 0 0, .int .i64 0, .int .i64 0, .slice none 0 0] 56)).drewN q) = .ok (.tuple #[.int .i64 0, .bool false]) ((w.alloc (.cells #[.int .u8 1, .int .i64 a, .int .i64 i, .slice none 0 0, .slice none 0 0, .slice none 0 0, .slice none 0 0, .slice none 0 0, .slice none 0 0, .slice none 0 0, .int .i64 0, .int .i64 0, .slice none 0 0] 56)).drewN q) := fun q => by
  have h := lookup_none (t := 99) (w := (w.alloc (.cells #[.int .u8 1, .int .i64 a, .int .i64 i, .slice none 0 0, .slice none 0 0, .slice none 0 0, .slice none 0 0, .slice none 0 0, .slice none 0 0, .slice none 0 0, .int .i64 0, .int .i64 0, .slice none 0 0] 56)).drewN q) Tryz.underlying99 (zero_int _) hbx i true
  simpa using h
 obtain ⟨H, eH⟩ : ∃ H, H = w.heap.size := ⟨_, rfl⟩
 have HF := Lib.hid hf
 have EH := Lib.hid eH
 clear hf hB hbx eH
 go_enter Tryz.func117, Tryz.ntmps117
 go_wp2_with fail
 refine (HN.out _).mono ?_
 rintro ev w2 ⟨⟨v, rfl⟩, rfl⟩
 go_wp2_with fail
 go_quiet (fail)
 clear hlk
 go_upto_region 5 with fail
 obtain ⟨wr, hwr⟩ : ∃ wr, wr = ((w.alloc (.cells #[.int .u8 1, .int .i64 a, .int .i64 i, .slice none 0 0, .slice none 0 0, .slice none 0 0, .slice none 0 0, .slice none 0 0, .slice none 0 0, .slice none 0 0, .int .i64 0, .int .i64 0, .slice none 0 0] 56)).drewN nq).drew := ⟨_, rfl⟩
 have hb0 : Below w.heap.size w wr := by
  rw [hwr]
  exact (Go.Pen.below_drewN ((Below.refl _ _).alloc (Nat.le_refl _) _)).drew
 have hx0 : wr.heap[H]? = some (.cells #[.int .u8 1, .int .i64 a, .int .i64 i, .slice none 0 0, .slice none 0 0, .slice none 0 0, .slice none 0 0, .slice none 0 0, .slice none 0 0, .slice none 0 0, .int .i64 0, .int .i64 0, .slice none 0 0] 56 (0, 0)) := by
  rw [hwr, EH.out]; exact heap_alloc_new w _
 have hfw := HF.out.kept hb0
 have hBl := lt_of_heap hfw.at_
 have hne : B ≠ H := fun e => by
  have h := hfw.at_
  rw [e, hx0] at h
  cases h
 have hs : ∀ W, Below wr.heap.size wr W → W.cell? ⟨H, 1, none⟩ = some (.int .i64 a) ∧ W.cell? ⟨H, 2, none⟩ = some (.int .i64 i) := fun W hb =>
  ⟨cell_of_heap ((hb.block _ (lt_of_heap hx0)).trans hx0) rfl, cell_of_heap ((hb.block _ (lt_of_heap hx0)).trans hx0) rfl⟩
 have hs2 : ∀ (W : World) (v : Value), Below wr.heap.size wr W → (W.setCell ⟨B, 4, none⟩ v).cell? ⟨H, 1, none⟩ = some (.int .i64 a) ∧ (W.setCell ⟨B, 4, none⟩ v).cell? ⟨H, 2, none⟩ = some (.int .i64 i) := fun W v hb =>
  ⟨(cell_set_ne hne).trans (hs W hb).1, (cell_set_ne hne).trans (hs W hb).2⟩
 have hx1 : ∀ W, Below wr.heap.size wr W → W.cell? ⟨B, 4, none⟩ = some (.slice none 0 0) := fun W hb => cell_of_heap (hfw.kept hb).at_ rfl
 have hxf : ∀ W, Below wr.heap.size wr W → W.frozen? ⟨B, 4, none⟩ = false := fun W hb => frozen_of_heap (hfw.kept hb).at_
 have HS := Lib.hid hs
 have HS2 := Lib.hid hs2
 have HX := Lib.hid hx1
 have HXF := Lib.hid hxf
 have HB := Lib.hid hfw
 have HBW := Lib.hid hb0
 have HNE := Lib.hid hne
 have CB0 := Lib.hid (Below.refl wr.heap.size wr)
 have HWR := Lib.hid hwr
 clear hs hs2 hx1 hxf hfw hb0 hne hx0 hBl hwr c2 sB
 refine wp_region_held_drew (S := fun W => W.cell? ⟨H, 1, none⟩ = some (.int .i64 a) ∧ W.cell? ⟨H, 2, none⟩ = some (.int .i64 i)) (by kernel_rfl) (by rw [← HWR.out]; exact HS.out wr CB0.out) (fun hHeld => ?_)
 rw [← HWR.out] at hHeld ⊢
 rw [← EH.out]
 refine wpAnyH_take (i := 0) (oi := ⟨some 29, _, _, _, _, _⟩) (v := ?_) rfl (by kernel_rfl) (by kernel_rfl) (by kernel_rfl) (fun _ _ _ h => h) (Or.inl ⟨by rfl, ?_⟩) (by assumption) ?_; rotate_left; (intro w hSw; (try dsimp only at hSw); go_simp; (try with_reducible rfl)); (try simp only [Act.put, sA, sB, sC])
 refine wpAnyH_take (i := 1) (oi := ⟨some 30, _, _, _, _, _⟩) (v := ?_) rfl (by kernel_rfl) (by kernel_rfl) (by kernel_rfl) (fun _ _ _ h => h) (Or.inl ⟨by rfl, ?_⟩) (by assumption) ?_; rotate_left; (intro w hSw; (try dsimp only at hSw); go_simp; (try with_reducible rfl)); (try simp only [Act.put, sA, sB, sC])
 refine wpAnyH_take (i := 2) (oi := ⟨some 31, _, _, _, _, _⟩) (v := ?_) rfl (by kernel_rfl) (by kernel_rfl) (by kernel_rfl) (fun _ _ _ h => h) (Or.inl ⟨by rfl, ?_⟩) (by assumption) ?_; rotate_left; (intro w hSw; (try dsimp only at hSw); go_simp; (try with_reducible rfl)); (try simp only [Act.put, sA, sB, sC])
 refine wpAnyH_take (i := 3) (oi := ⟨some 32, _, _, _, _, _⟩) (v := ?_) rfl (by kernel_rfl) (by kernel_rfl) (by kernel_rfl) (fun _ _ _ h => h) (Or.inl ⟨by rfl, ?_⟩) (by assumption) ?_; rotate_left; (intro w hSw; (try dsimp only at hSw); go_simp; (try with_reducible rfl)); (try simp only [Act.put, sA, sB, sC])
 refine wpAnyH_take (i := 5) (oi := ⟨some 34, _, _, _, _, _⟩) (v := ?_) rfl (by kernel_rfl) (by kernel_rfl) (by kernel_rfl) (fun _ _ _ h => h) (Or.inl ⟨by rfl, ?_⟩) (by assumption) ?_; rotate_left; (intro w hSw; (try dsimp only at hSw); go_simp; (try with_reducible rfl)); (try simp only [Act.put, sA, sB, sC])
 refine wpAnyH_take (i := 6) (oi := ⟨some 35, _, _, _, _, _⟩) (v := ?_) rfl (by kernel_rfl) (by kernel_rfl) (by kernel_rfl) (fun _ _ _ h => h) (Or.inl ⟨by rfl, ?_⟩) (by assumption) ?_; rotate_left; (intro w hSw; (try dsimp only at hSw); go_simp; (try with_reducible rfl)); (try simp only [Act.put, sA, sB, sC])
 refine wpAnyH_take (i := 7) (oi := ⟨some 36, _, _, _, _, _⟩) (v := ?_) rfl (by kernel_rfl) (by kernel_rfl) (by kernel_rfl) (fun _ _ _ h => h) (Or.inl ⟨by rfl, ?_⟩) (by assumption) ?_; rotate_left; (intro w hSw; (try dsimp only at hSw); go_simp; (try with_reducible rfl)); (try simp only [Act.put, sA, sB, sC])
 refine wpAnyH_take (i := 8) (oi := ⟨some 37, _, _, _, _, _⟩) (v := ?_) rfl (by kernel_rfl) (by kernel_rfl) (by kernel_rfl) (fun _ _ _ h => h) (Or.inl ⟨by rfl, ?_⟩) (by assumption) ?_; rotate_left; (intro w hSw; (try dsimp only at hSw); go_simp; (try with_reducible rfl)); (try simp only [Act.put, sA, sB, sC])
 refine wpAnyH_take (i := 9) (oi := ⟨some 38, _, _, _, _, _⟩) (v := ?_) rfl (by kernel_rfl) (by kernel_rfl) (by kernel_rfl) (fun _ _ _ h => h) (Or.inl ⟨by rfl, ?_⟩) (by assumption) ?_; rotate_left; (intro w hSw; (try dsimp only at hSw); go_simp; (try with_reducible rfl)); (try simp only [Act.put, sA, sB, sC])
 refine wpAnyH_ready (rs := [4, 10]) (by kernel_rfl) (by simp) ?_
 refine AllReadyH.cons (o := ⟨some 33, _, _, _, _, _⟩) rfl (fun KK hK => ?_) (AllReadyH.cons (o := ⟨some 39, _, _, _, _, _⟩) rfl (fun KK hK => ?_) (AllReadyH.nil))
 ·have xk := HX.out _ CB0.out
  go_simp
  clear xk
  refine hK.out _ _ (HS.out _ CB0.out) (fun hHeld => ?_)
  clear hK KK
  skip
  refine wpAnyH_ready (rs := [10]) (by kernel_rfl) (by simp) ?_
  refine AllReadyH.cons (o := ⟨some 39, _, _, _, _, _⟩) rfl (fun KK hK => ?_) (AllReadyH.nil)
  go_simp
  have CB2 := Lib.hid (show Below wr.heap.size wr (wr.alloc (.cells #[.int .i64 i, .int .i64 a] 105)) from CB0.out.alloc CB0.out.size _)
  refine hK.out _ _ (HS.out _ CB2.out) (fun hHeld => ?_)
  clear hK KK
  skip
  refine wpAnyH_ready (rs := [11]) (by kernel_rfl) (by simp) ?_
  refine AllReadyH.cons (o := ⟨some 40, _, _, _, _, _⟩) rfl (fun KK hK => ?_) (AllReadyH.nil)
  refine step_append_lies _ rfl (.tmp 33) (.tmp 39) 101 rfl wr.heap.size 105 i0 _ 2 16 Tryz.underlying101 hi0 hz0 hz1 hz2 rfl (by decide) (.slice none 0 0) 0 [] (by simp [Act.eval]) (World.ownsRow_nil _ _ _ _) ⟨wr.heap.size, 0, none⟩ 1 1 [.int .i64 i, .int .i64 a] (by simp [Act.eval]) rfl (World.news_of_block (cs := #[.int .i64 i, .int .i64 a]) (heap_alloc_new _ _)) (by intro y hy; simp at hy; rcases hy with rfl | rfl <;> rfl) (by decide) (by unfold maxLen; omega) (by omega) CB2.out.size _ rfl ?_
  intro g5 cap5 Z3 hown5 hgrow5 hat5 _
  have HOW3 := Lib.hid hown5
  have CB3 := Lib.hid (show Below wr.heap.size wr Z3 from CB2.out.grown hgrow5 CB2.out.size (fun q hq => by cases hq))
  clear hown5 hgrow5 hat5
  refine hK.out _ _ (HS.out _ CB3.out) (fun hHeld => ?_)
  clear hK KK
  simp only [Act.put, sA, sB, sC]
  refine wpAnyH_take (i := 12) (oi := ⟨some 41, _, _, _, _, _⟩) (v := ?_) rfl (by kernel_rfl) (by kernel_rfl) (by kernel_rfl) (fun _ _ _ h => h) (Or.inl ⟨by rfl, ?_⟩) (by assumption) ?_; rotate_left; (intro w hSw; (try dsimp only at hSw); go_simp; (try with_reducible rfl)); (try simp only [Act.put, sA, sB, sC])
  refine wpAnyH_take (i := 13) (oi := ⟨some 42, _, _, _, _, _⟩) (v := ?_) rfl (by kernel_rfl) (by kernel_rfl) (by kernel_rfl) (fun _ _ _ h => h) (Or.inl ⟨by rfl, ?_⟩) (by assumption) ?_; rotate_left; (intro w hSw; (try dsimp only at hSw); go_simp; (try with_reducible rfl)); (try simp only [Act.put, sA, sB, sC])
  refine wpAnyH_ready (rs := [14]) (by kernel_rfl) (by simp) ?_
  refine AllReadyH.cons (o := ⟨none, _, _, _, _, _⟩) rfl (fun KK hK => ?_) (AllReadyH.nil)
  have xk := HX.out _ CB3.out
  have xf := HXF.out _ CB3.out
  go_simp
  clear xk xf
  refine hK.out _ _ (HS2.out _ _ CB3.out) (fun hHeld => ?_)
  clear hK KK
  skip
  refine wpAnyH_done (by kernel_rfl) ?_ _
  have HEND := Lib.hid (get_end HOW3.out CB3.out HB.out HBW.out)
  have xa := (HS.out _ CB3.out).1
  have hne := HNE.out
  go_wp2
  go_ret
  exact ⟨rfl, HEND.out⟩
 ·go_simp
  have CB5 := Lib.hid (show Below wr.heap.size wr (wr.alloc (.cells #[.int .i64 i, .int .i64 a] 105)) from CB0.out.alloc CB0.out.size _)
  refine hK.out _ _ (HS.out _ CB5.out) (fun hHeld => ?_)
  clear hK KK
  skip
  refine wpAnyH_ready (rs := [4]) (by kernel_rfl) (by simp) ?_
  refine AllReadyH.cons (o := ⟨some 33, _, _, _, _, _⟩) rfl (fun KK hK => ?_) (AllReadyH.nil)
  have xk := HX.out _ CB5.out
  go_simp
  clear xk
  refine hK.out _ _ (HS.out _ CB5.out) (fun hHeld => ?_)
  clear hK KK
  skip
  refine wpAnyH_ready (rs := [11]) (by kernel_rfl) (by simp) ?_
  refine AllReadyH.cons (o := ⟨some 40, _, _, _, _, _⟩) rfl (fun KK hK => ?_) (AllReadyH.nil)
  refine step_append_lies _ rfl (.tmp 33) (.tmp 39) 101 rfl wr.heap.size 105 i0 _ 2 16 Tryz.underlying101 hi0 hz0 hz1 hz2 rfl (by decide) (.slice none 0 0) 0 [] (by simp [Act.eval]) (World.ownsRow_nil _ _ _ _) ⟨wr.heap.size, 0, none⟩ 1 1 [.int .i64 i, .int .i64 a] (by simp [Act.eval]) rfl (World.news_of_block (cs := #[.int .i64 i, .int .i64 a]) (heap_alloc_new _ _)) (by intro y hy; simp at hy; rcases hy with rfl | rfl <;> rfl) (by decide) (by unfold maxLen; omega) (by omega) CB5.out.size _ rfl ?_
  intro g5 cap5 Z7 hown5 hgrow5 hat5 _
  have HOW7 := Lib.hid hown5
  have CB7 := Lib.hid (show Below wr.heap.size wr Z7 from CB5.out.grown hgrow5 CB5.out.size (fun q hq => by cases hq))
  clear hown5 hgrow5 hat5
  refine hK.out _ _ (HS.out _ CB7.out) (fun hHeld => ?_)
  clear hK KK
  simp only [Act.put, sA, sB, sC]
  refine wpAnyH_take (i := 12) (oi := ⟨some 41, _, _, _, _, _⟩) (v := ?_) rfl (by kernel_rfl) (by kernel_rfl) (by kernel_rfl) (fun _ _ _ h => h) (Or.inl ⟨by rfl, ?_⟩) (by assumption) ?_; rotate_left; (intro w hSw; (try dsimp only at hSw); go_simp; (try with_reducible rfl)); (try simp only [Act.put, sA, sB, sC])
  refine wpAnyH_take (i := 13) (oi := ⟨some 42, _, _, _, _, _⟩) (v := ?_) rfl (by kernel_rfl) (by kernel_rfl) (by kernel_rfl) (fun _ _ _ h => h) (Or.inl ⟨by rfl, ?_⟩) (by assumption) ?_; rotate_left; (intro w hSw; (try dsimp only at hSw); go_simp; (try with_reducible rfl)); (try simp only [Act.put, sA, sB, sC])
  refine wpAnyH_ready (rs := [14]) (by kernel_rfl) (by simp) ?_
  refine AllReadyH.cons (o := ⟨none, _, _, _, _, _⟩) rfl (fun KK hK => ?_) (AllReadyH.nil)
  have xk := HX.out _ CB7.out
  have xf := HXF.out _ CB7.out
  go_simp
  clear xk xf
  refine hK.out _ _ (HS2.out _ _ CB7.out) (fun hHeld => ?_)
  clear hK KK
  skip
  refine wpAnyH_done (by kernel_rfl) ?_ _
  have HEND := Lib.hid (get_end HOW7.out CB7.out HB.out HBW.out)
  have xa := (HS.out _ CB7.out).1
  have hne := HNE.out
  go_wp2
  go_ret
  exact ⟨rfl, HEND.out⟩
end Go.Proofs.YtmmhedlagnjbiaaGreatDoor
