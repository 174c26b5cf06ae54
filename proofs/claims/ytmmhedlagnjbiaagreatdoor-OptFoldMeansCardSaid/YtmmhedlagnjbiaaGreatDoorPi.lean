import Derived.Test.YtmmhedlagnjbiaaGreatDoorPg
import Derived.BigQuiet
/- our texts, shortened by program (pack.py) -/
set_option maxRecDepth 100000
set_option maxHeartbeats 4000000
namespace Go.Proofs.YtmmhedlagnjbiaaGreatDoor
open Go.RowKit Go.Pen
attribute [local go_sem] Oper.semAt_some
theorem look_rel0 (w : World) : Calls Tryz.prog 60 #[.agg #[.int .u8 0, .int .i64 0, .int .i64 0, .slice none 0 0, .slice none 0 0, .slice none 0 0, .slice none 0 0, .slice none 0 0, .slice none 0 0, .slice none 0 0, .int .i64 0, .int .i64 0, .slice none 0 0]] w fun ev w' => ev = .returned (.tuple #[.pointer none, .int .i64 0, .int .u16 190]) ∧ Below w.heap.size w w' := by
 have hmm := @run_makeMap Tryz.prog
 have hmf : ∀ (fn : Fn) (first cap : Array Value) (w : World), (Instr.makeFunc fn first cap).run Tryz.prog w = .ok (.func fn first cap) w := fun _ _ _ _ => rfl
 obtain ⟨H, eH⟩ : ∃ H, H = w.heap.size := ⟨_, rfl⟩
 obtain ⟨w1, hw1⟩ : ∃ w1, w1 = (((((((w.alloc (.cells #[.int .u8 0, .int .i64 0, .int .i64 0, .slice none 0 0, .slice none 0 0, .slice none 0 0, .slice none 0 0, .slice none 0 0, .slice none 0 0, .slice none 0 0, .int .i64 0, .int .i64 0, .slice none 0 0] 56)).alloc (.cells #[.pointer (some ⟨w.heap.size + 1 + 1 + 1 + 1 + 1 + 1 + 1, 0, none⟩)] 95)).alloc (.cells #[.int .i64 0] 3)).alloc (.cells #[.int .u16 0] 31)).alloc (.map #[] 0)).alloc (.map #[] 0)).alloc (.map #[] 0)).alloc (.cells #[.int .i64 0, .map (some (w.heap.size + 1 + 1 + 1 + 1)), .map (some (w.heap.size + 1 + 1 + 1 + 1 + 1)), .map (some (w.heap.size + 1 + 1 + 1 + 1 + 1 + 1)), .slice none 0 0] 103) := ⟨_, rfl⟩
 have hall : w1 = [.cells #[.int .u8 0, .int .i64 0, .int .i64 0, .slice none 0 0, .slice none 0 0, .slice none 0 0, .slice none 0 0, .slice none 0 0, .slice none 0 0, .slice none 0 0, .int .i64 0, .int .i64 0, .slice none 0 0] 56, .cells #[.pointer (some ⟨w.heap.size + 1 + 1 + 1 + 1 + 1 + 1 + 1, 0, none⟩)] 95, .cells #[.int .i64 0] 3, .cells #[.int .u16 0] 31, .map #[] 0, .map #[] 0, .map #[] 0, .cells #[.int .i64 0, .map (some (w.heap.size + 1 + 1 + 1 + 1)), .map (some (w.heap.size + 1 + 1 + 1 + 1 + 1)), .map (some (w.heap.size + 1 + 1 + 1 + 1 + 1 + 1)), .slice none 0 0] 103].foldl World.alloc w := hw1
 have T := fun k => congrArg (fun W : World => W.heap[w.heap.size + k]?) hall
 simp only [allocs_at] at T
 rw [← eH] at T
 have hb1 : Below w.heap.size w w1 := by rw [hall]; exact allocs_below _ _
 have hf1 : Fnd w1 (H + 1 + 1 + 1 + 1 + 1 + 1 + 1) (H + 1 + 1 + 1 + 1) (H + 1 + 1 + 1 + 1 + 1) (H + 1 + 1 + 1 + 1 + 1 + 1) 0 (.slice none 0 0) := ⟨T 7, T 4, T 5⟩
 obtain ⟨B, eB⟩ : ∃ B, B = H + 1 + 1 + 1 + 1 + 1 + 1 + 1 := ⟨_, rfl⟩
 rw [← eB] at hf1
 have t1 : w1.heap[H + 1]? = some (.cells #[.pointer (some ⟨B, 0, none⟩)] 95 (0, 0)) := by rw [eB]; exact T 1
 have t2 : w1.heap[H + 1 + 1]? = some (.cells #[.int .i64 0] 3 (0, 0)) := T 2
 have t3 : w1.heap[H + 1 + 1 + 1]? = some (.cells #[.int .u16 0] 31 (0, 0)) := T 3
 have HCT := Lib.hid (arity_no B _ _ _ w1 hf1)
 have HB1 := Lib.hid hb1
 have HT1 := Lib.hid t1
 have HT2 := Lib.hid t2
 have HT3 := Lib.hid t3
 have HW1 := Lib.hid hw1
 have EH := Lib.hid eH
 have EB := Lib.hid eB
 clear hb1 t1 t2 t3 hw1 hall T hf1 eH
 go_enter_defers Tryz.func60, Tryz.ntmps60
 go_wp2_with fail
 rw [← EH.out, ← EB.out]
 clear eB
 have hz := HW1.out
 rw [← EH.out, ← EB.out] at hz
 rw [← hz]
 clear hz HW1
 refine HCT.out.mono ?_
 rintro ev w2 ⟨rfl, hb2⟩
 have hBH : H + 1 + 1 + 1 < B := by have := EB.out; omega
 have u1 := (hb2.block _ (lt_of_heap HT1.out) (by omega)).trans HT1.out
 have u2 := (hb2.block _ (lt_of_heap HT2.out) (by omega)).trans HT2.out
 have u3 := (hb2.block _ (lt_of_heap HT3.out) (by omega)).trans HT3.out
 have hlow : Below w.heap.size w w2 := HB1.out.trans (hb2.below (by have := EH.out; omega) HB1.out.size)
 have U1 := Lib.hid u1
 have U2 := Lib.hid u2
 have U3 := Lib.hid u3
 have HLOW := Lib.hid hlow
 clear u1 u2 u3 hb2 hlow HB1 HT1 HT2 HT3 HCT
 go_wp2_with fail
 refine leaves_cons (f := 90) (args := #[.pointer (some ⟨H + 1, 0, none⟩), .pointer (some ⟨H + 1 + 1, 0, none⟩), .pointer (some ⟨H + 1 + 1 + 1, 0, none⟩)]) (by simp) (by simp [go_sem]) ?_
 refine (catch_panicking (H + 1) _ _ _ w2 U1.out U2.out U3.out).mono ?_
 rintro e u' w9 ⟨rfl, rfl, h1, h2, h3, hb⟩
 have y0 : w9.cell? ⟨H + 1, 0, none⟩ = some (.pointer none) := cell_of_heap h1 rfl
 have y1 : w9.cell? ⟨H + 1 + 1, 0, none⟩ = some (.int .i64 0) := cell_of_heap h2 rfl
 have y2 : w9.cell? ⟨H + 1 + 1 + 1, 0, none⟩ = some (.int .u16 190) := cell_of_heap h3 rfl
 exact ⟨.tuple #[.pointer none, .int .i64 0, .int .u16 190], by simp [results, Tryz.f60, go_sem, y0, y1, y2], rfl, HLOW.out.trans (hb.mono (by have := EH.out; omega))⟩
theorem arity_33_no (fv : Value) (w : World) : Calls Tryz.prog 33 #[.agg #[.int .u8 0, .int .i64 0, .int .i64 0, .slice none 0 0, .slice none 0 0, .slice none 0 0, .slice none 0 0, .slice none 0 0, .slice none 0 0, .slice none 0 0, .int .i64 0, .int .i64 0, .slice none 0 0], fv] w fun ev w' => ev = .returned (.tuple #[.int .i64 0, .int .u16 190]) ∧ Below w.heap.size w w' := by
 have HL := Lib.hid look_rel0
 go_enter Tryz.func33, Tryz.ntmps33
 go_wp2_with fail
 refine (HL.out _).mono ?_
 rintro ev w2 ⟨rfl, hb⟩
 have HB := Lib.hid hb
 clear hb
 go_wp2_with fail
 refine bodyPost_ret (results_tmp2 rfl _ _ _) rfl ?_
 exact ⟨rfl, ((Below.refl _ _).alloc (Nat.le_refl _) _).trans (HB.out.mono (by simp))⟩
theorem arity_33 (r : RT) (cv kv : Value) (b m : Nat) (l : List (Int × Int)) (w : World) (hat : r.On (fun g => g < w.heap.size) w cv kv) (hok : r.ok) (hn : r.count ≤ 300) (hm : ArFun w b m l) (hg : mGet l r.getI = some r.getA) :
  Calls Tryz.prog 33 #[r.agg cv kv, .func (.func 61) #[] #[.pointer (some ⟨b, 0, none⟩)]] w fun ev w' => ev = .returned (.tuple #[.int .i64 r.wide, .int .u16 0]) ∧ Below w.heap.size w w' := by
 have hb0 : Below w.heap.size w (w.alloc (.cells #[.int .u8 r.kind, .int .i64 r.ar, .int .i64 r.id, .slice none 0 0, cv, .slice none 0 0, .slice none 0 0, .slice none 0 0, .slice none 0 0, .slice none 0 0, .int .i64 0, .int .i64 0, kv] 56)) := (Below.refl _ _).alloc (Nat.le_refl _) _
 have hl := look_60 r cv kv (w.alloc (.cells #[.int .u8 r.kind, .int .i64 r.ar, .int .i64 r.id, .slice none 0 0, cv, .slice none 0 0, .slice none 0 0, .slice none 0 0, .slice none 0 0, .slice none 0 0, .int .i64 0, .int .i64 0, kv] 56)) ((hat.below hb0).wide fun g hg => by simp; omega) hok hn
 have h61 : ∀ W, Below w.heap.size w W → Calls Tryz.prog 61 #[.int .i64 r.getI, .pointer (some ⟨b, 0, none⟩)] W fun ev w' => ev = .returned (.int .i64 r.getA) ∧ w' = W := fun W hb => by
  have h := closure_61 r.getI b m l W ⟨cell_below hb (World.block_lt_of_cell? w _ hm.1) hm.1, (hb.block _ (lt_of_heap hm.2)).trans hm.2⟩
  rw [hg] at h
  exact h
 unfold RT.agg at hl ⊢
 have HL := Lib.hid hl
 have H61 := Lib.hid h61
 have HB0 := Lib.hid hb0
 clear hl h61 hb0 hat hok hn hm hg
 go_enter Tryz.func33, Tryz.ntmps33
 go_wp2_with fail
 refine HL.out.mono ?_
 rintro ev w2 ⟨B, mb, ms, ma, n, free, rfl, hf, hg, hb⟩
 obtain ⟨g, cap, rfl, hlo, z0, z1⟩ := hg
 have HB2 := Lib.hid (HB0.out.trans (hb.mono HB0.out.size))
 have c4 : w2.cell? ⟨B, 4, none⟩ = some (.slice (some ⟨g, 0, none⟩) 1 cap) := cell_of_heap hf.at_ rfl
 have sB := lt_of_heap hf.at_
 have sG := World.block_lt_of_cell? w2 _ z0
 obtain ⟨kw, ekw⟩ : ∃ kw, kw = r.wide := ⟨_, rfl⟩
 obtain ⟨ki, eki⟩ : ∃ ki, ki = r.getI := ⟨_, rfl⟩
 obtain ⟨ka, eka⟩ : ∃ ka, ka = r.getA := ⟨_, rfl⟩
 rw [← ekw]
 rw [← eki] at z0
 rw [← eka] at z1
 simp only [← eki, ← eka] at H61
 have EKW := Lib.hid ekw
 clear hf hlo hb HL ekw eki eka
 go_wp2_with fail
 go_loopg [25] 1 (fun q s25 wr => (q = 1 ∧ s25 = .int .i64 0 ∧ wr = w2) ∨ (q = 0 ∧ s25 = .int .i64 1 ∧ Below w2.heap.size w2 wr))
 case atStart => exact .inl ⟨rfl, rfl, rfl⟩
 case round =>
  rcases hrel with ⟨rfl, rfl, rfl⟩ | ⟨rfl, rfl, hb⟩
  ·go_wp2_with fail
   go_quiet ((go_at_call 61; exact Calls.quiet_of_same (H61.out _ (HB2.out.trans ((Go.Pen.below_drewN ((Below.refl _ _).alloc (Nat.le_refl _) _)).mono HB2.out.size)))))
   go_wp2
   go_roundg 0
   case measure => omega
   case rel => exact .inr ⟨rfl, by go_num, Go.Pen.below_drewN ((Below.refl _ _).alloc (Nat.le_refl _) _)⟩
  ·have HB := Lib.hid hb
   clear hb z0 z1 c4 sB sG
   go_wp2_with fail
   refine bodyPost_ret (results_tmp2 rfl _ _ _) rfl ?_
   exact ⟨by rw [← EKW.out]; rfl, HB2.out.trans (HB.out.mono HB2.out.size)⟩
end Go.Proofs.YtmmhedlagnjbiaaGreatDoor
namespace Go.Proofs.YtmmhedlagnjbiaaGreatDoor
open Go.RowKit Go.Pen
attribute [local go_sem] Oper.semAt_some
theorem info56 : (Tryz.prog.info? 56).map (fun i => (i.zero, i.size, i.bytes)) = some (some (.agg #[.int .u8 0, .int .i64 0, .int .i64 0, .slice none 0 0, .slice none 0 0, .slice none 0 0, .slice none 0 0, .slice none 0 0, .slice none 0 0, .slice none 0 0, .int .i64 0, .int .i64 0, .slice none 0 0]), 13, 232) := by kernel_rfl
theorem clone_nil_66 (w : World) : Calls Tryz.prog 66 #[.slice none 0 0] w fun ev w' => ev = .returned (.slice none 0 0) ∧ Below w.heap.size w w' := by
 have q : ∀ (w : World) (a : Option Addr) (n c n' c' : Nat), (binOp .eql 49 (.slice a n c) (.slice none n' c')).run Tryz.prog w = .ok (.bool a.isNone) w := fun w a n c n' c' => Lib.run_eql_slice_nil w _ _ a n c n' c' Tryz.underlying49
 go_enter Tryz.func66, Tryz.ntmps66
 go_wp2_with fail
 go_ret
 exact ⟨rfl, Below.refl _ _⟩
theorem clone_nil_67 (w : World) : Calls Tryz.prog 67 #[.slice none 0 0] w fun ev w' => ev = .returned (.slice none 0 0) ∧ Below w.heap.size w w' := by
 have q : ∀ (w : World) (a : Option Addr) (n c n' c' : Nat), (binOp .eql 51 (.slice a n c) (.slice none n' c')).run Tryz.prog w = .ok (.bool a.isNone) w := fun w a n c n' c' => Lib.run_eql_slice_nil w _ _ a n c n' c' Tryz.underlying51
 go_enter Tryz.func67, Tryz.ntmps67
 go_wp2_with fail
 go_ret
 exact ⟨rfl, Below.refl _ _⟩
theorem clone_nil_68 (w : World) : Calls Tryz.prog 68 #[.slice none 0 0] w fun ev w' => ev = .returned (.slice none 0 0) ∧ Below w.heap.size w w' := by
 have q : ∀ (w : World) (a : Option Addr) (n c n' c' : Nat), (binOp .eql 53 (.slice a n c) (.slice none n' c')).run Tryz.prog w = .ok (.bool a.isNone) w := fun w a n c n' c' => Lib.run_eql_slice_nil w _ _ a n c n' c' Tryz.underlying53
 go_enter Tryz.func68, Tryz.ntmps68
 go_wp2_with fail
 go_ret
 exact ⟨rfl, Below.refl _ _⟩
theorem clone_nil_70 (w : World) : Calls Tryz.prog 70 #[.slice none 0 0] w fun ev w' => ev = .returned (.slice none 0 0) ∧ Below w.heap.size w w' := by
 have q : ∀ (w : World) (a : Option Addr) (n c n' c' : Nat), (binOp .eql 50 (.slice a n c) (.slice none n' c')).run Tryz.prog w = .ok (.bool a.isNone) w := fun w a n c n' c' => Lib.run_eql_slice_nil w _ _ a n c n' c' Tryz.underlying50
 go_enter Tryz.func70, Tryz.ntmps70
 go_wp2_with fail
 go_ret
 exact ⟨rfl, Below.refl _ _⟩
theorem clone_nil_72 (w : World) : Calls Tryz.prog 72 #[.slice none 0 0] w fun ev w' => ev = .returned (.slice none 0 0) ∧ Below w.heap.size w w' := by
 have q : ∀ (w : World) (a : Option Addr) (n c n' c' : Nat), (binOp .eql 52 (.slice a n c) (.slice none n' c')).run Tryz.prog w = .ok (.bool a.isNone) w := fun w a n c n' c' => Lib.run_eql_slice_nil w _ _ a n c n' c' Tryz.underlying52
 go_enter Tryz.func72, Tryz.ntmps72
 go_wp2_with fail
 go_ret
 exact ⟨rfl, Below.refl _ _⟩
theorem clones_69 (w : World) : Calls Tryz.prog 69 #[.slice none 0 0] w fun ev w' => ev = .returned (.slice none 0 0) ∧ Below w.heap.size w w' := by
 go_enter Tryz.func69, Tryz.ntmps69
 go_wp2_with fail
 go_loopg [3, 8] 0 (fun _ s3 s8 wr => s3 = .slice none 0 0 ∧ s8 = .int .i64 0 ∧ wr = w)
 case atStart => exact ⟨rfl, rfl, rfl⟩
 case round =>
  obtain ⟨rfl, rfl, rfl⟩ := hrel
  go_wp2
  go_ret
  exact ⟨rfl, Below.refl _ _⟩
theorem clone_66 (cs : List Int) (cb cc : Nat) (w : World) (hcs : Ints w cb cs) (hn : cs.length ≤ 100) :
  Calls Tryz.prog 66 #[.slice (some ⟨cb, 0, none⟩) cs.length cc] w fun ev w' => ∃ g cap, ev = .returned (.slice (some ⟨g, 0, none⟩) cs.length cap) ∧ w.heap.size ≤ g ∧ g < w'.heap.size ∧ cs.length ≤ cap ∧ Ints w' g cs ∧ Below w.heap.size w w' := by
 obtain ⟨i0, hi0, hz0, hz1, hz2⟩ := info_parts info3
 have q22 : ∀ (w : World) (a : Option Addr) (n c n' c' : Nat), (binOp .eql 49 (.slice a n c) (.slice none n' c')).run Tryz.prog w = .ok (.bool a.isNone) w := fun w a n c n' c' => Lib.run_eql_slice_nil w _ _ a n c n' c' Tryz.underlying49
 obtain ⟨n, en⟩ : ∃ n, n = cs.length := ⟨_, rfl⟩
 obtain ⟨xs, hxs⟩ : ∃ xs : List Value, xs = cs.map (fun c => Value.int .i64 c) := ⟨_, rfl⟩
 have hl : xs.length = n := by rw [hxs, en, List.length_map]
 have hcx : ∀ j u, xs[j]? = some u → w.cell? ((⟨cb, 0, none⟩ : Addr).add j) = some u := fun j u hj => by
  rw [hxs, List.getElem?_map] at hj
  obtain ⟨c, h1, h2⟩ := Option.map_eq_some_iff.1 hj
  rw [add_lit, Nat.zero_add, ← h2]
  exact hcs j c h1
 have h1 : ∀ u ∈ xs, u.oneCell' = true := fun u hu => by
  rw [hxs] at hu
  obtain ⟨c, -, rfl⟩ := List.mem_map.1 hu
  rfl
 rw [← en] at hn ⊢
 have EN := Lib.hid en
 have HC := Lib.hid hcx
 have H1 := Lib.hid h1
 have HL := Lib.hid hl
 have HX := Lib.hid hxs
 clear en hcs hcx h1 hl hxs
 go_enter Tryz.func66, Tryz.ntmps66
 go_wp2_with (at_builtin; refine wpList_append_own _ rfl _ _ 49 rfl w.heap.size 3 i0 _ 1 8 Tryz.underlying49 hi0 hz0 hz1 hz2 rfl (by decide) _ _ _ rfl (World.ownsRow_made w #[] 0 (Nat.le_refl _) (Nat.zero_le _) rfl) ⟨cb, 0, none⟩ n cc xs rfl ?qc1 ?qc2 ?qc3 ?qc4 ?qc5 ?qc6 ?_)
 case qc1 => rw [HL.out]; simp
 case qc2 => exact fun j u hu => Lib.cell?_alloc_some _ (HC.out j u hu)
 case qc3 => exact H1.out
 case qc4 => unfold maxLen; omega
 case qc5 => omega
 try case qc6 => simp
 intro v' w1 hown hgrow hnil
 have hB : Below w.heap.size w w1 := ((Below.refl _ w).alloc (Nat.le_refl _) _).grown hgrow (by simp) (by intro k hk; simp [Value.ownBlock] at hk; omega)
 rcases hown.2 with ⟨rfl, -⟩ | ⟨g, cap, cur, rfl, g1, g2, g3, -, -, -⟩
 ·exact absurd rfl hnil
 have hin : Ints w1 g cs := fun i c hi => by
  have hlt := (List.getElem?_eq_some_iff.1 hi).1
  rw [hown.cellAt i (by rw [EN.out]; omega), HX.out, List.getElem?_map, hi]
  rfl
 have HG := Lib.hid (lt_of_heap g2)
 have HIN := Lib.hid hin
 have HB := Lib.hid hB
 clear hown hgrow hnil hB g2 hin
 go_wp2
 go_ret
 exact ⟨g, cap, rfl, g1, HG.out, g3, HIN.out, HB.out⟩
end Go.Proofs.YtmmhedlagnjbiaaGreatDoor
