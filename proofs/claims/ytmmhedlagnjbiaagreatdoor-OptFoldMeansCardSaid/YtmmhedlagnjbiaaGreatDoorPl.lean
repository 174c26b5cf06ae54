import Derived.Test.YtmmhedlagnjbiaaGreatDoorPk
/- our texts, shortened by program (pack.py) -/
set_option maxRecDepth 100000
set_option maxHeartbeats 2000000
namespace Go.Proofs.YtmmhedlagnjbiaaGreatDoor
open Go.RowKit Go.Pen
attribute [local go_sem] Oper.semAt_some
def StayPost (r : RT) (cv kv : Value) (w : World) (ev : Ending) (w' : World) : Prop := ev = .returned (.tuple #[r.agg cv kv, .bool false]) ∧ Below w.heap.size w w'
theorem rule_96 (r : RT) (ca ka : Option Addr) (cn cc kn kc : Nat) (o : Addr) (w : World) : Calls Tryz.prog 96 #[.pointer (some o), .agg #[.int .u8 r.kind, .int .i64 r.ar, .int .i64 r.id, .slice none 0 0, .slice ca cn cc, .slice none 0 0, .slice none 0 0, .slice none 0 0, .slice none 0 0, .slice none 0 0, .int .i64 0, .int .i64 0, .slice ka kn kc]] w (StayPost r (.slice ca cn cc) (.slice ka kn kc) w) := by
 go_enter Tryz.func96, Tryz.ntmps96
 go_wp2_with fail
 obtain ⟨w1, hw1⟩ : ∃ w1, w1 = ((w.alloc (.cells #[.int .u8 r.kind, .int .i64 r.ar, .int .i64 r.id, .slice none 0 0, .slice ca cn cc, .slice none 0 0, .slice none 0 0, .slice none 0 0, .slice none 0 0, .slice none 0 0, .int .i64 0, .int .i64 0, .slice ka kn kc] 56)).alloc (.cells #[.int .u8 0, .int .i64 0, .int .i64 0, .slice none 0 0, .slice none 0 0, .slice none 0 0, .slice none 0 0, .slice none 0 0, .slice none 0 0, .slice none 0 0, .int .i64 0, .int .i64 0, .slice none 0 0] 56)).alloc (.cells #[.bool false] 4) := ⟨_, rfl⟩
 have EW := Lib.hid hw1
 rw [← hw1]
 clear hw1
 go_loopg [8, 19] 0 (fun _ s8 s19 wr => s8 = .slice none 0 0 ∧ s19 = .int .i64 0 ∧ wr = w1)
 case atStart => exact ⟨rfl, rfl, rfl⟩
 case round =>
  obtain ⟨rfl, rfl, rfl⟩ := hrel
  rw [EW.out]
  go_wp2_with fail
  rw [← EW.out]
  go_loopg [12, 41] 0 (fun _ s12 s41 wq => s12 = .slice none 0 0 ∧ s41 = .int .i64 0 ∧ wq = wr)
  case atStart => exact ⟨rfl, rfl, rfl⟩
  case round =>
   obtain ⟨rfl, rfl, rfl⟩ := hrel
   rw [EW.out]
   go_wp2_with fail
   refine bodyPost_ret (results_row_tmp rfl _ _ (w.heap.size + 1) 56 _ (0, 0) _ rfl (allocs_at [_, _, _] w 1) Tryz.underlying56 rfl (by kernel_rfl)) rfl ?_
   exact ⟨rfl, allocs_below [_, _, _] w⟩
theorem results_row_bool {fn : Func} {p q : Tmp} {b : Bool} (h : fn.results = #[.cell p 56, .cell q 4]) (tmps : Array Value) (w : World) (g gq : Nat) (cs : Array Value) (fr : Nat × Nat)
  (hp : tmps.getD p undef = .pointer (some ⟨g, 0, none⟩)) (hq : tmps.getD q undef = .pointer (some ⟨gq, 0, none⟩)) (hg : w.heap[g]? = some (.cells cs 56 fr)) (hi : (Tryz.prog.info? 56).map (·.size) = some cs.size) (hb : w.cell? ⟨gq, 0, none⟩ = some (.bool b)) :
  (results fn tmps).run Tryz.prog w = .ok (.tuple #[.agg cs, .bool b]) w := by
 have hp' : tmps[p]?.getD undef = .pointer (some ⟨g, 0, none⟩) := by simpa using hp
 have hq' : tmps[q]?.getD undef = .pointer (some ⟨gq, 0, none⟩) := by simpa using hq
 have hr := run_loadVar_row w g 56 56 cs fr _ hg Tryz.underlying56 rfl hi
 have hb' : (loadVar 4 ⟨gq, 0, none⟩).run Tryz.prog w = .ok (.bool b) w := by simp [go_sem, hb]
 simp [results, h, hp', hq', asAddr, hr, hb']
theorem rule_99 (r : RT) (hk : r.kind ≠ 4) (ca ka : Option Addr) (cn cc kn kc : Nat) (o : Addr) (w : World) : Calls Tryz.prog 99 #[.pointer (some o), .agg #[.int .u8 r.kind, .int .i64 r.ar, .int .i64 r.id, .slice none 0 0, .slice ca cn cc, .slice none 0 0, .slice none 0 0, .slice none 0 0, .slice none 0 0, .slice none 0 0, .int .i64 0, .int .i64 0, .slice ka kn kc]] w (StayPost r (.slice ca cn cc) (.slice ka kn kc) w) := by
 go_enter Tryz.func99, Tryz.ntmps99
 go_wp2_with fail
 refine bodyPost_ret (results_row_tmp rfl _ _ (w.heap.size + 1) 56 _ (0, 0) _ rfl (allocs_at [_, _] w 1) Tryz.underlying56 rfl (by kernel_rfl)) rfl ?_
 exact ⟨rfl, allocs_below [_, _] w⟩
theorem rule_101 (r : RT) (hk : r.kind ≠ 12) (ca ka : Option Addr) (cn cc kn kc : Nat) (o : Addr) (w : World) : Calls Tryz.prog 101 #[.pointer (some o), .agg #[.int .u8 r.kind, .int .i64 r.ar, .int .i64 r.id, .slice none 0 0, .slice ca cn cc, .slice none 0 0, .slice none 0 0, .slice none 0 0, .slice none 0 0, .slice none 0 0, .int .i64 0, .int .i64 0, .slice ka kn kc]] w (StayPost r (.slice ca cn cc) (.slice ka kn kc) w) := by
 go_enter Tryz.func101, Tryz.ntmps101
 go_wp2_with fail
 have h1 := allocs_at [.cells #[.int .u8 r.kind, .int .i64 r.ar, .int .i64 r.id, .slice none 0 0, .slice ca cn cc, .slice none 0 0, .slice none 0 0, .slice none 0 0, .slice none 0 0, .slice none 0 0, .int .i64 0, .int .i64 0, .slice ka kn kc] 56, .cells #[.int .u8 r.kind, .int .i64 r.ar, .int .i64 r.id, .slice none 0 0, .slice ca cn cc, .slice none 0 0, .slice none 0 0, .slice none 0 0, .slice none 0 0, .slice none 0 0, .int .i64 0, .int .i64 0, .slice ka kn kc] 56, .cells #[.bool false] 4] w 1
 have h2 := allocs_at [.cells #[.int .u8 r.kind, .int .i64 r.ar, .int .i64 r.id, .slice none 0 0, .slice ca cn cc, .slice none 0 0, .slice none 0 0, .slice none 0 0, .slice none 0 0, .slice none 0 0, .int .i64 0, .int .i64 0, .slice ka kn kc] 56, .cells #[.int .u8 r.kind, .int .i64 r.ar, .int .i64 r.id, .slice none 0 0, .slice ca cn cc, .slice none 0 0, .slice none 0 0, .slice none 0 0, .slice none 0 0, .slice none 0 0, .int .i64 0, .int .i64 0, .slice ka kn kc] 56, .cells #[.bool false] 4] w 2
 refine bodyPost_ret (v := .tuple #[.agg #[.int .u8 r.kind, .int .i64 r.ar, .int .i64 r.id, .slice none 0 0, .slice ca cn cc, .slice none 0 0, .slice none 0 0, .slice none 0 0, .slice none 0 0, .slice none 0 0, .int .i64 0, .int .i64 0, .slice ka kn kc], .bool false]) ?_ rfl ?_
 ·exact results_row_bool rfl _ _ (w.heap.size + 1) (w.heap.size + 1 + 1) _ (0, 0) rfl rfl h1 (by kernel_rfl) (cell_of_heap h2 rfl)
 exact ⟨rfl, allocs_below [_, _, _] w⟩
theorem seen_leaf (kd a i : Int) (w : World) : Calls Tryz.prog 127 #[.agg #[.int .u8 kd, .int .i64 a, .int .i64 i, .slice none 0 0, .slice none 0 0, .slice none 0 0, .slice none 0 0, .slice none 0 0, .slice none 0 0, .slice none 0 0, .int .i64 0, .int .i64 0, .slice none 0 0]] w fun ev w' => ev = .returned (.iface 216 (.agg #[.int .u8 kd, .int .i64 a, .int .i64 i, .slice none 0 0, .slice none 0 0, .slice none 0 0, .slice none 0 0, .slice none 0 0, .slice none 0 0, .slice none 0 0, .int .i64 0, .int .i64 0, .slice none 0 0])) ∧ Below w.heap.size w w' := by
 go_enter Tryz.func127, Tryz.ntmps127
 go_wp2_with fail
 go_ret
 exact ⟨rfl, allocs_below [_] w⟩
theorem seen_proj (ca : Option Addr) (cn cc kb kc : Nat) (k : RT) (xa ya : Option Addr) (xn xc yn yc : Nat) (w : World) (hk : RCells w kb k (.slice xa xn xc) (.slice ya yn yc)) : Calls Tryz.prog 127 #[.agg #[.int .u8 5, .int .i64 0, .int .i64 0, .slice none 0 0, .slice ca cn cc, .slice none 0 0, .slice none 0 0, .slice none 0 0, .slice none 0 0, .slice none 0 0, .int .i64 0, .int .i64 0, .slice (some ⟨kb, 0, none⟩) 1 kc]] w fun ev w' => ev = .returned (.iface 177 (.agg #[.int .u8 5, .int .i64 0, .int .i64 0, .slice none 0 0, .slice ca cn cc, .slice none 0 0, .slice none 0 0, .slice none 0 0, .slice none 0 0, .slice none 0 0, .int .i64 0, .int .i64 0, .slice (some ⟨kb, 0, none⟩) 1 kc, .int .u8 k.kind, .int .i64 k.ar, .int .i64 k.id, .slice none 0 0, .slice xa xn xc, .slice none 0 0, .slice none 0 0, .slice none 0 0, .slice none 0 0, .slice none 0 0, .int .i64 0, .int .i64 0, .slice ya yn yc])) ∧ Below w.heap.size w w' := by
 obtain ⟨z0, z1, z2, z3, z4, z5, z6, z7, z8, z9, z10, z11, z12⟩ := hk
 have sK := World.block_lt_of_cell? w _ z0
 go_enter Tryz.func127, Tryz.ntmps127
 go_wp2_with fail
 go_quiet (fail)
 go_wp2
 go_ret
 exact ⟨rfl, Go.Pen.below_drewN (allocs_below [_] w)⟩
theorem ta_216_177 (v : Value) (w : World) : (Instr.typeAssert (.iface 216 v) 20 177 true).run Tryz.prog w = .ok (.tuple #[.agg #[.int .u8 0, .int .i64 0, .int .i64 0, .slice none 0 0, .slice none 0 0, .slice none 0 0, .slice none 0 0, .slice none 0 0, .slice none 0 0, .slice none 0 0, .int .i64 0, .int .i64 0, .slice none 0 0, .int .u8 0, .int .i64 0, .int .i64 0, .slice none 0 0, .slice none 0 0, .slice none 0 0, .slice none 0 0, .slice none 0 0, .slice none 0 0, .slice none 0 0, .int .i64 0, .int .i64 0, .slice none 0 0], .bool false]) w := by kernel_rfl
theorem ta_177_177 (v : Value) (w : World) : (Instr.typeAssert (.iface 177 v) 20 177 true).run Tryz.prog w = .ok (.tuple #[v, .bool true]) w := by kernel_rfl
theorem ta_216_183 (v : Value) (w : World) : (Instr.typeAssert (.iface 216 v) 20 183 true).run Tryz.prog w = .ok (.tuple #[.agg #[.int .u8 0, .int .i64 0, .int .i64 0, .slice none 0 0, .slice none 0 0, .slice none 0 0, .slice none 0 0, .slice none 0 0, .slice none 0 0, .slice none 0 0, .int .i64 0, .int .i64 0, .slice none 0 0], .bool false]) w := by kernel_rfl
theorem ta_177_183 (v : Value) (w : World) : (Instr.typeAssert (.iface 177 v) 20 183 true).run Tryz.prog w = .ok (.tuple #[.agg #[.int .u8 0, .int .i64 0, .int .i64 0, .slice none 0 0, .slice none 0 0, .slice none 0 0, .slice none 0 0, .slice none 0 0, .slice none 0 0, .slice none 0 0, .int .i64 0, .int .i64 0, .slice none 0 0], .bool false]) w := by kernel_rfl
end Go.Proofs.YtmmhedlagnjbiaaGreatDoor
