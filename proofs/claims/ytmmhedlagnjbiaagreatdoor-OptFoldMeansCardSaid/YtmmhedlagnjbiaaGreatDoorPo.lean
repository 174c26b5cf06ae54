import Derived.Test.YtmmhedlagnjbiaaGreatDoorPn
/- our texts, shortened by program (pack.py) -/
set_option maxRecDepth 100000
namespace Go.Proofs.YtmmhedlagnjbiaaGreatDoor
open Go.RowKit Go.Pen
attribute [local go_sem] Oper.semAt_some
theorem rules_73 (o : Addr) (w : World) : Calls Tryz.prog 73 #[.pointer (some o)] w fun ev w' => ev = .returned (.slice (some ⟨w.heap.size, 0, none⟩) 6 6) ∧ w' = w.alloc (.cells #[.func (.func 96) #[.pointer (some o)] #[], .func (.func 97) #[.pointer (some o)] #[], .func (.func 98) #[.pointer (some o)] #[], .func (.func 99) #[.pointer (some o)] #[], .func (.func 100) #[.pointer (some o)] #[], .func (.func 101) #[.pointer (some o)] #[]] 125) := by
 have hmf : ∀ (fn : Fn) (first cap : Array Value) (w : World), (Instr.makeFunc fn first cap).run Tryz.prog w = .ok (.func fn first cap) w := fun _ _ _ _ => rfl
 go_enter Tryz.func73, Tryz.ntmps73
 go_wp2_with fail
 go_ret
 exact ⟨rfl, rfl⟩
end Go.Proofs.YtmmhedlagnjbiaaGreatDoor
