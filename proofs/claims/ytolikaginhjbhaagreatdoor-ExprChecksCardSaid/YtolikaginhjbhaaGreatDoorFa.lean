import Derived.Test.YtolikaginhjbhaaGreatDoorEh
import Derived.Test.YtolikaginhjbhaaGreatDoorEe
/- What an expression comes to: the tree. -/
namespace Go.Proofs.YtolikaginhjbhaaGreatDoor
open Go.RowKit Go.Pen Go.Shelf
attribute [local go_sem] Oper.semAt_some

/-- an operator of one -/
def oneD (o : Int) (a : Dat) : Res := if o = 3 then negD a else if o = 10 then lenD a else notD a
/-- a comparison: below 0, 0, above -/
def cmpL : List UInt8 → List UInt8 → Int
  | [], [] => 0
  | [], _ :: _ => -1
  | _ :: _, [] => 1
  | a :: l, b :: m => if a < b then -1 else if b < a then 1 else cmpL l m
def cmpD (a b : Dat) : Int :=
  if a.kind = 2 then (if a.bool = b.bool then 0 else if b.bool = true then -1 else 1)
  else if a.kind = 3 then (if a.int < b.int then -1 else if b.int < a.int then 1 else 0)
  else if a.kind = 4 then cmpL a.text.data.toList b.text.data.toList else 0
def relD (o c : Int) : Bool := if o = 11 then c == 0 else if o = 12 then !(c == 0) else if o = 13 then decide (c < 0) else if o = 14 then decide (c ≤ 0) else if o = 15 then decide (0 < c) else decide (0 ≤ c)
def compD (o : Int) (a b : Dat) : Res := if okD a = false ∨ okD b = false then bad 13 else if a.kind = 1 ∨ b.kind = 1 then (nul, 0) else if a.kind ≠ b.kind then bad 13 else (boo (relD o (cmpD a b)), 0)
/-- an operator of two -/
def twoD (o : Int) (a b : Dat) : Res := if o = 4 then addD a b else if o = 5 then subD a b else if o = 6 then mulD a b else if o = 7 then divD a b else if o = 8 then modD a b else if o = 9 then catD a b else compD o a b

def restV (o : Int) : List Res → Res
  | [] => bad 0
  | a :: t => if a.2 ≠ 0 then bad a.2 else if o = 20 then (boo (decide (a.1.kind = 1)), 0) else match t with
    | [] => told (oneD o a.1)
    | b :: _ => if b.2 ≠ 0 then bad b.2 else told (twoD o a.1 b.1)

mutual
/-- what it comes to -/
def ET.val (r : List Dat) : ET → Res
  | .mk o c d ks => if o = 1 then (r.getD c.toNat Dat.zero, 0) else if o = 2 then (d, 0) else if o = 23 then bad d.int.toNat
    else if o = 18 ∨ o = 19 then logic (decide (o = 19)) false (ET.vals r ks) else if o = 21 then choice (ET.vals r ks) else if o = 22 then coal (ET.vals r ks) else restV o (ET.vals r ks)
def ET.vals (r : List Dat) : List ET → List Res
  | [] => []
  | k :: ks => k.val r :: ET.vals r ks
end
theorem ET.vals_map (r : List Dat) : ∀ ks : List ET, ET.vals r ks = ks.map (ET.val r)
  | [] => rfl
  | k :: ks => by simp [ET.vals, ET.vals_map r ks]

def EvalPost (v : Res) (w : World) (ev : Ending) (w' : World) : Prop := ev = .returned (evT v) ∧ Below w.heap.size w w'
theorem eval_post {v v' : Res} {w w' : World} (h : v' = v) (hb : Below w.heap.size w w') : EvalPost v w (.returned (evT v')) w' := ⟨by rw [h], hb⟩
/-- a kid's contract -/
def EvalOK (r : List Dat) (rv : Value) (w : World) (k : ET) : Prop := ∀ (kv : Value) (W : World), Below w.heap.size w W → k.At W kv → Calls Tryz.prog 42 #[k.agg kv, rv] W (EvalPost (k.val r) W)

theorem errV_zero : errV 0 = .nilIface := rfl
theorem errV_ne {n : Nat} (h : n ≠ 0) : errV n = .iface 138 (.agg #[.int .u16 n]) := by simp [errV, h]

set_option maxRecDepth 100000 in
set_option maxHeartbeats 1000000 in
/-- a column -/
theorem eval_col (r : List Dat) (ra : Option Addr) (rc : Nat) (c : Int) (d : Dat) (ks : List ET) (a : Option Addr) (cc : Nat) (w : World) (hr : DatsOn (fun _ => True) w r (.slice ra r.length rc)) (h0 : 0 ≤ c) (h1 : c < r.length) :
    Calls Tryz.prog 42 #[(ET.mk 1 c d ks).agg (.slice a ks.length cc), .slice ra r.length rc] w (EvalPost ((ET.mk 1 c d ks).val r) w) := by
  obtain ⟨ra', rc', hv, -, hci⟩ := hr
  cases hv
  obtain ⟨b, off, rfl, -, hcs⟩ := hci (List.ne_nil_of_length_pos (by omega))
  obtain ⟨x, hx⟩ : ∃ x, r[c.toNat]? = some x := ⟨r[c.toNat]'(by omega), List.getElem?_eq_getElem _⟩
  obtain ⟨k0, k1, k2, k3⟩ := hcs _ _ hx
  have hval : (ET.mk 1 c d ks).val r = (x, 0) := by
    simp only [ET.val, if_pos, List.getD_eq_getElem?_getD, hx]
    rfl
  rw [hval]
  have xl : b < w.heap.size := World.block_lt_of_cell? w _ k0
  have xc : (c.toNat : Int) = c := by omega
  have q0 := fun (A B : Obj) => cell_keep (two_below w A B) k0
  have q1 := fun (A B : Obj) => cell_keep (two_below w A B) k1
  have q2 := fun (A B : Obj) => cell_keep (two_below w A B) k2
  have q3 := fun (A B : Obj) => cell_keep (two_below w A B) k3
  clear hci hcs hx hval
  unfold ET.agg
  simp only [ET.op, ET.col, ET.lit]
  go_enter Tryz.func42, Tryz.ntmps42
  go_wp2_with fail
  refine bodyPost_ret (results_row_tmp rfl _ _ (w.heap.size + 1) 25 _ (0, 0) _ rfl (two_at (Below.refl _ _)).2 Tryz.underlying25 rfl (by kernel_rfl)) rfl ?_
  exact ⟨rfl, two_below _ _ _⟩

set_option maxRecDepth 100000 in
set_option maxHeartbeats 1000000 in
/-- a value -/
theorem eval_lit (r : List Dat) (rv : Value) (c : Int) (d : Dat) (ks : List ET) (a : Option Addr) (cc : Nat) (w : World) :
    Calls Tryz.prog 42 #[(ET.mk 2 c d ks).agg (.slice a ks.length cc), rv] w (EvalPost ((ET.mk 2 c d ks).val r) w) := by
  have hval : (ET.mk 2 c d ks).val r = (d, 0) := by simp [ET.val]
  rw [hval]
  clear hval
  unfold ET.agg
  simp only [ET.op, ET.col, ET.lit]
  go_enter Tryz.func42, Tryz.ntmps42
  go_wp2_with fail
  refine bodyPost_ret (results_row_tmp rfl _ _ (w.heap.size + 1) 25 _ (0, 0) _ rfl (two_at (Below.refl _ _)).2 Tryz.underlying25 rfl (by kernel_rfl)) rfl ?_
  exact ⟨rfl, two_below _ _ _⟩

set_option maxRecDepth 100000 in
set_option maxHeartbeats 1000000 in
/-- an error -/
theorem eval_fail (r : List Dat) (rv : Value) (c : Int) (d : Dat) (ks : List ET) (a : Option Addr) (cc : Nat) (w : World) (h1 : 1 ≤ d.int) (h2 : d.int ≤ 65535) :
    Calls Tryz.prog 42 #[(ET.mk 23 c d ks).agg (.slice a ks.length cc), rv] w (EvalPost ((ET.mk 23 c d ks).val r) w) := by
  have hval : (ET.mk 23 c d ks).val r = bad d.int.toNat := by simp [ET.val]
  rw [hval]
  have hev : evT (bad d.int.toNat) = .tuple #[Dat.zero.agg, .iface 138 (.agg #[.int .u16 d.int])] := by
    simp only [evT, bad]
    rw [errV_ne (by omega), show ((d.int.toNat : Nat) : Int) = d.int by omega]
  have HEV := Lib.hid hev
  clear hval hev
  unfold ET.agg
  simp only [ET.op, ET.col, ET.lit]
  go_enter Tryz.func42, Tryz.ntmps42
  go_wp2_with fail
  go_region
  go_wp2
  refine bodyPost_ret (results_row_tmp rfl _ _ (w.heap.size + 1) 25 _ (0, 0) _ rfl (two_at (Below.refl _ _)).2 Tryz.underlying25 rfl (by kernel_rfl)) rfl ?_
  refine ⟨?_, below_drewN (n := 1) (two_below _ _ _)⟩
  rw [HEV.out]
  rfl
end Go.Proofs.YtolikaginhjbhaaGreatDoor
