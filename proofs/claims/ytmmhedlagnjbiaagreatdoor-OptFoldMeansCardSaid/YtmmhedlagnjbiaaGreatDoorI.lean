import Derived.Test.YtmmhedlagnjbiaaGreatDoorH
import Derived.Test.YtmmhedlagnjbiaaGreatDoorBase
import Derived.Test.YtmmhedlagnjbiaaGreatDoorShelfV
/- our texts, shortened by program (pack.py) -/
set_option maxRecDepth 100000
set_option maxHeartbeats 1000000
namespace Go.Proofs.YtmmhedlagnjbiaaGreatDoor
open Go.RowKit Go.Pen
attribute [local go_sem] Oper.semAt_some
def Dat.agg (d : Dat) : Value := .agg #[.int .u8 d.kind, .bool d.bool, .int .i64 d.int, .string d.text]
theorem tabs_below {B : Nat} {w w' : World} (h : Lib.Utf8Tabs 0 1 w) (hb : Below B w w') (hB : 3 ≤ B) : Lib.Utf8Tabs 0 1 w' :=
 ⟨fun c hc => (hb.cell (p := ⟨0, c, none⟩) (by show 0 < B; omega)).trans (h.1 c hc), fun i hi => ⟨(hb.cell (p := ⟨1, 2 * i, none⟩) (by show 1 < B; omega)).trans (h.2 i hi).1, (hb.cell (p := ⟨1, 2 * i + 1, none⟩) (by show 1 < B; omega)).trans (h.2 i hi).2⟩⟩
theorem text_nil {t : ByteArray} : t.toList = [] ↔ t.data.toList = [] := by rw [ByteArray.toList_eq]
theorem chkD_13 {d : Dat} (h : (d.kind < 1 ∨ 4 < d.kind) ∨ (d.kind ≠ 2 ∧ d.bool = true) ∨ (d.kind ≠ 3 ∧ d.int ≠ 0) ∨ (d.kind ≠ 4 ∧ ¬ d.text.toList = []) ∨ Lib.validD d.text.data.toList = false) : chkD d = 13 := by
 simp only [text_nil] at h
 unfold chkD
 rcases h with h | h | h | h | h
 ·rw [if_pos h]
 ·split
  ·rfl
  ·rw [if_pos (.inl h)]
 ·split
  ·rfl
  ·rw [if_pos (.inr (.inl h))]
 ·split
  ·rfl
  ·rw [if_pos (.inr (.inr h))]
 ·split
  ·rfl
  ·split
   ·rfl
   ·simp
theorem chkD_12 {d : Dat} (h0 : 1 ≤ d.kind ∧ d.kind ≤ 4) (h1 : ¬ (d.kind ≠ 2 ∧ d.bool = true)) (h2 : ¬ (d.kind ≠ 3 ∧ d.int ≠ 0)) (h3 : ¬ (d.kind ≠ 4 ∧ ¬ d.text.toList = [])) (h4 : Lib.validD d.text.data.toList = true) : chkD d = if 1000 < d.text.size then 12 else 0 := by
 simp only [text_nil] at h3
 unfold chkD
 rw [if_neg (by omega), if_neg (by rintro (h | h | h); exact h1 h; exact h2 h; exact h3 h), if_neg (by rw [h4]; decide)]
theorem two_below (w : World) (a b : Obj) : Below w.heap.size w ((w.alloc a).alloc b) := ((Below.refl _ _).alloc (Nat.le_refl _) _).alloc (by simp) _
theorem chkD_b {k : Int} {b : Bool} {n : Int} {t : ByteArray} (hk : k ≠ 2) (h : b = true) : chkD ⟨k, b, n, t⟩ = 13 := chkD_13 (.inr (.inl ⟨hk, h⟩))
theorem chkD_n {k : Int} {b : Bool} {n : Int} {t : ByteArray} (hk : k ≠ 3) (h : ¬ n = 0) : chkD ⟨k, b, n, t⟩ = 13 := chkD_13 (.inr (.inr (.inl ⟨hk, h⟩)))
theorem chkD_t {k : Int} {b : Bool} {n : Int} {t : ByteArray} (hk : k ≠ 4) (h : ¬ t.toList = []) : chkD ⟨k, b, n, t⟩ = 13 := chkD_13 (.inr (.inr (.inr (.inl ⟨hk, h⟩))))
theorem chkD_v {k : Int} {b : Bool} {n : Int} {t : ByteArray} (hv : (!Lib.validD t.data.toList) = true) : chkD ⟨k, b, n, t⟩ = 13 := chkD_13 (.inr (.inr (.inr (.inr (by simpa using hv)))))
theorem chkD_z {k : Int} {b : Bool} {n : Int} {t : ByteArray} (h0 : 1 ≤ k ∧ k ≤ 4) (h1 : k = 2 ∨ ¬ b = true) (h2 : k = 3 ∨ n = 0) (h3 : k = 4 ∨ t.toList = []) (hv : (!Lib.validD t.data.toList) = false) : chkD ⟨k, b, n, t⟩ = if 1000 < t.size then 12 else 0 := by
 refine chkD_12 h0 ?_ ?_ ?_ (by simpa using hv)
 ·rintro ⟨g1, g2⟩; rcases h1 with h | h
  ·exact g1 h
  ·exact h g2
 ·rintro ⟨g1, g2⟩; rcases h2 with h | h
  ·exact g1 h
  ·exact g2 h
 ·rintro ⟨g1, g2⟩; rcases h3 with h | h
  ·exact g1 h
  ·exact g2 h
theorem chkD_z12 {k : Int} {b : Bool} {n : Int} {t : ByteArray} (h0 : 1 ≤ k ∧ k ≤ 4) (h1 : k = 2 ∨ ¬ b = true) (h2 : k = 3 ∨ n = 0) (h3 : k = 4 ∨ t.toList = []) (hv : (!Lib.validD t.data.toList) = false) (hz : (1000 : Int) < (t.size : Int)) : chkD ⟨k, b, n, t⟩ = 12 := (chkD_z h0 h1 h2 h3 hv).trans (if_pos (by omega))
theorem chkD_z0 {k : Int} {b : Bool} {n : Int} {t : ByteArray} (h0 : 1 ≤ k ∧ k ≤ 4) (h1 : k = 2 ∨ ¬ b = true) (h2 : k = 3 ∨ n = 0) (h3 : k = 4 ∨ t.toList = []) (hv : (!Lib.validD t.data.toList) = false) (hz : (t.size : Int) ≤ 1000) : chkD ⟨k, b, n, t⟩ = 0 := (chkD_z h0 h1 h2 h3 hv).trans (if_neg (by omega))
theorem chk_fin {d : Dat} {m c B : Nat} {w W : World} (h : chkD d = m) (h2 : chkD d = c) (h3 : Below B w W) : Ending.returned (.int .u16 (m : Int)) = Ending.returned (.int .u16 (c : Int)) ∧ Below B w W := ⟨by rw [h.symm.trans h2], h3⟩
theorem check_54 (d : Dat) (w : World) (hf : d.fits) (hT : Lib.Utf8Tabs 0 1 w) (h11 : 3 ≤ w.heap.size) :
  Calls Tryz.prog 29 #[d.agg] w fun e w' => e = .returned (.int .u16 (chkD d)) ∧ Below w.heap.size w w' := by
 obtain ⟨k, b, n, t⟩ := d
 obtain ⟨c, hc⟩ : ∃ c, chkD ⟨k, b, n, t⟩ = c := ⟨_, rfl⟩
 rw [hc]
 have HC := Lib.hid hc
 have HT := Lib.hid hT
 have hk0 := hf.1.1
 have hk1 := hf.1.2
 have hn0 := hf.2.1.1
 have hn1 := hf.2.1.2
 have hts : t.size ≤ 9223372036854775807 := Nat.le_trans hf.2.2 (by decide)
 clear hT hf hc
 simp only at hk0 hk1 hn0 hn1
 have val := fun (W : World) (hb : Below w.heap.size w W) => Tryz.utf8_ValidString t W hts (tabs_below HT.out hb h11)
 have VAL := Lib.hid val
 clear val
 unfold Dat.agg
 simp only
 rcases (show (k = 1 ∨ k = 2 ∨ k = 3 ∨ k = 4) ∨ (k < 1 ∨ 4 < k) by omega) with (rfl | rfl | rfl | rfl) | hbad
 rotate_left 4
 ·have q1 : (k == 1) = false := by simp; omega
  have q2 : (k == 2) = false := by simp; omega
  have q3 : (k == 3) = false := by simp; omega
  have q4 : (k == 4) = false := by simp; omega
  have hc : chkD ⟨k, b, n, t⟩ = 13 := chkD_13 (.inl hbad)
  obtain rfl := hc.symm.trans HC.out
  clear hc hbad HC
  go_enter Tryz.func29, Tryz.ntmps29
  go_wp2_with fail
  go_ret
  exact ⟨rfl, two_below _ _ _⟩
 all_goals
  go_enter Tryz.func29, Tryz.ntmps29
  go_wp2_with (go_at_call 45; refine (VAL.out _ (two_below _ _ _)).mono ?_; rintro _ w2 ⟨rfl, hb2⟩; have c3 := (hb2.cell (p := ⟨w.heap.size, 3, none⟩) (by simp; omega)).trans (cell_of_heap ((Below.heap_alloc _ _ _ (by simp)).trans (heap_alloc_new w _)) rfl); have HB := Lib.hid ((two_below w _ _).trans (hb2.mono (by simp; omega))); clear hb2)
  all_goals
   go_ret
   first
    | exact chk_fin (chkD_b (by decide) (by assumption)) HC.out (two_below _ _ _)
    | exact chk_fin (chkD_n (by decide) (by assumption)) HC.out (two_below _ _ _)
    | exact chk_fin (chkD_t (by decide) (by assumption)) HC.out (two_below _ _ _)
    | exact chk_fin (chkD_v (by assumption)) HC.out (HB.out)
    | exact chk_fin (chkD_z12 (by decide) (by first | exact .inl rfl | exact .inr (by assumption)) (by first | exact .inl rfl | exact .inr (by assumption)) (by first | exact .inl rfl | exact .inr (by assumption)) (by assumption) (by assumption)) HC.out (HB.out)
    | exact chk_fin (chkD_z0 (by decide) (by first | exact .inl rfl | exact .inr (by assumption)) (by first | exact .inl rfl | exact .inr (by assumption)) (by first | exact .inl rfl | exact .inr (by assumption)) (by assumption) (by assumption)) HC.out (HB.out)
end Go.Proofs.YtmmhedlagnjbiaaGreatDoor
namespace Go.Proofs.YtmmhedlagnjbiaaGreatDoor
open Go.RowKit Go.Pen Go.Shelf
attribute [local go_sem] Oper.semAt_some
theorem chk_21 (e : ET) (a : Option Addr) (cc : Nat) (w : World) (hfit : e.fits) (hat : e.At w (.slice a e.kids.length cc)) (hT : Lib.Utf8Tabs 0 1 w) (h11 : 3 ≤ w.heap.size) :
  Calls Tryz.prog 16 #[e.agg (.slice a e.kids.length cc)] w fun ev w' => ev = .returned (.int .u16 (if e.may okD then 0 else 30)) ∧ Below w.heap.size w w' :=
 check_21 okD e a cc w hfit hat fun d W hd hb => (check_54 d W hd (tabs_below hT hb h11) (Nat.le_trans h11 hb.size)).mono fun _ _ h => ⟨chkD d, h.1, by simp [okD], h.2⟩
theorem ET.may_good {ok : Dat → Bool} {e : ET} (h : e.may ok = true) : e.good ok 1 = true := by
 simp only [ET.may, Bool.and_eq_true] at h
 exact h.1
theorem three_below (w : World) (a b c : Obj) : Below w.heap.size w (((w.alloc a).alloc b).alloc c) := (((Below.refl _ _).alloc (Nat.le_refl _) _).alloc (by simp) _).alloc (by simp; omega) _
theorem three_at {w w1 : World} {a b c : Obj} (hb : Below (((w.alloc a).alloc b).alloc c).heap.size (((w.alloc a).alloc b).alloc c) w1) : w1.heap[w.heap.size]? = some a ∧ w1.heap[w.heap.size + 1]? = some b ∧ w1.heap[w.heap.size + 1 + 1]? = some c := by
 refine ⟨(hb.block _ (by simp; omega)).trans ?_, (hb.block _ (by simp)).trans ?_, (hb.block _ (by simp)).trans ?_⟩
 ·rw [Below.heap_alloc _ _ _ (by simp; omega), Below.heap_alloc _ _ _ (by simp)]
  exact heap_alloc_new w a
 ·rw [Below.heap_alloc _ _ _ (by simp)]
  have h := heap_alloc_new (w.alloc a) b
  rw [World.size_alloc] at h
  exact h
 ·have h := heap_alloc_new ((w.alloc a).alloc b) c
  rw [World.size_alloc, World.size_alloc] at h
  exact h
def OvHit (k : Int) (x : Part) : Bool := decide (x.e.op = 1) && decide (k ≤ x.e.col)
structure OvAll (k : Int) (ps : List Part) : Prop where
 «at» : ∀ x ∈ ps, ¬ (x.e.op = 1 ∧ k ≤ x.e.col)
structure OvNo (k : Int) (ps : List Part) : Prop where
 out : ¬ ∀ x ∈ ps, ¬ (x.e.op = 1 ∧ k ≤ x.e.col)
theorem OvAll.nil {k : Int} : OvAll k [] := ⟨fun x hx => by cases hx⟩
theorem OvAll.snoc {k : Int} {ps : List Part} {x : Part} (h : OvAll k ps) (hx : OvHit k x = false) : OvAll k (ps ++ [x]) := ⟨fun y hy => by
 rcases List.mem_append.1 hy with hy | hy
 ·exact h.at y hy
 ·simp at hy; subst hy
  rintro ⟨h1, h2⟩
  simp [OvHit, h1, h2] at hx⟩
theorem OvNo.snoc {k : Int} {ps : List Part} {x : Part} (hx : OvHit k x = true) : OvNo k (ps ++ [x]) := ⟨fun h => by
 simp only [OvHit, Bool.and_eq_true, decide_eq_true_eq] at hx
 exact h x (by simp) hx⟩
theorem over_41 (e : ET) (a : Option Addr) (cc : Nat) (k : Int) (w : World) (hfit : e.fits) (hat : e.At w (.slice a e.kids.length cc)) (hT : Lib.Utf8Tabs 0 1 w) (h11 : 3 ≤ w.heap.size) :
  Calls Tryz.prog 87 #[e.agg (.slice a e.kids.length cc), .int .i64 k] w fun ev w' => ev = .returned (.bool (e.may okD && e.within k)) ∧ Below w.heap.size w w' := by
 obtain ⟨R, eR⟩ : ∃ R : Bool, R = (e.may okD && e.within k) := ⟨_, rfl⟩
 rw [← eR]
 have ER := Lib.hid eR
 clear eR
 obtain ⟨F, eF⟩ : ∃ F, F = Fence.wide := ⟨_, rfl⟩
 have hd : F.depth = none := by rw [eF]; rfl
 have hF : ∀ f, F.fn f := fun f => by rw [eF]; trivial
 have hro : F.round = none := by rw [eF]; rfl
 have wide : ∀ (m : Nat) (f : FuncId) (args : Array Value) (W : World) (R : Ending → World → Prop), Calls Tryz.prog f args W R → CallsIn F m Tryz.prog f args W R := fun m f args W R h => by rw [eF]; exact callsIn_wide.2 h
 obtain ⟨n, hn⟩ : ∃ n : Nat, 4 ≤ n := ⟨4, Nat.le_refl _⟩
 refine (callsIn_wide (n := n)).1 ?_
 rw [← eF]
 have WIDE := Lib.hid wide
 clear wide eF
 have h1 : 1 ≤ n := by omega
 have hp := fun W => parts_50 F (n - 1) (hF 27) hro e a cc W
 have hck := fun W hb => WIDE.out (n - 1) 16 _ W _ (chk_21 e a cc W hfit (hat.below hb) (tabs_below hT hb h11) (Nat.le_trans h11 hb.size))
 unfold ET.agg ET.cells at hp
 unfold ET.agg at hck
 have HP := Lib.hid hp
 have HCK := Lib.hid hck
 have HAT := Lib.hid hat
 have HFIT := Lib.hid hfit
 clear hp hck hat hfit hT
 unfold ET.agg
 refine callsIn_of_wp_marks Tryz.func87 rfl (hF 87) ?_ hro
 simp only [Tryz.ntmps87, List.size_toArray, List.length_cons, List.length_nil, Nat.reduceAdd, Nat.reduceSub, Array.replicate_succ, Array.replicate_zero, List.push_toArray, List.append_toArray, List.nil_append, List.cons_append]
 by_cases hmay : e.may okD = true
 ·have hgood := ET.may_good hmay
  have HGOOD := Lib.hid hgood
  have HMAY := Lib.hid hmay
  clear hgood
  rw [if_pos hmay] at HCK
  clear hmay
  gi_wp2_with (first | (gi_at_call 27; refine (HP.out _).mono ?_; rintro ev w' ⟨rfl, rfl⟩) | (gi_at_call 16; refine (HCK.out _ (three_below _ _ _ _)).mono ?_; rintro ev w1 ⟨rfl, hb1⟩; obtain ⟨t1, t2, t3⟩ := three_at hb1; obtain ⟨y0, y1, y2, y3, y4, y5, y6⟩ := cs7 t1; have z0 := cell_of_heap (o := 0) t3 rfl; have z1 := frozen_of_heap (o := 0) t3; have T2 := Lib.hid t2; have T3 := Lib.hid t3; have HB1 := Lib.hid hb1; clear hb1 t1 t2 t3))
  obtain ⟨H, eH⟩ : ∃ H, H = w.heap.size := ⟨_, rfl⟩
  obtain ⟨L, eL⟩ : ∃ L, L = w1.heap.size := ⟨_, rfl⟩
  obtain ⟨W0, hW0⟩ : ∃ W0, W0 = w1.alloc (.cells #[.int .u8 e.op, .slice a e.kids.length cc, .int .i64 e.col, .int .u8 e.lit.kind, .bool e.lit.bool, .int .i64 e.lit.int, .string e.lit.text] 27) := ⟨_, rfl⟩
  have hb1 : Below w.heap.size w w1 := (three_below _ _ _ _).trans (HB1.out.mono (by simp; omega))
  have hL3 : H + 3 ≤ L := by have := HB1.out.size; simp only [World.size_alloc] at this; omega
  have hs0 : W0.heap.size = L + 1 := by rw [hW0, eL]; simp
  have hb0 : Below w.heap.size w W0 := by rw [hW0]; exact hb1.alloc hb1.size _
  have r1 : W0.heap[H + 1]? = some (.cells #[.int .i64 k] 3 (0, 0)) := by
   rw [hW0, eH]; exact (Below.heap_alloc _ _ _ (lt_of_heap T2.out)).trans T2.out
  have r2 : W0.heap[H + 1 + 1]? = some (.cells #[.bool false] 4 (0, 0)) := by
   rw [hW0, eH]; exact (Below.heap_alloc _ _ _ (lt_of_heap T3.out)).trans T3.out
  have r3 : W0.heap[L]? = some (.cells #[.int .u8 e.op, .slice a e.kids.length cc, .int .i64 e.col, .int .u8 e.lit.kind, .bool e.lit.bool, .int .i64 e.lit.int, .string e.lit.text] 27 (0, 0)) := by
   rw [hW0, eL]; exact heap_alloc_new _ _
  rw [← hW0, ← eH, ← eL]
  clear y0 y1 y2 y3 y4 y5 y6 z0 z1 T2 T3 HB1 hb1
  have HS0 := Lib.hid hs0
  have HB0 := Lib.hid hb0
  have EH := Lib.hid eH
  have R1 := Lib.hid r1
  have R2 := Lib.hid r2
  have R3 := Lib.hid r3
  clear hW0 hs0 hb0 eH eL r1 r2 r3
  refine wpIn_rangeFunc_ownH hro h1 (gf := 43) (lb := #[.pointer (some ⟨L, 0, none⟩)]) rfl (hF 43) (enters_of Tryz.func43 (by kernel_rfl) rfl)
   (parts_stops F hd (n - 1) (hF 43) (hF 44) hro L (fun g => g = H + 1 + 1) e a cc HFIT.out W0 ?kc ?sl ?on) (fun h k => h.trans k) ?kb (Below.refl _ _) (fun _ => rfl)
   (fun pre W => W.heap[H + 1]? = some (.cells #[.int .i64 k] 3 (0, 0)) ∧ W.heap[H + 1 + 1]? = some (.cells #[.bool false] 4 (0, 0)) ∧ OvAll k pre ∧ Below w.heap.size w W ∧ W0.heap.size ≤ W.heap.size)
   (fun c pre W => c = .ret ∧ W.heap[H + 1 + 1]? = some (.cells #[.bool false] 4 (0, 0)) ∧ OvNo k pre ∧ Below w.heap.size w W)
   ?oi ?oix ⟨R1.out, R2.out, OvAll.nil, HB0.out, Nat.le_refl _⟩
   (fun x a' W => ∃ Bx, W0.heap.size ≤ Bx ∧ W.heap[Bx]? = some (.cells #[.int .u8 x.e.op, .slice x.a x.e.kids.length x.c, .int .i64 x.e.col, .int .u8 x.e.lit.kind, .bool x.e.lit.bool, .int .i64 x.e.lit.int, .string x.e.lit.text] 27 (0, 0)) ∧ a' = { tmps := #[.agg #[.int .u8 e.op, .slice a e.kids.length cc, .int .i64 e.col, .int .u8 e.lit.kind, .bool e.lit.bool, .int .i64 e.lit.int, .string e.lit.text], .int .i64 k, .pointer (some ⟨H, 0, none⟩), .pointer (some ⟨H + 1, 0, none⟩), .pointer (some ⟨H + 1 + 1, 0, none⟩), undef, .pointer (some ⟨Bx, 0, none⟩), .agg #[.int .u8 e.op, .slice a e.kids.length cc, .int .i64 e.col, .int .u8 e.lit.kind, .bool e.lit.bool, .int .i64 e.lit.int, .string e.lit.text], .int .u16 0, .bool false, .agg #[.int .u8 e.op, .slice a e.kids.length cc, .int .i64 e.col, .int .u8 e.lit.kind, .bool e.lit.bool, .int .i64 e.lit.int, .string e.lit.text], .func (.func 43) #[] #[.pointer (some ⟨L, 0, none⟩)], .int .i64 x.deep, .agg #[.int .u8 x.e.op, .slice x.a x.e.kids.length x.c, .int .i64 x.e.col, .int .u8 x.e.lit.kind, .bool x.e.lit.bool, .int .i64 x.e.lit.int, .string x.e.lit.text], undef, undef, undef, undef, undef, undef, undef, undef, undef], defers := [] }) ?ax ?assign ?body ?done ?stop
  case kc =>
   exact ⟨cell_of_heap R3.out rfl, cell_of_heap R3.out rfl, cell_of_heap R3.out rfl, cell_of_heap R3.out rfl, cell_of_heap R3.out rfl, cell_of_heap R3.out rfl, cell_of_heap R3.out rfl⟩
  case sl =>
   intro g hg
   have := HS0.out
   subst hg
   omega
  case on =>
   refine (HAT.out.lt.below HB0.out).wide fun g hg h => ?_
   have := EH.out
   subst h
   omega
  case kb =>
   intro W l' oo oo' _ hl hc _
   exact kps_putObj hl hc
  case oi =>
   intro pre W W' row hI hg hr
   obtain ⟨i1, i2, i3, i4, i5⟩ := hI
   have hs := HS0.out
   have hh := EH.out
   exact ⟨(hg.block _ (lt_of_heap i1) fun er => by have := (hr _ er.symm).1; omega).trans i1, (hg.block _ (lt_of_heap i2) fun er => by have := (hr _ er.symm).1; omega).trans i2, i3, i4.grown hg i4.size fun g er => by (have := (hr g er).1; omega), Nat.le_trans i5 hg.size⟩
  case oix =>
   intro c pre W W' row hI hg hr
   obtain ⟨i0, i1, i2, i3⟩ := hI
   have hs := HS0.out
   have hh := EH.out
   exact ⟨i0, (hg.block _ (lt_of_heap i1) fun er => by have := (hr _ er.symm).1; omega).trans i1, i2, i3.grown hg i3.size fun g er => by have := (hr g er).1; omega⟩
  case ax =>
   intro x a' _ W W' row hI hg hr
   obtain ⟨Bx, b1, b2, b3⟩ := hI
   refine ⟨Bx, b1, (hg.block _ (lt_of_heap b2) fun er => ?_).trans b2, b3⟩
   obtain ⟨-, o, ho, hc⟩ := hr _ er.symm
   rw [b2] at ho
   cases ho
   cases hc
  case assign =>
   intro l pre x W K hI hK
   unfold Part.encs ET.agg Part.kv
   gi_wp2
   obtain ⟨i1, i2, i3, i4, i5⟩ := hI
   exact hK _ _ ((KeepsOthers.alloc _ _).from _) (KpS.alloc _ _ _) ⟨(Below.heap_alloc _ _ _ (lt_of_heap i1)).trans i1, (Below.heap_alloc _ _ _ (lt_of_heap i2)).trans i2, i3, i4.alloc i4.size _, by (rw [World.size_alloc]; omega)⟩ ⟨W.heap.size, i5, heap_alloc_new _ _, rfl⟩
  case body =>
   intro l pre x a' W hl hlr hI hA hlt
   obtain ⟨i1, i2, i3, i4, i5⟩ := hI
   obtain ⟨Bx, b1, b2, rfl⟩ := hA
   have q0 : W.cell? ⟨H + 1, 0, none⟩ = some (.int .i64 k) := cell_of_heap i1 rfl
   have z0 : W.cell? ⟨H + 1 + 1, 0, none⟩ = some (.bool false) := cell_of_heap i2 rfl
   have z1 : W.frozen? ⟨H + 1 + 1, 0, none⟩ = false := frozen_of_heap i2
   have x0 : W.cell? ⟨Bx, 0, none⟩ = some (.int .u8 x.e.op) := cell_of_heap b2 rfl
   have x2 : W.cell? ⟨Bx, 2, none⟩ = some (.int .i64 x.e.col) := cell_of_heap b2 rfl
   have hgo : OvHit k x = false → KeepsFrom W0.heap.size W W ∧ KpS (fun g => g = H + 1 + 1) W W ∧ W.heap[H + 1]? = some (.cells #[.int .i64 k] 3 (0, 0)) ∧ W.heap[H + 1 + 1]? = some (.cells #[.bool false] 4 (0, 0)) ∧ OvAll k (pre ++ [x]) ∧ Below w.heap.size w W ∧ W0.heap.size ≤ W.heap.size := fun h => ⟨KeepsFrom.refl _ _, KpS.refl _ _, i1, i2, i3.snoc h, i4, i5⟩
   have hlv : OvHit k x = true → KeepsFrom W0.heap.size W (W.setCell ⟨H + 1 + 1, 0, none⟩ (.bool false)) ∧ ((W.setCell ⟨H + 1 + 1, 0, none⟩ (.bool false)).heap[H + 1 + 1]? = some (.cells #[.bool false] 4 (0, 0)) ∧ OvNo k (pre ++ [x]) ∧ Below w.heap.size w (W.setCell ⟨H + 1 + 1, 0, none⟩ (.bool false))) := fun h =>
    ⟨(KeepsOthers.setCell _ _ _).from _, (by rw [heap_set_same i2]; rfl), OvNo.snoc h, i4.setCell (p := ⟨H + 1 + 1, 0, none⟩) (by have := EH.out; show w.heap.size ≤ H + 1 + 1; omega) _⟩
   have HGO := Lib.hid hgo
   have HLV := Lib.hid hlv
   clear i1 i2 i3 i4 b2 hgo hlv
   gi_wp2
   all_goals first | exact HGO.out (by simp only [OvHit, Bool.and_eq_false_iff, decide_eq_false_iff_not]; first | (left; assumption) | (right; omega)) | (have hx : OvHit k x = true := (by simp only [OvHit, Bool.and_eq_true, decide_eq_true_eq]; exact ⟨by assumption, by omega⟩); exact ⟨(HLV.out hx).1, rfl, (HLV.out hx).2⟩)
  case done =>
   intro D xs W hD hS hI hK
   obtain ⟨i1, i2, i3, i4, i5⟩ := hI
   have hwi : e.within k = true := (ET.within_of_pre k okD e 1 HGOOD.out).1 (by
    rw [← hS]
    intro y hy
    obtain ⟨x, hx, rfl⟩ := List.mem_map.1 hy
    exact i3.at x hx)
   have c1 : W.cell? ⟨H + 1 + 1, 0, none⟩ = some (.bool false) := cell_of_heap i2 rfl
   have f1 : W.frozen? ⟨H + 1 + 1, 0, none⟩ = false := frozen_of_heap i2
   have hR := ER.out
   rw [HMAY.out, hwi] at hR
   obtain rfl : R = true := hR
   gi_wp2
   refine ⟨by simp, .inl ⟨_, _, rfl, run_takeDeferred ((KeepsOthers.setCell _ _ _).same D _ hK rfl), ?_⟩⟩
   have hs := HS0.out
   have hh := EH.out
   have hne : D ≠ H + 1 + 1 := by omega
   have c5 : ((W.setCell ⟨H + 1 + 1, 0, none⟩ (.bool true)).putObj D (Obj.deferred none)).cell? ⟨H + 1 + 1, 0, none⟩ = some (.bool true) :=
    cell_kept (World.cell?_setCell_same' _ _ _ (by rw [c1]; rfl)) (grownBy_putObj' _ D (.deferred none)) (fun r er => by cases er; exact ⟨_, (KeepsOthers.setCell _ _ _).same D _ hK rfl, rfl⟩)
   refine ⟨_, by simp [results, Tryz.f87, go_sem, c5], rfl, ?_⟩
   exact ((i4.setCell (p := ⟨H + 1 + 1, 0, none⟩) (by show w.heap.size ≤ H + 1 + 1; omega) _)).trans (belowK_b (w := W0) (by omega) _ D _ _ hD ((KeepsOthers.setCell _ _ _).same D _ hK rfl) rfl rfl)
  case stop =>
   intro D c pre W hD hS hI hK
   obtain ⟨rfl, i1, i2, i3⟩ := hI
   have hwi : e.within k = false := by
    cases hw : e.within k
    ·rfl
    ·exact absurd ((ET.within_of_pre k okD e 1 HGOOD.out).2 hw) fun h => i2.out fun x hx => h _ (hS.subset (List.mem_map.2 ⟨x, hx, rfl⟩))
   have hR := ER.out
   rw [HMAY.out, hwi] at hR
   obtain rfl : R = false := hR
   gi_wp2
   refine ⟨by simp, .inl ⟨_, _, rfl, run_takeDeferred hK, ?_⟩⟩
   have hs := HS0.out
   have hh := EH.out
   have c5 : (W.putObj D (Obj.deferred none)).cell? ⟨H + 1 + 1, 0, none⟩ = some (.bool false) :=
    cell_kept (cell_of_heap i1 rfl) (grownBy_putObj' _ D (.deferred none)) (fun r er => by cases er; exact ⟨_, hK, rfl⟩)
   refine ⟨_, by simp [results, Tryz.f87, go_sem, c5], rfl, ?_⟩
   exact i3.trans (belowK_b (w := W0) (by omega) _ D _ _ hD hK rfl rfl)
 ·have HMAY := Lib.hid hmay
  rw [if_neg hmay] at HCK
  clear hmay
  gi_wp2_with (first | (gi_at_call 27; refine (HP.out _).mono ?_; rintro ev w' ⟨rfl, rfl⟩) | (gi_at_call 16; refine (HCK.out _ (three_below _ _ _ _)).mono ?_; rintro ev w1 ⟨rfl, hb1⟩; obtain ⟨t1, t2, t3⟩ := three_at hb1; obtain ⟨y0, y1, y2, y3, y4, y5, y6⟩ := cs7 t1; have z0 := cell_of_heap (o := 0) t3 rfl; have z1 := frozen_of_heap (o := 0) t3; have T2 := Lib.hid t2; have T3 := Lib.hid t3; have HB1 := Lib.hid hb1; clear hb1 t1 t2 t3))
  have hR := ER.out
  rw [show e.may okD = false by simpa using HMAY.out] at hR
  obtain rfl : R = false := hR
  have c5 := World.cell?_setCell_same' w1 ⟨w.heap.size + 1 + 1, 0, none⟩ (.bool false) (by rw [z0]; rfl)
  refine ⟨_, by simp [results, Tryz.f87, go_sem, c5], rfl, ?_⟩
  exact (((three_below _ _ _ _).trans (HB1.out.mono (by simp; omega))).setCell (p := ⟨w.heap.size + 1 + 1, 0, none⟩) (by show w.heap.size ≤ w.heap.size + 1 + 1; omega) _)
end Go.Proofs.YtmmhedlagnjbiaaGreatDoor
