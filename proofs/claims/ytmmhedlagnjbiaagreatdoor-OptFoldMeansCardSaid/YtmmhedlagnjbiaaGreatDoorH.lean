import Derived.Test.YtmmhedlagnjbiaaGreatDoorF
/- our texts, shortened by program (pack.py) -/
set_option maxRecDepth 100000
set_option maxHeartbeats 8000000
namespace Go.Proofs.YtmmhedlagnjbiaaGreatDoor
open Go.RowKit Go.Pen Go.Shelf
attribute [local go_sem] Oper.semAt_some
theorem ET.On.lt {S : Nat → Prop} {w : World} : ∀ {e : ET} {v : Value}, e.On S w v → e.On (fun g => g < w.heap.size) w v := by
 intro e
 refine ET.ind (C := fun e => ∀ {v : Value}, e.On S w v → e.On (fun g => g < w.heap.size) w v) (fun o c d ks ih v hh => ?_) e
 rw [ET.On.iff] at hh ⊢
 obtain ⟨a, cc, hv, hn, hh⟩ := hh
 refine ⟨a, cc, hv, hn, fun hne => ?_⟩
 obtain ⟨b, off, ha, hS, hh⟩ := hh hne
 have hb : b < w.heap.size := by
  cases ks with
  | nil => exact absurd rfl hne
  | cons k ks =>
   obtain ⟨kv, h1, -⟩ := hh.get (i := 0) rfl
   exact World.block_lt_of_cell? w _ h1.1
 refine ⟨b, off, ha, hb, ET.Ons.mk fun i k hk => ?_⟩
 obtain ⟨kv, h1, h2⟩ := hh.get hk
 exact ⟨kv, h1, ih k (List.mem_of_getElem? hk) h2⟩
theorem kps_putObj {S : Nat → Prop} {W : World} {l : Nat} {o o' : Obj} (hl : W.heap[l]? = some o) (hc : o.isCells = false) : KpS S W (W.putObj l o') := by
 have hg := grownBy_putObj' W l o'
 refine ⟨hg.size, fun g c t f h _ => (hg.block g (lt_of_heap h) fun e => ?_).trans h⟩
 cases e
 rw [hl] at h
 cases h
 cases hc
theorem KpS.setCell {S : Nat → Prop} {W : World} {b o : Nat} {v : Value} (hb : S b) : KpS S W (W.setCell ⟨b, o, none⟩ v) :=
 ⟨by simp [World.setCell], fun g c t f hg hn => by rw [heap_set_ne (fun e => hn (by rw [e]; exact hb))]; exact hg⟩
theorem chk_go {ok : Dat → Bool} {w W W0 : World} {H : Nat} {pre : List Part} {x : Part} (hH : w.heap.size ≤ H) (i1 : W.heap[H + 1 + 1]? = some (.cells #[.int .i64 (pre.length : Nat)] 3 (0, 0))) (i2 : W.heap[H + 1]? = some (.cells #[.int .u16 0] 31 (0, 0)))
  (i3 : ∀ y ∈ pre ++ [x], y.deep ≤ 60 ∧ y.e.own ok = true) (i4 : (pre ++ [x]).length ≤ 4000) (i5 : Below w.heap.size w W) (i6 : W0.heap.size ≤ W.heap.size) :
  KeepsFrom W0.heap.size W (W.setCell ⟨H + 1 + 1, 0, none⟩ (.int .i64 ((pre.length : Int) + 1))) ∧ KpS (fun g => g = H + 1 ∨ g = H + 1 + 1) W (W.setCell ⟨H + 1 + 1, 0, none⟩ (.int .i64 ((pre.length : Int) + 1))) ∧
   (W.setCell ⟨H + 1 + 1, 0, none⟩ (.int .i64 ((pre.length : Int) + 1))).heap[H + 1 + 1]? = some (.cells #[.int .i64 ((pre ++ [x]).length : Nat)] 3 (0, 0)) ∧ (W.setCell ⟨H + 1 + 1, 0, none⟩ (.int .i64 ((pre.length : Int) + 1))).heap[H + 1]? = some (.cells #[.int .u16 0] 31 (0, 0)) ∧
   (∀ y ∈ pre ++ [x], y.deep ≤ 60 ∧ y.e.own ok = true) ∧ (pre ++ [x]).length ≤ 4000 ∧ Below w.heap.size w (W.setCell ⟨H + 1 + 1, 0, none⟩ (.int .i64 ((pre.length : Int) + 1))) ∧ W0.heap.size ≤ (W.setCell ⟨H + 1 + 1, 0, none⟩ (.int .i64 ((pre.length : Int) + 1))).heap.size := by
 refine ⟨(KeepsOthers.setCell _ _ _).from _, KpS.setCell (.inr rfl), ?_, ?_, i3, i4, i5.setCell (p := ⟨H + 1 + 1, 0, none⟩) (by show w.heap.size ≤ H + 1 + 1; omega) _, by simpa [World.setCell] using i6⟩
 ·rw [heap_set_same i1]
  simp
 ·rw [heap_set_ne (by omega)]; exact i2
theorem chk_then {ok : Dat → Bool} {w W W1 W2 W0 : World} {H : Nat} {ps : List Part} {m : Int}
  (h : KeepsFrom W0.heap.size W W1 ∧ KpS (fun g => g = H + 1 ∨ g = H + 1 + 1) W W1 ∧ W1.heap[H + 1 + 1]? = some (.cells #[.int .i64 m] 3 (0, 0)) ∧ W1.heap[H + 1]? = some (.cells #[.int .u16 0] 31 (0, 0)) ∧ (∀ y ∈ ps, y.deep ≤ 60 ∧ y.e.own ok = true) ∧ ps.length ≤ 4000 ∧ Below w.heap.size w W1 ∧ W0.heap.size ≤ W1.heap.size)
  (hb : Below W1.heap.size W1 W2) :
  KeepsFrom W0.heap.size W W2 ∧ KpS (fun g => g = H + 1 ∨ g = H + 1 + 1) W W2 ∧ W2.heap[H + 1 + 1]? = some (.cells #[.int .i64 m] 3 (0, 0)) ∧ W2.heap[H + 1]? = some (.cells #[.int .u16 0] 31 (0, 0)) ∧ (∀ y ∈ ps, y.deep ≤ 60 ∧ y.e.own ok = true) ∧ ps.length ≤ 4000 ∧ Below w.heap.size w W2 ∧ W0.heap.size ≤ W2.heap.size := by
 obtain ⟨h1, h2, h3, h4, h5, h6, h7, h8⟩ := h
 exact ⟨⟨Nat.le_trans h1.size hb.size, fun k o hB hk ho => (hb.block k (lt_of_heap (h1.same k o hB hk ho))).trans (h1.same k o hB hk ho)⟩, ⟨Nat.le_trans h2.1 hb.size, fun g c t f hg hn => (hb.block g (lt_of_heap (h2.2 g c t f hg hn))).trans (h2.2 g c t f hg hn)⟩,
  (hb.block _ (lt_of_heap h3)).trans h3, (hb.block _ (lt_of_heap h4)).trans h4, h5, h6, h7.trans (hb.mono h7.size), Nat.le_trans h8 hb.size⟩
theorem chk_cell {W W2 : World} {H : Nat} {m : Value} (i2 : W.heap[H + 1]? = some (.cells #[.int .u16 0] 31 (0, 0))) (hb : Below (W.setCell ⟨H + 1 + 1, 0, none⟩ m).heap.size (W.setCell ⟨H + 1 + 1, 0, none⟩ m) W2) : W2.heap[H + 1]? = some (.cells #[.int .u16 0] 31 (0, 0)) := by
 have hs : (W.setCell ⟨H + 1 + 1, 0, none⟩ m).heap.size = W.heap.size := by simp [World.setCell]
 rw [hb.block _ (by rw [hs]; exact lt_of_heap i2), heap_set_ne (by omega)]
 exact i2
def ChkNo (ok : Dat → Bool) (ps : List Part) : Prop := ¬ ((∀ x ∈ ps, x.deep ≤ 60 ∧ x.e.own ok = true) ∧ ps.length ≤ 4000)
theorem chk_ret {ok : Dat → Bool} {w W W0 : World} {H : Nat} {pre : List Part} {x : Part} (hH : w.heap.size ≤ H) (_ : W.heap[H + 1 + 1]? = some (.cells #[.int .i64 (pre.length : Nat)] 3 (0, 0))) (i2 : W.heap[H + 1]? = some (.cells #[.int .u16 0] 31 (0, 0)))
  (hbad : ¬ (x.deep ≤ 60 ∧ x.e.own ok = true ∧ pre.length + 1 ≤ 4000)) (_ : ∀ y ∈ pre, y.deep ≤ 60 ∧ y.e.own ok = true) (i5 : Below w.heap.size w W) {W2 : World} (hb : Below (W.setCell ⟨H + 1 + 1, 0, none⟩ (.int .i64 ((pre.length : Int) + 1))).heap.size (W.setCell ⟨H + 1 + 1, 0, none⟩ (.int .i64 ((pre.length : Int) + 1))) W2) :
  KeepsFrom W0.heap.size W (W2.setCell ⟨H + 1, 0, none⟩ (.int .u16 30)) ∧ ((W2.setCell ⟨H + 1, 0, none⟩ (.int .u16 30)).heap[H + 1]? = some (.cells #[.int .u16 30] 31 (0, 0)) ∧ ChkNo ok (pre ++ [x]) ∧ Below w.heap.size w (W2.setCell ⟨H + 1, 0, none⟩ (.int .u16 30))) := by
 have hs : (W.setCell ⟨H + 1 + 1, 0, none⟩ (.int .i64 ((pre.length : Int) + 1))).heap.size = W.heap.size := by simp [World.setCell]
 have e1 : W2.heap[H + 1]? = some (.cells #[.int .u16 0] 31 (0, 0)) := by
  rw [hb.block _ (by rw [hs]; exact lt_of_heap i2), heap_set_ne (by omega)]
  exact i2
 have k2 : KeepsOthers W W2 := (KeepsOthers.setCell _ _ _).trans ⟨hb.size, fun k o hk ho => (hb.block k (lt_of_heap hk)).trans hk⟩
 refine ⟨(k2.trans (KeepsOthers.setCell _ _ _)).from _, ?_, fun h => hbad ?_, ?_⟩
 ·rw [heap_set_same e1]; rfl
 ·have := h.1 x (by simp)
  exact ⟨this.1, this.2, by simpa using h.2⟩
 ·have h1 : Below w.heap.size w (W.setCell ⟨H + 1 + 1, 0, none⟩ (.int .i64 ((pre.length : Int) + 1))) := i5.setCell (p := ⟨H + 1 + 1, 0, none⟩) (by show w.heap.size ≤ H + 1 + 1; omega) _
  exact (h1.trans (hb.mono h1.size)).setCell (p := ⟨H + 1, 0, none⟩) (by show w.heap.size ≤ H + 1; omega) _
def ChkLeave (ok : Dat → Bool) (w W W0 : World) (H : Nat) (pre : List Part) (x : Part) : Prop :=
 ∀ W2, Below (W.setCell ⟨H + 1 + 1, 0, none⟩ (.int .i64 ((pre.length : Int) + 1))).heap.size (W.setCell ⟨H + 1 + 1, 0, none⟩ (.int .i64 ((pre.length : Int) + 1))) W2 →
  KeepsFrom W0.heap.size W (W2.setCell ⟨H + 1, 0, none⟩ (.int .u16 30)) ∧ ((W2.setCell ⟨H + 1, 0, none⟩ (.int .u16 30)).heap[H + 1]? = some (.cells #[.int .u16 30] 31 (0, 0)) ∧ ChkNo ok (pre ++ [x]) ∧ Below w.heap.size w (W2.setCell ⟨H + 1, 0, none⟩ (.int .u16 30)))
def ChkBad (ok : Dat → Bool) (pre : List Part) (x : Part) : Prop := ¬ (x.deep ≤ 60 ∧ x.e.own ok = true ∧ pre.length + 1 ≤ 4000)
theorem lit_zero {d : Dat} (l1 : d.kind = 0) (l2 : ¬ d.bool = true) (l3 : d.int = 0) (l4 : d.text.toList = []) : d = Dat.zero := by
 obtain ⟨k, b, n, t⟩ := d
 have ht : t = ⟨#[]⟩ := by
  rw [ByteArray.toList_eq] at l4
  exact ByteArray.ext (Array.toList_eq_nil_iff.1 l4)
 cases b
 ·simp only [Dat.zero] at *
  subst l1 l3 ht
  rfl
 ·exact absurd rfl l2
theorem own_col {ok : Dat → Bool} {e : ET} (o1 : e.op = 1) (hk : kidsOk 1 e.kids.length = true) (c0 : 0 ≤ e.col) (c9 : e.col ≤ 9999) (l1 : e.lit.kind = 0) (l2 : ¬ e.lit.bool = true) (l3 : e.lit.int = 0) (l4 : e.lit.text.toList = []) : e.own ok = true := by
 simp [ET.own, o1, hk, c0, c9, lit_zero l1 l2 l3 l4]
theorem own_lit {ok : Dat → Bool} {e : ET} (o2 : e.op = 2) (hk : kidsOk 2 e.kids.length = true) (c0 : e.col = 0) (l : ok e.lit = true) : e.own ok = true := by
 simp [ET.own, o2, hk, c0, l]
theorem own_fail {ok : Dat → Bool} {e : ET} (o3 : e.op = 23) (hk : kidsOk 23 e.kids.length = true) (c0 : e.col = 0) (l1 : e.lit.kind = 3) (l2 : ¬ e.lit.bool = true) (l4 : e.lit.text.toList = []) (n1 : 1 ≤ e.lit.int) (n2 : e.lit.int ≤ 65535) : e.own ok = true := by
 have h : e.lit = ⟨3, false, e.lit.int, ⟨#[]⟩⟩ := by
  cases hd : e.lit with
  | mk k b n t =>
   rw [hd] at l1 l2 l4
   have ht : t = ⟨#[]⟩ := by
    simp only [ByteArray.toList_eq] at l4
    exact ByteArray.ext (Array.toList_eq_nil_iff.1 l4)
   subst ht
   simp only at l1 l2
   subst l1
   cases b
   ·rfl
   ·exact absurd rfl l2
 simp only [ET.own, o3, hk, c0]
 simp [h.symm, n1, n2]
theorem own_other {ok : Dat → Bool} {e : ET} (o1 : ¬ e.op = 1) (o2 : ¬ e.op = 2) (o3 : ¬ e.op = 23) (hk : kidsOk e.op e.kids.length = true) (c0 : e.col = 0) (l1 : e.lit.kind = 0) (l2 : ¬ e.lit.bool = true) (l3 : e.lit.int = 0) (l4 : e.lit.text.toList = []) : e.own ok = true := by
 simp only [ET.own, hk, if_neg o1, if_neg o2, if_neg o3, c0, lit_zero l1 l2 l3 l4]
 rfl
def Chk54 (ok : Dat → Bool) (w : World) : Prop := ∀ (d : Dat) (W : World), d.fits → Below w.heap.size w W →
 Calls Tryz.prog 29 #[.agg #[.int .u8 d.kind, .bool d.bool, .int .i64 d.int, .string d.text]] W fun ev W' => ∃ code : Nat, ev = .returned (.int .u16 code) ∧ (code = 0 ↔ ok d = true) ∧ Below W.heap.size W W'
theorem check_21 (ok : Dat → Bool) (e : ET) (a : Option Addr) (cc : Nat) (w : World) (hfit : e.fits) (hat : e.At w (.slice a e.kids.length cc)) (h54 : Chk54 ok w) :
  Calls Tryz.prog 16 #[e.agg (.slice a e.kids.length cc)] w fun ev w' => ev = .returned (.int .u16 (if e.may ok then 0 else 30)) ∧ Below w.heap.size w w' := by
 obtain ⟨R, eR⟩ : ∃ R : Int, R = if e.may ok = true then 0 else 30 := ⟨_, rfl⟩
 rw [← eR]
 have ER := Lib.hid eR
 clear eR
 obtain ⟨F, eF⟩ : ∃ F, F = Fence.wide := ⟨_, rfl⟩
 have hd : F.depth = none := by rw [eF]; rfl
 have hF : ∀ f, F.fn f := fun f => by rw [eF]; trivial
 have hro : F.round = none := by rw [eF]; rfl
 have wide : ∀ (m : Nat) (f : FuncId) (args : Array Value) (W : World) (R : Ending → World → Prop), Calls Tryz.prog f args W R → CallsIn F m Tryz.prog f args W R := fun m f args W R h => by rw [eF]; exact callsIn_wide.2 h
 obtain ⟨n, hn⟩ : ∃ n : Nat, 4 ≤ n := ⟨4, Nat.le_refl _⟩
 refine (callsIn_wide (n := n)).1 ?_
 rw [← eF]
 have WIDE := Lib.hid wide
 clear wide eF
 have h1 : 1 ≤ n := by omega
 have hp := fun W => parts_50 F (n - 1) (hF 27) hro e a cc W
 unfold ET.agg ET.cells at hp
 have HP := Lib.hid hp
 have H54 := Lib.hid h54
 have HAT := Lib.hid hat
 have HFIT := Lib.hid hfit
 clear hp h54 hat hfit
 unfold ET.agg
 refine callsIn_of_wp_marks Tryz.func16 rfl (hF 16) ?_ hro
 simp only [Tryz.ntmps16, List.size_toArray, List.length_cons, List.length_nil, Nat.reduceAdd, Nat.reduceSub, Array.replicate_succ, Array.replicate_zero, List.push_toArray, List.append_toArray, List.nil_append, List.cons_append]
 gi_wp2_with (gi_at_call 27; refine (HP.out _).mono ?_; rintro ev w' ⟨rfl, rfl⟩)
 obtain ⟨H, eH⟩ : ∃ H, H = w.heap.size := ⟨_, rfl⟩
 obtain ⟨W0, hW0⟩ : ∃ W0, W0 = (((w.alloc (.cells #[.int .u8 e.op, .slice a e.kids.length cc, .int .i64 e.col, .int .u8 e.lit.kind, .bool e.lit.bool, .int .i64 e.lit.int, .string e.lit.text] 27)).alloc (.cells #[.int .u16 0] 31)).alloc (.cells #[.int .i64 0] 3)).alloc (.cells #[.int .u8 e.op, .slice a e.kids.length cc, .int .i64 e.col, .int .u8 e.lit.kind, .bool e.lit.bool, .int .i64 e.lit.int, .string e.lit.text] 27) := ⟨_, rfl⟩
 have hs0 : W0.heap.size = H + 4 := by rw [hW0, eH]; simp
 have hb0 : Below w.heap.size w W0 := by rw [hW0]; exact ((((Below.refl _ _).alloc (Nat.le_refl _) _).alloc (by simp) _).alloc (by simp; omega) _).alloc (by simp; omega) _
 have r1 : W0.heap[H + 1]? = some (.cells #[.int .u16 0] 31 (0, 0)) := by
  rw [hW0, Below.heap_alloc _ _ _ (by simp; omega), Below.heap_alloc _ _ _ (by simp; omega)]
  have h := heap_alloc_new (w.alloc (.cells #[.int .u8 e.op, .slice a e.kids.length cc, .int .i64 e.col, .int .u8 e.lit.kind, .bool e.lit.bool, .int .i64 e.lit.int, .string e.lit.text] 27)) (.cells #[.int .u16 0] 31)
  rw [World.size_alloc, ← eH] at h
  exact h
 have r2 : W0.heap[H + 1 + 1]? = some (.cells #[.int .i64 0] 3 (0, 0)) := by
  rw [hW0, Below.heap_alloc _ _ _ (by simp; omega)]
  have h := heap_alloc_new ((w.alloc (.cells #[.int .u8 e.op, .slice a e.kids.length cc, .int .i64 e.col, .int .u8 e.lit.kind, .bool e.lit.bool, .int .i64 e.lit.int, .string e.lit.text] 27)).alloc (.cells #[.int .u16 0] 31)) (.cells #[.int .i64 0] 3)
  rw [World.size_alloc, World.size_alloc, ← eH] at h
  exact h
 have r3 : W0.heap[H + 1 + 1 + 1]? = some (.cells #[.int .u8 e.op, .slice a e.kids.length cc, .int .i64 e.col, .int .u8 e.lit.kind, .bool e.lit.bool, .int .i64 e.lit.int, .string e.lit.text] 27 (0, 0)) := by
  rw [hW0]
  have h := heap_alloc_new (((w.alloc (.cells #[.int .u8 e.op, .slice a e.kids.length cc, .int .i64 e.col, .int .u8 e.lit.kind, .bool e.lit.bool, .int .i64 e.lit.int, .string e.lit.text] 27)).alloc (.cells #[.int .u16 0] 31)).alloc (.cells #[.int .i64 0] 3)) (.cells #[.int .u8 e.op, .slice a e.kids.length cc, .int .i64 e.col, .int .u8 e.lit.kind, .bool e.lit.bool, .int .i64 e.lit.int, .string e.lit.text] 27)
  rw [World.size_alloc, World.size_alloc, World.size_alloc, ← eH] at h
  exact h
 rw [← hW0, ← eH]
 have HS0 := Lib.hid hs0
 have HB0 := Lib.hid hb0
 have EH := Lib.hid eH
 have R1 := Lib.hid r1
 have R2 := Lib.hid r2
 have R3 := Lib.hid r3
 clear hW0 hs0 hb0 eH r1 r2 r3
 refine wpIn_rangeFunc_ownH hro h1 (gf := 43) (lb := #[.pointer (some ⟨H + 1 + 1 + 1, 0, none⟩)]) rfl (hF 43) (enters_of Tryz.func43 (by kernel_rfl) rfl)
  (parts_stops F hd (n - 1) (hF 43) (hF 44) hro (H + 1 + 1 + 1) (fun g => g = H + 1 ∨ g = H + 1 + 1) e a cc HFIT.out W0 ?kc ?sl ?on) (fun h k => h.trans k) ?kb (Below.refl _ _) (fun _ => rfl)
  (fun pre W => W.heap[H + 1 + 1]? = some (.cells #[.int .i64 (pre.length : Nat)] 3 (0, 0)) ∧ W.heap[H + 1]? = some (.cells #[.int .u16 0] 31 (0, 0)) ∧ (∀ x ∈ pre, x.deep ≤ 60 ∧ x.e.own ok = true) ∧ pre.length ≤ 4000 ∧ Below w.heap.size w W ∧ W0.heap.size ≤ W.heap.size)
  (fun c pre W => c = .ret ∧ W.heap[H + 1]? = some (.cells #[.int .u16 30] 31 (0, 0)) ∧ ChkNo ok pre ∧ Below w.heap.size w W)
  ?oi ?oix ⟨R2.out, R1.out, fun x hx => by (cases hx), Nat.zero_le _, HB0.out, Nat.le_refl _⟩
  (fun x a' W => ∃ Bx, W0.heap.size ≤ Bx ∧ W.heap[Bx]? = some (.cells #[.int .u8 x.e.op, .slice x.a x.e.kids.length x.c, .int .i64 x.e.col, .int .u8 x.e.lit.kind, .bool x.e.lit.bool, .int .i64 x.e.lit.int, .string x.e.lit.text] 27 (0, 0)) ∧ a' = { tmps := #[.agg #[.int .u8 e.op, .slice a e.kids.length cc, .int .i64 e.col, .int .u8 e.lit.kind, .bool e.lit.bool, .int .i64 e.lit.int, .string e.lit.text], .pointer (some ⟨H, 0, none⟩), .pointer (some ⟨H + 1, 0, none⟩), .pointer (some ⟨H + 1 + 1, 0, none⟩), .int .i64 x.deep, .pointer (some ⟨Bx, 0, none⟩), undef, .agg #[.int .u8 e.op, .slice a e.kids.length cc, .int .i64 e.col, .int .u8 e.lit.kind, .bool e.lit.bool, .int .i64 e.lit.int, .string e.lit.text], .func (.func 43) #[] #[.pointer (some ⟨H + 1 + 1 + 1, 0, none⟩)], .int .i64 x.deep, .agg #[.int .u8 x.e.op, .slice x.a x.e.kids.length x.c, .int .i64 x.e.col, .int .u8 x.e.lit.kind, .bool x.e.lit.bool, .int .i64 x.e.lit.int, .string x.e.lit.text], undef, undef, undef, undef, undef, undef, undef, undef, undef, undef, undef, undef, undef, undef, undef, undef, undef, undef, undef, undef, undef, undef, undef, undef, undef, undef, undef, undef, undef, undef, undef, undef, undef, undef, undef, undef, undef, undef, undef, undef, undef, undef, undef, undef, undef, undef, undef, undef, undef, undef, undef, undef, undef, undef, undef, undef, undef, undef, undef, undef, undef, undef, undef, undef, undef, undef, undef, undef, undef, undef, undef, undef, undef, undef, undef, undef, undef, undef, undef, undef], defers := [] }) ?ax ?assign ?body ?done ?stop
 case kc =>
  exact ⟨cell_of_heap R3.out rfl, cell_of_heap R3.out rfl, cell_of_heap R3.out rfl, cell_of_heap R3.out rfl, cell_of_heap R3.out rfl, cell_of_heap R3.out rfl, cell_of_heap R3.out rfl⟩
 case sl =>
  intro g hg
  have := HS0.out
  rcases hg with rfl | rfl <;> omega
 case on =>
  refine (HAT.out.lt.below HB0.out).wide fun g hg h => ?_
  have := EH.out
  rcases h with rfl | rfl <;> omega
 case kb =>
  intro W l' oo oo' _ hl hc _
  exact kps_putObj hl hc
 case oi =>
  intro pre W W' row hI hg hr
  obtain ⟨i1, i2, i3, i4, i5, i6⟩ := hI
  have hs := HS0.out
  have hh := EH.out
  exact ⟨(hg.block _ (lt_of_heap i1) fun er => by have := (hr _ er.symm).1; omega).trans i1, (hg.block _ (lt_of_heap i2) fun er => by have := (hr _ er.symm).1; omega).trans i2, i3, i4, i5.grown hg i5.size fun g er => by (have := (hr g er).1; omega), Nat.le_trans i6 hg.size⟩
 case oix =>
  intro c pre W W' row hI hg hr
  obtain ⟨i0, i1, i2, i3⟩ := hI
  have hs := HS0.out
  have hh := EH.out
  exact ⟨i0, (hg.block _ (lt_of_heap i1) fun er => by have := (hr _ er.symm).1; omega).trans i1, i2, i3.grown hg i3.size fun g er => by have := (hr g er).1; omega⟩
 case ax =>
  intro x a' _ W W' row hI hg hr
  obtain ⟨Bx, b1, b2, b3⟩ := hI
  refine ⟨Bx, b1, (hg.block _ (lt_of_heap b2) fun er => ?_).trans b2, b3⟩
  obtain ⟨-, o, ho, hc⟩ := hr _ er.symm
  rw [b2] at ho
  cases ho
  cases hc
 case assign =>
  intro l pre x W K hI hK
  unfold Part.encs ET.agg Part.kv
  gi_wp2
  obtain ⟨i1, i2, i3, i4, i5, i6⟩ := hI
  exact hK _ _ ((KeepsOthers.alloc _ _).from _) (KpS.alloc _ _ _) ⟨(Below.heap_alloc _ _ _ (lt_of_heap i1)).trans i1, (Below.heap_alloc _ _ _ (lt_of_heap i2)).trans i2, i3, i4, i5.alloc i5.size _, by (rw [World.size_alloc]; omega)⟩ ⟨W.heap.size, i6, heap_alloc_new _ _, rfl⟩
 case body =>
  intro l pre x a' W hl hlr hI hA hlt
  obtain ⟨i1, i2, i3, i4, i5, i6⟩ := hI
  obtain ⟨Bx, b1, b2, rfl⟩ := hA
  have hs := HS0.out
  have hh := EH.out
  have n0 : W.cell? ⟨H + 1 + 1, 0, none⟩ = some (.int .i64 (pre.length : Nat)) := cell_of_heap i1 rfl
  have n1 : W.frozen? ⟨H + 1 + 1, 0, none⟩ = false := frozen_of_heap i1
  have q0 : W.cell? ⟨H + 1, 0, none⟩ = some (.int .u16 0) := cell_of_heap i2 rfl
  have q1 : W.frozen? ⟨H + 1, 0, none⟩ = false := frozen_of_heap i2
  have x0 : W.cell? ⟨Bx, 0, none⟩ = some (.int .u8 x.e.op) := cell_of_heap b2 rfl
  have x1 : W.cell? ⟨Bx, 1, none⟩ = some (.slice x.a x.e.kids.length x.c) := cell_of_heap b2 rfl
  have x2 : W.cell? ⟨Bx, 2, none⟩ = some (.int .i64 x.e.col) := cell_of_heap b2 rfl
  have x3 : W.cell? ⟨Bx, 3, none⟩ = some (.int .u8 x.e.lit.kind) := cell_of_heap b2 rfl
  have x4 : W.cell? ⟨Bx, 4, none⟩ = some (.bool x.e.lit.bool) := cell_of_heap b2 rfl
  have x5 : W.cell? ⟨Bx, 5, none⟩ = some (.int .i64 x.e.lit.int) := cell_of_heap b2 rfl
  have x6 : W.cell? ⟨Bx, 6, none⟩ = some (.string x.e.lit.text) := cell_of_heap b2 rfl
  have m1 : H + 1 + 1 ≠ Bx := by omega
  have m2 : H + 1 ≠ Bx := by omega
  have hfx := x.fit
  have hlen : pre.length ≤ 4000 := i4
  have hk := fun W => WIDE.out (n - 1 - 1 - 1) 28 #[.int .u8 x.e.op, .int .i64 x.e.kids.length] W _ (kids_53 x.e.op x.e.kids.length W (by cases hx : x.e; rw [hx] at hfx; simp only [ET.fits] at hfx; simpa [hx, ET.op] using hfx.1.1) (by cases hx : x.e; rw [hx] at hfx; simp only [ET.fits] at hfx; simpa [hx, ET.kids] using hfx.2.2.2.1))
  have HK := Lib.hid hk
  have I3 := Lib.hid i3
  have I5 := Lib.hid i5
  have I1 := Lib.hid i1
  have I2 := Lib.hid i2
  have HFX := Lib.hid hfx
  have h111 : 1 ≤ n - 1 - 1 := by omega
  clear hk i3 i5 i1 i2 b2 hfx hs hh
  by_cases hg : x.deep ≤ 60 ∧ x.e.own ok = true ∧ pre.length + 1 ≤ 4000
  ·obtain ⟨g1, g2, g3⟩ := hg
   have g4 : kidsOk x.e.op x.e.kids.length = true := by
    simp only [ET.own, Bool.and_eq_true] at g2
    exact g2.1.1
   have gx : ∀ y ∈ pre ++ [x], y.deep ≤ 60 ∧ y.e.own ok = true := fun y hy => by
    rcases List.mem_append.1 hy with hy | hy
    ·exact I3.out y hy
    ·simp at hy; subst hy; exact ⟨g1, g2⟩
   have GX := Lib.hid gx
   have d1 : (x.deep : Int) ≤ 60 := by omega
   have d2 : (pre.length : Int) + 1 ≤ 4000 := by omega
   have hend : KeepsFrom W0.heap.size W (W.setCell ⟨H + 1 + 1, 0, none⟩ (.int .i64 ((pre.length : Int) + 1))) ∧ KpS (fun g => g = H + 1 ∨ g = H + 1 + 1) W (W.setCell ⟨H + 1 + 1, 0, none⟩ (.int .i64 ((pre.length : Int) + 1))) ∧ _ := chk_go (w := w) (by have := EH.out; omega) I1.out I2.out gx (by rw [List.length_append]; exact g3) I5.out i6
   have HEND := Lib.hid hend
   clear gx hend
   by_cases o1 : x.e.op = 1
   ·obtain ⟨c0, c9, l1, l2, l3, l4⟩ : 0 ≤ x.e.col ∧ x.e.col ≤ 9999 ∧ x.e.lit.kind = 0 ∧ x.e.lit.bool = false ∧ x.e.lit.int = 0 ∧ x.e.lit.text = ⟨#[]⟩ := by
     simp only [ET.own, Bool.and_eq_true, o1, if_true, decide_eq_true_eq] at g2
     simp at g2
     exact ⟨g2.1.2.1, g2.1.2.2, by rw [g2.2]; rfl, by rw [g2.2]; rfl, by rw [g2.2]; rfl, by rw [g2.2]; rfl⟩
    rw [o1] at HK g4
    gi_wp2_with (gi_at_call 28; refine (CallsIn.inRound l (HK.out _)).mono ?_; rintro ev w9 ⟨rfl, rfl⟩)
    exact HEND.out
   by_cases o2 : x.e.op = 2
   ·obtain ⟨c0, l1⟩ : x.e.col = 0 ∧ ok x.e.lit = true := by
     simp only [ET.own, Bool.and_eq_true, o2] at g2
     simp at g2
     exact ⟨g2.1.2, g2.2⟩
    have hfl : x.e.lit.fits := by
     have h := HFX.out
     cases hx : x.e
     rw [hx] at h
     simp only [ET.fits] at h
     simpa [ET.lit] using h.2.2.1
    have hc := WIDE.out (n - 1 - 1 - 1) 29 _ _ _ (H54.out x.e.lit (W.setCell ⟨H + 1 + 1, 0, none⟩ (.int .i64 ((pre.length : Int) + 1))) hfl HEND.out.2.2.2.2.2.2.1)
    have HC := Lib.hid hc
    have L1 := Lib.hid l1
    clear hfl hc l1
    rw [o2] at HK g4
    gi_wp2_with (first | (gi_at_call 28; refine (CallsIn.inRound l (HK.out _)).mono ?_; rintro ev w9 ⟨rfl, rfl⟩) | (gi_at_call 29; refine (CallsIn.inRound l HC.out).mono ?_; rintro ev w9 ⟨code, rfl, hcode, hb9⟩; obtain rfl : code = 0 := hcode.2 L1.out; have HB9 := Lib.hid hb9; clear hcode hb9))
    exact chk_then HEND.out HB9.out
   by_cases o3 : x.e.op = 23
   ·obtain ⟨c0, l1, l2, l4, l5, l6⟩ : x.e.col = 0 ∧ x.e.lit.kind = 3 ∧ x.e.lit.bool = false ∧ x.e.lit.text = ⟨#[]⟩ ∧ 1 ≤ x.e.lit.int ∧ x.e.lit.int ≤ 65535 := by
     simp only [ET.own, Bool.and_eq_true, o3] at g2
     simp at g2
     exact ⟨g2.1.2, by rw [g2.2.1], by rw [g2.2.1], by rw [g2.2.1], g2.2.2.1, g2.2.2.2⟩
    rw [o3] at HK g4
    gi_wp2_with (gi_at_call 28; refine (CallsIn.inRound l (HK.out _)).mono ?_; rintro ev w9 ⟨rfl, rfl⟩)
    exact HEND.out
   ·obtain ⟨c0, l1, l2, l3, l4⟩ : x.e.col = 0 ∧ x.e.lit.kind = 0 ∧ x.e.lit.bool = false ∧ x.e.lit.int = 0 ∧ x.e.lit.text = ⟨#[]⟩ := by
     simp only [ET.own, Bool.and_eq_true, if_neg o1, if_neg o2, if_neg o3, decide_eq_true_eq] at g2
     exact ⟨g2.1.2, by rw [g2.2]; rfl, by rw [g2.2]; rfl, by rw [g2.2]; rfl, by rw [g2.2]; rfl⟩
    gi_wp2_with (gi_at_call 28; refine (CallsIn.inRound l (HK.out _)).mono ?_; rintro ev w9 ⟨rfl, rfl⟩)
    exact HEND.out
  ·have HBAD : Hid (ChkBad ok pre x) := Lib.hid hg
   clear hg
   have hret : ChkLeave ok w W W0 H pre x := fun W2 hb => chk_ret (by have := EH.out; omega) I1.out I2.out HBAD.out I3.out I5.out hb
   have HRET := Lib.hid hret
   clear hret
   by_cases o1 : x.e.op = 1
   ·rw [o1] at HK
    gi_wp2_with (gi_at_call 28; refine (CallsIn.inRound l (HK.out _)).mono ?_; rintro ev w9 ⟨rfl, rfl⟩)
    all_goals (first | exact ⟨(HRET.out _ (Below.refl _ _)).1, rfl, (HRET.out _ (Below.refl _ _)).2⟩ | exact absurd ⟨by omega, own_col o1 (by assumption) (by assumption) (by assumption) (by assumption) (by assumption) (by assumption) (by assumption), by omega⟩ HBAD.out)
   by_cases o2 : x.e.op = 2
   ·have hfl : x.e.lit.fits := by
     have h := HFX.out
     cases hx : x.e
     rw [hx] at h
     simp only [ET.fits] at h
     simpa [ET.lit] using h.2.2.1
    have hb1 : Below w.heap.size w (W.setCell ⟨H + 1 + 1, 0, none⟩ (.int .i64 ((pre.length : Int) + 1))) := I5.out.setCell (p := ⟨H + 1 + 1, 0, none⟩) (by have := EH.out; show w.heap.size ≤ H + 1 + 1; omega) _
    have hc := WIDE.out (n - 1 - 1 - 1) 29 _ _ _ (H54.out x.e.lit (W.setCell ⟨H + 1 + 1, 0, none⟩ (.int .i64 ((pre.length : Int) + 1))) hfl hb1)
    have HC := Lib.hid hc
    clear hfl hc hb1
    rw [o2] at HK
    gi_wp2_with (first | (gi_at_call 28; refine (CallsIn.inRound l (HK.out _)).mono ?_; rintro ev w9 ⟨rfl, rfl⟩) | (gi_at_call 29; refine (CallsIn.inRound l HC.out).mono ?_; rintro ev w9 ⟨code, rfl, hcode, hb9⟩; have q9 := cell_of_heap (o := 0) (chk_cell I2.out hb9) rfl; have f9 := frozen_of_heap (o := 0) (chk_cell I2.out hb9); have HB9 := Lib.hid hb9; have HCODE := Lib.hid hcode; clear hcode hb9))
    all_goals (first | exact ⟨(HRET.out _ (Below.refl _ _)).1, rfl, (HRET.out _ (Below.refl _ _)).2⟩ | exact ⟨(HRET.out _ HB9.out).1, rfl, (HRET.out _ HB9.out).2⟩ | exact absurd ⟨by omega, own_lit o2 (by assumption) (by assumption) (HCODE.out.1 (by omega)), by omega⟩ HBAD.out | (rename_i hz; exact absurd ⟨by omega, own_lit o2 (by assumption) (by assumption) (HCODE.out.1 (by simpa using hz.2)), by omega⟩ HBAD.out))
   by_cases o3 : x.e.op = 23
   ·rw [o3] at HK
    gi_wp2_with (gi_at_call 28; refine (CallsIn.inRound l (HK.out _)).mono ?_; rintro ev w9 ⟨rfl, rfl⟩)
    all_goals (first | exact ⟨(HRET.out _ (Below.refl _ _)).1, rfl, (HRET.out _ (Below.refl _ _)).2⟩ | exact absurd ⟨by omega, own_fail o3 (by assumption) (by assumption) (by assumption) (by assumption) (by assumption) (by omega) (by omega), by omega⟩ HBAD.out)
   ·gi_wp2_with (gi_at_call 28; refine (CallsIn.inRound l (HK.out _)).mono ?_; rintro ev w9 ⟨rfl, rfl⟩)
    all_goals (first | exact ⟨(HRET.out _ (Below.refl _ _)).1, rfl, (HRET.out _ (Below.refl _ _)).2⟩ | exact absurd ⟨by omega, own_other o1 o2 o3 (by assumption) (by assumption) (by assumption) (by assumption) (by assumption) (by assumption), by omega⟩ HBAD.out)
 case done =>
  intro D xs W hD hS hI hK
  obtain ⟨i1, i2, i3, i4, i5, i6⟩ := hI
  have hmay : e.may ok = true := (ET.may_iff ok e).2 (by
   rw [← hS]
   refine ⟨fun y hy => ?_, by rw [List.length_map]; exact i4⟩
   obtain ⟨x, hx, rfl⟩ := List.mem_map.1 hy
   exact i3 x hx)
  have c1 : W.cell? ⟨H + 1, 0, none⟩ = some (.int .u16 0) := cell_of_heap i2 rfl
  have f1 : W.frozen? ⟨H + 1, 0, none⟩ = false := frozen_of_heap i2
  have hR := ER.out
  rw [if_pos hmay] at hR
  subst hR
  gi_wp2
  refine ⟨by simp, .inl ⟨_, _, rfl, run_takeDeferred ((KeepsOthers.setCell _ _ _).same D _ hK rfl), ?_⟩⟩
  have hs := HS0.out
  have hh := EH.out
  have hne : D ≠ H + 1 := by omega
  have c5 : ((W.setCell ⟨H + 1, 0, none⟩ (.int .u16 0)).putObj D (Obj.deferred none)).cell? ⟨H + 1, 0, none⟩ = some (.int .u16 0) :=
   cell_kept (World.cell?_setCell_same' _ _ _ (by rw [c1]; rfl)) (grownBy_putObj' _ D (.deferred none)) (fun r er => by cases er; exact ⟨_, (KeepsOthers.setCell _ _ _).same D _ hK rfl, rfl⟩)
  refine ⟨_, by simp [results, Tryz.f16, go_sem, c5], rfl, ?_⟩
  exact ((i5.setCell (p := ⟨H + 1, 0, none⟩) (by show w.heap.size ≤ H + 1; omega) _)).trans (belowK_b (w := W0) (by omega) _ D _ _ hD ((KeepsOthers.setCell _ _ _).same D _ hK rfl) rfl rfl)
 case stop =>
  intro D c pre W hD hS hI hK
  obtain ⟨rfl, i1, i2, i3⟩ := hI
  have hmay : ¬ e.may ok = true := fun h => by
   obtain ⟨g1, g2⟩ := (ET.may_iff ok e).1 h
   refine i2 ⟨fun x hx => g1 _ (hS.subset (List.mem_map.2 ⟨x, hx, rfl⟩)), ?_⟩
   have := hS.length_le
   rw [List.length_map] at this
   omega
  have hR := ER.out
  rw [if_neg hmay] at hR
  subst hR
  gi_wp2
  refine ⟨by simp, .inl ⟨_, _, rfl, run_takeDeferred hK, ?_⟩⟩
  have hs := HS0.out
  have hh := EH.out
  have c5 : (W.putObj D (Obj.deferred none)).cell? ⟨H + 1, 0, none⟩ = some (.int .u16 30) :=
   cell_kept (cell_of_heap i1 rfl) (grownBy_putObj' _ D (.deferred none)) (fun r er => by cases er; exact ⟨_, hK, rfl⟩)
  refine ⟨_, by simp [results, Tryz.f16, go_sem, c5], rfl, ?_⟩
  exact i3.trans (belowK_b (w := W0) (by omega) _ D _ _ hD hK rfl rfl)
end Go.Proofs.YtmmhedlagnjbiaaGreatDoor
