import Derived.Test.YtolikaginhjbhaaGreatDoorXa
import Derived.Deep.DeepCutAuto
import Derived.Test.YtolikaginhjbhaaGreatDoorWb
import Derived.ArgAppend
import Derived.Laws.AppendOwnNone
import Derived.Lib.AppendZeros
import Derived.OwnWalk
/- The reference's Safe. -/
namespace Go.Proofs.YtolikaginhjbhaaGreatDoor
open Go.RowKit Go.Pen
attribute [local go_sem ↓] Go.wp_at_zero Go.wp_at_succ
attribute [local go_sem] Oper.semAt_some

theorem sfs_take {deep : Nat} {ks : List ET} {i : Nat} {k : ET} (hk : ks[i]? = some k) (h : ET.sfs (ks.take i) deep = true) (hg : k.sf deep = true) : ET.sfs (ks.take (i + 1)) deep = true := by
  rw [sfs_iff] at h ⊢
  intro x hx
  rw [List.take_succ_eq_append_getElem (by exact (List.getElem?_eq_some_iff.1 hk).1)] at hx
  rcases List.mem_append.1 hx with hx | hx
  · exact h x hx
  · simp at hx
    rw [(List.getElem?_eq_some_iff.1 hk).2] at hx
    subst hx; exact hg
theorem sf_hit {o c : Int} {d : Dat} {ks : List ET} {deep : Nat} (h : 60 < deep ∨ (3 ≤ o ∧ o ≤ 9) ∨ o = 23) : (ET.mk o c d ks).sf deep = false := by simp only [ET.sf]; rw [if_pos h]
theorem sf_kid {o c : Int} {d : Dat} {ks : List ET} {k : ET} {i deep : Nat} (hk : ks[i]? = some k) (h : k.sf (deep + 1) = false) : (ET.mk o c d ks).sf deep = false := by
  simp only [ET.sf]
  split
  · rfl
  · cases hw : ET.sfs ks (deep + 1)
    · rfl
    · rw [sfs_iff] at hw
      rw [hw k (List.mem_of_getElem? hk)] at h
      cases h
theorem sf_all {o c : Int} {d : Dat} {ks : List ET} {deep : Nat} (h : ¬ (60 < deep ∨ (3 ≤ o ∧ o ≤ 9) ∨ o = 23)) (hk : ET.sfs ks (deep + 1) = true) : (ET.mk o c d ks).sf deep = true := by
  simp only [ET.sf]
  rw [if_neg h]; exact hk

set_option maxRecDepth 100000 in
set_option maxHeartbeats 1000000 in
theorem safe_74 : ∀ (e : ET) (kv : Value) (deep : Nat) (w : World), deep ≤ 61 → e.At w kv → e.fits →
    Calls Tryz.prog 74 #[e.agg kv, .int .i64 deep] w (WiPost (e.sf deep) w) := by
  refine ET.ind fun o c d ks ih kv deep w hdeep hat hfit => ?_
  obtain ⟨a, cc, rfl, -, hks⟩ := ET.On.iff.1 hat
  simp only [ET.fits] at hfit
  obtain ⟨⟨ho0, ho1⟩, ⟨hc0, hc1⟩, -, hkl, hfs⟩ := hfit
  have HF := Lib.hid (ET.fitss_iff.1 hfs)
  have HKS := Lib.hid hks
  have IH := Lib.hid ih
  obtain ⟨K, eK⟩ : ∃ K, K = ks.length := ⟨_, rfl⟩
  rw [← eK] at hkl
  have EK := Lib.hid eK
  clear hfs hks ih hat
  unfold ET.agg
  simp only [ET.op, ET.col, ET.lit, ET.kids]
  rw [← eK]
  clear eK
  obtain ⟨R, eR⟩ : ∃ R, R = (ET.mk o c d ks).sf deep := ⟨_, rfl⟩
  rw [← eR]
  have ER := Lib.hid eR
  clear eR
  obtain ⟨D, eD⟩ : ∃ D : Int, D = deep := ⟨_, rfl⟩
  rw [← eD]
  have ED := Lib.hid eD
  have hdeep' : D ≤ 61 := by omega
  have hdeep0 : 0 ≤ D := by omega
  clear eD hdeep
  by_cases hhit : 60 < deep ∨ (3 ≤ o ∧ o ≤ 9) ∨ o = 23
  · obtain rfl : R = false := ER.out.trans (sf_hit hhit)
    have hcases : 60 < D ∨ (D ≤ 60 ∧ 3 ≤ o ∧ o ≤ 9) ∨ (D ≤ 60 ∧ 9 < o ∧ (o == 23) = true) := by
      have := ED.out
      rcases hhit with h | ⟨h, h'⟩ | rfl
      · exact .inl (by omega)
      · by_cases h2 : 60 < D
        · exact .inl h2
        · exact .inr (.inl ⟨by omega, h, h'⟩)
      · by_cases h2 : 60 < D
        · exact .inl h2
        · exact .inr (.inr ⟨by omega, by decide, rfl⟩)
    clear hhit
    rcases hcases with h | ⟨h, h1, h2⟩ | ⟨h, h1, h2⟩
    all_goals
      go_enter Tryz.func74, Tryz.ntmps74
      go_wp2_with fail
      go_ret
      exact wi_mk rfl (one_below _ _)
  · have HHIT := Lib.hid hhit
    have hcases : (D ≤ 60 ∧ o < 3 ∧ (o == 23) = false) ∨ (D ≤ 60 ∧ 9 < o ∧ (o == 23) = false) := by
      have := ED.out
      have hn : o ≠ 23 := by omega
      by_cases h3 : o < 3
      · exact .inl ⟨by omega, h3, by simpa using hn⟩
      · exact .inr ⟨by omega, by omega, by simpa using hn⟩
    clear hhit
    rcases hcases with ⟨h, h1, h2⟩ | ⟨h, h1, h2⟩
    all_goals
      go_enter Tryz.func74, Tryz.ntmps74
      go_wp2_with fail
      obtain ⟨w1, hw1⟩ : ∃ w1, w1 = w.alloc (.cells #[.int .u8 o, .slice a K cc, .int .i64 c, .int .u8 d.kind, .bool d.bool, .int .i64 d.int, .string d.text] 27) := ⟨_, rfl⟩
      have hb1 : Below w.heap.size w w1 := by rw [hw1]; exact one_below _ _
      have c1 : w1.cell? ⟨w.heap.size, 1, none⟩ = some (.slice a K cc) := by rw [hw1]; exact cell_of_heap (heap_alloc_new _ _) rfl
      rw [← hw1]
      have HB1 := Lib.hid hb1
      clear hw1 hb1
      go_loopg [5] K (fun g s5 wr => ∃ i : Nat, i ≤ K ∧ g = K - i ∧ s5 = .int .i64 i ∧ ET.sfs (ks.take i) (deep + 1) = true ∧ Below w1.heap.size w1 wr)
      case atStart => exact ⟨0, Nat.zero_le _, rfl, rfl, rfl, Below.refl _ _⟩
      case round =>
        obtain ⟨i, hi, rfl, rfl, hws, hbr⟩ := hrel
        have c1r := cell_keep hbr c1
        have HWS := Lib.hid hws
        clear hws
        by_cases hlt : i < K
        · obtain ⟨k, hk⟩ : ∃ k, ks[i]? = some k := ⟨ks[i]'(by rw [← EK.out]; exact hlt), List.getElem?_eq_getElem _⟩
          obtain ⟨b, off, rfl, -, hats⟩ := HKS.out (fun e => by simp only [ET.kids] at e; rw [e] at hk; simp at hk)
          obtain ⟨kv, hkc, hkat⟩ := hats.get hk
          obtain ⟨a', c', rfl⟩ := hkat.slice
          have hbw : Below w.heap.size w wr := HB1.out.trans (hbr.mono HB1.out.size)
          obtain ⟨k0, k1, k2, k3, k4, k5, k6⟩ := hkc.below hbw
          have hct := IH.out k (List.mem_of_getElem? hk) _ (deep + 1) wr (by have := ED.out; omega) (hkat.below hbw) (HF.out k (List.mem_of_getElem? hk))
          unfold ET.agg at hct
          rw [show (((deep + 1 : Nat) : Int)) = D + 1 by have := ED.out; omega] at hct
          have HCT := Lib.hid hct
          have HBR := Lib.hid hbr
          have HK := Lib.hid hk
          clear hats hkc hkat hbw hct hbr hk
          go_wp2_with fail
          refine HCT.out.mono ?_
          rintro ev w2 ⟨rfl, hb2⟩
          have HB2 : Hid (Below w1.heap.size w1 w2) := HBR.out.trans (hb2.mono HBR.out.size)
          clear k0 k1 k2 k3 k4 k5 k6 hb2 HCT
          cases hkw : k.sf (deep + 1)
          · obtain rfl : R = false := ER.out.trans (sf_kid HK.out hkw)
            clear hkw
            go_wp2
            go_ret
            exact wi_mk rfl (HB1.out.trans (HB2.out.mono HB1.out.size))
          · have HKW := Lib.hid hkw
            clear hkw
            go_wp2
            go_roundg (K - (i + 1))
            case measure => omega
            case rel => exact ⟨i + 1, by omega, rfl, by go_num, sfs_take HK.out HWS.out HKW.out, HB2.out⟩
        · obtain rfl : i = K := by omega
          have HBR := Lib.hid hbr
          have hwl : ks.take i = ks := List.take_of_length_le (by rw [EK.out]; exact Nat.le_refl _)
          have hws := HWS.out
          rw [hwl] at hws
          obtain rfl : R = true := ER.out.trans (sf_all HHIT.out hws)
          clear hws hwl hbr
          go_wp2
          go_ret
          exact wi_mk rfl (HB1.out.trans (HBR.out.mono HB1.out.size))

set_option maxRecDepth 100000 in
set_option maxHeartbeats 1000000 in
theorem rsafe_35 (e : ET) (a : Option Addr) (cc : Nat) (w : World) (hfit : e.fits) (hat : e.At w (.slice a e.kids.length cc)) :
    Calls Tryz.prog 35 #[e.agg (.slice a e.kids.length cc)] w (WiPost (e.sf 1) w) := by
  have hct := fun (W : World) (hb : Below w.heap.size w W) => safe_74 e _ 1 W (by decide) (hat.below hb) hfit
  unfold ET.agg at hct
  have HCT := Lib.hid hct
  clear hct hat hfit
  unfold ET.agg
  go_enter Tryz.func35, Tryz.ntmps35
  go_wp2_with fail
  refine (HCT.out _ (one_below _ _)).mono ?_
  rintro ev w2 ⟨rfl, hb2⟩
  go_wp2_with fail
  go_ret
  exact wi_mk rfl ((one_below _ _).trans (hb2.mono (by simp)))
end Go.Proofs.YtolikaginhjbhaaGreatDoor
/- The reference's Columns. -/
namespace Go.Proofs.YtolikaginhjbhaaGreatDoor
open Go.RowKit Go.Pen Go.Shelf
attribute [local go_sem ↓] Go.wp_at_zero Go.wp_at_succ
attribute [local go_sem] Oper.semAt_some

theorem wpList_append_any {P : Program} (w : World) {ops : Array Oper} {rest : List Oper} {o : Oper} {a : Act} {Q : Exit → Act → World → Prop} (hgd : o.guard = none) (s x : Operand) (t : TypeId)
    (ho : o.op = .call { callee := .builtin .append, args := #[s, x], argTypes := #[t, t] })
    (base : Nat) (e : TypeId) (i : TypeInfo) (z : Value) (size bytes : Nat) (ht : P.underlying t = some (.slice e)) (hi : P.info? e = some i) (hz : i.zero = some z)
    (hsize : i.size = size) (hby : i.bytes = bytes) (hzs : z.cells.size = size) (hsz : 0 < size)
    (v : Value) (n : Nat) (xs : List Value) (hs : a.eval s = v) (hown : w.ownsRow base e size v n xs)
    (ox : Option Addr) (m c : Nat) (news : List Value) (hx : a.eval x = .slice ox m c) (hnil : ox = none → m = 0 ∧ c = 0) (hl : news.length = m * size) (hnews : ∀ ad, ox = some ad → ∀ j u, news[j]? = some u → w.cell? (ad.add j) = some u) (h1 : ∀ u ∈ news, u.oneCell' = true)
    (h63 : n + m ≤ maxLen) (hbytes : (n + m) * bytes ≤ 140737488355328) (hbase : base ≤ w.heap.size)
    (h : ∀ v' w', w'.ownsRow base e size v' (n + m) (xs ++ news) → w.grownBy w' v.ownBlock → wpList P ops Q rest (a.put o.dst v') w') : wpList P ops Q (o :: rest) a w := by
  rcases ox with _ | ad
  · obtain ⟨rfl, rfl⟩ := hnil rfl
    have hn : news = [] := List.length_eq_zero_iff.1 (by rw [hl]; omega)
    subst hn
    refine wpList_append_own_none hgd s x t ho base e i size ht hi v n xs hs hown hx (h v w ?_ ⟨rfl, rfl, rfl, Nat.le_refl _, fun _ _ _ => rfl⟩)
    simpa using hown
  · exact wpList_append_own w hgd s x t ho base e i z size bytes ht hi hz hsize hby hzs hsz v n xs hs hown ad m c news hx hl (hnews ad rfl) h1 h63 hbytes hbase fun v' w' k1 k2 _ => h v' w' k1 k2

theorem run_append_zero {P : Program} {w : World} {base n size cx : Nat} {t ty e : TypeId} {i : TypeInfo} {v : Value} {xs : List Value} {ox : Option Addr} (ht : P.underlying t = some (.slice e)) (hi : P.info? e = some i) (hown : w.ownsRow base e size v n xs) :
    (Builtin.append_ #[t, t] ty #[v, .slice ox 0 cx]).run P w = .ok v w := by
  have h0 : ∀ s, (Builtin.firstCells s 0 (.slice ox 0 cx)).run P w = .ok #[] w := fun s => by cases ox <;> simp [Builtin.firstCells, loadCells, loadCellsFrom]
  rcases hown.2 with ⟨rfl, rfl⟩ | ⟨g, cap, cur, rfl, _, _, hnc, _⟩
  · simp [Builtin.append_, run_underlying ht, sizeOf, typeInfo, hi, Builtin.lenOf, h0]
  · simp [Builtin.append_, run_underlying ht, sizeOf, typeInfo, hi, Builtin.lenOf, h0, hnc, storeCells]
theorem wpList_append_zero {P : Program} {w : World} {ops : Array Oper} {rest : List Oper} {o : Oper} {a : Act} {Q : Exit → Act → World → Prop} (hgd : o.guard = none) (s x : Operand) (t : TypeId)
    (ho : o.op = .call { callee := .builtin .append, args := #[s, x], argTypes := #[t, t] })
    (base : Nat) (e : TypeId) (i : TypeInfo) (size : Nat) (ht : P.underlying t = some (.slice e)) (hi : P.info? e = some i)
    (v : Value) (n : Nat) (xs : List Value) (hs : a.eval s = v) (hown : w.ownsRow base e size v n xs) (ox : Option Addr) (m cx : Nat) (hx : a.eval x = .slice ox m cx) (hm : m = 0)
    (h : wpList P ops Q rest (a.put o.dst v) w) : wpList P ops Q (o :: rest) a w := by
  subst hm
  exact Lib.wpList_append_run w hgd s x t t ho v _ hs hx v w (run_append_zero ht hi hown) h

theorem ins_up {c : Int} {l : List Int} {i : Nat} (hu : l.Pairwise (· < ·)) (h1 : ∀ (j : Nat) x, j < i → l[j]? = some x → x < c) (h2 : ∀ x, l[i]? = some x → c < x) : (l.take i ++ c :: l.drop i).Pairwise (· < ·) := by
  have hl : ∀ x ∈ l.take i, x < c := fun x hx => by
    obtain ⟨j, hj⟩ := List.mem_iff_getElem?.1 hx
    rw [List.getElem?_take] at hj
    split at hj
    · next h => exact h1 j x h hj
    · cases hj
  have hr : ∀ x ∈ l.drop i, c < x := fun x hx => by
    rcases Nat.lt_or_ge i l.length with h | h
    · rw [List.drop_eq_getElem_cons h] at hx
      have h3 := h2 _ (List.getElem?_eq_getElem h)
      rcases List.mem_cons.1 hx with rfl | hx
      · exact h3
      · have hp := hu
        rw [← List.take_append_drop i l, List.drop_eq_getElem_cons h, List.pairwise_append, List.pairwise_cons] at hp
        have := hp.2.1.1 x hx
        omega
    · rw [List.drop_eq_nil_of_le h] at hx; cases hx
  have hp := hu
  rw [← List.take_append_drop i l, List.pairwise_append] at hp
  refine List.pairwise_append.2 ⟨hp.1, List.pairwise_cons.2 ⟨hr, hp.2.1⟩, fun x hx y hy => ?_⟩
  rcases List.mem_cons.1 hy with rfl | hy
  · exact hl x hx
  · have := hl x hx; have := hr y hy; omega
theorem ins_mem {c : Int} {l : List Int} {i : Nat} (x : Int) : x ∈ l.take i ++ c :: l.drop i ↔ x ∈ l ∨ x = c := by
  conv => rhs; rw [← List.take_append_drop i l]
  simp only [List.mem_append, List.mem_cons]
  constructor
  · rintro (h | h | h)
    · exact .inl (.inl h)
    · exact .inr h
    · exact .inl (.inr h)
  · rintro ((h | h) | h)
    · exact .inl h
    · exact .inr (.inr h)
    · exact .inr (.inl h)

/-- what the reference's columns answers -/
def CoPost (l : List Int) (e : ET) (deep : Nat) (w : World) (ev : Ending) (w' : World) : Prop :=
  ∃ (v : Value) (l2 : List Int), ev = .returned v ∧ w'.ownsRow 0 3 1 v l2.length (l2.map (Value.int .i64)) ∧ l2.Pairwise (· < ·) ∧ (∀ x, x ∈ l2 ↔ x ∈ l ∨ x ∈ colsOf (e.pre deep)) ∧ l2.length ≤ l.length + e.size ∧ Below w.heap.size w w'
def Cols75 (e : ET) : Prop := ∀ (kv v : Value) (l : List Int) (deep : Nat) (w : World), deep ≤ 61 → e.At w kv → e.fits → w.ownsRow 0 3 1 v l.length (l.map (Value.int .i64)) → l.Pairwise (· < ·) → l.length + e.size ≤ 1000000 →
  Calls Tryz.prog 75 #[e.agg kv, .int .i64 deep, v] w (CoPost l e deep w)

theorem mem_colsOf_pres {x : Int} : ∀ {ks : List ET} {deep : Nat}, x ∈ colsOf (ET.pres ks deep) ↔ ∃ k ∈ ks, x ∈ colsOf (k.pre deep)
  | [], deep => by simp [ET.pres, colsOf]
  | k :: ks, deep => by simp [ET.pres, colsOf_append, mem_colsOf_pres (ks := ks)]
theorem mem_colsOf_pre {x o c : Int} {d : Dat} {ks : List ET} {deep : Nat} (h : deep ≤ 60) : x ∈ colsOf ((ET.mk o c d ks).pre deep) ↔ (o = 1 ∧ x = c) ∨ x ∈ colsOf (ET.pres ks (deep + 1)) := by
  simp only [ET.pre, if_pos h]
  have h1 : colsOf [(deep, ET.mk o c d ks)] = if o = 1 ∧ deep ≤ 60 then [c] else [] := colsOf_one _
  rw [show (deep, ET.mk o c d ks) :: ET.pres ks (deep + 1) = [(deep, ET.mk o c d ks)] ++ ET.pres ks (deep + 1) from rfl, colsOf_append, List.mem_append, h1]
  by_cases ho : o = 1
  · rw [if_pos ⟨ho, h⟩]; simp [ho]
  · rw [if_neg fun h => ho h.1]; simp [ho]

set_option maxRecDepth 100000 in
set_option maxHeartbeats 4000000 in
theorem cols_75 : ∀ e : ET, Cols75 e := by
  refine ET.ind fun o c d ks ih kv v l deep w hdeep hat hfit hown hup hsz => ?_
  obtain ⟨i0, hi0, hz0, hz1, hz2⟩ := info_parts info3
  obtain ⟨a, cc, rfl, -, hks⟩ := ET.On.iff.1 hat
  simp only [ET.fits] at hfit
  obtain ⟨⟨ho0, ho1⟩, ⟨hc0, hc1⟩, -, hkl, hfs⟩ := hfit
  simp only [ET.size] at hsz
  obtain ⟨va, vc, rfl⟩ := ownsRow_slice hown
  have hls := ET.sizes_len ks
  have hl63 : l.length ≤ 1000000 := by omega
  have HF := Lib.hid (ET.fitss_iff.1 hfs)
  have HKS := Lib.hid hks
  have IH := Lib.hid ih
  obtain ⟨K, eK⟩ : ∃ K, K = ks.length := ⟨_, rfl⟩
  rw [← eK] at hkl
  have EK := Lib.hid eK
  obtain ⟨n, en⟩ : ∃ n, n = l.length := ⟨_, rfl⟩
  rw [← en] at hown hsz hl63 ⊢
  have EN := Lib.hid en
  have HOWN := Lib.hid hown
  have HUP := Lib.hid hup
  have HSZ := Lib.hid hsz
  clear hfs hks ih hat hown hup hls hsz
  unfold ET.agg
  simp only [ET.op, ET.col, ET.lit, ET.kids]
  rw [← eK]
  clear eK en
  obtain ⟨D, eD⟩ : ∃ D : Int, D = deep := ⟨_, rfl⟩
  rw [← eD]
  have ED := Lib.hid eD
  have hdeep' : D ≤ 61 := by omega
  have hdeep0 : 0 ≤ D := by omega
  clear eD hdeep
  obtain ⟨H, eH⟩ : ∃ H, H = w.heap.size := ⟨_, rfl⟩
  have EH := Lib.hid eH
  clear eH
  go_enter Tryz.func75, Tryz.ntmps75
  by_cases hdp : 60 < D
  · go_wp2_with fail
    go_ret
    refine ⟨_, l, rfl, Below.ownsRow' (one_below _ _) (by rw [← EN.out]; exact HOWN.out), HUP.out, fun x => ⟨.inl, fun h => ?_⟩, by omega, one_below _ _⟩
    rcases h with h | h
    · exact h
    · simp only [ET.pre] at h
      rw [if_neg (by have := ED.out; omega), colsOf_one, if_neg (fun h => by have := ED.out; omega)] at h
      cases h
  · have hdp' : D ≤ 60 := by omega
    clear hdp
    go_upto_if 15 with fail
    obtain ⟨w1, hw1⟩ : ∃ w1, w1 = w.alloc (.cells #[.int .u8 o, .slice a K cc, .int .i64 c, .int .u8 d.kind, .bool d.bool, .int .i64 d.int, .string d.text] 27) := ⟨_, rfl⟩
    have hb1 : Below w.heap.size w w1 := by rw [hw1]; exact one_below _ _
    have kh : w1.heap[H]? = some (.cells #[.int .u8 o, .slice a K cc, .int .i64 c, .int .u8 d.kind, .bool d.bool, .int .i64 d.int, .string d.text] 27 (0, 0)) := by rw [hw1, EH.out]; exact heap_alloc_new _ _
    rw [← hw1, ← EH.out]
    have HB1 := Lib.hid hb1
    have KH := Lib.hid kh
    have HO1 := Lib.hid (Below.ownsRow' hb1 HOWN.out)
    clear hw1 hb1 kh
    go_cut [2] from 16 to 58 (fun s2 wx => ∃ l2 : List Int, wx.ownsRow 0 3 1 s2 l2.length (l2.map (Value.int .i64)) ∧ l2.Pairwise (· < ·) ∧ (∀ x, x ∈ l2 ↔ x ∈ l ∨ (o = 1 ∧ x = c)) ∧ l2.length ≤ l.length + 1 ∧ Below w1.heap.size w1 wx)
    case first =>
      by_cases o1 : o = 1
      · subst o1
        have hnc : n ≤ vc := by
          rcases HO1.out.2 with ⟨h, h0⟩ | ⟨g, cap, cur, h, -, -, h1, -⟩
          · omega
          · cases h; exact h1
        have HNC := Lib.hid hnc
        have cb0 : w1.cell? ⟨H, 2, none⟩ = some (.int .i64 c) := cell_of_heap KH.out rfl
        have CB0 := Lib.hid cb0
        clear cb0 hnc
        go_wp2_with fail
        go_loopg [7] n (fun g s7 wr => ∃ i : Nat, i ≤ n ∧ g = n - i ∧ s7 = .int .i64 i ∧ (∀ (j : Nat) x, j < i → l[j]? = some x → x < c) ∧ Below w1.heap.size w1 wr)
        case atStart => exact ⟨0, Nat.zero_le _, rfl, rfl, fun j x hj => by omega, Below.refl _ _⟩
        case round =>
          obtain ⟨i, hi, rfl, rfl, hlow, hbr⟩ := hrel
          have HBR := Lib.hid hbr
          have HLOW := Lib.hid hlow
          have cb : wr.cell? ⟨H, 2, none⟩ = some (.int .i64 c) := cell_keep hbr CB0.out
          clear hbr hlow
          by_cases hlt : i < n
          · obtain ⟨g, cap, hgv, hg0, hg1⟩ := HO1.out.form (by omega)
            simp only [Value.slice.injEq] at hgv
            obtain ⟨rfl, -, rfl⟩ := hgv
            obtain ⟨x, hx⟩ : ∃ x, l[i]? = some x := ⟨l[i]'(by rw [← EN.out]; exact hlt), List.getElem?_eq_getElem _⟩
            have cx : wr.cell? ⟨g, i, none⟩ = some (.int .i64 x) := cell_keep HBR.out ((ownsRow_heap HO1.out).2.2.2 i _ (by rw [List.getElem?_map, hx]; rfl))
            have HX := Lib.hid hx
            clear hx
            have hin : (i : Int) < n := by omega
            rcases (show x < c ∨ c < x ∨ x = c by omega) with hxc | hxc | hxc
            · go_wp2_with fail
              refine wp_region_held_drew (S := fun W => W.cell? ⟨g, i, none⟩ = some (.int .i64 x) ∧ W.cell? ⟨H, 2, none⟩ = some (.int .i64 c)) (by kernel_rfl) ⟨cx, cb⟩ (fun hHeld => ?_)
              refine wpAnyH_take (i := 0) (oi := ⟨some 16, _, _, _, _, _⟩) (v := ?_) rfl (by kernel_rfl) (by kernel_rfl) (by kernel_rfl) (fun _ _ _ h => h) (Or.inl ⟨by rfl, ?_⟩) (by assumption) ?_; rotate_left; (intro w hSw; (try dsimp only at hSw); go_simp; (try with_reducible rfl)); simp only [Act.put, List.setIfInBounds_toArray, List.set_cons_zero, List.set_cons_succ]
              refine wpAnyH_take (i := 1) (oi := ⟨some 17, _, _, _, _, _⟩) (v := ?_) rfl (by kernel_rfl) (by kernel_rfl) (by kernel_rfl) (fun _ _ _ h => h) (Or.inl ⟨by rfl, ?_⟩) (by assumption) ?_; rotate_left; (intro w hSw; (try dsimp only at hSw); go_simp; (try with_reducible rfl)); simp only [Act.put, List.setIfInBounds_toArray, List.set_cons_zero, List.set_cons_succ]
              refine wpAnyH_take (i := 2) (oi := ⟨some 18, _, _, _, _, _⟩) (v := ?_) rfl (by kernel_rfl) (by kernel_rfl) (by kernel_rfl) (fun _ _ _ h => h) (Or.inl ⟨by rfl, ?_⟩) (by assumption) ?_; rotate_left; (intro w hSw; (try dsimp only at hSw); go_simp; (try with_reducible rfl)); simp only [Act.put, List.setIfInBounds_toArray, List.set_cons_zero, List.set_cons_succ]
              refine wpAnyH_take (i := 3) (oi := ⟨some 19, _, _, _, _, _⟩) (v := ?_) rfl (by kernel_rfl) (by kernel_rfl) (by kernel_rfl) (fun _ _ _ h => h) (Or.inl ⟨by rfl, ?_⟩) (by assumption) ?_; rotate_left; (intro w hSw; (try dsimp only at hSw); go_simp; (try with_reducible rfl)); simp only [Act.put, List.setIfInBounds_toArray, List.set_cons_zero, List.set_cons_succ]
              refine wpAnyH_take (i := 4) (oi := ⟨some 20, _, _, _, _, _⟩) (v := ?_) rfl (by kernel_rfl) (by kernel_rfl) (by kernel_rfl) (fun _ _ _ h => h) (Or.inl ⟨by rfl, ?_⟩) (by assumption) ?_; rotate_left; (intro w hSw; (try dsimp only at hSw); go_simp; (try with_reducible rfl)); simp only [Act.put, List.setIfInBounds_toArray, List.set_cons_zero, List.set_cons_succ]
              refine wpAnyH_take (i := 5) (oi := ⟨some 21, _, _, _, _, _⟩) (v := ?_) rfl (by kernel_rfl) (by kernel_rfl) (by kernel_rfl) (fun _ _ _ h => h) (Or.inl ⟨by rfl, ?_⟩) (by assumption) ?_; rotate_left; (intro w hSw; (try dsimp only at hSw); go_simp; (try with_reducible rfl)); simp only [Act.put, List.setIfInBounds_toArray, List.set_cons_zero, List.set_cons_succ]
              refine wpAnyH_take (i := 6) (oi := ⟨some 22, _, _, _, _, _⟩) (v := ?_) rfl (by kernel_rfl) (by kernel_rfl) (by kernel_rfl) (fun _ _ _ h => h) (Or.inl ⟨by rfl, ?_⟩) (by assumption) ?_; rotate_left; (intro w hSw; (try dsimp only at hSw); go_simp; (try with_reducible rfl)); simp only [Act.put, List.setIfInBounds_toArray, List.set_cons_zero, List.set_cons_succ]
              refine wpAnyH_take (i := 7) (oi := ⟨some 23, _, _, _, _, _⟩) (v := ?_) rfl (by kernel_rfl) (by kernel_rfl) (by kernel_rfl) (fun _ _ _ h => h) (Or.inl ⟨by rfl, ?_⟩) (by assumption) ?_; rotate_left; (intro w hSw; (try dsimp only at hSw); go_simp; (try with_reducible rfl)); simp only [Act.put, List.setIfInBounds_toArray, List.set_cons_zero, List.set_cons_succ]
              refine wpAnyH_take (i := 8) (oi := ⟨some 24, _, _, _, _, _⟩) (v := ?_) rfl (by kernel_rfl) (by kernel_rfl) (by kernel_rfl) (fun _ _ _ h => h) (Or.inl ⟨by rfl, ?_⟩) (by assumption) ?_; rotate_left; (intro w hSw; (try dsimp only at hSw); go_simp; (try with_reducible rfl)); simp only [Act.put, List.setIfInBounds_toArray, List.set_cons_zero, List.set_cons_succ]
              refine wpAnyH_take (i := 9) (oi := ⟨some 25, _, _, _, _, _⟩) (v := ?_) rfl (by kernel_rfl) (by kernel_rfl) (by kernel_rfl) (fun _ _ _ h => h) (Or.inl ⟨by rfl, ?_⟩) (by assumption) ?_; rotate_left; (intro w hSw; (try dsimp only at hSw); go_simp; (try with_reducible rfl)); simp only [Act.put, List.setIfInBounds_toArray, List.set_cons_zero, List.set_cons_succ]
              refine wpAnyH_take (i := 10) (oi := ⟨some 26, _, _, _, _, _⟩) (v := ?_) rfl (by kernel_rfl) (by kernel_rfl) (by kernel_rfl) (fun _ _ _ h => h) (Or.inl ⟨by rfl, ?_⟩) (by assumption) ?_; rotate_left; (intro w hSw; (try dsimp only at hSw); go_simp; (try with_reducible rfl)); simp only [Act.put, List.setIfInBounds_toArray, List.set_cons_zero, List.set_cons_succ]
              refine wpAnyH_take (i := 11) (oi := ⟨some 27, _, _, _, _, _⟩) (v := ?_) rfl (by kernel_rfl) (by kernel_rfl) (by kernel_rfl) (fun _ _ _ h => h) (Or.inl ⟨by rfl, ?_⟩) (by assumption) ?_; rotate_left; (intro w hSw; (try dsimp only at hSw); go_simp; (try with_reducible rfl)); simp only [Act.put, List.setIfInBounds_toArray, List.set_cons_zero, List.set_cons_succ]
              refine wpAnyH_take (i := 12) (oi := ⟨some 28, _, _, _, _, _⟩) (v := ?_) rfl (by kernel_rfl) (by kernel_rfl) (by kernel_rfl) (fun _ _ _ h => h) (Or.inl ⟨by rfl, ?_⟩) (by assumption) ?_; rotate_left; (intro w hSw; (try dsimp only at hSw); go_simp; (try with_reducible rfl)); simp only [Act.put, List.setIfInBounds_toArray, List.set_cons_zero, List.set_cons_succ]
              refine wpAnyH_done (by kernel_rfl) ?_ _
              clear hHeld
              go_wp2
              go_roundg (n - (i + 1))
              case measure => omega
              case rel => exact ⟨i + 1, by omega, rfl, by go_num, fun j y hj hy => by
                by_cases e : j < i
                · exact HLOW.out j y e hy
                · obtain rfl : j = i := by omega
                  have := HX.out
                  rw [this] at hy; cases hy; exact hxc, Go.Pen.below_drewN (n := 1) HBR.out⟩
            · have hnc1 : ¬ (x < c) := by omega
              have hnc2 : (x == c) = false := by simp; omega
              have hnc3 : (x != c) = true := by simp; omega
              have hhigh : ∀ y, l[i]? = some y → c < y := fun y hy => by
                have := HX.out
                rw [this] at hy; cases hy; exact hxc
              have hne : (i == n) = false := by simp; omega
              have hnei : ((i : Int) == (n : Int)) = false := by simp; omega
              go_wp2_with fail
              refine wp_region_held_drew (S := fun W => W.cell? ⟨g, i, none⟩ = some (.int .i64 x) ∧ W.cell? ⟨H, 2, none⟩ = some (.int .i64 c)) (by kernel_rfl) ⟨cx, cb⟩ (fun hHeld => ?_)
              refine wpAnyH_take (i := 0) (oi := ⟨some 16, _, _, _, _, _⟩) (v := ?_) rfl (by kernel_rfl) (by kernel_rfl) (by kernel_rfl) (fun _ _ _ h => h) (Or.inl ⟨by rfl, ?_⟩) (by assumption) ?_; rotate_left; (intro w hSw; (try dsimp only at hSw); go_simp; (try with_reducible rfl)); simp only [Act.put, List.setIfInBounds_toArray, List.set_cons_zero, List.set_cons_succ]
              refine wpAnyH_take (i := 1) (oi := ⟨some 17, _, _, _, _, _⟩) (v := ?_) rfl (by kernel_rfl) (by kernel_rfl) (by kernel_rfl) (fun _ _ _ h => h) (Or.inl ⟨by rfl, ?_⟩) (by assumption) ?_; rotate_left; (intro w hSw; (try dsimp only at hSw); go_simp; (try with_reducible rfl)); simp only [Act.put, List.setIfInBounds_toArray, List.set_cons_zero, List.set_cons_succ]
              refine wpAnyH_take (i := 2) (oi := ⟨some 18, _, _, _, _, _⟩) (v := ?_) rfl (by kernel_rfl) (by kernel_rfl) (by kernel_rfl) (fun _ _ _ h => h) (Or.inl ⟨by rfl, ?_⟩) (by assumption) ?_; rotate_left; (intro w hSw; (try dsimp only at hSw); go_simp; (try with_reducible rfl)); simp only [Act.put, List.setIfInBounds_toArray, List.set_cons_zero, List.set_cons_succ]
              refine wpAnyH_take (i := 3) (oi := ⟨some 19, _, _, _, _, _⟩) (v := ?_) rfl (by kernel_rfl) (by kernel_rfl) (by kernel_rfl) (fun _ _ _ h => h) (Or.inl ⟨by rfl, ?_⟩) (by assumption) ?_; rotate_left; (intro w hSw; (try dsimp only at hSw); go_simp; (try with_reducible rfl)); simp only [Act.put, List.setIfInBounds_toArray, List.set_cons_zero, List.set_cons_succ]
              refine wpAnyH_take (i := 4) (oi := ⟨some 20, _, _, _, _, _⟩) (v := ?_) rfl (by kernel_rfl) (by kernel_rfl) (by kernel_rfl) (fun _ _ _ h => h) (Or.inl ⟨by rfl, ?_⟩) (by assumption) ?_; rotate_left; (intro w hSw; (try dsimp only at hSw); go_simp; (try with_reducible rfl)); simp only [Act.put, List.setIfInBounds_toArray, List.set_cons_zero, List.set_cons_succ]
              refine wpAnyH_take (i := 5) (oi := ⟨some 21, _, _, _, _, _⟩) (v := ?_) rfl (by kernel_rfl) (by kernel_rfl) (by kernel_rfl) (fun _ _ _ h => h) (Or.inl ⟨by rfl, ?_⟩) (by assumption) ?_; rotate_left; (intro w hSw; (try dsimp only at hSw); go_simp; (try with_reducible rfl)); simp only [Act.put, List.setIfInBounds_toArray, List.set_cons_zero, List.set_cons_succ]
              refine wpAnyH_take (i := 6) (oi := ⟨some 22, _, _, _, _, _⟩) (v := ?_) rfl (by kernel_rfl) (by kernel_rfl) (by kernel_rfl) (fun _ _ _ h => h) (Or.inl ⟨by rfl, ?_⟩) (by assumption) ?_; rotate_left; (intro w hSw; (try dsimp only at hSw); go_simp; (try with_reducible rfl)); simp only [Act.put, List.setIfInBounds_toArray, List.set_cons_zero, List.set_cons_succ]
              refine wpAnyH_take (i := 7) (oi := ⟨some 23, _, _, _, _, _⟩) (v := ?_) rfl (by kernel_rfl) (by kernel_rfl) (by kernel_rfl) (fun _ _ _ h => h) (Or.inl ⟨by rfl, ?_⟩) (by assumption) ?_; rotate_left; (intro w hSw; (try dsimp only at hSw); go_simp; (try with_reducible rfl)); simp only [Act.put, List.setIfInBounds_toArray, List.set_cons_zero, List.set_cons_succ]
              refine wpAnyH_take (i := 8) (oi := ⟨some 24, _, _, _, _, _⟩) (v := ?_) rfl (by kernel_rfl) (by kernel_rfl) (by kernel_rfl) (fun _ _ _ h => h) (Or.inl ⟨by rfl, ?_⟩) (by assumption) ?_; rotate_left; (intro w hSw; (try dsimp only at hSw); go_simp; (try with_reducible rfl)); simp only [Act.put, List.setIfInBounds_toArray, List.set_cons_zero, List.set_cons_succ]
              refine wpAnyH_take (i := 9) (oi := ⟨some 25, _, _, _, _, _⟩) (v := ?_) rfl (by kernel_rfl) (by kernel_rfl) (by kernel_rfl) (fun _ _ _ h => h) (Or.inl ⟨by rfl, ?_⟩) (by assumption) ?_; rotate_left; (intro w hSw; (try dsimp only at hSw); go_simp; (try with_reducible rfl)); simp only [Act.put, List.setIfInBounds_toArray, List.set_cons_zero, List.set_cons_succ]
              refine wpAnyH_take (i := 10) (oi := ⟨some 26, _, _, _, _, _⟩) (v := ?_) rfl (by kernel_rfl) (by kernel_rfl) (by kernel_rfl) (fun _ _ _ h => h) (Or.inl ⟨by rfl, ?_⟩) (by assumption) ?_; rotate_left; (intro w hSw; (try dsimp only at hSw); go_simp; (try with_reducible rfl)); simp only [Act.put, List.setIfInBounds_toArray, List.set_cons_zero, List.set_cons_succ]
              refine wpAnyH_take (i := 11) (oi := ⟨some 27, _, _, _, _, _⟩) (v := ?_) rfl (by kernel_rfl) (by kernel_rfl) (by kernel_rfl) (fun _ _ _ h => h) (Or.inl ⟨by rfl, ?_⟩) (by assumption) ?_; rotate_left; (intro w hSw; (try dsimp only at hSw); go_simp; (try with_reducible rfl)); simp only [Act.put, List.setIfInBounds_toArray, List.set_cons_zero, List.set_cons_succ]
              refine wpAnyH_take (i := 12) (oi := ⟨some 28, _, _, _, _, _⟩) (v := ?_) rfl (by kernel_rfl) (by kernel_rfl) (by kernel_rfl) (fun _ _ _ h => h) (Or.inl ⟨by rfl, ?_⟩) (by assumption) ?_; rotate_left; (intro w hSw; (try dsimp only at hSw); go_simp; (try with_reducible rfl)); simp only [Act.put, List.setIfInBounds_toArray, List.set_cons_zero, List.set_cons_succ]
              refine wpAnyH_done (by kernel_rfl) ?_ _
              clear hHeld
              go_wp2_with fail
              refine wp_region_held_drew (S := fun W => W.cell? ⟨g, i, none⟩ = some (.int .i64 x) ∧ W.cell? ⟨H, 2, none⟩ = some (.int .i64 c)) (by kernel_rfl) ⟨cx, cb⟩ (fun hHeld => ?_)
              refine wpAnyH_take (i := 0) (oi := ⟨some 31, _, _, _, _, _⟩) (v := ?_) rfl (by kernel_rfl) (by kernel_rfl) (by kernel_rfl) (fun _ _ _ h => h) (Or.inl ⟨by rfl, ?_⟩) (by assumption) ?_; rotate_left; (intro w hSw; (try dsimp only at hSw); go_simp; (try with_reducible rfl)); simp only [Act.put, List.setIfInBounds_toArray, List.set_cons_zero, List.set_cons_succ]
              refine wpAnyH_take (i := 1) (oi := ⟨some 32, _, _, _, _, _⟩) (v := ?_) rfl (by kernel_rfl) (by kernel_rfl) (by kernel_rfl) (fun _ _ _ h => h) (Or.inl ⟨by rfl, ?_⟩) (by assumption) ?_; rotate_left; (intro w hSw; (try dsimp only at hSw); go_simp; (try with_reducible rfl)); simp only [Act.put, List.setIfInBounds_toArray, List.set_cons_zero, List.set_cons_succ]
              refine wpAnyH_take (i := 2) (oi := ⟨some 33, _, _, _, _, _⟩) (v := ?_) rfl (by kernel_rfl) (by kernel_rfl) (by kernel_rfl) (fun _ _ _ h => h) (Or.inl ⟨by rfl, ?_⟩) (by assumption) ?_; rotate_left; (intro w hSw; (try dsimp only at hSw); go_simp; (try with_reducible rfl)); simp only [Act.put, List.setIfInBounds_toArray, List.set_cons_zero, List.set_cons_succ]
              refine wpAnyH_take (i := 3) (oi := ⟨some 34, _, _, _, _, _⟩) (v := ?_) rfl (by kernel_rfl) (by kernel_rfl) (by kernel_rfl) (fun _ _ _ h => h) (Or.inl ⟨by rfl, ?_⟩) (by assumption) ?_; rotate_left; (intro w hSw; (try dsimp only at hSw); go_simp; (try with_reducible rfl)); simp only [Act.put, List.setIfInBounds_toArray, List.set_cons_zero, List.set_cons_succ]
              refine wpAnyH_take (i := 4) (oi := ⟨some 35, _, _, _, _, _⟩) (v := ?_) rfl (by kernel_rfl) (by kernel_rfl) (by kernel_rfl) (fun _ _ _ h => h) (Or.inl ⟨by rfl, ?_⟩) (by assumption) ?_; rotate_left; (intro w hSw; (try dsimp only at hSw); go_simp; (try with_reducible rfl)); simp only [Act.put, List.setIfInBounds_toArray, List.set_cons_zero, List.set_cons_succ]
              refine wpAnyH_take (i := 5) (oi := ⟨some 36, _, _, _, _, _⟩) (v := ?_) rfl (by kernel_rfl) (by kernel_rfl) (by kernel_rfl) (fun _ _ _ h => h) (Or.inl ⟨by rfl, ?_⟩) (by assumption) ?_; rotate_left; (intro w hSw; (try dsimp only at hSw); go_simp; (try with_reducible rfl)); simp only [Act.put, List.setIfInBounds_toArray, List.set_cons_zero, List.set_cons_succ]
              refine wpAnyH_take (i := 6) (oi := ⟨some 37, _, _, _, _, _⟩) (v := ?_) rfl (by kernel_rfl) (by kernel_rfl) (by kernel_rfl) (fun _ _ _ h => h) (Or.inl ⟨by rfl, ?_⟩) (by assumption) ?_; rotate_left; (intro w hSw; (try dsimp only at hSw); go_simp; (try with_reducible rfl)); simp only [Act.put, List.setIfInBounds_toArray, List.set_cons_zero, List.set_cons_succ]
              refine wpAnyH_take (i := 7) (oi := ⟨some 38, _, _, _, _, _⟩) (v := ?_) rfl (by kernel_rfl) (by kernel_rfl) (by kernel_rfl) (fun _ _ _ h => h) (Or.inl ⟨by rfl, ?_⟩) (by assumption) ?_; rotate_left; (intro w hSw; (try dsimp only at hSw); go_simp; (try with_reducible rfl)); simp only [Act.put, List.setIfInBounds_toArray, List.set_cons_zero, List.set_cons_succ]
              refine wpAnyH_take (i := 8) (oi := ⟨some 39, _, _, _, _, _⟩) (v := ?_) rfl (by kernel_rfl) (by kernel_rfl) (by kernel_rfl) (fun _ _ _ h => h) (Or.inl ⟨by rfl, ?_⟩) (by assumption) ?_; rotate_left; (intro w hSw; (try dsimp only at hSw); go_simp; (try with_reducible rfl)); simp only [Act.put, List.setIfInBounds_toArray, List.set_cons_zero, List.set_cons_succ]
              refine wpAnyH_take (i := 9) (oi := ⟨some 40, _, _, _, _, _⟩) (v := ?_) rfl (by kernel_rfl) (by kernel_rfl) (by kernel_rfl) (fun _ _ _ h => h) (Or.inl ⟨by rfl, ?_⟩) (by assumption) ?_; rotate_left; (intro w hSw; (try dsimp only at hSw); go_simp; (try with_reducible rfl)); simp only [Act.put, List.setIfInBounds_toArray, List.set_cons_zero, List.set_cons_succ]
              refine wpAnyH_take (i := 10) (oi := ⟨some 41, _, _, _, _, _⟩) (v := ?_) rfl (by kernel_rfl) (by kernel_rfl) (by kernel_rfl) (fun _ _ _ h => h) (Or.inl ⟨by rfl, ?_⟩) (by assumption) ?_; rotate_left; (intro w hSw; (try dsimp only at hSw); go_simp; (try with_reducible rfl)); simp only [Act.put, List.setIfInBounds_toArray, List.set_cons_zero, List.set_cons_succ]
              refine wpAnyH_take (i := 11) (oi := ⟨some 42, _, _, _, _, _⟩) (v := ?_) rfl (by kernel_rfl) (by kernel_rfl) (by kernel_rfl) (fun _ _ _ h => h) (Or.inl ⟨by rfl, ?_⟩) (by assumption) ?_; rotate_left; (intro w hSw; (try dsimp only at hSw); go_simp; (try with_reducible rfl)); simp only [Act.put, List.setIfInBounds_toArray, List.set_cons_zero, List.set_cons_succ]
              refine wpAnyH_take (i := 12) (oi := ⟨some 43, _, _, _, _, _⟩) (v := ?_) rfl (by kernel_rfl) (by kernel_rfl) (by kernel_rfl) (fun _ _ _ h => h) (Or.inl ⟨by rfl, ?_⟩) (by assumption) ?_; rotate_left; (intro w hSw; (try dsimp only at hSw); go_simp; (try with_reducible rfl)); simp only [Act.put, List.setIfInBounds_toArray, List.set_cons_zero, List.set_cons_succ]
              refine wpAnyH_done (by kernel_rfl) ?_ _
              clear hHeld
              have HHI := Lib.hid hhigh
              have hfin : ∀ (W : World) (v : Value), W.ownsRow w1.heap.size 3 1 v (i + 1 + (n - i)) ((l.take i).map (Value.int .i64) ++ [.int .i64 c] ++ (l.drop i).map (Value.int .i64)) → W.ownsRow 0 3 1 v (l.take i ++ c :: l.drop i).length ((l.take i ++ c :: l.drop i).map (Value.int .i64)) := fun W v h => by
                have h1 : (l.take i ++ c :: l.drop i).length = i + 1 + (n - i) := by
                  have := EN.out
                  simp only [List.length_append, List.length_take, List.length_cons, List.length_drop]; omega
                have h2 : (l.take i ++ c :: l.drop i).map (Value.int .i64) = (l.take i).map (Value.int .i64) ++ [.int .i64 c] ++ (l.drop i).map (Value.int .i64) := by simp
                rw [h1, h2]; exact ownsRow_lower h (Nat.zero_le _)
              have HFIN := Lib.hid hfin
              have hlen : (l.take i ++ c :: l.drop i).length ≤ l.length + 1 := by
                simp only [List.length_append, List.length_take, List.length_cons, List.length_drop]; omega
              have HLEN := Lib.hid hlen
              clear hhigh hfin hlen
              obtain ⟨w6, hw6⟩ : ∃ w6, w6 = wr.drew.drew := ⟨_, rfl⟩
              have hb6 : Below w1.heap.size w1 w6 := by rw [hw6]; exact Go.Pen.below_drewN (n := 1) (Go.Pen.below_drewN (n := 1) HBR.out)
              rw [← hw6]
              have HB6 := Lib.hid hb6
              have hs6 := hb6.size
              clear hw6 hb6 cb
              have hivc : i ≤ vc := by have := HNC.out; omega
              have hn1 : ∀ ad, some (⟨g, 0, none⟩ : Addr) = some ad → ∀ (j : Nat) u, ((l.take i).map (Value.int .i64))[j]? = some u → w6.cell? (ad.add j) = some u := fun ad had j u hu => by
                cases had
                rw [add_lit, Nat.zero_add]
                refine cell_keep HB6.out ((ownsRow_heap HO1.out).2.2.2 j u ?_)
                rw [List.map_take, List.getElem?_take] at hu
                split at hu
                · exact hu
                · cases hu
              have hn2 : ∀ u ∈ (l.take i).map (Value.int .i64), u.oneCell' = true := fun u hu => by
                obtain ⟨x, -, rfl⟩ := List.mem_map.1 hu
                rfl
              have hn3 : ((l.take i).map (Value.int .i64)).length = i * 1 := by
                have := EN.out
                rw [List.length_map, List.length_take]; omega
              go_wp2_with (at_builtin; go_must (refine wpList_append_any _ rfl _ _ 44 rfl w1.heap.size 3 i0 _ 1 8 Tryz.underlying44 hi0 hz0 hz1 hz2 rfl (by decide) (.slice none 0 0) 0 [] rfl (World.ownsRow_nil _ _ _ _) (some ⟨g, 0, none⟩) i vc ((l.take i).map (Value.int .i64)) rfl (fun e => by cases e) hn3 hn1 hn2 (by unfold maxLen; omega) (by omega) hs6 ?_))
              intro v7 w7 hown7 hgrow7
              have HB7 := Lib.hid (HB6.out.grown hgrow7 hs6 (fun k hk => by cases hk))
              have hs7 := HB7.out.size
              obtain ⟨a7, c7, rfl⟩ := ownsRow_slice hown7
              have HO7 : Hid (w7.ownsRow w1.heap.size 3 1 (.slice a7 i c7) i ((l.take i).map (Value.int .i64))) := Lib.hid (by simpa using hown7)
              clear hn1 hn2 hn3 hown7 hgrow7
              have cb7 : w7.cell? ⟨H, 2, none⟩ = some (.int .i64 c) := cell_keep HB7.out CB0.out
              have hw7s : w1.heap.size ≤ (w7.alloc (.cells #[.int .i64 c] 3)).heap.size := by rw [World.size_alloc]; omega
              go_wp2_with (at_builtin; go_must (first | refine wpList_append_own _ rfl _ _ 44 rfl w1.heap.size 3 i0 _ 1 8 Tryz.underlying44 hi0 hz0 hz1 hz2 rfl (by decide) (.slice a7 i c7) i ((l.take i).map (Value.int .i64)) rfl (HO7.out.alloc _) ⟨w7.heap.size, 0, none⟩ 1 1 [.int .i64 c] rfl rfl (World.news_of_block (heap_alloc_new _ _)) (fun u hu => by simp at hu; subst hu; rfl) (by unfold maxLen; omega) (by omega) hw7s ?_))
              intro v8 w8 hown8 hgrow8 _
              have HB8 := Lib.hid ((HB7.out.alloc (o := .cells #[.int .i64 c] 3) hs7).grown hgrow8 hw7s (fun k hk => (HO7.out.lt k hk).1))
              have hs8 := HB8.out.size
              obtain ⟨a8, c8, rfl⟩ := ownsRow_slice hown8
              have HO8 : Hid (w8.ownsRow w1.heap.size 3 1 (.slice a8 (i + 1) c8) (i + 1) ((l.take i).map (Value.int .i64) ++ [.int .i64 c])) := Lib.hid (by simpa using hown8)
              clear hown8 hgrow8 cb7 hw7s
              have hn1 : ∀ ad, some (⟨g, i, none⟩ : Addr) = some ad → ∀ (j : Nat) u, ((l.drop i).map (Value.int .i64))[j]? = some u → w8.cell? (ad.add j) = some u := fun ad had j u hu => by
                cases had
                rw [add_lit]
                refine cell_keep HB8.out ((ownsRow_heap HO1.out).2.2.2 (i + j) u ?_)
                rwa [List.map_drop, List.getElem?_drop] at hu
              have hn2 : ∀ u ∈ (l.drop i).map (Value.int .i64), u.oneCell' = true := fun u hu => by
                obtain ⟨x, -, rfl⟩ := List.mem_map.1 hu
                rfl
              have hn3 : ((l.drop i).map (Value.int .i64)).length = (n - i) * 1 := by
                have := EN.out
                rw [List.length_map, List.length_drop]; omega
              have hnc := HNC.out
              have hvc : ¬ (vc - i = 0) := by omega
              go_wp2_with (at_builtin; go_must (refine wpList_append_any _ rfl _ _ 44 rfl w1.heap.size 3 i0 _ 1 8 Tryz.underlying44 hi0 hz0 hz1 hz2 rfl (by decide) (.slice a8 (i + 1) c8) (i + 1) ((l.take i).map (Value.int .i64) ++ [.int .i64 c]) rfl HO8.out (some ⟨g, i, none⟩) (n - i) (vc - i) ((l.drop i).map (Value.int .i64)) rfl (fun e => by cases e) hn3 hn1 hn2 (by unfold maxLen; omega) (by omega) hs8 ?_))
              intro v9 w9 hown9 hgrow9
              have HB9 := Lib.hid (HB8.out.grown hgrow9 hs8 (fun k hk => (HO8.out.lt k hk).1))
              have HO9 := Lib.hid hown9
              clear hn1 hn2 hn3 hown9 hgrow9
              go_wp2_with fail
              go_meet
              exact ⟨l.take i ++ c :: l.drop i, HFIN.out _ _ (by simpa using HO9.out), ins_up HUP.out HLOW.out HHI.out, fun x => by rw [ins_mem]; simp, HLEN.out, HB9.out⟩
            · have hnc1 : ¬ (x < c) := by omega
              have hnc2 : (x == c) = true := by simp; omega
              have hnc3 : (x != c) = false := by simp; omega
              have HXC := Lib.hid hxc
              clear hxc
              have hne : (i == n) = false := by simp; omega
              have hnei : ((i : Int) == (n : Int)) = false := by simp; omega
              go_wp2_with fail
              refine wp_region_held_drew (S := fun W => W.cell? ⟨g, i, none⟩ = some (.int .i64 x) ∧ W.cell? ⟨H, 2, none⟩ = some (.int .i64 c)) (by kernel_rfl) ⟨cx, cb⟩ (fun hHeld => ?_)
              refine wpAnyH_take (i := 0) (oi := ⟨some 16, _, _, _, _, _⟩) (v := ?_) rfl (by kernel_rfl) (by kernel_rfl) (by kernel_rfl) (fun _ _ _ h => h) (Or.inl ⟨by rfl, ?_⟩) (by assumption) ?_; rotate_left; (intro w hSw; (try dsimp only at hSw); go_simp; (try with_reducible rfl)); simp only [Act.put, List.setIfInBounds_toArray, List.set_cons_zero, List.set_cons_succ]
              refine wpAnyH_take (i := 1) (oi := ⟨some 17, _, _, _, _, _⟩) (v := ?_) rfl (by kernel_rfl) (by kernel_rfl) (by kernel_rfl) (fun _ _ _ h => h) (Or.inl ⟨by rfl, ?_⟩) (by assumption) ?_; rotate_left; (intro w hSw; (try dsimp only at hSw); go_simp; (try with_reducible rfl)); simp only [Act.put, List.setIfInBounds_toArray, List.set_cons_zero, List.set_cons_succ]
              refine wpAnyH_take (i := 2) (oi := ⟨some 18, _, _, _, _, _⟩) (v := ?_) rfl (by kernel_rfl) (by kernel_rfl) (by kernel_rfl) (fun _ _ _ h => h) (Or.inl ⟨by rfl, ?_⟩) (by assumption) ?_; rotate_left; (intro w hSw; (try dsimp only at hSw); go_simp; (try with_reducible rfl)); simp only [Act.put, List.setIfInBounds_toArray, List.set_cons_zero, List.set_cons_succ]
              refine wpAnyH_take (i := 3) (oi := ⟨some 19, _, _, _, _, _⟩) (v := ?_) rfl (by kernel_rfl) (by kernel_rfl) (by kernel_rfl) (fun _ _ _ h => h) (Or.inl ⟨by rfl, ?_⟩) (by assumption) ?_; rotate_left; (intro w hSw; (try dsimp only at hSw); go_simp; (try with_reducible rfl)); simp only [Act.put, List.setIfInBounds_toArray, List.set_cons_zero, List.set_cons_succ]
              refine wpAnyH_take (i := 4) (oi := ⟨some 20, _, _, _, _, _⟩) (v := ?_) rfl (by kernel_rfl) (by kernel_rfl) (by kernel_rfl) (fun _ _ _ h => h) (Or.inl ⟨by rfl, ?_⟩) (by assumption) ?_; rotate_left; (intro w hSw; (try dsimp only at hSw); go_simp; (try with_reducible rfl)); simp only [Act.put, List.setIfInBounds_toArray, List.set_cons_zero, List.set_cons_succ]
              refine wpAnyH_take (i := 5) (oi := ⟨some 21, _, _, _, _, _⟩) (v := ?_) rfl (by kernel_rfl) (by kernel_rfl) (by kernel_rfl) (fun _ _ _ h => h) (Or.inl ⟨by rfl, ?_⟩) (by assumption) ?_; rotate_left; (intro w hSw; (try dsimp only at hSw); go_simp; (try with_reducible rfl)); simp only [Act.put, List.setIfInBounds_toArray, List.set_cons_zero, List.set_cons_succ]
              refine wpAnyH_take (i := 6) (oi := ⟨some 22, _, _, _, _, _⟩) (v := ?_) rfl (by kernel_rfl) (by kernel_rfl) (by kernel_rfl) (fun _ _ _ h => h) (Or.inl ⟨by rfl, ?_⟩) (by assumption) ?_; rotate_left; (intro w hSw; (try dsimp only at hSw); go_simp; (try with_reducible rfl)); simp only [Act.put, List.setIfInBounds_toArray, List.set_cons_zero, List.set_cons_succ]
              refine wpAnyH_take (i := 7) (oi := ⟨some 23, _, _, _, _, _⟩) (v := ?_) rfl (by kernel_rfl) (by kernel_rfl) (by kernel_rfl) (fun _ _ _ h => h) (Or.inl ⟨by rfl, ?_⟩) (by assumption) ?_; rotate_left; (intro w hSw; (try dsimp only at hSw); go_simp; (try with_reducible rfl)); simp only [Act.put, List.setIfInBounds_toArray, List.set_cons_zero, List.set_cons_succ]
              refine wpAnyH_take (i := 8) (oi := ⟨some 24, _, _, _, _, _⟩) (v := ?_) rfl (by kernel_rfl) (by kernel_rfl) (by kernel_rfl) (fun _ _ _ h => h) (Or.inl ⟨by rfl, ?_⟩) (by assumption) ?_; rotate_left; (intro w hSw; (try dsimp only at hSw); go_simp; (try with_reducible rfl)); simp only [Act.put, List.setIfInBounds_toArray, List.set_cons_zero, List.set_cons_succ]
              refine wpAnyH_take (i := 9) (oi := ⟨some 25, _, _, _, _, _⟩) (v := ?_) rfl (by kernel_rfl) (by kernel_rfl) (by kernel_rfl) (fun _ _ _ h => h) (Or.inl ⟨by rfl, ?_⟩) (by assumption) ?_; rotate_left; (intro w hSw; (try dsimp only at hSw); go_simp; (try with_reducible rfl)); simp only [Act.put, List.setIfInBounds_toArray, List.set_cons_zero, List.set_cons_succ]
              refine wpAnyH_take (i := 10) (oi := ⟨some 26, _, _, _, _, _⟩) (v := ?_) rfl (by kernel_rfl) (by kernel_rfl) (by kernel_rfl) (fun _ _ _ h => h) (Or.inl ⟨by rfl, ?_⟩) (by assumption) ?_; rotate_left; (intro w hSw; (try dsimp only at hSw); go_simp; (try with_reducible rfl)); simp only [Act.put, List.setIfInBounds_toArray, List.set_cons_zero, List.set_cons_succ]
              refine wpAnyH_take (i := 11) (oi := ⟨some 27, _, _, _, _, _⟩) (v := ?_) rfl (by kernel_rfl) (by kernel_rfl) (by kernel_rfl) (fun _ _ _ h => h) (Or.inl ⟨by rfl, ?_⟩) (by assumption) ?_; rotate_left; (intro w hSw; (try dsimp only at hSw); go_simp; (try with_reducible rfl)); simp only [Act.put, List.setIfInBounds_toArray, List.set_cons_zero, List.set_cons_succ]
              refine wpAnyH_take (i := 12) (oi := ⟨some 28, _, _, _, _, _⟩) (v := ?_) rfl (by kernel_rfl) (by kernel_rfl) (by kernel_rfl) (fun _ _ _ h => h) (Or.inl ⟨by rfl, ?_⟩) (by assumption) ?_; rotate_left; (intro w hSw; (try dsimp only at hSw); go_simp; (try with_reducible rfl)); simp only [Act.put, List.setIfInBounds_toArray, List.set_cons_zero, List.set_cons_succ]
              refine wpAnyH_done (by kernel_rfl) ?_ _
              clear hHeld
              go_wp2_with fail
              refine wp_region_held_drew (S := fun W => W.cell? ⟨g, i, none⟩ = some (.int .i64 x) ∧ W.cell? ⟨H, 2, none⟩ = some (.int .i64 c)) (by kernel_rfl) ⟨cx, cb⟩ (fun hHeld => ?_)
              refine wpAnyH_take (i := 0) (oi := ⟨some 31, _, _, _, _, _⟩) (v := ?_) rfl (by kernel_rfl) (by kernel_rfl) (by kernel_rfl) (fun _ _ _ h => h) (Or.inl ⟨by rfl, ?_⟩) (by assumption) ?_; rotate_left; (intro w hSw; (try dsimp only at hSw); go_simp; (try with_reducible rfl)); simp only [Act.put, List.setIfInBounds_toArray, List.set_cons_zero, List.set_cons_succ]
              refine wpAnyH_take (i := 1) (oi := ⟨some 32, _, _, _, _, _⟩) (v := ?_) rfl (by kernel_rfl) (by kernel_rfl) (by kernel_rfl) (fun _ _ _ h => h) (Or.inl ⟨by rfl, ?_⟩) (by assumption) ?_; rotate_left; (intro w hSw; (try dsimp only at hSw); go_simp; (try with_reducible rfl)); simp only [Act.put, List.setIfInBounds_toArray, List.set_cons_zero, List.set_cons_succ]
              refine wpAnyH_take (i := 2) (oi := ⟨some 33, _, _, _, _, _⟩) (v := ?_) rfl (by kernel_rfl) (by kernel_rfl) (by kernel_rfl) (fun _ _ _ h => h) (Or.inl ⟨by rfl, ?_⟩) (by assumption) ?_; rotate_left; (intro w hSw; (try dsimp only at hSw); go_simp; (try with_reducible rfl)); simp only [Act.put, List.setIfInBounds_toArray, List.set_cons_zero, List.set_cons_succ]
              refine wpAnyH_take (i := 3) (oi := ⟨some 34, _, _, _, _, _⟩) (v := ?_) rfl (by kernel_rfl) (by kernel_rfl) (by kernel_rfl) (fun _ _ _ h => h) (Or.inl ⟨by rfl, ?_⟩) (by assumption) ?_; rotate_left; (intro w hSw; (try dsimp only at hSw); go_simp; (try with_reducible rfl)); simp only [Act.put, List.setIfInBounds_toArray, List.set_cons_zero, List.set_cons_succ]
              refine wpAnyH_take (i := 4) (oi := ⟨some 35, _, _, _, _, _⟩) (v := ?_) rfl (by kernel_rfl) (by kernel_rfl) (by kernel_rfl) (fun _ _ _ h => h) (Or.inl ⟨by rfl, ?_⟩) (by assumption) ?_; rotate_left; (intro w hSw; (try dsimp only at hSw); go_simp; (try with_reducible rfl)); simp only [Act.put, List.setIfInBounds_toArray, List.set_cons_zero, List.set_cons_succ]
              refine wpAnyH_take (i := 5) (oi := ⟨some 36, _, _, _, _, _⟩) (v := ?_) rfl (by kernel_rfl) (by kernel_rfl) (by kernel_rfl) (fun _ _ _ h => h) (Or.inl ⟨by rfl, ?_⟩) (by assumption) ?_; rotate_left; (intro w hSw; (try dsimp only at hSw); go_simp; (try with_reducible rfl)); simp only [Act.put, List.setIfInBounds_toArray, List.set_cons_zero, List.set_cons_succ]
              refine wpAnyH_take (i := 6) (oi := ⟨some 37, _, _, _, _, _⟩) (v := ?_) rfl (by kernel_rfl) (by kernel_rfl) (by kernel_rfl) (fun _ _ _ h => h) (Or.inl ⟨by rfl, ?_⟩) (by assumption) ?_; rotate_left; (intro w hSw; (try dsimp only at hSw); go_simp; (try with_reducible rfl)); simp only [Act.put, List.setIfInBounds_toArray, List.set_cons_zero, List.set_cons_succ]
              refine wpAnyH_take (i := 7) (oi := ⟨some 38, _, _, _, _, _⟩) (v := ?_) rfl (by kernel_rfl) (by kernel_rfl) (by kernel_rfl) (fun _ _ _ h => h) (Or.inl ⟨by rfl, ?_⟩) (by assumption) ?_; rotate_left; (intro w hSw; (try dsimp only at hSw); go_simp; (try with_reducible rfl)); simp only [Act.put, List.setIfInBounds_toArray, List.set_cons_zero, List.set_cons_succ]
              refine wpAnyH_take (i := 8) (oi := ⟨some 39, _, _, _, _, _⟩) (v := ?_) rfl (by kernel_rfl) (by kernel_rfl) (by kernel_rfl) (fun _ _ _ h => h) (Or.inl ⟨by rfl, ?_⟩) (by assumption) ?_; rotate_left; (intro w hSw; (try dsimp only at hSw); go_simp; (try with_reducible rfl)); simp only [Act.put, List.setIfInBounds_toArray, List.set_cons_zero, List.set_cons_succ]
              refine wpAnyH_take (i := 9) (oi := ⟨some 40, _, _, _, _, _⟩) (v := ?_) rfl (by kernel_rfl) (by kernel_rfl) (by kernel_rfl) (fun _ _ _ h => h) (Or.inl ⟨by rfl, ?_⟩) (by assumption) ?_; rotate_left; (intro w hSw; (try dsimp only at hSw); go_simp; (try with_reducible rfl)); simp only [Act.put, List.setIfInBounds_toArray, List.set_cons_zero, List.set_cons_succ]
              refine wpAnyH_take (i := 10) (oi := ⟨some 41, _, _, _, _, _⟩) (v := ?_) rfl (by kernel_rfl) (by kernel_rfl) (by kernel_rfl) (fun _ _ _ h => h) (Or.inl ⟨by rfl, ?_⟩) (by assumption) ?_; rotate_left; (intro w hSw; (try dsimp only at hSw); go_simp; (try with_reducible rfl)); simp only [Act.put, List.setIfInBounds_toArray, List.set_cons_zero, List.set_cons_succ]
              refine wpAnyH_take (i := 11) (oi := ⟨some 42, _, _, _, _, _⟩) (v := ?_) rfl (by kernel_rfl) (by kernel_rfl) (by kernel_rfl) (fun _ _ _ h => h) (Or.inl ⟨by rfl, ?_⟩) (by assumption) ?_; rotate_left; (intro w hSw; (try dsimp only at hSw); go_simp; (try with_reducible rfl)); simp only [Act.put, List.setIfInBounds_toArray, List.set_cons_zero, List.set_cons_succ]
              refine wpAnyH_take (i := 12) (oi := ⟨some 43, _, _, _, _, _⟩) (v := ?_) rfl (by kernel_rfl) (by kernel_rfl) (by kernel_rfl) (fun _ _ _ h => h) (Or.inl ⟨by rfl, ?_⟩) (by assumption) ?_; rotate_left; (intro w hSw; (try dsimp only at hSw); go_simp; (try with_reducible rfl)); simp only [Act.put, List.setIfInBounds_toArray, List.set_cons_zero, List.set_cons_succ]
              refine wpAnyH_done (by kernel_rfl) ?_ _
              clear hHeld
              go_wp2_with fail
              go_meet
              exact ⟨l, by rw [← EN.out]; exact Below.ownsRow' (Go.Pen.below_drewN (n := 1) (Go.Pen.below_drewN (n := 1) HBR.out)) HO1.out, HUP.out, fun y => ⟨.inl, fun h => h.elim id fun h => by rw [h.2, ← HXC.out]; exact List.mem_of_getElem? HX.out⟩, by omega, Go.Pen.below_drewN (n := 1) (Go.Pen.below_drewN (n := 1) HBR.out)⟩
          · obtain rfl : i = n := by omega
            have hhigh : ∀ y, l[i]? = some y → c < y := fun y hy => by
              have := (List.getElem?_eq_some_iff.1 hy).1
              have := EN.out
              omega
            have hnc2 : (i == i) = true := by simp
            have hnc3 : ((i : Int) == (i : Int)) = true := by simp
            go_wp2_with fail
            refine wp_region_held_drew (S := fun _ => True) (by kernel_rfl) trivial (fun hHeld => ?_)
            refine wpAnyH_take (i := 0) (oi := ⟨some 16, _, _, _, _, _⟩) (v := ?_) rfl (by kernel_rfl) (by kernel_rfl) (by kernel_rfl) (fun _ _ _ h => h) (Or.inl ⟨by rfl, ?_⟩) (by assumption) ?_; rotate_left; (intro w hSw; (try dsimp only at hSw); go_simp; (try with_reducible rfl)); simp only [Act.put, List.setIfInBounds_toArray, List.set_cons_zero, List.set_cons_succ]
            refine wpAnyH_take (i := 1) (oi := ⟨some 17, _, _, _, _, _⟩) (v := ?_) rfl (by kernel_rfl) (by kernel_rfl) (by kernel_rfl) (fun _ _ _ h => h) (Or.inl ⟨by rfl, ?_⟩) (by assumption) ?_; rotate_left; (intro w hSw; (try dsimp only at hSw); go_simp; (try with_reducible rfl)); simp only [Act.put, List.setIfInBounds_toArray, List.set_cons_zero, List.set_cons_succ]
            refine wpAnyH_take (i := 2) (oi := ⟨some 18, _, _, _, _, _⟩) (v := ?_) rfl (by kernel_rfl) (by kernel_rfl) (by kernel_rfl) (fun _ _ _ h => h) (Or.inl ⟨by rfl, ?_⟩) (by assumption) ?_; rotate_left; (intro w hSw; (try dsimp only at hSw); go_simp; (try with_reducible rfl)); simp only [Act.put, List.setIfInBounds_toArray, List.set_cons_zero, List.set_cons_succ]
            refine wpAnyH_take (i := 3) (oi := ⟨some 19, _, _, _, _, _⟩) (v := ?_) rfl (by kernel_rfl) (by kernel_rfl) (by kernel_rfl) (fun _ _ _ h => h) (Or.inl ⟨by rfl, ?_⟩) (by assumption) ?_; rotate_left; (intro w hSw; (try dsimp only at hSw); go_simp; (try with_reducible rfl)); simp only [Act.put, List.setIfInBounds_toArray, List.set_cons_zero, List.set_cons_succ]
            refine wpAnyH_take (i := 4) (oi := ⟨some 20, _, _, _, _, _⟩) (v := ?_) rfl (by kernel_rfl) (by kernel_rfl) (by kernel_rfl) (fun _ _ _ h => h) (Or.inl ⟨by rfl, ?_⟩) (by assumption) ?_; rotate_left; (intro w hSw; (try dsimp only at hSw); go_simp; (try with_reducible rfl)); simp only [Act.put, List.setIfInBounds_toArray, List.set_cons_zero, List.set_cons_succ]
            refine wpAnyH_take (i := 5) (oi := ⟨some 21, _, _, _, _, _⟩) (v := undef) rfl (by kernel_rfl) (by kernel_rfl) (by kernel_rfl) (fun _ _ _ h => h) (Or.inr ⟨by rfl, rfl⟩) (by assumption) ?_; simp only [Act.put, List.setIfInBounds_toArray, List.set_cons_zero, List.set_cons_succ]
            refine wpAnyH_take (i := 6) (oi := ⟨some 22, _, _, _, _, _⟩) (v := undef) rfl (by kernel_rfl) (by kernel_rfl) (by kernel_rfl) (fun _ _ _ h => h) (Or.inr ⟨by rfl, rfl⟩) (by assumption) ?_; simp only [Act.put, List.setIfInBounds_toArray, List.set_cons_zero, List.set_cons_succ]
            refine wpAnyH_take (i := 7) (oi := ⟨some 23, _, _, _, _, _⟩) (v := undef) rfl (by kernel_rfl) (by kernel_rfl) (by kernel_rfl) (fun _ _ _ h => h) (Or.inr ⟨by rfl, rfl⟩) (by assumption) ?_; simp only [Act.put, List.setIfInBounds_toArray, List.set_cons_zero, List.set_cons_succ]
            refine wpAnyH_take (i := 8) (oi := ⟨some 24, _, _, _, _, _⟩) (v := undef) rfl (by kernel_rfl) (by kernel_rfl) (by kernel_rfl) (fun _ _ _ h => h) (Or.inr ⟨by rfl, rfl⟩) (by assumption) ?_; simp only [Act.put, List.setIfInBounds_toArray, List.set_cons_zero, List.set_cons_succ]
            refine wpAnyH_take (i := 9) (oi := ⟨some 25, _, _, _, _, _⟩) (v := undef) rfl (by kernel_rfl) (by kernel_rfl) (by kernel_rfl) (fun _ _ _ h => h) (Or.inr ⟨by rfl, rfl⟩) (by assumption) ?_; simp only [Act.put, List.setIfInBounds_toArray, List.set_cons_zero, List.set_cons_succ]
            refine wpAnyH_take (i := 10) (oi := ⟨some 26, _, _, _, _, _⟩) (v := undef) rfl (by kernel_rfl) (by kernel_rfl) (by kernel_rfl) (fun _ _ _ h => h) (Or.inr ⟨by rfl, rfl⟩) (by assumption) ?_; simp only [Act.put, List.setIfInBounds_toArray, List.set_cons_zero, List.set_cons_succ]
            refine wpAnyH_take (i := 11) (oi := ⟨some 27, _, _, _, _, _⟩) (v := undef) rfl (by kernel_rfl) (by kernel_rfl) (by kernel_rfl) (fun _ _ _ h => h) (Or.inr ⟨by rfl, rfl⟩) (by assumption) ?_; simp only [Act.put, List.setIfInBounds_toArray, List.set_cons_zero, List.set_cons_succ]
            refine wpAnyH_take (i := 12) (oi := ⟨some 28, _, _, _, _, _⟩) (v := ?_) rfl (by kernel_rfl) (by kernel_rfl) (by kernel_rfl) (fun _ _ _ h => h) (Or.inl ⟨by rfl, ?_⟩) (by assumption) ?_; rotate_left; (intro w hSw; (try dsimp only at hSw); go_simp; (try with_reducible rfl)); simp only [Act.put, List.setIfInBounds_toArray, List.set_cons_zero, List.set_cons_succ]
            refine wpAnyH_done (by kernel_rfl) ?_ _
            clear hHeld
            go_wp2_with fail
            refine wp_region_held_drew (S := fun _ => True) (by kernel_rfl) trivial (fun hHeld => ?_)
            refine wpAnyH_take (i := 0) (oi := ⟨some 31, _, _, _, _, _⟩) (v := ?_) rfl (by kernel_rfl) (by kernel_rfl) (by kernel_rfl) (fun _ _ _ h => h) (Or.inl ⟨by rfl, ?_⟩) (by assumption) ?_; rotate_left; (intro w hSw; (try dsimp only at hSw); go_simp; (try with_reducible rfl)); simp only [Act.put, List.setIfInBounds_toArray, List.set_cons_zero, List.set_cons_succ]
            refine wpAnyH_take (i := 1) (oi := ⟨some 32, _, _, _, _, _⟩) (v := ?_) rfl (by kernel_rfl) (by kernel_rfl) (by kernel_rfl) (fun _ _ _ h => h) (Or.inl ⟨by rfl, ?_⟩) (by assumption) ?_; rotate_left; (intro w hSw; (try dsimp only at hSw); go_simp; (try with_reducible rfl)); simp only [Act.put, List.setIfInBounds_toArray, List.set_cons_zero, List.set_cons_succ]
            refine wpAnyH_take (i := 2) (oi := ⟨some 33, _, _, _, _, _⟩) (v := ?_) rfl (by kernel_rfl) (by kernel_rfl) (by kernel_rfl) (fun _ _ _ h => h) (Or.inl ⟨by rfl, ?_⟩) (by assumption) ?_; rotate_left; (intro w hSw; (try dsimp only at hSw); go_simp; (try with_reducible rfl)); simp only [Act.put, List.setIfInBounds_toArray, List.set_cons_zero, List.set_cons_succ]
            refine wpAnyH_take (i := 3) (oi := ⟨some 34, _, _, _, _, _⟩) (v := ?_) rfl (by kernel_rfl) (by kernel_rfl) (by kernel_rfl) (fun _ _ _ h => h) (Or.inl ⟨by rfl, ?_⟩) (by assumption) ?_; rotate_left; (intro w hSw; (try dsimp only at hSw); go_simp; (try with_reducible rfl)); simp only [Act.put, List.setIfInBounds_toArray, List.set_cons_zero, List.set_cons_succ]
            refine wpAnyH_take (i := 4) (oi := ⟨some 35, _, _, _, _, _⟩) (v := ?_) rfl (by kernel_rfl) (by kernel_rfl) (by kernel_rfl) (fun _ _ _ h => h) (Or.inl ⟨by rfl, ?_⟩) (by assumption) ?_; rotate_left; (intro w hSw; (try dsimp only at hSw); go_simp; (try with_reducible rfl)); simp only [Act.put, List.setIfInBounds_toArray, List.set_cons_zero, List.set_cons_succ]
            refine wpAnyH_take (i := 5) (oi := ⟨some 36, _, _, _, _, _⟩) (v := undef) rfl (by kernel_rfl) (by kernel_rfl) (by kernel_rfl) (fun _ _ _ h => h) (Or.inr ⟨by rfl, rfl⟩) (by assumption) ?_; simp only [Act.put, List.setIfInBounds_toArray, List.set_cons_zero, List.set_cons_succ]
            refine wpAnyH_take (i := 6) (oi := ⟨some 37, _, _, _, _, _⟩) (v := undef) rfl (by kernel_rfl) (by kernel_rfl) (by kernel_rfl) (fun _ _ _ h => h) (Or.inr ⟨by rfl, rfl⟩) (by assumption) ?_; simp only [Act.put, List.setIfInBounds_toArray, List.set_cons_zero, List.set_cons_succ]
            refine wpAnyH_take (i := 7) (oi := ⟨some 38, _, _, _, _, _⟩) (v := undef) rfl (by kernel_rfl) (by kernel_rfl) (by kernel_rfl) (fun _ _ _ h => h) (Or.inr ⟨by rfl, rfl⟩) (by assumption) ?_; simp only [Act.put, List.setIfInBounds_toArray, List.set_cons_zero, List.set_cons_succ]
            refine wpAnyH_take (i := 8) (oi := ⟨some 39, _, _, _, _, _⟩) (v := undef) rfl (by kernel_rfl) (by kernel_rfl) (by kernel_rfl) (fun _ _ _ h => h) (Or.inr ⟨by rfl, rfl⟩) (by assumption) ?_; simp only [Act.put, List.setIfInBounds_toArray, List.set_cons_zero, List.set_cons_succ]
            refine wpAnyH_take (i := 9) (oi := ⟨some 40, _, _, _, _, _⟩) (v := undef) rfl (by kernel_rfl) (by kernel_rfl) (by kernel_rfl) (fun _ _ _ h => h) (Or.inr ⟨by rfl, rfl⟩) (by assumption) ?_; simp only [Act.put, List.setIfInBounds_toArray, List.set_cons_zero, List.set_cons_succ]
            refine wpAnyH_take (i := 10) (oi := ⟨some 41, _, _, _, _, _⟩) (v := undef) rfl (by kernel_rfl) (by kernel_rfl) (by kernel_rfl) (fun _ _ _ h => h) (Or.inr ⟨by rfl, rfl⟩) (by assumption) ?_; simp only [Act.put, List.setIfInBounds_toArray, List.set_cons_zero, List.set_cons_succ]
            refine wpAnyH_take (i := 11) (oi := ⟨some 42, _, _, _, _, _⟩) (v := undef) rfl (by kernel_rfl) (by kernel_rfl) (by kernel_rfl) (fun _ _ _ h => h) (Or.inr ⟨by rfl, rfl⟩) (by assumption) ?_; simp only [Act.put, List.setIfInBounds_toArray, List.set_cons_zero, List.set_cons_succ]
            refine wpAnyH_take (i := 12) (oi := ⟨some 43, _, _, _, _, _⟩) (v := ?_) rfl (by kernel_rfl) (by kernel_rfl) (by kernel_rfl) (fun _ _ _ h => h) (Or.inl ⟨by rfl, ?_⟩) (by assumption) ?_; rotate_left; (intro w hSw; (try dsimp only at hSw); go_simp; (try with_reducible rfl)); simp only [Act.put, List.setIfInBounds_toArray, List.set_cons_zero, List.set_cons_succ]
            refine wpAnyH_done (by kernel_rfl) ?_ _
            clear hHeld
            rcases va with _ | ⟨g, go, gp⟩
            · obtain ⟨rfl, rfl⟩ : i = 0 ∧ vc = 0 := by
                rcases HO1.out.2 with ⟨h, h0⟩ | ⟨g, cap, cur, h, -⟩
                · cases h; exact ⟨rfl, rfl⟩
                · cases h
              have HHI := Lib.hid hhigh
              have hfin : ∀ (W : World) (v : Value), W.ownsRow w1.heap.size 3 1 v (0 + 1 + (0 - 0)) ((l.take 0).map (Value.int .i64) ++ [.int .i64 c] ++ (l.drop 0).map (Value.int .i64)) → W.ownsRow 0 3 1 v (l.take 0 ++ c :: l.drop 0).length ((l.take 0 ++ c :: l.drop 0).map (Value.int .i64)) := fun W v h => by
                have h1 : (l.take 0 ++ c :: l.drop 0).length = 0 + 1 + (0 - 0) := by
                  have := EN.out
                  simp only [List.length_append, List.length_take, List.length_cons, List.length_drop]; omega
                have h2 : (l.take 0 ++ c :: l.drop 0).map (Value.int .i64) = (l.take 0).map (Value.int .i64) ++ [.int .i64 c] ++ (l.drop 0).map (Value.int .i64) := by simp
                rw [h1, h2]; exact ownsRow_lower h (Nat.zero_le _)
              have HFIN := Lib.hid hfin
              have hlen : (l.take 0 ++ c :: l.drop 0).length ≤ l.length + 1 := by
                simp only [List.length_append, List.length_take, List.length_cons, List.length_drop]; omega
              have HLEN := Lib.hid hlen
              clear hhigh hfin hlen
              obtain ⟨w6, hw6⟩ : ∃ w6, w6 = wr.drew.drew := ⟨_, rfl⟩
              have hb6 : Below w1.heap.size w1 w6 := by rw [hw6]; exact Go.Pen.below_drewN (n := 1) (Go.Pen.below_drewN (n := 1) HBR.out)
              rw [← hw6]
              have HB6 := Lib.hid hb6
              have hs6 := hb6.size
              clear hw6 hb6 cb
              have HO7 : Hid (w6.ownsRow w1.heap.size 3 1 (.slice none 0 0) 0 ((l.take 0).map (Value.int .i64))) := World.ownsRow_nil _ _ _ _
              have cb7 : w6.cell? ⟨H, 2, none⟩ = some (.int .i64 c) := cell_keep HB6.out CB0.out
              have hwss : w1.heap.size ≤ (w6.alloc (.cells #[.int .i64 c] 3)).heap.size := by rw [World.size_alloc]; omega
              go_wp2_with (at_builtin; go_must (first | (refine wpList_append_zero rfl _ _ 44 rfl w1.heap.size 3 i0 1 Tryz.underlying44 hi0 (.slice none 0 0) 0 [] rfl (World.ownsRow_nil _ _ _ _) none 0 0 rfl rfl ?_) | refine wpList_append_own _ rfl _ _ 44 rfl w1.heap.size 3 i0 _ 1 8 Tryz.underlying44 hi0 hz0 hz1 hz2 rfl (by decide) (.slice none 0 0) 0 ((l.take 0).map (Value.int .i64)) rfl (HO7.out.alloc _) ⟨w6.heap.size, 0, none⟩ 1 1 [.int .i64 c] rfl rfl (World.news_of_block (heap_alloc_new _ _)) (fun u hu => by simp at hu; subst hu; rfl) (by unfold maxLen; omega) (by omega) hwss ?_))
              intro v8 w8 hown8 hgrow8 _
              have HB8 := Lib.hid ((HB6.out.alloc (o := .cells #[.int .i64 c] 3) hs6).grown hgrow8 hwss (fun k hk => (HO7.out.lt k hk).1))
              have hs8 := HB8.out.size
              obtain ⟨a8, c8, rfl⟩ := ownsRow_slice hown8
              have HO8 : Hid (w8.ownsRow w1.heap.size 3 1 (.slice a8 (0 + 1) c8) (0 + 1) ((l.take 0).map (Value.int .i64) ++ [.int .i64 c])) := Lib.hid (by simpa using hown8)
              clear hown8 hgrow8 cb7 hwss
              go_wp2_with (at_builtin; go_must (refine wpList_append_zero rfl _ _ 44 rfl w1.heap.size 3 i0 1 Tryz.underlying44 hi0 (.slice a8 (0 + 1) c8) (0 + 1) _ rfl HO8.out _ _ _ rfl (by first | rfl | omega) ?_))
              have hd : l.drop 0 = [] := List.drop_eq_nil_of_le (by have := EN.out; omega)
              go_wp2_with fail
              go_meet
              exact ⟨l.take 0 ++ c :: l.drop 0, HFIN.out _ _ (by rw [hd]; simpa using HO8.out), ins_up HUP.out HLOW.out HHI.out, fun x => by rw [ins_mem]; simp, HLEN.out, HB8.out⟩
            · obtain ⟨rfl, rfl⟩ : go = 0 ∧ gp = none := by
                rcases HO1.out.2 with ⟨h, h0⟩ | ⟨g', cap, cur, h, -⟩
                · cases h
                · cases h; exact ⟨rfl, rfl⟩
              have hnc := HNC.out
              by_cases hvc : vc - i = 0
              · obtain rfl : i = vc := by omega
                have HHI := Lib.hid hhigh
                have hfin : ∀ (W : World) (v : Value), W.ownsRow w1.heap.size 3 1 v (i + 1 + (i - i)) ((l.take i).map (Value.int .i64) ++ [.int .i64 c] ++ (l.drop i).map (Value.int .i64)) → W.ownsRow 0 3 1 v (l.take i ++ c :: l.drop i).length ((l.take i ++ c :: l.drop i).map (Value.int .i64)) := fun W v h => by
                  have h1 : (l.take i ++ c :: l.drop i).length = i + 1 + (i - i) := by
                    have := EN.out
                    simp only [List.length_append, List.length_take, List.length_cons, List.length_drop]; omega
                  have h2 : (l.take i ++ c :: l.drop i).map (Value.int .i64) = (l.take i).map (Value.int .i64) ++ [.int .i64 c] ++ (l.drop i).map (Value.int .i64) := by simp
                  rw [h1, h2]; exact ownsRow_lower h (Nat.zero_le _)
                have HFIN := Lib.hid hfin
                have hlen : (l.take i ++ c :: l.drop i).length ≤ l.length + 1 := by
                  simp only [List.length_append, List.length_take, List.length_cons, List.length_drop]; omega
                have HLEN := Lib.hid hlen
                clear hhigh hfin hlen
                obtain ⟨w6, hw6⟩ : ∃ w6, w6 = wr.drew.drew := ⟨_, rfl⟩
                have hb6 : Below w1.heap.size w1 w6 := by rw [hw6]; exact Go.Pen.below_drewN (n := 1) (Go.Pen.below_drewN (n := 1) HBR.out)
                rw [← hw6]
                have HB6 := Lib.hid hb6
                have hs6 := hb6.size
                clear hw6 hb6 cb
                have hivc : i ≤ i := by have := HNC.out; omega
                have hn1 : ∀ ad, some (⟨g, 0, none⟩ : Addr) = some ad → ∀ (j : Nat) u, ((l.take i).map (Value.int .i64))[j]? = some u → w6.cell? (ad.add j) = some u := fun ad had j u hu => by
                  cases had
                  rw [add_lit, Nat.zero_add]
                  refine cell_keep HB6.out ((ownsRow_heap HO1.out).2.2.2 j u ?_)
                  rw [List.map_take, List.getElem?_take] at hu
                  split at hu
                  · exact hu
                  · cases hu
                have hn2 : ∀ u ∈ (l.take i).map (Value.int .i64), u.oneCell' = true := fun u hu => by
                  obtain ⟨x, -, rfl⟩ := List.mem_map.1 hu
                  rfl
                have hn3 : ((l.take i).map (Value.int .i64)).length = i * 1 := by
                  have := EN.out
                  rw [List.length_map, List.length_take]; omega
                go_wp2_with (at_builtin; go_must (refine wpList_append_any _ rfl _ _ 44 rfl w1.heap.size 3 i0 _ 1 8 Tryz.underlying44 hi0 hz0 hz1 hz2 rfl (by decide) (.slice none 0 0) 0 [] rfl (World.ownsRow_nil _ _ _ _) (some ⟨g, 0, none⟩) i i ((l.take i).map (Value.int .i64)) rfl (fun e => by cases e) hn3 hn1 hn2 (by unfold maxLen; omega) (by omega) hs6 ?_))
                intro v7 w7 hown7 hgrow7
                have HB7 := Lib.hid (HB6.out.grown hgrow7 hs6 (fun k hk => by cases hk))
                have hs7 := HB7.out.size
                obtain ⟨a7, c7, rfl⟩ := ownsRow_slice hown7
                have HO7 : Hid (w7.ownsRow w1.heap.size 3 1 (.slice a7 i c7) i ((l.take i).map (Value.int .i64))) := Lib.hid (by simpa using hown7)
                clear hn1 hn2 hn3 hown7 hgrow7
                have cb7 : w7.cell? ⟨H, 2, none⟩ = some (.int .i64 c) := cell_keep HB7.out CB0.out
                have hw7s : w1.heap.size ≤ (w7.alloc (.cells #[.int .i64 c] 3)).heap.size := by rw [World.size_alloc]; omega
                go_wp2_with (at_builtin; go_must (first | refine wpList_append_own _ rfl _ _ 44 rfl w1.heap.size 3 i0 _ 1 8 Tryz.underlying44 hi0 hz0 hz1 hz2 rfl (by decide) (.slice a7 i c7) i ((l.take i).map (Value.int .i64)) rfl (HO7.out.alloc _) ⟨w7.heap.size, 0, none⟩ 1 1 [.int .i64 c] rfl rfl (World.news_of_block (heap_alloc_new _ _)) (fun u hu => by simp at hu; subst hu; rfl) (by unfold maxLen; omega) (by omega) hw7s ?_))
                intro v8 w8 hown8 hgrow8 _
                have HB8 := Lib.hid ((HB7.out.alloc (o := .cells #[.int .i64 c] 3) hs7).grown hgrow8 hw7s (fun k hk => (HO7.out.lt k hk).1))
                have hs8 := HB8.out.size
                obtain ⟨a8, c8, rfl⟩ := ownsRow_slice hown8
                have HO8 : Hid (w8.ownsRow w1.heap.size 3 1 (.slice a8 (i + 1) c8) (i + 1) ((l.take i).map (Value.int .i64) ++ [.int .i64 c])) := Lib.hid (by simpa using hown8)
                clear hown8 hgrow8 cb7 hw7s
                go_wp2_with (at_builtin; go_must (refine wpList_append_zero rfl _ _ 44 rfl w1.heap.size 3 i0 1 Tryz.underlying44 hi0 (.slice a8 (i + 1) c8) (i + 1) _ rfl HO8.out _ _ _ rfl (by first | rfl | omega) ?_))
                have hd : l.drop i = [] := List.drop_eq_nil_of_le (by have := EN.out; omega)
                go_wp2_with fail
                go_meet
                exact ⟨l.take i ++ c :: l.drop i, HFIN.out _ _ (by rw [hd]; simpa using HO8.out), ins_up HUP.out HLOW.out HHI.out, fun x => by rw [ins_mem]; simp, HLEN.out, HB8.out⟩
              · skip
                have HHI := Lib.hid hhigh
                have hfin : ∀ (W : World) (v : Value), W.ownsRow w1.heap.size 3 1 v (i + 1 + (i - i)) ((l.take i).map (Value.int .i64) ++ [.int .i64 c] ++ (l.drop i).map (Value.int .i64)) → W.ownsRow 0 3 1 v (l.take i ++ c :: l.drop i).length ((l.take i ++ c :: l.drop i).map (Value.int .i64)) := fun W v h => by
                  have h1 : (l.take i ++ c :: l.drop i).length = i + 1 + (i - i) := by
                    have := EN.out
                    simp only [List.length_append, List.length_take, List.length_cons, List.length_drop]; omega
                  have h2 : (l.take i ++ c :: l.drop i).map (Value.int .i64) = (l.take i).map (Value.int .i64) ++ [.int .i64 c] ++ (l.drop i).map (Value.int .i64) := by simp
                  rw [h1, h2]; exact ownsRow_lower h (Nat.zero_le _)
                have HFIN := Lib.hid hfin
                have hlen : (l.take i ++ c :: l.drop i).length ≤ l.length + 1 := by
                  simp only [List.length_append, List.length_take, List.length_cons, List.length_drop]; omega
                have HLEN := Lib.hid hlen
                clear hhigh hfin hlen
                obtain ⟨w6, hw6⟩ : ∃ w6, w6 = wr.drew.drew := ⟨_, rfl⟩
                have hb6 : Below w1.heap.size w1 w6 := by rw [hw6]; exact Go.Pen.below_drewN (n := 1) (Go.Pen.below_drewN (n := 1) HBR.out)
                rw [← hw6]
                have HB6 := Lib.hid hb6
                have hs6 := hb6.size
                clear hw6 hb6 cb
                have hivc : i ≤ vc := by have := HNC.out; omega
                have hn1 : ∀ ad, some (⟨g, 0, none⟩ : Addr) = some ad → ∀ (j : Nat) u, ((l.take i).map (Value.int .i64))[j]? = some u → w6.cell? (ad.add j) = some u := fun ad had j u hu => by
                  cases had
                  rw [add_lit, Nat.zero_add]
                  refine cell_keep HB6.out ((ownsRow_heap HO1.out).2.2.2 j u ?_)
                  rw [List.map_take, List.getElem?_take] at hu
                  split at hu
                  · exact hu
                  · cases hu
                have hn2 : ∀ u ∈ (l.take i).map (Value.int .i64), u.oneCell' = true := fun u hu => by
                  obtain ⟨x, -, rfl⟩ := List.mem_map.1 hu
                  rfl
                have hn3 : ((l.take i).map (Value.int .i64)).length = i * 1 := by
                  have := EN.out
                  rw [List.length_map, List.length_take]; omega
                go_wp2_with (at_builtin; go_must (refine wpList_append_any _ rfl _ _ 44 rfl w1.heap.size 3 i0 _ 1 8 Tryz.underlying44 hi0 hz0 hz1 hz2 rfl (by decide) (.slice none 0 0) 0 [] rfl (World.ownsRow_nil _ _ _ _) (some ⟨g, 0, none⟩) i vc ((l.take i).map (Value.int .i64)) rfl (fun e => by cases e) hn3 hn1 hn2 (by unfold maxLen; omega) (by omega) hs6 ?_))
                intro v7 w7 hown7 hgrow7
                have HB7 := Lib.hid (HB6.out.grown hgrow7 hs6 (fun k hk => by cases hk))
                have hs7 := HB7.out.size
                obtain ⟨a7, c7, rfl⟩ := ownsRow_slice hown7
                have HO7 : Hid (w7.ownsRow w1.heap.size 3 1 (.slice a7 i c7) i ((l.take i).map (Value.int .i64))) := Lib.hid (by simpa using hown7)
                clear hn1 hn2 hn3 hown7 hgrow7
                have cb7 : w7.cell? ⟨H, 2, none⟩ = some (.int .i64 c) := cell_keep HB7.out CB0.out
                have hw7s : w1.heap.size ≤ (w7.alloc (.cells #[.int .i64 c] 3)).heap.size := by rw [World.size_alloc]; omega
                go_wp2_with (at_builtin; go_must (first | refine wpList_append_own _ rfl _ _ 44 rfl w1.heap.size 3 i0 _ 1 8 Tryz.underlying44 hi0 hz0 hz1 hz2 rfl (by decide) (.slice a7 i c7) i ((l.take i).map (Value.int .i64)) rfl (HO7.out.alloc _) ⟨w7.heap.size, 0, none⟩ 1 1 [.int .i64 c] rfl rfl (World.news_of_block (heap_alloc_new _ _)) (fun u hu => by simp at hu; subst hu; rfl) (by unfold maxLen; omega) (by omega) hw7s ?_))
                intro v8 w8 hown8 hgrow8 _
                have HB8 := Lib.hid ((HB7.out.alloc (o := .cells #[.int .i64 c] 3) hs7).grown hgrow8 hw7s (fun k hk => (HO7.out.lt k hk).1))
                have hs8 := HB8.out.size
                obtain ⟨a8, c8, rfl⟩ := ownsRow_slice hown8
                have HO8 : Hid (w8.ownsRow w1.heap.size 3 1 (.slice a8 (i + 1) c8) (i + 1) ((l.take i).map (Value.int .i64) ++ [.int .i64 c])) := Lib.hid (by simpa using hown8)
                clear hown8 hgrow8 cb7 hw7s
                go_wp2_with (at_builtin; go_must (refine wpList_append_zero rfl _ _ 44 rfl w1.heap.size 3 i0 1 Tryz.underlying44 hi0 (.slice a8 (i + 1) c8) (i + 1) _ rfl HO8.out _ _ _ rfl (by first | rfl | omega) ?_))
                have hd : l.drop i = [] := List.drop_eq_nil_of_le (by have := EN.out; omega)
                go_wp2_with fail
                go_meet
                exact ⟨l.take i ++ c :: l.drop i, HFIN.out _ _ (by rw [hd]; simpa using HO8.out), ins_up HUP.out HLOW.out HHI.out, fun x => by rw [ins_mem]; simp, HLEN.out, HB8.out⟩
      · have e1 : (o == 1) = false := by simpa using o1
        go_wp2_with fail
        go_meet
        exact ⟨l, by rw [← EN.out]; exact HO1.out, HUP.out, fun x => ⟨.inl, fun h => h.elim id fun h => absurd h.1 o1⟩, by omega, Below.refl _ _⟩
    case rest =>
      obtain ⟨l2, hown2, hup2, hmem2, hlen2, hb2⟩ := hcut
      obtain ⟨ua, uc, rfl⟩ := ownsRow_slice hown2
      have c1 : wc.cell? ⟨H, 1, none⟩ = some (.slice a K cc) := cell_of_heap ((hb2.block H (lt_of_heap KH.out)).trans KH.out) rfl
      have HO2 := Lib.hid hown2
      have HU2 := Lib.hid hup2
      have HM2 := Lib.hid hmem2
      have HL2 := Lib.hid hlen2
      have HB2 := Lib.hid hb2
      clear hown2 hup2 hmem2 hlen2 hb2
      go_wp2_with fail
      go_loopg [2, 9] K (fun g s2 s9 wr => ∃ (i : Nat) (l3 : List Int), i ≤ K ∧ g = K - i ∧ s9 = .int .i64 i ∧ wr.ownsRow 0 3 1 s2 l3.length (l3.map (Value.int .i64)) ∧ l3.Pairwise (· < ·) ∧ (∀ x, x ∈ l3 ↔ x ∈ l2 ∨ x ∈ colsOf (ET.pres (ks.take i) (deep + 1))) ∧ l3.length ≤ l2.length + ET.sizes (ks.take i) ∧ Below w1.heap.size w1 wr)
      case atStart => exact ⟨0, l2, Nat.zero_le _, rfl, rfl, HO2.out, HU2.out, fun x => by simp [ET.pres, colsOf], by simp [ET.sizes], HB2.out⟩
      case round =>
        obtain ⟨i, l3, hi, rfl, rfl, hown3, hup3, hmem3, hlen3, hbr⟩ := hrel
        have c1r : wr.cell? ⟨H, 1, none⟩ = some (.slice a K cc) := cell_of_heap ((hbr.block H (lt_of_heap KH.out)).trans KH.out) rfl
        obtain ⟨ra, rc, rfl⟩ := ownsRow_slice hown3
        by_cases hlt : i < K
        · obtain ⟨k, hk⟩ : ∃ k, ks[i]? = some k := ⟨ks[i]'(by rw [← EK.out]; exact hlt), List.getElem?_eq_getElem _⟩
          obtain ⟨b, off, rfl, -, hats⟩ := HKS.out (fun e => by simp only [ET.kids] at e; rw [e] at hk; simp at hk)
          obtain ⟨kv, hkc, hkat⟩ := hats.get hk
          obtain ⟨a', c', rfl⟩ := hkat.slice
          have hbw : Below w.heap.size w wr := HB1.out.trans (hbr.mono HB1.out.size)
          obtain ⟨k0, k1, k2, k3, k4, k5, k6⟩ := hkc.below hbw
          have hst := ET.sizes_take ks i k hk
          have hsl := ET.sizes_le ks (i + 1)
          have hsz := HSZ.out
          have hl2 := HL2.out
          have hen := EN.out
          have hct := IH.out k (List.mem_of_getElem? hk) _ _ l3 (deep + 1) wr (by have := ED.out; omega) (hkat.below hbw) (HF.out k (List.mem_of_getElem? hk)) hown3 hup3 (by omega)
          unfold ET.agg at hct
          rw [show (((deep + 1 : Nat) : Int)) = D + 1 by have := ED.out; omega] at hct
          have HCT := Lib.hid hct
          have HBR := Lib.hid hbr
          have HK := Lib.hid hk
          have HM3 := Lib.hid hmem3
          have HL3 := Lib.hid hlen3
          have HST := Lib.hid hst
          clear hats hkc hkat hbw hct hbr hk hown3 hup3 hmem3 hlen3 hst hsl hsz hl2 hen
          go_wp2_with fail
          refine HCT.out.mono ?_
          rintro ev w2 ⟨v4, l4, rfl, hown4, hup4, hmem4, hlen4, hb4⟩
          obtain ⟨qa, qc, rfl⟩ := ownsRow_slice hown4
          have HB4 : Hid (Below w1.heap.size w1 w2) := HBR.out.trans (hb4.mono HBR.out.size)
          have HO4 := Lib.hid hown4
          have HU4 := Lib.hid hup4
          have HM4 := Lib.hid hmem4
          have HL4 := Lib.hid hlen4
          clear k0 k1 k2 k3 k4 k5 k6 hb4 HCT hown4 hup4 hmem4 hlen4
          go_wp2
          go_roundg (K - (i + 1))
          case measure => omega
          case rel =>
            refine ⟨i + 1, l4, by omega, rfl, by go_num, HO4.out, HU4.out, fun x => ?_, by have := HL4.out; have := HL3.out; have := HST.out; omega, HB4.out⟩
            rw [HM4.out x, HM3.out x, mem_colsOf_pres, mem_colsOf_pres, List.take_succ_eq_append_getElem (by exact (List.getElem?_eq_some_iff.1 HK.out).1), (List.getElem?_eq_some_iff.1 HK.out).2]
            simp only [List.mem_append, List.mem_singleton]
            constructor
            · rintro ((h | ⟨k', h1, h2⟩) | h)
              · exact .inl h
              · exact .inr ⟨k', .inl h1, h2⟩
              · exact .inr ⟨k, .inr rfl, h⟩
            · rintro (h | ⟨k', h1 | rfl, h2⟩)
              · exact .inl (.inl h)
              · exact .inl (.inr ⟨k', h1, h2⟩)
              · exact .inr h2
        · obtain rfl : i = K := by omega
          have hwl : ks.take i = ks := List.take_of_length_le (by rw [EK.out]; exact Nat.le_refl _)
          rw [hwl] at hmem3 hlen3
          have HBR := Lib.hid hbr
          have HO3 := Lib.hid hown3
          have HU3 := Lib.hid hup3
          have HM3 := Lib.hid hmem3
          have HL3 := Lib.hid hlen3
          clear hwl hbr hown3 hup3 hmem3 hlen3
          go_wp2
          go_ret
          refine ⟨_, l3, rfl, HO3.out, HU3.out, fun x => ?_, ?_, HB1.out.trans (HBR.out.mono HB1.out.size)⟩
          · rw [HM3.out x, HM2.out x, mem_colsOf_pre (by have := ED.out; omega), or_assoc]
          · have := HL3.out; have := HL2.out; simp only [ET.size]; omega

set_option maxRecDepth 100000 in
set_option maxHeartbeats 1000000 in
theorem rcolumns_36 (e : ET) (a : Option Addr) (cc : Nat) (w : World) (hfit : e.fits) (hat : e.At w (.slice a e.kids.length cc)) (hsz : e.size ≤ 1000000) :
    Calls Tryz.prog 36 #[e.agg (.slice a e.kids.length cc)] w fun ev w' => ∃ (v : Value) (ks : List Int), ev = .returned v ∧ Ups (colsOf (e.pre 1)) ks ∧ w'.ownsRow 0 3 1 v ks.length (ks.map (Value.int .i64)) ∧ Below w.heap.size w w' := by
  have hct := fun (W : World) (hb : Below w.heap.size w W) => cols_75 e _ (.slice none 0 0) [] 1 W (by decide) (hat.below hb) hfit (World.ownsRow_nil _ _ _ _) List.Pairwise.nil (by simpa using hsz)
  unfold ET.agg at hct
  have HCT := Lib.hid hct
  clear hct hat hfit
  unfold ET.agg
  go_enter Tryz.func36, Tryz.ntmps36
  go_wp2_with fail
  refine (HCT.out _ (one_below _ _)).mono ?_
  rintro ev w2 ⟨v, l2, rfl, hown, hup, hmem, -, hb2⟩
  have HO := Lib.hid hown
  have HU := Lib.hid hup
  have HM := Lib.hid hmem
  have HB := Lib.hid hb2
  obtain ⟨qa, qc, rfl⟩ := ownsRow_slice hown
  clear hown hup hmem hb2
  go_wp2_with fail
  go_ret
  exact ⟨_, l2, rfl, ⟨HU.out, fun x => by rw [HM.out x]; simp⟩, HO.out, (one_below _ _).trans (HB.out.mono (by simp))⟩
end Go.Proofs.YtolikaginhjbhaaGreatDoor
/- The reference's Type. -/
namespace Go.Proofs.YtolikaginhjbhaaGreatDoor
open Go.RowKit Go.Pen Go.Shelf
attribute [local go_sem ↓] Go.wp_at_zero Go.wp_at_succ
attribute [local go_sem] Oper.semAt_some

/-- what the reference's both answers -/
def fitV (a : Int) : Option Int → Value
  | some k => .tuple #[.int .u8 k, .bool true]
  | none => .tuple #[.int .u8 a, .bool false]
def bothV (a b : Int) : Value := fitV a (fitsT a b)
set_option maxRecDepth 100000 in
theorem both_103 (a b : Int) (w : World) (ha : 0 ≤ a ∧ a ≤ 255) (hb : 0 ≤ b ∧ b ≤ 255) : Calls Tryz.prog 103 #[.int .u8 a, .int .u8 b] w fun e w' => e = .returned (bothV a b) ∧ Below w.heap.size w w' := by
  obtain ⟨R, eR⟩ : ∃ R, R = bothV a b := ⟨_, rfl⟩
  rw [← eR]
  unfold bothV fitsT at eR
  by_cases h1 : a = 1
  · rw [if_pos h1] at eR
    simp only [fitV] at eR
    subst h1
    go_enter Tryz.func103, Tryz.ntmps103
    go_wp2_with fail
    go_ret2
    exact ⟨by first | rfl | (rw [eR]; rfl) | (rw [← eR]; rfl), Below.refl _ _⟩
  · rw [if_neg h1] at eR
    have e1 : (a == 1) = false := by simpa using h1
    by_cases h2 : a = b
    · rw [if_pos (.inr h2)] at eR
      simp only [fitV] at eR
      subst h2
      have e2 : (a == a) = true := by simp
      go_enter Tryz.func103, Tryz.ntmps103
      go_wp2_with fail
      go_ret2
      exact ⟨by first | rfl | (rw [eR]; rfl) | (rw [← eR]; rfl), Below.refl _ _⟩
    · have e2 : (a == b) = false := by simpa using h2
      by_cases h3 : b = 1
      · rw [if_pos (.inl h3)] at eR
        simp only [fitV] at eR
        have e3 : (b == 1) = true := by simpa using h3
        go_enter Tryz.func103, Tryz.ntmps103
        go_wp2_with fail
        go_ret2
        exact ⟨by first | rfl | (rw [eR]; rfl) | (rw [← eR]; rfl), Below.refl _ _⟩
      · rw [if_neg (fun h => h.elim h3 h2)] at eR
        simp only [fitV] at eR
        have e3 : (b == 1) = false := by simpa using h3
        go_enter Tryz.func103, Tryz.ntmps103
        go_wp2_with fail
        go_ret2
        exact ⟨by first | rfl | (rw [eR]; rfl) | (rw [← eR]; rfl), Below.refl _ _⟩

/-- what the reference's typed answers -/
def tyV (r : Option Int) : Value := match r with
  | some k => .tuple #[.int .u8 k, .bool true]
  | none => .tuple #[.int .u8 0, .bool false]
def TvPost (k : Option Int) (w : World) (ev : Ending) (w' : World) : Prop := ev = .returned (tyV k) ∧ Below w.heap.size w w'
def TvOK (cols : List Int) (vc : Value) (e : ET) : Prop := ∀ (deep : Nat) (kv : Value) (w : World), e.At w kv → e.fits → e.good okD deep = true → e.within cols.length = true → KindsOn w cols vc →
    Calls Tryz.prog 72 #[e.agg kv, vc] w (TvPost (e.typ cols) w)

/-- a choice's type, pair for pair -/
def caseF : Int → List Int → Option Int
  | k, [] => some k
  | k, [v] => fitsT k v
  | k, c :: v :: l => match fitsT 2 c with
    | none => none
    | some _ => match fitsT k v with
      | none => none
      | some k' => caseF k' l
theorem fitsT_two {c k : Int} (h : fitsT 2 c = some k) : k = 2 := by
  unfold fitsT at h
  rw [if_neg (by decide)] at h
  split at h
  · cases h; rfl
  · cases h
theorem caseF_none : ∀ (m : Nat) (k : Int) (l : List Int), l.length ≤ m → allT 2 (whensT l) = none → l.length % 2 = 1 → caseF k l = none
  | 0, k, l, hm, h, h2 => by obtain rfl : l = [] := List.length_eq_zero_iff.1 (by omega); simp at h2
  | m + 1, k, [], hm, h, h2 => by simp at h2
  | m + 1, k, [v], hm, h, h2 => by simp [whensT, allT] at h
  | m + 1, k, c :: v :: l, hm, h, h2 => by
    simp only [whensT, allT] at h
    simp only [caseF]
    simp only [List.length_cons] at hm h2
    cases hc : fitsT 2 c with
    | none => rfl
    | some x =>
      rw [hc] at h
      obtain rfl := fitsT_two hc
      simp only at h ⊢
      cases hv : fitsT k v with
      | none => rfl
      | some k' => exact caseF_none m k' l (by omega) h (by omega)
theorem caseF_some : ∀ (m : Nat) (k : Int) (l : List Int) (x : Int), l.length ≤ m → allT 2 (whensT l) = some x → l.length % 2 = 1 → caseF k l = allT k (thensT l)
  | 0, k, l, x, hm, h, h2 => by obtain rfl : l = [] := List.length_eq_zero_iff.1 (by omega); simp at h2
  | m + 1, k, [], x, hm, h, h2 => by simp at h2
  | m + 1, k, [v], x, hm, h, h2 => by
    simp only [caseF, thensT, allT]
    cases fitsT k v <;> rfl
  | m + 1, k, c :: v :: l, x, hm, h, h2 => by
    simp only [whensT, allT] at h
    simp only [List.length_cons] at hm h2
    cases hc : fitsT 2 c with
    | none => rw [hc] at h; cases h
    | some y =>
      rw [hc] at h
      obtain rfl := fitsT_two hc
      simp only [caseF, hc, thensT, allT] at h ⊢
      cases hv : fitsT k v with
      | none => rfl
      | some k' => exact caseF_some m k' l x (by omega) h (by omega)
theorem rest_case {l : List Int} (h2 : l.length % 2 = 1) : restT 21 l = caseF 1 l := by
  unfold restT
  rw [if_neg (by decide), if_neg (by decide), if_pos rfl]
  cases h : allT 2 (whensT l) with
  | none => rw [caseF_none l.length 1 l (Nat.le_refl _) h h2]
  | some x => rw [caseF_some l.length 1 l x (Nat.le_refl _) h h2]

/-- kinds in a row of their own -/
def KRow (B : Nat) (w : World) (v : Value) (ts : List Int) : Prop := w.ownsRow B 23 1 v ts.length (ts.map kcell)
theorem KRow.at {B : Nat} {w : World} {v : Value} {ts : List Int} (h : KRow B w v ts) {i : Nat} {t : Int} (hi : ts[i]? = some t) : ∃ g c, v = .slice (some ⟨g, 0, none⟩) ts.length c ∧ w.cell? ⟨g, i, none⟩ = some (.int .u8 t) := by
  obtain ⟨g, cap, rfl, -, -⟩ := World.ownsRow.form h (by have := (List.getElem?_eq_some_iff.1 hi).1; omega)
  exact ⟨g, cap, rfl, (ownsRow_heap h).2.2.2 i _ (by rw [List.getElem?_map, hi]; rfl)⟩

theorem rest_none {o : Int} {l : List Int} (h20 : o ≠ 20) (h21 : o ≠ 21) (h : allT (asksT o) l = none) : restT o l = none := by
  unfold restT
  rw [if_neg h20]
  by_cases h22 : o = 22
  · subst h22; rw [if_pos rfl]; exact h
  · rw [if_neg h22, if_neg h21, h]
theorem rest_some {o k : Int} {l : List Int} (h20 : o ≠ 20) (h21 : o ≠ 21) (h : allT (asksT o) l = some k) : restT o l = some (if o = 22 then k else givesT o) := by
  unfold restT
  rw [if_neg h20]
  by_cases h22 : o = 22
  · subst h22; rw [if_pos rfl, if_pos rfl]; exact h
  · rw [if_neg h22, if_neg h21, h, if_neg h22]
/-- behind a condition -/
def caseO : Int → List Int → Option Int
  | k, [] => some k
  | k, v :: l => match fitsT k v with
    | none => none
    | some k' => caseF k' l
theorem fitsT_range {a b k : Int} (h : fitsT a b = some k) (ha : 0 ≤ a ∧ a ≤ 255) (hb : 0 ≤ b ∧ b ≤ 255) : 0 ≤ k ∧ k ≤ 255 := by
  unfold fitsT at h
  split at h
  · cases h; exact hb
  · split at h
    · cases h; exact ha
    · cases h
theorem allT_drop {k t : Int} {l : List Int} {j : Nat} (h : l[j]? = some t) : allT k (l.drop j) = match fitsT k t with
    | none => none
    | some k' => allT k' (l.drop (j + 1)) := by
  obtain ⟨hl, ht⟩ := List.getElem?_eq_some_iff.1 h
  rw [List.drop_eq_getElem_cons hl, ht]
  simp only [allT]
  cases fitsT k t <;> rfl

set_option maxRecDepth 100000 in
set_option maxHeartbeats 16000000 in
theorem tv_op (cols : List Int) (vc : Value) (o c : Int) (d : Dat) (ks : List ET) (ih : ∀ k ∈ ks, TvOK cols vc k) (ho : 3 ≤ o ∧ o ≤ 22) : TvOK cols vc (.mk o c d ks) := by
  intro deep kv w hat hfit hg hw hk
  obtain ⟨i0, hi0, hz0, hz1, hz2⟩ := info_parts info23
  obtain ⟨a, cc, rfl, -, hks⟩ := ET.On.iff.1 hat
  simp only [ET.fits] at hfit
  obtain ⟨⟨ho0, ho1⟩, ⟨hc0, hc1⟩, -, hkl, hfs⟩ := hfit
  simp only [ET.good, Bool.and_eq_true, decide_eq_true_eq, ET.goods_iff] at hg
  simp only [ET.within, Bool.and_eq_true, ET.withins_iff, Bool.not_eq_true', Bool.and_eq_false_iff, decide_eq_false_iff_not] at hw
  have hkid := own_kids hg.1.1
  have HF := Lib.hid (ET.fitss_iff.1 hfs)
  have HKS := Lib.hid hks
  have IH := Lib.hid ih
  have HG := Lib.hid hg
  have HW := Lib.hid hw.2
  have HK := Lib.hid hk
  have HKID := Lib.hid hkid
  obtain ⟨va, vcc, rfl, -, -⟩ := hk
  obtain ⟨R, eR⟩ : ∃ R, R = (ET.mk o c d ks).typ cols := ⟨_, rfl⟩
  have eR2 : R = match ET.typs cols ks with
      | none => none
      | some l => restT o l := by
    rw [eR]
    simp only [ET.typ]
    rw [if_neg (by omega), if_neg (by omega), if_neg (by omega)]
    cases ET.typs cols ks <;> rfl
  rw [← eR]
  have ER := Lib.hid eR2
  clear hfs hks ih hat hg hw eR eR2 hkid
  unfold ET.agg
  simp only [ET.op, ET.col, ET.lit, ET.kids]
  obtain ⟨K, eK⟩ : ∃ K, K = ks.length := ⟨_, rfl⟩
  rw [← eK] at hkl HKID ⊢
  have EK := Lib.hid eK
  clear eK
  have n1 : (o == 1) = false := by simp; omega
  have n2 : (o == 2) = false := by simp; omega
  have n3 : (o == 23) = false := by simp; omega
  obtain ⟨H, eH⟩ : ∃ H, H = w.heap.size := ⟨_, rfl⟩
  have EH := Lib.hid eH
  clear eH
  go_enter Tryz.func72, Tryz.ntmps72
  go_wp2_with fail
  obtain ⟨w1, hw1⟩ : ∃ w1, w1 = w.alloc (.cells #[.int .u8 o, .slice a K cc, .int .i64 c, .int .u8 d.kind, .bool d.bool, .int .i64 d.int, .string d.text] 27) := ⟨_, rfl⟩
  have hb1 : Below w.heap.size w w1 := by rw [hw1]; exact one_below _ _
  have kh : w1.heap[H]? = some (.cells #[.int .u8 o, .slice a K cc, .int .i64 c, .int .u8 d.kind, .bool d.bool, .int .i64 d.int, .string d.text] 27 (0, 0)) := by rw [hw1, EH.out]; exact heap_alloc_new _ _
  rw [← hw1, ← EH.out]
  have HB1 := Lib.hid hb1
  have KH := Lib.hid kh
  clear hw1 hb1 kh
  go_loopg [7, 8] K (fun g s7 s8 wr => ∃ (i : Nat) (ts : List Int), i ≤ K ∧ g = K - i ∧ s8 = .int .i64 i ∧ ts.length = i ∧ KRow w1.heap.size wr s7 ts ∧ ET.typs cols (ks.take i) = some ts ∧ Below w1.heap.size w1 wr)
  case atStart => exact ⟨0, [], Nat.zero_le _, rfl, rfl, rfl, World.ownsRow_nil _ _ _ _, rfl, Below.refl _ _⟩
  case round =>
    obtain ⟨i, ts, hi, rfl, rfl, htl, hrow, hts, hbr⟩ := hrel
    have hkr := (hbr.block H (lt_of_heap KH.out)).trans KH.out
    have d0 : wr.cell? ⟨H, 0, none⟩ = some (.int .u8 o) := cell_of_heap hkr rfl
    have d1 : wr.cell? ⟨H, 1, none⟩ = some (.slice a K cc) := cell_of_heap hkr rfl
    unfold KRow at hrow
    rw [htl] at hrow
    obtain ⟨ra, rc, rfl⟩ := ownsRow_slice hrow
    have HTL := Lib.hid htl
    have HROW := Lib.hid hrow
    have HTS := Lib.hid hts
    have HBR := Lib.hid hbr
    clear hkr htl hrow hts hbr
    by_cases hlt : i < K
    · obtain ⟨k, hk⟩ : ∃ k, ks[i]? = some k := ⟨ks[i]'(by rw [← EK.out]; exact hlt), List.getElem?_eq_getElem _⟩
      obtain ⟨b, off, rfl, -, hats⟩ := HKS.out (fun e => by simp only [ET.kids] at e; rw [e] at hk; simp at hk)
      obtain ⟨kv, hkc, hkat⟩ := hats.get hk
      obtain ⟨a', c', rfl⟩ := hkat.slice
      have hbw : Below w.heap.size w wr := HB1.out.trans (HBR.out.mono HB1.out.size)
      obtain ⟨k0, k1, k2, k3, k4, k5, k6⟩ := hkc.below hbw
      have hm := List.mem_of_getElem? hk
      have hct := IH.out k hm (deep + 1) _ wr (hkat.below hbw) (HF.out k hm) (HG.out.2 k hm) (HW.out k hm) (HK.out.below hbw)
      obtain ⟨T, eT⟩ : ∃ T, T = k.typ cols := ⟨_, rfl⟩
      rw [← eT] at hct
      unfold ET.agg at hct
      have HCT := Lib.hid hct
      have HKX := Lib.hid hk
      have HM := Lib.hid hm
      have ET' := Lib.hid eT
      clear hats hkc hkat hbw hct hk hm eT
      go_wp2_with fail
      refine HCT.out.mono ?_
      rintro ev w2 ⟨rfl, hb2⟩
      have HB2 : Hid (Below w1.heap.size w1 w2) := HBR.out.trans (hb2.mono HBR.out.size)
      have HR2 := Lib.hid (Below.ownsRow' hb2 HROW.out)
      clear k0 k1 k2 k3 k4 k5 k6 hb2 HCT d0 d1
      rcases T with _ | t
      · have hR : R = none := by rw [ER.out, typs_none HM.out ET'.out.symm]
        subst hR
        unfold tyV
        go_wp2
        go_ret2
        exact ⟨by first | rfl | simp [tyV], HB1.out.trans (HB2.out.mono HB1.out.size)⟩
      · unfold tyV
        have hs2 : w1.heap.size ≤ (w2.alloc (.cells #[.int .u8 t] 23)).heap.size := by rw [World.size_alloc]; have := HB2.out.size; omega
        go_wp2_with (at_builtin; go_must (refine wpList_append_own _ rfl _ _ 76 rfl w1.heap.size 23 i0 _ 1 1 Tryz.underlying76 hi0 hz0 hz1 hz2 rfl (by decide) (.slice ra i rc) i (ts.map kcell) rfl (HR2.out.alloc _) ⟨w2.heap.size, 0, none⟩ 1 1 [.int .u8 t] rfl rfl (World.news_of_block (heap_alloc_new _ _)) (fun u hu => by simp at hu; subst hu; rfl) (by unfold maxLen; omega) (by omega) hs2 ?_))
        intro v3 w3 hown3 hgrow3 _
        have HB3 := Lib.hid ((HB2.out.alloc (o := .cells #[.int .u8 t] 23) HB2.out.size).grown hgrow3 hs2 (fun g hg => (HR2.out.lt g hg).1))
        have HO3 : Hid (KRow w1.heap.size w3 v3 (ts ++ [t])) := by
          unfold KRow
          rw [List.length_append, HTL.out, List.map_append]
          exact Lib.hid hown3
        clear hown3 hgrow3 hs2
        go_wp2
        go_roundg (K - (i + 1))
        case measure => omega
        case rel =>
          refine ⟨i + 1, ts ++ [t], by omega, rfl, by go_num, by rw [List.length_append, HTL.out]; rfl, HO3.out, ?_, HB3.out⟩
          rw [List.take_succ_eq_append_getElem (by exact (List.getElem?_eq_some_iff.1 HKX.out).1), (List.getElem?_eq_some_iff.1 HKX.out).2, typs_snoc HTS.out, ← ET'.out]
    · obtain rfl : i = K := by omega
      have hts := HTS.out
      rw [List.take_of_length_le (by rw [EK.out]; exact Nat.le_refl _)] at hts
      have hR := ER.out
      rw [hts] at hR
      have hrg := typs_range HF.out hts
      have HRG := Lib.hid hrg
      have HR := Lib.hid hR
      obtain ⟨w3, rfl⟩ : ∃ w3, w3 = wr := ⟨_, rfl⟩
      have HBW := Lib.hid (HB1.out.trans (HBR.out.mono HB1.out.size))
      have hat : ∀ (W : World) (j : Nat) t, Below w3.heap.size w3 W → ts[j]? = some t → ∃ g, ra = some ⟨g, 0, none⟩ ∧ W.cell? ⟨g, j, none⟩ = some (.int .u8 t) := fun W j t hb ht => by
        have hl := (List.getElem?_eq_some_iff.1 ht).1
        obtain ⟨g, cap, hgv, -, -⟩ := HROW.out.form (by have := HTL.out; omega)
        cases hgv
        exact ⟨g, rfl, cell_keep hb ((ownsRow_heap HROW.out).2.2.2 j _ (by rw [List.getElem?_map, ht]; rfl))⟩
      have HAT := Lib.hid hat
      clear hts hR hrg hat HTS ER
      by_cases o20 : o = 20
      · subst o20
        have hR : R = some 2 := by rw [HR.out]; rfl
        subst hR
        go_wp2_with fail
        go_ret2
        exact ⟨by first | rfl | simp [tyV], HBW.out⟩
      by_cases o21 : o = 21
      · subst o21
        have hodd : 2 < i ∧ i % 2 = 1 := by
          have h := HKID.out
          unfold kidsOk at h
          rw [if_neg (by decide), if_neg (by decide), if_pos rfl] at h
          simpa using h
        have hRc : R = caseF 1 ts := by rw [HR.out]; exact rest_case (by rw [HTL.out]; exact hodd.2)
        have HRC := Lib.hid hRc
        have HODD := Lib.hid hodd
        clear hRc HR hodd
        go_wp2_with fail
        go_loopg [13, 14] i (fun g s13 s14 wx => ∃ (j : Nat) (k : Int), j ≤ i ∧ g = i - j ∧ s14 = .int .i64 j ∧ s13 = .int .u8 k ∧ (0 ≤ k ∧ k ≤ 255) ∧ Hid ((j % 2 = 0 → R = caseF k (ts.drop j)) ∧ (j % 2 = 1 → R = caseO k (ts.drop j))) ∧ Below w3.heap.size w3 wx)
        case atStart => exact ⟨0, 1, Nat.zero_le _, rfl, rfl, rfl, by decide, Lib.hid ⟨fun _ => HRC.out, fun h => by omega⟩, Below.refl _ _⟩
        case round =>
          obtain ⟨j, k, hj, hgj, rfl, rfl, hkr, HA, hbx⟩ := hrel
          have HBX := Lib.hid hbx
          have d0x := cell_keep hbx d0
          clear hbx
          by_cases hlj : j < i
          · obtain ⟨t, ht⟩ : ∃ t, ts[j]? = some t := ⟨ts[j]'(by rw [HTL.out]; exact hlj), List.getElem?_eq_getElem _⟩
            obtain ⟨g, rfl, ct⟩ := HAT.out wr j t HBX.out ht
            have hr := HRG.out t (List.mem_of_getElem? ht)
            have hdrop : ts.drop j = t :: ts.drop (j + 1) := by
              obtain ⟨hl, h⟩ := List.getElem?_eq_some_iff.1 ht
              rw [List.drop_eq_getElem_cons hl, h]
            have hlast : j + 1 = i → ts.drop (j + 1) = [] := fun h => List.drop_eq_nil_of_le (by rw [HTL.out]; omega)
            have hmore : j + 1 < i → ∃ v rest, ts.drop (j + 1) = v :: rest := fun h => ⟨ts[j + 1]'(by rw [HTL.out]; exact h), ts.drop (j + 2), List.drop_eq_getElem_cons _⟩
            have HDR := Lib.hid hdrop
            have HLAST := Lib.hid hlast
            have HMORE := Lib.hid hmore
            have HRR := Lib.hid hr
            have HC1 := Lib.hid (both_103 k t wr hkr hr)
            have HC2 := Lib.hid (both_103 2 t wr (by decide) hr)
            have hi63 : (i : Int) ≤ 140737488355328 := by omega
            clear ht hdrop hlast hmore hr
            rcases (show (j % 2 = 0 ∧ j + 1 < i) ∨ (j % 2 = 0 ∧ j + 1 = i) ∨ j % 2 = 1 by omega) with ⟨hp, hq⟩ | ⟨hp, hq⟩ | hp
            · -- a condition
              have m1 : (j : Int) % 2 = 0 := by omega
              have m2 : Int.tmod (j : Int) 2 = 0 := by rw [Int.tmod_eq_emod_of_nonneg (by omega)]; exact m1
              have m3 : (j : Int) < (i : Int) - 1 := by omega
              have HP := Lib.hid hp
              have HQ := Lib.hid hq
              clear hp hq
              go_wp2_with fail
              refine HC2.out.mono ?_
              rintro ev w4 ⟨rfl, hb4⟩
              have HB4 := Lib.hid (HBX.out.trans (hb4.mono HBX.out.size))
              clear hb4 HC1 HC2 ct
              obtain ⟨F, eF⟩ : ∃ F, F = fitsT 2 t := ⟨_, rfl⟩
              have hbv : bothV 2 t = fitV 2 F := by rw [eF]; rfl
              rw [hbv]
              have EF := Lib.hid eF
              clear hbv eF
              rcases F with _ | k'
              all_goals simp only [fitV]
              · have hR : R = none := by
                  obtain ⟨v, rest, h⟩ := HMORE.out HQ.out
                  rw [HA.out.1 HP.out, HDR.out, h]
                  simp only [caseF]
                  rw [← EF.out]
                subst hR
                go_wp2_with fail
                go_ret2
                exact ⟨by first | rfl | simp [tyV], HBW.out.trans (HB4.out.mono HBW.out.size)⟩
              · go_wp2_with fail
                go_roundg (i - (j + 1))
                case measure => omega
                case rel =>
                  refine ⟨j + 1, k, by omega, rfl, by go_num, rfl, hkr, Lib.hid ⟨fun h => by have := HP.out; omega, fun _ => ?_⟩, HB4.out⟩
                  obtain ⟨v, rest, h⟩ := HMORE.out HQ.out
                  rw [HA.out.1 HP.out, HDR.out, h]
                  simp only [caseF, caseO]
                  rw [← EF.out]
            · -- the last one
              have m1 : (j : Int) % 2 = 0 := by omega
              have m2 : Int.tmod (j : Int) 2 = 0 := by rw [Int.tmod_eq_emod_of_nonneg (by omega)]; exact m1
              have m3 : ¬ ((j : Int) < (i : Int) - 1) := by omega
              have HP := Lib.hid hp
              have HQ := Lib.hid hq
              clear hp hq
              go_wp2_with fail
              refine HC1.out.mono ?_
              rintro ev w4 ⟨rfl, hb4⟩
              have HB4 := Lib.hid (HBX.out.trans (hb4.mono HBX.out.size))
              clear hb4 HC1 HC2 ct
              obtain ⟨F, eF⟩ : ∃ F, F = fitsT k t := ⟨_, rfl⟩
              have hbv : bothV k t = fitV k F := by rw [eF]; rfl
              rw [hbv]
              have EF := Lib.hid eF
              clear hbv eF
              rcases F with _ | k'
              all_goals simp only [fitV]
              · have hR : R = none := by
                  rw [HA.out.1 HP.out, HDR.out, HLAST.out HQ.out]
                  simp only [caseF]
                  exact EF.out.symm
                subst hR
                go_wp2_with fail
                go_ret2
                exact ⟨by first | rfl | simp [tyV], HBW.out.trans (HB4.out.mono HBW.out.size)⟩
              · have hk' := fitsT_range EF.out.symm hkr HRR.out
                go_wp2_with fail
                go_roundg (i - (j + 1))
                case measure => omega
                case rel =>
                  refine ⟨j + 1, k', by omega, rfl, by go_num, rfl, hk', Lib.hid ⟨fun h => by have := HP.out; omega, fun _ => ?_⟩, HB4.out⟩
                  rw [HA.out.1 HP.out, HDR.out, HLAST.out HQ.out]
                  simp only [caseF, caseO]
                  exact EF.out.symm
            · have m1 : (j : Int) % 2 = 1 := by omega
              have m2 : Int.tmod (j : Int) 2 = 1 := by rw [Int.tmod_eq_emod_of_nonneg (by omega)]; exact m1
              have HP := Lib.hid hp
              clear hp
              go_wp2_with fail
              refine HC1.out.mono ?_
              rintro ev w4 ⟨rfl, hb4⟩
              have HB4 := Lib.hid (HBX.out.trans (hb4.mono HBX.out.size))
              clear hb4 HC1 HC2 ct
              obtain ⟨F, eF⟩ : ∃ F, F = fitsT k t := ⟨_, rfl⟩
              have hbv : bothV k t = fitV k F := by rw [eF]; rfl
              rw [hbv]
              have EF := Lib.hid eF
              clear hbv eF
              rcases F with _ | k'
              all_goals simp only [fitV]
              · have hR : R = none := by
                  rw [HA.out.2 HP.out, HDR.out]
                  simp only [caseO]
                  rw [← EF.out]
                subst hR
                go_wp2_with fail
                go_ret2
                exact ⟨by first | rfl | simp [tyV], HBW.out.trans (HB4.out.mono HBW.out.size)⟩
              · have hk' := fitsT_range EF.out.symm hkr HRR.out
                go_wp2_with fail
                go_roundg (i - (j + 1))
                case measure => omega
                case rel =>
                  refine ⟨j + 1, k', by omega, rfl, by go_num, rfl, hk', Lib.hid ⟨fun _ => ?_, fun h => by have := HP.out; omega⟩, HB4.out⟩
                  rw [HA.out.2 HP.out, HDR.out]
                  simp only [caseO]
                  rw [← EF.out]
          · obtain rfl : j = i := by omega
            have hR : R = some k := by
              rw [HA.out.2 HODD.out.2, List.drop_eq_nil_of_le (by rw [HTL.out]; exact Nat.le_refl _)]
              rfl
            subst hR
            go_wp2_with fail
            go_ret2
            exact ⟨by first | rfl | simp [tyV], HBW.out.trans (HBX.out.mono HBW.out.size)⟩
      have hoo : o = 3 ∨ o = 4 ∨ o = 5 ∨ o = 6 ∨ o = 7 ∨ o = 8 ∨ o = 9 ∨ o = 10 ∨ o = 11 ∨ o = 12 ∨ o = 13 ∨ o = 14 ∨ o = 15 ∨ o = 16 ∨ o = 17 ∨ o = 18 ∨ o = 19 ∨ o = 22 := by omega
      have O20 := Lib.hid o20
      have O21 := Lib.hid o21
      obtain ⟨A, eA⟩ : ∃ A, A = asksT o := ⟨_, rfl⟩
      have EA := Lib.hid eA
      clear o20 o21 eA
      rcases hoo with rfl | rfl | rfl | rfl | rfl | rfl | rfl | rfl | rfl | rfl | rfl | rfl | rfl | rfl | rfl | rfl | rfl | rfl
      all_goals
        go_wp2_with fail
        go_loopg [16, 17] i (fun g s16 s17 wx => ∃ (j : Nat) (k : Int), j ≤ i ∧ g = i - j ∧ s17 = .int .i64 j ∧ s16 = .int .u8 k ∧ (0 ≤ k ∧ k ≤ 255) ∧ Hid (allT A ts = allT k (ts.drop j)) ∧ Below w3.heap.size w3 wx)
        case atStart => exact ⟨0, _, Nat.zero_le _, rfl, rfl, rfl, by decide, Lib.hid (by rw [EA.out]; rfl), Below.refl _ _⟩
        case round =>
          obtain ⟨j, k, hj, hgj, rfl, rfl, hkr, HA, hbx⟩ := hrel
          have HBX := Lib.hid hbx
          have d0x := cell_keep hbx d0
          clear hbx
          by_cases hlj : j < i
          · obtain ⟨t, ht⟩ : ∃ t, ts[j]? = some t := ⟨ts[j]'(by rw [HTL.out]; exact hlj), List.getElem?_eq_getElem _⟩
            obtain ⟨g, rfl, ct⟩ := HAT.out wr j t HBX.out ht
            have hr := HRG.out t (List.mem_of_getElem? ht)
            have hcall := both_103 k t wr hkr hr
            have hdrop := allT_drop (k := k) ht
            have HDR := Lib.hid hdrop
            have HCALL := Lib.hid hcall
            have HRR := Lib.hid hr
            clear ht hcall hdrop hr
            go_wp2_with fail
            refine HCALL.out.mono ?_
            rintro ev w4 ⟨rfl, hb4⟩
            have HB4 := Lib.hid (HBX.out.trans (hb4.mono HBX.out.size))
            clear hb4 HCALL ct
            obtain ⟨F, eF⟩ : ∃ F, F = fitsT k t := ⟨_, rfl⟩
            have hbv : bothV k t = fitV k F := by rw [eF]; rfl
            rw [hbv]
            have EF := Lib.hid eF
            clear hbv eF
            rcases F with _ | k'
            all_goals simp only [fitV]
            · have hR : R = none := by
                rw [HR.out]
                refine rest_none O20.out O21.out ?_
                rw [← EA.out, HA.out, HDR.out, ← EF.out]
              subst hR
              go_wp2_with fail
              go_ret2
              exact ⟨by first | rfl | simp [tyV], HBW.out.trans (HB4.out.mono HBW.out.size)⟩
            · have hk' := fitsT_range EF.out.symm hkr HRR.out
              go_wp2_with fail
              go_roundg (i - (j + 1))
              case measure => omega
              case rel =>
                refine ⟨j + 1, k', by omega, rfl, by go_num, rfl, hk', Lib.hid ?_, HB4.out⟩
                rw [HA.out, HDR.out, ← EF.out]
          · obtain rfl : j = i := by omega
            have hR : R = _ := HR.out.trans (rest_some O20.out O21.out ((congrArg (fun x => allT x ts) EA.out.symm).trans (HA.out.trans (by rw [List.drop_eq_nil_of_le (by rw [HTL.out]; exact Nat.le_refl _)]; rfl))))
            subst hR
            go_wp2_with fail
            go_ret2
            exact ⟨by first | rfl | simp [tyV, givesT], HBW.out.trans (HBX.out.mono HBW.out.size)⟩
set_option maxRecDepth 100000 in
set_option maxHeartbeats 800000 in
theorem tv_col (cols : List Int) (vc : Value) (hcr : ∀ x ∈ cols, 0 ≤ x ∧ x ≤ 255) (c : Int) (d : Dat) (ks : List ET) : TvOK cols vc (.mk 1 c d ks) := by
  intro deep kv w hat hfit hg hw hk
  obtain ⟨a, cc, rfl, -, -⟩ := ET.On.iff.1 hat
  simp only [ET.good, Bool.and_eq_true, decide_eq_true_eq, ET.goods_iff] at hg
  simp only [ET.within, Bool.and_eq_true, ET.withins_iff, Bool.not_eq_true', Bool.and_eq_false_iff, decide_eq_false_iff_not] at hw
  have hc0 := own_col_nn hg.1.1
  have hc1 : c < cols.length := by
    rcases hw.1 with h | h
    · exact absurd trivial h
    · omega
  obtain ⟨x, hx⟩ : ∃ x, cols[c.toNat]? = some x := ⟨cols[c.toNat]'(by omega), List.getElem?_eq_getElem _⟩
  obtain ⟨va, vcc, rfl, -, hcs⟩ := hk
  obtain ⟨b, o, rfl, hqs⟩ := hcs (fun e => by rw [e] at hx; simp at hx)
  have q0 := hqs _ _ hx
  have xl : b < w.heap.size := World.block_lt_of_cell? w _ q0
  have q0 := fun (A : Obj) => cell_keep (one_below w A) q0
  have xc : (c.toNat : Int) = c := by omega
  have hd : cols.getD c.toNat 0 = x := by rw [List.getD_eq_getElem?_getD, hx]; rfl
  have ht : (ET.mk 1 c d ks).typ cols = some (if 2 ≤ x ∧ x ≤ 4 then x else 1) := by
    simp only [ET.typ, if_true]; rw [hd]
  obtain ⟨N, eN⟩ : ∃ N, N = cols.length := ⟨_, rfl⟩
  rw [ht]
  rw [← eN] at hc1 ⊢
  unfold ET.agg
  simp only [ET.op, ET.col, ET.lit, ET.kids]
  have hxr := hcr x (List.mem_of_getElem? hx)
  clear ht hd hcs hqs hx hg hw hfit hat eN
  by_cases h2 : 2 ≤ x
  · by_cases h4 : x ≤ 4
    · rw [if_pos ⟨h2, h4⟩]
      go_enter Tryz.func72, Tryz.ntmps72
      go_wp2_with fail
      go_ret2
      exact ⟨by first | rfl | simp [tyV], one_below _ _⟩
    · rw [if_neg (fun h => h4 h.2)]
      go_enter Tryz.func72, Tryz.ntmps72
      go_wp2_with fail
      go_ret2
      exact ⟨by first | rfl | simp [tyV], one_below _ _⟩
  · rw [if_neg (fun h => h2 h.1)]
    go_enter Tryz.func72, Tryz.ntmps72
    go_wp2_with fail
    go_ret2
    exact ⟨by first | rfl | simp [tyV], one_below _ _⟩


set_option maxRecDepth 100000 in
set_option maxHeartbeats 800000 in
theorem tv_lit (cols : List Int) (vc : Value) (c : Int) (d : Dat) (ks : List ET) : TvOK cols vc (.mk 2 c d ks) := by
  intro deep kv w hat hfit hg hw hk
  obtain ⟨a, cc, rfl, -, -⟩ := ET.On.iff.1 hat
  obtain ⟨va, vcc, rfl, -, -⟩ := hk
  have ht : (ET.mk 2 c d ks).typ cols = some d.kind := by simp [ET.typ]
  rw [ht]
  unfold ET.agg
  simp only [ET.op, ET.col, ET.lit, ET.kids]
  clear ht hg hw hfit hat
  go_enter Tryz.func72, Tryz.ntmps72
  go_wp2_with fail
  go_ret2
  exact ⟨by first | rfl | simp [tyV], one_below _ _⟩


set_option maxRecDepth 100000 in
set_option maxHeartbeats 800000 in
theorem tv_fail (cols : List Int) (vc : Value) (c : Int) (d : Dat) (ks : List ET) : TvOK cols vc (.mk 23 c d ks) := by
  intro deep kv w hat hfit hg hw hk
  obtain ⟨a, cc, rfl, -, -⟩ := ET.On.iff.1 hat
  obtain ⟨va, vcc, rfl, -, -⟩ := hk
  have ht : (ET.mk 23 c d ks).typ cols = some 1 := by simp [ET.typ]
  rw [ht]
  unfold ET.agg
  simp only [ET.op, ET.col, ET.lit, ET.kids]
  clear ht hg hw hfit hat
  go_enter Tryz.func72, Tryz.ntmps72
  go_wp2_with fail
  go_ret2
  exact ⟨by first | rfl | simp [tyV], one_below _ _⟩

theorem tv_all (cols : List Int) (vc : Value) (hcr : ∀ x ∈ cols, 0 ≤ x ∧ x ≤ 255) : ∀ e : ET, TvOK cols vc e := by
  refine ET.ind fun o c d ks ih => ?_
  by_cases h1 : o = 1
  · subst h1; exact tv_col cols vc hcr c d ks
  by_cases h2 : o = 2
  · subst h2; exact tv_lit cols vc c d ks
  by_cases h3 : o = 23
  · subst h3; exact tv_fail cols vc c d ks
  by_cases h4 : 3 ≤ o ∧ o ≤ 22
  · exact tv_op cols vc o c d ks ih h4
  · intro deep kv w hat hfit hg
    exfalso
    simp only [ET.good, Bool.and_eq_true] at hg
    have h := own_kids hg.1.1
    simp only [kidsOk] at h
    rw [if_neg (by omega), if_neg (by omega), if_neg (by omega), if_neg (by omega)] at h
    simp only [Bool.and_eq_true, decide_eq_true_eq] at h
    omega


set_option maxRecDepth 100000 in
set_option maxHeartbeats 2000000 in
theorem rtype_32 (cols : List Int) (e : ET) (a : Option Addr) (cc : Nat) (va : Option Addr) (vcc : Nat) (w : World) (hfit : e.fits) (hat : e.At w (.slice a e.kids.length cc)) (hk : KindsOn w cols (.slice va cols.length vcc)) (hcr : ∀ x ∈ cols, 0 ≤ x ∧ x ≤ 255) :
    Calls Tryz.prog 32 #[e.agg (.slice a e.kids.length cc), .slice va cols.length vcc] w fun ev w' => ev = .returned (.tuple #[.int .u8 (typeC cols e).1, .int .i64 (typeC cols e).2]) ∧ Below w.heap.size w w' := by
  have h33 := fun (W : World) (hb : Below w.heap.size w W) => check_33 e a _ cc W (hat.below hb) hfit
  have h44 := fun (W : World) (hb : Below w.heap.size w W) => within_44 e _ cols.length W (hat.below hb) hfit
  have h72 := fun (hm : e.may okD = true) (hwi : e.within cols.length = true) (W : World) (hb : Below w.heap.size w W) => tv_all cols (.slice va cols.length vcc) hcr e 1 _ W (hat.below hb) hfit (ET.may_good hm) hwi (hk.below hb)
  obtain ⟨M, eM⟩ : ∃ M, M = e.may okD := ⟨_, rfl⟩
  obtain ⟨I, eI⟩ : ∃ I, I = e.within cols.length := ⟨_, rfl⟩
  obtain ⟨T, eT⟩ : ∃ T, T = e.typ cols := ⟨_, rfl⟩
  obtain ⟨Q, eQ⟩ : ∃ Q, Q = typeC cols e := ⟨_, rfl⟩
  have hq1 : M = false → Q = (0, 30) := fun h => by
    rw [eQ]; unfold typeC
    rw [if_neg (fun h2 => by rw [← eM, h] at h2; exact absurd h2.1 (by decide))]
  have hq2 : I = false → Q = (0, 30) := fun h => by
    rw [eQ]; unfold typeC
    rw [if_neg (fun h2 => by rw [← eI, h] at h2; exact absurd h2.2 (by decide))]
  have hq3 : M = true → I = true → T = none → Q = (0, 31) := fun h1 h2 h3 => by
    rw [eQ]; unfold typeC
    rw [if_pos ⟨by rw [← eM]; exact h1, by rw [← eI]; exact h2⟩, ← eT, h3]
  have hq4 : M = true → I = true → ∀ k, T = some k → Q = (k, 0) := fun h1 h2 k h3 => by
    rw [eQ]; unfold typeC
    rw [if_pos ⟨by rw [← eM]; exact h1, by rw [← eI]; exact h2⟩, ← eT, h3]
  rw [← eQ]
  have HQ1 := Lib.hid hq1
  have HQ2 := Lib.hid hq2
  have HQ3 := Lib.hid hq3
  have HQ4 := Lib.hid hq4
  clear hq1 hq2 hq3 hq4 eQ
  rw [← eM] at h33 h72
  rw [← eI] at h44 h72
  rw [← eT] at h72
  unfold ET.agg at h33 h44 h72
  have H33 := Lib.hid h33
  have H44 := Lib.hid h44
  have H72 := Lib.hid h72
  clear h33 h44 h72 hat hk hfit hcr eM eI eT
  unfold ET.agg
  obtain ⟨N, eN⟩ : ∃ N, N = cols.length := ⟨_, rfl⟩
  rw [← eN] at H44 H72 ⊢
  clear eN
  go_enter Tryz.func32, Tryz.ntmps32
  go_wp2_with fail
  refine (H33.out _ (one_below _ _)).mono ?_
  rintro ev w1 ⟨rfl, hb1⟩
  have k1 := one_at hb1
  have y0 := cell_of_heap (o := 0) k1 rfl
  have y1 := cell_of_heap (o := 1) k1 rfl
  have y2 := cell_of_heap (o := 2) k1 rfl
  have y3 := cell_of_heap (o := 3) k1 rfl
  have y4 := cell_of_heap (o := 4) k1 rfl
  have y5 := cell_of_heap (o := 5) k1 rfl
  have y6 := cell_of_heap (o := 6) k1 rfl
  have HB1 := Lib.hid ((one_below _ _).trans (hb1.mono (by simp)))
  have K1 := Lib.hid k1
  clear hb1 k1 H33
  cases M
  · obtain rfl := HQ1.out rfl
    go_wp2_with fail
    go_ret2
    exact ⟨rfl, HB1.out⟩
  · go_wp2_with fail
    refine (H44.out _ HB1.out).mono ?_
    rintro ev w2 ⟨rfl, hb2⟩
    have k2 := (hb2.block _ (lt_of_heap K1.out)).trans K1.out
    have HB2 := Lib.hid (HB1.out.trans (hb2.mono HB1.out.size))
    clear y0 y1 y2 y3 y4 y5 y6 hb2
    have y0 := cell_of_heap (o := 0) k2 rfl
    have y1 := cell_of_heap (o := 1) k2 rfl
    have y2 := cell_of_heap (o := 2) k2 rfl
    have y3 := cell_of_heap (o := 3) k2 rfl
    have y4 := cell_of_heap (o := 4) k2 rfl
    have y5 := cell_of_heap (o := 5) k2 rfl
    have y6 := cell_of_heap (o := 6) k2 rfl
    clear k2
    cases I
    · obtain rfl := HQ2.out rfl
      go_wp2_with fail
      go_ret2
      exact ⟨rfl, HB2.out⟩
    · go_wp2_with fail
      refine (H72.out (by first | rfl | trivial) (by first | rfl | trivial) _ HB2.out).mono ?_
      rintro ev w3 ⟨rfl, hb3⟩
      have HB3 := Lib.hid (HB2.out.trans (hb3.mono HB2.out.size))
      clear y0 y1 y2 y3 y4 y5 y6 hb3
      rcases T with _ | k
      · obtain rfl := HQ3.out (by first | rfl | trivial) (by first | rfl | trivial) (by first | rfl | trivial)
        simp only [tyV]
        go_wp2_with fail
        go_ret2
        exact ⟨rfl, HB3.out⟩
      · obtain rfl := HQ4.out (by first | rfl | trivial) (by first | rfl | trivial) k (by first | rfl | trivial)
        simp only [tyV]
        go_wp2_with fail
        go_ret2
        exact ⟨rfl, HB3.out⟩
end Go.Proofs.YtolikaginhjbhaaGreatDoor
