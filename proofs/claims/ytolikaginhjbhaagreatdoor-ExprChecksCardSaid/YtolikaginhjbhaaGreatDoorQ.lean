import Derived.Test.YtolikaginhjbhaaGreatDoorP
/- The reference's turned. -/
namespace Go.Proofs.YtolikaginhjbhaaGreatDoor
open Go.RowKit Go.Pen
attribute [local go_sem ↓] Go.wp_at_zero Go.wp_at_succ

mutual
/-- are all new columns numbers of columns? -/
def ET.tok (cols : List Int) : ET → Bool
  | .mk o c _ ks => (!decide (o = 1) || (decide (0 ≤ cols.getD c.toNat 0) && decide (cols.getD c.toNat 0 ≤ 9999))) && ET.toks cols ks
def ET.toks (cols : List Int) : List ET → Bool
  | [] => true
  | k :: ks => k.tok cols && ET.toks cols ks
end
theorem ET.toks_iff (cols : List Int) : ∀ ks : List ET, ET.toks cols ks = true ↔ ∀ k ∈ ks, k.tok cols = true
  | [] => by simp [ET.toks]
  | k :: ks => by simp [ET.toks, ET.toks_iff cols ks]
theorem ET.toks_take {cols : List Int} {ks : List ET} {i : Nat} {k : ET} (hk : ks[i]? = some k) (h : ET.toks cols (ks.take i) = true) (hg : k.tok cols = true) : ET.toks cols (ks.take (i + 1)) = true := by
  rw [ET.toks_iff] at h ⊢
  intro x hx
  rw [List.take_succ_eq_append_getElem (by exact (List.getElem?_eq_some_iff.1 hk).1)] at hx
  rcases List.mem_append.1 hx with hx | hx
  · exact h x hx
  · simp at hx
    rw [(List.getElem?_eq_some_iff.1 hk).2] at hx
    subst hx; exact hg
theorem tok_kid {o c : Int} {d : Dat} {ks : List ET} {cols : List Int} {k : ET} {i : Nat} (hk : ks[i]? = some k) (h : k.tok cols = false) : (ET.mk o c d ks).tok cols = false := by
  cases hw : (ET.mk o c d ks).tok cols
  · rfl
  · simp only [ET.tok, Bool.and_eq_true, ET.toks_iff] at hw
    rw [hw.2 k (List.mem_of_getElem? hk)] at h
    cases h
theorem tok_all {o c : Int} {d : Dat} {ks : List ET} {cols : List Int} (h : ¬ o = 1) (hk : ET.toks cols ks = true) : (ET.mk o c d ks).tok cols = true := by
  simp [ET.tok, h, hk]

/-- so many have come -/
def LRow (ks : List ET) (base k : Nat) (v : Value) (wr : World) : Prop :=
  ∃ xs, wr.ownsRow base 27 7 v k xs ∧ (∀ (j : Nat) x, j < k → ks[j]? = some x → ∃ lo hi, base ≤ lo ∧ hi ≤ wr.heap.size ∧ (∀ g, v.ownBlock = some g → g < lo ∨ hi ≤ g) ∧ ElOn (Btw lo hi) wr xs j x)

theorem lrow_step {ks : List ET} {base : Nat} {wr w3 w4 w5 : World} {k : Nat} {v v' kv : Value} {x : ET} {xs : List Value} (sb : base ≤ wr.heap.size) (hown : wr.ownsRow base 27 7 v k xs)
    (hel : ∀ (j : Nat) x, j < k → ks[j]? = some x → ∃ lo hi, base ≤ lo ∧ hi ≤ wr.heap.size ∧ (∀ g, v.ownBlock = some g → g < lo ∨ hi ≤ g) ∧ ElOn (Btw lo hi) wr xs j x) (hx : ks[k]? = some x)
    (h3 : Below wr.heap.size wr w3) (hat : x.On (Btw wr.heap.size w3.heap.size) w3 kv) (h4 : Below w3.heap.size w3 w4) (h5 : w5.ownsRow base 27 7 v' (k + 1) (xs ++ x.cells kv)) (hg : w4.grownBy w5 v.ownBlock) (hv' : ∀ g, v'.ownBlock = some g → v.ownBlock = some g ∨ w4.heap.size ≤ g) : LRow ks base (k + 1) v' w5 := by
  have s3 := h3.size
  have s4 := h4.size
  have s5 := hg.size
  have keep : ∀ {S : Nat → Prop} {e : ET} {u : Value} {W : World}, e.On S W u → Below W.heap.size W w4 → (∀ g, S g → v.ownBlock ≠ some g) → e.On S w5 u := fun {S e u W} ho hbl hne => by
    refine (ho.below hbl).frame fun g hS hgl => hg.block g hgl fun e => hne g hS e.symm
  refine ⟨_, h5, fun j y hj hy => ?_⟩
  have hl := hown.1
  by_cases e : j < k
  · obtain ⟨lo, hi, q1, q2, q3, kv', h1, h2⟩ := hel j y e hy
    refine ⟨lo, hi, q1, by omega, fun g hgv => ?_, kv', fun t z hz => ?_, keep h2 (h3.trans (h4.mono s3)) fun g hS hgv => ?_⟩
    · rcases hv' g hgv with h | h
      · exact q3 g h
      · right; omega
    · have ht := (List.getElem?_eq_some_iff.1 hz).1
      simp only [ET.cells, List.length_cons, List.length_nil] at ht
      rw [List.getElem?_append_left (by omega)]
      exact h1 t z hz
    · have := q3 g hgv
      have := hS.1
      have := hS.2
      omega
  · obtain rfl : j = k := by omega
    rw [hx] at hy; cases hy
    refine ⟨wr.heap.size, w3.heap.size, sb, by omega, fun g hgv => ?_, kv, fun t z hz => ?_, keep hat h4 fun g hS hgv => ?_⟩
    · rcases hv' g hgv with h | h
      · left; exact (hown.lt g h).2
      · right; omega
    · rw [List.getElem?_append_right (by omega), show j * 7 + t - xs.length = t by omega]
      exact hz
    · have := (hown.lt g hgv).2
      have := hS.1
      omega

theorem lrow_set {ks : List ET} {base k b o : Nat} {v x : Value} {w : World} (h : LRow ks base k v w) (hb : b < base) : LRow ks base k v (w.setCell ⟨b, o, none⟩ x) := by
  obtain ⟨xs, hown, hel⟩ := h
  have hs : (w.setCell ⟨b, o, none⟩ x).heap.size = w.heap.size := by simp [World.setCell]
  refine ⟨xs, ownsRow_frame hown fun g hg => heap_set_ne (by have := (hown.lt g hg).1; omega), fun j y hj hy => ?_⟩
  obtain ⟨lo, hi, q1, q2, q3, kv, h1, h2⟩ := hel j y hj hy
  exact ⟨lo, hi, q1, by rw [hs]; exact q2, q3, kv, h1, h2.frame fun g hS _ => heap_set_ne (by have := hS.1; omega)⟩

theorem results_row_tmp {P : Program} {fn : Func} {p u : Tmp} {ty : TypeId} (h : fn.results = #[.cell p ty, .tmp u]) (tmps : Array Value) (w : World) (g : Nat) (t : TypeId) (cs : Array Value) (fr : Nat × Nat) (d : TypeDesc)
    (hp : tmps.getD p undef = .pointer (some ⟨g, 0, none⟩)) (hg : w.heap[g]? = some (.cells cs t fr))
    (hu : P.underlying ty = some d) (hd : (match d with | .struct _ | .array _ _ => true | _ => false) = true) (hi : (P.info? ty).map (·.size) = some cs.size) :
    (results fn tmps).run P w = .ok (.tuple #[.agg cs, tmps.getD u undef]) w := by
  have hp' : tmps[p]?.getD undef = .pointer (some ⟨g, 0, none⟩) := by simpa using hp
  simp [results, h, hp', asAddr, run_loadVar_row w g t ty cs fr d hg hu hd hi]

theorem on_nil (S : Nat → Prop) (w : World) (o c : Int) (d : Dat) : (ET.mk o c d []).On S w (.slice none 0 0) := ET.On.iff.2 ⟨none, 0, rfl, fun _ => rfl, fun h => absurd rfl h⟩

def T52 (cols : List Int) (e : ET) (w : World) (ev : Ending) (w' : World) : Prop :=
  Below w.heap.size w w' ∧ ∃ (x : ET) (sa : Option Addr) (sn sc : Nat), ev = .returned (.tuple #[x.agg (.slice sa sn sc), .bool (e.tok cols)]) ∧ (e.tok cols = true → x = e.turn cols ∧ (e.turn cols).On (Btw w.heap.size w'.heap.size) w' (.slice sa sn sc))

def Turned52 (cols : List Int) (e : ET) : Prop := e.size ≤ 12000 → ∀ (S : Nat → Prop) (kv vc : Value) (deep : Nat) (w : World), e.At w kv → IntsOn S w cols vc → e.fits → e.good okD deep = true → e.within cols.length = true →
  Calls Tryz.prog 52 #[e.agg kv, vc] w (T52 cols e w)

theorem three_below' (w : World) (a b c : Obj) : Below w.heap.size w (((w.alloc a).alloc b).alloc c) := three_below w a b c

set_option maxRecDepth 100000 in
set_option maxHeartbeats 4000000 in
theorem turned_52 (cols : List Int) : ∀ e : ET, Turned52 cols e := by
  refine ET.ind fun o c d ks ih hn S kv vc deep w hat hcols hfit hgood hwi => ?_
  obtain ⟨i0, hi0, hz0, hz1, hz2⟩ := info_parts info27
  simp only [ET.size] at hn
  obtain ⟨a, cc, rfl, -, hks⟩ := ET.On.iff.1 hat
  obtain ⟨va, vcc, rfl, -, hci⟩ := id hcols
  simp only [ET.kids] at hks
  simp only [ET.good, Bool.and_eq_true, decide_eq_true_eq, ET.goods_iff] at hgood
  obtain ⟨⟨hown, hdeep⟩, hgs⟩ := hgood
  simp only [ET.within, Bool.and_eq_true, ET.withins_iff] at hwi
  obtain ⟨hfar, hws⟩ := hwi
  simp only [ET.fits] at hfit
  obtain ⟨⟨ho0, ho1⟩, ⟨hc0, hc1⟩, -, -, hfs⟩ := hfit
  have hl := ET.sizes_len ks
  have HF := Lib.hid (ET.fitss_iff.1 hfs)
  have IH := Lib.hid ih
  have HGS := Lib.hid hgs
  have HWS := Lib.hid hws
  have HCOLS := Lib.hid hcols
  obtain ⟨K, eK⟩ : ∃ K, K = ks.length := ⟨_, rfl⟩
  rw [← eK] at hl
  have EK := Lib.hid eK
  have HN : Hid (ET.sizes ks ≤ 12000) := Lib.hid (by omega)
  have hK : K ≤ 12000 := by omega
  unfold ET.agg
  simp only [ET.op, ET.col, ET.lit, ET.kids]
  rw [← eK]
  clear ih eK hn hl hat hgs hws hfs hcols
  obtain ⟨H, eH⟩ : ∃ H, H = w.heap.size := ⟨_, rfl⟩
  have EH := Lib.hid eH
  clear eH
  by_cases o1 : o = 1
  · subst o1
    have hcn := own_col_nn hown
    have hk0 : K = 0 := by
      have h := (own_mk hown).1
      rw [← EK.out] at h
      simpa [kidsOk] using h
    have hks0 : ks = [] := List.length_eq_zero_iff.1 (by rw [← EK.out]; exact hk0)
    have hclt : c < cols.length := by
      simp at hfar
      exact hfar
    obtain ⟨cv, hcv⟩ : ∃ cv, cols[c.toNat]? = some cv := ⟨cols[c.toNat]'(by omega), List.getElem?_eq_getElem _⟩
    have hget : cols.getD c.toNat 0 = cv := by rw [List.getD_eq_getElem?_getD, hcv]; rfl
    obtain ⟨bc, oc, rfl, -, hcell⟩ := hci (fun h => by rw [h] at hclt; simp at hclt; omega)
    have x0 := hcell _ _ hcv
    have xc : (c.toNat : Int) = c := by omega
    have x1 := fun (A B C : Obj) => cell_keep (three_below w A B C) x0
    have xl : bc < w.heap.size := World.block_lt_of_cell? w _ x0
    have htok : (ET.mk 1 c d ks).tok cols = (decide (0 ≤ cv) && decide (cv ≤ 9999)) := by
      rw [hks0]
      simp only [ET.tok, ET.toks, hget]
      simp
    have hturn : (ET.mk 1 c d ks).turn cols = ET.mk 1 cv d [] := by
      rw [hks0]
      simp only [ET.turn, ET.turns, if_pos, hget]
    have HTOK := Lib.hid htok
    have HTURN := Lib.hid hturn
    clear hcell hget hcv hci hown hfar hks htok hturn hks0
    rcases (show cv < 0 ∨ (0 ≤ cv ∧ 9999 < cv) ∨ (0 ≤ cv ∧ cv ≤ 9999) by omega) with h | ⟨h, h'⟩ | ⟨h, h'⟩
    · have g1 : decide (0 ≤ cv) = false := decide_eq_false (by omega)
      go_enter Tryz.func52, Tryz.ntmps52
      go_wp2_with fail
      go_region
      go_wp2
      refine bodyPost_ret (results_row_tmp rfl _ _ (w.heap.size + 1) 27 _ (0, 0) _ rfl (three_at (Below.refl _ _)).2.1 Tryz.underlying27 rfl (by kernel_rfl)) rfl ?_
      refine ⟨below_drewN (n := 1) (three_below _ _ _ _), ET.mk 1 cv d [], none, 0, 0, by rw [HTOK.out, g1]; rfl, fun h => by rw [HTOK.out, g1] at h; cases h⟩
    · have g1 : decide (0 ≤ cv) = true := decide_eq_true h
      have g2 : decide (cv ≤ 9999) = false := decide_eq_false (by omega)
      go_enter Tryz.func52, Tryz.ntmps52
      go_wp2_with fail
      go_region
      go_wp2
      refine bodyPost_ret (results_row_tmp rfl _ _ (w.heap.size + 1) 27 _ (0, 0) _ rfl (three_at (Below.refl _ _)).2.1 Tryz.underlying27 rfl (by kernel_rfl)) rfl ?_
      refine ⟨below_drewN (n := 1) (three_below _ _ _ _), ET.mk 1 cv d [], none, 0, 0, by rw [HTOK.out, g1, g2]; rfl, fun h => by rw [HTOK.out, g1, g2] at h; cases h⟩
    · have g1 : decide (0 ≤ cv) = true := decide_eq_true h
      have g2 : decide (cv ≤ 9999) = true := decide_eq_true h'
      go_enter Tryz.func52, Tryz.ntmps52
      go_wp2_with fail
      go_region
      go_wp2
      refine bodyPost_ret (results_row_tmp rfl _ _ (w.heap.size + 1) 27 _ (0, 0) _ rfl (three_at (Below.refl _ _)).2.1 Tryz.underlying27 rfl (by kernel_rfl)) rfl ?_
      refine ⟨below_drewN (n := 1) (three_below _ _ _ _), ET.mk 1 cv d [], none, 0, 0, by rw [HTOK.out, g1, g2]; rfl, fun _ => ⟨HTURN.out.symm, by rw [HTURN.out]; exact on_nil _ _ _ _ _⟩⟩
  · have e1 : (o == 1) = false := by simpa using o1
    clear hci hown hfar
    have HKS := Lib.hid hks
    clear hks
    go_enter Tryz.func52, Tryz.ntmps52
    go_wp2_with fail
    obtain ⟨w2, hw2⟩ : ∃ w2, w2 = (w.alloc (.cells #[.int .u8 o, .slice a K cc, .int .i64 c, .int .u8 d.kind, .bool d.bool, .int .i64 d.int, .string d.text] 27)).alloc (.cells #[.int .u8 0, .slice none 0 0, .int .i64 0, .int .u8 0, .bool false, .int .i64 0, .string ⟨#[]⟩] 27) := ⟨_, rfl⟩
    obtain ⟨w1, hw1⟩ : ∃ w1, w1 = w2.alloc (.cells #[.int .u8 o, .slice none 0 0, .int .i64 c, .int .u8 d.kind, .bool d.bool, .int .i64 d.int, .string d.text] 27) := ⟨_, rfl⟩
    have hb2 : Below w.heap.size w w2 := by rw [hw2]; exact two_below _ _ _
    have hs2 : w2.heap.size = H + 2 := by rw [hw2, EH.out]; simp
    have hb1 : Below w2.heap.size w2 w1 := by rw [hw1]; exact one_below _ _
    have e0 : w2.heap[H]? = some (.cells #[.int .u8 o, .slice a K cc, .int .i64 c, .int .u8 d.kind, .bool d.bool, .int .i64 d.int, .string d.text] 27 (0, 0)) := by
      rw [hw2, EH.out, Below.heap_alloc _ _ _ (by simp)]; exact heap_alloc_new _ _
    have e1' : w2.heap[H + 1]? = some (.cells #[.int .u8 0, .slice none 0 0, .int .i64 0, .int .u8 0, .bool false, .int .i64 0, .string ⟨#[]⟩] 27 (0, 0)) := by
      rw [hw2, EH.out]
      have h := heap_alloc_new (w.alloc (.cells #[.int .u8 o, .slice a K cc, .int .i64 c, .int .u8 d.kind, .bool d.bool, .int .i64 d.int, .string d.text] 27)) (.cells #[.int .u8 0, .slice none 0 0, .int .i64 0, .int .u8 0, .bool false, .int .i64 0, .string ⟨#[]⟩] 27)
      rw [World.size_alloc] at h
      exact h
    have e2 : w1.heap[H + 2]? = some (.cells #[.int .u8 o, .slice none 0 0, .int .i64 c, .int .u8 d.kind, .bool d.bool, .int .i64 d.int, .string d.text] 27 (0, 0)) := by
      rw [hw1, ← hs2]; exact heap_alloc_new _ _
    have hs1 : w1.heap.size = H + 3 := by rw [hw1]; simp [hs2]
    rw [← hw2, ← hw1, ← EH.out]
    have HB2 := Lib.hid hb2
    have HS2 := Lib.hid hs2
    have HB1 := Lib.hid hb1
    have E0 := Lib.hid e0
    have E1 := Lib.hid e1'
    have E2 := Lib.hid e2
    have HS1 := Lib.hid hs1
    clear hw1 hw2 hb2 hs2 hb1 e0 e1' e2 hs1
    obtain ⟨TS, eTS⟩ : ∃ TS, TS = ET.turns cols ks := ⟨_, rfl⟩
    have ETS := Lib.hid eTS
    clear eTS
    go_loopg [7, 8, 9] K (fun g s7 s8 s9 wr => ∃ (i : Nat) (sv : Value), i ≤ K ∧ g = K - i ∧ s7 = .int .i64 i ∧ LRow TS (H + 3) i sv wr ∧ ET.toks cols (ks.take i) = true ∧ wr.heap[H + 2]? = some (.cells #[.int .u8 o, sv, .int .i64 c, .int .u8 d.kind, .bool d.bool, .int .i64 d.int, .string d.text] 27 (0, 0)) ∧ Below w2.heap.size w2 wr ∧ H + 3 ≤ wr.heap.size)
    case atStart => exact ⟨0, .slice none 0 0, Nat.zero_le _, by omega, rfl, ⟨[], World.ownsRow_nil _ _ _ _, fun j x hj => by omega⟩, rfl, E2.out, HB1.out, by rw [HS1.out]; exact Nat.le_refl _⟩
    case round =>
      obtain ⟨i, sv, hi, rfl, rfl, hrl, htk, he2, hbr, hsz⟩ := hrel
      obtain ⟨sa, sc, rfl⟩ : ∃ a c, sv = .slice a i c := by
        obtain ⟨xs, hown, -⟩ := hrl
        exact ownsRow_slice hown
      have h0 := (hbr.block H (lt_of_heap E0.out)).trans E0.out
      have h1 := (hbr.block (H + 1) (lt_of_heap E1.out)).trans E1.out
      have c1 : wr.cell? ⟨H, 1, none⟩ = some (.slice a K cc) := cell_of_heap h0 rfl
      have HTK := Lib.hid htk
      have HE2 := Lib.hid he2
      have HBR := Lib.hid hbr
      have HH1 := Lib.hid h1
      have HRL := Lib.hid hrl
      clear htk he2 hbr h0 h1 hrl
      by_cases hlt : i < K
      · obtain ⟨k, hk⟩ : ∃ k, ks[i]? = some k := ⟨ks[i]'(by rw [← EK.out]; exact hlt), List.getElem?_eq_getElem _⟩
        obtain ⟨b, off, rfl, -, hats⟩ := HKS.out (fun e => by rw [e] at hk; simp at hk)
        obtain ⟨kv, hkc, hkat⟩ := hats.get hk
        obtain ⟨a', c', rfl⟩ := hkat.slice
        have hbww : Below w.heap.size w wr := HB2.out.trans (HBR.out.mono HB2.out.size)
        obtain ⟨k0, k1, k2, k3, k4, k5, k6⟩ := hkc.below hbww
        have hct := IH.out k (List.mem_of_getElem? hk) (Nat.le_trans (ET.sizes_mem (List.mem_of_getElem? hk)) HN.out) S _ _ (deep + 1) wr (hkat.below hbww) (HCOLS.out.below hbww) (HF.out k (List.mem_of_getElem? hk)) (HGS.out k (List.mem_of_getElem? hk)) (HWS.out k (List.mem_of_getElem? hk))
        unfold ET.agg at hct
        have HCT := Lib.hid hct
        have HK := Lib.hid hk
        clear hats hkc hkat hct hk hbww
        go_wp2_with fail
        refine HCT.out.mono ?_
        rintro ev w3 ⟨hb3, x, a3, n3, c3, rfl, hx⟩
        clear k0 k1 k2 k3 k4 k5 k6 c1 HCT
        have hE2 := (hb3.block (H + 2) (lt_of_heap HE2.out)).trans HE2.out
        have hE1 := (hb3.block (H + 1) (lt_of_heap HH1.out)).trans HH1.out
        have hsz3 := hb3.size
        have HE23 := Lib.hid hE2
        have HE13 := Lib.hid hE1
        have HB3 := Lib.hid hb3
        have HX := Lib.hid hx
        clear hE1 hE2 hb3 hx
        unfold ET.agg
        have keep : ∀ (A : Obj) {g : Nat} {y : Obj}, w3.heap[g]? = some y → (w3.alloc A).heap[g]? = some y := fun A g y h => (Below.heap_alloc _ _ _ (lt_of_heap h)).trans h
        cases htk : k.tok cols
        · have hbad := tok_kid (o := o) (c := c) (d := d) HK.out htk
          have HBAD := Lib.hid hbad
          clear htk hbad
          have z0 := fun A => cell_of_heap (o := 0) (keep A HE13.out) rfl
          have g0 := fun A => frozen_of_heap (o := 0) (keep A HE13.out)
          have z1 := fun A => cell_of_heap (o := 1) (keep A HE13.out) rfl
          have g1 := fun A => frozen_of_heap (o := 1) (keep A HE13.out)
          have z2 := fun A => cell_of_heap (o := 2) (keep A HE13.out) rfl
          have g2 := fun A => frozen_of_heap (o := 2) (keep A HE13.out)
          have z3 := fun A => cell_of_heap (o := 3) (keep A HE13.out) rfl
          have g3 := fun A => frozen_of_heap (o := 3) (keep A HE13.out)
          have z4 := fun A => cell_of_heap (o := 4) (keep A HE13.out) rfl
          have g4 := fun A => frozen_of_heap (o := 4) (keep A HE13.out)
          have z5 := fun A => cell_of_heap (o := 5) (keep A HE13.out) rfl
          have g5 := fun A => frozen_of_heap (o := 5) (keep A HE13.out)
          have z6 := fun A => cell_of_heap (o := 6) (keep A HE13.out) rfl
          have g6 := fun A => frozen_of_heap (o := 6) (keep A HE13.out)
          have KEEP := Lib.hid @keep
          clear keep
          go_wp2
          refine bodyPost_ret (results_row_tmp rfl _ _ (H + 1) 27 #[.int .u8 0, .slice none 0 0, .int .i64 0, .int .u8 0, .bool false, .int .i64 0, .string ⟨#[]⟩] (0, 0) _ rfl (by simpa using heap_set_same (o := 6) (v := .string ⟨#[]⟩) (heap_set_same (o := 5) (v := .int .i64 0) (heap_set_same (o := 4) (v := .bool false) (heap_set_same (o := 3) (v := .int .u8 0) (heap_set_same (o := 2) (v := .int .i64 0) (heap_set_same (o := 1) (v := .slice none 0 0) (heap_set_same (o := 0) (v := .int .u8 0) (KEEP.out _ HE13.out)))))))) Tryz.underlying27 rfl (by kernel_rfl)) rfl ?_
          have hl : w.heap.size ≤ H + 1 := by have := EH.out; omega
          have h0 : Below w.heap.size w w3 := HB2.out.trans ((HBR.out.mono HB2.out.size).trans (HB3.out.mono (Nat.le_trans HB2.out.size HBR.out.size)))
          refine ⟨(((((((h0.alloc h0.size _).setCell (p := ⟨H + 1, 0, none⟩) hl _).setCell (p := ⟨H + 1, 1, none⟩) hl _).setCell (p := ⟨H + 1, 2, none⟩) hl _).setCell (p := ⟨H + 1, 3, none⟩) hl _).setCell (p := ⟨H + 1, 4, none⟩) hl _).setCell (p := ⟨H + 1, 5, none⟩) hl _).setCell (p := ⟨H + 1, 6, none⟩) hl _, ET.mk 0 0 Dat.zero [], none, 0, 0, by rw [HBAD.out]; rfl, fun h => by rw [HBAD.out] at h; cases h⟩
        · obtain ⟨rfl, hon⟩ := HX.out htk
          have HTKK := Lib.hid htk
          obtain ⟨xs, hown, hel⟩ := HRL.out
          have b1 := fun A => cell_of_heap (o := 1) (keep A HE23.out) rfl
          have hn3 : n3 = (k.turn cols).kids.length := by
            obtain ⟨a9, c9, h9⟩ := hon.slice
            cases h9
            rfl
          subst hn3
          have HON := Lib.hid hon
          have HOW := Lib.hid hown
          have HEL := Lib.hid hel
          have KEEP := Lib.hid @keep
          clear hon hown hel HX htk HRL keep
          go_wp2_with (at_builtin; go_must (refine wpList_append_lies _ rfl _ _ 22 rfl (H + 3) 27 i0 _ 7 72 Tryz.underlying22 hi0 hz0 hz1 hz2 rfl (by decide) (.slice sa i sc) i xs rfl (((Below.ownsRow' HB3.out HOW.out).alloc _).alloc _) ⟨w3.heap.size + 1, 0, none⟩ 1 1 ((k.turn cols).cells (.slice a3 (k.turn cols).kids.length c3)) rfl rfl ?c1 ?c2 (by decide) ?c3 ?c4 ?c5 _ rfl ?_))
          case c1 =>
            intro j u hj
            rw [add_lit, Nat.zero_add]
            have h := heap_alloc_new (w3.alloc (.cells #[.int .u8 (k.turn cols).op, .slice a3 (k.turn cols).kids.length c3, .int .i64 (k.turn cols).col, .int .u8 (k.turn cols).lit.kind, .bool (k.turn cols).lit.bool, .int .i64 (k.turn cols).lit.int, .string (k.turn cols).lit.text] 27)) (.cells #[.int .u8 (k.turn cols).op, .slice a3 (k.turn cols).kids.length c3, .int .i64 (k.turn cols).col, .int .u8 (k.turn cols).lit.kind, .bool (k.turn cols).lit.bool, .int .i64 (k.turn cols).lit.int, .string (k.turn cols).lit.text] 27)
            rw [World.size_alloc] at h
            exact cell_of_heap h (by rw [List.getElem?_toArray]; exact hj)
          case c2 => intro u hu; simp [ET.cells] at hu; rcases hu with rfl | rfl | rfl | rfl | rfl | rfl | rfl <;> rfl
          case c3 => unfold maxLen; omega
          case c4 => omega
          case c5 => simp; omega
          intro g cap w5 hown5 hgrow hat5 _
          have hb5 := two_below w3 (.cells #[.int .u8 (k.turn cols).op, .slice a3 (k.turn cols).kids.length c3, .int .i64 (k.turn cols).col, .int .u8 (k.turn cols).lit.kind, .bool (k.turn cols).lit.bool, .int .i64 (k.turn cols).lit.int, .string (k.turn cols).lit.text] 27) (.cells #[.int .u8 (k.turn cols).op, .slice a3 (k.turn cols).kids.length c3, .int .i64 (k.turn cols).col, .int .u8 (k.turn cols).lit.kind, .bool (k.turn cols).lit.bool, .int .i64 (k.turn cols).lit.int, .string (k.turn cols).lit.text] 27)
          have hstep : LRow TS (H + 3) (i + 1) (.slice (some ⟨g, 0, none⟩) (i + 1) cap) w5 := by
            refine lrow_step hsz HOW.out HEL.out (by rw [ETS.out]; exact ET.turns_get HK.out) HB3.out HON.out hb5 hown5 hgrow fun g' hg' => ?_
            cases hg'
            rcases hat5 with h | h
            · exact .inl h
            · exact .inr (by rw [World.size_alloc, World.size_alloc]; exact Nat.le_of_eq h.symm)
          have h52 : w5.heap[H + 2]? = some (.cells #[.int .u8 o, .slice sa i sc, .int .i64 c, .int .u8 d.kind, .bool d.bool, .int .i64 d.int, .string d.text] 27 (0, 0)) :=
            (hgrow.block (H + 2) (by simp; omega) fun e => by have := (HOW.out.lt _ e.symm).1; omega).trans ((hb5.block _ (lt_of_heap HE23.out)).trans HE23.out)
          have hsz5 : H + 3 ≤ w5.heap.size := by have := hgrow.size; simp at this; omega
          have hB5 : Below w2.heap.size w2 w5 := by
            have hs := HS2.out
            have h9 : Below w2.heap.size w2 ((w3.alloc (.cells #[.int .u8 (k.turn cols).op, .slice a3 (k.turn cols).kids.length c3, .int .i64 (k.turn cols).col, .int .u8 (k.turn cols).lit.kind, .bool (k.turn cols).lit.bool, .int .i64 (k.turn cols).lit.int, .string (k.turn cols).lit.text] 27)).alloc (.cells #[.int .u8 (k.turn cols).op, .slice a3 (k.turn cols).kids.length c3, .int .i64 (k.turn cols).col, .int .u8 (k.turn cols).lit.kind, .bool (k.turn cols).lit.bool, .int .i64 (k.turn cols).lit.int, .string (k.turn cols).lit.text] 27)) := HBR.out.trans ((HB3.out.mono HBR.out.size).trans (hb5.mono (by have := HBR.out.size; omega)))
            exact h9.grown hgrow (by have := h9.size; omega) fun g' hg' => by have := (HOW.out.lt g' hg').1; omega
          have q1 : w5.cell? ⟨H + 2, 1, none⟩ = some (.slice sa i sc) := cell_of_heap h52 rfl
          have q2 : w5.frozen? ⟨H + 2, 1, none⟩ = false := frozen_of_heap h52
          have HS := Lib.hid hstep
          have H52 := Lib.hid h52
          have HB5 := Lib.hid hB5
          clear hstep hown5 hgrow hat5 b1 h52 hB5 hb5
          go_wp2
          go_roundg (K - (i + 1))
          case measure => omega
          case rel => exact ⟨i + 1, _, by omega, rfl, by go_num, lrow_set HS.out (by omega), ET.toks_take HK.out HTK.out HTKK.out, heap_set_same H52.out, HB5.out.setCell (p := ⟨H + 2, 1, none⟩) (by have := HS2.out; show w2.heap.size ≤ H + 2; omega) _, by simpa [World.setCell] using hsz5⟩
      · obtain rfl : K = i := by omega
        have hwl : ks.take K = ks := List.take_of_length_le (by rw [EK.out]; exact Nat.le_refl _)
        have htk := HTK.out
        rw [hwl] at htk
        have htok := tok_all (c := c) (d := d) o1 htk
        have HTOK := Lib.hid htok
        clear htk htok hwl
        have a0 : wr.cell? ⟨H + 2, 0, none⟩ = some (.int .u8 o) := cell_of_heap HE2.out rfl
        have a1 : wr.cell? ⟨H + 2, 1, none⟩ = some (.slice sa K sc) := cell_of_heap HE2.out rfl
        have a2 : wr.cell? ⟨H + 2, 2, none⟩ = some (.int .i64 c) := cell_of_heap HE2.out rfl
        have a3 : wr.cell? ⟨H + 2, 3, none⟩ = some (.int .u8 d.kind) := cell_of_heap HE2.out rfl
        have a4 : wr.cell? ⟨H + 2, 4, none⟩ = some (.bool d.bool) := cell_of_heap HE2.out rfl
        have a5 : wr.cell? ⟨H + 2, 5, none⟩ = some (.int .i64 d.int) := cell_of_heap HE2.out rfl
        have a6 : wr.cell? ⟨H + 2, 6, none⟩ = some (.string d.text) := cell_of_heap HE2.out rfl
        have z0 : wr.cell? ⟨H + 1, 0, none⟩ = some (.int .u8 0) := cell_of_heap HH1.out rfl
        have z1 : wr.cell? ⟨H + 1, 1, none⟩ = some (.slice none 0 0) := cell_of_heap HH1.out rfl
        have z2 : wr.cell? ⟨H + 1, 2, none⟩ = some (.int .i64 0) := cell_of_heap HH1.out rfl
        have z3 : wr.cell? ⟨H + 1, 3, none⟩ = some (.int .u8 0) := cell_of_heap HH1.out rfl
        have z4 : wr.cell? ⟨H + 1, 4, none⟩ = some (.bool false) := cell_of_heap HH1.out rfl
        have z5 : wr.cell? ⟨H + 1, 5, none⟩ = some (.int .i64 0) := cell_of_heap HH1.out rfl
        have z6 : wr.cell? ⟨H + 1, 6, none⟩ = some (.string ⟨#[]⟩) := cell_of_heap HH1.out rfl
        have g0 : wr.frozen? ⟨H + 1, 0, none⟩ = false := frozen_of_heap HH1.out
        have g1 : wr.frozen? ⟨H + 1, 1, none⟩ = false := frozen_of_heap HH1.out
        have g2 : wr.frozen? ⟨H + 1, 2, none⟩ = false := frozen_of_heap HH1.out
        have g3 : wr.frozen? ⟨H + 1, 3, none⟩ = false := frozen_of_heap HH1.out
        have g4 : wr.frozen? ⟨H + 1, 4, none⟩ = false := frozen_of_heap HH1.out
        have g5 : wr.frozen? ⟨H + 1, 5, none⟩ = false := frozen_of_heap HH1.out
        have g6 : wr.frozen? ⟨H + 1, 6, none⟩ = false := frozen_of_heap HH1.out
        go_wp2
        obtain ⟨W, eW⟩ : ∃ W, W = (((((((wr.setCell ⟨H + 1, 0, none⟩ (.int .u8 o)).setCell ⟨H + 1, 1, none⟩ (.slice sa K sc)).setCell ⟨H + 1, 2, none⟩ (.int .i64 c)).setCell ⟨H + 1, 3, none⟩ (.int .u8 d.kind)).setCell ⟨H + 1, 4, none⟩ (.bool d.bool)).setCell ⟨H + 1, 5, none⟩ (.int .i64 d.int)).setCell ⟨H + 1, 6, none⟩ (.string d.text)) := ⟨_, rfl⟩
        have hW : W.heap[H + 1]? = some (.cells #[.int .u8 o, .slice sa K sc, .int .i64 c, .int .u8 d.kind, .bool d.bool, .int .i64 d.int, .string d.text] 27 (0, 0)) := by
          rw [eW]
          have h := (heap_set_same (o := 6) (v := .string d.text) (heap_set_same (o := 5) (v := .int .i64 d.int) (heap_set_same (o := 4) (v := .bool d.bool) (heap_set_same (o := 3) (v := .int .u8 d.kind) (heap_set_same (o := 2) (v := .int .i64 c) (heap_set_same (o := 1) (v := .slice sa K sc) (heap_set_same (o := 0) (v := .int .u8 o) HH1.out)))))))
          simpa using h
        have hrl : LRow TS (H + 3) K (.slice sa K sc) W := by
          rw [eW]
          exact lrow_set (lrow_set (lrow_set (lrow_set (lrow_set (lrow_set (lrow_set HRL.out (by omega)) (by omega)) (by omega)) (by omega)) (by omega)) (by omega)) (by omega)
        have hB : Below w.heap.size w W := by
          have hl : w.heap.size ≤ H + 1 := by have := EH.out; omega
          rw [eW]
          exact (((((((((HB2.out.trans (HBR.out.mono HB2.out.size)).setCell (p := ⟨H + 1, 0, none⟩) hl _).setCell (p := ⟨H + 1, 1, none⟩) hl _).setCell (p := ⟨H + 1, 2, none⟩) hl _).setCell (p := ⟨H + 1, 3, none⟩) hl _).setCell (p := ⟨H + 1, 4, none⟩) hl _).setCell (p := ⟨H + 1, 5, none⟩) hl _).setCell (p := ⟨H + 1, 6, none⟩) hl _))
        rw [← eW]
        have HWW := Lib.hid hW
        have HRW := Lib.hid hrl
        have HBW := Lib.hid hB
        clear eW hW hrl hB a0 a1 a2 a3 a4 a5 a6 z0 z1 z2 z3 z4 z5 z6 g0 g1 g2 g3 g4 g5 g6
        refine bodyPost_ret (results_row_tmp rfl _ _ (H + 1) 27 _ (0, 0) _ rfl HWW.out Tryz.underlying27 rfl (by kernel_rfl)) rfl ?_
        have hlen := ET.turns_len cols ks
        refine ⟨HBW.out, ET.mk o c d TS, sa, TS.length, sc, by rw [HTOK.out, ETS.out, hlen, ← EK.out]; rfl, fun _ => ?_⟩
        rw [show (ET.mk o c d ks).turn cols = ET.mk o c d TS by rw [ETS.out]; simp only [ET.turn, if_neg o1]]
        refine ⟨rfl, ?_⟩
        obtain ⟨xs, hown, hel⟩ := HRW.out
        have hTL : TS.length = K := by rw [ETS.out, hlen, ← EK.out]
        rw [hTL]
        refine (on_of_row (base := H + 3) (hi := W.heap.size) (xs := xs) (by rw [hTL]; exact hown) (Nat.le_refl _) (fun j k hk => ?_) o c d).wide fun g hg => ⟨by have := hg.1; have := EH.out; omega, hg.2⟩
        obtain ⟨lo, hi, q1, q2, -, kv, h1, h2⟩ := hel j k (by rw [← hTL]; exact (List.getElem?_eq_some_iff.1 hk).1) hk
        exact ⟨kv, h1, h2.wide fun g hg => ⟨Nat.le_trans q1 hg.1, Nat.lt_of_lt_of_le hg.2 q2⟩⟩
end Go.Proofs.YtolikaginhjbhaaGreatDoor
