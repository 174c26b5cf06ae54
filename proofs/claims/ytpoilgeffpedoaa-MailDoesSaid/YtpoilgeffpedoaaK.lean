import Derived.Test.YtpoilgeffpedoaaI
namespace Go.Proofs.Ytpoilgeffpedoaa
open Go.RowKit Go.Pen
attribute [local go_sem ↓] Go.wp_at_zero Go.wp_at_succ

theorem owns_nil {w : World} {base e size n l c : Nat} {a : Option Addr} {xs : List Value} (h : w.ownsRow base e size (.slice a l c) n xs) : a = none → c = 0 := by
  rintro rfl
  rcases h.2 with ⟨h1, -⟩ | ⟨g, cap, cur, h1, -⟩
  · cases h1; rfl
  · cases h1

/-- a datum -/
structure Dat where
  kind : Int
  bool : Bool
  int : Int
  text : ByteArray

def Dat.cells (d : Dat) : List Value := [.int .u8 d.kind, .bool d.bool, .int .i64 d.int, .string d.text]

/-- what a slice of words reads as -/
def WordsAt (w : World) (v : Value) (xs : List Int) : Prop :=
  ∃ a c, v = .slice a xs.length c ∧ (a = none → c = 0) ∧ (xs ≠ [] → ∃ b o, a = some ⟨b, o, none⟩ ∧ ∀ i x, xs[i]? = some x → w.cell? ⟨b, o + i, none⟩ = some (.int .u32 x))

/-- what a slice of data reads as -/
def RowAt (w : World) (v : Value) (ds : List Dat) : Prop :=
  ∃ a c, v = .slice a ds.length c ∧ (a = none → c = 0) ∧ (ds ≠ [] → ∃ b o, a = some ⟨b, o, none⟩ ∧ ∀ i d, ds[i]? = some d → w.cell? ⟨b, o + i * 4, none⟩ = some (.int .u8 d.kind) ∧ w.cell? ⟨b, o + i * 4 + 1, none⟩ = some (.bool d.bool) ∧ w.cell? ⟨b, o + i * 4 + 2, none⟩ = some (.int .i64 d.int) ∧ w.cell? ⟨b, o + i * 4 + 3, none⟩ = some (.string d.text))

set_option maxRecDepth 100000 in
set_option maxHeartbeats 1000000 in
theorem sameWords_yes (v1 v2 : Value) (xs : List Int) (w : World) (h1 : WordsAt w v1 xs) (h2 : WordsAt w v2 xs) (hn : xs.length ≤ 1073741824) :
    Calls Try.prog 53 #[v1, v2] w fun e w' => e = .returned (.bool true) ∧ ∃ k, w' = w.drewN k := by
  obtain ⟨a1, c1, rfl, -, h1⟩ := h1
  obtain ⟨a2, c2, rfl, -, h2⟩ := h2
  obtain ⟨n, en⟩ : ∃ n, n = xs.length := ⟨_, rfl⟩
  rw [← en] at hn ⊢
  have H1 := Lib.hid h1
  have H2 := Lib.hid h2
  have EN := Lib.hid en
  clear h1 h2 en
  go_enter Try.func53, Try.ntmps53
  go_wp2
  go_loopw [5] (fun i wr => ∃ k : Nat, k ≤ n ∧ i = .int .i64 k ∧ ∃ q, wr = w.drewN q) (fun i _ => n - (intOf i).toNat)
  case atStart => exact ⟨0, Nat.zero_le _, rfl, 0, rfl⟩
  case round =>
    obtain ⟨k, hk, rfl, q, rfl⟩ := hrel
    by_cases hlt : k < n
    · have hne : xs ≠ [] := by intro e; rw [EN.out, e] at hlt; simp at hlt
      obtain ⟨b1, o1, rfl, g1⟩ := H1.out hne
      obtain ⟨b2, o2, rfl, g2⟩ := H2.out hne
      obtain ⟨x, hx⟩ : ∃ x, xs[k]? = some x := ⟨xs[k]'(by rw [← EN.out]; exact hlt), List.getElem?_eq_getElem _⟩
      have e1 := g1 k x hx
      have e2 := g2 k x hx
      have hb : (x != x) = false := by simp
      clear g1 g2 hx hne
      go_wp2
      go_quiet (fail)
      go_wp2
      go_roundw
      case rel => exact ⟨k + 1, hlt, by go_num, _, rfl⟩
      case measure => simp [intOf]; omega
    · go_wp2
      go_ret
      exact ⟨rfl, _, rfl⟩

set_option maxRecDepth 100000 in
set_option maxHeartbeats 1000000 in
theorem sameRow_yes (v1 v2 : Value) (xs : List Dat) (w : World) (h1 : RowAt w v1 xs) (h2 : RowAt w v2 xs) (hn : xs.length ≤ 1073741824) :
    Calls Try.prog 54 #[v1, v2] w fun e w' => e = .returned (.bool true) ∧ ∃ k, w' = w.drewN k := by
  obtain ⟨a1, c1, rfl, -, h1⟩ := h1
  obtain ⟨a2, c2, rfl, -, h2⟩ := h2
  obtain ⟨n, en⟩ : ∃ n, n = xs.length := ⟨_, rfl⟩
  rw [← en] at hn ⊢
  have H1 := Lib.hid h1
  have H2 := Lib.hid h2
  have EN := Lib.hid en
  clear h1 h2 en
  go_enter Try.func54, Try.ntmps54
  go_wp2
  go_loopw [5] (fun i wr => ∃ k : Nat, k ≤ n ∧ i = .int .i64 k ∧ ∃ q, wr = w.drewN q) (fun i _ => n - (intOf i).toNat)
  case atStart => exact ⟨0, Nat.zero_le _, rfl, 0, rfl⟩
  case round =>
    obtain ⟨k, hk, rfl, q, rfl⟩ := hrel
    by_cases hlt : k < n
    · have hne : xs ≠ [] := by intro e; rw [EN.out, e] at hlt; simp at hlt
      obtain ⟨b1, o1, rfl, g1⟩ := H1.out hne
      obtain ⟨b2, o2, rfl, g2⟩ := H2.out hne
      obtain ⟨x, hx⟩ : ∃ x, xs[k]? = some x := ⟨xs[k]'(by rw [← EN.out]; exact hlt), List.getElem?_eq_getElem _⟩
      obtain ⟨e10, e11, e12, e13⟩ := g1 k x hx
      obtain ⟨e20, e21, e22, e23⟩ := g2 k x hx
      obtain ⟨xk, xb, xi, xt⟩ := x
      clear g1 g2 hx hne
      go_wp2
      go_quiet (fail)
      go_wp2
      go_roundw
      case rel => exact ⟨k + 1, hlt, by go_num, _, rfl⟩
      case measure => simp [intOf]; omega
    · go_wp2
      go_ret
      exact ⟨rfl, _, rfl⟩

/-- an update -/
structure Upd where
  row : List Dat
  epoch : Int
  loops : List Int
  diff : Int

/-- what a slice of updates reads as -/
def UpsAt (w : World) (v : Value) (us : List Upd) : Prop :=
  ∃ a c, v = .slice a us.length c ∧ (a = none → c = 0) ∧ (us ≠ [] → ∃ b o, a = some ⟨b, o, none⟩ ∧ ∀ i u, us[i]? = some u → ∃ rv lv, w.cell? ⟨b, o + i * 4, none⟩ = some rv ∧ w.cell? ⟨b, o + i * 4 + 1, none⟩ = some (.int .u64 u.epoch) ∧ w.cell? ⟨b, o + i * 4 + 2, none⟩ = some lv ∧ w.cell? ⟨b, o + i * 4 + 3, none⟩ = some (.int .i64 u.diff) ∧ RowAt w rv u.row ∧ WordsAt w lv u.loops)

theorem cell_keep {w w' : World} (h : Below w.heap.size w w') {a : Addr} {v : Value} (hc : w.cell? a = some v) : w'.cell? a = some v :=
  (World.cell?_of_block (h.block a.block (World.block_lt_of_cell? w a hc))).trans hc

theorem WordsAt.below {w w' : World} {v : Value} {xs : List Int} (h : WordsAt w v xs) (hb : Below w.heap.size w w') : WordsAt w' v xs := by
  obtain ⟨a, c, rfl, hz, h⟩ := h
  refine ⟨a, c, rfl, hz, fun hne => ?_⟩
  obtain ⟨b, o, rfl, g⟩ := h hne
  exact ⟨b, o, rfl, fun i x hx => cell_keep hb (g i x hx)⟩
theorem RowAt.below {w w' : World} {v : Value} {xs : List Dat} (h : RowAt w v xs) (hb : Below w.heap.size w w') : RowAt w' v xs := by
  obtain ⟨a, c, rfl, hz, h⟩ := h
  refine ⟨a, c, rfl, hz, fun hne => ?_⟩
  obtain ⟨b, o, rfl, g⟩ := h hne
  refine ⟨b, o, rfl, fun i x hx => ?_⟩
  obtain ⟨q0, q1, q2, q3⟩ := g i x hx
  exact ⟨cell_keep hb q0, cell_keep hb q1, cell_keep hb q2, cell_keep hb q3⟩
theorem UpsAt.below {w w' : World} {v : Value} {xs : List Upd} (h : UpsAt w v xs) (hb : Below w.heap.size w w') : UpsAt w' v xs := by
  obtain ⟨a, c, rfl, hz, h⟩ := h
  refine ⟨a, c, rfl, hz, fun hne => ?_⟩
  obtain ⟨b, o, rfl, g⟩ := h hne
  refine ⟨b, o, rfl, fun i x hx => ?_⟩
  obtain ⟨rv, lv, q0, q1, q2, q3, hr, hl⟩ := g i x hx
  exact ⟨rv, lv, cell_keep hb q0, cell_keep hb q1, cell_keep hb q2, cell_keep hb q3, hr.below hb, hl.below hb⟩
theorem WordsAt.slice {w : World} {v : Value} {xs : List Int} (h : WordsAt w v xs) : ∃ a c, v = .slice a xs.length c := by obtain ⟨a, c, rfl, _⟩ := h; exact ⟨a, c, rfl⟩
theorem RowAt.slice {w : World} {v : Value} {xs : List Dat} (h : RowAt w v xs) : ∃ a c, v = .slice a xs.length c := by obtain ⟨a, c, rfl, _⟩ := h; exact ⟨a, c, rfl⟩
theorem UpsAt.slice {w : World} {v : Value} {xs : List Upd} (h : UpsAt w v xs) : ∃ a c, v = .slice a xs.length c := by obtain ⟨a, c, rfl, _⟩ := h; exact ⟨a, c, rfl⟩

theorem drew_below' (w : World) (n : Nat) : Below w.heap.size w (w.drewN n) := below_drewN (Below.refl _ _) _

set_option maxRecDepth 100000 in
set_option maxHeartbeats 1000000 in
theorem sameTime_yes (e : Int) (a1 a2 : Option Addr) (c1 c2 : Nat) (xs : List Int) (w : World) (h1 : WordsAt w (.slice a1 xs.length c1) xs) (h2 : WordsAt w (.slice a2 xs.length c2) xs) (hn : xs.length ≤ 1073741824) :
    Calls Try.prog 31 #[.agg #[.int .u64 e, .slice a1 xs.length c1], .agg #[.int .u64 e, .slice a2 xs.length c2]] w fun e w' => e = .returned (.bool true) ∧ Below w.heap.size w w' := by
  have H1 := Lib.hid h1
  have H2 := Lib.hid h2
  clear h1 h2
  go_enter Try.func31, Try.ntmps31
  go_wp2_with fail
  obtain ⟨w1, hw1⟩ : ∃ w1, w1 = (w.alloc (.cells #[.int .u64 e, .slice a1 xs.length c1] 28)).alloc (.cells #[.int .u64 e, .slice a2 xs.length c2] 28) := ⟨_, rfl⟩
  have hb : Below w.heap.size w w1 := by rw [hw1]; exact ((Below.refl _ _).alloc (Nat.le_refl _) _).alloc (by simp) _
  rw [← hw1]
  refine (sameWords_yes _ _ xs _ (H1.out.below hb) (H2.out.below hb) hn).mono ?_
  rintro e w2 ⟨rfl, nq, rfl⟩
  have HB := Lib.hid hb
  clear hw1 hb
  go_wp2
  go_ret
  exact ⟨rfl, below_drewN HB.out _⟩

set_option maxRecDepth 100000 in
set_option maxHeartbeats 2000000 in
theorem sameUpdates_yes (v1 v2 : Value) (us : List Upd) (w : World) (h1 : UpsAt w v1 us) (h2 : UpsAt w v2 us) (hn : us.length ≤ 1073741824) (hk : ∀ u ∈ us, u.row.length ≤ 1073741824 ∧ u.loops.length ≤ 1073741824) :
    Calls Try.prog 32 #[v1, v2] w fun e w' => e = .returned (.bool true) ∧ Below w.heap.size w w' := by
  have H1 := Lib.hid h1
  have H2 := Lib.hid h2
  obtain ⟨a1, c1, rfl⟩ := h1.slice
  obtain ⟨a2, c2, rfl⟩ := h2.slice
  obtain ⟨n, en⟩ : ∃ n, n = us.length := ⟨_, rfl⟩
  rw [← en] at hn
  have HK := Lib.hid hk
  have EN := Lib.hid en
  clear h1 h2 hk
  rw [← en] at H1 H2 ⊢
  clear en
  go_enter Try.func32, Try.ntmps32
  go_wp2
  go_loopw [5] (fun i wr => ∃ k : Nat, k ≤ n ∧ i = .int .i64 k ∧ Below w.heap.size w wr) (fun i _ => n - (intOf i).toNat)
  case atStart => exact ⟨0, Nat.zero_le _, rfl, Below.refl _ _⟩
  case round =>
    obtain ⟨k, hkn, rfl, hbw⟩ := hrel
    by_cases hlt : k < n
    · have hne : us ≠ [] := by intro e; have := EN.out; rw [e] at this; simp at this; omega
      obtain ⟨_, _, hv1, -, g1⟩ := H1.out.below hbw
      obtain ⟨_, _, hv2, -, g2⟩ := H2.out.below hbw
      obtain ⟨b1, o1, e1, g1⟩ := g1 hne
      obtain ⟨b2, o2, e2, g2⟩ := g2 hne
      rw [e1] at hv1
      rw [e2] at hv2
      simp only [Value.slice.injEq] at hv1 hv2
      obtain ⟨rfl, z1, z1'⟩ := hv1
      obtain ⟨rfl, z2, z2'⟩ := hv2
      clear z1 z1' z2 z2'
      obtain ⟨u, hu⟩ : ∃ u, us[k]? = some u := ⟨us[k]'(by rw [← EN.out]; exact hlt), List.getElem?_eq_getElem _⟩
      obtain ⟨rv1, lv1, p0, p1, p2, p3, hr1, hl1⟩ := g1 k u hu
      obtain ⟨rv2, lv2, q0, q1, q2, q3, hr2, hl2⟩ := g2 k u hu
      obtain ⟨kr, kl⟩ := HK.out u (List.mem_of_getElem? hu)
      obtain ⟨ra1, rc1, rfl⟩ := hr1.slice
      obtain ⟨ra2, rc2, rfl⟩ := hr2.slice
      obtain ⟨la1, lc1, rfl⟩ := hl1.slice
      obtain ⟨la2, lc2, rfl⟩ := hl2.slice
      have HR1 := Lib.hid hr1
      have HR2 := Lib.hid hr2
      have HL1 := Lib.hid hl1
      have HL2 := Lib.hid hl2
      have HBW := Lib.hid hbw
      have hbne : (u.diff != u.diff) = false := by simp
      clear g1 g2 hu hne hr1 hr2 hl1 hl2 hbw
      go_wp2
      go_region_held3 (fun w' => w'.cell? ⟨b1, o1 + k * 4, none⟩ = some (.slice ra1 u.row.length rc1) ∧ w'.cell? ⟨b1, o1 + k * 4 + 1, none⟩ = some (.int .u64 u.epoch) ∧ w'.cell? ⟨b1, o1 + k * 4 + 2, none⟩ = some (.slice la1 u.loops.length lc1) ∧ w'.cell? ⟨b1, o1 + k * 4 + 3, none⟩ = some (.int .i64 u.diff) ∧ w'.cell? ⟨b2, o2 + k * 4, none⟩ = some (.slice ra2 u.row.length rc2) ∧ w'.cell? ⟨b2, o2 + k * 4 + 1, none⟩ = some (.int .u64 u.epoch) ∧ w'.cell? ⟨b2, o2 + k * 4 + 2, none⟩ = some (.slice la2 u.loops.length lc2) ∧ w'.cell? ⟨b2, o2 + k * 4 + 3, none⟩ = some (.int .i64 u.diff))
        (first | with_reducible exact HS5.out | with_reducible exact HS4.out | exact ⟨p0, p1, p2, p3, q0, q1, q2, q3⟩)
        (first | (go_at_call 54; refine (sameRow_yes _ _ u.row _ (by exact HR1.out.below (drew_below' _ 1)) (by exact HR2.out.below (drew_below' _ 1)) kr).mono ?_; rintro e w4 ⟨rfl, nq4, rfl⟩; have HS4 := Lib.hid (And.intro p0 (And.intro p1 (And.intro p2 (And.intro p3 (And.intro q0 (And.intro q1 (And.intro q2 q3)))))))) | (go_at_call 31; refine (sameTime_yes u.epoch la1 la2 lc1 lc2 u.loops _ (by exact HL1.out.below (drew_below' _ _)) (by exact HL2.out.below (drew_below' _ _)) kl).mono ?_; rintro e w5 ⟨rfl, hb5⟩; have HS5 := Lib.hid (And.intro (cell_keep hb5 p0) (And.intro (cell_keep hb5 p1) (And.intro (cell_keep hb5 p2) (And.intro (cell_keep hb5 p3) (And.intro (cell_keep hb5 q0) (And.intro (cell_keep hb5 q1) (And.intro (cell_keep hb5 q2) (cell_keep hb5 q3))))))))))
      have hb5' : Below w.heap.size w w5 := HBW.out.trans ((below_undrewN hb5).mono HBW.out.size)
      have HB5 := Lib.hid hb5'
      clear hb5 hb5'
      go_wp2
      go_roundw
      case rel => exact ⟨k + 1, hlt, by go_num, HB5.out⟩
      case measure => simp [intOf]; omega
    · go_wp2
      go_ret
      exact ⟨rfl, hbw⟩

def Upd.fit (u : Upd) : Prop := u.row.length ≤ 1073741824 ∧ u.loops.length ≤ 1073741824

set_option maxRecDepth 100000 in
set_option maxHeartbeats 2000000 in
theorem same_yes (nd : Int) (ot : Bool) (pt ep : Int) (loops : List Int) (rows errs : List Upd) (la1 la2 ra1 ra2 ea1 ea2 : Option Addr) (lc1 lc2 rc1 rc2 ec1 ec2 : Nat) (w : World)
    (hl1 : WordsAt w (.slice la1 loops.length lc1) loops) (hl2 : WordsAt w (.slice la2 loops.length lc2) loops) (hr1 : UpsAt w (.slice ra1 rows.length rc1) rows) (hr2 : UpsAt w (.slice ra2 rows.length rc2) rows)
    (he1 : UpsAt w (.slice ea1 errs.length ec1) errs) (he2 : UpsAt w (.slice ea2 errs.length ec2) errs) (hn : loops.length ≤ 1073741824) (hn1 : rows.length ≤ 1073741824) (hn2 : errs.length ≤ 1073741824) (hf1 : ∀ u ∈ rows, u.fit) (hf2 : ∀ u ∈ errs, u.fit) :
    Calls Try.prog 13 #[.agg #[.int .i64 nd, .bool ot, .int .i64 pt, .int .u64 ep, .slice la1 loops.length lc1, .slice ra1 rows.length rc1, .slice ea1 errs.length ec1], .agg #[.int .i64 nd, .bool ot, .int .i64 pt, .int .u64 ep, .slice la2 loops.length lc2, .slice ra2 rows.length rc2, .slice ea2 errs.length ec2]] w fun e w' => e = .returned (.bool true) ∧ Below w.heap.size w w' := by
  have HL1 := Lib.hid hl1
  have HL2 := Lib.hid hl2
  have HR1 := Lib.hid hr1
  have HR2 := Lib.hid hr2
  have HE1 := Lib.hid he1
  have HE2 := Lib.hid he2
  have HF1 := Lib.hid hf1
  have HF2 := Lib.hid hf2
  clear hl1 hl2 hr1 hr2 he1 he2 hf1 hf2
  go_enter Try.func13, Try.ntmps13
  go_wp2_with fail
  obtain ⟨m1, em1⟩ : ∃ m1, m1 = w.heap.size := ⟨_, rfl⟩
  obtain ⟨w1, hw1⟩ : ∃ w1, w1 = (w.alloc (.cells #[.int .i64 nd, .bool ot, .int .i64 pt, .int .u64 ep, .slice la1 loops.length lc1, .slice ra1 rows.length rc1, .slice ea1 errs.length ec1] 31)).alloc (.cells #[.int .i64 nd, .bool ot, .int .i64 pt, .int .u64 ep, .slice la2 loops.length lc2, .slice ra2 rows.length rc2, .slice ea2 errs.length ec2] 31) := ⟨_, rfl⟩
  have hb1 : Below w.heap.size w w1 := by rw [hw1]; exact ((Below.refl _ _).alloc (Nat.le_refl _) _).alloc (by simp) _
  have k1 : w1.heap[m1]? = some (.cells #[.int .i64 nd, .bool ot, .int .i64 pt, .int .u64 ep, .slice la1 loops.length lc1, .slice ra1 rows.length rc1, .slice ea1 errs.length ec1] 31 (0, 0)) := by
    rw [hw1, em1, Below.heap_alloc _ _ _ (by simp)]; exact heap_alloc_new w _
  have k2 : w1.heap[m1 + 1]? = some (.cells #[.int .i64 nd, .bool ot, .int .i64 pt, .int .u64 ep, .slice la2 loops.length lc2, .slice ra2 rows.length rc2, .slice ea2 errs.length ec2] 31 (0, 0)) := by
    rw [hw1, em1, show w.heap.size + 1 = (w.alloc (.cells #[.int .i64 nd, .bool ot, .int .i64 pt, .int .u64 ep, .slice la1 loops.length lc1, .slice ra1 rows.length rc1, .slice ea1 errs.length ec1] 31)).heap.size by simp]; exact heap_alloc_new _ _
  rw [← hw1, ← em1]
  have HB1 := Lib.hid hb1
  have K1 := Lib.hid k1
  have K2 := Lib.hid k2
  clear hw1 em1 hb1 k1 k2
  refine (sameTime_yes ep la1 la2 lc1 lc2 loops _ (HL1.out.below HB1.out) (HL2.out.below HB1.out) hn).mono ?_
  rintro e w2 ⟨rfl, hb2⟩
  have k1 := (hb2.block m1 (lt_of_heap K1.out)).trans K1.out
  have k2 := (hb2.block (m1 + 1) (lt_of_heap K2.out)).trans K2.out
  have c15 := cell_of_heap (o := 5) k1 rfl
  have c25 := cell_of_heap (o := 5) k2 rfl
  have HB2 : Hid (Below w.heap.size w w2) := HB1.out.trans (hb2.mono HB1.out.size)
  have K12 := Lib.hid k1
  have K22 := Lib.hid k2
  clear k1 k2 hb2 K1 K2
  go_wp2_with fail
  refine (sameUpdates_yes _ _ rows _ (HR1.out.below HB2.out) (HR2.out.below HB2.out) hn1 HF1.out).mono ?_
  rintro e w3 ⟨rfl, hb3⟩
  have k1 := (hb3.block m1 (lt_of_heap K12.out)).trans K12.out
  have k2 := (hb3.block (m1 + 1) (lt_of_heap K22.out)).trans K22.out
  have c16 := cell_of_heap (o := 6) k1 rfl
  have c26 := cell_of_heap (o := 6) k2 rfl
  have HB3 : Hid (Below w.heap.size w w3) := HB2.out.trans (hb3.mono HB2.out.size)
  clear k1 k2 hb3 c15 c25
  go_wp2_with fail
  refine (sameUpdates_yes _ _ errs _ (HE1.out.below HB3.out) (HE2.out.below HB3.out) hn2 HF2.out).mono ?_
  rintro e w4 ⟨rfl, hb4⟩
  have HB4 : Hid (Below w.heap.size w w4) := HB3.out.trans (hb4.mono HB3.out.size)
  clear hb4
  go_wp2_with fail
  go_ret
  exact ⟨rfl, HB4.out⟩

/-- what is owned, read as data -/
theorem rowAt_of_owns {w : World} {base : Nat} {v : Value} {n : Nat} {ds : List Dat} (h : w.ownsRow base 89 4 v n (ds.flatMap Dat.cells)) : RowAt w v ds := by
  have hl : n = ds.length := by
    have := h.1
    have e : (ds.flatMap Dat.cells).length = ds.length * 4 := by
      clear this h
      induction ds with
      | nil => rfl
      | cons d ds ih => rw [List.flatMap_cons, List.length_append, ih]; simp [Dat.cells]; omega
    omega
  subst hl
  obtain ⟨a, c, rfl⟩ := ownsRow_slice h
  refine ⟨a, c, rfl, owns_nil h, fun hne => ?_⟩
  obtain ⟨g, cap, hv, _, _⟩ := h.form (by cases ds; exact absurd rfl hne; simp)
  simp only [Value.slice.injEq] at hv
  obtain ⟨rfl, _, rfl⟩ := hv
  refine ⟨g, 0, rfl, fun i d hd => ?_⟩
  have hc := (ownsRow_heap h).2.2.2
  have hget : ∀ j, j < 4 → (ds.flatMap Dat.cells)[i * 4 + j]? = d.cells[j]? := fun j hj => by
    clear hc h hne
    induction ds generalizing i with
    | nil => simp at hd
    | cons x ds ih =>
      rw [List.flatMap_cons]
      cases i with
      | zero =>
        simp at hd; subst hd
        rw [List.getElem?_append_left (by simp [Dat.cells]; omega)]
        simp
      | succ i =>
        rw [List.getElem?_append_right (by simp [Dat.cells]; omega)]
        have : (i + 1) * 4 + j - x.cells.length = i * 4 + j := by simp [Dat.cells]; omega
        rw [this]
        exact ih i (by simpa using hd)
  rw [Nat.zero_add]
  exact ⟨hc _ _ (hget 0 (by omega)), hc _ _ (hget 1 (by omega)), hc _ _ (hget 2 (by omega)), hc _ _ (hget 3 (by omega))⟩

theorem wordsAt_of_owns {w : World} {base : Nat} {v : Value} {n : Nat} {xs : List Int} (h : w.ownsRow base 111 1 v n (xs.map (Value.int .u32))) : WordsAt w v xs := by
  have hl : n = xs.length := by have := h.1; simp at this; omega
  subst hl
  obtain ⟨a, c, rfl⟩ := ownsRow_slice h
  refine ⟨a, c, rfl, owns_nil h, fun hne => ?_⟩
  obtain ⟨g, cap, hv, _, _⟩ := h.form (by cases xs; exact absurd rfl hne; simp)
  simp only [Value.slice.injEq] at hv
  obtain ⟨rfl, _, rfl⟩ := hv
  refine ⟨g, 0, rfl, fun i x hx => ?_⟩
  rw [Nat.zero_add]
  exact (ownsRow_heap h).2.2.2 i _ (by rw [List.getElem?_map, hx]; rfl)

/-- an update as raw cells -/
def Upd.raw (u : Upd) : Up := ⟨u.row.flatMap Dat.cells, u.row.length, u.epoch, u.loops.map (Value.int .u32), u.loops.length, u.diff⟩

theorem upsAt_of_is {w : World} {base : Nat} {v : Value} {us : List Upd} (h : UpsIs w base v (us.map Upd.raw)) : UpsAt w v us := by
  obtain ⟨xs, hr, hel⟩ := h
  rw [List.length_map] at hr
  obtain ⟨a, c, rfl⟩ := ownsRow_slice hr
  refine ⟨a, c, rfl, owns_nil hr, fun hne => ?_⟩
  obtain ⟨g, cap, hv, _, _⟩ := hr.form (by cases us; exact absurd rfl hne; simp)
  simp only [Value.slice.injEq] at hv
  obtain ⟨rfl, _, rfl⟩ := hv
  refine ⟨g, 0, rfl, fun i u hu => ?_⟩
  obtain ⟨rv, lv, a0, a1, a2, a3, hrow, hlp⟩ := hel i u.raw (by rw [List.getElem?_map, hu]; rfl)
  have hc := (ownsRow_heap hr).2.2.2
  rw [Nat.zero_add, show i * 4 = 4 * i by omega]
  exact ⟨rv, lv, hc _ _ a0, hc _ _ a1, hc _ _ a2, hc _ _ a3, rowAt_of_owns hrow, wordsAt_of_owns hlp⟩
end Go.Proofs.Ytpoilgeffpedoaa
