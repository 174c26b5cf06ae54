/- ownWords 42: lists of words that are nobody else's. -/
import Derived.Test.YtpoilgeffpedoaaOa
namespace Go.Proofs.Ytpoilgeffpedoaa
open Go.RowKit Go.Pen

def mk32 (i k : Nat) : Int := IntKind.u32.wrap ((i : Int) * 1000 + (k : Int))
def ng32 (i k : Nat) : Int := IntKind.u32.wrap ((-1 - (i : Int)) * 1000 + (k : Int))

/-- the state of the lists while the marks are laid -/
def MkRel (n : Nat) (v : Nat → Value) (ln : Nat → Nat) (w0 : World) (i k : Nat) (wr : World) : Prop :=
  Only (fun g => ∃ j, j < n ∧ (v j).ownBlock = some g) w0 wr ∧
    ∃ X : Nat → List Value, (∀ j, j < n → wr.ownsRow 0 111 1 (v j) (ln j) (X j)) ∧ (∀ j q, j < n → q < ln j → (j < i ∨ j = i ∧ q < k) → (X j)[q]? = some (.int .u32 (mk32 j q)))

theorem mk_step {n : Nat} {v : Nat → Value} {ln : Nat → Nat} {w0 wr : World} {i k g c : Nat} (h : MkRel n v ln w0 i k wr) (ha : Apart n v) (hi : i < n) (hk : k < ln i) (hv : v i = .slice (some ⟨g, 0, none⟩) (ln i) c) :
    MkRel n v ln w0 i (k + 1) (wr.setCell ⟨g, k, none⟩ (.int .u32 (mk32 i k))) := by
  obtain ⟨ho, X, hX, hm⟩ := h
  refine ⟨ho.set ⟨i, hi, by rw [hv]; rfl⟩, _, own_put hX ha hi hv, fun j q hj hq hjq => ?_⟩
  have hlen := (hX i hi).1
  by_cases hji : j = i
  · subst hji
    rw [if_pos rfl, List.getElem?_set]
    by_cases e : k = q
    · subst e
      rw [if_pos rfl, if_pos (by omega)]
    · rw [if_neg e]
      exact hm j q hj hq (by omega)
  · rw [if_neg hji]
    exact hm j q hj hq (by omega)

theorem info26 : (Try.prog.info? 26).map (fun i => (i.zero, i.size, i.bytes)) = some (some (.slice none 0 0), 1, 24) := by kernel_rfl

theorem mk_next {n : Nat} {v : Nat → Value} {ln : Nat → Nat} {w0 wr : World} {i : Nat} (h : MkRel n v ln w0 i (ln i) wr) : MkRel n v ln w0 (i + 1) 0 wr := by
  obtain ⟨ho, X, hX, hm⟩ := h
  refine ⟨ho, X, hX, fun j q hj hq hjq => hm j q hj hq ?_⟩
  rcases hjq with h1 | ⟨-, h2⟩
  · rcases Nat.lt_or_eq_of_le (Nat.le_of_lt_succ h1) with h3 | rfl
    · exact .inl h3
    · exact .inr ⟨rfl, hq⟩
  · omega

def mks (j L : Nat) : List Value := (List.range L).map fun q => Value.int .u32 (mk32 j q)
def ngs (j L : Nat) : List Value := (List.range L).map fun q => Value.int .u32 (ng32 j q)

theorem mks_len (j L : Nat) : (mks j L).length = L := by simp [mks]
theorem ngs_len (j L : Nat) : (ngs j L).length = L := by simp [ngs]
theorem mks_at {j L q : Nat} (h : q < L) : (mks j L)[q]? = some (.int .u32 (mk32 j q)) := by
  unfold mks
  rw [List.getElem?_map, List.getElem?_range h]; rfl
theorem ngs_at {j L q : Nat} (h : q < L) : (ngs j L)[q]? = some (.int .u32 (ng32 j q)) := by
  unfold ngs
  rw [List.getElem?_map, List.getElem?_range h]; rfl
theorem ngs_succ (j k : Nat) : ngs j k ++ [.int .u32 (ng32 j k)] = ngs j (k + 1) := by
  unfold ngs
  rw [List.range_succ, List.map_append]; rfl

/-- a list reads as its marks -/
def Rd (v : Nat → Value) (ln : Nat → Nat) (j : Nat) (w : World) : Prop := ∀ g, (v j).ownBlock = some g → (∃ cur : Array Value, w.heap[g]? = some (Obj.cells cur 111 (0, 0))) ∧ ∀ q, q < ln j → w.cell? ⟨g, q, none⟩ = some (.int .u32 (mk32 j q))

theorem Rd.frame {v : Nat → Value} {ln : Nat → Nat} {j : Nat} {w w' : World} (h : Rd v ln j w) (hf : ∀ g, (v j).ownBlock = some g → g < w.heap.size → w'.heap[g]? = w.heap[g]?) : Rd v ln j w' := by
  intro g hg
  obtain ⟨⟨cur, h1⟩, h2⟩ := h g hg
  have hb := hf g hg (lt_of_heap h1)
  exact ⟨⟨cur, hb.trans h1⟩, fun q hq => by rw [World.cell?_of_block hb]; exact h2 q hq⟩

theorem Rd.of_own {ln : Nat → Nat} {j : Nat} {w : World} {x : Value} {L : Nat} {ys : List Value} (h : w.ownsRow 0 111 1 x L (mks j (ln j) ++ ys)) {g : Nat} (hg : x.ownBlock = some g) : (∃ cur : Array Value, w.heap[g]? = some (Obj.cells cur 111 (0, 0))) ∧ ∀ q, q < ln j → w.cell? ⟨g, q, none⟩ = some (.int .u32 (mk32 j q)) := by
  refine ⟨(ownsRow_block h hg).2.2, fun q hq => ?_⟩
  have := h.cells hg q _ (by rw [List.getElem?_append_left (by rw [mks_len]; exact hq)]; exact mks_at hq)
  rwa [add_lit, Nat.zero_add] at this

abbrev SV (n : Nat) (v : Nat → Value) : Nat → Prop := fun g => ∃ j, j < n ∧ (v j).ownBlock = some g

/-- a long list that is done -/
def XOk (v : Nat → Value) (ln : Nat → Nat) (s0 j : Nat) (x : Value) (W : Nat) (w : World) : Prop :=
  w.ownsRow 0 111 1 x (ln j + 8) (mks j (ln j) ++ ngs j 8) ∧ ∀ g, x.ownBlock = some g → g < W ∧ ((v j).ownBlock = some g ∨ s0 ≤ g)

/-- the state while the lists grow: m are done -/
structure GrRel (n : Nat) (v : Nat → Value) (ln : Nat → Nat) (w0 : World) (m : Nat) (lv : Value) (wr : World) : Prop where
  only : Only (SV n v) w0 wr
  rest : ∀ j, m ≤ j → j < n → wr.ownsRow 0 111 1 (v j) (ln j) (mks j (ln j))
  rd : ∀ j, j < m → Rd v ln j wr
  long : ∃ xv : Nat → Value, wr.ownsRow w0.heap.size 26 1 lv m ((List.range m).map xv) ∧ ∀ j, j < m → XOk v ln w0.heap.size j (xv j) wr.heap.size wr

theorem gr_start {n : Nat} {v : Nat → Value} {ln : Nat → Nat} {w0 wr : World} (h : MkRel n v ln w0 n 0 wr) : GrRel n v ln w0 0 (.slice none 0 0) wr := by
  obtain ⟨ho, X, hX, hm⟩ := h
  refine ⟨ho, fun j _ hj => ?_, fun j hj => absurd hj (Nat.not_lt_zero _), fun _ => .slice none 0 0, World.ownsRow_nil _ _ _ _, fun j hj => absurd hj (Nat.not_lt_zero _)⟩
  have hx := hX j hj
  have hl := hx.1
  have e : X j = mks j (ln j) := by
    refine List.ext_getElem? fun q => ?_
    rcases Nat.lt_or_ge q (ln j) with h | h
    · rw [hm j q hj h (.inl hj), mks_at h]
    · rw [List.getElem?_eq_none (by omega), List.getElem?_eq_none (by rw [mks_len]; exact h)]
  rw [← e]; exact hx

/-- one list grows: k are appended -/
structure InRel (n : Nat) (v : Nat → Value) (ln : Nat → Nat) (w0 : World) (m : Nat) (lv : Value) (xv : Nat → Value) (W k : Nat) (x : Value) (wr : World) : Prop where
  only : Only (SV n v) w0 wr
  rest : ∀ j, m < j → j < n → wr.ownsRow 0 111 1 (v j) (ln j) (mks j (ln j))
  rd : ∀ j, j ≤ m → Rd v ln j wr
  long : wr.ownsRow w0.heap.size 26 1 lv m ((List.range m).map xv)
  done : ∀ j, j < m → XOk v ln w0.heap.size j (xv j) W wr
  cur : wr.ownsRow 0 111 1 x (ln m + k) (mks m (ln m) ++ ngs m k)
  place : ∀ g, x.ownBlock = some g → (v m).ownBlock = some g ∨ W ≤ g
  low : w0.heap.size ≤ W
  high : W ≤ wr.heap.size

theorem in_start {n : Nat} {v : Nat → Value} {ln : Nat → Nat} {w0 wr : World} {m : Nat} {lv : Value} (h : GrRel n v ln w0 m lv wr) (hm : m < n) : ∃ xv, InRel n v ln w0 m lv xv wr.heap.size 0 (v m) wr := by
  obtain ⟨xv, h1, h2⟩ := h.long
  have ho := h.rest m (Nat.le_refl _) hm
  refine ⟨xv, h.only, fun j h1 h2 => h.rest j (by omega) h2, fun j hj => ?_, h1, h2, by simpa [ngs] using ho, fun g hg => .inl hg, h.only.size, Nat.le_refl _⟩
  rcases Nat.lt_or_eq_of_le hj with h3 | rfl
  · exact h.rd j h3
  · intro g hg
    have ho := h.rest j (Nat.le_refl _) hm
    rw [← List.append_nil (mks j (ln j))] at ho
    exact Rd.of_own ho hg

theorem in_step {n : Nat} {v : Nat → Value} {ln : Nat → Nat} {w0 wr w1 w2 : World} {m W k : Nat} {lv x x' : Value} {xv : Nat → Value} (h : InRel n v ln w0 m lv xv W k x wr) (ha : Apart n v) (hm : m < n) (hvl : ∀ j g, j < n → (v j).ownBlock = some g → g < w0.heap.size)
    (hb : Below wr.heap.size wr w1) (hown : w2.ownsRow 0 111 1 x' (ln m + k + 1) (mks m (ln m) ++ ngs m k ++ [.int .u32 (ng32 m k)])) (hold : w2.ownsRow 0 111 1 x (ln m + k) (mks m (ln m) ++ ngs m k))
    (hg : w1.grownBy w2 x.ownBlock) (hp : x'.ownBlock = x.ownBlock ∨ ∀ g, x'.ownBlock = some g → w1.heap.size ≤ g) : InRel n v ln w0 m lv xv W (k + 1) x' w2 := by
  have hs1 := hb.size
  have hs2 := hg.size
  have hlow := h.low
  have hhigh := h.high
  have fr : ∀ g, g < wr.heap.size → x.ownBlock ≠ some g → w2.heap[g]? = wr.heap[g]? := fun g hgl hgx => (hg.block g (by omega) (fun e => hgx e.symm)).trans (hb.block g hgl)
  have hxb : ∀ g, x.ownBlock = some g → ∃ cur, wr.heap[g]? = some (.cells cur 111 (0, 0)) := fun g hgx => (ownsRow_block h.cur hgx).2.2
  have hvx : ∀ j g, j < n → j ≠ m → (v j).ownBlock = some g → x.ownBlock ≠ some g := fun j g hj hjm hgj e => by
    rcases h.place g e with h1 | h1
    · exact hjm (ha j m g hj hm hgj h1)
    · have := hvl j g hj hgj; omega
  refine ⟨?_, fun j h1 h2 => ?_, fun j hj => ?_, ?_, fun j hj => ?_, ?_, fun g hgx => ?_, hlow, by omega⟩
  · refine Only.grown (h.only.trans (Only.of_below hb)) hg fun g hgx => ?_
    rcases h.place g hgx with h1 | h1
    · exact .inl ⟨m, hm, h1⟩
    · exact .inr (by omega)
  · have ho := h.rest j h1 h2
    exact ownsRow_frame ho fun g hgj => fr g (ho.lt g hgj).2 (hvx j g h2 (by omega) hgj)
  · rcases Nat.lt_or_eq_of_le hj with h3 | rfl
    · exact (h.rd j (by omega)).frame fun g hgj hgl => fr g hgl (hvx j g (by omega) (by omega) hgj)
    · intro g hgj
      by_cases e : x.ownBlock = some g
      · exact Rd.of_own hold e
      · exact ((h.rd j (Nat.le_refl _)).frame (w' := w2) fun g' hg' hl' => by
          rw [hgj] at hg'; cases hg'; exact fr g hl' e) g hgj
  · refine ownsRow_frame h.long fun g hgl => ?_
    obtain ⟨-, hl2, cur, hcur⟩ := ownsRow_block h.long hgl
    refine fr g hl2 fun e => ?_
    obtain ⟨cur', hcur'⟩ := hxb g e
    rw [hcur] at hcur'
    simp at hcur'
  · obtain ⟨h1, h2⟩ := h.done j hj
    refine ⟨ownsRow_frame h1 fun g hgj => fr g (h1.lt g hgj).2 fun e => ?_, h2⟩
    obtain ⟨h3, h4⟩ := h2 g hgj
    rcases h.place g e with h5 | h5
    · rcases h4 with h6 | h6
      · have := ha j m g (by omega) hm h6 h5; omega
      · have := hvl m g hm h5; omega
    · omega
  · rw [List.append_assoc, ngs_succ] at hown
    exact hown
  · rcases hp with h1 | h1
    · rw [h1] at hgx; exact h.place g hgx
    · have := h1 g hgx; exact .inr (by omega)

theorem in_end {n : Nat} {v : Nat → Value} {ln : Nat → Nat} {w0 wr w1 w2 : World} {m W : Nat} {lv lv' x : Value} {xv : Nat → Value} (h : InRel n v ln w0 m lv xv W 8 x wr)
    (hb : Below wr.heap.size wr w1) (hown : w2.ownsRow w0.heap.size 26 1 lv' (m + 1) ((List.range m).map xv ++ [x])) (hg : w1.grownBy w2 lv.ownBlock) : GrRel n v ln w0 (m + 1) lv' w2 := by
  have hs1 := hb.size
  have hs2 := hg.size
  have hlow := h.low
  have hhigh := h.high
  have fr : ∀ (g : Nat) (cur : Array Value), wr.heap[g]? = some (Obj.cells cur 111 (0, 0)) → w2.heap[g]? = wr.heap[g]? := fun g cur hc => by
    have hgl := lt_of_heap hc
    refine (hg.block g (by omega) fun e => ?_).trans (hb.block g hgl)
    obtain ⟨-, -, cur', hcur⟩ := ownsRow_block h.long e.symm
    rw [hc] at hcur
    simp at hcur
  have frO : ∀ {y : Value} {l : Nat} {xs : List Value}, wr.ownsRow 0 111 1 y l xs → w2.ownsRow 0 111 1 y l xs := fun ho => ownsRow_frame ho fun g hgy => by
    obtain ⟨-, -, cur, hcur⟩ := ownsRow_block ho hgy
    exact fr g cur hcur
  refine ⟨?_, fun j h1 h2 => frO (h.rest j (by omega) h2), fun j hj => ?_, fun j => if j = m then x else xv j, ?_, fun j hj => ?_⟩
  · refine Only.grown (h.only.trans (Only.of_below hb)) hg fun g hgl => .inr ?_
    exact (h.long.lt g hgl).1
  · intro g hgj
    obtain ⟨⟨cur, hcur⟩, -⟩ := h.rd j (by omega) g hgj
    exact ((h.rd j (by omega)).frame (w' := w2) fun g' hg' _ => by
      rw [hgj] at hg'; cases hg'; exact fr g cur hcur) g hgj
  · have e : (List.range (m + 1)).map (fun j => if j = m then x else xv j) = (List.range m).map xv ++ [x] := by
      rw [List.range_succ, List.map_append]
      congr 1
      · refine List.map_congr_left fun j hj => ?_
        have := List.mem_range.1 hj
        rw [if_neg (by omega)]
      · simp
    rw [e]; exact hown
  · by_cases hjm : j = m
    · subst hjm
      simp only [if_true]
      exact ⟨frO h.cur, fun g hgx => ⟨by have := (h.cur.lt g hgx).2; omega, (h.place g hgx).imp id fun h1 => by omega⟩⟩
    · simp only [if_neg hjm]
      obtain ⟨h1, h2⟩ := h.done j (by omega)
      exact ⟨frO h1, fun g hgx => ⟨by have := (h2 g hgx).1; omega, (h2 g hgx).2⟩⟩

set_option maxRecDepth 100000 in
set_option maxHeartbeats 8000000 in
theorem ownWords_42 (n : Nat) (v : Nat → Value) (ln : Nat → Nat) (ob oc : Nat) (w : World) (hn : n ≤ 1000000000) (hl : ∀ i, i < n → ln i ≤ 1000000) (ha : Apart n v)
    (hX : ∀ i, i < n → ∃ xs, w.ownsRow 0 111 1 (v i) (ln i) xs) (hob : ob < w.heap.size) (hout : ∀ i, i < n → w.cell? ⟨ob, i, none⟩ = some (v i)) (hne : ∀ i, i < n → (v i).ownBlock ≠ some ob) :
    Calls Try.prog 42 #[.slice (some ⟨ob, 0, none⟩) n oc] w fun e w' => e = .returned (.bool true) ∧ Only (fun g => ∃ j, j < n ∧ (v j).ownBlock = some g) w w' := by
  have hm0 : MkRel n v ln w 0 0 w := by
    have : ∃ X : Nat → List Value, ∀ j, j < n → w.ownsRow 0 111 1 (v j) (ln j) (X j) := by
      refine ⟨fun j => if h : j < n then (hX j h).choose else [], fun j hj => ?_⟩
      simp only [dif_pos hj]
      exact (hX j hj).choose_spec
    obtain ⟨X, hX⟩ := this
    exact ⟨Only.refl _ _, X, hX, fun j q _ _ h => by omega⟩
  -- the outer list stays
  have hst : ∀ wr i, Only (fun g => ∃ j, j < n ∧ (v j).ownBlock = some g) w wr → i < n → wr.cell? ⟨ob, i, none⟩ = some (v i) := fun wr i ho hi =>
    (World.cell?_of_block (ho.block ob hob (fun ⟨j, hj, e⟩ => hne j hj e))).trans (hout i hi)
  obtain ⟨i0, hi, hz0, hz1, hz2⟩ := info_parts info111
  obtain ⟨i6, hj, hy0, hy1, hy2⟩ := info_parts info26
  have HST := Lib.hid hst
  have hvl : ∀ j g, j < n → (v j).ownBlock = some g → g < w.heap.size := fun j g hj hg => by
    obtain ⟨xs, h⟩ := hX j hj
    exact (h.lt g hg).2
  have hvs : ∀ j, j < n → ∃ a c, v j = .slice a (ln j) c := fun j hj => by
    obtain ⟨xs, h⟩ := hX j hj
    exact ownsRow_slice h
  have hvn : ∀ j L a c, j < n → v j = .slice a L c → 0 < L → ∃ g, a = some ⟨g, 0, none⟩ := fun j L a c hj hv h0 => by
    obtain ⟨xs, h⟩ := hX j hj
    rcases h.2 with ⟨h1, -⟩ | ⟨g, cap, cur, h1, -⟩
    · rw [hv] at h1; cases h1; omega
    · rw [hv] at h1; cases h1; exact ⟨g, rfl⟩
  have HVS := Lib.hid hvs
  have HVN := Lib.hid hvn
  have HVL := Lib.hid hvl
  have HA := Lib.hid ha
  have HLN := Lib.hid hl
  clear hX hout hst ha hl hne hvl hvs hvn
  go_enter Try.func42, Try.ntmps42
  go_wp2_with fail
  go_loopw [3] (fun s wr => ∃ i : Nat, i ≤ n ∧ s = .int .i64 i ∧ MkRel n v ln w i 0 wr) (fun s _ => n - (intOf s).toNat)
  case atStart => exact ⟨0, Nat.zero_le _, rfl, hm0⟩
  case round =>
    clear hm0
    obtain ⟨i, hile, rfl, hr⟩ := hrel
    rcases Nat.lt_or_ge i n with hlt | hge
    · have hd : decide ((i : Int) < (n : Int)) = true := by simpa using hlt
      obtain ⟨L, hL⟩ : ∃ L, ln i = L := ⟨_, rfl⟩
      obtain ⟨a, c, hvi⟩ : ∃ a c, v i = .slice a L c := by
        obtain ⟨-, X, hX, -⟩ := hr
        rw [← hL]
        exact ownsRow_slice (hX i hlt)
      have hL6 : L ≤ 1000000 := by rw [← hL]; exact HLN.out i hlt
      have HR := Lib.hid hr
      have HVI := Lib.hid hvi
      have HL := Lib.hid hL
      have b1 : (0 : Int) ≤ (i : Int) := by omega
      have b2 : (i : Int) < (n : Int) := by omega
      clear hr hvi hL
      go_wp2_with fail
      go_loopw [4] (fun s wk => ∃ k : Nat, k ≤ L ∧ s = .int .i64 k ∧ MkRel n v ln w i k wk) (fun s _ => L - (intOf s).toNat)
      case atStart => exact ⟨0, Nat.zero_le _, rfl, HR.out⟩
      case round =>
        obtain ⟨k, hk, rfl, hr⟩ := hrel
        have co := HST.out wr i hr.1 hlt
        rw [HVI.out] at co
        have HR2 := Lib.hid hr
        rcases Nat.lt_or_ge k L with hkl | hkg
        · have hd2 : decide ((k : Int) < (L : Int)) = true := by simpa using hkl
          obtain ⟨g, hag⟩ : ∃ g, a = some ⟨g, 0, none⟩ := by
            obtain ⟨-, X, hX, -⟩ := hr
            have h := (hX i hlt).2
            rw [HVI.out, HL.out] at h
            rcases h with ⟨h, h0⟩ | ⟨g, cap, cur, h, -⟩
            · omega
            · cases h; exact ⟨g, rfl⟩
          subst hag
          obtain ⟨xk, hxk, hfk⟩ : ∃ xk, wr.cell? ⟨g, k, none⟩ = some xk ∧ wr.frozen? ⟨g, k, none⟩ = false := by
            obtain ⟨-, X, hX, -⟩ := hr
            have h := hX i hlt
            rw [HVI.out, HL.out] at h
            obtain ⟨-, -, cur, hcur⟩ := ownsRow_block h (g := g) rfl
            obtain ⟨xk, hxk⟩ : ∃ xk, (X i)[k]? = some xk := ⟨_, List.getElem?_eq_getElem (by have := h.1; omega)⟩
            exact ⟨xk, (ownsRow_heap h).2.2.2 k xk hxk, frozen_of_heap hcur⟩
          have b3 : (0 : Int) ≤ (k : Int) := by omega
          have b4 : (k : Int) < (L : Int) := by omega
          have hw1 : IntKind.i64.wrap ((i : Int) * 1000) = (i : Int) * 1000 := by rw [IntKind.wrap_i64]; omega
          have hw2 : IntKind.i64.wrap ((i : Int) * 1000 + (k : Int)) = (i : Int) * 1000 + (k : Int) := by rw [IntKind.wrap_i64]; omega
          obtain ⟨M, hM⟩ : ∃ M, IntKind.u32.wrap ((i : Int) * 1000 + (k : Int)) = M := ⟨_, rfl⟩
          have HS := Lib.hid (mk_step HR2.out HA.out hlt (by rw [HL.out]; exact hkl) (by rw [HVI.out, HL.out]))
          have HM : Hid (mk32 i k = M) := Lib.hid hM
          clear hr
          go_wp2_with fail
          exact ⟨⟨k + 1, hkl, by simp, by have := HS.out; rw [HM.out] at this; exact this⟩, by simp [intOf]; omega⟩
        · have hd2 : decide ((k : Int) < (L : Int)) = false := by simp; omega
          obtain rfl : k = L := by omega
          have hmn : MkRel n v ln w i (ln i) wr := by rw [HL.out]; exact HR2.out
          have HN := Lib.hid (mk_next hmn)
          clear hr
          go_wp2_with fail
          exact ⟨⟨i + 1, hlt, by simp, HN.out⟩, by simp [intOf]; omega⟩
    · have hd : decide ((i : Int) < (n : Int)) = false := by simp; omega
      obtain rfl : n = i := by omega
      have hg0 := gr_start hr
      clear hr hge hd hile
      go_wp2_with fail
      go_loopw [5, 6] (fun lv s wr => ∃ m : Nat, m ≤ n ∧ s = .int .i64 m ∧ GrRel n v ln w m lv wr) (fun _ s _ => n - (intOf s).toNat)
      case atStart => exact ⟨0, Nat.zero_le _, rfl, hg0⟩
      case round =>
        clear hg0
        obtain ⟨m, hm, rfl, hgr⟩ := hrel
        rcases Nat.lt_or_ge m n with hlt | hge
        · have hd : decide ((m : Int) < (n : Int)) = true := by simpa using hlt
          obtain ⟨xv, hin⟩ := in_start hgr hlt
          obtain ⟨la, lc, rfl⟩ := ownsRow_slice hin.long
          obtain ⟨W, hW⟩ : ∃ W, wr.heap.size = W := ⟨_, rfl⟩
          rw [hW] at hin
          obtain ⟨L, hL⟩ : ∃ L, ln m = L := ⟨_, rfl⟩
          obtain ⟨a, c, hvi⟩ : ∃ a c, v m = .slice a L c := by
            rw [← hL]; exact ownsRow_slice (hgr.rest m (Nat.le_refl _) hlt)
          have hL6 : L ≤ 1000000 := by rw [← hL]; exact HLN.out m hlt
          have co := HST.out wr m hgr.only hlt
          rw [hvi] at co
          rw [hvi] at hin
          have HIN := Lib.hid hin
          have HVI := Lib.hid hvi
          have HL := Lib.hid hL
          have b1 : (0 : Int) ≤ (m : Int) := by omega
          have b2 : (m : Int) < (n : Int) := by omega
          clear hin hvi hL hgr hW
          go_wp2_with fail
          go_loopw [7, 8] (fun x s wk => ∃ k : Nat, k ≤ 8 ∧ s = .int .i64 k ∧ InRel n v ln w m (.slice la m lc) xv W k x wk) (fun _ s _ => 8 - (intOf s).toNat)
          case atStart => exact ⟨0, Nat.zero_le _, rfl, HIN.out⟩
          case round =>
            clear co
            obtain ⟨k, hk, rfl, hin⟩ := hrel
            have hcur := hin.cur
            rw [HL.out] at hcur
            obtain ⟨xa, xc, rfl⟩ := ownsRow_slice hcur
            have HIN2 := Lib.hid hin
            have HCUR := Lib.hid hcur
            rcases Nat.lt_or_ge k 8 with hkl | hkg
            · have hd2 : decide ((k : Int) < 8) = true := by simp; omega
              have hw0 : IntKind.i64.wrap (-1 - (m : Int)) = -1 - (m : Int) := by rw [IntKind.wrap_i64]; omega
              have hw1 : IntKind.i64.wrap ((-1 - (m : Int)) * 1000) = (-1 - (m : Int)) * 1000 := by rw [IntKind.wrap_i64]; omega
              have hw2 : IntKind.i64.wrap ((-1 - (m : Int)) * 1000 + (k : Int)) = (-1 - (m : Int)) * 1000 + (k : Int) := by rw [IntKind.wrap_i64]; omega
              obtain ⟨M, hM⟩ : ∃ M, IntKind.u32.wrap ((-1 - (m : Int)) * 1000 + (k : Int)) = M := ⟨_, rfl⟩
              have HM : Hid (ng32 m k = M) := Lib.hid hM
              clear hin hcur
              go_wp2_with (at_builtin; go_must (refine wpList_append_both rfl _ _ 26 rfl 0 111 i0 (.int .u32 0) 1 4 Try.underlying26 hi hz0 hz1 hz2 rfl (by decide) (.slice xa (L + k) xc) (L + k) (mks m L ++ ngs m k) rfl (HCUR.out.alloc _) ⟨wr.heap.size, 0, none⟩ 1 1 [.int .u32 M] rfl rfl ?c1 ?c2 ?c3 ?c4 ?c5 ?c6 ?_))
              case c1 =>
                intro j u hj
                rw [add_lit, Nat.zero_add]
                exact cell_of_heap (heap_alloc_new wr _) (by rw [List.getElem?_toArray]; exact hj)
              case c2 => intro u hu; simp at hu; subst hu; rfl
              case c3 => unfold maxLen; omega
              case c4 => omega
              case c5 => exact Nat.zero_le _
              case c6 => decide
              intro x' w2 hown' hold hgrow hloc
              obtain ⟨xa', xc', rfl⟩ := ownsRow_slice hown'
              have HS : Hid (InRel n v ln w m (.slice la m lc) xv W (k + 1) (.slice xa' (L + k + 1) xc') w2) := Lib.hid (in_step HIN2.out HA.out hlt HVL.out ((Below.refl _ _).alloc (Nat.le_refl _) _) (by rw [HL.out, HM.out, List.append_assoc]; exact hown') (by rw [HL.out]; exact hold) hgrow (hloc.imp id fun h g hg => by have := h g hg; simp; omega))
              clear hown' hold hgrow hloc
              go_wp2_with fail
              exact ⟨⟨k + 1, hkl, by simp, HS.out⟩, by simp [intOf]; omega⟩
            · have hd2 : decide ((k : Int) < 8) = false := by simp; omega
              obtain rfl : k = 8 := by omega
              have hs0 : w.heap.size ≤ wr.heap.size := by have := hin.low; have := hin.high; omega
              clear hin hcur
              go_wp2_with (at_builtin; go_must (refine wpList_append_own _ rfl _ _ 51 rfl w.heap.size 26 i6 (.slice none 0 0) 1 24 Try.underlying51 hj hy0 hy1 hy2 rfl (by decide) (.slice la m lc) m ((List.range m).map xv) rfl (HIN2.out.long.alloc _) ⟨wr.heap.size, 0, none⟩ 1 1 [.slice xa (L + 8) xc] rfl rfl ?c1 ?c2 ?c3 ?c4 ?c5 ?_))
              case c1 =>
                intro j u hj
                rw [add_lit, Nat.zero_add]
                exact cell_of_heap (heap_alloc_new wr _) (by rw [List.getElem?_toArray]; exact hj)
              case c2 => intro u hu; simp at hu; subst hu; rfl
              case c3 => unfold maxLen; omega
              case c4 => omega
              case c5 => simp; omega
              intro lv' w2 hown' hgrow _
              have HS := Lib.hid (in_end HIN2.out ((Below.refl _ _).alloc (Nat.le_refl _) _) hown' hgrow)
              clear hown' hgrow
              go_wp2_with fail
              exact ⟨⟨m + 1, hlt, by simp, HS.out⟩, by simp [intOf]; omega⟩
        · have hd : decide ((m : Int) < (n : Int)) = false := by simp; omega
          obtain rfl : n = m := by omega
          obtain ⟨xv, hlong, hdone⟩ := hgr.long
          obtain ⟨la, lc, rfl⟩ := ownsRow_slice hlong
          have HGR := Lib.hid hgr
          have HLG := Lib.hid hlong
          have HDN := Lib.hid hdone
          clear hgr hlong hdone hge hm hd
          go_wp2_with fail
          go_loop [9] (fun s => ∃ i : Nat, i ≤ n ∧ s = .int .i64 i) (fun s => n - (intOf s).toNat)
          case atStart => exact ⟨0, Nat.zero_le _, rfl⟩
          case round =>
            obtain ⟨i, hile, rfl⟩ := hrel
            rcases Nat.lt_or_ge i n with hlt | hge
            · have hd : decide ((i : Int) < (n : Int)) = true := by simpa using hlt
              obtain ⟨L, hL⟩ : ∃ L, ln i = L := ⟨_, rfl⟩
              obtain ⟨hxo, -⟩ := HDN.out i hlt
              rw [hL] at hxo
              obtain ⟨xa, xc, hxv⟩ := ownsRow_slice hxo
              rw [hxv] at hxo
              obtain ⟨gx, rfl⟩ : ∃ gx, xa = some ⟨gx, 0, none⟩ := by
                rcases hxo.2 with ⟨-, h0⟩ | ⟨g, cap, cur, h, -⟩
                · omega
                · cases h; exact ⟨g, rfl⟩
              have hxc := (ownsRow_heap hxo).2.2.2
              obtain ⟨gl, rfl⟩ : ∃ gl, la = some ⟨gl, 0, none⟩ := by
                rcases HLG.out.2 with ⟨-, h0⟩ | ⟨g, cap, cur, h, -⟩
                · omega
                · cases h; exact ⟨g, rfl⟩
              have clong : wr.cell? ⟨gl, i, none⟩ = some (.slice (some ⟨gx, 0, none⟩) (L + 8) xc) := (ownsRow_heap HLG.out).2.2.2 i _ (by rw [List.getElem?_map, List.getElem?_range hlt, Option.map_some, hxv])
              have hrd := HGR.out.rd i hlt
              have co := HST.out wr i HGR.out.only hlt
              obtain ⟨a, c, hvi⟩ : ∃ a c, v i = .slice a L c := by
                have := HVS.out i hlt
                rwa [hL] at this
              rw [hvi] at co
              have hL6 : L ≤ 1000000 := by rw [← hL]; exact HLN.out i hlt
              have hrd2 : ∀ g, a = some ⟨g, 0, none⟩ → ∀ q, q < L → wr.cell? ⟨g, q, none⟩ = some (.int .u32 (mk32 i q)) := fun g hg q hq => by
                have := (hrd g (by rw [hvi, hg]; rfl)).2 q (by rw [hL]; exact hq)
                exact this
              have hsome : 0 < L → ∃ g, a = some ⟨g, 0, none⟩ := HVN.out i L a c hlt hvi
              have HXC := Lib.hid hxc
              have HRD := Lib.hid hrd2
              have HSO := Lib.hid hsome
              have b1 : (0 : Int) ≤ (i : Int) := by omega
              have b2 : (i : Int) < (n : Int) := by omega
              clear hxo hxv hxc hrd hvi hL hrd2 hsome
              go_wp2_with fail
              go_loop [11] (fun s => ∃ k : Nat, k ≤ L ∧ s = .int .i64 k) (fun s => L - (intOf s).toNat)
              case atStart => exact ⟨0, Nat.zero_le _, rfl⟩
              case round =>
                obtain ⟨k, hk, rfl⟩ := hrel
                have hw1 : IntKind.i64.wrap ((i : Int) * 1000) = (i : Int) * 1000 := by rw [IntKind.wrap_i64]; omega
                rcases Nat.lt_or_ge k L with hkl | hkg
                · have hd2 : decide ((k : Int) < (L : Int)) = true := by simpa using hkl
                  obtain ⟨g, rfl⟩ := HSO.out (by omega)
                  have hw2 : IntKind.i64.wrap ((i : Int) * 1000 + (k : Int)) = (i : Int) * 1000 + (k : Int) := by rw [IntKind.wrap_i64]; omega
                  obtain ⟨M, hM⟩ : ∃ M, IntKind.u32.wrap ((i : Int) * 1000 + (k : Int)) = M := ⟨_, rfl⟩
                  have ck := HRD.out g rfl k hkl
                  have cx := HXC.out k _ (by rw [List.getElem?_append_left (by rw [mks_len]; exact hkl)]; exact mks_at hkl)
                  have hMk : mk32 i k = M := hM
                  rw [hMk] at ck cx
                  have hne : (M != M) = false := by simp
                  have b3 : (0 : Int) ≤ (k : Int) := by omega
                  have b4 : (k : Int) < (L : Int) := by omega
                  have b5 : (k : Int) < (L : Int) + 8 := by omega
                  clear hMk
                  go_wp2_with fail
                  exact ⟨⟨k + 1, hkl, by simp⟩, by simp [intOf]; omega⟩
                · have hd2 : decide ((k : Int) < (L : Int)) = false := by simp; omega
                  obtain rfl : k = L := by omega
                  go_wp2_with fail
                  go_loop [12] (fun s => ∃ q : Nat, q ≤ 8 ∧ s = .int .i64 q) (fun s => 8 - (intOf s).toNat)
                  case atStart => exact ⟨0, Nat.zero_le _, rfl⟩
                  case round =>
                    obtain ⟨q, hq, rfl⟩ := hrel
                    rcases Nat.lt_or_ge q 8 with hql | hqg
                    · have hd3 : decide ((q : Int) < 8) = true := by simp; omega
                      have hw0 : IntKind.i64.wrap (-1 - (i : Int)) = -1 - (i : Int) := by rw [IntKind.wrap_i64]; omega
                      have hw3 : IntKind.i64.wrap ((-1 - (i : Int)) * 1000) = (-1 - (i : Int)) * 1000 := by rw [IntKind.wrap_i64]; omega
                      have hw4 : IntKind.i64.wrap ((-1 - (i : Int)) * 1000 + (q : Int)) = (-1 - (i : Int)) * 1000 + (q : Int) := by rw [IntKind.wrap_i64]; omega
                      have hw5 : IntKind.i64.wrap ((k : Int) + (q : Int)) = (k : Int) + (q : Int) := by rw [IntKind.wrap_i64]; omega
                      obtain ⟨M, hM⟩ : ∃ M, IntKind.u32.wrap ((-1 - (i : Int)) * 1000 + (q : Int)) = M := ⟨_, rfl⟩
                      have cx := HXC.out (k + q) _ (by rw [List.getElem?_append_right (by rw [mks_len]; omega), mks_len, Nat.add_sub_cancel_left]; exact ngs_at hql)
                      have hMk : ng32 i q = M := hM
                      rw [hMk] at cx
                      have hne : (M != M) = false := by simp
                      have b3 : (0 : Int) ≤ (k : Int) + (q : Int) := by omega
                      have b5 : (k : Int) + (q : Int) < (k : Int) + 8 := by omega
                      have ht : ((k : Int) + (q : Int)).toNat = k + q := by omega
                      clear hMk
                      go_wp2_with fail
                      exact ⟨⟨q + 1, hql, by simp⟩, by simp [intOf]; omega⟩
                    · have hd3 : decide ((q : Int) < 8) = false := by simp; omega
                      obtain rfl : q = 8 := by omega
                      go_wp2_with fail
                      exact ⟨⟨i + 1, hlt, by simp⟩, by simp [intOf]; omega⟩
            · have hd : decide ((i : Int) < (n : Int)) = false := by simp; omega
              obtain rfl : n = i := by omega
              go_wp2_with fail
              go_ret
              exact ⟨rfl, HGR.out.only⟩
end Go.Proofs.Ytpoilgeffpedoaa
