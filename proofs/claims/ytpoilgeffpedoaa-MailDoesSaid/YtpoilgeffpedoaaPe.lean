/- SpoilWords 20, SpoilRow 38, SpoilUpdates 19: what was lent is written over; nothing else turns. -/
import Derived.Test.YtpoilgeffpedoaaPd
namespace Go.Proofs.Ytpoilgeffpedoaa
open Go.RowKit Go.Pen
attribute [local go_sem ↓] Go.wp_at_zero Go.wp_at_succ

/-- a block of a type and a size -/
def Shape (w : World) (g : Nat) (T : TypeId) (sz : Nat) : Prop := ∃ cur : Array Value, w.heap[g]? = some (.cells cur T (0, 0)) ∧ cur.size = sz

theorem Shape.set {w : World} {g k o : Nat} {T : TypeId} {sz : Nat} {x : Value} (h : Shape w g T sz) : Shape (w.setCell ⟨k, o, none⟩ x) g T sz := by
  obtain ⟨cur, h1, h2⟩ := h
  by_cases e : g = k
  · subst e
    exact ⟨_, heap_set_same h1, by simpa using h2⟩
  · exact ⟨cur, by rw [heap_set_ne e]; exact h1, h2⟩

theorem Shape.cell {w : World} {g o : Nat} {T : TypeId} {sz : Nat} (h : Shape w g T sz) (ho : o < sz) : (∃ y, w.cell? ⟨g, o, none⟩ = some y) ∧ w.frozen? ⟨g, o, none⟩ = false := by
  obtain ⟨cur, h1, h2⟩ := h
  exact ⟨⟨cur[o]'(by omega), cell_of_heap h1 (Array.getElem?_eq_getElem _)⟩, frozen_of_heap h1⟩

/-- blocks of S alone are written over, and keep their shapes -/
def Sp (S : Nat → Prop) (w w' : World) : Prop := Only S w w' ∧ ∀ k T sz, Shape w k T sz → Shape w' k T sz

theorem Sp.refl (S : Nat → Prop) (w : World) : Sp S w w := ⟨Only.refl _ _, fun _ _ _ h => h⟩
theorem Sp.trans {S : Nat → Prop} {w w1 w2 : World} (h : Sp S w w1) (h' : Sp S w1 w2) : Sp S w w2 := ⟨h.1.trans h'.1, fun k T sz hs => h'.2 k T sz (h.2 k T sz hs)⟩
theorem Sp.set {S : Nat → Prop} {w w' : World} (h : Sp S w w') {g o : Nat} {x : Value} (hg : S g) : Sp S w (w'.setCell ⟨g, o, none⟩ x) := ⟨h.1.set hg, fun k T sz hs => (h.2 k T sz hs).set⟩
theorem Only.wide {S S' : Nat → Prop} {w w' : World} (h : Only S w w') (hs : ∀ k, S k → S' k) : Only S' w w' := ⟨h.os, h.tape, h.output, h.size, fun g hg hn => h.block g hg fun e => hn (hs g e)⟩
theorem Sp.wide {S S' : Nat → Prop} {w w' : World} (h : Sp S w w') (hs : ∀ k, S k → S' k) : Sp S' w w' := ⟨h.1.wide hs, h.2⟩

set_option maxRecDepth 100000 in
set_option maxHeartbeats 2000000 in
theorem spoil_20 (g n c : Nat) (w : World) (hg : Shape w g 111 c) (hn : n ≤ c) (hc : c ≤ 10000000) :
    Calls Try.prog 20 #[.slice (some ⟨g, 0, none⟩) n c] w fun e w' => e = .returned (.tuple #[]) ∧ Sp (fun k => k = g) w w' := by
  have HG := Lib.hid hg
  clear hg
  go_enter Try.func20, Try.ntmps20
  go_wp2_with fail
  go_loopw [3] (fun i wr => ∃ k : Nat, k ≤ c ∧ i = .int .i64 k ∧ Sp (fun k => k = g) w wr) (fun i _ => c - (intOf i).toNat)
  case atStart => exact ⟨0, Nat.zero_le _, rfl, Sp.refl _ _⟩
  case round =>
    obtain ⟨k, hk, rfl, hsp⟩ := hrel
    by_cases hlt : k < c
    · obtain ⟨⟨y, hy⟩, hf⟩ := (hsp.2 g 111 c HG.out).cell hlt
      have HS := Lib.hid hsp
      clear hsp
      go_wp2
      go_roundw
      case rel => exact ⟨k + 1, hlt, by go_num, HS.out.set rfl⟩
      case measure => simp [intOf]; omega
    · obtain rfl : k = c := by omega
      go_wp2
      go_end0
      exact ⟨rfl, hsp⟩

set_option maxRecDepth 100000 in
set_option maxHeartbeats 2000000 in
theorem spoil_38 (g n c : Nat) (w : World) (hg : Shape w g 89 (c * 4)) (hn : n ≤ c) (hc : c ≤ 10000000) :
    Calls Try.prog 38 #[.slice (some ⟨g, 0, none⟩) n c] w fun e w' => e = .returned (.tuple #[]) ∧ Sp (fun k => k = g) w w' := by
  have HG := Lib.hid hg
  clear hg
  go_enter Try.func38, Try.ntmps38
  go_wp2_with fail
  go_loopw [3] (fun i wr => ∃ k : Nat, k ≤ c ∧ i = .int .i64 k ∧ Sp (fun k => k = g) w wr) (fun i _ => c - (intOf i).toNat)
  case atStart => exact ⟨0, Nat.zero_le _, rfl, Sp.refl _ _⟩
  case round =>
    obtain ⟨k, hk, rfl, hsp⟩ := hrel
    by_cases hlt : k < c
    · have hsh := hsp.2 g 89 _ HG.out
      obtain ⟨⟨y0, hy0⟩, hf0⟩ := hsh.cell (o := k * 4) (by omega)
      obtain ⟨⟨y1, hy1⟩, hf1⟩ := hsh.cell (o := k * 4 + 1) (by omega)
      obtain ⟨⟨y2, hy2⟩, hf2⟩ := hsh.cell (o := k * 4 + 2) (by omega)
      obtain ⟨⟨y3, hy3⟩, hf3⟩ := hsh.cell (o := k * 4 + 3) (by omega)
      have HS := Lib.hid hsp
      clear hsp hsh
      go_wp2
      go_roundw
      case rel => exact ⟨k + 1, hlt, by go_num, (((HS.out.set rfl).set rfl).set rfl).set rfl⟩
      case measure => simp [intOf]; omega
    · obtain rfl : k = c := by omega
      go_wp2
      go_end0
      exact ⟨rfl, hsp⟩

/-- a lent update, as far as its blocks go -/
def SpEl (w : World) (lo hi : Nat) (cur : Array Value) (j : Nat) : Prop :=
  ∃ rb rn rc lb ln lc, cur[j * 4]? = some (.slice (some ⟨rb, 0, none⟩) rn rc) ∧ rn ≤ rc ∧ rc ≤ 10000000 ∧ Shape w rb 89 (rc * 4) ∧ lo ≤ rb ∧ rb < hi ∧
    cur[j * 4 + 2]? = some (.slice (some ⟨lb, 0, none⟩) ln lc) ∧ ln ≤ lc ∧ lc ≤ 10000000 ∧ Shape w lb 111 lc ∧ lo ≤ lb ∧ lb < hi

def SpUps (w : World) (lo hi g n c : Nat) : Prop := lo ≤ g ∧ g < hi ∧ n ≤ c ∧ c ≤ 10000000 ∧ ∃ cur : Array Value, w.heap[g]? = some (.cells cur 37 (0, 0)) ∧ cur.size = c * 4 ∧ ∀ j, j < n → SpEl w lo hi cur j

/-- blocks of lists between lo and hi -/
def SpB (w : World) (lo hi : Nat) (k : Nat) : Prop := lo ≤ k ∧ k < hi ∧ ∃ (cur : Array Value) (t : TypeId), w.heap[k]? = some (.cells cur t (0, 0)) ∧ (t = 37 ∨ t = 89 ∨ t = 111)

theorem Shape.spB {w : World} {lo hi g : Nat} {T : TypeId} {sz : Nat} (h : Shape w g T sz) (h1 : lo ≤ g) (h2 : g < hi) (ht : T = 37 ∨ T = 89 ∨ T = 111) : SpB w lo hi g := by
  obtain ⟨cur, hc, -⟩ := h
  exact ⟨h1, h2, cur, T, hc, ht⟩

set_option maxRecDepth 100000 in
set_option maxHeartbeats 4000000 in
theorem spoil_19 (lo hi g n c : Nat) (w : World) (hx : SpUps w lo hi g n c) :
    Calls Try.prog 19 #[.slice (some ⟨g, 0, none⟩) n c] w fun e w' => e = .returned (.tuple #[]) ∧ Sp (SpB w lo hi) w w' := by
  obtain ⟨hlo, hhi, hnc, hcc, cur, hcur, hsz, hel⟩ := hx
  have hgb : SpB w lo hi g := ⟨hlo, hhi, cur, 37, hcur, .inl rfl⟩
  have HC := Lib.hid hcur
  have HZ := Lib.hid hsz
  have HE := Lib.hid hel
  clear hcur hsz hel
  go_enter Try.func19, Try.ntmps19
  go_wp2_with fail
  go_loopw [2] (fun i wr => ∃ k : Nat, k ≤ n ∧ i = .int .i64 k ∧ Sp (SpB w lo hi) w wr ∧ wr.heap[g]? = w.heap[g]?) (fun i _ => n - (intOf i).toNat)
  case atStart => exact ⟨0, Nat.zero_le _, rfl, Sp.refl _ _, rfl⟩
  case round =>
    obtain ⟨k, hk, rfl, hsp, hgg⟩ := hrel
    by_cases hlt : k < n
    · obtain ⟨rb, rn, rc, lb, ln, lc, a0, r1, r2, r3, r4, r5, a2, l1, l2, l3, l4, l5⟩ := HE.out k hlt
      have hcur := hgg.trans HC.out
      have c0 : wr.cell? ⟨g, k * 4, none⟩ = _ := cell_of_heap hcur a0
      have HS := Lib.hid hsp
      have HCR := Lib.hid hcur
      have A2 := Lib.hid a2
      have HR := Lib.hid (hsp.2 _ _ _ r3)
      have HR3 := Lib.hid r3
      have HL3 := Lib.hid l3
      have HGG := Lib.hid hgg
      clear hsp hcur a0 a2 r3 l3 hgg
      go_wp2_with fail
      refine (spoil_38 rb rn rc _ HR.out r1 r2).mono ?_
      rintro _ w1 ⟨rfl, hs1⟩
      have hg1 : w1.heap[g]? = w.heap[g]? := (hs1.1.block g (lt_of_heap HCR.out) fun e => by
        subst e
        obtain ⟨cur', h1, -⟩ := HR.out
        exact type_ne HCR.out h1 (by decide) rfl).trans HGG.out
      have hsp1 := HS.out.trans (hs1.wide (S' := SpB w lo hi) fun k e => by subst e; exact HR3.out.spB r4 r5 (.inr (.inl rfl)))
      have c2 : w1.cell? ⟨g, k * 4 + 2, none⟩ = _ := cell_of_heap (hg1.trans HC.out) A2.out
      have HSP1 := Lib.hid hsp1
      have HG1 := Lib.hid hg1
      clear c0 hs1 hg1 hsp1
      go_wp2_with fail
      refine (spoil_20 lb ln lc _ (HSP1.out.2 _ _ _ HL3.out) l1 l2).mono ?_
      rintro _ w2 ⟨rfl, hs2⟩
      have hg2 : w2.heap[g]? = w.heap[g]? := (hs2.1.block g (lt_of_heap (HG1.out.trans HC.out)) fun e => by
        subst e
        obtain ⟨cur', h1, -⟩ := HSP1.out.2 _ _ _ HL3.out
        exact type_ne (HG1.out.trans HC.out) h1 (by decide) rfl).trans HG1.out
      have hsp2 := HSP1.out.trans (hs2.wide (S' := SpB w lo hi) fun k e => by subst e; exact HL3.out.spB l4 l5 (.inr (.inr rfl)))
      have HSP2 := Lib.hid hsp2
      have HG2 := Lib.hid hg2
      clear c2 hs2 hg2 hsp2
      go_wp2
      go_roundw
      case rel => exact ⟨k + 1, hlt, by go_num, HSP2.out, HG2.out⟩
      case measure => simp [intOf]; omega
    · obtain rfl : k = n := by omega
      have hsh : Shape wr g 37 (c * 4) := ⟨cur, hgg.trans HC.out, HZ.out⟩
      have HSH := Lib.hid hsh
      have HS := Lib.hid hsp
      clear hsp hsh hgg
      go_wp2_with fail
      go_loopw [4] (fun i wk => ∃ m : Nat, m ≤ c ∧ i = .int .i64 m ∧ Sp (SpB w lo hi) w wk ∧ Shape wk g 37 (c * 4)) (fun i _ => c - (intOf i).toNat)
      case atStart => exact ⟨0, Nat.zero_le _, rfl, HS.out, HSH.out⟩
      case round =>
        obtain ⟨m, hm, rfl, hsp, hsh⟩ := hrel
        by_cases hlt : m < c
        · obtain ⟨⟨y0, hy0⟩, hf0⟩ := hsh.cell (o := m * 4) (by omega)
          obtain ⟨⟨y1, hy1⟩, hf1⟩ := hsh.cell (o := m * 4 + 1) (by omega)
          obtain ⟨⟨y2, hy2⟩, hf2⟩ := hsh.cell (o := m * 4 + 2) (by omega)
          obtain ⟨⟨y3, hy3⟩, hf3⟩ := hsh.cell (o := m * 4 + 3) (by omega)
          have HS := Lib.hid hsp
          have HSH := Lib.hid hsh
          clear hsp hsh
          go_wp2
          go_roundw
          case rel => exact ⟨m + 1, hlt, by go_num, (((HS.out.set hgb).set hgb).set hgb).set hgb, (((HSH.out.set).set).set).set⟩
          case measure => simp [intOf]; omega
        · obtain rfl : m = c := by omega
          go_wp2
          go_end0
          exact ⟨rfl, hsp⟩
end Go.Proofs.Ytpoilgeffpedoaa
