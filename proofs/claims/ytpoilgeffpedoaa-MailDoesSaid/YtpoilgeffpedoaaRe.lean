import Derived.Test.YtpoilgeffpedoaaRc
/- The state at the beginning; plain facts for MailDoes' walk. -/
namespace Go.Proofs.Ytpoilgeffpedoaa
open Go.RowKit Go.Pen
attribute [local go_sem ↓] Go.wp_at_zero Go.wp_at_succ

theorem RefIs.lower {b b' : Nat} {w : World} {RB RQ : Nat} {RR : Nat → Nat} {n r : Nat} {V : Nat → Nat → Value} {q : Nat → Nat → List AMsg} (h : RefIs b w RB RQ RR n r V q) (hb : b' ≤ b) : RefIs b' w RB RQ RR n r V q :=
  ⟨h.box, h.rows, h.row, h.inj, h.que, h.apart, ⟨Nat.le_trans hb h.low.1, Nat.le_trans hb h.low.2.1, fun i hi => Nat.le_trans hb (h.low.2.2.1 i hi), fun i k g hi hk hg => Nat.le_trans hb (h.low.2.2.2 i k g hi hk hg)⟩⟩

theorem Ways.congr {b : Nat} {w : World} {D D' : Nat → Nat → Prop} {r : Nat → Nat} {σ : Nat → Nat → WaySt} (h : Ways b w D r σ) (hd : ∀ L k, D' L k → D L k) : Ways b w D' r σ :=
  ⟨fun L k hD => h.1 L k (hd L k hD), fun L k L' k' g h1 h2 => h.2.1 L k L' k' g (hd L k h1) (hd L' k' h2), fun L k hD => h.2.2 L k (hd L k hD)⟩

theorem bookIs_new {w : World} {B base : Nat} (hB : w.heap[B]? = some (.cells (bookCells (.slice none 0 0) (.slice none 0 0) (.slice none 0 0)) 63 (0, 0))) (hb : base ≤ B) : BookIs w B base 0 (fun _ => False) := by
  have nl : ∀ e sz tl, BkList e sz tl base w (.slice none 0 0) 0 (fun _ => .slice none 0 0) (fun _ => 0) := fun e sz tl =>
    ⟨World.ownsRow_nil _ _ _ _, fun _ => rfl, fun i hi => by omega, fun i j g hi => by omega, by omega, fun i hi => by omega⟩
  exact ⟨hb, _, _, _, 0, 0, 0, _, _, _, _, _, _, hB, nl 111 1 26, nl 89 4 34, nl 37 4 29, Nat.le_refl _, Nat.le_refl _, Nat.le_refl _, fun g ⟨i, hi, _⟩ => by omega, fun g ⟨i, hi, _⟩ => by omega, fun g ⟨i, hi, _⟩ => by omega⟩

def Sta.none (σ : Nat → Nat → WaySt) : Sta := { σ := σ, V := fun _ _ => .slice .none 0 0, QP := fun _ _ => [], QR := fun _ _ => [], U := fun _ => False, c := 0 }

theorem st_new {C : Cfg} {K : AMsg → Prop} {w : World} {σ : Nat → Nat → WaySt} (hb : C.b ≤ w.heap.size) (hbox : BoxIs w C.PB C.PL C.n C.r) (hlow : C.b ≤ C.PB) (hW : Ways C.b w C.D (fun _ => C.r) σ) (hσ : ∀ k, σ C.PL k = ⟨.none, 0, []⟩)
    (href : RefIs C.b w C.RB C.RQ C.RR C.n C.r (fun _ _ => .slice .none 0 0) (fun _ _ => [])) (hbook : BookIs w C.BB C.b 0 (fun _ => False)) (hn : 1 ≤ C.n ∧ C.n ≤ 8 ∧ 1 ≤ C.r ∧ C.r ≤ 64) : St C K w (Sta.none σ) := by
  refine ⟨hb, hbox, hlow, hW, href, fun i k hi hk => ?_, fun p g hp hg => ?_, hbook, fun g hg => hg.elim, fun p j m hp hm => ?_, fun p j m p' j' m' hp hp' hm => ?_, fun i k m hi hk hm => ?_, fun i k m hi hk hm => ?_, hn⟩
  · simp only [Sta.none, hσ]; rfl
  · simp only [Sta.none, hσ] at hg; cases hg
  · simp only [Sta.none, hσ] at hm; simp at hm
  · simp only [Sta.none, hσ] at hm; simp at hm
  · simp only [Sta.none] at hm; cases hm
  · simp only [Sta.none] at hm; cases hm
end Go.Proofs.Ytpoilgeffpedoaa
