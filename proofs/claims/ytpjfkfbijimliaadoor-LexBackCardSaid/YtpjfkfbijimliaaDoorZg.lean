/- Lex, whatever it answers: the tokens, the place, the error. -/
import Derived.Test.YtpjfkfbijimliaaDoorZc
namespace Go.Proofs.YtpjfkfbijimliaaDoor
open Go.RowKit Go.Pen

def Res.toks : Res → List Tok
  | .ok ts => ts
  | .err _ _ => []
def Res.place : Res → Nat
  | .ok _ => 0
  | .err a _ => a
def Res.code : Res → Nat
  | .ok _ => 0
  | .err _ e => e

theorem lex_any (s : ByteArray) (w : World) (hg : Glob w) (h10 : 10 ≤ w.heap.size) :
    Calls Tryd.prog 11 #[.string s] w fun e w' => ∃ v, e = .returned (.tuple #[v, .int .i64 (lexed s.data.toList).place, .int .u16 (lexed s.data.toList).code]) ∧
      w'.ownsRow w.heap.size 37 4 v (lexed s.data.toList).toks.length (toksc (lexed s.data.toList).toks) ∧ Below w.heap.size w w' := by
  refine (lex_11 s w hg h10).mono ?_
  intro e w' h
  unfold LexPost at h
  cases hl : lexed s.data.toList with
  | ok ts =>
    rw [hl] at h
    obtain ⟨v, he, ho, hb⟩ := h
    exact ⟨v, he, ho, hb⟩
  | err a c =>
    rw [hl] at h
    exact ⟨_, h.1, World.ownsRow_nil _ _ _ _, h.2⟩
end Go.Proofs.YtpjfkfbijimliaaDoor
