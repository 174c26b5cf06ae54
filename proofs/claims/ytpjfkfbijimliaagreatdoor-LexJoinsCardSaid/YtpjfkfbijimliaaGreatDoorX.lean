import Derived.Test.YtpjfkfbijimliaaGreatDoorW
namespace Go.Proofs.YtpjfkfbijimliaaGreatDoor
open Go.RowKit Go.Pen

/-- the chapter's example -/
def exText : Bytes := [83, 69, 76, 69, 67, 84, 32, 97, 46, 98, 44, 32, 39, 105, 116, 39, 39, 115, 39, 32, 70, 82, 79, 77, 32, 116, 32, 45, 45, 32, 120]
def exToks : List Tok := [⟨1, [115, 101, 108, 101, 99, 116], 0, 0⟩, ⟨1, [97], 0, 7⟩, ⟨4, [46], 0, 8⟩, ⟨1, [98], 0, 9⟩, ⟨4, [44], 0, 10⟩, ⟨3, [105, 116, 39, 115], 0, 12⟩, ⟨1, [102, 114, 111, 109], 0, 20⟩, ⟨1, [116], 0, 25⟩]
def exBack : Bytes := [115, 101, 108, 101, 99, 116, 32, 97, 32, 46, 32, 98, 32, 44, 32, 39, 105, 116, 39, 39, 115, 39, 32, 102, 114, 111, 109, 32, 116]

theorem ex_lexed : lexed exText = .ok exToks := by decide +kernel

def Tok.g (t : Tok) : GTok := ⟨t.kind, ⟨t.text.toArray⟩, t.number, t.at_⟩

theorem toksc_at (ts : List Tok) : ∀ i t, ts[i]? = some t → (toksc ts)[i * 4]? = some (.int .u8 t.kind) ∧ (toksc ts)[i * 4 + 1]? = some (.string ⟨t.text.toArray⟩) ∧ (toksc ts)[i * 4 + 2]? = some (.int .i64 t.number) ∧ (toksc ts)[i * 4 + 3]? = some (.int .i64 t.at_) := by
  induction ts with
  | nil => intro i t h; simp at h
  | cons x xs ih =>
    intro i t h
    cases i with
    | zero => simp at h; subst h; exact ⟨rfl, rfl, rfl, rfl⟩
    | succ i =>
      rw [List.getElem?_cons_succ] at h
      have := ih i t h
      rw [show (i + 1) * 4 = i * 4 + 4 by omega]
      exact this

theorem toks_at {w : World} {base b c : Nat} {ts : List Tok} (ho : w.ownsRow base 34 4 (.slice (some ⟨b, 0, none⟩) ts.length c) ts.length (toksc ts)) : ToksAt w b 0 (ts.map Tok.g) := by
  obtain ⟨-, -, -, hc⟩ := ownsRow_heap ho
  intro i g hg
  rw [List.getElem?_map] at hg
  obtain ⟨t, ht, rfl⟩ := Option.map_eq_some_iff.1 hg
  obtain ⟨a0, a1, a2, a3⟩ := toksc_at ts i t ht
  simp only [Nat.zero_add]
  exact ⟨hc _ _ a0, hc _ _ a1, hc _ _ a2, hc _ _ a3⟩

/-- what is written, of words, signs and plain texts -/
def fK (g : GTok) : ByteArray × Bool :=
  if g.kind = 1 then (g.text, wordB g.text.data.toList) else if g.kind = 4 then (g.text, decide (sgn g.text.data.toList = g.text.data.toList)) else (⟨(prt g.text.data.toList).toArray⟩, decide (chkE g.text.data.toList = 0))

theorem ex_join : joinR fK (exToks.map Tok.g) = (exBack, 0) := by decide +kernel
theorem ex_len : (Lib.join ((exToks.map Tok.g).map fun g => (fK g).1.data.toList) [32]).length ≤ 140737488355328 := by decide +kernel

theorem wrt_word {g : GTok} (hk : g.kind = 1) (hn : g.number = 0) : Wrt fK g := by
  intro w _ _
  have := written_word g.text g.at_ w
  unfold GTok.val fK
  rw [hk, hn, if_pos rfl]
  exact this

theorem wrt_sign {g : GTok} (hk : g.kind = 4) (hn : g.number = 0) (hne : g.text.toList.isEmpty = false) : Wrt fK g := by
  intro w hg h11
  have := written_sign g.text g.at_ w hne hg.spaces h11
  unfold GTok.val fK
  rw [hk, hn, if_neg (by decide), if_pos rfl]
  exact this

theorem wrt_text {g : GTok} (hk : g.kind = 3) (hn : g.number = 0) (hs : g.text.size ≤ 9223372036854775807) (hp : ∀ c ∈ g.text.data.toList, plainCh c = true) : Wrt fK g := by
  intro w hg h11
  have := written_text g.text g.at_ w hs hg.tabs h11 hp
  unfold GTok.val fK
  rw [hk, hn, if_neg (by decide), if_neg (by decide)]
  exact this

theorem ex_wrt : ∀ g ∈ exToks.map Tok.g, Wrt fK g := by
  intro g hg
  simp only [exToks, List.map_cons, List.map_nil, List.mem_cons, List.not_mem_nil, or_false] at hg
  rcases hg with rfl | rfl | rfl | rfl | rfl | rfl | rfl | rfl
  · exact wrt_word rfl rfl
  · exact wrt_word rfl rfl
  · exact wrt_sign rfl rfl (by decide +kernel)
  · exact wrt_word rfl rfl
  · exact wrt_sign rfl rfl (by decide +kernel)
  · exact wrt_text rfl rfl (by decide +kernel) (by decide +kernel)
  · exact wrt_word rfl rfl
  · exact wrt_word rfl rfl

set_option maxRecDepth 100000 in
set_option maxHeartbeats 4000000 in
theorem known_13 (w : World) (hg : Glob w) (h11 : 10 ≤ w.heap.size) :
    Calls Tryz.prog 7 #[] w fun e w' => e = .returned (.bool true) ∧ Below w.heap.size w w' := by
  obtain ⟨H, hH⟩ : ∃ H, w.heap.size = H := ⟨_, rfl⟩
  have hl := lex_11 ⟨exText.toArray⟩ w hg h11
  have HL := Lib.hid hl
  have HH := Lib.hid hH
  have HG := Lib.hid hg
  clear hl hg hH
  go_enter Tryz.func7, Tryz.ntmps7
  go_wp2_with fail
  refine HL.out.mono ?_
  intro e w1 hp
  have hx : (⟨exText.toArray⟩ : ByteArray).data.toList = exText := rfl
  rw [LexPost, hx, ex_lexed] at hp
  obtain ⟨v, rfl, ho, hb⟩ := hp
  obtain ⟨b, c, rfl⟩ : ∃ b c, v = .slice (some ⟨b, 0, none⟩) exToks.length c := by
    rcases ho.2 with ⟨-, h⟩ | ⟨g, cap, cur, h, -⟩
    · exact absurd h (by decide)
    · exact ⟨g, cap, h⟩
  obtain ⟨hbl, -, -, hc⟩ := ownsRow_heap ho
  have c25 := hc 25 (.string ⟨#[102, 114, 111, 109]⟩) rfl
  have c27 := hc 27 (.int .i64 20) rfl
  have hj := join_15 fK (exToks.map Tok.g) b 0 c w1 (HG.out.below hb (by have := HH.out; omega)) (by have := hb.size; omega) (by decide) hbl (toks_at ho) (by decide) ex_wrt ex_len
  rw [ex_join] at hj
  have hl8 : (exToks.map Tok.g).length = 8 := rfl
  have hl8' : exToks.length = 8 := rfl
  rw [hl8] at hj
  rw [hl8']
  have HJ := Lib.hid hj
  have HB := Lib.hid hb
  clear hj hb hc ho hl8 hl8' hx
  go_wp2_with fail
  refine HJ.out.mono ?_
  rintro _ w2 ⟨rfl, hb2⟩
  have d25 := (hb2.cell (p := ⟨b, 25, none⟩) hbl).trans c25
  have d27 := (hb2.cell (p := ⟨b, 27, none⟩) hbl).trans c27
  have HB2 := Lib.hid (HB.out.trans (hb2.mono HB.out.size))
  unfold exBack
  clear c25 c27 hb2
  go_wp2_with fail
  go_ret
  exact ⟨rfl, HB2.out⟩
end Go.Proofs.YtpjfkfbijimliaaGreatDoor
