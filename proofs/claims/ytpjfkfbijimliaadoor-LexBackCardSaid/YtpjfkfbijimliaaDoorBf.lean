/- LexBack's plain law: what is written of tokens is lexed as these tokens; what is lexed can be written. -/
import Derived.Test.YtpjfkfbijimliaaDoorBe
import Derived.Test.YtpjfkfbijimliaaDoorZl
namespace Go.Proofs.YtpjfkfbijimliaaDoor
open Go.RowKit Go.Pen

/-- what is written of a token -/
def wb (g : GTok) : Bytes := (fW g).1.data.toList
/-- the token that it is read as -/
def GTok.tok (g : GTok) (k : Nat) : Tok := ⟨g.kind.toNat, g.text.data.toList, g.number.toNat, k⟩

/-- numbers -/
theorem dec_dig : ∀ u : Nat, (Lib.decDigits u).all dig = true ∧ Lib.decDigits u ≠ [] ∧ num (Lib.decDigits u) = u := fun u => by
  induction u using Nat.strongRecOn with
  | ind u ih =>
    have hd : ∀ d : Fin 10, dig (UInt8.ofNat (48 + d.val)) = true ∧ (UInt8.ofNat (48 + d.val)).toNat - 48 = d.val := by decide
    by_cases h : u < 10
    · rw [Lib.decDigits_one h]
      obtain ⟨h1, h2⟩ := hd ⟨u, h⟩
      simp only [] at h1 h2
      refine ⟨by rw [List.all_cons, h1]; rfl, by simp, ?_⟩
      unfold num
      rw [numFrom_cons, numFrom_nil, numStep, h2]; omega
    · rw [Lib.decDigits, dif_neg h]
      obtain ⟨i1, i2, i3⟩ := ih (u / 10) (by omega)
      obtain ⟨h1, h2⟩ := hd ⟨u % 10, by omega⟩
      simp only [] at h1 h2
      refine ⟨by rw [List.all_append, i1, List.all_cons, h1]; rfl, by simp, ?_⟩
      have e : num (Lib.decDigits (u / 10) ++ [UInt8.ofNat (48 + u % 10)]) = numStep (num (Lib.decDigits (u / 10))) (UInt8.ofNat (48 + u % 10)) := by
        unfold num numFrom
        rw [List.foldl_append]; rfl
      rw [e, i3, numStep, h2]; omega

theorem tw_self {p : UInt8 → Bool} : ∀ {l : Bytes}, l.all p = true → l.takeWhile p = l
  | [], _ => rfl
  | c :: cs, h => by
    rw [List.all_cons, Bool.and_eq_true] at h
    rw [List.takeWhile_cons, if_pos h.1, tw_self h.2]

/-- a token alone: what begins, no blank ahead, the token -/
def Reads (x : Bytes) (g : GTok) : Prop := 1 ≤ x.length ∧ sk false x = 0 ∧ beg x = true ∧ ∀ k, tok k x = .ok (g.tok k, x.length)

set_option maxRecDepth 100000 in
theorem dig_facts (c : UInt8) : dig c = true → blk c = false ∧ (c == 45) = false :=
  byte_all (p := fun c => dig c = true → blk c = false ∧ (c == 45) = false) (by decide) c

theorem reads_num (g : GTok) (hk : g.kind = 2) (h0 : 0 ≤ g.number) (h1 : g.number ≤ 9223372036854775807) (ht : g.text.data.toList = []) : Reads (Lib.itoa g.number) g := by
  obtain ⟨u, hu⟩ : ∃ u : Nat, g.number = u := ⟨g.number.toNat, by omega⟩
  rw [hu, Lib.itoa_nonneg]
  obtain ⟨d1, d2, d3⟩ := dec_dig u
  obtain ⟨c, cs, hc⟩ : ∃ c cs, Lib.decDigits u = c :: cs := List.exists_cons_of_ne_nil d2
  rw [hc] at d1 d3 ⊢
  have hd : dig c = true := by rw [List.all_cons, Bool.and_eq_true] at d1; exact d1.1
  obtain ⟨f1, f2⟩ := dig_facts c hd
  refine ⟨by simp, by rw [sk, if_neg (by rw [f1]; decide), if_neg (by rw [f2]; simp)], by rw [beg, hd]; simp, fun k => ?_⟩
  rw [tok, if_pos hd, tw_self d1, d3, if_pos (by omega)]
  unfold GTok.tok
  rw [hk, hu, ht]
  rfl

set_option maxRecDepth 100000 in
theorem wch_facts (c : UInt8) : wch c = true → ldg c = true ∧ low c = c ∧ blk c = false ∧ (c == 45) = false ∧ (dig c = false → let_ c = true) :=
  byte_all (p := fun c => wch c = true → ldg c = true ∧ low c = c ∧ blk c = false ∧ (c == 45) = false ∧ (dig c = false → let_ c = true)) (by decide) c

theorem map_low : ∀ {l : Bytes}, l.all wch = true → l.map low = l
  | [], _ => rfl
  | c :: cs, h => by
    rw [List.all_cons, Bool.and_eq_true] at h
    rw [List.map_cons, (wch_facts c h.1).2.1, map_low h.2]

theorem reads_word (g : GTok) (hk : g.kind = 1) (hn : g.number = 0) (hw : wordB g.text.data.toList = true) : Reads g.text.data.toList g := by
  simp only [wordB, Bool.and_eq_true, decide_eq_true_eq] at hw
  obtain ⟨⟨⟨h1, h2⟩, h3⟩, h4⟩ := hw
  cases hx : g.text.data.toList with
  | nil => rw [hx] at h1; cases h1
  | cons c cs =>
    rw [hx] at h1 h2 h3 h4
    have hd : dig c = false := by simpa using h3
    have hc : wch c = true := by rw [List.all_cons, Bool.and_eq_true] at h4; exact h4.1
    obtain ⟨f1, f2, f3, f4, f5⟩ := wch_facts c hc
    have hl := f5 hd
    have htw : (c :: cs).takeWhile ldg = c :: cs := tw_self (by
      rw [List.all_eq_true] at h4 ⊢
      exact fun x hx => (wch_facts x (h4 x hx)).1)
    refine ⟨by simp, by rw [sk, if_neg (by rw [f3]; decide), if_neg (by rw [f4]; simp)], by rw [beg, hl]; simp, fun k => ?_⟩
    rw [tok, if_neg (by rw [hd]; decide), if_pos hl, htw, if_neg (by omega), map_low h4]
    unfold GTok.tok
    rw [hk, hn, hx]
    rfl

theorem reads_sign (g : GTok) (hk : g.kind = 4) (hn : g.number = 0) (hs : sgn g.text.data.toList = g.text.data.toList) (hne : g.text.data.toList ≠ []) : Reads g.text.data.toList g := by
  have hm : g.text.data.toList ∈ sgs := by have := sgn_mem (l := g.text.data.toList) (by rw [hs]; exact hne); rwa [hs] at this
  have key : ∀ x ∈ sgs, 1 ≤ x.length ∧ sk false x = 0 ∧ beg x = true ∧ ∀ k, tok k x = .ok (⟨4, x, 0, k⟩, x.length) := by
    intro x hx
    simp only [sgs, List.mem_cons, List.not_mem_nil, or_false] at hx
    rcases hx with rfl | rfl | rfl | rfl | rfl | rfl | rfl | rfl | rfl | rfl | rfl | rfl | rfl | rfl | rfl | rfl | rfl
    all_goals exact ⟨by decide, by decide, by decide, fun k => rfl⟩
  obtain ⟨k1, k2, k3, k4⟩ := key _ hm
  refine ⟨k1, k2, k3, fun k => ?_⟩
  rw [k4]
  unfold GTok.tok
  rw [hk, hn]
  rfl

/-- texts -/
theorem hex_back : ∀ n : Fin 16, hexv (hexd n.val) = n.val := by decide

theorem esc_x (c : UInt8) (r : Bytes) : esc (120 :: hexd (c.toNat / 16) :: hexd (c.toNat % 16) :: r) = some (c, 3) := by
  have hc := c.toNat_lt
  have h1 := hex_back ⟨c.toNat / 16, by omega⟩
  have h2 := hex_back ⟨c.toNat % 16, by omega⟩
  simp only [] at h1 h2
  unfold esc
  simp only [show esc1 120 = none from rfl, show (120 : UInt8).toNat = 120 from rfl, if_true, h1, h2]
  rw [if_pos ⟨by omega, by omega⟩]
  have e : (16 * ((c.toNat / 16 : Nat) : Int) + ((c.toNat % 16 : Nat) : Int)).toNat = c.toNat := by omega
  rw [e]
  have : c.toNat.toUInt8 = c := by simp
  rw [this]

theorem txt_back : ∀ (l : Bytes) (f : Nat), (l.flatMap qcf ++ [39]).length ≤ f → txt f (l.flatMap qcf ++ [39]) = some (l, (l.flatMap qcf ++ [39]).length)
  | [], f, h => by
    cases f with
    | zero => simp at h
    | succ f => rfl
  | c :: cs, f, h => by
    have ih := txt_back cs
    generalize hR : cs.flatMap qcf ++ [39] = R at ih
    have hfm : (c :: cs).flatMap qcf ++ [39] = qcf c ++ R := by rw [List.flatMap_cons, List.append_assoc, hR]
    rw [hfm] at h ⊢
    by_cases h39 : c.toNat = 39
    · obtain rfl : c = 39 := UInt8.toNat_inj.1 h39
      have hq : qcf 39 = [39, 39] := rfl
      rw [hq] at h ⊢
      obtain ⟨f, rfl⟩ : ∃ i, f = i + 1 := ⟨f - 1, by simp at h; omega⟩
      show txt (f + 1) (39 :: 39 :: R) = _
      rw [txt, if_pos (show (39 : UInt8).toNat = 39 from rfl), if_pos (by simp), List.tail_cons, ih f (by simp at h; omega)]
      simp
    by_cases h92 : c.toNat = 92
    · obtain rfl : c = 92 := UInt8.toNat_inj.1 h92
      have hq : qcf 92 = [92, 92] := rfl
      rw [hq] at h ⊢
      obtain ⟨f, rfl⟩ : ∃ i, f = i + 1 := ⟨f - 1, by simp at h; omega⟩
      show txt (f + 1) (92 :: 92 :: R) = _
      rw [txt, if_neg (by decide), if_pos (show (92 : UInt8).toNat = 92 from rfl)]
      simp only [show esc (92 :: R) = some (92, 1) from rfl, List.drop_one, List.tail_cons]
      rw [ih f (by simp at h; omega)]
      simp
    by_cases h10 : c.toNat = 10
    · obtain rfl : c = 10 := UInt8.toNat_inj.1 h10
      have hq : qcf 10 = [92, 110] := rfl
      rw [hq] at h ⊢
      obtain ⟨f, rfl⟩ : ∃ i, f = i + 1 := ⟨f - 1, by simp at h; omega⟩
      show txt (f + 1) (92 :: 110 :: R) = _
      rw [txt, if_neg (by decide), if_pos (show (92 : UInt8).toNat = 92 from rfl)]
      simp only [show esc (110 :: R) = some (10, 1) from rfl, List.drop_one, List.tail_cons]
      rw [ih f (by simp at h; omega)]
      simp
    by_cases h13 : c.toNat = 13
    · obtain rfl : c = 13 := UInt8.toNat_inj.1 h13
      have hq : qcf 13 = [92, 114] := rfl
      rw [hq] at h ⊢
      obtain ⟨f, rfl⟩ : ∃ i, f = i + 1 := ⟨f - 1, by simp at h; omega⟩
      show txt (f + 1) (92 :: 114 :: R) = _
      rw [txt, if_neg (by decide), if_pos (show (92 : UInt8).toNat = 92 from rfl)]
      simp only [show esc (114 :: R) = some (13, 1) from rfl, List.drop_one, List.tail_cons]
      rw [ih f (by simp at h; omega)]
      simp
    by_cases h9 : c.toNat = 9
    · obtain rfl : c = 9 := UInt8.toNat_inj.1 h9
      have hq : qcf 9 = [92, 116] := rfl
      rw [hq] at h ⊢
      obtain ⟨f, rfl⟩ : ∃ i, f = i + 1 := ⟨f - 1, by simp at h; omega⟩
      show txt (f + 1) (92 :: 116 :: R) = _
      rw [txt, if_neg (by decide), if_pos (show (92 : UInt8).toNat = 92 from rfl)]
      simp only [show esc (116 :: R) = some (9, 1) from rfl, List.drop_one, List.tail_cons]
      rw [ih f (by simp at h; omega)]
      simp
    by_cases hx : c.toNat < 32 ∨ c.toNat = 127
    · have hq : qcf c = [92, 120, hexd (c.toNat / 16), hexd (c.toNat % 16)] := by rw [qcf, if_neg h39, if_neg h92, if_neg h10, if_neg h13, if_neg h9, if_pos hx]
      rw [hq] at h ⊢
      have he := esc_x c R
      generalize hexd (c.toNat / 16) = a at h he ⊢
      generalize hexd (c.toNat % 16) = b at h he ⊢
      obtain ⟨f, rfl⟩ : ∃ i, f = i + 1 := ⟨f - 1, by simp at h; omega⟩
      show txt (f + 1) (92 :: 120 :: a :: b :: R) = _
      rw [txt, if_neg (by decide), if_pos (show (92 : UInt8).toNat = 92 from rfl)]
      simp only [he, List.drop_succ_cons, List.drop_zero]
      rw [ih f (by simp at h; omega)]
      simp
    · have hq : qcf c = [c] := by rw [qcf, if_neg h39, if_neg h92, if_neg h10, if_neg h13, if_neg h9, if_neg hx]
      rw [hq] at h ⊢
      obtain ⟨f, rfl⟩ : ∃ i, f = i + 1 := ⟨f - 1, by simp at h; omega⟩
      show txt (f + 1) (c :: R) = _
      rw [txt, if_neg h39, if_neg h92, ih f (by simp at h; omega)]
      simp

theorem reads_text (g : GTok) (hk : g.kind = 3) (hn : g.number = 0) (hc : chkE g.text.data.toList = 0) : Reads (quf g.text.data.toList) g := by
  obtain ⟨hv, hl⟩ := chk_len hc
  generalize hx : g.text.data.toList = x at hv hl ⊢
  unfold quf
  have htx : txr (x.flatMap qcf ++ [39]) = .ok (x, (x.flatMap qcf ++ [39]).length) := by
    rw [txr, txt_back x _ (Nat.le_refl _)]
    simp only []
    rw [hv, if_neg (by decide), if_neg (by omega)]
  refine ⟨by simp, ?_, ?_, fun k => ?_⟩
  · rw [sk, if_neg (by decide), if_neg (by simp)]
  · rw [beg]; simp
  · rw [tok, if_neg (by decide), if_neg (by decide), if_pos (show (39 : UInt8).toNat = 39 from rfl), htx]
    unfold GTok.tok
    rw [hk, hn, hx]
    rfl

theorem reads_wb (g : GTok) (hf : g.fits) (ho : (fW g).2 = true) : Reads (wb g) g := by
  have htl : g.text.toList = g.text.data.toList := ByteArray.toList_eq ..
  unfold wb
  unfold fW at ho ⊢
  split
  · rename_i k2
    rw [if_pos k2] at ho
    simp only [Bool.and_eq_true, decide_eq_true_eq, List.isEmpty_iff] at ho
    exact reads_num g k2 ho.1 hf.2.1 (by rw [← htl]; exact ho.2)
  · rename_i k2
    rw [if_neg k2] at ho
    split
    · rename_i k1
      rw [if_pos k1] at ho
      simp only [Bool.and_eq_true, decide_eq_true_eq] at ho
      exact reads_word g k1 ho.1 ho.2
    · rename_i k1
      rw [if_neg k1] at ho
      split
      · rename_i k3
        rw [if_pos k3] at ho
        simp only [Bool.and_eq_true, decide_eq_true_eq] at ho
        have := reads_text g k3 ho.1 ho.2
        show Reads (prf g.text.data.toList) g
        rw [prf, if_pos ho.2]
        exact this
      · rename_i k3
        rw [if_neg k3] at ho
        split
        · rename_i k4
          rw [if_pos k4] at ho
          simp only [Bool.and_eq_true, decide_eq_true_eq, Bool.not_eq_true', List.isEmpty_eq_false_iff] at ho
          exact reads_sign g k4 ho.1 ho.2.2 (by rw [← htl]; exact ho.2.1)
        · rename_i k4
          rw [if_neg k4] at ho
          cases ho

/-- a token as it is read, its place aside -/
def Tok.no (t : Tok) : Tok := { t with at_ := 0 }

/-- what is written of tokens is read as these -/
theorem lxf_written : ∀ (gs : List GTok) (n k : Nat), (∀ g ∈ gs, g.fits) → gs.all (fun g => (fW g).2) = true → n + gs.length ≤ 4000 →
    ∃ ts, lxf n k (Lib.join (gs.map wb) [32]) = .ok ts ∧ ts.map Tok.no = gs.map (fun g => g.tok 0)
  | [], n, k, _, _, _ => ⟨[], by rw [List.map_nil, Lib.join_nil]; exact lxf_end rfl, rfl⟩
  | g :: gs, n, k, hf, ho, hn => by
    rw [List.all_cons, Bool.and_eq_true] at ho
    rw [List.length_cons] at hn
    obtain ⟨r1, r2, r3, r4⟩ := reads_wb g (hf g List.mem_cons_self) ho.1
    rw [List.map_cons, Lib.join_cons]
    generalize hx : wb g = x at r1 r2 r3 r4 ⊢
    -- what stands behind
    have hrest : ∃ ts, lxf (n + 1) (k + x.length) (Lib.joinTail [32] (gs.map wb)) = .ok ts ∧ ts.map Tok.no = gs.map (fun g => g.tok 0) := by
      cases gs with
      | nil => exact ⟨[], by rw [List.map_nil]; exact lxf_end rfl, rfl⟩
      | cons g2 gs2 =>
        obtain ⟨ts, h1, h2⟩ := lxf_written (g2 :: gs2) (n + 1) (k + x.length + 1) (fun y hy => hf y (List.mem_cons_of_mem _ hy)) ho.2 (by omega)
        refine ⟨ts, ?_, h2⟩
        have e : Lib.joinTail [32] ((g2 :: gs2).map wb) = 32 :: Lib.join ((g2 :: gs2).map wb) [32] := by
          rw [List.map_cons, Lib.join_cons]; simp [Lib.joinTail]
        rw [e, lxf_eq]
        rw [lxf_eq] at h1
        have hs : ∀ l, sk false (32 :: l) = 1 + sk false l := fun l => by rw [sk, if_pos (by decide)]
        rw [hs, Nat.add_comm 1, List.drop_succ_cons]
        have e2 : k + x.length + (sk false (Lib.join ((g2 :: gs2).map wb) [32]) + 1) = k + x.length + 1 + sk false (Lib.join ((g2 :: gs2).map wb) [32]) := by omega
        rw [e2]
        exact h1
    have hfol : Fol (x.drop x.length) (Lib.joinTail [32] (gs.map wb)) := by
      cases gs with
      | nil => exact .inr (.inl rfl)
      | cons g2 gs2 => exact .inr (.inr (.inl ⟨32, by simp [Lib.joinTail], by decide⟩))
    generalize Lib.joinTail [32] (gs.map wb) = R at hrest hfol ⊢
    obtain ⟨ts, h1, h2⟩ := hrest
    have hsk := sk_zero_cut r2 r1 (Nat.le_refl _) hfol
    rw [List.take_length] at hsk
    obtain ⟨hcut, hbeg⟩ := tok_cut r3 (r4 k) hfol
    rw [List.take_length] at hcut hbeg
    have hst := lxf_step (n := n) (k := k) (l := x ++ R) (t := g.tok k) (m := x.length) (by omega) (by rw [hsk]; exact hbeg) (by rw [hsk]; exact hcut)
    rw [hsk, List.drop_zero, List.drop_left] at hst
    have e0 : k + 0 + x.length = k + x.length := by omega
    rw [e0, h1] at hst
    exact ⟨g.tok k :: ts, hst, by rw [List.map_cons, List.map_cons, h2]; rfl⟩

theorem lexed_written {gs : List GTok} (hf : ∀ g ∈ gs, g.fits) (ho : gs.all (fun g => (fW g).2) = true) (hn : gs.length ≤ 4000) (hl : (Lib.join (gs.map wb) [32]).length ≤ 16384) :
    ∃ ts, lexed (Lib.join (gs.map wb) [32]) = .ok ts ∧ ts.map Tok.no = gs.map (fun g => g.tok 0) := by
  obtain ⟨ts, h1, h2⟩ := lxf_written gs 0 0 hf ho (by omega)
  exact ⟨ts, by rw [lexed_lxf hl]; exact h1, h2⟩
end Go.Proofs.YtpjfkfbijimliaaDoor
