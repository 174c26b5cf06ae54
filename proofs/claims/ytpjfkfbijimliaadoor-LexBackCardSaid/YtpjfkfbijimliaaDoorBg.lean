/- LexBack's plain law: what is lexed can be written, and is read again. -/
import Derived.Test.YtpjfkfbijimliaaDoorBf
namespace Go.Proofs.YtpjfkfbijimliaaDoor
open Go.RowKit Go.Pen

theorem sgn_again {l : Bytes} (h : sgn l ≠ []) : sgn (sgn l) = sgn l := by
  have hm := sgn_mem h
  have hall : ∀ x ∈ sgs, sgn x = x := by decide
  exact hall _ hm

theorem beg_sign {c : UInt8} {cs : Bytes} (hb : beg (c :: cs) = true) (h1 : ¬ dig c = true) (h2 : ¬ let_ c = true) (h3 : ¬ c.toNat = 39) : sgn (c :: cs) ≠ [] := by
  intro e
  have h3' : (c == 39) = false := by rw [beq_eq_false_iff_ne]; intro e; exact h3 (by rw [e]; rfl)
  rw [beg] at hb
  simp [h1, h2, h3', e] at hb

theorem fW_2 (t : ByteArray) (n a : Int) : (fW ⟨2, t, n, a⟩).2 = (decide (0 ≤ n) && t.toList.isEmpty) := rfl
theorem fW_1 (t : ByteArray) (n a : Int) : (fW ⟨1, t, n, a⟩).2 = (decide (n = 0) && wordB t.data.toList) := rfl
theorem fW_3 (t : ByteArray) (n a : Int) : (fW ⟨3, t, n, a⟩).2 = (decide (n = 0) && decide (chkE t.data.toList = 0)) := rfl
theorem fW_4 (t : ByteArray) (n a : Int) : (fW ⟨4, t, n, a⟩).2 = (decide (n = 0) && (!t.toList.isEmpty && decide (sgn t.data.toList = t.data.toList))) := rfl
theorem zero_fits (k a : Nat) (x : Bytes) (h : x.length ≤ 1000) : (Tok.g ⟨k, x, 0, a⟩).fits := by
  refine ⟨by show (-9223372036854775808 : Int) ≤ ((0 : Nat) : Int); decide, by show ((0 : Nat) : Int) ≤ 9223372036854775807; decide, ?_⟩
  show x.toArray.size ≤ 9223372036854775807
  simp; omega

theorem tok_writes {k m : Nat} {l : Bytes} {t : Tok} (hb : beg l = true) (h : tok k l = .ok (t, m)) : (fW t.g).2 = true ∧ t.g.fits := by
  cases l with
  | nil => cases hb
  | cons c cs =>
    rw [tok] at h
    split at h
    · rename_i hd
      split at h
      · rename_i hn
        cases h
        refine ⟨?_, ?_⟩
        · generalize num ((c :: cs).takeWhile dig) = N at hn ⊢
          refine (fW_2 ⟨([] : Bytes).toArray⟩ N k).trans ?_
          rw [str_ne_empty, decide_eq_true (by omega)]
          rfl
        · generalize num ((c :: cs).takeWhile dig) = N at hn ⊢
          refine ⟨by show (-9223372036854775808 : Int) ≤ (N : Int); omega, by show (N : Int) ≤ 9223372036854775807; omega, ?_⟩
          show ([] : Bytes).toArray.size ≤ 9223372036854775807
          simp
      · cases h
    · rename_i hd
      split at h
      · rename_i hl
        split at h
        · cases h
        · rename_i hn
          cases h
          have hall := tw_all ldg (c :: cs)
          have hx : (c :: cs).takeWhile ldg = c :: cs.takeWhile ldg := by rw [List.takeWhile_cons, if_pos (by simp [ldg, hl])]
          generalize (c :: cs).takeWhile ldg = x at hall hx hn ⊢
          have hw : wordB (x.map low) = true := by
            simp only [wordB, Bool.and_eq_true, decide_eq_true_eq]
            refine ⟨⟨⟨?_, ?_⟩, ?_⟩, ?_⟩
            · rw [hx]; rfl
            · rw [List.length_map]; omega
            · rw [hx, List.map_cons, List.headD_cons, let_low hl]; rfl
            · rw [List.all_eq_true]
              intro y hy
              obtain ⟨z, hz, rfl⟩ := List.mem_map.1 hy
              exact low_wch (hall z hz)
          refine ⟨?_, zero_fits _ _ _ (by rw [List.length_map]; omega)⟩
          refine (fW_1 ⟨(x.map low).toArray⟩ 0 k).trans ?_
          show (decide ((0 : Int) = 0) && wordB (x.map low)) = true
          rw [hw]; rfl
      · rename_i hl
        split at h
        · rename_i h39
          split at h
          · cases h
          · rename_i t2 n2 hx
            cases h
            rw [txr] at hx
            split at hx
            · cases hx
            · rename_i t3 n3 ht
              split at hx
              · cases hx
              · rename_i hv
                split at hx
                · cases hx
                · rename_i hlen
                  cases hx
                  have hc : chkE t2 = 0 := by rw [chkE, if_neg hv, if_neg hlen]
                  refine ⟨?_, zero_fits _ _ _ (by omega)⟩
                  refine (fW_3 ⟨t2.toArray⟩ 0 k).trans ?_
                  show (decide ((0 : Int) = 0) && decide (chkE t2 = 0)) = true
                  rw [hc]; rfl
        · rename_i h39
          cases h
          have hne := beg_sign hb hd hl h39
          have hag := sgn_again hne
          have hlen := sgn_fix hag
          generalize sgn (c :: cs) = x at hne hag hlen ⊢
          refine ⟨?_, zero_fits _ _ _ (by omega)⟩
          refine (fW_4 ⟨x.toArray⟩ 0 k).trans ?_
          have he : x.isEmpty = false := by simpa using hne
          rw [str_ne_empty, he]
          show (decide ((0 : Int) = 0) && (!false && decide (sgn x = x))) = true
          rw [hag]; simp

theorem lxf_writes : ∀ (f n k : Nat) (l : Bytes) (ts : List Tok), l.length < f → n ≤ 4000 → lxf n k l = .ok ts → n + ts.length ≤ 4000 ∧ ∀ t ∈ ts, (fW t.g).2 = true ∧ t.g.fits
  | 0, _, _, _, _, h, _, _ => by omega
  | f + 1, n, k, l, ts, hf, hn, h => by
    rcases lxf_ok h with ⟨rfl, h1⟩ | ⟨t, m, us, rfl, h4, hb, ht, hr⟩
    · exact ⟨by simpa using hn, by simp⟩
    · have hle := tok_le hb ht
      rw [List.length_drop] at hle
      obtain ⟨i1, i2⟩ := lxf_writes f (n + 1) _ _ us (by rw [List.length_drop, List.length_drop]; omega) (by omega) hr
      refine ⟨by rw [List.length_cons]; omega, fun x hx => ?_⟩
      rcases List.mem_cons.1 hx with rfl | hx
      · exact tok_writes hb ht
      · exact i2 x hx

theorem lexed_writes {l : Bytes} {ts : List Tok} (h : lexed l = .ok ts) : ts.length ≤ 4000 ∧ (∀ g ∈ ts.map Tok.g, g.fits) ∧ (ts.map Tok.g).all (fun g => (fW g).2) = true := by
  have hl : l.length ≤ 16384 := by
    rw [lexed] at h
    split at h
    · cases h
    · omega
  rw [lexed_lxf hl] at h
  obtain ⟨h1, h2⟩ := lxf_writes (l.length + 1) 0 0 l ts (by omega) (by omega) h
  refine ⟨by omega, fun g hg => ?_, ?_⟩
  · obtain ⟨t, ht, rfl⟩ := List.mem_map.1 hg
    exact (h2 t ht).2
  · rw [List.all_eq_true]
    intro g hg
    obtain ⟨t, ht, rfl⟩ := List.mem_map.1 hg
    exact (h2 t ht).1

/-- tokens, their places aside, as they are compared -/
theorem to_zero {ts : List Tok} {gs : List GTok} (hf : ∀ g ∈ gs, 0 ≤ g.kind ∧ 0 ≤ g.number) (h : ts.map Tok.no = gs.map (fun g => g.tok 0)) : (ts.map Tok.g).map (GTok.to 0) = gs.map (GTok.to 0) := by
  have h2 : (ts.map Tok.no).map Tok.g = (gs.map (fun g => g.tok 0)).map Tok.g := by rw [h]
  rw [List.map_map, List.map_map] at h2
  have e1 : (ts.map Tok.g).map (GTok.to 0) = ts.map (Tok.g ∘ Tok.no) := by rw [List.map_map]; rfl
  have e2 : gs.map (GTok.to 0) = gs.map (Tok.g ∘ fun g => g.tok 0) := by
    refine List.map_congr_left fun g hg => ?_
    obtain ⟨h0, h1⟩ := hf g hg
    obtain ⟨k, t, n, a⟩ := g
    simp only [] at h0 h1
    simp only [Function.comp, GTok.to, GTok.tok, Tok.g]
    rw [Int.toNat_of_nonneg h0, Int.toNat_of_nonneg h1]
    rfl
  rw [e1, e2, h2]

/-- a token that can be written is of some kind, and its number is not less than 0 -/
theorem fW_pos {g : GTok} (ho : (fW g).2 = true) : 0 ≤ g.kind ∧ 0 ≤ g.number := by
  unfold fW at ho
  split at ho
  · rename_i k2
    simp only [Bool.and_eq_true, decide_eq_true_eq] at ho
    omega
  · split at ho
    · simp only [Bool.and_eq_true, decide_eq_true_eq] at ho
      omega
    · split at ho
      · simp only [Bool.and_eq_true, decide_eq_true_eq] at ho
        omega
      · split at ho
        · simp only [Bool.and_eq_true, decide_eq_true_eq] at ho
          omega
        · cases ho

/-- what Join writes, read again -/
theorem join_back {gs : List GTok} (hf : ∀ g ∈ gs, g.fits) (h0 : (joinR fW gs).2 = 0) (hl : (joinR fW gs).1.length ≤ 16384) :
    ∃ ts, lexed (joinR fW gs).1 = .ok ts ∧ (ts.map Tok.g).map (GTok.to 0) = gs.map (GTok.to 0) := by
  unfold joinR at h0 hl ⊢
  split at h0
  · rename_i ho
    rw [if_pos ho] at hl ⊢
    split at h0
    · cases h0
    · rename_i hn
      rw [if_neg hn] at hl ⊢
      obtain ⟨ts, h1, h2⟩ := lexed_written hf ho (by omega) hl
      exact ⟨ts, h1, to_zero (fun g hg => fW_pos (List.all_eq_true.1 ho g hg)) h2⟩
  · cases h0

theorem lex_join {l : Bytes} {ts : List Tok} (h : lexed l = .ok ts) : (joinR fW (ts.map Tok.g)).2 = 0 := by
  obtain ⟨h1, h2, h3⟩ := lexed_writes h
  rw [joinR, if_pos h3, if_neg (by rw [List.length_map]; omega)]
end Go.Proofs.YtpjfkfbijimliaaDoor
