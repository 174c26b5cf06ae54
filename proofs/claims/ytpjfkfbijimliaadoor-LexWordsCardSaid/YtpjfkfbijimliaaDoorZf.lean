/- lex.Reserved; plain: the words in the text of the reserved ones. -/
import Derived.Test.YtpjfkfbijimliaaDoorZe
namespace Go.Proofs.YtpjfkfbijimliaaDoor
open Go.RowKit Go.Pen

def rtxt : Bytes := [32, 97, 108, 108, 32, 97, 110, 100, 32, 97, 115, 32, 97, 115, 99, 32, 98, 101, 103, 105, 110, 32, 98, 111, 111, 108, 32, 98, 121, 32, 99, 97, 115, 101, 32, 99, 111, 97, 108, 101, 115, 99, 101, 32, 99, 111, 109, 109, 105, 116, 32, 99, 111, 117, 110, 116, 32, 99, 114, 101, 97, 116, 101, 32, 100, 101, 108, 101, 116, 101, 32, 100, 101, 115, 99, 32, 100, 105, 115, 116, 105, 110, 99, 116, 32, 100, 114, 111, 112, 32, 101, 108, 115, 101, 32, 101, 110, 100, 32, 101, 120, 99, 101, 112, 116, 32, 101, 120, 105, 115, 116, 115, 32, 102, 97, 108, 115, 101, 32, 102, 114, 111, 109, 32, 103, 114, 111, 117, 112, 32, 104, 97, 118, 105, 110, 103, 32, 105, 110, 32, 105, 110, 115, 101, 114, 116, 32, 105, 110, 116, 32, 105, 110, 116, 101, 114, 115, 101, 99, 116, 32, 105, 110, 116, 111, 32, 105, 115, 32, 106, 111, 105, 110, 32, 108, 101, 102, 116, 32, 108, 101, 110, 103, 116, 104, 32, 108, 105, 109, 105, 116, 32, 109, 97, 116, 101, 114, 105, 97, 108, 105, 122, 101, 100, 32, 109, 97, 120, 32, 109, 105, 110, 32, 109, 117, 116, 117, 97, 108, 108, 121, 32, 110, 111, 116, 32, 110, 117, 108, 108, 32, 111, 102, 32, 111, 102, 102, 115, 101, 116, 32, 111, 110, 32, 111, 114, 32, 111, 114, 100, 101, 114, 32, 114, 101, 99, 117, 114, 115, 105, 118, 101, 32, 114, 111, 108, 108, 98, 97, 99, 107, 32, 115, 101, 108, 101, 99, 116, 32, 115, 117, 98, 115, 99, 114, 105, 98, 101, 32, 115, 117, 109, 32, 116, 97, 98, 108, 101, 32, 116, 101, 120, 116, 32, 116, 104, 101, 110, 32, 116, 114, 117, 101, 32, 117, 110, 105, 111, 110, 32, 118, 97, 108, 117, 101, 115, 32, 118, 105, 101, 119, 32, 119, 104, 101, 110, 32, 119, 104, 101, 114, 101, 32, 119, 105, 116, 104, 32]

def rtOf (ws : List Bytes) : Bytes := 32 :: ws.flatMap (· ++ [32])
theorem rtxt_eq : rtxt = rtOf rws := by decide +kernel

theorem pre_word : ∀ (t w : Bytes) (r : Bytes), (32 : UInt8) ∉ t → (32 : UInt8) ∉ w → (t ++ [32]) <+: (w ++ 32 :: r) → t = w
  | [], [], _, _, _, _ => rfl
  | [], c :: w, r, _, hw, h => by
    simp at h
    exact absurd (by rw [h]; simp) hw
  | c :: t, [], r, ht, _, h => by
    simp at h
    exact absurd (by rw [h.1]; simp) ht
  | c :: t, d :: w, r, ht, hw, h => by
    simp only [List.cons_append, List.cons_prefix_cons] at h
    rw [h.1, pre_word t w r (fun e => ht (List.mem_cons_of_mem _ e)) (fun e => hw (List.mem_cons_of_mem _ e)) h.2]

theorem inf_skip : ∀ (w r x : Bytes), (32 : UInt8) ∉ w → (32 :: x) <:+: (w ++ r) → (32 :: x) <:+: r
  | [], r, x, _, h => h
  | c :: w, r, x, hw, h => by
    rw [List.cons_append, List.infix_cons_iff] at h
    rcases h with h | h
    · rw [List.cons_prefix_cons] at h
      exact absurd (by rw [← h.1]; simp) hw
    · exact inf_skip w r x (fun e => hw (List.mem_cons_of_mem _ e)) h

theorem inf_words : ∀ (ws : List Bytes) (t : Bytes), (∀ w ∈ ws, (32 : UInt8) ∉ w) → (32 : UInt8) ∉ t → (32 :: (t ++ [32])) <:+: rtOf ws → t ∈ ws
  | [], t, _, _, h => by
    have := h.length_le
    simp [rtOf] at this
  | w :: ws, t, hws, ht, h => by
    have hw := hws w List.mem_cons_self
    have e : rtOf (w :: ws) = 32 :: (w ++ rtOf ws) := by simp [rtOf]
    rw [e, List.infix_cons_iff] at h
    rcases h with h | h
    · rw [List.cons_prefix_cons] at h
      have := pre_word t w _ ht hw (by simpa [rtOf] using h.2)
      rw [this]; exact List.mem_cons_self
    · exact List.mem_cons_of_mem _ (inf_words ws t (fun x hx => hws x (List.mem_cons_of_mem _ hx)) ht (inf_skip w _ _ hw h))

theorem rws_blank : ∀ w ∈ rws, (32 : UInt8) ∉ w := by decide +kernel
theorem rws_in : ∀ w ∈ rws, Lib.contains rtxt (32 :: (w ++ [32])) = true := by decide +kernel
theorem rws_words : ∀ w ∈ rws, wordB w = true := by decide +kernel

theorem inf_of_index : ∀ (l sub : Bytes), 0 ≤ Lib.index l sub → sub <:+: l
  | [], sub, h => by
    rw [Lib.index] at h
    split at h
    · rename_i he
      rw [List.isEmpty_iff.1 he]; exact List.infix_rfl
    · omega
  | b :: l, sub, h => by
    rw [Lib.index] at h
    split at h
    · rename_i hp
      exact (List.isPrefixOf_iff_prefix.1 hp).isInfix
    · split at h
      · omega
      · rename_i hne
        have h0 := Lib.index_ge l sub
        have : 0 ≤ Lib.index l sub := by
          have : Lib.index l sub ≠ -1 := fun e => hne (by rw [e]; rfl)
          omega
        exact List.infix_cons_iff.2 (.inr (inf_of_index l sub this))

theorem word_blank {t : Bytes} (h : wordB t = true) : (32 : UInt8) ∉ t := by
  intro hm
  rw [wordB] at h
  simp only [Bool.and_eq_true] at h
  have := List.all_eq_true.1 h.2 32 hm
  revert this; decide

theorem reserved_eq {t : Bytes} (hw : wordB t = true) : Lib.contains rtxt (32 :: (t ++ [32])) = rws.contains t := by
  cases hc : rws.contains t
  · rw [Bool.eq_false_iff]
    intro h
    rw [Lib.contains, decide_eq_true_eq] at h
    have h2 := inf_of_index _ _ h
    rw [rtxt_eq] at h2
    have h3 := inf_words rws t rws_blank (word_blank hw) h2
    rw [Bool.eq_false_iff] at hc
    exact hc (List.contains_iff_mem.2 h3)
  · exact rws_in t (List.contains_iff_mem.1 hc)

theorem reserved_word {t : Bytes} (h : wordB t = false) : rws.contains t = false := by
  rw [Bool.eq_false_iff]
  intro hc
  rw [rws_words t (List.contains_iff_mem.1 hc)] at h
  cases h

set_option maxRecDepth 100000 in
set_option maxHeartbeats 2000000 in
theorem reserved_21 (t : ByteArray) (w : World) (hm : ∃ m, w.cell? ⟨2, 0, none⟩ = some (.int .i64 m)) :
    Calls Tryd.prog 21 #[.string t] w fun e w' => e = .returned (.bool (rws.contains t.data.toList)) ∧ Below w.heap.size w w' := by
  obtain ⟨m, hm⟩ := hm
  have HM := Lib.hid hm
  clear hm
  go_enter Tryd.func21, Tryd.ntmps21
  go_wp2_with fail
  refine (word_18 t w).mono ?_
  rintro _ w1 ⟨rfl, hb1⟩
  have HB := Lib.hid hb1
  clear hb1
  cases hw : wordB t.data.toList
  · have HF := Lib.hid (reserved_word hw)
    go_wp2_with fail
    go_ret
    exact ⟨by rw [HF.out]; rfl, HB.out⟩
  · have HF := Lib.hid (reserved_eq hw)
    have hsz : t.size ≤ 32 := by
      rw [wordB] at hw
      simp only [Bool.and_eq_true, decide_eq_true_eq, len_list] at hw
      exact hw.1.1.2
    have hsz2 : (t.size : Int) ≤ 32 := by omega
    go_wp2_with fail
    have hm1 : w1.cell? ⟨2, 0, none⟩ = some (.int .i64 m) := (HB.out.cell (p := ⟨2, 0, none⟩) (World.block_lt_of_cell? w _ HM.out)).trans HM.out
    refine (Tryd.strings_Contains _ _ m w1 ?hs hm1).mono ?_
    case hs => decide +kernel
    rintro _ wx ⟨rfl, hwx⟩
    rw [hwx]
    clear hm1 hwx
    have hl : ((⟨#[32]⟩ : ByteArray) ++ t ++ (⟨#[32]⟩ : ByteArray)).data.toList = 32 :: (t.data.toList ++ [32]) := by
      simp
    generalize hX : Lib.contains _ _ = X
    have hX2 : X = rws.contains t.data.toList := by
      rw [hl] at hX
      rw [← hX]; exact HF.out
    have HX2 := Lib.hid hX2
    clear hX hl hsz hsz2 hX2
    go_wp2_with fail
    go_ret
    exact ⟨by rw [← HX2.out]; rfl, HB.out⟩
end Go.Proofs.YtpjfkfbijimliaaDoor
