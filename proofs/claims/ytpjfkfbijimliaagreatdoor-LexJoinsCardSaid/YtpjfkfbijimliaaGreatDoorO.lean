import Derived.Test.YtpjfkfbijimliaaGreatDoorN
import Derived.Test.YtpjfkfbijimliaaGreatDoorM
import Derived.Test.YtpjfkfbijimliaaGreatDoorShelfV
import Derived.WalkSmall
namespace Go.Proofs.YtpjfkfbijimliaaGreatDoor
open Go.RowKit Go.Pen

/-- what the package-level variables hold -/
structure Glob (w : World) : Prop where
  spaces : Spaces w
  errs : Errs w
  errS : ErrS w
  tabs : Lib.Utf8Tabs 0 1 w

theorem glob3 : Tryz.prog.globalNamed "strings.asciiSpace" = some 3 := by kernel_rfl

theorem Glob.below {B : Nat} {w w' : World} (h : Glob w) (hb : Below B w w') (hB : 10 ≤ B) : Glob w' := by
  refine ⟨var?_below hb glob3 (by omega) h.spaces, ?_, ?_, ?_⟩
  · obtain ⟨ev, h1, h2⟩ := h.errs
    exact ⟨ev, (hb.cell (p := ⟨7, 0, none⟩) (by show 7 < B; omega)).trans h1, h2⟩
  · obtain ⟨ev, h1, h2⟩ := h.errS
    exact ⟨ev, (hb.cell (p := ⟨6, 0, none⟩) (by show 6 < B; omega)).trans h1, h2⟩
  · exact ⟨fun c hc => (hb.cell (p := ⟨0, c, none⟩) (by show 0 < B; omega)).trans (h.tabs.1 c hc), fun i hi => ⟨(hb.cell (p := ⟨1, 2 * i, none⟩) (by show 1 < B; omega)).trans (h.tabs.2 i hi).1, (hb.cell (p := ⟨1, 2 * i + 1, none⟩) (by show 1 < B; omega)).trans (h.tabs.2 i hi).2⟩⟩

theorem builder_frame {H b : Nat} {bs : List Value} {w w' : World} (h : Lib.IsBuilderF 58 5 H b bs w) (hf : ∀ g, H ≤ g → g < w.heap.size → w'.heap[g]? = w.heap[g]?) : Lib.IsBuilderF 58 5 H b bs w' := by
  have key : ∀ p, Lib.BuilderAtF 58 5 H b p bs w → Lib.BuilderAtF 58 5 H b p bs w' := fun p hp => by
    obtain ⟨hB, v, hb, ho, hne⟩ := hp
    refine ⟨hB, v, by rw [hf b hB (lt_of_heap hb)]; exact hb, ⟨ho.1, ?_⟩, hne⟩
    rcases ho.2 with h1 | ⟨g, cap, cur, fz, h1, h2, h3, h4⟩
    · exact .inl h1
    · exact .inr ⟨g, cap, cur, fz, h1, h2, by rw [hf g h2 (lt_of_heap h3)]; exact h3, h4⟩
  exact h.elim (fun x => .inl (key _ x)) (fun x => .inr (key _ x))

theorem builder_moved {B H b : Nat} {s : ByteArray} {k : Nat} {bs : List Value} {w w' : World} (h : Lib.IsBuilderF 58 5 H b bs w) (hm : Moved B s k w w') (hB : B < H) : Lib.IsBuilderF 58 5 H b bs w' :=
  builder_frame h fun g hg hl => hm.rest g hl (by omega)

theorem moved_builder {B H : Nat} {s : ByteArray} {k : Nat} {w w1 w2 : World} (hm : Moved B s k w w1) (hH : w.heap.size = H) (hB : B < H) (hb : Below H w1 w2) : Moved B s k w w2 := by
  refine ⟨hm.below.trans (hb.mono (Nat.le_of_lt hB)), (hb.block B hB).trans hm.lex, fun g hg hne => ?_⟩
  rw [hb.block g (by omega)]
  exact hm.rest g hg hne

theorem cells_snoc (l : Bytes) (c : UInt8) : Lib.byteCells l ++ [.int .u8 c.toNat] = Lib.byteCells (l ++ [c]) := by simp [Lib.byteCells]

def TxtPost (B : Nat) (s : ByteArray) (k : Nat) (w : World) (e : Ending) (w' : World) : Prop :=
  match txr (s.data.toList.drop (k + 1)) with
  | .ok (t, n) => e = .returned (.tuple #[.string ⟨t.toArray⟩, .int .u16 0]) ∧ Moved B s (k + 1 + n) w w'
  | .error c => e = .returned (.tuple #[.string ⟨#[]⟩, .int .u16 c]) ∧ ∃ k', Moved B s k' w w'

def TxEq (k : Nat) (s : ByteArray) (f : Nat) (acc : Bytes) (j : Nat) : Prop :=
  (txt f (s.data.toList.drop j)).map (fun p => (acc ++ p.1, j + p.2)) = (txt (s.data.toList.drop (k + 1)).length (s.data.toList.drop (k + 1))).map (fun p => (p.1, k + 1 + p.2))

def TxRel (B : Nat) (s : ByteArray) (k H : Nat) (w wr : World) : Prop :=
  ∃ j f acc, k + 1 ≤ j ∧ j ≤ s.size ∧ acc.length ≤ j ∧ s.size - j ≤ f ∧ Moved B s j w wr ∧ Lib.IsBuilderF 58 5 H H (Lib.byteCells acc) wr ∧ TxEq k s f acc j

theorem txEq_none {k : Nat} {s : ByteArray} {f : Nat} {acc : Bytes} {j : Nat} (h : TxEq k s f acc j) (hn : txt f (s.data.toList.drop j) = none) : txr (s.data.toList.drop (k + 1)) = .error 161 := by
  rw [TxEq, hn, Option.map_none] at h
  rw [txr, Option.map_eq_none_iff.1 h.symm]

theorem txEq_some {k : Nat} {s : ByteArray} {f : Nat} {acc : Bytes} {j : Nat} (h : TxEq k s f acc j) (hn : txt f (s.data.toList.drop j) = some ([], 1)) (hj : k + 1 ≤ j + 1) :
    txr (s.data.toList.drop (k + 1)) = if !Lib.validD acc then .error 161 else if 1000 < acc.length then .error 162 else .ok (acc, j - k) := by
  rw [TxEq, hn, Option.map_some] at h
  obtain ⟨⟨t, n⟩, h1, h2⟩ := Option.map_eq_some_iff.1 h.symm
  simp at h2
  obtain ⟨rfl, h3⟩ := h2
  rw [txr, h1]
  have : n = j - k := by omega
  subst this
  rfl

theorem txEq_step {k : Nat} {s : ByteArray} {f : Nat} {acc : Bytes} {j : Nat} {c : UInt8} {m : Nat} (h : TxEq k s (f + 1) acc j) (hn : txt (f + 1) (s.data.toList.drop j) = (txt f (s.data.toList.drop (j + m))).map fun p => (c :: p.1, p.2 + m)) : TxEq k s f (acc ++ [c]) (j + m) := by
  rw [TxEq] at h ⊢
  rw [← h, hn, Option.map_map]
  congr 1
  funext p
  simp
  omega

theorem txt_plain {f : Nat} {c : UInt8} {cs : Bytes} (h1 : ¬ c.toNat = 39) (h2 : ¬ c.toNat = 92) : txt (f + 1) (c :: cs) = (txt f cs).map fun p => (c :: p.1, p.2 + 1) := by
  rw [txt, if_neg h1, if_neg h2]
theorem txt_esc_none {f : Nat} {c : UInt8} {cs : Bytes} (h1 : c.toNat = 92) (h2 : esc cs = none) : txt (f + 1) (c :: cs) = none := by
  rw [txt, if_neg (by omega), if_pos h1, h2]
theorem txt_esc_some {f : Nat} {c b : UInt8} {m : Nat} {cs : Bytes} (h1 : c.toNat = 92) (h2 : esc cs = some (b, m)) : txt (f + 1) (c :: cs) = (txt f (cs.drop m)).map fun p => (b :: p.1, p.2 + (m + 1)) := by
  rw [txt, if_neg (by omega), if_pos h1, h2]
  simp only []
  congr 1
  funext p
  rw [Nat.add_assoc, Nat.add_comm 1 m]
theorem txt_quote {f : Nat} {c : UInt8} {cs : Bytes} (h1 : c.toNat = 39) (h2 : cs.head? = some 39) : txt (f + 1) (c :: cs) = (txt f cs.tail).map fun p => (39 :: p.1, p.2 + 2) := by
  rw [txt, if_pos h1, if_pos h2]
theorem txt_end {f : Nat} {c : UInt8} {cs : Bytes} (h1 : c.toNat = 39) (h2 : ¬ cs.head? = some 39) : txt (f + 1) (c :: cs) = some ([], 1) := by
  rw [txt, if_pos h1, if_neg h2]

def isQ (l : Bytes) : Bool := decide (l.head? = some 39)
theorem pre_39 (l : Bytes) : Lib.hasPrefix l (⟨#[39]⟩ : ByteArray).data.toList = isQ l := by
  unfold isQ
  cases l with
  | nil => rfl
  | cons d ds =>
    simp only [Lib.hasPrefix, List.isPrefixOf, List.head?_cons]
    rw [Bool.eq_iff_iff]
    simp only [beq_iff_eq, Bool.and_true, Option.some.injEq, decide_eq_true_iff]
    exact eq_comm

theorem txRel_put {B : Nat} {s : ByteArray} {k H j f : Nat} {acc : Bytes} {c : UInt8} {w wr w1 w2 : World} {m : Nat} (hH : w.heap.size = H) (hBH : B < H) (hm : Moved B s (j + m) w w1) (hb : Lib.BuilderAtF 58 5 H H (.pointer (some ⟨H, 0, none⟩)) (Lib.byteCells acc ++ [.int .u8 c.toNat]) w2) (hbe : Below H w1 w2)
    (hm0 : Moved B s j w wr) (hkj : k + 1 ≤ j) (hl : j + m ≤ s.size) (hm1 : 1 ≤ m) (ha : acc.length ≤ j) (hf : s.size - j ≤ f + 1) (he : TxEq k s f (acc ++ [c]) (j + m)) :
    TxRel B s k H w w2 ∧ s.size - lexPos w2 B < s.size - lexPos wr B := by
  have hm2 := moved_builder hm hH hBH hbe
  rw [cells_snoc] at hb
  refine ⟨⟨j + m, f, acc ++ [c], by omega, hl, by simp; omega, by omega, hm2, .inr hb, he⟩, ?_⟩
  rw [lexPos_of hm2.lex, lexPos_of hm0.lex]
  omega

set_option maxRecDepth 100000 in
set_option maxHeartbeats 4000000 in
theorem text_44 (B : Nat) (s : ByteArray) (k : Nat) (w : World) (hB : LexIs w B s k) (hk : k < s.size) (hs : s.size ≤ 16384) (hg : Glob w) (h11 : 10 ≤ B) :
    Calls Tryz.prog 53 #[.pointer (some ⟨B, 0, none⟩)] w (TxtPost B s k w) := by
  obtain ⟨H, hH⟩ : ∃ H, w.heap.size = H := ⟨_, rfl⟩
  have hBH : B < H := hH ▸ lt_of_heap hB
  have HH := Lib.hid hH
  have HG := Lib.hid hg
  have hc1 : w.cell? ⟨B, 1, none⟩ = some (.int .i64 k) := cell_of_heap hB rfl
  have hfz : w.frozen? ⟨B, 1, none⟩ = false := frozen_of_heap hB
  have hBl : B < w.heap.size := lt_of_heap hB
  clear hg hH
  go_enter Tryz.func53, Tryz.ntmps53
  go_wp2_with fail
  rw [HH.out]
  generalize hw1 : World.alloc _ _ = w1
  have hm1 : Moved B s (k + 1) w w1 := by
    rw [← hw1]
    exact moved_below (moved_put (Moved.refl hB) rfl) ((Below.refl _ _).alloc (Nat.le_refl _) _)
  have hbd : Lib.IsBuilderF 58 5 H H (Lib.byteCells []) w1 := by
    rw [← hw1]
    refine .inl ⟨Nat.le_refl _, .slice none 0 0, ?_, ⟨rfl, .inl ⟨rfl, rfl⟩⟩, by simp [Value.ownBlock]⟩
    have hz : (w.setCell ⟨B, 1, none⟩ (.int .i64 ((k : Int) + 1))).heap.size = H := by rw [← HH.out]; simp [World.setCell]
    rw [← hz]
    exact Array.getElem?_push_size
  clear hw1 hc1 hfz hBl
  go_loopw [] (fun wr => TxRel B s k H w wr) (fun wr => s.size - lexPos wr B)
  case atStart => exact ⟨k + 1, (s.data.toList.drop (k + 1)).length, [], Nat.le_refl _, hk, Nat.zero_le _, by rw [List.length_drop, len_list]; exact Nat.le_refl _, hm1, hbd, by simp [TxEq]⟩
  case round =>
    clear hm1 hbd
    obtain ⟨j, f, acc, hkj, hj, hacc, hf, hm, hbd, he⟩ := hrel
    have HE := Lib.hid he
    have HB := Lib.hid hbd
    clear he hbd
    have hL := hm.lex
    have hc0 : wr.cell? ⟨B, 0, none⟩ = some (.string s) := cell_of_heap hL rfl
    have hc1 : wr.cell? ⟨B, 1, none⟩ = some (.int .i64 j) := cell_of_heap hL rfl
    have hfz : wr.frozen? ⟨B, 1, none⟩ = false := frozen_of_heap hL
    by_cases hlt : j < s.size
    · have hd : decide ((j : Int) < (s.size : Int)) = true := by simpa using hlt
      obtain ⟨c, cs, hcs, hcs'⟩ := drop_cons hlt
      have hget := get_of_drop hcs hlt
      have HC := Lib.hid hcs
      have HD := Lib.hid hcs'
      obtain ⟨f', rfl⟩ : ∃ f', f = f' + 1 := ⟨f - 1, by omega⟩
      clear hcs hcs'
      go_wp2_with fail
      go_quiet (fail)
      go_wp2_with fail
      go_quiet (fail)
      go_wp2_with fail
      generalize hw1 : World.setCell _ _ _ = w1
      have hm1 : Moved B s (j + 1) w w1 := by rw [← hw1]; exact moved_set hm
      have hb1 : Lib.IsBuilderF 58 5 H H (Lib.byteCells acc) w1 := by
        rw [← hw1]; exact builder_frame HB.out fun g hg hl => heap_set_ne (by omega)
      have HB1 := Lib.hid hb1
      clear hw1 hc0 hc1 hfz hb1 hL hget hd
      have hL := hm1.lex
      have hc0 : w1.cell? ⟨B, 0, none⟩ = some (.string s) := cell_of_heap hL rfl
      have hc1 : w1.cell? ⟨B, 1, none⟩ = some (.int .i64 ((j + 1 : Nat) : Int)) := cell_of_heap hL rfl
      by_cases h39 : c.toNat = 39
      · have he39 : ((c.toNat : Int) == 39) = true := by simp; omega
        have b1 : (0 : Int) ≤ ((j + 1 : Nat) : Int) := by omega
        have b2 : ((j + 1 : Nat) : Int) ≤ (s.size : Int) := by omega
        go_quiet ((go_at_call 41; exact Calls.quiet_of_same (Tryz.strings_HasPrefix _ _ _)))
        clear b1 b2
        first | rw [ext_list, HD.out, pre_39] | rw [Lib.extract_toList, HD.out, pre_39]
        try rw [List.take_of_length_le (l := cs) (by rw [← HD.out, List.length_drop, len_list]; exact Nat.le_refl _)]
        generalize hw2 : World.drewN _ _ = w2
        have hm2 : Moved B s (j + 1) w w2 := by rw [← hw2]; exact moved_drew hm1
        have hb2 : Lib.IsBuilderF 58 5 H H (Lib.byteCells acc) w2 := by rw [← hw2]; exact HB1.out
        have HB2 := Lib.hid hb2
        clear hw2 hc0 hc1 hb2 hL HB1 hm1
        by_cases hd39 : cs.head? = some 39
        · have hq : isQ cs = true := by simp [isQ, hd39]
          rw [hq]
          have hL := hm2.lex
          have hc1 : w2.cell? ⟨B, 1, none⟩ = some (.int .i64 ((j + 1 : Nat) : Int)) := cell_of_heap hL rfl
          have hfz : w2.frozen? ⟨B, 1, none⟩ = false := frozen_of_heap hL
          have hc : c = 39 := UInt8.toNat_inj.1 h39
          have hcl : cs.length = s.size - (j + 1) := by rw [← HD.out, List.length_drop, len_list]
          have hms : j + 2 ≤ s.size := by
            cases cs with
            | nil => simp at hd39
            | cons d ds => simp at hcl; omega
          have HN : Hid (TxEq k s f' (acc ++ [c]) (j + 2)) := Lib.hid (by
            refine txEq_step HE.out ?_
            rw [HC.out, txt_quote h39 hd39, ← List.drop_one, ← HD.out, List.drop_drop, hc])
          have HC9 := Lib.hid hd39
          have HQ := Lib.hid hc
          clear hd39 hq hc hcl h39 he39
          go_wp2_with fail
          generalize hw3 : World.setCell _ _ _ = w3
          have hm3 : Moved B s (j + 2) w w3 := by rw [← hw3]; exact moved_put hm2 (by omega)
          have hb3 : Lib.IsBuilderF 58 5 H H (Lib.byteCells acc) w3 := by
            rw [← hw3]; exact builder_frame HB2.out fun g hg hl => heap_set_ne (by omega)
          have HB3 := Lib.hid hb3
          clear hw3 hb3 hL hc1 hfz HB2
          have HL3 : Hid (H ≤ w3.heap.size) := Lib.hid (by have := hm3.below.size; have := HH.out; omega)
          have HAL : Hid ((Lib.byteCells acc).length + 1 ≤ 140737488355328) := Lib.hid (by simp [Lib.byteCells]; omega)
          refine (writeByte_61 H H (Lib.byteCells acc) c.toNat w3 HB3.out HAL.out HL3.out).mono ?_
          rintro _ w4 ⟨rfl, hbw, hbe, -⟩
          have HR := Lib.hid (txRel_put (k := k) HH.out hBH hm3 hbw hbe hm hkj hms (by omega) hacc hf HN.out)
          clear hbw hbe
          go_wp2_with fail
          exact HR.out
        · have hq : isQ cs = false := by simp [isQ, hd39]
          rw [hq]
          have hTX := txEq_some HE.out (by rw [HC.out]; exact txt_end h39 hd39) (by omega)
          have HT := Lib.hid hTX
          have HL2 : Hid (H ≤ w2.heap.size) := Lib.hid (by have := hm2.below.size; have := HH.out; omega)
          clear hTX hd39 hq
          go_wp2_with fail
          refine (Tryz.Builder_String_any_f H H acc w2 HB2.out HL2.out).mono ?_
          rintro _ w3 ⟨rfl, hb3, hbe3⟩
          have hm3 := moved_builder hm2 HH.out hBH hbe3
          have HB3 := Lib.hid hb3
          have HE3 := Lib.hid hbe3
          clear hb3 hbe3 HB2
          go_wp2_with fail
          have hg3 := HG.out.below hm3.below h11
          refine (Tryz.utf8_ValidString ⟨acc.toArray⟩ w3 (by simp [ByteArray.size]; omega) hg3.tabs).mono ?_
          rintro _ w4 ⟨rfl, hb4⟩
          have hm4 := moved_below hm3 hb4
          have hB4 : Lib.IsBuilderF 58 5 H H (Lib.byteCells acc) w4 := builder_frame HB3.out fun g _ hl => hb4.block g hl
          have HB4 := Lib.hid hB4
          have HL4 : Hid (H ≤ w4.heap.size) := Lib.hid (by have := hm4.below.size; have := HH.out; omega)
          have hva : (⟨acc.toArray⟩ : ByteArray).data.toList = acc := rfl
          rw [hva]
          clear hB4 hg3 HB3 hb4 hva
          cases hv : Lib.validD acc
          · go_wp2_with fail
            refine bodyPost_ret (v := .tuple #[.string ⟨#[]⟩, .int .u16 161]) (by simp [results, Tryz.results53, go_sem]) rfl ?_
            rw [TxtPost, HT.out, hv]
            exact ⟨rfl, _, hm4⟩
          · go_wp2_with fail
            refine (Tryz.Builder_Len_f H H (Lib.byteCells acc) w4 HB4.out).mono ?_
            rintro _ _ ⟨rfl, rfl⟩
            have hlen : (Lib.byteCells acc).length = acc.length := by simp [Lib.byteCells]
            rw [hlen]
            clear hlen
            by_cases hbig : 1000 < acc.length
            · have hd : decide ((1000 : Int) < (acc.length : Int)) = true := by simp; omega
              go_wp2_with fail
              refine bodyPost_ret (v := .tuple #[.string ⟨#[]⟩, .int .u16 162]) (by simp [results, Tryz.results53, go_sem]) rfl ?_
              rw [TxtPost, HT.out, hv, if_pos hbig]
              exact ⟨rfl, _, hm4⟩
            · have hd : decide ((1000 : Int) < (acc.length : Int)) = false := by simp; omega
              go_wp2_with fail
              refine (Tryz.Builder_String_any_f H H acc _ HB4.out HL4.out).mono ?_
              rintro _ w5 ⟨rfl, -, hbe5⟩
              have hm5 := moved_builder hm4 HH.out hBH hbe5
              clear hbe5
              go_wp2_with fail
              refine bodyPost_ret (v := .tuple #[.string ⟨acc.toArray⟩, .int .u16 0]) (by simp [results, Tryz.results53, go_sem]) rfl ?_
              rw [TxtPost, HT.out, hv, if_neg hbig]
              refine ⟨rfl, ?_⟩
              rwa [show k + 1 + (j - k) = j + 1 by omega]
      · have he39 : ((c.toNat : Int) == 39) = false := by simp; omega
        by_cases h92 : c.toNat = 92
        · have he92 : ((c.toNat : Int) == 92) = true := by simp; omega
          go_quiet (fail)
          go_wp2_with fail
          generalize hw2 : World.drewN _ _ = w2
          have hm2 : Moved B s (j + 1) w w2 := by rw [← hw2]; exact moved_drew hm1
          have hb2 : Lib.IsBuilderF 58 5 H H (Lib.byteCells acc) w2 := by rw [← hw2]; exact HB1.out
          have HB2 := Lib.hid hb2
          clear hw2 hc0 hc1 hb2 hL HB1 hm1
          have hg2 := HG.out.below hm2.below h11
          refine (escape_64 B s (j + 1) w2 hm2.lex (by omega) hs hg2.errS h11).mono ?_
          intro e w3 hp
          rw [EscPost, HD.out] at hp
          clear hg2
          cases hes : esc cs with
          | none =>
            rw [hes] at hp
            obtain ⟨⟨x, rfl⟩, k', hm3⟩ := hp
            have HN : Hid (txt (f' + 1) (s.data.toList.drop j) = none) := Lib.hid (by rw [HC.out]; exact txt_esc_none h92 hes)
            clear hes
            go_wp2_with fail
            refine bodyPost_ret (v := .tuple #[.string ⟨#[]⟩, .int .u16 161]) (by simp [results, Tryz.results53, go_sem]) rfl ?_
            rw [TxtPost, txEq_none HE.out HN.out]
            exact ⟨rfl, k', hm2.trans hm3⟩
          | some bm =>
            obtain ⟨b, m⟩ := bm
            rw [hes] at hp
            obtain ⟨rfl, hm3⟩ := hp
            obtain ⟨hm1', hmle⟩ := esc_le hes
            have hcl : cs.length = s.size - (j + 1) := by rw [← HD.out, List.length_drop, len_list]
            have hms : j + (m + 1) ≤ s.size := by omega
            have HN : Hid (TxEq k s f' (acc ++ [b]) (j + (m + 1))) := Lib.hid (by
              refine txEq_step HE.out ?_
              rw [HC.out, txt_esc_some h92 hes, ← HD.out, List.drop_drop, Nat.add_assoc, Nat.add_comm 1 m])
            have hb3 : Lib.IsBuilderF 58 5 H H (Lib.byteCells acc) w3 := builder_moved HB2.out hm3 hBH
            have hm3' : Moved B s (j + (m + 1)) w w3 := by
              have := hm2.trans hm3
              rwa [Nat.add_assoc, Nat.add_comm 1 m] at this
            have HB3 := Lib.hid hb3
            have HL3 : Hid (H ≤ w3.heap.size) := Lib.hid (by have := hm3'.below.size; have := HH.out; omega)
            have HAL : Hid ((Lib.byteCells acc).length + 1 ≤ 140737488355328) := Lib.hid (by simp [Lib.byteCells]; omega)
            clear hes hcl hb3 hm3 HB2
            go_wp2_with fail
            refine (writeByte_61 H H (Lib.byteCells acc) b.toNat w3 HB3.out HAL.out HL3.out).mono ?_
            rintro _ w4 ⟨rfl, hbw, hbe, -⟩
            have HR := Lib.hid (txRel_put (k := k) HH.out hBH hm3' hbw hbe hm hkj hms (by omega) hacc hf HN.out)
            clear hbw hbe
            go_wp2_with fail
            exact HR.out
        · have he92 : ((c.toNat : Int) == 92) = false := by simp; omega
          go_quiet (fail)
          go_wp2_with fail
          generalize hw2 : World.drewN _ _ = w2
          have hm2 : Moved B s (j + 1) w w2 := by rw [← hw2]; exact moved_drew hm1
          have hb2 : Lib.IsBuilderF 58 5 H H (Lib.byteCells acc) w2 := by rw [← hw2]; exact HB1.out
          have HB2 := Lib.hid hb2
          clear hw2 hc0 hc1 hb2 hL HB1 hm1
          have HN : Hid (TxEq k s f' (acc ++ [c]) (j + 1)) := Lib.hid (by
            refine txEq_step HE.out ?_
            rw [HC.out, HD.out]; exact txt_plain h39 h92)
          have HL2 : Hid (H ≤ w2.heap.size) := Lib.hid (by have := hm2.below.size; have := HH.out; omega)
          have HAL : Hid ((Lib.byteCells acc).length + 1 ≤ 140737488355328) := Lib.hid (by simp [Lib.byteCells]; omega)
          refine (writeByte_61 H H (Lib.byteCells acc) c.toNat w2 HB2.out HAL.out HL2.out).mono ?_
          rintro _ w3 ⟨rfl, hbw, hbe, -⟩
          have HR := Lib.hid (txRel_put (k := k) HH.out hBH hm2 hbw hbe hm hkj hlt (by omega) hacc hf HN.out)
          clear hbw hbe
          go_wp2_with fail
          exact HR.out
    · have hd : decide ((j : Int) < (s.size : Int)) = false := by simpa using hlt
      have h0 : s.data.toList.drop j = [] := List.drop_of_length_le (by rw [len_list]; omega)
      have HN : Hid (txt f (s.data.toList.drop j) = none) := Lib.hid (by rw [h0]; exact txt_nil f)
      clear h0
      go_wp2_with fail
      go_quiet (fail)
      go_wp2_with fail
      refine bodyPost_ret (v := .tuple #[.string ⟨#[]⟩, .int .u16 161]) (by simp [results, Tryz.results53, go_sem]) rfl ?_
      rw [TxtPost, txEq_none HE.out HN.out]
      exact ⟨rfl, j, moved_drew hm⟩
end Go.Proofs.YtpjfkfbijimliaaGreatDoor
