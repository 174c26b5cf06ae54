import Derived.Test.YtpjfkfbijimliaaGreatDoorV
namespace Go.Proofs.YtpjfkfbijimliaaGreatDoor
open Go.RowKit Go.Pen

theorem info9 : (Tryz.prog.info? 9).map (fun i => (i.zero, i.size, i.bytes)) = some (some (.string ⟨#[]⟩), 1, 16) := by kernel_rfl

/-- a token, whatever it is -/
structure GTok where
  kind : Int
  text : ByteArray
  number : Int
  at_ : Int

def GTok.val (g : GTok) : Value := tokAgg g.kind g.text g.number g.at_

/-- a row of tokens that can be read -/
def ToksAt (w : World) (b o : Nat) (gs : List GTok) : Prop :=
  ∀ i g, gs[i]? = some g → w.cell? ⟨b, o + i * 4, none⟩ = some (.int .u8 g.kind) ∧ w.cell? ⟨b, o + i * 4 + 1, none⟩ = some (.string g.text) ∧ w.cell? ⟨b, o + i * 4 + 2, none⟩ = some (.int .i64 g.number) ∧ w.cell? ⟨b, o + i * 4 + 3, none⟩ = some (.int .i64 g.at_)

/-- what written says of it -/
def Wrt (f : GTok → ByteArray × Bool) (g : GTok) : Prop :=
  ∀ w : World, Glob w → 10 ≤ w.heap.size → Calls Tryz.prog 9 #[g.val] w fun e w' => e = .returned (.tuple #[.string (f g).1, .bool (f g).2]) ∧ Below w.heap.size w w'

def joinR (f : GTok → ByteArray × Bool) (gs : List GTok) : Bytes × Nat :=
  if gs.all (fun g => (f g).2) then (if 4000 < gs.length then ([], 163) else (Lib.join (gs.map fun g => (f g).1.data.toList) [32], 0)) else ([], 1)

def JnRel (f : GTok → ByteArray × Bool) (gs : List GTok) (H : Nat) (w : World) (m : Nat) (wr : World) : Prop :=
  (∃ cur : List Value, wr.heap[H]? = some (.cells cur.toArray 9 (0, 0)) ∧ cur.length = gs.length ∧ ∀ i g, i < m → gs[i]? = some g → cur[i]? = some (.string (f g).1)) ∧ Below H w wr ∧ (gs.take m).all (fun g => (f g).2) = true

theorem jn_step {f : GTok → ByteArray × Bool} {gs : List GTok} {H m : Nat} {w wr w1 w2 : World} {g : GTok} (h : JnRel f gs H w m wr) (hg : gs[m]? = some g) (hb : Below wr.heap.size wr w1) (hw2 : w2 = w1.setCell ⟨H, m, none⟩ (.string (f g).1)) (hf : (f g).2 = true) : JnRel f gs H w (m + 1) w2 := by
  obtain ⟨⟨cur, h1, h2, h3⟩, h4, h5⟩ := h
  have hHl := lt_of_heap h1
  have e1 : w1.heap[H]? = some (.cells cur.toArray 9 (0, 0)) := (hb.block H hHl).trans h1
  have hml : m < gs.length := (List.getElem?_eq_some_iff.1 hg).1
  refine ⟨⟨cur.set m (.string (f g).1), ?_, by simpa using h2, fun i x hi hx => ?_⟩, ?_, ?_⟩
  · rw [hw2, heap_set_same e1]; simp
  · rw [List.getElem?_set]
    by_cases e : m = i
    · subst e
      rw [hg] at hx; cases hx
      rw [if_pos rfl, if_pos (by omega)]
    · rw [if_neg e]; exact h3 i x (by omega) hx
  · rw [hw2]
    exact (h4.trans (hb.mono (Nat.le_of_lt hHl))).setCell (Nat.le_refl _) _
  · rw [List.take_add_one, hg, List.all_append, h5]
    simp [hf]

theorem all_miss {f : GTok → ByteArray × Bool} {gs : List GTok} {m : Nat} {g : GTok} (hg : gs[m]? = some g) (hf : (f g).2 = false) : joinR f gs = ([], 1) := by
  have : gs.all (fun g => (f g).2) = false := by
    rw [List.all_eq_false]
    exact ⟨g, List.mem_of_getElem? hg, by simp [hf]⟩
  rw [joinR, this]; rfl

set_option maxRecDepth 100000 in
set_option maxHeartbeats 4000000 in
theorem join_15 (f : GTok → ByteArray × Bool) (gs : List GTok) (b o c : Nat) (w : World) (hg : Glob w) (h11 : 10 ≤ w.heap.size) (hn0 : 0 < gs.length) (hb : b < w.heap.size) (hr : ToksAt w b o gs) (hn : gs.length ≤ 4398046511104)
    (hf : ∀ g ∈ gs, Wrt f g) (hlen : (Lib.join (gs.map fun g => (f g).1.data.toList) [32]).length ≤ 140737488355328) :
    Calls Tryz.prog 5 #[.slice (some ⟨b, o, none⟩) gs.length c] w fun e w' => e = .returned (.tuple #[.string ⟨(joinR f gs).1.toArray⟩, .int .u16 (joinR f gs).2]) ∧ Below w.heap.size w w' := by
  obtain ⟨i0, hi, hz0, hz1, hz2⟩ := info_parts info9
  obtain ⟨H, hH⟩ : ∃ H, w.heap.size = H := ⟨_, rfl⟩
  obtain ⟨n, hnn⟩ : ∃ n, gs.length = n := ⟨_, rfl⟩
  rw [hnn] at hn hn0
  have hmk : ∀ u : World, (Instr.makeSlice 35 (.int .i64 (n : Int)) (.int .i64 (n : Int))).run Tryz.prog u =
      .ok (.slice (some ⟨u.heap.size, 0, none⟩) n n) (u.alloc (.cells (madeCells #[.string ⟨#[]⟩] n) 9)) := fun u => by
    have h := run_make (P := Tryz.prog) u 35 9 i0 _ Tryz.underlying35 hi hz0 .i64 .i64 (n : Int) (n : Int) (by omega) (Int.le_refl _) (by rw [hz2]; omega) (by omega)
    rw [Int.toNat_natCast] at h
    simpa [hz1, Value.cells] using h
  rw [hnn]
  have HH := Lib.hid hH
  have HN := Lib.hid hnn
  have HG := Lib.hid hg
  have HR := Lib.hid hr
  have HF := Lib.hid hf
  have HL := Lib.hid hlen
  clear hH hnn hg hr hf hlen
  go_enter Tryz.func5, Tryz.ntmps5
  go_wp2_with fail
  rw [HH.out]
  generalize hw1 : World.alloc _ _ = w1
  have hr1 : JnRel f gs H w 0 w1 := by
    rw [← hw1]
    refine ⟨⟨(madeCells #[Value.string ⟨#[]⟩] n).toList, ?_, ?_, fun i g hi => absurd hi (Nat.not_lt_zero _)⟩, (Below.refl _ _).alloc (by have := HH.out; omega) _, rfl⟩
    · rw [← HH.out]; exact heap_alloc_new w _
    · rw [HN.out]; simp [madeCells]
  clear hw1 hmk hi hz0 hz1 hz2
  go_loopw [13] (fun i wr => ∃ m : Nat, m ≤ n ∧ i = .int .i64 m ∧ JnRel f gs H w m wr) (fun i _ => n - (intOf i).toNat)
  case atStart => exact ⟨0, Nat.zero_le _, rfl, hr1⟩
  case round =>
    clear hr1
    obtain ⟨m, hm, rfl, hj⟩ := hrel
    have HJ := Lib.hid hj
    obtain ⟨⟨cur, q1, q2, q3⟩, q4, q5⟩ := hj
    have hbH : b < H := by have := HH.out; omega
    rcases Nat.lt_or_ge m n with hlt | hge
    · have hd : decide ((m : Int) < (n : Int)) = true := by simpa using hlt
      obtain ⟨g, hgm⟩ : ∃ g, gs[m]? = some g := ⟨_, List.getElem?_eq_getElem (by have := HN.out; omega)⟩
      obtain ⟨g0, g1, g2, g3⟩ := HR.out m g hgm
      have c0 := (q4.cell (p := ⟨b, o + m * 4, none⟩) hbH).trans g0
      have c1 := (q4.cell (p := ⟨b, o + m * 4 + 1, none⟩) hbH).trans g1
      have c2 := (q4.cell (p := ⟨b, o + m * 4 + 2, none⟩) hbH).trans g2
      have c3 := (q4.cell (p := ⟨b, o + m * 4 + 3, none⟩) hbH).trans g3
      have hwr := HF.out g (List.mem_of_getElem? hgm)
      have HW := Lib.hid hwr
      have HGM := Lib.hid hgm
      have HQ1 := Lib.hid q1
      have HGL := Lib.hid (HG.out.below q4 (by have := HH.out; omega))
      have hHl : H < wr.heap.size := lt_of_heap q1
      obtain ⟨cm, hcm⟩ : ∃ cm, cur[m]? = some cm := ⟨_, List.getElem?_eq_getElem (by have := HN.out; omega)⟩
      have HCM := Lib.hid hcm
      clear g0 g1 g2 g3 hgm q1 q2 q3 q4 q5 hwr hcm
      go_wp2_with fail
      generalize hw2 : World.alloc _ _ = w2
      have hb2 : Below wr.heap.size wr w2 := by rw [← hw2]; exact (Below.refl _ _).alloc (Nat.le_refl _) _
      have hg2 : Glob w2 := HGL.out.below hb2 (by have := HH.out; omega)
      clear hw2 c0 c1 c2 c3
      refine (HW.out w2 hg2 (by have := hb2.size; have := HH.out; omega)).mono ?_
      rintro _ w3 ⟨rfl, hb3⟩
      have hb13 : Below wr.heap.size wr w3 := hb2.trans (hb3.mono hb2.size)
      have e3 : w3.heap[H]? = some (.cells cur.toArray 9 (0, 0)) := (hb13.block H hHl).trans HQ1.out
      have c3 : w3.cell? ⟨H, m, none⟩ = some cm := cell_of_heap e3 (by rw [List.getElem?_toArray]; exact HCM.out)
      have f3 : w3.frozen? ⟨H, m, none⟩ = false := frozen_of_heap e3
      have HB13 := Lib.hid hb13
      have HQ4 : Hid (Below H w w3) := Lib.hid (HJ.out.2.1.trans (hb13.mono (Nat.le_of_lt hHl)))
      clear hb2 hb3 hb13 hg2 e3
      cases hfg : (f g).2
      · have HRR := Lib.hid (all_miss HGM.out hfg)
        go_wp2_with fail
        refine bodyPost_ret (v := .tuple #[.string ⟨#[]⟩, .int .u16 1]) (by simp [results, Tryz.results5, go_sem]) rfl ⟨?_, ?_⟩
        · rw [HRR.out]; rfl
        · rw [HH.out]; exact HQ4.out.setCell (Nat.le_refl _) _
      · have HS := Lib.hid (jn_step HJ.out HGM.out HB13.out rfl hfg)
        go_wp2_with fail
        exact ⟨⟨m + 1, hlt, by simp, HS.out⟩, by simp [intOf]; omega⟩
    · have hd : decide ((m : Int) < (n : Int)) = false := by simp; omega
      obtain rfl : m = n := by omega
      have hta : gs.take m = gs := List.take_of_length_le (by have := HN.out; omega)
      rw [hta] at q5
      have HQ5 := Lib.hid q5
      have HQ4 := Lib.hid q4
      have hcells : ∀ (j : Nat) (x : ByteArray), (gs.map fun g => (f g).1)[j]? = some x → wr.cell? ⟨H, 0 + j, none⟩ = some (.string x) := fun j x hx => by
        rw [List.getElem?_map] at hx
        obtain ⟨g, hg, rfl⟩ := Option.map_eq_some_iff.1 hx
        rw [Nat.zero_add]
        have hjl : j < m := by have := (List.getElem?_eq_some_iff.1 hg).1; have := HN.out; omega
        exact cell_of_heap q1 (by rw [List.getElem?_toArray]; exact q3 j g hjl hg)
      have HCE := Lib.hid hcells
      have hHl : H < wr.heap.size := lt_of_heap q1
      clear hta q1 q2 q3 q4 q5 hcells hge
      by_cases h4 : 4000 < m
      · have hd4 : decide ((4000 : Int) < (m : Int)) = true := by simp; omega
        have HRR : Hid (joinR f gs = ([], 163)) := Lib.hid (by rw [joinR, HQ5.out, if_pos rfl, if_pos (by rw [HN.out]; exact h4)])
        go_wp2_with fail
        refine bodyPost_ret (v := .tuple #[.string ⟨#[]⟩, .int .u16 163]) (by simp [results, Tryz.results5, go_sem]) rfl ⟨?_, ?_⟩
        · rw [HRR.out]; rfl
        · rw [HH.out]; exact HQ4.out
      · have hd4 : decide ((4000 : Int) < (m : Int)) = false := by simp; omega
        have HRR : Hid (joinR f gs = (Lib.join (gs.map fun g => (f g).1.data.toList) [32], 0)) := Lib.hid (by rw [joinR, HQ5.out, if_pos rfl, if_neg (by rw [HN.out]; exact h4)])
        have hxl : (gs.map fun g => (f g).1).length = m := by rw [List.length_map]; exact HN.out
        have hmm : ((gs.map fun g => (f g).1).map (·.data.toList)) = gs.map fun g => (f g).1.data.toList := by rw [List.map_map]; rfl
        have hjn := Tryz.strings_Join H 0 m (gs.map fun g => (f g).1) ⟨#[32]⟩ wr HCE.out hHl (by rw [hxl]; omega) (by rw [hxl]; exact Nat.le_refl _) (by rw [hmm]; exact HL.out)
        rw [hxl, hmm] at hjn
        have HX := Lib.hid hjn
        clear hjn hxl hmm
        go_wp2_with fail
        refine HX.out.mono ?_
        rintro _ w2 ⟨rfl, hb2⟩
        go_wp2_with fail
        refine bodyPost_ret (v := .tuple #[.string ⟨(Lib.join (gs.map fun g => (f g).1.data.toList) [32]).toArray⟩, .int .u16 0]) (by simp [results, Tryz.results5, go_sem]) rfl ⟨?_, ?_⟩
        · rw [HRR.out]; rfl
        · rw [HH.out]; exact HQ4.out.trans (hb2.mono (Nat.le_of_lt hHl))
end Go.Proofs.YtpjfkfbijimliaaGreatDoor
