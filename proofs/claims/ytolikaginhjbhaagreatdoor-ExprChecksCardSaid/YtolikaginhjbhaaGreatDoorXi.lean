import Derived.Test.YtolikaginhjbhaaGreatDoorXf
/- How an expression is written; the reference's number, sign; expr.signs. -/
namespace Go.Proofs.YtolikaginhjbhaaGreatDoor
open Go.RowKit Go.Pen Go.Shelf

set_option maxRecDepth 100000 in
set_option maxHeartbeats 4000000 in
theorem number_114 (u : Nat) (hu : u ≤ 9223372036854775807) (w : World) :
    Calls Tryz.prog 114 #[.int .i64 u] w fun e w' => e = .returned (.string ⟨(Lib.decDigits u).toArray⟩) ∧ Below w.heap.size w w' := by
  induction u using Nat.strongRecOn generalizing w with
  | ind u ih =>
    have hconv : ∀ (W : World) (b : Nat) (c : UInt8), W.cell? ⟨b, 0, none⟩ = some (.int .u8 c.toNat) → (convert 154 9 (.slice (some ⟨b, 0, none⟩) 1 1)).run Tryz.prog W = .ok (.string ⟨#[c]⟩) W := fun W b c hc =>
      run_convert_bytes_back (P := Tryz.prog) W 154 9 5 ⟨b, 0, none⟩ 1 [c] Tryz.underlying154 Tryz.underlying5 Tryz.underlying9 (fun j hj => by
        obtain rfl : j = 0 := by simp at hj; omega
        exact hc)
    by_cases h10 : u < 10
    · have hd : decide ((u : Int) < 10) = true := by simp; omega
      rw [Lib.decDigits_one h10]
      obtain ⟨c, hcu⟩ : ∃ c : UInt8, UInt8.ofNat (48 + u) = c := ⟨_, rfl⟩
      have hc : ((48 : Int) + (u : Int)) = (c.toNat : Int) := by
        rw [← hcu, UInt8.toNat_ofNat']; omega
      have hw1 : IntKind.i64.wrap (48 + (u : Int)) = 48 + (u : Int) := IntWalk.i64_in _ (by omega)
      have hw2 : IntKind.u8.wrap (48 + (u : Int)) = (c.toNat : Int) := by rw [hc, IntKind.wrap_u8]; have := c.toNat_lt; omega
      rw [hcu]
      clear hcu
      go_enter Tryz.func114, Tryz.ntmps114
      have hA : ∀ W : World, (convert 154 9 (.slice (some ⟨W.heap.size, 0, none⟩) 1 1)).run Tryz.prog (W.alloc (.cells #[.int .u8 c.toNat] 5)) = .ok (.string ⟨#[c]⟩) (W.alloc (.cells #[.int .u8 c.toNat] 5)) := fun W => hconv _ _ c (by simp)
      go_wp2_with fail
      go_ret
      exact ⟨rfl, (Below.refl _ _).alloc (Nat.le_refl _) _⟩
    · have hd : decide ((u : Int) < 10) = false := by simp; omega
      have hde : Lib.decDigits u = Lib.decDigits (u / 10) ++ [UInt8.ofNat (48 + u % 10)] := by rw [Lib.decDigits, dif_neg h10]
      obtain ⟨c, hcu⟩ : ∃ c : UInt8, UInt8.ofNat (48 + u % 10) = c := ⟨_, rfl⟩
      obtain ⟨q, hq⟩ : ∃ q, u / 10 = q := ⟨_, rfl⟩
      obtain ⟨r, hr⟩ : ∃ r, u % 10 = r := ⟨_, rfl⟩
      have hc : ((48 : Int) + (r : Int)) = (c.toNat : Int) := by
        rw [← hcu, UInt8.toNat_ofNat', hr]; omega
      have hr' : (u : Int).tmod 10 = (r : Int) := by rw [← hr, Int.tmod_eq_emod_of_nonneg (by omega)]; omega
      have hq' : (u : Int).tdiv 10 = (q : Int) := by rw [← hq, Int.tdiv_eq_ediv_of_nonneg (by omega)]; omega
      have hr9 : r < 10 := by omega
      have ihq := fun W => ih q (by omega) (by omega) W
      obtain ⟨DQ, hDQ⟩ : ∃ DQ : ByteArray, ⟨(Lib.decDigits q).toArray⟩ = DQ := ⟨_, rfl⟩
      have hln : DQ.size ≤ 21 := by
        have := Lib.itoa_length_le (q : Int) (by omega) (by omega)
        rw [Lib.itoa_nonneg] at this
        rw [← hDQ]; simpa [ByteArray.size] using this
      have hadd : ¬ (9223372036854775807 < DQ.size + (⟨#[c]⟩ : ByteArray).size) := by
        have : (⟨#[c]⟩ : ByteArray).size = 1 := rfl
        omega
      have hadd' : ¬ (9223372036854775807 < DQ.size + 1) := by omega
      have hres : DQ ++ (⟨#[c]⟩ : ByteArray) = ⟨(Lib.decDigits q ++ [c]).toArray⟩ := by
        rw [← hDQ]; apply ByteArray.ext; simp
      rw [hDQ] at ihq
      have IH := Lib.hid ihq
      have HRES := Lib.hid hres
      rw [hcu, hq] at hde
      have HD := Lib.hid hde
      have hwq : IntKind.i64.wrap (q : Int) = (q : Int) := IntWalk.i64_in _ (by omega)
      have hwr : IntKind.i64.wrap (48 + (r : Int)) = 48 + (r : Int) := IntWalk.i64_in _ (by omega)
      have hwc : IntKind.u8.wrap (48 + (r : Int)) = (c.toNat : Int) := by rw [hc, IntKind.wrap_u8]; have := c.toNat_lt; omega
      have hA : ∀ W : World, (convert 154 9 (.slice (some ⟨W.heap.size, 0, none⟩) 1 1)).run Tryz.prog (W.alloc (.cells #[.int .u8 c.toNat] 5)) = .ok (.string ⟨#[c]⟩) (W.alloc (.cells #[.int .u8 c.toNat] 5)) := fun W => hconv _ _ c (by simp)
      have hA2 := hconv _ _ c (new_cell w c)
      clear hcu hq hr ih ihq hde hc hr9 hDQ hres hln
      go_enter Tryz.func114, Tryz.ntmps114
      go_wp2_with fail
      go_region_with (go_at_call 114; refine (IH.out _).mono ?_; rintro e w5 ⟨rfl, hb5⟩; (try (have hcB := hconv w5 w.heap.size c ((hb5.cell (p := ⟨w.heap.size, 0, none⟩) (new_lt w _)).trans (new_cell w c)))))
      all_goals (
        have HB : Hid (Below w.heap.size w w5) := Lib.hid (by first | exact (((Below.refl _ _).alloc (Nat.le_refl _) _).drew).trans (hb5.mono (Nat.le_of_lt (new_lt w _))) | exact below_undrew hb5)
        clear hb5
        go_wp2_with fail
        go_ret
        refine ⟨by show Ending.returned (.string (DQ ++ ⟨#[c]⟩)) = _; rw [HD.out, HRES.out], ?_⟩
        first | exact HB.out | exact HB.out.alloc HB.out.size _)
/-- an operator of two as it is written -/
def signB (o : Int) : ByteArray :=
  if o = 4 then ⟨#[43]⟩ else if o = 5 then ⟨#[45]⟩ else if o = 6 then ⟨#[42]⟩ else if o = 7 then ⟨#[47]⟩ else if o = 8 then ⟨#[37]⟩ else if o = 9 then ⟨#[124, 124]⟩ else if o = 11 then ⟨#[61]⟩ else if o = 12 then ⟨#[60, 62]⟩ else if o = 13 then ⟨#[60]⟩ else if o = 14 then ⟨#[60, 61]⟩ else if o = 15 then ⟨#[62]⟩ else if o = 16 then ⟨#[62, 61]⟩ else if o = 18 then ⟨#[97, 110, 100]⟩ else ⟨#[111, 114]⟩

def kidW (o : Int) (s : ByteArray) : ByteArray := if o < 3 then s else ((⟨#[40]⟩ : ByteArray) ++ s) ++ (⟨#[41]⟩ : ByteArray)
def caseW : ByteArray → List ByteArray → ByteArray
  | s, [] => s
  | s, [v] => ((s ++ (⟨#[32, 101, 108, 115, 101, 32]⟩ : ByteArray)) ++ v) ++ (⟨#[32, 101, 110, 100]⟩ : ByteArray)
  | s, c :: v :: l => caseW (s ++ ((((⟨#[32, 119, 104, 101, 110, 32]⟩ : ByteArray) ++ c) ++ (⟨#[32, 116, 104, 101, 110, 32]⟩ : ByteArray)) ++ v)) l
/-- as the reference joins them -/
def joinB : List ByteArray → ByteArray
  | [] => ⟨#[]⟩
  | x :: l => l.foldl (fun s y => (s ++ (⟨#[44, 32]⟩ : ByteArray)) ++ y) x
def wrOp (o c : Int) (d : Dat) (ws kws : List ByteArray) : ByteArray :=
  if o = 1 then (⟨#[35]⟩ : ByteArray) ++ (⟨(Lib.itoa c).toArray⟩ : ByteArray) else if o = 2 then datW d else if o = 23 then (⟨#[102, 97, 105, 108, 32]⟩ : ByteArray) ++ (⟨(Lib.itoa d.int).toArray⟩ : ByteArray)
  else if o = 3 then (⟨#[45]⟩ : ByteArray) ++ kws.getD 0 ⟨#[]⟩ else if o = 10 then ((⟨#[108, 101, 110, 103, 116, 104, 40]⟩ : ByteArray) ++ ws.getD 0 ⟨#[]⟩) ++ (⟨#[41]⟩ : ByteArray) else if o = 17 then (⟨#[110, 111, 116, 32]⟩ : ByteArray) ++ kws.getD 0 ⟨#[]⟩
  else if o = 20 then kws.getD 0 ⟨#[]⟩ ++ (⟨#[32, 105, 115, 32, 110, 117, 108, 108]⟩ : ByteArray) else if o = 21 then caseW ⟨#[99, 97, 115, 101]⟩ kws else if o = 22 then ((⟨#[99, 111, 97, 108, 101, 115, 99, 101, 40]⟩ : ByteArray) ++ joinB ws) ++ (⟨#[41]⟩ : ByteArray)
  else (((kws.getD 0 ⟨#[]⟩ ++ (⟨#[32]⟩ : ByteArray)) ++ signB o) ++ (⟨#[32]⟩ : ByteArray)) ++ kws.getD 1 ⟨#[]⟩
mutual
/-- an expression as it is written -/
def ET.wr : ET → ByteArray
  | .mk o c d ks => wrOp o c d (ET.wrs ks) (ET.kws ks)
def ET.wrs : List ET → List ByteArray
  | [] => []
  | k :: ks => k.wr :: ET.wrs ks
def ET.kws : List ET → List ByteArray
  | [] => []
  | k :: ks => kidW k.op k.wr :: ET.kws ks
end
/-- as it stands in another one -/
def ET.kw (e : ET) : ByteArray := kidW e.op e.wr
theorem ET.wrs_map : ∀ ks : List ET, ET.wrs ks = ks.map ET.wr
  | [] => rfl
  | k :: ks => by simp [ET.wrs, ET.wrs_map ks]
theorem ET.kws_map : ∀ ks : List ET, ET.kws ks = ks.map ET.kw
  | [] => rfl
  | k :: ks => by simp [ET.kws, ET.kws_map ks, ET.kw]

theorem bsize_append (a b : ByteArray) : (a ++ b).size = a.size + b.size := ByteArray.size_append
theorem bappend_assoc (a b c : ByteArray) : (a ++ b) ++ c = a ++ (b ++ c) := ByteArray.append_assoc

theorem joinB_snoc (l : List ByteArray) (y : ByteArray) (h : l ≠ []) : joinB (l ++ [y]) = (joinB l ++ (⟨#[44, 32]⟩ : ByteArray)) ++ y := by
  cases l with
  | nil => exact absurd rfl h
  | cons x l => simp only [List.cons_append, joinB, List.foldl_append, List.foldl_cons, List.foldl_nil]
theorem joinB_one (y : ByteArray) : joinB [y] = y := rfl
theorem foldl_joinTail : ∀ (l : List ByteArray) (s : ByteArray), l.foldl (fun s y => (s ++ (⟨#[44, 32]⟩ : ByteArray)) ++ y) s = s ++ (⟨(Lib.joinTail [44, 32] (l.map (·.data.toList))).toArray⟩ : ByteArray)
  | [], s => by apply ByteArray.ext; simp [Lib.joinTail]
  | y :: l, s => by
    rw [List.foldl_cons, foldl_joinTail l]
    apply ByteArray.ext
    apply Array.ext'
    simp [Lib.joinTail]
theorem joinB_lib (ws : List ByteArray) : (⟨(Lib.join (ws.map (·.data.toList)) [44, 32]).toArray⟩ : ByteArray) = joinB ws := by
  cases ws with
  | nil => rfl
  | cons x l =>
    rw [List.map_cons, Lib.join_cons]
    simp only [joinB]
    rw [foldl_joinTail]
    apply ByteArray.ext
    simp

/-- how much it is, all in all -/
def sumS (l : List ByteArray) : Nat := (l.map ByteArray.size).sum
theorem sumS_cons (x : ByteArray) (l : List ByteArray) : sumS (x :: l) = x.size + sumS l := by simp [sumS]
theorem getD_size (l : List ByteArray) (i : Nat) : (l.getD i ⟨#[]⟩).size ≤ sumS l := by
  induction l generalizing i with
  | nil => simp [sumS, ByteArray.size]
  | cons x l ih =>
    rw [sumS_cons]
    cases i with
    | zero => simp
    | succ i => have := ih i; simp only [List.getD_cons_succ]; omega
theorem getD_two (l : List ByteArray) : (l.getD 0 ⟨#[]⟩).size + (l.getD 1 ⟨#[]⟩).size ≤ sumS l := by
  cases l with
  | nil => simp [sumS, ByteArray.size]
  | cons x l =>
    rw [sumS_cons]
    have := getD_size l 0
    simp only [List.getD_cons_zero, List.getD_cons_succ]
    omega
theorem lit_size (l : List UInt8) : (⟨l.toArray⟩ : ByteArray).size = l.length := by simp [ByteArray.size]
theorem caseW_size : ∀ (m : Nat) (l : List ByteArray) (s : ByteArray), l.length ≤ m → (caseW s l).size ≤ s.size + sumS l + 6 * l.length + 10
  | 0, l, s, h => by obtain rfl := List.length_eq_zero_iff.1 (Nat.le_zero.1 h); simp only [caseW, List.length_nil]; omega
  | m + 1, [], s, h => by simp [caseW]; omega
  | m + 1, [v], s, h => by
    simp only [caseW, bsize_append, sumS_cons]
    have h1 : (⟨#[32, 101, 108, 115, 101, 32]⟩ : ByteArray).size = 6 := rfl
    have h2 : (⟨#[32, 101, 110, 100]⟩ : ByteArray).size = 4 := rfl
    rw [h1, h2]; simp [sumS]; omega
  | m + 1, c :: v :: l, s, h => by
    simp only [caseW]
    simp only [List.length_cons] at h
    have := caseW_size m l (s ++ ((((⟨#[32, 119, 104, 101, 110, 32]⟩ : ByteArray) ++ c) ++ (⟨#[32, 116, 104, 101, 110, 32]⟩ : ByteArray)) ++ v)) (by omega)
    simp only [bsize_append] at this
    have h1 : (⟨#[32, 119, 104, 101, 110, 32]⟩ : ByteArray).size = 6 := rfl
    have h2 : (⟨#[32, 116, 104, 101, 110, 32]⟩ : ByteArray).size = 6 := rfl
    rw [h1, h2] at this
    rw [sumS_cons, sumS_cons]
    simp only [List.length_cons]; omega
theorem foldl_size : ∀ (l : List ByteArray) (s : ByteArray), (l.foldl (fun s y => (s ++ (⟨#[44, 32]⟩ : ByteArray)) ++ y) s).size = s.size + sumS l + 2 * l.length
  | [], s => by simp [sumS]
  | y :: l, s => by
    rw [List.foldl_cons, foldl_size l]
    simp only [bsize_append, sumS_cons, List.length_cons]
    have h1 : (⟨#[44, 32]⟩ : ByteArray).size = 2 := rfl
    rw [h1]; omega
theorem joinB_size (l : List ByteArray) : (joinB l).size ≤ sumS l + 2 * l.length := by
  cases l with
  | nil => simp [joinB, sumS, ByteArray.size]
  | cons x l => simp only [joinB, foldl_size, sumS_cons, List.length_cons]; omega
theorem kidW_size (o : Int) (s : ByteArray) : (kidW o s).size ≤ s.size + 2 := by
  unfold kidW
  split
  · omega
  · simp only [bsize_append]
    have h1 : (⟨#[40]⟩ : ByteArray).size = 1 := rfl
    have h2 : (⟨#[41]⟩ : ByteArray).size = 1 := rfl
    rw [h1, h2]; omega
theorem ite_size {p : Prop} [Decidable p] {a b : ByteArray} (ha : a.size ≤ 3) (hb : b.size ≤ 3) : (if p then a else b).size ≤ 3 := by split <;> assumption
theorem signB_size (o : Int) : (signB o).size ≤ 3 := by
  unfold signB
  iterate 13 refine ite_size (by decide) ?_
  decide
theorem itoa_size {n : Int} (h0 : -9223372036854775808 ≤ n) (h1 : n ≤ 9223372036854775807) : (⟨(Lib.itoa n).toArray⟩ : ByteArray).size ≤ 21 := by rw [lit_size]; exact Lib.itoa_length_le n h0 h1
theorem datW_size {d : Dat} (hf : d.fits) (ht : d.text.size ≤ 1000) : (datW d).size ≤ 4002 := by
  unfold datW
  split
  · rw [lit_size]
    cases d.bool <;> decide
  · split
    · have := itoa_size hf.2.1.1 hf.2.1.2; omega
    · split
      · rw [lit_size]
        have := fx_len d.text.data.toList
        have hl : d.text.data.toList.length = d.text.size := Array.length_toList
        simp only [quf, List.length_cons, List.length_append, List.length_nil]
        omega
      · have : (⟨#[110, 117, 108, 108]⟩ : ByteArray).size = 4 := rfl
        omega

theorem own_lits {o c : Int} {d : Dat} {ks : List ET} (h : ET.own okD (.mk o c d ks) = true) : d.text.size ≤ 1000 := by
  obtain ⟨-, -, -, h2, h3, h4⟩ := own_mk h
  by_cases o2 : o = 2
  · exact (ok_parts (h2 o2)).2
  · by_cases o23 : o = 23
    · have := (h3 o23).1
      rw [this]; show (⟨#[]⟩ : ByteArray).size ≤ 1000; decide
    · rw [h4 o2 o23]; decide

theorem wr_size : ∀ (e : ET) (deep : Nat), e.fits → e.good okD deep = true → e.wr.size + 100 ≤ 5000 * e.size := by
  refine ET.ind fun o c d ks ih deep hf hg => ?_
  simp only [ET.fits] at hf
  obtain ⟨-, hc, hd, -, hfs⟩ := hf
  simp only [ET.good, Bool.and_eq_true, decide_eq_true_eq, ET.goods_iff] at hg
  have hl := own_lits hg.1.1
  have key : ∀ (l : List ET), (∀ k ∈ l, k ∈ ks) → sumS (ET.wrs l) + 100 * l.length ≤ 5000 * ET.sizes l ∧ sumS (ET.kws l) + 98 * l.length ≤ 5000 * ET.sizes l := by
    intro l
    induction l with
    | nil => intro _; simp [ET.wrs, ET.kws, sumS, ET.sizes]
    | cons k l ih2 =>
      intro hm
      have h1 := ih k (hm k (by simp)) (deep + 1) (ET.fitss_iff.1 hfs k (hm k (by simp))) (hg.2 k (hm k (by simp)))
      have h2 := ih2 fun x hx => hm x (by simp [hx])
      have h3 := kidW_size k.op k.wr
      simp only [ET.wrs, ET.kws, sumS_cons, ET.sizes, List.length_cons]
      omega
  obtain ⟨k1, k2⟩ := key ks fun k h => h
  have hlen := ET.sizes_len ks
  have hw : (ET.wrs ks).length = ks.length := by rw [ET.wrs_map, List.length_map]
  have hk : (ET.kws ks).length = ks.length := by rw [ET.kws_map, List.length_map]
  have hb : (wrOp o c d (ET.wrs ks) (ET.kws ks)).size ≤ 4100 + sumS (ET.wrs ks) + sumS (ET.kws ks) + 6 * ks.length ∧ ((wrOp o c d (ET.wrs ks) (ET.kws ks)).size ≤ 4100 + sumS (ET.wrs ks) + 6 * ks.length ∨ (wrOp o c d (ET.wrs ks) (ET.kws ks)).size ≤ 4100 + sumS (ET.kws ks) + 6 * ks.length) := by
    have hor : (wrOp o c d (ET.wrs ks) (ET.kws ks)).size ≤ 4100 + sumS (ET.wrs ks) + 6 * ks.length ∨ (wrOp o c d (ET.wrs ks) (ET.kws ks)).size ≤ 4100 + sumS (ET.kws ks) + 6 * ks.length := by
      have i1 := itoa_size hc.1 hc.2
      have i2 := itoa_size hd.2.1.1 hd.2.1.2
      have i3 := datW_size hd hl
      have g0 := getD_size (ET.wrs ks) 0
      have g1 := getD_size (ET.kws ks) 0
      have g2 := getD_two (ET.kws ks)
      have sg := signB_size o
      have cw := caseW_size _ (ET.kws ks) ⟨#[99, 97, 115, 101]⟩ (Nat.le_refl _)
      have jw := joinB_size (ET.wrs ks)
      rw [hk] at cw
      rw [hw] at jw
      have l1 : (⟨#[35]⟩ : ByteArray).size = 1 := rfl
      have l2 : (⟨#[102, 97, 105, 108, 32]⟩ : ByteArray).size = 5 := rfl
      have l3 : (⟨#[45]⟩ : ByteArray).size = 1 := rfl
      have l4 : (⟨#[108, 101, 110, 103, 116, 104, 40]⟩ : ByteArray).size = 7 := rfl
      have l5 : (⟨#[41]⟩ : ByteArray).size = 1 := rfl
      have l6 : (⟨#[110, 111, 116, 32]⟩ : ByteArray).size = 4 := rfl
      have l7 : (⟨#[32, 105, 115, 32, 110, 117, 108, 108]⟩ : ByteArray).size = 8 := rfl
      have l8 : (⟨#[99, 97, 115, 101]⟩ : ByteArray).size = 4 := rfl
      have l9 : (⟨#[99, 111, 97, 108, 101, 115, 99, 101, 40]⟩ : ByteArray).size = 9 := rfl
      have l10 : (⟨#[32]⟩ : ByteArray).size = 1 := rfl
      rw [l8] at cw
      unfold wrOp
      repeat' split
      all_goals try simp only [bsize_append, l1, l2, l3, l4, l5, l6, l7, l9, l10]
      all_goals first | (left; omega) | (right; omega)
    exact ⟨by rcases hor with h | h <;> omega, hor⟩
  simp only [ET.wr, ET.size]
  rcases hb.2 with h | h <;> omega
end Go.Proofs.YtolikaginhjbhaaGreatDoor
