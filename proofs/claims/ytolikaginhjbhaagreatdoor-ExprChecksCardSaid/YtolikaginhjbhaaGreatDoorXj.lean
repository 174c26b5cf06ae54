import Derived.Test.YtolikaginhjbhaaGreatDoorXi
/- The reference's Print of an expression. -/
namespace Go.Proofs.YtolikaginhjbhaaGreatDoor
open Go.RowKit Go.Pen Go.Shelf
attribute [local go_sem ↓] Go.wp_at_zero Go.wp_at_succ
attribute [local go_sem] Oper.semAt_some

def StPost (s : ByteArray) (w : World) (ev : Ending) (w' : World) : Prop := ev = .returned (.string s) ∧ Below w.heap.size w w'
def Wr84 (e : ET) : Prop := ∀ (deep : Nat) (kv : Value) (w : World), e.size ≤ 12000 → e.At w kv → e.fits → e.good okD deep = true → Calls Tryz.prog 84 #[e.agg kv] w (StPost e.wr w)
theorem good_op {e : ET} {deep : Nat} (h : e.good okD deep = true) : 1 ≤ e.op ∧ e.op ≤ 23 := by
  obtain ⟨o, c, d, ks⟩ := e
  simp only [ET.good, Bool.and_eq_true] at h
  have hk := own_kids h.1.1
  simp only [ET.op]
  by_cases h1 : 1 ≤ o ∧ o ≤ 23
  · exact h1
  · exfalso
    simp only [kidsOk] at hk
    rw [if_neg (by omega), if_neg (by omega), if_neg (by omega), if_neg (by omega)] at hk
    simp only [Bool.and_eq_true, decide_eq_true_eq] at hk
    omega

set_option maxRecDepth 100000 in
set_option maxHeartbeats 1000000 in
theorem kid_116 (e : ET) (h84 : Wr84 e) (deep : Nat) (kv : Value) (w : World) (hsz : e.size ≤ 12000) (hat : e.At w kv) (hfit : e.fits) (hg : e.good okD deep = true) : Calls Tryz.prog 116 #[e.agg kv] w (StPost e.kw w) := by
  have hop := good_op hg
  have hwz := wr_size e deep hfit hg
  have hct := fun (W : World) (hb : Below w.heap.size w W) => h84 deep kv W hsz (hat.below hb) hfit hg
  obtain ⟨a', c', rfl⟩ := hat.slice
  obtain ⟨S, eS⟩ : ∃ S, S = e.wr := ⟨_, rfl⟩
  have hkw : e.kw = kidW e.op S := by rw [eS]; rfl
  rw [← eS] at hwz hct
  obtain ⟨R, eR⟩ : ∃ R, R = e.kw := ⟨_, rfl⟩
  rw [← eR]
  have ER : Hid (R = kidW e.op S) := Lib.hid (eR.trans hkw)
  unfold ET.agg at hct
  have HCT := Lib.hid hct
  have hz : S.size ≤ 60000000 := by omega
  have hs1 : ¬ (9223372036854775807 < (⟨#[40]⟩ : ByteArray).size + S.size) := by
    have : (⟨#[40]⟩ : ByteArray).size = 1 := rfl
    omega
  have hs2 : ¬ (9223372036854775807 < ((⟨#[40]⟩ : ByteArray) ++ S).size + (⟨#[41]⟩ : ByteArray).size) := by
    rw [bsize_append]
    have : (⟨#[40]⟩ : ByteArray).size = 1 := rfl
    have : (⟨#[41]⟩ : ByteArray).size = 1 := rfl
    omega
  clear hwz hct hat hfit hg eS hkw eR
  unfold ET.agg
  go_enter Tryz.func116, Tryz.ntmps116
  go_wp2_with fail
  refine (HCT.out _ (one_below _ _)).mono ?_
  rintro ev w1 ⟨rfl, hb1⟩
  have k1 := one_at hb1
  have y0 := cell_of_heap (o := 0) k1 rfl
  have HB1 := Lib.hid ((one_below _ _).trans (hb1.mono (by simp)))
  clear hb1 k1 HCT
  by_cases h1 : e.op = 1
  · have e1 : (e.op == 1) = true := by simpa using h1
    have hk : R = S := by rw [ER.out]; unfold kidW; rw [if_pos (by omega)]
    subst hk
    go_wp2_with fail
    go_ret
    exact ⟨rfl, HB1.out⟩
  · have e1 : (e.op == 1) = false := by simpa using h1
    by_cases h2 : e.op = 2
    · have e2 : (e.op == 2) = true := by simpa using h2
      have hk : R = S := by rw [ER.out]; unfold kidW; rw [if_pos (by omega)]
      subst hk
      go_wp2_with fail
      go_ret
      exact ⟨rfl, HB1.out⟩
    · have e2 : (e.op == 2) = false := by simpa using h2
      have hk : R = ((⟨#[40]⟩ : ByteArray) ++ S) ++ (⟨#[41]⟩ : ByteArray) := by rw [ER.out]; unfold kidW; rw [if_neg (by omega)]
      subst hk
      go_wp2_with fail
      go_ret
      exact ⟨rfl, HB1.out⟩

theorem kw_size {e : ET} {deep : Nat} (hf : e.fits) (hg : e.good okD deep = true) : e.kw.size ≤ 5000 * e.size := by
  have h1 := wr_size e deep hf hg
  have h2 := kidW_size e.op e.wr
  show (kidW e.op e.wr).size ≤ _
  omega
theorem caseW_ge : ∀ (m : Nat) (l : List ByteArray) (s : ByteArray), l.length ≤ m → s.size ≤ (caseW s l).size
  | 0, l, s, h => by obtain rfl := List.length_eq_zero_iff.1 (Nat.le_zero.1 h); exact Nat.le_refl _
  | m + 1, [], s, h => Nat.le_refl _
  | m + 1, [v], s, h => by simp only [caseW, bsize_append]; omega
  | m + 1, c :: v :: l, s, h => by
    simp only [caseW]
    simp only [List.length_cons] at h
    refine Nat.le_trans ?_ (caseW_ge m l _ (by omega))
    simp only [bsize_append]; omega
theorem joinB_ge (l1 l2 : List ByteArray) : (joinB l1).size ≤ (joinB (l1 ++ l2)).size := by
  cases l1 with
  | nil => exact Nat.zero_le _
  | cons x l =>
    simp only [List.cons_append, joinB, foldl_size, sumS, List.map_append, List.sum_append, List.length_append]
    omega
theorem kids_get {S : Nat → Prop} {w : World} {b o : Nat} {ks : List ET} (h : ET.Ons S w ks b o) {i : Nat} {k : ET} (hk : ks[i]? = some k) : ∃ (a : Option Addr) (c : Nat), KidCells w b (o + i * 7) k (.slice a k.kids.length c) ∧ k.At w (.slice a k.kids.length c) := by
  obtain ⟨kv, h1, h2⟩ := h.get hk
  obtain ⟨a, c, rfl⟩ := h2.slice
  exact ⟨a, c, h1, h2.at⟩
theorem no_big {a b : ByteArray} (ha : a.size ≤ 200000000) (hb : b.size ≤ 200000000) : ¬ (9223372036854775807 < a.size + b.size) := by omega
theorem lit_sz (l : Array UInt8) : (⟨l⟩ : ByteArray).size = l.size := rfl

set_option maxRecDepth 100000 in
set_option maxHeartbeats 2000000 in
theorem w84_1 (c : Int) (d : Dat) (ks : List ET) (ih : ∀ k ∈ ks, Wr84 k) : Wr84 (.mk 1 c d ks) := by
  intro deep kv w hsz hat hfit hg
  obtain ⟨a, cc, rfl, -, hks⟩ := ET.On.iff.1 hat
  have hwz := wr_size _ deep hfit hg
  simp only [ET.fits] at hfit
  obtain ⟨⟨ho0, ho1⟩, ⟨hc0, hc1⟩, hdf, hkl, hfs⟩ := hfit
  have hof := good_op hg
  simp only [ET.op] at hof
  simp only [ET.good, Bool.and_eq_true, decide_eq_true_eq, ET.goods_iff] at hg
  have hkid := own_kids hg.1.1
  have hown := own_mk hg.1.1
  simp only [ET.size] at hsz hwz
  simp only [ET.kids] at hks
  obtain ⟨R, eR⟩ : ∃ R, R = (ET.mk 1 c d ks).wr := ⟨_, rfl⟩
  rw [← eR] at hwz ⊢
  have hR : R = wrOp 1 c d (ET.wrs ks) (ET.kws ks) := by rw [eR]; simp only [ET.wr]
  have HR := Lib.hid hR
  have hRz : R.size ≤ 60000000 := by omega
  have HF := Lib.hid (ET.fitss_iff.1 hfs)
  have HG := Lib.hid hg.2
  have HKS := Lib.hid hks
  have HOWN := Lib.hid hown
  have HDF := Lib.hid hdf
  have HKID := Lib.hid hkid
  have HSZ : Hid (∀ k ∈ ks, k.size ≤ 12000) := fun k hk => by have := ET.sizes_mem hk; omega
  have HK84 : Hid (∀ (k : ET), k ∈ ks → ∀ (ka : Option Addr) (kc : Nat) (W : World), k.At W (.slice ka k.kids.length kc) → Calls Tryz.prog 84 #[.agg #[.int .u8 k.op, .slice ka k.kids.length kc, .int .i64 k.col, .int .u8 k.lit.kind, .bool k.lit.bool, .int .i64 k.lit.int, .string k.lit.text]] W (StPost k.wr W)) := fun k hk ka kc W h => ih k hk (deep + 1) _ W (HSZ.out k hk) h (HF.out k hk) (HG.out k hk)
  have HK : Hid (∀ (k : ET), k ∈ ks → ∀ (ka : Option Addr) (kc : Nat) (W : World), k.At W (.slice ka k.kids.length kc) → Calls Tryz.prog 116 #[.agg #[.int .u8 k.op, .slice ka k.kids.length kc, .int .i64 k.col, .int .u8 k.lit.kind, .bool k.lit.bool, .int .i64 k.lit.int, .string k.lit.text]] W (StPost k.kw W)) := fun k hk ka kc W h => kid_116 k (ih k hk) (deep + 1) _ W (HSZ.out k hk) h (HF.out k hk) (HG.out k hk)
  have HKZ : Hid (∀ k ∈ ks, k.wr.size ≤ 60000000 ∧ k.kw.size ≤ 60000000) := fun k hk => by
    have := wr_size k (deep + 1) (HF.out k hk) (HG.out k hk)
    have := kw_size (HF.out k hk) (HG.out k hk)
    have := HSZ.out k hk
    omega
  clear hwz hfs hg hkid hown hks hat ih eR hR hdf
  unfold ET.agg
  simp only [ET.op, ET.col, ET.lit, ET.kids]
  obtain ⟨K, eK⟩ : ∃ K, K = ks.length := ⟨_, rfl⟩
  rw [← eK] at hkl HKID ⊢
  have EK := Lib.hid eK
  clear eK
  have hcr := HOWN.out.2.1 rfl
  obtain ⟨u, rfl⟩ : ∃ u : Nat, c = (u : Int) := ⟨c.toNat, by omega⟩
  obtain ⟨V, eV⟩ : ∃ V, V = (⟨(Lib.itoa (u : Int)).toArray⟩ : ByteArray) := ⟨_, rfl⟩
  have hct := fun (W : World) => number_114 u (by omega) W
  rw [← Lib.itoa_nonneg] at hct
  rw [← eV] at hct
  have HCT := Lib.hid hct
  have hRv : R = ((⟨#[35]⟩ : ByteArray) ++ V) := by rw [HR.out, eV]; simp [wrOp]
  have hz : V.size ≤ 60000000 := by
    have := congrArg ByteArray.size hRv
    try simp only [bsize_append] at this
    omega
  have hs1 : ¬ (9223372036854775807 < (⟨#[35]⟩ : ByteArray).size + V.size) := by
    have q0 : (⟨#[35]⟩ : ByteArray).size = 1 := rfl
    try simp only [bsize_append]
    omega
  have hs1n0 : ¬ (9223372036854775807 < 1 + V.size) := by
    have q0 : (⟨#[35]⟩ : ByteArray).size = 1 := rfl
    try simp only [bsize_append]
    omega
  subst hRv
  clear eV hct
  go_enter Tryz.func84, Tryz.ntmps84
  go_wp2_with fail
  refine (HCT.out _).mono ?_
  rintro ev w2 ⟨rfl, hb2⟩
  have HB2 := Lib.hid ((one_below _ _).trans (hb2.mono (by simp)))
  clear hb2 HCT
  go_wp2_with fail
  go_ret
  exact ⟨rfl, HB2.out⟩


set_option maxRecDepth 100000 in
set_option maxHeartbeats 2000000 in
theorem w84_2 (c : Int) (d : Dat) (ks : List ET) (ih : ∀ k ∈ ks, Wr84 k) : Wr84 (.mk 2 c d ks) := by
  intro deep kv w hsz hat hfit hg
  obtain ⟨a, cc, rfl, -, hks⟩ := ET.On.iff.1 hat
  have hwz := wr_size _ deep hfit hg
  simp only [ET.fits] at hfit
  obtain ⟨⟨ho0, ho1⟩, ⟨hc0, hc1⟩, hdf, hkl, hfs⟩ := hfit
  have hof := good_op hg
  simp only [ET.op] at hof
  simp only [ET.good, Bool.and_eq_true, decide_eq_true_eq, ET.goods_iff] at hg
  have hkid := own_kids hg.1.1
  have hown := own_mk hg.1.1
  simp only [ET.size] at hsz hwz
  simp only [ET.kids] at hks
  obtain ⟨R, eR⟩ : ∃ R, R = (ET.mk 2 c d ks).wr := ⟨_, rfl⟩
  rw [← eR] at hwz ⊢
  have hR : R = wrOp 2 c d (ET.wrs ks) (ET.kws ks) := by rw [eR]; simp only [ET.wr]
  have HR := Lib.hid hR
  have hRz : R.size ≤ 60000000 := by omega
  have HF := Lib.hid (ET.fitss_iff.1 hfs)
  have HG := Lib.hid hg.2
  have HKS := Lib.hid hks
  have HOWN := Lib.hid hown
  have HDF := Lib.hid hdf
  have HKID := Lib.hid hkid
  have HSZ : Hid (∀ k ∈ ks, k.size ≤ 12000) := fun k hk => by have := ET.sizes_mem hk; omega
  have HK84 : Hid (∀ (k : ET), k ∈ ks → ∀ (ka : Option Addr) (kc : Nat) (W : World), k.At W (.slice ka k.kids.length kc) → Calls Tryz.prog 84 #[.agg #[.int .u8 k.op, .slice ka k.kids.length kc, .int .i64 k.col, .int .u8 k.lit.kind, .bool k.lit.bool, .int .i64 k.lit.int, .string k.lit.text]] W (StPost k.wr W)) := fun k hk ka kc W h => ih k hk (deep + 1) _ W (HSZ.out k hk) h (HF.out k hk) (HG.out k hk)
  have HK : Hid (∀ (k : ET), k ∈ ks → ∀ (ka : Option Addr) (kc : Nat) (W : World), k.At W (.slice ka k.kids.length kc) → Calls Tryz.prog 116 #[.agg #[.int .u8 k.op, .slice ka k.kids.length kc, .int .i64 k.col, .int .u8 k.lit.kind, .bool k.lit.bool, .int .i64 k.lit.int, .string k.lit.text]] W (StPost k.kw W)) := fun k hk ka kc W h => kid_116 k (ih k hk) (deep + 1) _ W (HSZ.out k hk) h (HF.out k hk) (HG.out k hk)
  have HKZ : Hid (∀ k ∈ ks, k.wr.size ≤ 60000000 ∧ k.kw.size ≤ 60000000) := fun k hk => by
    have := wr_size k (deep + 1) (HF.out k hk) (HG.out k hk)
    have := kw_size (HF.out k hk) (HG.out k hk)
    have := HSZ.out k hk
    omega
  clear hwz hfs hg hkid hown hks hat ih eR hR hdf
  unfold ET.agg
  simp only [ET.op, ET.col, ET.lit, ET.kids]
  obtain ⟨K, eK⟩ : ∃ K, K = ks.length := ⟨_, rfl⟩
  rw [← eK] at hkl HKID ⊢
  have EK := Lib.hid eK
  clear eK

  obtain ⟨V, eV⟩ : ∃ V, V = datW d := ⟨_, rfl⟩
  have hct := fun (W : World) => rprint_115 d W HDF.out (HOWN.out.2.2.2.1 rfl)
  unfold dagg at hct
  rw [← eV] at hct
  have HCT := Lib.hid hct
  have hRv : R = V := by rw [HR.out, eV]; simp [wrOp]
  have hz : V.size ≤ 60000000 := by
    have := congrArg ByteArray.size hRv
    try simp only [bsize_append] at this
    omega

  subst hRv
  clear eV hct
  go_enter Tryz.func84, Tryz.ntmps84
  go_wp2_with fail
  refine (HCT.out _).mono ?_
  rintro ev w2 ⟨rfl, hb2⟩
  have HB2 := Lib.hid ((one_below _ _).trans (hb2.mono (by simp)))
  clear hb2 HCT
  go_wp2_with fail
  go_ret
  exact ⟨rfl, HB2.out⟩


set_option maxRecDepth 100000 in
set_option maxHeartbeats 2000000 in
theorem w84_3 (c : Int) (d : Dat) (ks : List ET) (ih : ∀ k ∈ ks, Wr84 k) : Wr84 (.mk 3 c d ks) := by
  intro deep kv w hsz hat hfit hg
  obtain ⟨a, cc, rfl, -, hks⟩ := ET.On.iff.1 hat
  have hwz := wr_size _ deep hfit hg
  simp only [ET.fits] at hfit
  obtain ⟨⟨ho0, ho1⟩, ⟨hc0, hc1⟩, hdf, hkl, hfs⟩ := hfit
  have hof := good_op hg
  simp only [ET.op] at hof
  simp only [ET.good, Bool.and_eq_true, decide_eq_true_eq, ET.goods_iff] at hg
  have hkid := own_kids hg.1.1
  have hown := own_mk hg.1.1
  simp only [ET.size] at hsz hwz
  simp only [ET.kids] at hks
  obtain ⟨R, eR⟩ : ∃ R, R = (ET.mk 3 c d ks).wr := ⟨_, rfl⟩
  rw [← eR] at hwz ⊢
  have hR : R = wrOp 3 c d (ET.wrs ks) (ET.kws ks) := by rw [eR]; simp only [ET.wr]
  have HR := Lib.hid hR
  have hRz : R.size ≤ 60000000 := by omega
  have HF := Lib.hid (ET.fitss_iff.1 hfs)
  have HG := Lib.hid hg.2
  have HKS := Lib.hid hks
  have HOWN := Lib.hid hown
  have HDF := Lib.hid hdf
  have HKID := Lib.hid hkid
  have HSZ : Hid (∀ k ∈ ks, k.size ≤ 12000) := fun k hk => by have := ET.sizes_mem hk; omega
  have HK84 : Hid (∀ (k : ET), k ∈ ks → ∀ (ka : Option Addr) (kc : Nat) (W : World), k.At W (.slice ka k.kids.length kc) → Calls Tryz.prog 84 #[.agg #[.int .u8 k.op, .slice ka k.kids.length kc, .int .i64 k.col, .int .u8 k.lit.kind, .bool k.lit.bool, .int .i64 k.lit.int, .string k.lit.text]] W (StPost k.wr W)) := fun k hk ka kc W h => ih k hk (deep + 1) _ W (HSZ.out k hk) h (HF.out k hk) (HG.out k hk)
  have HK : Hid (∀ (k : ET), k ∈ ks → ∀ (ka : Option Addr) (kc : Nat) (W : World), k.At W (.slice ka k.kids.length kc) → Calls Tryz.prog 116 #[.agg #[.int .u8 k.op, .slice ka k.kids.length kc, .int .i64 k.col, .int .u8 k.lit.kind, .bool k.lit.bool, .int .i64 k.lit.int, .string k.lit.text]] W (StPost k.kw W)) := fun k hk ka kc W h => kid_116 k (ih k hk) (deep + 1) _ W (HSZ.out k hk) h (HF.out k hk) (HG.out k hk)
  have HKZ : Hid (∀ k ∈ ks, k.wr.size ≤ 60000000 ∧ k.kw.size ≤ 60000000) := fun k hk => by
    have := wr_size k (deep + 1) (HF.out k hk) (HG.out k hk)
    have := kw_size (HF.out k hk) (HG.out k hk)
    have := HSZ.out k hk
    omega
  clear hwz hfs hg hkid hown hks hat ih eR hR hdf
  unfold ET.agg
  simp only [ET.op, ET.col, ET.lit, ET.kids]
  obtain ⟨K, eK⟩ : ∃ K, K = ks.length := ⟨_, rfl⟩
  rw [← eK] at hkl HKID ⊢
  have EK := Lib.hid eK
  clear eK
  have hl : ks.length = 1 := by
    have h := HKID.out
    unfold kidsOk at h
    rw [← EK.out]
    simpa using h
  obtain ⟨k, rfl⟩ : ∃ k, ks = [k] := List.length_eq_one_iff.1 hl
  have hK1 : K = 1 := EK.out.trans hl
  subst hK1
  obtain ⟨b, off, rfl, -, hats⟩ := HKS.out (by simp)
  obtain ⟨ka, kc, hkc, hkat⟩ := kids_get hats (i := 0) (k := k) rfl
  rw [Nat.zero_mul, Nat.add_zero] at hkc
  obtain ⟨V, eV⟩ : ∃ V, V = k.kw := ⟨_, rfl⟩
  have hz : V.size ≤ 60000000 := by rw [eV]; exact (HKZ.out k (by simp)).2
  have hct := fun (A : Obj) => HK.out k (by simp) ka kc _ (hkat.below (one_below w A))
  rw [← eV] at hct
  have HCT := Lib.hid hct
  have hRv : R = ((⟨#[45]⟩ : ByteArray) ++ V) := by rw [HR.out, eV]; simp [wrOp, ET.kws, ET.kw]
  have hs1 : ¬ (9223372036854775807 < (⟨#[45]⟩ : ByteArray).size + V.size) := by
    have q0 : (⟨#[45]⟩ : ByteArray).size = 1 := rfl
    try simp only [bsize_append]
    omega
  have hs1n0 : ¬ (9223372036854775807 < 1 + V.size) := by
    have q0 : (⟨#[45]⟩ : ByteArray).size = 1 := rfl
    try simp only [bsize_append]
    omega
  have xl : b < w.heap.size := World.block_lt_of_cell? w _ hkc.1
  have k0 := fun (A : Obj) => cell_keep (one_below w A) hkc.1
  have k1 := fun (A : Obj) => cell_keep (one_below w A) hkc.2.1
  have k2 := fun (A : Obj) => cell_keep (one_below w A) hkc.2.2.1
  have k3 := fun (A : Obj) => cell_keep (one_below w A) hkc.2.2.2.1
  have k4 := fun (A : Obj) => cell_keep (one_below w A) hkc.2.2.2.2.1
  have k5 := fun (A : Obj) => cell_keep (one_below w A) hkc.2.2.2.2.2.1
  have k6 := fun (A : Obj) => cell_keep (one_below w A) hkc.2.2.2.2.2.2
  subst hRv
  clear hats hkc hkat eV hct hl hRz
  go_enter Tryz.func84, Tryz.ntmps84
  go_wp2_with fail
  refine (HCT.out _).mono ?_
  rintro ev w2 ⟨rfl, hb2⟩
  have HB2 := Lib.hid ((one_below _ _).trans (hb2.mono (by simp)))
  clear hb2 HCT k0 k1 k2 k3 k4 k5 k6
  go_wp2_with fail
  go_ret
  exact ⟨rfl, HB2.out⟩


set_option maxRecDepth 100000 in
set_option maxHeartbeats 2000000 in
theorem w84_10 (c : Int) (d : Dat) (ks : List ET) (ih : ∀ k ∈ ks, Wr84 k) : Wr84 (.mk 10 c d ks) := by
  intro deep kv w hsz hat hfit hg
  obtain ⟨a, cc, rfl, -, hks⟩ := ET.On.iff.1 hat
  have hwz := wr_size _ deep hfit hg
  simp only [ET.fits] at hfit
  obtain ⟨⟨ho0, ho1⟩, ⟨hc0, hc1⟩, hdf, hkl, hfs⟩ := hfit
  have hof := good_op hg
  simp only [ET.op] at hof
  simp only [ET.good, Bool.and_eq_true, decide_eq_true_eq, ET.goods_iff] at hg
  have hkid := own_kids hg.1.1
  have hown := own_mk hg.1.1
  simp only [ET.size] at hsz hwz
  simp only [ET.kids] at hks
  obtain ⟨R, eR⟩ : ∃ R, R = (ET.mk 10 c d ks).wr := ⟨_, rfl⟩
  rw [← eR] at hwz ⊢
  have hR : R = wrOp 10 c d (ET.wrs ks) (ET.kws ks) := by rw [eR]; simp only [ET.wr]
  have HR := Lib.hid hR
  have hRz : R.size ≤ 60000000 := by omega
  have HF := Lib.hid (ET.fitss_iff.1 hfs)
  have HG := Lib.hid hg.2
  have HKS := Lib.hid hks
  have HOWN := Lib.hid hown
  have HDF := Lib.hid hdf
  have HKID := Lib.hid hkid
  have HSZ : Hid (∀ k ∈ ks, k.size ≤ 12000) := fun k hk => by have := ET.sizes_mem hk; omega
  have HK84 : Hid (∀ (k : ET), k ∈ ks → ∀ (ka : Option Addr) (kc : Nat) (W : World), k.At W (.slice ka k.kids.length kc) → Calls Tryz.prog 84 #[.agg #[.int .u8 k.op, .slice ka k.kids.length kc, .int .i64 k.col, .int .u8 k.lit.kind, .bool k.lit.bool, .int .i64 k.lit.int, .string k.lit.text]] W (StPost k.wr W)) := fun k hk ka kc W h => ih k hk (deep + 1) _ W (HSZ.out k hk) h (HF.out k hk) (HG.out k hk)
  have HK : Hid (∀ (k : ET), k ∈ ks → ∀ (ka : Option Addr) (kc : Nat) (W : World), k.At W (.slice ka k.kids.length kc) → Calls Tryz.prog 116 #[.agg #[.int .u8 k.op, .slice ka k.kids.length kc, .int .i64 k.col, .int .u8 k.lit.kind, .bool k.lit.bool, .int .i64 k.lit.int, .string k.lit.text]] W (StPost k.kw W)) := fun k hk ka kc W h => kid_116 k (ih k hk) (deep + 1) _ W (HSZ.out k hk) h (HF.out k hk) (HG.out k hk)
  have HKZ : Hid (∀ k ∈ ks, k.wr.size ≤ 60000000 ∧ k.kw.size ≤ 60000000) := fun k hk => by
    have := wr_size k (deep + 1) (HF.out k hk) (HG.out k hk)
    have := kw_size (HF.out k hk) (HG.out k hk)
    have := HSZ.out k hk
    omega
  clear hwz hfs hg hkid hown hks hat ih eR hR hdf
  unfold ET.agg
  simp only [ET.op, ET.col, ET.lit, ET.kids]
  obtain ⟨K, eK⟩ : ∃ K, K = ks.length := ⟨_, rfl⟩
  rw [← eK] at hkl HKID ⊢
  have EK := Lib.hid eK
  clear eK
  have hl : ks.length = 1 := by
    have h := HKID.out
    unfold kidsOk at h
    rw [← EK.out]
    simpa using h
  obtain ⟨k, rfl⟩ : ∃ k, ks = [k] := List.length_eq_one_iff.1 hl
  have hK1 : K = 1 := EK.out.trans hl
  subst hK1
  obtain ⟨b, off, rfl, -, hats⟩ := HKS.out (by simp)
  obtain ⟨ka, kc, hkc, hkat⟩ := kids_get hats (i := 0) (k := k) rfl
  rw [Nat.zero_mul, Nat.add_zero] at hkc
  obtain ⟨V, eV⟩ : ∃ V, V = k.wr := ⟨_, rfl⟩
  have hz : V.size ≤ 60000000 := by rw [eV]; exact (HKZ.out k (by simp)).1
  have hct := fun (A : Obj) => HK84.out k (by simp) ka kc _ (hkat.below (one_below w A))
  rw [← eV] at hct
  have HCT := Lib.hid hct
  have hRv : R = (((⟨#[108, 101, 110, 103, 116, 104, 40]⟩ : ByteArray) ++ V) ++ (⟨#[41]⟩ : ByteArray)) := by rw [HR.out, eV]; simp [wrOp, ET.wrs]
  have hs1 : ¬ (9223372036854775807 < (⟨#[108, 101, 110, 103, 116, 104, 40]⟩ : ByteArray).size + V.size) := by
    have q0 : (⟨#[108, 101, 110, 103, 116, 104, 40]⟩ : ByteArray).size = 7 := rfl
    try simp only [bsize_append]
    omega
  have hs1n0 : ¬ (9223372036854775807 < 7 + V.size) := by
    have q0 : (⟨#[108, 101, 110, 103, 116, 104, 40]⟩ : ByteArray).size = 7 := rfl
    try simp only [bsize_append]
    omega
  have hs2 : ¬ (9223372036854775807 < ((⟨#[108, 101, 110, 103, 116, 104, 40]⟩ : ByteArray) ++ V).size + (⟨#[41]⟩ : ByteArray).size) := by
    have q0 : (⟨#[108, 101, 110, 103, 116, 104, 40]⟩ : ByteArray).size = 7 := rfl
    have q1 : (⟨#[41]⟩ : ByteArray).size = 1 := rfl
    try simp only [bsize_append]
    omega
  have hs2n0 : ¬ (9223372036854775807 < ((⟨#[108, 101, 110, 103, 116, 104, 40]⟩ : ByteArray) ++ V).size + 1) := by
    have q0 : (⟨#[108, 101, 110, 103, 116, 104, 40]⟩ : ByteArray).size = 7 := rfl
    have q1 : (⟨#[41]⟩ : ByteArray).size = 1 := rfl
    try simp only [bsize_append]
    omega
  have hs2n1 : ¬ (9223372036854775807 < 7 + V.size + 1) := by
    have q0 : (⟨#[108, 101, 110, 103, 116, 104, 40]⟩ : ByteArray).size = 7 := rfl
    have q1 : (⟨#[41]⟩ : ByteArray).size = 1 := rfl
    try simp only [bsize_append]
    omega
  have xl : b < w.heap.size := World.block_lt_of_cell? w _ hkc.1
  have k0 := fun (A : Obj) => cell_keep (one_below w A) hkc.1
  have k1 := fun (A : Obj) => cell_keep (one_below w A) hkc.2.1
  have k2 := fun (A : Obj) => cell_keep (one_below w A) hkc.2.2.1
  have k3 := fun (A : Obj) => cell_keep (one_below w A) hkc.2.2.2.1
  have k4 := fun (A : Obj) => cell_keep (one_below w A) hkc.2.2.2.2.1
  have k5 := fun (A : Obj) => cell_keep (one_below w A) hkc.2.2.2.2.2.1
  have k6 := fun (A : Obj) => cell_keep (one_below w A) hkc.2.2.2.2.2.2
  subst hRv
  clear hats hkc hkat eV hct hl hRz
  go_enter Tryz.func84, Tryz.ntmps84
  go_wp2_with fail
  refine (HCT.out _).mono ?_
  rintro ev w2 ⟨rfl, hb2⟩
  have HB2 := Lib.hid ((one_below _ _).trans (hb2.mono (by simp)))
  clear hb2 HCT k0 k1 k2 k3 k4 k5 k6
  go_wp2_with fail
  go_ret
  exact ⟨rfl, HB2.out⟩


set_option maxRecDepth 100000 in
set_option maxHeartbeats 2000000 in
theorem w84_17 (c : Int) (d : Dat) (ks : List ET) (ih : ∀ k ∈ ks, Wr84 k) : Wr84 (.mk 17 c d ks) := by
  intro deep kv w hsz hat hfit hg
  obtain ⟨a, cc, rfl, -, hks⟩ := ET.On.iff.1 hat
  have hwz := wr_size _ deep hfit hg
  simp only [ET.fits] at hfit
  obtain ⟨⟨ho0, ho1⟩, ⟨hc0, hc1⟩, hdf, hkl, hfs⟩ := hfit
  have hof := good_op hg
  simp only [ET.op] at hof
  simp only [ET.good, Bool.and_eq_true, decide_eq_true_eq, ET.goods_iff] at hg
  have hkid := own_kids hg.1.1
  have hown := own_mk hg.1.1
  simp only [ET.size] at hsz hwz
  simp only [ET.kids] at hks
  obtain ⟨R, eR⟩ : ∃ R, R = (ET.mk 17 c d ks).wr := ⟨_, rfl⟩
  rw [← eR] at hwz ⊢
  have hR : R = wrOp 17 c d (ET.wrs ks) (ET.kws ks) := by rw [eR]; simp only [ET.wr]
  have HR := Lib.hid hR
  have hRz : R.size ≤ 60000000 := by omega
  have HF := Lib.hid (ET.fitss_iff.1 hfs)
  have HG := Lib.hid hg.2
  have HKS := Lib.hid hks
  have HOWN := Lib.hid hown
  have HDF := Lib.hid hdf
  have HKID := Lib.hid hkid
  have HSZ : Hid (∀ k ∈ ks, k.size ≤ 12000) := fun k hk => by have := ET.sizes_mem hk; omega
  have HK84 : Hid (∀ (k : ET), k ∈ ks → ∀ (ka : Option Addr) (kc : Nat) (W : World), k.At W (.slice ka k.kids.length kc) → Calls Tryz.prog 84 #[.agg #[.int .u8 k.op, .slice ka k.kids.length kc, .int .i64 k.col, .int .u8 k.lit.kind, .bool k.lit.bool, .int .i64 k.lit.int, .string k.lit.text]] W (StPost k.wr W)) := fun k hk ka kc W h => ih k hk (deep + 1) _ W (HSZ.out k hk) h (HF.out k hk) (HG.out k hk)
  have HK : Hid (∀ (k : ET), k ∈ ks → ∀ (ka : Option Addr) (kc : Nat) (W : World), k.At W (.slice ka k.kids.length kc) → Calls Tryz.prog 116 #[.agg #[.int .u8 k.op, .slice ka k.kids.length kc, .int .i64 k.col, .int .u8 k.lit.kind, .bool k.lit.bool, .int .i64 k.lit.int, .string k.lit.text]] W (StPost k.kw W)) := fun k hk ka kc W h => kid_116 k (ih k hk) (deep + 1) _ W (HSZ.out k hk) h (HF.out k hk) (HG.out k hk)
  have HKZ : Hid (∀ k ∈ ks, k.wr.size ≤ 60000000 ∧ k.kw.size ≤ 60000000) := fun k hk => by
    have := wr_size k (deep + 1) (HF.out k hk) (HG.out k hk)
    have := kw_size (HF.out k hk) (HG.out k hk)
    have := HSZ.out k hk
    omega
  clear hwz hfs hg hkid hown hks hat ih eR hR hdf
  unfold ET.agg
  simp only [ET.op, ET.col, ET.lit, ET.kids]
  obtain ⟨K, eK⟩ : ∃ K, K = ks.length := ⟨_, rfl⟩
  rw [← eK] at hkl HKID ⊢
  have EK := Lib.hid eK
  clear eK
  have hl : ks.length = 1 := by
    have h := HKID.out
    unfold kidsOk at h
    rw [← EK.out]
    simpa using h
  obtain ⟨k, rfl⟩ : ∃ k, ks = [k] := List.length_eq_one_iff.1 hl
  have hK1 : K = 1 := EK.out.trans hl
  subst hK1
  obtain ⟨b, off, rfl, -, hats⟩ := HKS.out (by simp)
  obtain ⟨ka, kc, hkc, hkat⟩ := kids_get hats (i := 0) (k := k) rfl
  rw [Nat.zero_mul, Nat.add_zero] at hkc
  obtain ⟨V, eV⟩ : ∃ V, V = k.kw := ⟨_, rfl⟩
  have hz : V.size ≤ 60000000 := by rw [eV]; exact (HKZ.out k (by simp)).2
  have hct := fun (A : Obj) => HK.out k (by simp) ka kc _ (hkat.below (one_below w A))
  rw [← eV] at hct
  have HCT := Lib.hid hct
  have hRv : R = ((⟨#[110, 111, 116, 32]⟩ : ByteArray) ++ V) := by rw [HR.out, eV]; simp [wrOp, ET.kws, ET.kw]
  have hs1 : ¬ (9223372036854775807 < (⟨#[110, 111, 116, 32]⟩ : ByteArray).size + V.size) := by
    have q0 : (⟨#[110, 111, 116, 32]⟩ : ByteArray).size = 4 := rfl
    try simp only [bsize_append]
    omega
  have hs1n0 : ¬ (9223372036854775807 < 4 + V.size) := by
    have q0 : (⟨#[110, 111, 116, 32]⟩ : ByteArray).size = 4 := rfl
    try simp only [bsize_append]
    omega
  have xl : b < w.heap.size := World.block_lt_of_cell? w _ hkc.1
  have k0 := fun (A : Obj) => cell_keep (one_below w A) hkc.1
  have k1 := fun (A : Obj) => cell_keep (one_below w A) hkc.2.1
  have k2 := fun (A : Obj) => cell_keep (one_below w A) hkc.2.2.1
  have k3 := fun (A : Obj) => cell_keep (one_below w A) hkc.2.2.2.1
  have k4 := fun (A : Obj) => cell_keep (one_below w A) hkc.2.2.2.2.1
  have k5 := fun (A : Obj) => cell_keep (one_below w A) hkc.2.2.2.2.2.1
  have k6 := fun (A : Obj) => cell_keep (one_below w A) hkc.2.2.2.2.2.2
  subst hRv
  clear hats hkc hkat eV hct hl hRz
  go_enter Tryz.func84, Tryz.ntmps84
  go_wp2_with fail
  refine (HCT.out _).mono ?_
  rintro ev w2 ⟨rfl, hb2⟩
  have HB2 := Lib.hid ((one_below _ _).trans (hb2.mono (by simp)))
  clear hb2 HCT k0 k1 k2 k3 k4 k5 k6
  go_wp2_with fail
  go_ret
  exact ⟨rfl, HB2.out⟩


set_option maxRecDepth 100000 in
set_option maxHeartbeats 2000000 in
theorem w84_20 (c : Int) (d : Dat) (ks : List ET) (ih : ∀ k ∈ ks, Wr84 k) : Wr84 (.mk 20 c d ks) := by
  intro deep kv w hsz hat hfit hg
  obtain ⟨a, cc, rfl, -, hks⟩ := ET.On.iff.1 hat
  have hwz := wr_size _ deep hfit hg
  simp only [ET.fits] at hfit
  obtain ⟨⟨ho0, ho1⟩, ⟨hc0, hc1⟩, hdf, hkl, hfs⟩ := hfit
  have hof := good_op hg
  simp only [ET.op] at hof
  simp only [ET.good, Bool.and_eq_true, decide_eq_true_eq, ET.goods_iff] at hg
  have hkid := own_kids hg.1.1
  have hown := own_mk hg.1.1
  simp only [ET.size] at hsz hwz
  simp only [ET.kids] at hks
  obtain ⟨R, eR⟩ : ∃ R, R = (ET.mk 20 c d ks).wr := ⟨_, rfl⟩
  rw [← eR] at hwz ⊢
  have hR : R = wrOp 20 c d (ET.wrs ks) (ET.kws ks) := by rw [eR]; simp only [ET.wr]
  have HR := Lib.hid hR
  have hRz : R.size ≤ 60000000 := by omega
  have HF := Lib.hid (ET.fitss_iff.1 hfs)
  have HG := Lib.hid hg.2
  have HKS := Lib.hid hks
  have HOWN := Lib.hid hown
  have HDF := Lib.hid hdf
  have HKID := Lib.hid hkid
  have HSZ : Hid (∀ k ∈ ks, k.size ≤ 12000) := fun k hk => by have := ET.sizes_mem hk; omega
  have HK84 : Hid (∀ (k : ET), k ∈ ks → ∀ (ka : Option Addr) (kc : Nat) (W : World), k.At W (.slice ka k.kids.length kc) → Calls Tryz.prog 84 #[.agg #[.int .u8 k.op, .slice ka k.kids.length kc, .int .i64 k.col, .int .u8 k.lit.kind, .bool k.lit.bool, .int .i64 k.lit.int, .string k.lit.text]] W (StPost k.wr W)) := fun k hk ka kc W h => ih k hk (deep + 1) _ W (HSZ.out k hk) h (HF.out k hk) (HG.out k hk)
  have HK : Hid (∀ (k : ET), k ∈ ks → ∀ (ka : Option Addr) (kc : Nat) (W : World), k.At W (.slice ka k.kids.length kc) → Calls Tryz.prog 116 #[.agg #[.int .u8 k.op, .slice ka k.kids.length kc, .int .i64 k.col, .int .u8 k.lit.kind, .bool k.lit.bool, .int .i64 k.lit.int, .string k.lit.text]] W (StPost k.kw W)) := fun k hk ka kc W h => kid_116 k (ih k hk) (deep + 1) _ W (HSZ.out k hk) h (HF.out k hk) (HG.out k hk)
  have HKZ : Hid (∀ k ∈ ks, k.wr.size ≤ 60000000 ∧ k.kw.size ≤ 60000000) := fun k hk => by
    have := wr_size k (deep + 1) (HF.out k hk) (HG.out k hk)
    have := kw_size (HF.out k hk) (HG.out k hk)
    have := HSZ.out k hk
    omega
  clear hwz hfs hg hkid hown hks hat ih eR hR hdf
  unfold ET.agg
  simp only [ET.op, ET.col, ET.lit, ET.kids]
  obtain ⟨K, eK⟩ : ∃ K, K = ks.length := ⟨_, rfl⟩
  rw [← eK] at hkl HKID ⊢
  have EK := Lib.hid eK
  clear eK
  have hl : ks.length = 1 := by
    have h := HKID.out
    unfold kidsOk at h
    rw [← EK.out]
    simpa using h
  obtain ⟨k, rfl⟩ : ∃ k, ks = [k] := List.length_eq_one_iff.1 hl
  have hK1 : K = 1 := EK.out.trans hl
  subst hK1
  obtain ⟨b, off, rfl, -, hats⟩ := HKS.out (by simp)
  obtain ⟨ka, kc, hkc, hkat⟩ := kids_get hats (i := 0) (k := k) rfl
  rw [Nat.zero_mul, Nat.add_zero] at hkc
  obtain ⟨V, eV⟩ : ∃ V, V = k.kw := ⟨_, rfl⟩
  have hz : V.size ≤ 60000000 := by rw [eV]; exact (HKZ.out k (by simp)).2
  have hct := fun (A : Obj) => HK.out k (by simp) ka kc _ (hkat.below (one_below w A))
  rw [← eV] at hct
  have HCT := Lib.hid hct
  have hRv : R = (V ++ (⟨#[32, 105, 115, 32, 110, 117, 108, 108]⟩ : ByteArray)) := by rw [HR.out, eV]; simp [wrOp, ET.kws, ET.kw]
  have hs2 : ¬ (9223372036854775807 < V.size + (⟨#[32, 105, 115, 32, 110, 117, 108, 108]⟩ : ByteArray).size) := by
    have q0 : (⟨#[32, 105, 115, 32, 110, 117, 108, 108]⟩ : ByteArray).size = 8 := rfl
    try simp only [bsize_append]
    omega
  have hs2n0 : ¬ (9223372036854775807 < V.size + 8) := by
    have q0 : (⟨#[32, 105, 115, 32, 110, 117, 108, 108]⟩ : ByteArray).size = 8 := rfl
    try simp only [bsize_append]
    omega
  have xl : b < w.heap.size := World.block_lt_of_cell? w _ hkc.1
  have k0 := fun (A : Obj) => cell_keep (one_below w A) hkc.1
  have k1 := fun (A : Obj) => cell_keep (one_below w A) hkc.2.1
  have k2 := fun (A : Obj) => cell_keep (one_below w A) hkc.2.2.1
  have k3 := fun (A : Obj) => cell_keep (one_below w A) hkc.2.2.2.1
  have k4 := fun (A : Obj) => cell_keep (one_below w A) hkc.2.2.2.2.1
  have k5 := fun (A : Obj) => cell_keep (one_below w A) hkc.2.2.2.2.2.1
  have k6 := fun (A : Obj) => cell_keep (one_below w A) hkc.2.2.2.2.2.2
  subst hRv
  clear hats hkc hkat eV hct hl hRz
  go_enter Tryz.func84, Tryz.ntmps84
  go_wp2_with fail
  refine (HCT.out _).mono ?_
  rintro ev w2 ⟨rfl, hb2⟩
  have HB2 := Lib.hid ((one_below _ _).trans (hb2.mono (by simp)))
  clear hb2 HCT k0 k1 k2 k3 k4 k5 k6
  go_wp2_with fail
  go_ret
  exact ⟨rfl, HB2.out⟩


set_option maxRecDepth 100000 in
set_option maxHeartbeats 2000000 in
theorem w84_21 (c : Int) (d : Dat) (ks : List ET) (ih : ∀ k ∈ ks, Wr84 k) : Wr84 (.mk 21 c d ks) := by
  intro deep kv w hsz hat hfit hg
  obtain ⟨a, cc, rfl, -, hks⟩ := ET.On.iff.1 hat
  have hwz := wr_size _ deep hfit hg
  simp only [ET.fits] at hfit
  obtain ⟨⟨ho0, ho1⟩, ⟨hc0, hc1⟩, hdf, hkl, hfs⟩ := hfit
  have hof := good_op hg
  simp only [ET.op] at hof
  simp only [ET.good, Bool.and_eq_true, decide_eq_true_eq, ET.goods_iff] at hg
  have hkid := own_kids hg.1.1
  have hown := own_mk hg.1.1
  simp only [ET.size] at hsz hwz
  simp only [ET.kids] at hks
  obtain ⟨R, eR⟩ : ∃ R, R = (ET.mk 21 c d ks).wr := ⟨_, rfl⟩
  rw [← eR] at hwz ⊢
  have hR : R = wrOp 21 c d (ET.wrs ks) (ET.kws ks) := by rw [eR]; simp only [ET.wr]
  have HR := Lib.hid hR
  have hRz : R.size ≤ 60000000 := by omega
  have HF := Lib.hid (ET.fitss_iff.1 hfs)
  have HG := Lib.hid hg.2
  have HKS := Lib.hid hks
  have HOWN := Lib.hid hown
  have HDF := Lib.hid hdf
  have HKID := Lib.hid hkid
  have HSZ : Hid (∀ k ∈ ks, k.size ≤ 12000) := fun k hk => by have := ET.sizes_mem hk; omega
  have HK84 : Hid (∀ (k : ET), k ∈ ks → ∀ (ka : Option Addr) (kc : Nat) (W : World), k.At W (.slice ka k.kids.length kc) → Calls Tryz.prog 84 #[.agg #[.int .u8 k.op, .slice ka k.kids.length kc, .int .i64 k.col, .int .u8 k.lit.kind, .bool k.lit.bool, .int .i64 k.lit.int, .string k.lit.text]] W (StPost k.wr W)) := fun k hk ka kc W h => ih k hk (deep + 1) _ W (HSZ.out k hk) h (HF.out k hk) (HG.out k hk)
  have HK : Hid (∀ (k : ET), k ∈ ks → ∀ (ka : Option Addr) (kc : Nat) (W : World), k.At W (.slice ka k.kids.length kc) → Calls Tryz.prog 116 #[.agg #[.int .u8 k.op, .slice ka k.kids.length kc, .int .i64 k.col, .int .u8 k.lit.kind, .bool k.lit.bool, .int .i64 k.lit.int, .string k.lit.text]] W (StPost k.kw W)) := fun k hk ka kc W h => kid_116 k (ih k hk) (deep + 1) _ W (HSZ.out k hk) h (HF.out k hk) (HG.out k hk)
  have HKZ : Hid (∀ k ∈ ks, k.wr.size ≤ 60000000 ∧ k.kw.size ≤ 60000000) := fun k hk => by
    have := wr_size k (deep + 1) (HF.out k hk) (HG.out k hk)
    have := kw_size (HF.out k hk) (HG.out k hk)
    have := HSZ.out k hk
    omega
  clear hwz hfs hg hkid hown hks hat ih eR hR hdf
  unfold ET.agg
  simp only [ET.op, ET.col, ET.lit, ET.kids]
  obtain ⟨K, eK⟩ : ∃ K, K = ks.length := ⟨_, rfl⟩
  rw [← eK] at hkl HKID ⊢
  have EK := Lib.hid eK
  clear eK
  have hodd : 2 < K ∧ K % 2 = 1 := by
    have h := HKID.out
    unfold kidsOk at h
    rw [if_neg (by decide), if_neg (by decide), if_pos rfl] at h
    simpa using h
  obtain ⟨L, eL⟩ : ∃ L, L = ET.kws ks := ⟨_, rfl⟩
  have hll : L.length = K := by rw [eL, ET.kws_map, List.length_map, EK.out]
  have hRl : R = caseW (⟨#[99, 97, 115, 101]⟩ : ByteArray) L := by rw [HR.out, eL]; simp [wrOp]
  have hget : ∀ (j : Nat) k, ks[j]? = some k → L[j]? = some k.kw := fun j k hk => by rw [eL, ET.kws_map, List.getElem?_map, hk]; rfl
  have HLL := Lib.hid hll
  have HRL := Lib.hid hRl
  have HGET := Lib.hid hget
  have HODD := Lib.hid hodd
  have hK := hodd.1
  obtain ⟨H, eH⟩ : ∃ H, H = w.heap.size := ⟨_, rfl⟩
  have EH := Lib.hid eH
  obtain ⟨b, off, rfl, -, hats⟩ := HKS.out (fun e => by have := EK.out; rw [e] at this; simp at this; omega)
  have HATS := Lib.hid hats
  clear eL hll hRl hget hodd eH hats
  go_enter Tryz.func84, Tryz.ntmps84
  go_wp2_with fail
  obtain ⟨w1, hw1⟩ : ∃ w1, w1 = w.alloc (.cells #[.int .u8 21, .slice (some ⟨b, off, none⟩) K cc, .int .i64 c, .int .u8 d.kind, .bool d.bool, .int .i64 d.int, .string d.text] 27) := ⟨_, rfl⟩
  have hb1 : Below w.heap.size w w1 := by rw [hw1]; exact one_below _ _
  have kh : w1.heap[H]? = some (.cells #[.int .u8 21, .slice (some ⟨b, off, none⟩) K cc, .int .i64 c, .int .u8 d.kind, .bool d.bool, .int .i64 d.int, .string d.text] 27 (0, 0)) := by rw [hw1, EH.out]; exact heap_alloc_new _ _
  rw [← hw1, ← EH.out]
  have HB1 := Lib.hid hb1
  have KH := Lib.hid kh
  clear hw1 hb1 kh
  go_loopg [3, 5] K (fun g s3 s5 wr => ∃ (i : Nat) (s : ByteArray), i % 2 = 0 ∧ i ≤ K ∧ g = K - i ∧ s5 = .int .i64 i ∧ s3 = .string s ∧ R = caseW s (L.drop i) ∧ Below w1.heap.size w1 wr)
  case atStart => exact ⟨0, _, rfl, Nat.zero_le _, rfl, rfl, rfl, HRL.out, Below.refl _ _⟩
  case round =>
    obtain ⟨i, s, hev, hi, rfl, rfl, rfl, hRs, hbr⟩ := hrel
    have hsz : s.size ≤ 60000000 := by
      have := caseW_ge _ (L.drop i) s (Nat.le_refl _)
      rw [← hRs] at this
      omega
    have hbw : Below w.heap.size w wr := HB1.out.trans (hbr.mono HB1.out.size)
    have c1 : wr.cell? ⟨H, 1, none⟩ = some (.slice (some ⟨b, off, none⟩) K cc) := cell_of_heap ((hbr.block H (lt_of_heap KH.out)).trans KH.out) rfl
    have HBR := Lib.hid hbr
    have HRS := Lib.hid hRs
    have HEV := Lib.hid hev
    obtain ⟨j, ej⟩ : ∃ j, j = i + 1 := ⟨_, rfl⟩
    have wi1 : IntKind.i64.wrap ((i : Int) + 1) = (j : Int) := by rw [IntWalk.i64_in _ (by omega)]; omega
    have EJ := Lib.hid ej
    have hats := HATS.out
    by_cases hlt : j < K
    · obtain ⟨p, ph⟩ : ∃ k, ks[i]? = some k := ⟨ks[i]'(by rw [← EK.out]; omega), List.getElem?_eq_getElem _⟩
      obtain ⟨q, qh⟩ : ∃ k, ks[j]? = some k := ⟨ks[j]'(by rw [← EK.out]; omega), List.getElem?_eq_getElem _⟩
      have hpm := List.mem_of_getElem? ph
      have hqm := List.mem_of_getElem? qh
      obtain ⟨P, eP⟩ : ∃ P, P = p.kw := ⟨_, rfl⟩
      obtain ⟨Q, eQ⟩ : ∃ Q, Q = q.kw := ⟨_, rfl⟩
      have hpz : P.size ≤ 60000000 := by rw [eP]; exact (HKZ.out p hpm).2
      have hqz : Q.size ≤ 60000000 := by rw [eQ]; exact (HKZ.out q hqm).2
      have hdr : L.drop i = P :: Q :: L.drop (i + 2) := by
        obtain ⟨h1, h2⟩ := List.getElem?_eq_some_iff.1 (HGET.out i p ph)
        obtain ⟨h3, h4⟩ := List.getElem?_eq_some_iff.1 (HGET.out j q qh)
        subst ej
        rw [List.drop_eq_getElem_cons h1, h2, List.drop_eq_getElem_cons h3, h4, ← eP, ← eQ]
      have hst : R = caseW (s ++ ((((⟨#[32, 119, 104, 101, 110, 32]⟩ : ByteArray) ++ P) ++ (⟨#[32, 116, 104, 101, 110, 32]⟩ : ByteArray)) ++ Q)) (L.drop (i + 2)) := by
        rw [HRS.out, hdr]; simp only [caseW]
      have HST := Lib.hid hst
      obtain ⟨pa, pc, phc, pat⟩ := kids_get hats (i := i) (k := p) ph
      obtain ⟨qa, qc, qhc, qat⟩ := kids_get hats (i := j) (k := q) qh
      have hcp := fun (W : World) (hb : Below w1.heap.size w1 W) => HK.out p hpm pa pc W ((pat.below HB1.out).below hb)
      have hcq := fun (W : World) (hb : Below w1.heap.size w1 W) => HK.out q hqm qa qc W ((qat.below HB1.out).below hb)
      rw [← eP] at hcp
      rw [← eQ] at hcq
      have HCP := Lib.hid hcp
      have HCQ := Lib.hid hcq
      have hSS : ∀ W, Below w1.heap.size w1 W → W.cell? ⟨H, 1, none⟩ = some (.slice (some ⟨b, off, none⟩) K cc) ∧ W.cell? ⟨b, off + i * 7, none⟩ = some (.int .u8 p.op) ∧ W.cell? ⟨b, off + i * 7 + 1, none⟩ = some (.slice pa p.kids.length pc) ∧ W.cell? ⟨b, off + i * 7 + 2, none⟩ = some (.int .i64 p.col) ∧ W.cell? ⟨b, off + i * 7 + 3, none⟩ = some (.int .u8 p.lit.kind) ∧ W.cell? ⟨b, off + i * 7 + 4, none⟩ = some (.bool p.lit.bool) ∧ W.cell? ⟨b, off + i * 7 + 5, none⟩ = some (.int .i64 p.lit.int) ∧ W.cell? ⟨b, off + i * 7 + 6, none⟩ = some (.string p.lit.text) ∧ W.cell? ⟨b, off + j * 7, none⟩ = some (.int .u8 q.op) ∧ W.cell? ⟨b, off + j * 7 + 1, none⟩ = some (.slice qa q.kids.length qc) ∧ W.cell? ⟨b, off + j * 7 + 2, none⟩ = some (.int .i64 q.col) ∧ W.cell? ⟨b, off + j * 7 + 3, none⟩ = some (.int .u8 q.lit.kind) ∧ W.cell? ⟨b, off + j * 7 + 4, none⟩ = some (.bool q.lit.bool) ∧ W.cell? ⟨b, off + j * 7 + 5, none⟩ = some (.int .i64 q.lit.int) ∧ W.cell? ⟨b, off + j * 7 + 6, none⟩ = some (.string q.lit.text) := fun W hb => by
        have h1 := (phc.below HB1.out).below hb
        have h2 := (qhc.below HB1.out).below hb
        exact ⟨cell_of_heap ((hb.block H (lt_of_heap KH.out)).trans KH.out) rfl, h1.1, h1.2.1, h1.2.2.1, h1.2.2.2.1, h1.2.2.2.2.1, h1.2.2.2.2.2.1, h1.2.2.2.2.2.2, h2.1, h2.2.1, h2.2.2.1, h2.2.2.2.1, h2.2.2.2.2.1, h2.2.2.2.2.2.1, h2.2.2.2.2.2.2⟩
      have HS := Lib.hid hSS
      have hs1 : ¬ (9223372036854775807 < (⟨#[32, 119, 104, 101, 110, 32]⟩ : ByteArray).size + P.size) := by
        have q0 : (⟨#[32, 119, 104, 101, 110, 32]⟩ : ByteArray).size = 6 := rfl
        try simp only [bsize_append]
        omega
      have hs1n0 : ¬ (9223372036854775807 < 6 + P.size) := by
        have q0 : (⟨#[32, 119, 104, 101, 110, 32]⟩ : ByteArray).size = 6 := rfl
        try simp only [bsize_append]
        omega
      have hs2 : ¬ (9223372036854775807 < ((⟨#[32, 119, 104, 101, 110, 32]⟩ : ByteArray) ++ P).size + (⟨#[32, 116, 104, 101, 110, 32]⟩ : ByteArray).size) := by
        have q0 : (⟨#[32, 116, 104, 101, 110, 32]⟩ : ByteArray).size = 6 := rfl
        have q1 : (⟨#[32, 119, 104, 101, 110, 32]⟩ : ByteArray).size = 6 := rfl
        try simp only [bsize_append]
        omega
      have hs2n0 : ¬ (9223372036854775807 < ((⟨#[32, 119, 104, 101, 110, 32]⟩ : ByteArray) ++ P).size + 6) := by
        have q0 : (⟨#[32, 116, 104, 101, 110, 32]⟩ : ByteArray).size = 6 := rfl
        have q1 : (⟨#[32, 119, 104, 101, 110, 32]⟩ : ByteArray).size = 6 := rfl
        try simp only [bsize_append]
        omega
      have hs2n1 : ¬ (9223372036854775807 < 6 + P.size + 6) := by
        have q0 : (⟨#[32, 116, 104, 101, 110, 32]⟩ : ByteArray).size = 6 := rfl
        have q1 : (⟨#[32, 119, 104, 101, 110, 32]⟩ : ByteArray).size = 6 := rfl
        try simp only [bsize_append]
        omega
      have hs3 : ¬ (9223372036854775807 < (((⟨#[32, 119, 104, 101, 110, 32]⟩ : ByteArray) ++ P) ++ (⟨#[32, 116, 104, 101, 110, 32]⟩ : ByteArray)).size + Q.size) := by
        have q0 : (⟨#[32, 116, 104, 101, 110, 32]⟩ : ByteArray).size = 6 := rfl
        have q1 : (⟨#[32, 119, 104, 101, 110, 32]⟩ : ByteArray).size = 6 := rfl
        try simp only [bsize_append]
        omega
      have hs3n0 : ¬ (9223372036854775807 < (((⟨#[32, 119, 104, 101, 110, 32]⟩ : ByteArray) ++ P) ++ (⟨#[32, 116, 104, 101, 110, 32]⟩ : ByteArray)).size + Q.size) := by
        have q0 : (⟨#[32, 116, 104, 101, 110, 32]⟩ : ByteArray).size = 6 := rfl
        have q1 : (⟨#[32, 119, 104, 101, 110, 32]⟩ : ByteArray).size = 6 := rfl
        try simp only [bsize_append]
        omega
      have hs3n1 : ¬ (9223372036854775807 < 6 + P.size + 6 + Q.size) := by
        have q0 : (⟨#[32, 116, 104, 101, 110, 32]⟩ : ByteArray).size = 6 := rfl
        have q1 : (⟨#[32, 119, 104, 101, 110, 32]⟩ : ByteArray).size = 6 := rfl
        try simp only [bsize_append]
        omega
      have hs4 : ¬ (9223372036854775807 < s.size + ((((⟨#[32, 119, 104, 101, 110, 32]⟩ : ByteArray) ++ P) ++ (⟨#[32, 116, 104, 101, 110, 32]⟩ : ByteArray)) ++ Q).size) := by
        have q0 : (⟨#[32, 116, 104, 101, 110, 32]⟩ : ByteArray).size = 6 := rfl
        have q1 : (⟨#[32, 119, 104, 101, 110, 32]⟩ : ByteArray).size = 6 := rfl
        try simp only [bsize_append]
        omega
      have hs4n0 : ¬ (9223372036854775807 < s.size + ((((⟨#[32, 119, 104, 101, 110, 32]⟩ : ByteArray) ++ P) ++ (⟨#[32, 116, 104, 101, 110, 32]⟩ : ByteArray)) ++ Q).size) := by
        have q0 : (⟨#[32, 116, 104, 101, 110, 32]⟩ : ByteArray).size = 6 := rfl
        have q1 : (⟨#[32, 119, 104, 101, 110, 32]⟩ : ByteArray).size = 6 := rfl
        try simp only [bsize_append]
        omega
      have hs4n1 : ¬ (9223372036854775807 < s.size + (6 + P.size + 6 + Q.size)) := by
        have q0 : (⟨#[32, 116, 104, 101, 110, 32]⟩ : ByteArray).size = 6 := rfl
        have q1 : (⟨#[32, 119, 104, 101, 110, 32]⟩ : ByteArray).size = 6 := rfl
        try simp only [bsize_append]
        omega
      have hlti : (j : Int) < (K : Int) := by omega
      have hlti0 : i < K := by omega
      clear ej ph qh hpm hqm eP eQ hdr hst phc qhc pat qat hcp hcq hSS hats hRs hbw
      go_wp2_with fail
      have CB0 := Lib.hid (show Below w1.heap.size w1 wr.drew from ⟨HBR.out.os, HBR.out.tape, HBR.out.output, HBR.out.size, HBR.out.block⟩)
      refine wp_region_held_drew (S := fun W => W.cell? ⟨H, 1, none⟩ = some (.slice (some ⟨b, off, none⟩) K cc) ∧ W.cell? ⟨b, off + i * 7, none⟩ = some (.int .u8 p.op) ∧ W.cell? ⟨b, off + i * 7 + 1, none⟩ = some (.slice pa p.kids.length pc) ∧ W.cell? ⟨b, off + i * 7 + 2, none⟩ = some (.int .i64 p.col) ∧ W.cell? ⟨b, off + i * 7 + 3, none⟩ = some (.int .u8 p.lit.kind) ∧ W.cell? ⟨b, off + i * 7 + 4, none⟩ = some (.bool p.lit.bool) ∧ W.cell? ⟨b, off + i * 7 + 5, none⟩ = some (.int .i64 p.lit.int) ∧ W.cell? ⟨b, off + i * 7 + 6, none⟩ = some (.string p.lit.text) ∧ W.cell? ⟨b, off + j * 7, none⟩ = some (.int .u8 q.op) ∧ W.cell? ⟨b, off + j * 7 + 1, none⟩ = some (.slice qa q.kids.length qc) ∧ W.cell? ⟨b, off + j * 7 + 2, none⟩ = some (.int .i64 q.col) ∧ W.cell? ⟨b, off + j * 7 + 3, none⟩ = some (.int .u8 q.lit.kind) ∧ W.cell? ⟨b, off + j * 7 + 4, none⟩ = some (.bool q.lit.bool) ∧ W.cell? ⟨b, off + j * 7 + 5, none⟩ = some (.int .i64 q.lit.int) ∧ W.cell? ⟨b, off + j * 7 + 6, none⟩ = some (.string q.lit.text)) (by kernel_rfl) (HS.out _ CB0.out) (fun hHeld => ?_)
      refine wpAnyH_take (i := 0) (oi := ⟨some 72, _, _, _, _, _⟩) (v := ?_) rfl (by kernel_rfl) (by kernel_rfl) (by kernel_rfl) (fun _ _ _ h => h) (Or.inl ⟨by rfl, ?_⟩) (by assumption) ?_; rotate_left; (intro w hSw; (try dsimp only at hSw); go_simp; (try with_reducible rfl)); (try simp only [Act.put, List.setIfInBounds_toArray, List.set_cons_zero, List.set_cons_succ])
      refine wpAnyH_take (i := 1) (oi := ⟨some 73, _, _, _, _, _⟩) (v := ?_) rfl (by kernel_rfl) (by kernel_rfl) (by kernel_rfl) (fun _ _ _ h => h) (Or.inl ⟨by rfl, ?_⟩) (by assumption) ?_; rotate_left; (intro w hSw; (try dsimp only at hSw); go_simp; (try with_reducible rfl)); (try simp only [Act.put, List.setIfInBounds_toArray, List.set_cons_zero, List.set_cons_succ])
      refine wpAnyH_take (i := 2) (oi := ⟨some 74, _, _, _, _, _⟩) (v := ?_) rfl (by kernel_rfl) (by kernel_rfl) (by kernel_rfl) (fun _ _ _ h => h) (Or.inl ⟨by rfl, ?_⟩) (by assumption) ?_; rotate_left; (intro w hSw; (try dsimp only at hSw); go_simp; (try with_reducible rfl)); (try simp only [Act.put, List.setIfInBounds_toArray, List.set_cons_zero, List.set_cons_succ])
      refine wpAnyH_take (i := 3) (oi := ⟨some 75, _, _, _, _, _⟩) (v := ?_) rfl (by kernel_rfl) (by kernel_rfl) (by kernel_rfl) (fun _ _ _ h => h) (Or.inl ⟨by rfl, ?_⟩) (by assumption) ?_; rotate_left; (intro w hSw; (try dsimp only at hSw); go_simp; (try with_reducible rfl)); (try simp only [Act.put, List.setIfInBounds_toArray, List.set_cons_zero, List.set_cons_succ])
      refine wpAnyH_take (i := 4) (oi := ⟨some 76, _, _, _, _, _⟩) (v := ?_) rfl (by kernel_rfl) (by kernel_rfl) (by kernel_rfl) (fun _ _ _ h => h) (Or.inl ⟨by rfl, ?_⟩) (by assumption) ?_; rotate_left; (intro w hSw; (try dsimp only at hSw); go_simp; (try with_reducible rfl)); (try simp only [Act.put, List.setIfInBounds_toArray, List.set_cons_zero, List.set_cons_succ])
      refine wpAnyH_take (i := 5) (oi := ⟨some 77, _, _, _, _, _⟩) (v := ?_) rfl (by kernel_rfl) (by kernel_rfl) (by kernel_rfl) (fun _ _ _ h => h) (Or.inl ⟨by rfl, ?_⟩) (by assumption) ?_; rotate_left; (intro w hSw; (try dsimp only at hSw); go_simp; (try with_reducible rfl)); (try simp only [Act.put, List.setIfInBounds_toArray, List.set_cons_zero, List.set_cons_succ])
      refine wpAnyH_take (i := 9) (oi := ⟨some 81, _, _, _, _, _⟩) (v := ?_) rfl (by kernel_rfl) (by kernel_rfl) (by kernel_rfl) (fun _ _ _ h => h) (Or.inl ⟨by rfl, ?_⟩) (by assumption) ?_; rotate_left; (intro w hSw; (try dsimp only at hSw); go_simp; (try with_reducible rfl)); (try simp only [Act.put, List.setIfInBounds_toArray, List.set_cons_zero, List.set_cons_succ])
      refine wpAnyH_take (i := 10) (oi := ⟨some 82, _, _, _, _, _⟩) (v := ?_) rfl (by kernel_rfl) (by kernel_rfl) (by kernel_rfl) (fun _ _ _ h => h) (Or.inl ⟨by rfl, ?_⟩) (by assumption) ?_; rotate_left; (intro w hSw; (try dsimp only at hSw); go_simp; (try with_reducible rfl)); (try simp only [Act.put, List.setIfInBounds_toArray, List.set_cons_zero, List.set_cons_succ])
      refine wpAnyH_take (i := 11) (oi := ⟨some 83, _, _, _, _, _⟩) (v := ?_) rfl (by kernel_rfl) (by kernel_rfl) (by kernel_rfl) (fun _ _ _ h => h) (Or.inl ⟨by rfl, ?_⟩) (by assumption) ?_; rotate_left; (intro w hSw; (try dsimp only at hSw); go_simp; (try with_reducible rfl)); (try simp only [Act.put, List.setIfInBounds_toArray, List.set_cons_zero, List.set_cons_succ])
      refine wpAnyH_take (i := 12) (oi := ⟨some 84, _, _, _, _, _⟩) (v := ?_) rfl (by kernel_rfl) (by kernel_rfl) (by kernel_rfl) (fun _ _ _ h => h) (Or.inl ⟨by rfl, ?_⟩) (by assumption) ?_; rotate_left; (intro w hSw; (try dsimp only at hSw); go_simp; (try with_reducible rfl)); (try simp only [Act.put, List.setIfInBounds_toArray, List.set_cons_zero, List.set_cons_succ])
      refine wpAnyH_take (i := 13) (oi := ⟨some 85, _, _, _, _, _⟩) (v := ?_) rfl (by kernel_rfl) (by kernel_rfl) (by kernel_rfl) (fun _ _ _ h => h) (Or.inl ⟨by rfl, ?_⟩) (by assumption) ?_; rotate_left; (intro w hSw; (try dsimp only at hSw); go_simp; (try with_reducible rfl)); (try simp only [Act.put, List.setIfInBounds_toArray, List.set_cons_zero, List.set_cons_succ])
      refine wpAnyH_take (i := 14) (oi := ⟨some 86, _, _, _, _, _⟩) (v := ?_) rfl (by kernel_rfl) (by kernel_rfl) (by kernel_rfl) (fun _ _ _ h => h) (Or.inl ⟨by rfl, ?_⟩) (by assumption) ?_; rotate_left; (intro w hSw; (try dsimp only at hSw); go_simp; (try with_reducible rfl)); (try simp only [Act.put, List.setIfInBounds_toArray, List.set_cons_zero, List.set_cons_succ])
      refine wpAnyH_ready (rs := [6]) (by kernel_rfl) (by simp) ?_
      refine AllReadyH.cons (o := ⟨some 78, _, _, _, _, _⟩) rfl (fun K9 hK9 => ?_) (AllReadyH.nil)
      go_simp
      go_at_call 116
      with_reducible refine (HCP.out _ CB0.out).mono ?_
      rintro ev V1 ⟨rfl, hbx⟩
      have CB1 := Lib.hid (CB0.out.trans (hbx.mono CB0.out.size))
      clear hbx
      go_wp2_with fail
      refine hK9.out _ _ (HS.out _ CB1.out) (fun hHeld => ?_)
      clear hK9 K9
      skip
      refine wpAnyH_take (i := 7) (oi := ⟨some 79, _, _, _, _, _⟩) (v := ?_) rfl (by kernel_rfl) (by kernel_rfl) (by kernel_rfl) (fun _ _ _ h => h) (Or.inl ⟨by rfl, ?_⟩) (by assumption) ?_; rotate_left; (intro w hSw; (try dsimp only at hSw); go_simp; (try with_reducible rfl)); (try simp only [Act.put, List.setIfInBounds_toArray, List.set_cons_zero, List.set_cons_succ])
      refine wpAnyH_take (i := 8) (oi := ⟨some 80, _, _, _, _, _⟩) (v := ?_) rfl (by kernel_rfl) (by kernel_rfl) (by kernel_rfl) (fun _ _ _ h => h) (Or.inl ⟨by rfl, ?_⟩) (by assumption) ?_; rotate_left; (intro w hSw; (try dsimp only at hSw); go_simp; (try with_reducible rfl)); (try simp only [Act.put, List.setIfInBounds_toArray, List.set_cons_zero, List.set_cons_succ])
      refine wpAnyH_ready (rs := [15]) (by kernel_rfl) (by simp) ?_
      refine AllReadyH.cons (o := ⟨some 87, _, _, _, _, _⟩) rfl (fun K9 hK9 => ?_) (AllReadyH.nil)
      go_simp
      go_at_call 116
      with_reducible refine (HCQ.out _ CB1.out).mono ?_
      rintro ev V2 ⟨rfl, hbx⟩
      have CB2 := Lib.hid (CB1.out.trans (hbx.mono CB1.out.size))
      clear hbx
      go_wp2_with fail
      refine hK9.out _ _ (HS.out _ CB2.out) (fun hHeld => ?_)
      clear hK9 K9
      skip
      refine wpAnyH_take (i := 16) (oi := ⟨some 88, _, _, _, _, _⟩) (v := ?_) rfl (by kernel_rfl) (by kernel_rfl) (by kernel_rfl) (fun _ _ _ h => h) (Or.inl ⟨by rfl, ?_⟩) (by assumption) ?_; rotate_left; (intro w hSw; (try dsimp only at hSw); go_simp; (try with_reducible rfl)); (try simp only [Act.put, List.setIfInBounds_toArray, List.set_cons_zero, List.set_cons_succ])
      refine wpAnyH_take (i := 17) (oi := ⟨some 89, _, _, _, _, _⟩) (v := ?_) rfl (by kernel_rfl) (by kernel_rfl) (by kernel_rfl) (fun _ _ _ h => h) (Or.inl ⟨by rfl, ?_⟩) (by assumption) ?_; rotate_left; (intro w hSw; (try dsimp only at hSw); go_simp; (try with_reducible rfl)); (try simp only [Act.put, List.setIfInBounds_toArray, List.set_cons_zero, List.set_cons_succ])
      refine wpAnyH_take (i := 18) (oi := ⟨some 3, _, _, _, _, _⟩) (v := ?_) rfl (by kernel_rfl) (by kernel_rfl) (by kernel_rfl) (fun _ _ _ h => h) (Or.inl ⟨by rfl, ?_⟩) (by assumption) ?_; rotate_left; (intro w hSw; (try dsimp only at hSw); go_simp; (try with_reducible rfl)); (try simp only [Act.put, List.setIfInBounds_toArray, List.set_cons_zero, List.set_cons_succ])
      refine wpAnyH_done (by kernel_rfl) ?_ _
      go_wp2
      go_roundg (K - (i + 2))
      case measure => (have := EJ.out; omega)
      case rel => exact ⟨i + 2, (s ++ ((((⟨#[32, 119, 104, 101, 110, 32]⟩ : ByteArray) ++ P) ++ (⟨#[32, 116, 104, 101, 110, 32]⟩ : ByteArray)) ++ Q)), by have := HEV.out; omega, by have := EJ.out; omega, rfl, by go_num, rfl, HST.out, CB2.out⟩
    · have hki : i + 1 = K := by have := HODD.out; have := HEV.out; omega
      obtain ⟨p, ph⟩ : ∃ k, ks[i]? = some k := ⟨ks[i]'(by rw [← EK.out]; omega), List.getElem?_eq_getElem _⟩
      have hpm := List.mem_of_getElem? ph
      obtain ⟨P, eP⟩ : ∃ P, P = p.kw := ⟨_, rfl⟩
      have hpz : P.size ≤ 60000000 := by rw [eP]; exact (HKZ.out p hpm).2
      have hdr : L.drop i = [P] := by
        obtain ⟨h1, h2⟩ := List.getElem?_eq_some_iff.1 (HGET.out i p ph)
        rw [List.drop_eq_getElem_cons h1, h2, ← eP, List.drop_eq_nil_of_le (by rw [HLL.out]; omega)]
      have hst : R = (((s ++ (⟨#[32, 101, 108, 115, 101, 32]⟩ : ByteArray)) ++ P) ++ (⟨#[32, 101, 110, 100]⟩ : ByteArray)) := by
        rw [HRS.out, hdr]; simp only [caseW]
      obtain ⟨pa, pc, phc, pat⟩ := kids_get hats (i := i) (k := p) ph
      have hcp := HK.out p hpm pa pc wr (pat.below hbw)
      rw [← eP] at hcp
      have HCP := Lib.hid hcp
      obtain ⟨p0, p1, p2, p3, p4, p5, p6⟩ := phc.below hbw
      have hs1 : ¬ (9223372036854775807 < s.size + (⟨#[32, 101, 108, 115, 101, 32]⟩ : ByteArray).size) := by
        have q0 : (⟨#[32, 101, 108, 115, 101, 32]⟩ : ByteArray).size = 6 := rfl
        try simp only [bsize_append]
        omega
      have hs1n0 : ¬ (9223372036854775807 < s.size + 6) := by
        have q0 : (⟨#[32, 101, 108, 115, 101, 32]⟩ : ByteArray).size = 6 := rfl
        try simp only [bsize_append]
        omega
      have hs2 : ¬ (9223372036854775807 < (s ++ (⟨#[32, 101, 108, 115, 101, 32]⟩ : ByteArray)).size + P.size) := by
        have q0 : (⟨#[32, 101, 108, 115, 101, 32]⟩ : ByteArray).size = 6 := rfl
        try simp only [bsize_append]
        omega
      have hs2n0 : ¬ (9223372036854775807 < (s ++ (⟨#[32, 101, 108, 115, 101, 32]⟩ : ByteArray)).size + P.size) := by
        have q0 : (⟨#[32, 101, 108, 115, 101, 32]⟩ : ByteArray).size = 6 := rfl
        try simp only [bsize_append]
        omega
      have hs2n1 : ¬ (9223372036854775807 < s.size + 6 + P.size) := by
        have q0 : (⟨#[32, 101, 108, 115, 101, 32]⟩ : ByteArray).size = 6 := rfl
        try simp only [bsize_append]
        omega
      have hs3 : ¬ (9223372036854775807 < ((s ++ (⟨#[32, 101, 108, 115, 101, 32]⟩ : ByteArray)) ++ P).size + (⟨#[32, 101, 110, 100]⟩ : ByteArray).size) := by
        have q0 : (⟨#[32, 101, 108, 115, 101, 32]⟩ : ByteArray).size = 6 := rfl
        have q1 : (⟨#[32, 101, 110, 100]⟩ : ByteArray).size = 4 := rfl
        try simp only [bsize_append]
        omega
      have hs3n0 : ¬ (9223372036854775807 < ((s ++ (⟨#[32, 101, 108, 115, 101, 32]⟩ : ByteArray)) ++ P).size + 4) := by
        have q0 : (⟨#[32, 101, 108, 115, 101, 32]⟩ : ByteArray).size = 6 := rfl
        have q1 : (⟨#[32, 101, 110, 100]⟩ : ByteArray).size = 4 := rfl
        try simp only [bsize_append]
        omega
      have hs3n1 : ¬ (9223372036854775807 < s.size + 6 + P.size + 4) := by
        have q0 : (⟨#[32, 101, 108, 115, 101, 32]⟩ : ByteArray).size = 6 := rfl
        have q1 : (⟨#[32, 101, 110, 100]⟩ : ByteArray).size = 4 := rfl
        try simp only [bsize_append]
        omega
      have wk : IntKind.i64.wrap ((K : Int) - 1) = (i : Int) := by rw [IntWalk.i64_in _ (by omega)]; omega
      have hnlt : ¬ ((j : Int) < (K : Int)) := by omega
      have hlti0 : i < K := by omega
      clear ej ph hpm eP hdr phc pat hcp hats hRs hbw hki hRz
      subst hst
      go_wp2_with fail
      refine HCP.out.mono ?_
      rintro ev w2 ⟨rfl, hb2⟩
      have HB2 := Lib.hid (HB1.out.trans ((HBR.out.trans (hb2.mono HBR.out.size)).mono HB1.out.size))
      clear hb2 HCP p0 p1 p2 p3 p4 p5 p6
      go_wp2_with fail
      go_ret
      exact ⟨rfl, HB2.out⟩


set_option maxRecDepth 100000 in
set_option maxHeartbeats 2000000 in
theorem w84_22 (c : Int) (d : Dat) (ks : List ET) (ih : ∀ k ∈ ks, Wr84 k) : Wr84 (.mk 22 c d ks) := by
  intro deep kv w hsz hat hfit hg
  obtain ⟨a, cc, rfl, -, hks⟩ := ET.On.iff.1 hat
  have hwz := wr_size _ deep hfit hg
  simp only [ET.fits] at hfit
  obtain ⟨⟨ho0, ho1⟩, ⟨hc0, hc1⟩, hdf, hkl, hfs⟩ := hfit
  have hof := good_op hg
  simp only [ET.op] at hof
  simp only [ET.good, Bool.and_eq_true, decide_eq_true_eq, ET.goods_iff] at hg
  have hkid := own_kids hg.1.1
  have hown := own_mk hg.1.1
  simp only [ET.size] at hsz hwz
  simp only [ET.kids] at hks
  obtain ⟨R, eR⟩ : ∃ R, R = (ET.mk 22 c d ks).wr := ⟨_, rfl⟩
  rw [← eR] at hwz ⊢
  have hR : R = wrOp 22 c d (ET.wrs ks) (ET.kws ks) := by rw [eR]; simp only [ET.wr]
  have HR := Lib.hid hR
  have hRz : R.size ≤ 60000000 := by omega
  have HF := Lib.hid (ET.fitss_iff.1 hfs)
  have HG := Lib.hid hg.2
  have HKS := Lib.hid hks
  have HOWN := Lib.hid hown
  have HDF := Lib.hid hdf
  have HKID := Lib.hid hkid
  have HSZ : Hid (∀ k ∈ ks, k.size ≤ 12000) := fun k hk => by have := ET.sizes_mem hk; omega
  have HK84 : Hid (∀ (k : ET), k ∈ ks → ∀ (ka : Option Addr) (kc : Nat) (W : World), k.At W (.slice ka k.kids.length kc) → Calls Tryz.prog 84 #[.agg #[.int .u8 k.op, .slice ka k.kids.length kc, .int .i64 k.col, .int .u8 k.lit.kind, .bool k.lit.bool, .int .i64 k.lit.int, .string k.lit.text]] W (StPost k.wr W)) := fun k hk ka kc W h => ih k hk (deep + 1) _ W (HSZ.out k hk) h (HF.out k hk) (HG.out k hk)
  have HK : Hid (∀ (k : ET), k ∈ ks → ∀ (ka : Option Addr) (kc : Nat) (W : World), k.At W (.slice ka k.kids.length kc) → Calls Tryz.prog 116 #[.agg #[.int .u8 k.op, .slice ka k.kids.length kc, .int .i64 k.col, .int .u8 k.lit.kind, .bool k.lit.bool, .int .i64 k.lit.int, .string k.lit.text]] W (StPost k.kw W)) := fun k hk ka kc W h => kid_116 k (ih k hk) (deep + 1) _ W (HSZ.out k hk) h (HF.out k hk) (HG.out k hk)
  have HKZ : Hid (∀ k ∈ ks, k.wr.size ≤ 60000000 ∧ k.kw.size ≤ 60000000) := fun k hk => by
    have := wr_size k (deep + 1) (HF.out k hk) (HG.out k hk)
    have := kw_size (HF.out k hk) (HG.out k hk)
    have := HSZ.out k hk
    omega
  clear hwz hfs hg hkid hown hks hat ih eR hR hdf
  unfold ET.agg
  simp only [ET.op, ET.col, ET.lit, ET.kids]
  obtain ⟨K, eK⟩ : ∃ K, K = ks.length := ⟨_, rfl⟩
  rw [← eK] at hkl HKID ⊢
  have EK := Lib.hid eK
  clear eK
  have hK : 0 < K := by
    have h := HKID.out
    unfold kidsOk at h
    rw [if_neg (by decide), if_neg (by decide), if_neg (by decide), if_pos rfl] at h
    simpa using h
  obtain ⟨L, eL⟩ : ∃ L, L = ET.wrs ks := ⟨_, rfl⟩
  have hll : L.length = K := by rw [eL, ET.wrs_map, List.length_map, EK.out]
  have hRl : R = ((⟨#[99, 111, 97, 108, 101, 115, 99, 101, 40]⟩ : ByteArray) ++ joinB L) ++ (⟨#[41]⟩ : ByteArray) := by rw [HR.out, eL]; simp [wrOp]
  have hjz : (joinB L).size ≤ 60000000 := by
    have := congrArg ByteArray.size hRl
    simp only [bsize_append] at this
    omega
  have htz : ∀ i : Nat, (joinB (L.take i)).size ≤ 60000000 := fun i => by
    have := joinB_ge (L.take i) (L.drop i)
    rw [List.take_append_drop] at this
    omega
  have hget : ∀ (j : Nat) k, ks[j]? = some k → L[j]? = some k.wr := fun j k hk => by rw [eL, ET.wrs_map, List.getElem?_map, hk]; rfl
  have HLL := Lib.hid hll
  have HGET := Lib.hid hget
  have HTZ := Lib.hid htz
  obtain ⟨H, eH⟩ : ∃ H, H = w.heap.size := ⟨_, rfl⟩
  have EH := Lib.hid eH
  obtain ⟨b, off, rfl, -, hats⟩ := HKS.out (fun e => by have := EK.out; rw [e] at this; simp at this; omega)
  have HATS := Lib.hid hats
  clear eL hll hget eH hats htz hRz
  subst hRl
  go_enter Tryz.func84, Tryz.ntmps84
  go_wp2_with fail
  obtain ⟨w1, hw1⟩ : ∃ w1, w1 = w.alloc (.cells #[.int .u8 22, .slice (some ⟨b, off, none⟩) K cc, .int .i64 c, .int .u8 d.kind, .bool d.bool, .int .i64 d.int, .string d.text] 27) := ⟨_, rfl⟩
  have hb1 : Below w.heap.size w w1 := by rw [hw1]; exact one_below _ _
  have kh : w1.heap[H]? = some (.cells #[.int .u8 22, .slice (some ⟨b, off, none⟩) K cc, .int .i64 c, .int .u8 d.kind, .bool d.bool, .int .i64 d.int, .string d.text] 27 (0, 0)) := by rw [hw1, EH.out]; exact heap_alloc_new _ _
  rw [← hw1, ← EH.out]
  have HB1 := Lib.hid hb1
  have KH := Lib.hid kh
  clear hw1 hb1 kh
  go_loopg [6, 7] K (fun g s6 s7 wr => ∃ (i : Nat) (s : ByteArray), i ≤ K ∧ g = K - i ∧ s7 = .int .i64 i ∧ s6 = .string s ∧ Hid (s = (⟨#[99, 111, 97, 108, 101, 115, 99, 101, 40]⟩ : ByteArray) ++ joinB (L.take i)) ∧ Below w1.heap.size w1 wr)
  case atStart => exact ⟨0, _, Nat.zero_le _, rfl, rfl, rfl, Lib.hid (by apply ByteArray.ext; simp [joinB]), Below.refl _ _⟩
  case round =>
    obtain ⟨i, s, hi, rfl, rfl, rfl, HS0, hbr⟩ := hrel
    have hsz : s.size ≤ 60000009 := by
      have := HTZ.out i
      rw [HS0.out, bsize_append]
      have q0 : (⟨#[99, 111, 97, 108, 101, 115, 99, 101, 40]⟩ : ByteArray).size = 9 := rfl
      omega
    have hbw : Below w.heap.size w wr := HB1.out.trans (hbr.mono HB1.out.size)
    have c1 : wr.cell? ⟨H, 1, none⟩ = some (.slice (some ⟨b, off, none⟩) K cc) := cell_of_heap ((hbr.block H (lt_of_heap KH.out)).trans KH.out) rfl
    have HBR := Lib.hid hbr
    have hats := HATS.out
    by_cases hlt : i < K
    · obtain ⟨p, ph⟩ : ∃ k, ks[i]? = some k := ⟨ks[i]'(by rw [← EK.out]; omega), List.getElem?_eq_getElem _⟩
      have hpm := List.mem_of_getElem? ph
      obtain ⟨P, eP⟩ : ∃ P, P = p.wr := ⟨_, rfl⟩
      have hpz : P.size ≤ 60000000 := by rw [eP]; exact (HKZ.out p hpm).1
      have htk : L.take (i + 1) = L.take i ++ [P] := by
        have hg := HGET.out i p ph
        rw [List.take_succ_eq_append_getElem (by exact (List.getElem?_eq_some_iff.1 hg).1), (List.getElem?_eq_some_iff.1 hg).2, ← eP]
      have HTK := Lib.hid htk
      obtain ⟨pa, pc, phc, pat⟩ := kids_get hats (i := i) (k := p) ph
      have hcp := HK84.out p hpm pa pc wr (pat.below hbw)
      rw [← eP] at hcp
      have HCP := Lib.hid hcp
      obtain ⟨p0, p1, p2, p3, p4, p5, p6⟩ := phc.below hbw
      have hs1 : ¬ (9223372036854775807 < s.size + (⟨#[44, 32]⟩ : ByteArray).size) := by
        have q0 : (⟨#[44, 32]⟩ : ByteArray).size = 2 := rfl
        try simp only [bsize_append]
        omega
      have hs1n0 : ¬ (9223372036854775807 < s.size + 2) := by
        have q0 : (⟨#[44, 32]⟩ : ByteArray).size = 2 := rfl
        try simp only [bsize_append]
        omega
      have hs2 : ¬ (9223372036854775807 < (s ++ (⟨#[44, 32]⟩ : ByteArray)).size + P.size) := by
        have q0 : (⟨#[44, 32]⟩ : ByteArray).size = 2 := rfl
        try simp only [bsize_append]
        omega
      have hs2n0 : ¬ (9223372036854775807 < (s ++ (⟨#[44, 32]⟩ : ByteArray)).size + P.size) := by
        have q0 : (⟨#[44, 32]⟩ : ByteArray).size = 2 := rfl
        try simp only [bsize_append]
        omega
      have hs2n1 : ¬ (9223372036854775807 < s.size + 2 + P.size) := by
        have q0 : (⟨#[44, 32]⟩ : ByteArray).size = 2 := rfl
        try simp only [bsize_append]
        omega
      have hs3 : ¬ (9223372036854775807 < s.size + P.size) := by
        try simp only [bsize_append]
        omega
      have hs3n0 : ¬ (9223372036854775807 < s.size + P.size) := by
        try simp only [bsize_append]
        omega
      clear ph hpm eP htk phc pat hcp hats hbw
      by_cases h0 : i = 0
      · subst h0
        simp only [Nat.zero_mul, Nat.add_zero] at p0 p1 p2 p3 p4 p5 p6
        go_wp2_with fail
        refine HCP.out.mono ?_
        rintro ev w2 ⟨rfl, hb2⟩
        have HB2 := Lib.hid (HBR.out.trans (hb2.mono HBR.out.size))
        clear hb2 HCP p0 p1 p2 p3 p4 p5 p6
        go_wp2_with fail
        go_roundg (K - 1)
        case measure => omega
        case rel => exact ⟨1, s ++ P, by omega, rfl, rfl, rfl, Lib.hid (by rw [HTK.out, HS0.out]; simp only [List.take_zero, List.nil_append, joinB_one]; apply ByteArray.ext; simp [joinB]), HB2.out⟩
      · have hpos : (0 : Int) < (i : Int) := by omega
        have hposn : 0 < i := by omega
        have hne : L.take i ≠ [] := fun e => by
          have := congrArg List.length e
          rw [List.length_take, HLL.out] at this
          simp at this; omega
        have HNE := Lib.hid hne
        clear hne
        go_wp2_with fail
        refine HCP.out.mono ?_
        rintro ev w2 ⟨rfl, hb2⟩
        have HB2 := Lib.hid (HBR.out.trans (hb2.mono HBR.out.size))
        clear hb2 HCP p0 p1 p2 p3 p4 p5 p6
        go_wp2_with fail
        go_roundg (K - (i + 1))
        case measure => omega
        case rel => exact ⟨i + 1, (s ++ (⟨#[44, 32]⟩ : ByteArray)) ++ P, by omega, rfl, by go_num, rfl, Lib.hid (by rw [HTK.out, joinB_snoc _ _ HNE.out, HS0.out]; simp only [bappend_assoc]), HB2.out⟩
    · obtain rfl : i = K := by omega
      have hs : s = (⟨#[99, 111, 97, 108, 101, 115, 99, 101, 40]⟩ : ByteArray) ++ joinB L := by rw [HS0.out, List.take_of_length_le (by rw [HLL.out]; exact Nat.le_refl _)]
      have hs1 : ¬ (9223372036854775807 < s.size + (⟨#[41]⟩ : ByteArray).size) := by
        have q0 : (⟨#[41]⟩ : ByteArray).size = 1 := rfl
        try simp only [bsize_append]
        omega
      have hs1n0 : ¬ (9223372036854775807 < s.size + 1) := by
        have q0 : (⟨#[41]⟩ : ByteArray).size = 1 := rfl
        try simp only [bsize_append]
        omega
      have HSS := Lib.hid hs
      clear hs
      go_wp2_with fail
      go_ret
      exact ⟨by rw [← HSS.out]; rfl, HB1.out.trans (HBR.out.mono HB1.out.size)⟩


set_option maxRecDepth 100000 in
set_option maxHeartbeats 2000000 in
theorem w84_23 (c : Int) (d : Dat) (ks : List ET) (ih : ∀ k ∈ ks, Wr84 k) : Wr84 (.mk 23 c d ks) := by
  intro deep kv w hsz hat hfit hg
  obtain ⟨a, cc, rfl, -, hks⟩ := ET.On.iff.1 hat
  have hwz := wr_size _ deep hfit hg
  simp only [ET.fits] at hfit
  obtain ⟨⟨ho0, ho1⟩, ⟨hc0, hc1⟩, hdf, hkl, hfs⟩ := hfit
  have hof := good_op hg
  simp only [ET.op] at hof
  simp only [ET.good, Bool.and_eq_true, decide_eq_true_eq, ET.goods_iff] at hg
  have hkid := own_kids hg.1.1
  have hown := own_mk hg.1.1
  simp only [ET.size] at hsz hwz
  simp only [ET.kids] at hks
  obtain ⟨R, eR⟩ : ∃ R, R = (ET.mk 23 c d ks).wr := ⟨_, rfl⟩
  rw [← eR] at hwz ⊢
  have hR : R = wrOp 23 c d (ET.wrs ks) (ET.kws ks) := by rw [eR]; simp only [ET.wr]
  have HR := Lib.hid hR
  have hRz : R.size ≤ 60000000 := by omega
  have HF := Lib.hid (ET.fitss_iff.1 hfs)
  have HG := Lib.hid hg.2
  have HKS := Lib.hid hks
  have HOWN := Lib.hid hown
  have HDF := Lib.hid hdf
  have HKID := Lib.hid hkid
  have HSZ : Hid (∀ k ∈ ks, k.size ≤ 12000) := fun k hk => by have := ET.sizes_mem hk; omega
  have HK84 : Hid (∀ (k : ET), k ∈ ks → ∀ (ka : Option Addr) (kc : Nat) (W : World), k.At W (.slice ka k.kids.length kc) → Calls Tryz.prog 84 #[.agg #[.int .u8 k.op, .slice ka k.kids.length kc, .int .i64 k.col, .int .u8 k.lit.kind, .bool k.lit.bool, .int .i64 k.lit.int, .string k.lit.text]] W (StPost k.wr W)) := fun k hk ka kc W h => ih k hk (deep + 1) _ W (HSZ.out k hk) h (HF.out k hk) (HG.out k hk)
  have HK : Hid (∀ (k : ET), k ∈ ks → ∀ (ka : Option Addr) (kc : Nat) (W : World), k.At W (.slice ka k.kids.length kc) → Calls Tryz.prog 116 #[.agg #[.int .u8 k.op, .slice ka k.kids.length kc, .int .i64 k.col, .int .u8 k.lit.kind, .bool k.lit.bool, .int .i64 k.lit.int, .string k.lit.text]] W (StPost k.kw W)) := fun k hk ka kc W h => kid_116 k (ih k hk) (deep + 1) _ W (HSZ.out k hk) h (HF.out k hk) (HG.out k hk)
  have HKZ : Hid (∀ k ∈ ks, k.wr.size ≤ 60000000 ∧ k.kw.size ≤ 60000000) := fun k hk => by
    have := wr_size k (deep + 1) (HF.out k hk) (HG.out k hk)
    have := kw_size (HF.out k hk) (HG.out k hk)
    have := HSZ.out k hk
    omega
  clear hwz hfs hg hkid hown hks hat ih eR hR hdf
  unfold ET.agg
  simp only [ET.op, ET.col, ET.lit, ET.kids]
  obtain ⟨K, eK⟩ : ∃ K, K = ks.length := ⟨_, rfl⟩
  rw [← eK] at hkl HKID ⊢
  have EK := Lib.hid eK
  clear eK
  have hdr := (HOWN.out.2.2.2.2.1 rfl).2
  obtain ⟨V, eV⟩ : ∃ V, V = (⟨(Lib.itoa d.int).toArray⟩ : ByteArray) := ⟨_, rfl⟩
  have hct : ∀ W : World, Calls Tryz.prog 114 #[.int .i64 d.int] W fun e w' => e = .returned (.string ⟨(Lib.itoa d.int).toArray⟩) ∧ Below W.heap.size W w' := fun W => by
    obtain ⟨u, hu⟩ : ∃ u : Nat, d.int = (u : Int) := ⟨d.int.toNat, by omega⟩
    have h := number_114 u (by omega) W
    rw [← Lib.itoa_nonneg, ← hu] at h
    exact h
  rw [← eV] at hct
  have HCT := Lib.hid hct
  have hRv : R = ((⟨#[102, 97, 105, 108, 32]⟩ : ByteArray) ++ V) := by rw [HR.out, eV]; simp [wrOp]
  have hz : V.size ≤ 60000000 := by
    have := congrArg ByteArray.size hRv
    try simp only [bsize_append] at this
    omega
  have hs1 : ¬ (9223372036854775807 < (⟨#[102, 97, 105, 108, 32]⟩ : ByteArray).size + V.size) := by
    have q0 : (⟨#[102, 97, 105, 108, 32]⟩ : ByteArray).size = 5 := rfl
    try simp only [bsize_append]
    omega
  have hs1n0 : ¬ (9223372036854775807 < 5 + V.size) := by
    have q0 : (⟨#[102, 97, 105, 108, 32]⟩ : ByteArray).size = 5 := rfl
    try simp only [bsize_append]
    omega
  subst hRv
  clear eV hct
  go_enter Tryz.func84, Tryz.ntmps84
  go_wp2_with fail
  refine (HCT.out _).mono ?_
  rintro ev w2 ⟨rfl, hb2⟩
  have HB2 := Lib.hid ((one_below _ _).trans (hb2.mono (by simp)))
  clear hb2 HCT
  go_wp2_with fail
  go_ret
  exact ⟨rfl, HB2.out⟩


set_option maxRecDepth 100000 in
set_option maxHeartbeats 2000000 in
theorem sign_117 (o : Int) (ho : o = 4 ∨ o = 5 ∨ o = 6 ∨ o = 7 ∨ o = 8 ∨ o = 9 ∨ o = 11 ∨ o = 12 ∨ o = 13 ∨ o = 14 ∨ o = 15 ∨ o = 16 ∨ o = 18 ∨ o = 19) (w : World) : Calls Tryz.prog 117 #[.int .u8 o] w (StPost (signB o) w) := by
  rcases ho with rfl | rfl | rfl | rfl | rfl | rfl | rfl | rfl | rfl | rfl | rfl | rfl | rfl | rfl
  all_goals
    go_enter Tryz.func117, Tryz.ntmps117
    go_wp2_with fail
    go_ret
    exact ⟨rfl, Below.refl _ _⟩

set_option maxRecDepth 100000 in
set_option maxHeartbeats 4000000 in
theorem w84_two (o c : Int) (ho : o = 4 ∨ o = 5 ∨ o = 6 ∨ o = 7 ∨ o = 8 ∨ o = 9 ∨ o = 11 ∨ o = 12 ∨ o = 13 ∨ o = 14 ∨ o = 15 ∨ o = 16 ∨ o = 18 ∨ o = 19) (d : Dat) (ks : List ET) (ih : ∀ k ∈ ks, Wr84 k) : Wr84 (.mk o c d ks) := by
  intro deep kv w hsz hat hfit hg
  obtain ⟨a, cc, rfl, -, hks⟩ := ET.On.iff.1 hat
  have hwz := wr_size _ deep hfit hg
  simp only [ET.fits] at hfit
  obtain ⟨⟨ho0, ho1⟩, ⟨hc0, hc1⟩, hdf, hkl, hfs⟩ := hfit
  have hof := good_op hg
  simp only [ET.op] at hof
  simp only [ET.good, Bool.and_eq_true, decide_eq_true_eq, ET.goods_iff] at hg
  have hkid := own_kids hg.1.1
  have hown := own_mk hg.1.1
  simp only [ET.size] at hsz hwz
  simp only [ET.kids] at hks
  obtain ⟨R, eR⟩ : ∃ R, R = (ET.mk o c d ks).wr := ⟨_, rfl⟩
  rw [← eR] at hwz ⊢
  have hR : R = wrOp o c d (ET.wrs ks) (ET.kws ks) := by rw [eR]; simp only [ET.wr]
  have HR := Lib.hid hR
  have hRz : R.size ≤ 60000000 := by omega
  have HF := Lib.hid (ET.fitss_iff.1 hfs)
  have HG := Lib.hid hg.2
  have HKS := Lib.hid hks
  have HOWN := Lib.hid hown
  have HDF := Lib.hid hdf
  have HKID := Lib.hid hkid
  have HSZ : Hid (∀ k ∈ ks, k.size ≤ 12000) := fun k hk => by have := ET.sizes_mem hk; omega
  have HK84 : Hid (∀ (k : ET), k ∈ ks → ∀ (ka : Option Addr) (kc : Nat) (W : World), k.At W (.slice ka k.kids.length kc) → Calls Tryz.prog 84 #[.agg #[.int .u8 k.op, .slice ka k.kids.length kc, .int .i64 k.col, .int .u8 k.lit.kind, .bool k.lit.bool, .int .i64 k.lit.int, .string k.lit.text]] W (StPost k.wr W)) := fun k hk ka kc W h => ih k hk (deep + 1) _ W (HSZ.out k hk) h (HF.out k hk) (HG.out k hk)
  have HK : Hid (∀ (k : ET), k ∈ ks → ∀ (ka : Option Addr) (kc : Nat) (W : World), k.At W (.slice ka k.kids.length kc) → Calls Tryz.prog 116 #[.agg #[.int .u8 k.op, .slice ka k.kids.length kc, .int .i64 k.col, .int .u8 k.lit.kind, .bool k.lit.bool, .int .i64 k.lit.int, .string k.lit.text]] W (StPost k.kw W)) := fun k hk ka kc W h => kid_116 k (ih k hk) (deep + 1) _ W (HSZ.out k hk) h (HF.out k hk) (HG.out k hk)
  have HKZ : Hid (∀ k ∈ ks, k.wr.size ≤ 60000000 ∧ k.kw.size ≤ 60000000) := fun k hk => by
    have := wr_size k (deep + 1) (HF.out k hk) (HG.out k hk)
    have := kw_size (HF.out k hk) (HG.out k hk)
    have := HSZ.out k hk
    omega
  clear hwz hfs hg hkid hown hks hat ih eR hR hdf
  unfold ET.agg
  simp only [ET.op, ET.col, ET.lit, ET.kids]
  obtain ⟨K, eK⟩ : ∃ K, K = ks.length := ⟨_, rfl⟩
  rw [← eK] at hkl HKID ⊢
  have EK := Lib.hid eK
  clear eK
  have hl : ks.length = 2 := by
    have h := HKID.out
    unfold kidsOk at h
    rw [if_neg (by omega), if_neg (by omega), if_neg (by omega), if_neg (by omega)] at h
    simp only [Bool.and_eq_true, beq_iff_eq] at h
    rw [← EK.out]; exact h.2
  obtain ⟨p, q, rfl⟩ : ∃ p q, ks = [p, q] := by
    rcases ks with _ | ⟨p, _ | ⟨q, _ | ⟨r, t⟩⟩⟩
    · simp at hl
    · simp at hl
    · exact ⟨p, q, rfl⟩
    · simp at hl
  have hK2 : K = 2 := EK.out.trans hl
  subst hK2
  obtain ⟨b, off, rfl, -, hats⟩ := HKS.out (by simp)
  obtain ⟨pa, pc, phc, pat⟩ := kids_get hats (i := 0) (k := p) rfl
  obtain ⟨qa, qc, qhc, qat⟩ := kids_get hats (i := 1) (k := q) rfl
  rw [Nat.zero_mul, Nat.add_zero] at phc
  rw [Nat.one_mul] at qhc
  obtain ⟨P, eP⟩ : ∃ P, P = p.kw := ⟨_, rfl⟩
  obtain ⟨Q, eQ⟩ : ∃ Q, Q = q.kw := ⟨_, rfl⟩
  obtain ⟨G, eG⟩ : ∃ G, G = signB o := ⟨_, rfl⟩
  have hpz : P.size ≤ 60000000 := by rw [eP]; exact (HKZ.out p (by simp)).2
  have hqz : Q.size ≤ 60000000 := by rw [eQ]; exact (HKZ.out q (by simp)).2
  have hgz : G.size ≤ 3 := by rw [eG]; exact signB_size o
  have hRv : R = ((((P ++ (⟨#[32]⟩ : ByteArray)) ++ G) ++ (⟨#[32]⟩ : ByteArray)) ++ Q) := by
    rw [HR.out, eP, eQ, eG]
    unfold wrOp
    rw [if_neg (by omega), if_neg (by omega), if_neg (by omega), if_neg (by omega), if_neg (by omega), if_neg (by omega), if_neg (by omega), if_neg (by omega), if_neg (by omega)]
    simp [ET.kws, ET.kw]
  obtain ⟨H, eH⟩ : ∃ H, H = w.heap.size := ⟨_, rfl⟩
  have EH := Lib.hid eH
  have hcp := fun (w1 : World) (h1 : Below w.heap.size w w1) (W : World) (hb : Below w1.heap.size w1 W) => HK.out p (by simp) pa pc W ((pat.below h1).below hb)
  have hcq := fun (w1 : World) (h1 : Below w.heap.size w w1) (W : World) (hb : Below w1.heap.size w1 W) => HK.out q (by simp) qa qc W ((qat.below h1).below hb)
  have hcs := fun (w1 : World) (W : World) (_ : Below w1.heap.size w1 W) => sign_117 o ho W
  rw [← eP] at hcp
  rw [← eQ] at hcq
  rw [← eG] at hcs
  have HCP0 := Lib.hid hcp
  have HCQ0 := Lib.hid hcq
  have HCS0 := Lib.hid hcs
  have PHC := Lib.hid phc
  have QHC := Lib.hid qhc
  have n1 : (o == 1) = false := by simp; omega
  have n2 : (o == 2) = false := by simp; omega
  have n23 : (o == 23) = false := by simp; omega
  have n3 : (o == 3) = false := by simp; omega
  have n10 : (o == 10) = false := by simp; omega
  have n17 : (o == 17) = false := by simp; omega
  have n20 : (o == 20) = false := by simp; omega
  have n21 : (o == 21) = false := by simp; omega
  have n22 : (o == 22) = false := by simp; omega
  have hs1 : ¬ (9223372036854775807 < P.size + (⟨#[32]⟩ : ByteArray).size) := by
    have q0 : (⟨#[32]⟩ : ByteArray).size = 1 := rfl
    try simp only [bsize_append]
    omega
  have hs1n0 : ¬ (9223372036854775807 < P.size + 1) := by
    have q0 : (⟨#[32]⟩ : ByteArray).size = 1 := rfl
    try simp only [bsize_append]
    omega
  have hs2 : ¬ (9223372036854775807 < (P ++ (⟨#[32]⟩ : ByteArray)).size + G.size) := by
    have q0 : (⟨#[32]⟩ : ByteArray).size = 1 := rfl
    try simp only [bsize_append]
    omega
  have hs2n0 : ¬ (9223372036854775807 < (P ++ (⟨#[32]⟩ : ByteArray)).size + G.size) := by
    have q0 : (⟨#[32]⟩ : ByteArray).size = 1 := rfl
    try simp only [bsize_append]
    omega
  have hs2n1 : ¬ (9223372036854775807 < P.size + 1 + G.size) := by
    have q0 : (⟨#[32]⟩ : ByteArray).size = 1 := rfl
    try simp only [bsize_append]
    omega
  have hs3 : ¬ (9223372036854775807 < ((P ++ (⟨#[32]⟩ : ByteArray)) ++ G).size + (⟨#[32]⟩ : ByteArray).size) := by
    have q0 : (⟨#[32]⟩ : ByteArray).size = 1 := rfl
    try simp only [bsize_append]
    omega
  have hs3n0 : ¬ (9223372036854775807 < ((P ++ (⟨#[32]⟩ : ByteArray)) ++ G).size + 1) := by
    have q0 : (⟨#[32]⟩ : ByteArray).size = 1 := rfl
    try simp only [bsize_append]
    omega
  have hs3n1 : ¬ (9223372036854775807 < P.size + 1 + G.size + 1) := by
    have q0 : (⟨#[32]⟩ : ByteArray).size = 1 := rfl
    try simp only [bsize_append]
    omega
  have hs4 : ¬ (9223372036854775807 < (((P ++ (⟨#[32]⟩ : ByteArray)) ++ G) ++ (⟨#[32]⟩ : ByteArray)).size + Q.size) := by
    have q0 : (⟨#[32]⟩ : ByteArray).size = 1 := rfl
    try simp only [bsize_append]
    omega
  have hs4n0 : ¬ (9223372036854775807 < (((P ++ (⟨#[32]⟩ : ByteArray)) ++ G) ++ (⟨#[32]⟩ : ByteArray)).size + Q.size) := by
    have q0 : (⟨#[32]⟩ : ByteArray).size = 1 := rfl
    try simp only [bsize_append]
    omega
  have hs4n1 : ¬ (9223372036854775807 < P.size + 1 + G.size + 1 + Q.size) := by
    have q0 : (⟨#[32]⟩ : ByteArray).size = 1 := rfl
    try simp only [bsize_append]
    omega
  subst hRv
  clear hats phc qhc pat qat eP eQ eG eH hcp hcq hcs hl hRz ho
  go_enter Tryz.func84, Tryz.ntmps84
  go_wp2_with fail
  obtain ⟨w1, hw1⟩ : ∃ w1, w1 = w.alloc (.cells #[.int .u8 o, .slice (some ⟨b, off, none⟩) 2 cc, .int .i64 c, .int .u8 d.kind, .bool d.bool, .int .i64 d.int, .string d.text] 27) := ⟨_, rfl⟩
  have hb1 : Below w.heap.size w w1 := by rw [hw1]; exact one_below _ _
  have kh : w1.heap[H]? = some (.cells #[.int .u8 o, .slice (some ⟨b, off, none⟩) 2 cc, .int .i64 c, .int .u8 d.kind, .bool d.bool, .int .i64 d.int, .string d.text] 27 (0, 0)) := by rw [hw1, EH.out]; exact heap_alloc_new _ _
  rw [← hw1, ← EH.out]
  have HB1 := Lib.hid hb1
  have KH := Lib.hid kh
  clear hw1 hb1 kh
  have hSS : ∀ W, Below w1.heap.size w1 W → W.cell? ⟨H, 0, none⟩ = some (.int .u8 o) ∧ W.cell? ⟨H, 1, none⟩ = some (.slice (some ⟨b, off, none⟩) 2 cc) ∧ W.cell? ⟨b, off, none⟩ = some (.int .u8 p.op) ∧ W.cell? ⟨b, off + 1, none⟩ = some (.slice pa p.kids.length pc) ∧ W.cell? ⟨b, off + 2, none⟩ = some (.int .i64 p.col) ∧ W.cell? ⟨b, off + 3, none⟩ = some (.int .u8 p.lit.kind) ∧ W.cell? ⟨b, off + 4, none⟩ = some (.bool p.lit.bool) ∧ W.cell? ⟨b, off + 5, none⟩ = some (.int .i64 p.lit.int) ∧ W.cell? ⟨b, off + 6, none⟩ = some (.string p.lit.text) ∧ W.cell? ⟨b, off + 7, none⟩ = some (.int .u8 q.op) ∧ W.cell? ⟨b, off + 7 + 1, none⟩ = some (.slice qa q.kids.length qc) ∧ W.cell? ⟨b, off + 7 + 2, none⟩ = some (.int .i64 q.col) ∧ W.cell? ⟨b, off + 7 + 3, none⟩ = some (.int .u8 q.lit.kind) ∧ W.cell? ⟨b, off + 7 + 4, none⟩ = some (.bool q.lit.bool) ∧ W.cell? ⟨b, off + 7 + 5, none⟩ = some (.int .i64 q.lit.int) ∧ W.cell? ⟨b, off + 7 + 6, none⟩ = some (.string q.lit.text) := fun W hb => by
    have h1 := (PHC.out.below HB1.out).below hb
    have h2 := (QHC.out.below HB1.out).below hb
    have hk := (hb.block H (lt_of_heap KH.out)).trans KH.out
    exact ⟨cell_of_heap hk rfl, cell_of_heap hk rfl, h1.1, h1.2.1, h1.2.2.1, h1.2.2.2.1, h1.2.2.2.2.1, h1.2.2.2.2.2.1, h1.2.2.2.2.2.2, h2.1, h2.2.1, h2.2.2.1, h2.2.2.2.1, h2.2.2.2.2.1, h2.2.2.2.2.2.1, h2.2.2.2.2.2.2⟩
  have HS := Lib.hid hSS
  have HCP := Lib.hid (HCP0.out w1 HB1.out)
  have HCQ := Lib.hid (HCQ0.out w1 HB1.out)
  have HCS := Lib.hid (HCS0.out w1)
  clear hSS
  have CB0 := Lib.hid (show Below w1.heap.size w1 w1.drew from ⟨rfl, rfl, rfl, Nat.le_refl _, fun _ _ => rfl⟩)
  refine wp_region_held_drew (S := fun W => W.cell? ⟨H, 0, none⟩ = some (.int .u8 o) ∧ W.cell? ⟨H, 1, none⟩ = some (.slice (some ⟨b, off, none⟩) 2 cc) ∧ W.cell? ⟨b, off, none⟩ = some (.int .u8 p.op) ∧ W.cell? ⟨b, off + 1, none⟩ = some (.slice pa p.kids.length pc) ∧ W.cell? ⟨b, off + 2, none⟩ = some (.int .i64 p.col) ∧ W.cell? ⟨b, off + 3, none⟩ = some (.int .u8 p.lit.kind) ∧ W.cell? ⟨b, off + 4, none⟩ = some (.bool p.lit.bool) ∧ W.cell? ⟨b, off + 5, none⟩ = some (.int .i64 p.lit.int) ∧ W.cell? ⟨b, off + 6, none⟩ = some (.string p.lit.text) ∧ W.cell? ⟨b, off + 7, none⟩ = some (.int .u8 q.op) ∧ W.cell? ⟨b, off + 7 + 1, none⟩ = some (.slice qa q.kids.length qc) ∧ W.cell? ⟨b, off + 7 + 2, none⟩ = some (.int .i64 q.col) ∧ W.cell? ⟨b, off + 7 + 3, none⟩ = some (.int .u8 q.lit.kind) ∧ W.cell? ⟨b, off + 7 + 4, none⟩ = some (.bool q.lit.bool) ∧ W.cell? ⟨b, off + 7 + 5, none⟩ = some (.int .i64 q.lit.int) ∧ W.cell? ⟨b, off + 7 + 6, none⟩ = some (.string q.lit.text)) (by kernel_rfl) (HS.out _ CB0.out) (fun hHeld => ?_)
  refine wpAnyH_take (i := 0) (oi := ⟨some 124, _, _, _, _, _⟩) (v := ?_) rfl (by kernel_rfl) (by kernel_rfl) (by kernel_rfl) (fun _ _ _ h => h) (Or.inl ⟨by rfl, ?_⟩) (by assumption) ?_; rotate_left; (intro w hSw; (try dsimp only at hSw); go_simp; (try with_reducible rfl)); (try simp only [Act.put, List.setIfInBounds_toArray, List.set_cons_zero, List.set_cons_succ])
  refine wpAnyH_take (i := 1) (oi := ⟨some 125, _, _, _, _, _⟩) (v := ?_) rfl (by kernel_rfl) (by kernel_rfl) (by kernel_rfl) (fun _ _ _ h => h) (Or.inl ⟨by rfl, ?_⟩) (by assumption) ?_; rotate_left; (intro w hSw; (try dsimp only at hSw); go_simp; (try with_reducible rfl)); (try simp only [Act.put, List.setIfInBounds_toArray, List.set_cons_zero, List.set_cons_succ])
  refine wpAnyH_take (i := 2) (oi := ⟨some 126, _, _, _, _, _⟩) (v := ?_) rfl (by kernel_rfl) (by kernel_rfl) (by kernel_rfl) (fun _ _ _ h => h) (Or.inl ⟨by rfl, ?_⟩) (by assumption) ?_; rotate_left; (intro w hSw; (try dsimp only at hSw); go_simp; (try with_reducible rfl)); (try simp only [Act.put, List.setIfInBounds_toArray, List.set_cons_zero, List.set_cons_succ])
  refine wpAnyH_take (i := 3) (oi := ⟨some 127, _, _, _, _, _⟩) (v := ?_) rfl (by kernel_rfl) (by kernel_rfl) (by kernel_rfl) (fun _ _ _ h => h) (Or.inl ⟨by rfl, ?_⟩) (by assumption) ?_; rotate_left; (intro w hSw; (try dsimp only at hSw); go_simp; (try with_reducible rfl)); (try simp only [Act.put, List.setIfInBounds_toArray, List.set_cons_zero, List.set_cons_succ])
  refine wpAnyH_take (i := 6) (oi := ⟨some 130, _, _, _, _, _⟩) (v := ?_) rfl (by kernel_rfl) (by kernel_rfl) (by kernel_rfl) (fun _ _ _ h => h) (Or.inl ⟨by rfl, ?_⟩) (by assumption) ?_; rotate_left; (intro w hSw; (try dsimp only at hSw); go_simp; (try with_reducible rfl)); (try simp only [Act.put, List.setIfInBounds_toArray, List.set_cons_zero, List.set_cons_succ])
  refine wpAnyH_take (i := 7) (oi := ⟨some 131, _, _, _, _, _⟩) (v := ?_) rfl (by kernel_rfl) (by kernel_rfl) (by kernel_rfl) (fun _ _ _ h => h) (Or.inl ⟨by rfl, ?_⟩) (by assumption) ?_; rotate_left; (intro w hSw; (try dsimp only at hSw); go_simp; (try with_reducible rfl)); (try simp only [Act.put, List.setIfInBounds_toArray, List.set_cons_zero, List.set_cons_succ])
  refine wpAnyH_take (i := 11) (oi := ⟨some 135, _, _, _, _, _⟩) (v := ?_) rfl (by kernel_rfl) (by kernel_rfl) (by kernel_rfl) (fun _ _ _ h => h) (Or.inl ⟨by rfl, ?_⟩) (by assumption) ?_; rotate_left; (intro w hSw; (try dsimp only at hSw); go_simp; (try with_reducible rfl)); (try simp only [Act.put, List.setIfInBounds_toArray, List.set_cons_zero, List.set_cons_succ])
  refine wpAnyH_take (i := 12) (oi := ⟨some 136, _, _, _, _, _⟩) (v := ?_) rfl (by kernel_rfl) (by kernel_rfl) (by kernel_rfl) (fun _ _ _ h => h) (Or.inl ⟨by rfl, ?_⟩) (by assumption) ?_; rotate_left; (intro w hSw; (try dsimp only at hSw); go_simp; (try with_reducible rfl)); (try simp only [Act.put, List.setIfInBounds_toArray, List.set_cons_zero, List.set_cons_succ])
  refine wpAnyH_take (i := 13) (oi := ⟨some 137, _, _, _, _, _⟩) (v := ?_) rfl (by kernel_rfl) (by kernel_rfl) (by kernel_rfl) (fun _ _ _ h => h) (Or.inl ⟨by rfl, ?_⟩) (by assumption) ?_; rotate_left; (intro w hSw; (try dsimp only at hSw); go_simp; (try with_reducible rfl)); (try simp only [Act.put, List.setIfInBounds_toArray, List.set_cons_zero, List.set_cons_succ])
  refine wpAnyH_take (i := 14) (oi := ⟨some 138, _, _, _, _, _⟩) (v := ?_) rfl (by kernel_rfl) (by kernel_rfl) (by kernel_rfl) (fun _ _ _ h => h) (Or.inl ⟨by rfl, ?_⟩) (by assumption) ?_; rotate_left; (intro w hSw; (try dsimp only at hSw); go_simp; (try with_reducible rfl)); (try simp only [Act.put, List.setIfInBounds_toArray, List.set_cons_zero, List.set_cons_succ])
  refine wpAnyH_ready (rs := [4]) (by kernel_rfl) (by simp) ?_
  refine AllReadyH.cons (o := ⟨some 128, _, _, _, _, _⟩) rfl (fun K9 hK9 => ?_) (AllReadyH.nil)
  go_simp
  go_at_call 116
  with_reducible refine (HCP.out _ CB0.out).mono ?_
  rintro ev V1 ⟨rfl, hbx⟩
  have CB1 := Lib.hid (CB0.out.trans (hbx.mono CB0.out.size))
  clear hbx
  go_wp2_with fail
  refine hK9.out _ _ (HS.out _ CB1.out) (fun hHeld => ?_)
  clear hK9 K9
  skip
  refine wpAnyH_take (i := 5) (oi := ⟨some 129, _, _, _, _, _⟩) (v := ?_) rfl (by kernel_rfl) (by kernel_rfl) (by kernel_rfl) (fun _ _ _ h => h) (Or.inl ⟨by rfl, ?_⟩) (by assumption) ?_; rotate_left; (intro w hSw; (try dsimp only at hSw); go_simp; (try with_reducible rfl)); (try simp only [Act.put, List.setIfInBounds_toArray, List.set_cons_zero, List.set_cons_succ])
  refine wpAnyH_ready (rs := [8]) (by kernel_rfl) (by simp) ?_
  refine AllReadyH.cons (o := ⟨some 132, _, _, _, _, _⟩) rfl (fun K9 hK9 => ?_) (AllReadyH.nil)
  go_simp
  go_at_call 117
  with_reducible refine (HCS.out _ CB1.out).mono ?_
  rintro ev V2 ⟨rfl, hbx⟩
  have CB2 := Lib.hid (CB1.out.trans (hbx.mono CB1.out.size))
  clear hbx
  go_wp2_with fail
  refine hK9.out _ _ (HS.out _ CB2.out) (fun hHeld => ?_)
  clear hK9 K9
  skip
  refine wpAnyH_take (i := 9) (oi := ⟨some 133, _, _, _, _, _⟩) (v := ?_) rfl (by kernel_rfl) (by kernel_rfl) (by kernel_rfl) (fun _ _ _ h => h) (Or.inl ⟨by rfl, ?_⟩) (by assumption) ?_; rotate_left; (intro w hSw; (try dsimp only at hSw); go_simp; (try with_reducible rfl)); (try simp only [Act.put, List.setIfInBounds_toArray, List.set_cons_zero, List.set_cons_succ])
  refine wpAnyH_take (i := 10) (oi := ⟨some 134, _, _, _, _, _⟩) (v := ?_) rfl (by kernel_rfl) (by kernel_rfl) (by kernel_rfl) (fun _ _ _ h => h) (Or.inl ⟨by rfl, ?_⟩) (by assumption) ?_; rotate_left; (intro w hSw; (try dsimp only at hSw); go_simp; (try with_reducible rfl)); (try simp only [Act.put, List.setIfInBounds_toArray, List.set_cons_zero, List.set_cons_succ])
  refine wpAnyH_ready (rs := [15]) (by kernel_rfl) (by simp) ?_
  refine AllReadyH.cons (o := ⟨some 139, _, _, _, _, _⟩) rfl (fun K9 hK9 => ?_) (AllReadyH.nil)
  go_simp
  go_at_call 116
  with_reducible refine (HCQ.out _ CB2.out).mono ?_
  rintro ev V3 ⟨rfl, hbx⟩
  have CB3 := Lib.hid (CB2.out.trans (hbx.mono CB2.out.size))
  clear hbx
  go_wp2_with fail
  refine hK9.out _ _ (HS.out _ CB3.out) (fun hHeld => ?_)
  clear hK9 K9
  skip
  refine wpAnyH_take (i := 16) (oi := ⟨some 140, _, _, _, _, _⟩) (v := ?_) rfl (by kernel_rfl) (by kernel_rfl) (by kernel_rfl) (fun _ _ _ h => h) (Or.inl ⟨by rfl, ?_⟩) (by assumption) ?_; rotate_left; (intro w hSw; (try dsimp only at hSw); go_simp; (try with_reducible rfl)); (try simp only [Act.put, List.setIfInBounds_toArray, List.set_cons_zero, List.set_cons_succ])
  refine wpAnyH_take (i := 17) (oi := ⟨some 2, _, _, _, _, _⟩) (v := ?_) rfl (by kernel_rfl) (by kernel_rfl) (by kernel_rfl) (fun _ _ _ h => h) (Or.inl ⟨by rfl, ?_⟩) (by assumption) ?_; rotate_left; (intro w hSw; (try dsimp only at hSw); go_simp; (try with_reducible rfl)); (try simp only [Act.put, List.setIfInBounds_toArray, List.set_cons_zero, List.set_cons_succ])
  refine wpAnyH_done (by kernel_rfl) ?_ _
  go_wp2_with fail
  go_ret
  exact ⟨rfl, HB1.out.trans (CB3.out.mono HB1.out.size)⟩

theorem written_84 : ∀ e : ET, Wr84 e := by
  refine ET.ind fun o c d ks ih => ?_
  by_cases hg : ∃ deep, (ET.mk o c d ks).good okD deep = true
  · obtain ⟨deep, hg⟩ := hg
    have h := good_op hg
    simp only [ET.op] at h
    have ho : o = 1 ∨ o = 2 ∨ o = 3 ∨ o = 10 ∨ o = 17 ∨ o = 20 ∨ o = 21 ∨ o = 22 ∨ o = 23 ∨ (o = 4 ∨ o = 5 ∨ o = 6 ∨ o = 7 ∨ o = 8 ∨ o = 9 ∨ o = 11 ∨ o = 12 ∨ o = 13 ∨ o = 14 ∨ o = 15 ∨ o = 16 ∨ o = 18 ∨ o = 19) := by omega
    rcases ho with rfl | rfl | rfl | rfl | rfl | rfl | rfl | rfl | rfl | ho
    · exact w84_1 c d ks ih
    · exact w84_2 c d ks ih
    · exact w84_3 c d ks ih
    · exact w84_10 c d ks ih
    · exact w84_17 c d ks ih
    · exact w84_20 c d ks ih
    · exact w84_21 c d ks ih
    · exact w84_22 c d ks ih
    · exact w84_23 c d ks ih
    · exact w84_two o c ho d ks ih
  · intro deep kv w _ _ _ h
    exact absurd ⟨deep, h⟩ hg

/-- what Print tells -/
def prW (e : ET) : ByteArray := if e.may okD = true then e.wr else ⟨#[]⟩
set_option maxRecDepth 100000 in
set_option maxHeartbeats 1000000 in
theorem rprint_38 (e : ET) (a : Option Addr) (cc : Nat) (w : World) (hsz : e.size ≤ 12000) (hat : e.At w (.slice a e.kids.length cc)) (hfit : e.fits) : Calls Tryz.prog 38 #[e.agg (.slice a e.kids.length cc)] w (StPost (prW e) w) := by
  have h33 := fun (W : World) (hb : Below w.heap.size w W) => check_33 e a _ cc W (hat.below hb) hfit
  have h84 := fun (hm : e.may okD = true) (W : World) (hb : Below w.heap.size w W) => written_84 e 1 _ W hsz (hat.below hb) hfit (ET.may_good hm)
  obtain ⟨M, eM⟩ : ∃ M, M = e.may okD := ⟨_, rfl⟩
  obtain ⟨R, eR⟩ : ∃ R, R = prW e := ⟨_, rfl⟩
  have h1 : M = true → R = e.wr := fun h => by rw [eR]; unfold prW; rw [if_pos (by rw [← eM]; exact h)]
  have h2 : M = false → R = ⟨#[]⟩ := fun h => by rw [eR]; unfold prW; rw [if_neg (by rw [← eM, h]; decide)]
  rw [← eR]
  rw [← eM] at h33 h84
  obtain ⟨S, eS⟩ : ∃ S, S = e.wr := ⟨_, rfl⟩
  rw [← eS] at h84 h1
  unfold ET.agg at h33 h84
  have H33 := Lib.hid h33
  have H84 := Lib.hid h84
  have H1 := Lib.hid h1
  have H2 := Lib.hid h2
  clear h33 h84 h1 h2 eM eR eS hat hfit
  unfold ET.agg
  go_enter Tryz.func38, Tryz.ntmps38
  go_wp2_with fail
  refine (H33.out _ (one_below _ _)).mono ?_
  rintro ev w1 ⟨rfl, hb1⟩
  have k1 := one_at hb1
  have y0 := cell_of_heap (o := 0) k1 rfl
  have y1 := cell_of_heap (o := 1) k1 rfl
  have y2 := cell_of_heap (o := 2) k1 rfl
  have y3 := cell_of_heap (o := 3) k1 rfl
  have y4 := cell_of_heap (o := 4) k1 rfl
  have y5 := cell_of_heap (o := 5) k1 rfl
  have y6 := cell_of_heap (o := 6) k1 rfl
  have HB1 := Lib.hid ((one_below _ _).trans (hb1.mono (by simp)))
  clear hb1 k1 H33
  cases M
  · obtain rfl := H2.out (by first | rfl | trivial)
    go_wp2_with fail
    go_ret
    exact ⟨rfl, HB1.out⟩
  · obtain rfl := H1.out (by first | rfl | trivial)
    go_wp2_with fail
    refine (H84.out (by first | rfl | trivial) _ HB1.out).mono ?_
    rintro ev w2 ⟨rfl, hb2⟩
    have HB2 := Lib.hid (HB1.out.trans (hb2.mono HB1.out.size))
    clear hb2
    go_wp2_with fail
    go_ret
    exact ⟨rfl, HB2.out⟩
end Go.Proofs.YtolikaginhjbhaaGreatDoor
