import Derived.Test.YtolikaginhjbhaaGreatDoorXj
/- expr.Print, its closures. -/
namespace Go.Proofs.YtolikaginhjbhaaGreatDoor
open Go.RowKit Go.Pen Go.Shelf
attribute [local go_sem ↓] Go.wp_at_zero Go.wp_at_succ
attribute [local go_sem] Oper.semAt_some

set_option maxRecDepth 100000 in
theorem isNaN_106 (x : Int) (w : World) : Calls Tryz.prog 106 #[.int .u8 x] w fun e w' => e = .returned (.bool false) ∧ w' = w := by
  have hx : (x != x) = false := by simp
  go_enter Tryz.func106, Tryz.ntmps106
  go_wp2_with fail
  go_ret
  exact ⟨by simp, rfl⟩
set_option maxRecDepth 100000 in
set_option maxHeartbeats 1000000 in
theorem compare_78 (x : Int) (w : World) : Calls Tryz.prog 78 #[.int .u8 x, .int .u8 3] w fun e w' => e = .returned (.int .i64 (if x < 3 then -1 else if 3 < x then 1 else 0)) ∧ w' = w := by
  obtain ⟨R, eR⟩ : ∃ R : Int, R = if x < 3 then -1 else if 3 < x then 1 else 0 := ⟨_, rfl⟩
  rw [← eR]
  have ER := Lib.hid eR
  clear eR
  rcases (show x < 3 ∨ 3 < x ∨ x = 3 by omega) with h | h | h
  · obtain rfl : R = -1 := by rw [ER.out, if_pos h]
    go_enter Tryz.func78, Tryz.ntmps78
    go_wp2_with (go_at_call 106; refine (isNaN_106 _ _).mono ?_; rintro ev w1 ⟨rfl, rfl⟩)
    go_ret
    exact ⟨rfl, rfl⟩
  · obtain rfl : R = 1 := by rw [ER.out, if_neg (by omega), if_pos h]
    have h' : ¬ x < 3 := by omega
    go_enter Tryz.func78, Tryz.ntmps78
    go_wp2_with (go_at_call 106; refine (isNaN_106 _ _).mono ?_; rintro ev w1 ⟨rfl, rfl⟩)
    go_ret
    exact ⟨rfl, rfl⟩
  · obtain rfl : R = 0 := by rw [ER.out, if_neg (by omega), if_neg (by omega)]
    subst h
    go_enter Tryz.func78, Tryz.ntmps78
    go_wp2_with (go_at_call 106; refine (isNaN_106 _ _).mono ?_; rintro ev w1 ⟨rfl, rfl⟩)
    go_ret
    exact ⟨rfl, rfl⟩

/-- the closures' boxes, the table of signs -/
structure Cl (bk bw bt tb : Nat) (w : World) : Prop where
  k : w.cell? ⟨bk, 0, none⟩ = some (.func (.func 77) #[] #[.pointer (some ⟨bw, 0, none⟩)])
  wr : w.cell? ⟨bw, 0, none⟩ = some (.func (.func 79) #[] #[.pointer (some ⟨bk, 0, none⟩), .pointer (some ⟨bw, 0, none⟩), .pointer (some ⟨bt, 0, none⟩)])
  t : w.cell? ⟨bt, 0, none⟩ = some (.slice (some ⟨tb, 0, none⟩) 24 24)
  s : ∀ o : Int, (o = 4 ∨ o = 5 ∨ o = 6 ∨ o = 7 ∨ o = 8 ∨ o = 9 ∨ o = 11 ∨ o = 12 ∨ o = 13 ∨ o = 14 ∨ o = 15 ∨ o = 16 ∨ o = 18 ∨ o = 19) → w.cell? ⟨tb, o.toNat, none⟩ = some (.string (signB o))
  g : GlobP w
theorem Cl.below {bk bw bt tb : Nat} {w w' : World} (h : Cl bk bw bt tb w) (hb : Below w.heap.size w w') : Cl bk bw bt tb w' :=
  ⟨cell_keep hb h.k, cell_keep hb h.wr, cell_keep hb h.t, fun o ho => cell_keep hb (h.s o ho), h.g.below hb⟩
def Wr79 (bk bw bt tb : Nat) (e : ET) : Prop := ∀ (deep : Nat) (kv : Value) (w : World), e.size ≤ 12000 → e.At w kv → e.fits → e.good okD deep = true → Cl bk bw bt tb w → Calls Tryz.prog 79 #[e.agg kv, .pointer (some ⟨bk, 0, none⟩), .pointer (some ⟨bw, 0, none⟩), .pointer (some ⟨bt, 0, none⟩)] w (StPost e.wr w)

set_option maxRecDepth 100000 in
set_option maxHeartbeats 1000000 in
theorem kid_77 {bk bw bt tb : Nat} (e : ET) (h79 : Wr79 bk bw bt tb e) (deep : Nat) (kv : Value) (w : World) (hsz : e.size ≤ 12000) (hat : e.At w kv) (hfit : e.fits) (hg : e.good okD deep = true) (hcl : Cl bk bw bt tb w) : Calls Tryz.prog 77 #[e.agg kv, .pointer (some ⟨bw, 0, none⟩)] w (StPost e.kw w) := by
  have hwz := wr_size e deep hfit hg
  have hct := fun (W : World) (hb : Below w.heap.size w W) => h79 deep kv W hsz (hat.below hb) hfit hg (hcl.below hb)
  have hcw := fun (A : Obj) => (hcl.below (one_below w A)).wr
  obtain ⟨a', c', rfl⟩ := hat.slice
  obtain ⟨S, eS⟩ : ∃ S, S = e.wr := ⟨_, rfl⟩
  have hkw : e.kw = kidW e.op S := by rw [eS]; rfl
  rw [← eS] at hwz hct
  obtain ⟨R, eR⟩ : ∃ R, R = e.kw := ⟨_, rfl⟩
  rw [← eR]
  have ER : Hid (R = kidW e.op S) := Lib.hid (eR.trans hkw)
  unfold ET.agg at hct
  have HCT := Lib.hid hct
  have hz : S.size ≤ 60000000 := by omega
  have hs1 : ¬ (9223372036854775807 < (⟨#[40]⟩ : ByteArray).size + S.size) := by
    have q0 : (⟨#[40]⟩ : ByteArray).size = 1 := rfl
    try simp only [bsize_append]
    omega
  have hs1n0 : ¬ (9223372036854775807 < 1 + S.size) := by
    have q0 : (⟨#[40]⟩ : ByteArray).size = 1 := rfl
    try simp only [bsize_append]
    omega
  have hs2 : ¬ (9223372036854775807 < ((⟨#[40]⟩ : ByteArray) ++ S).size + (⟨#[41]⟩ : ByteArray).size) := by
    have q0 : (⟨#[40]⟩ : ByteArray).size = 1 := rfl
    have q1 : (⟨#[41]⟩ : ByteArray).size = 1 := rfl
    try simp only [bsize_append]
    omega
  have hs2n0 : ¬ (9223372036854775807 < ((⟨#[40]⟩ : ByteArray) ++ S).size + 1) := by
    have q0 : (⟨#[40]⟩ : ByteArray).size = 1 := rfl
    have q1 : (⟨#[41]⟩ : ByteArray).size = 1 := rfl
    try simp only [bsize_append]
    omega
  have hs2n1 : ¬ (9223372036854775807 < 1 + S.size + 1) := by
    have q0 : (⟨#[40]⟩ : ByteArray).size = 1 := rfl
    have q1 : (⟨#[41]⟩ : ByteArray).size = 1 := rfl
    try simp only [bsize_append]
    omega
  have hcm := compare_78 e.op
  have HCM := Lib.hid hcm
  have xl : bw < w.heap.size := World.block_lt_of_cell? w _ hcl.wr
  clear hwz hct hat hfit hg eS hkw eR hcl hcm
  unfold ET.agg
  by_cases h3 : e.op < 3
  · have hk : R = S := by rw [ER.out]; unfold kidW; rw [if_pos h3]
    rw [if_pos h3] at HCM
    subst hk
    go_enter Tryz.func77, Tryz.ntmps77
    go_wp2_with fail
    refine (HCM.out _).mono ?_
    rintro ev w1 ⟨rfl, rfl⟩
    go_wp2_with fail
    refine (HCT.out _ (one_below _ _)).mono ?_
    rintro ev w2 ⟨rfl, hb2⟩
    have HB2 := Lib.hid ((one_below _ _).trans (hb2.mono (by simp)))
    clear hb2 HCT
    go_wp2_with fail
    go_ret
    exact ⟨rfl, HB2.out⟩
  · have hk : R = ((⟨#[40]⟩ : ByteArray) ++ S) ++ (⟨#[41]⟩ : ByteArray) := by rw [ER.out]; unfold kidW; rw [if_neg h3]
    subst hk
    rw [if_neg h3] at HCM
    obtain ⟨C, hC, hCn⟩ : ∃ C : Int, (if 3 < e.op then (1 : Int) else 0) = C ∧ 0 ≤ C := by
      by_cases h : 3 < e.op
      · exact ⟨1, if_pos h, by decide⟩
      · exact ⟨0, if_neg h, by decide⟩
    rw [hC] at HCM
    clear hC
    go_enter Tryz.func77, Tryz.ntmps77
    go_wp2_with fail
    refine (HCM.out _).mono ?_
    rintro ev w1 ⟨rfl, rfl⟩
    go_wp2_with fail
    refine (HCT.out _ (one_below _ _)).mono ?_
    rintro ev w2 ⟨rfl, hb2⟩
    have HB2 := Lib.hid ((one_below _ _).trans (hb2.mono (by simp)))
    clear hb2 HCT
    go_wp2_with fail
    go_ret
    exact ⟨rfl, HB2.out⟩

set_option maxRecDepth 100000 in
set_option maxHeartbeats 4000000 in
theorem w79_1 {bk bw bt tb : Nat} (c : Int) (d : Dat) (ks : List ET) (ih : ∀ k ∈ ks, Wr79 bk bw bt tb k) : Wr79 bk bw bt tb (.mk 1 c d ks) := by
  intro deep kv w hsz hat hfit hg hcl
  obtain ⟨a, cc, rfl, -, hks⟩ := ET.On.iff.1 hat
  have hwz := wr_size _ deep hfit hg
  simp only [ET.fits] at hfit
  obtain ⟨⟨ho0, ho1⟩, ⟨hc0, hc1⟩, hdf, hkl, hfs⟩ := hfit
  have hof := good_op hg
  simp only [ET.op] at hof
  simp only [ET.good, Bool.and_eq_true, decide_eq_true_eq, ET.goods_iff] at hg
  have hkid := own_kids hg.1.1
  have hown := own_mk hg.1.1
  simp only [ET.size] at hsz hwz
  simp only [ET.kids] at hks
  obtain ⟨R, eR⟩ : ∃ R, R = (ET.mk 1 c d ks).wr := ⟨_, rfl⟩
  rw [← eR] at hwz ⊢
  have hR : R = wrOp 1 c d (ET.wrs ks) (ET.kws ks) := by rw [eR]; simp only [ET.wr]
  have HR := Lib.hid hR
  have hRz : R.size ≤ 60000000 := by omega
  have HF := Lib.hid (ET.fitss_iff.1 hfs)
  have HG := Lib.hid hg.2
  have HKS := Lib.hid hks
  have HOWN := Lib.hid hown
  have HDF := Lib.hid hdf
  have HKID := Lib.hid hkid
  have HCL := Lib.hid hcl
  have HSZ : Hid (∀ k ∈ ks, k.size ≤ 12000) := fun k hk => by have := ET.sizes_mem hk; omega
  have HK79 : Hid (∀ (k : ET), k ∈ ks → ∀ (ka : Option Addr) (kc : Nat) (W : World), Below w.heap.size w W → k.At W (.slice ka k.kids.length kc) → Calls Tryz.prog 79 #[.agg #[.int .u8 k.op, .slice ka k.kids.length kc, .int .i64 k.col, .int .u8 k.lit.kind, .bool k.lit.bool, .int .i64 k.lit.int, .string k.lit.text], .pointer (some ⟨bk, 0, none⟩), .pointer (some ⟨bw, 0, none⟩), .pointer (some ⟨bt, 0, none⟩)] W (StPost k.wr W)) := fun k hk ka kc W hb h => ih k hk (deep + 1) _ W (HSZ.out k hk) h (HF.out k hk) (HG.out k hk) (hcl.below hb)
  have HK : Hid (∀ (k : ET), k ∈ ks → ∀ (ka : Option Addr) (kc : Nat) (W : World), Below w.heap.size w W → k.At W (.slice ka k.kids.length kc) → Calls Tryz.prog 77 #[.agg #[.int .u8 k.op, .slice ka k.kids.length kc, .int .i64 k.col, .int .u8 k.lit.kind, .bool k.lit.bool, .int .i64 k.lit.int, .string k.lit.text], .pointer (some ⟨bw, 0, none⟩)] W (StPost k.kw W)) := fun k hk ka kc W hb h => kid_77 k (ih k hk) (deep + 1) _ W (HSZ.out k hk) h (HF.out k hk) (HG.out k hk) (hcl.below hb)
  have HKZ : Hid (∀ k ∈ ks, k.wr.size ≤ 60000000 ∧ k.kw.size ≤ 60000000) := fun k hk => by
    have := wr_size k (deep + 1) (HF.out k hk) (HG.out k hk)
    have := kw_size (HF.out k hk) (HG.out k hk)
    have := HSZ.out k hk
    omega
  clear hwz hfs hg hkid hown hks hat ih eR hR hdf hcl
  unfold ET.agg
  simp only [ET.op, ET.col, ET.lit, ET.kids]
  obtain ⟨K, eK⟩ : ∃ K, K = ks.length := ⟨_, rfl⟩
  rw [← eK] at hkl HKID ⊢
  have EK := Lib.hid eK
  clear eK
  have hcr := HOWN.out.2.1 rfl
  obtain ⟨V, eV⟩ : ∃ V, V = (⟨(Lib.itoa c).toArray⟩ : ByteArray) := ⟨_, rfl⟩
  have hct := fun (W : World) (hb : Below w.heap.size w W) => Tryz.strconv_Itoa c hc0 hc1 W (HCL.out.below hb).g.pow
  rw [← eV] at hct
  have HCT := Lib.hid hct
  have hRv : R = ((⟨#[35]⟩ : ByteArray) ++ V) := by rw [HR.out, eV]; simp [wrOp]
  have hz : V.size ≤ 60000000 := by
    have := congrArg ByteArray.size hRv
    try simp only [bsize_append] at this
    omega
  have hs1 : ¬ (9223372036854775807 < (⟨#[35]⟩ : ByteArray).size + V.size) := by
    have q0 : (⟨#[35]⟩ : ByteArray).size = 1 := rfl
    try simp only [bsize_append]
    omega
  have hs1n0 : ¬ (9223372036854775807 < 1 + V.size) := by
    have q0 : (⟨#[35]⟩ : ByteArray).size = 1 := rfl
    try simp only [bsize_append]
    omega
  subst hRv
  clear eV hct
  go_enter Tryz.func79, Tryz.ntmps79
  go_wp2_with fail
  refine (HCT.out _ (one_below _ _)).mono ?_
  rintro ev w2 ⟨rfl, kk, os, hw2⟩
  have HB2 := Lib.hid ((one_below w _).trans ((show Below _ _ w2 by rw [hw2]; exact grow_drew_below).mono (by simp)))
  clear hw2
  clear HCT
  go_wp2_with fail
  go_ret
  exact ⟨rfl, HB2.out⟩

set_option maxRecDepth 100000 in
set_option maxHeartbeats 4000000 in
theorem w79_2 {bk bw bt tb : Nat} (c : Int) (d : Dat) (ks : List ET) (ih : ∀ k ∈ ks, Wr79 bk bw bt tb k) : Wr79 bk bw bt tb (.mk 2 c d ks) := by
  intro deep kv w hsz hat hfit hg hcl
  obtain ⟨a, cc, rfl, -, hks⟩ := ET.On.iff.1 hat
  have hwz := wr_size _ deep hfit hg
  simp only [ET.fits] at hfit
  obtain ⟨⟨ho0, ho1⟩, ⟨hc0, hc1⟩, hdf, hkl, hfs⟩ := hfit
  have hof := good_op hg
  simp only [ET.op] at hof
  simp only [ET.good, Bool.and_eq_true, decide_eq_true_eq, ET.goods_iff] at hg
  have hkid := own_kids hg.1.1
  have hown := own_mk hg.1.1
  simp only [ET.size] at hsz hwz
  simp only [ET.kids] at hks
  obtain ⟨R, eR⟩ : ∃ R, R = (ET.mk 2 c d ks).wr := ⟨_, rfl⟩
  rw [← eR] at hwz ⊢
  have hR : R = wrOp 2 c d (ET.wrs ks) (ET.kws ks) := by rw [eR]; simp only [ET.wr]
  have HR := Lib.hid hR
  have hRz : R.size ≤ 60000000 := by omega
  have HF := Lib.hid (ET.fitss_iff.1 hfs)
  have HG := Lib.hid hg.2
  have HKS := Lib.hid hks
  have HOWN := Lib.hid hown
  have HDF := Lib.hid hdf
  have HKID := Lib.hid hkid
  have HCL := Lib.hid hcl
  have HSZ : Hid (∀ k ∈ ks, k.size ≤ 12000) := fun k hk => by have := ET.sizes_mem hk; omega
  have HK79 : Hid (∀ (k : ET), k ∈ ks → ∀ (ka : Option Addr) (kc : Nat) (W : World), Below w.heap.size w W → k.At W (.slice ka k.kids.length kc) → Calls Tryz.prog 79 #[.agg #[.int .u8 k.op, .slice ka k.kids.length kc, .int .i64 k.col, .int .u8 k.lit.kind, .bool k.lit.bool, .int .i64 k.lit.int, .string k.lit.text], .pointer (some ⟨bk, 0, none⟩), .pointer (some ⟨bw, 0, none⟩), .pointer (some ⟨bt, 0, none⟩)] W (StPost k.wr W)) := fun k hk ka kc W hb h => ih k hk (deep + 1) _ W (HSZ.out k hk) h (HF.out k hk) (HG.out k hk) (hcl.below hb)
  have HK : Hid (∀ (k : ET), k ∈ ks → ∀ (ka : Option Addr) (kc : Nat) (W : World), Below w.heap.size w W → k.At W (.slice ka k.kids.length kc) → Calls Tryz.prog 77 #[.agg #[.int .u8 k.op, .slice ka k.kids.length kc, .int .i64 k.col, .int .u8 k.lit.kind, .bool k.lit.bool, .int .i64 k.lit.int, .string k.lit.text], .pointer (some ⟨bw, 0, none⟩)] W (StPost k.kw W)) := fun k hk ka kc W hb h => kid_77 k (ih k hk) (deep + 1) _ W (HSZ.out k hk) h (HF.out k hk) (HG.out k hk) (hcl.below hb)
  have HKZ : Hid (∀ k ∈ ks, k.wr.size ≤ 60000000 ∧ k.kw.size ≤ 60000000) := fun k hk => by
    have := wr_size k (deep + 1) (HF.out k hk) (HG.out k hk)
    have := kw_size (HF.out k hk) (HG.out k hk)
    have := HSZ.out k hk
    omega
  clear hwz hfs hg hkid hown hks hat ih eR hR hdf hcl
  unfold ET.agg
  simp only [ET.op, ET.col, ET.lit, ET.kids]
  obtain ⟨K, eK⟩ : ∃ K, K = ks.length := ⟨_, rfl⟩
  rw [← eK] at hkl HKID ⊢
  have EK := Lib.hid eK
  clear eK
  obtain ⟨V, eV⟩ : ∃ V, V = datW d := ⟨_, rfl⟩
  have hct := fun (W : World) (hb : Below w.heap.size w W) => print_81 d W HDF.out (HOWN.out.2.2.2.1 rfl) (HCL.out.below hb).g
  unfold dagg at hct
  rw [← eV] at hct
  have HCT := Lib.hid hct
  have hRv : R = V := by rw [HR.out, eV]; simp [wrOp]
  have hz : V.size ≤ 60000000 := by
    have := congrArg ByteArray.size hRv
    try simp only [bsize_append] at this
    omega
  subst hRv
  clear eV hct
  go_enter Tryz.func79, Tryz.ntmps79
  go_wp2_with fail
  refine (HCT.out _ (one_below _ _)).mono ?_
  rintro ev w2 ⟨rfl, hb2⟩
  have HB2 := Lib.hid ((one_below _ _).trans (hb2.mono (by simp)))
  clear hb2
  clear HCT
  go_wp2_with fail
  go_ret
  exact ⟨rfl, HB2.out⟩

set_option maxRecDepth 100000 in
set_option maxHeartbeats 4000000 in
theorem w79_3 {bk bw bt tb : Nat} (c : Int) (d : Dat) (ks : List ET) (ih : ∀ k ∈ ks, Wr79 bk bw bt tb k) : Wr79 bk bw bt tb (.mk 3 c d ks) := by
  intro deep kv w hsz hat hfit hg hcl
  obtain ⟨a, cc, rfl, -, hks⟩ := ET.On.iff.1 hat
  have hwz := wr_size _ deep hfit hg
  simp only [ET.fits] at hfit
  obtain ⟨⟨ho0, ho1⟩, ⟨hc0, hc1⟩, hdf, hkl, hfs⟩ := hfit
  have hof := good_op hg
  simp only [ET.op] at hof
  simp only [ET.good, Bool.and_eq_true, decide_eq_true_eq, ET.goods_iff] at hg
  have hkid := own_kids hg.1.1
  have hown := own_mk hg.1.1
  simp only [ET.size] at hsz hwz
  simp only [ET.kids] at hks
  obtain ⟨R, eR⟩ : ∃ R, R = (ET.mk 3 c d ks).wr := ⟨_, rfl⟩
  rw [← eR] at hwz ⊢
  have hR : R = wrOp 3 c d (ET.wrs ks) (ET.kws ks) := by rw [eR]; simp only [ET.wr]
  have HR := Lib.hid hR
  have hRz : R.size ≤ 60000000 := by omega
  have HF := Lib.hid (ET.fitss_iff.1 hfs)
  have HG := Lib.hid hg.2
  have HKS := Lib.hid hks
  have HOWN := Lib.hid hown
  have HDF := Lib.hid hdf
  have HKID := Lib.hid hkid
  have HCL := Lib.hid hcl
  have HSZ : Hid (∀ k ∈ ks, k.size ≤ 12000) := fun k hk => by have := ET.sizes_mem hk; omega
  have HK79 : Hid (∀ (k : ET), k ∈ ks → ∀ (ka : Option Addr) (kc : Nat) (W : World), Below w.heap.size w W → k.At W (.slice ka k.kids.length kc) → Calls Tryz.prog 79 #[.agg #[.int .u8 k.op, .slice ka k.kids.length kc, .int .i64 k.col, .int .u8 k.lit.kind, .bool k.lit.bool, .int .i64 k.lit.int, .string k.lit.text], .pointer (some ⟨bk, 0, none⟩), .pointer (some ⟨bw, 0, none⟩), .pointer (some ⟨bt, 0, none⟩)] W (StPost k.wr W)) := fun k hk ka kc W hb h => ih k hk (deep + 1) _ W (HSZ.out k hk) h (HF.out k hk) (HG.out k hk) (hcl.below hb)
  have HK : Hid (∀ (k : ET), k ∈ ks → ∀ (ka : Option Addr) (kc : Nat) (W : World), Below w.heap.size w W → k.At W (.slice ka k.kids.length kc) → Calls Tryz.prog 77 #[.agg #[.int .u8 k.op, .slice ka k.kids.length kc, .int .i64 k.col, .int .u8 k.lit.kind, .bool k.lit.bool, .int .i64 k.lit.int, .string k.lit.text], .pointer (some ⟨bw, 0, none⟩)] W (StPost k.kw W)) := fun k hk ka kc W hb h => kid_77 k (ih k hk) (deep + 1) _ W (HSZ.out k hk) h (HF.out k hk) (HG.out k hk) (hcl.below hb)
  have HKZ : Hid (∀ k ∈ ks, k.wr.size ≤ 60000000 ∧ k.kw.size ≤ 60000000) := fun k hk => by
    have := wr_size k (deep + 1) (HF.out k hk) (HG.out k hk)
    have := kw_size (HF.out k hk) (HG.out k hk)
    have := HSZ.out k hk
    omega
  clear hwz hfs hg hkid hown hks hat ih eR hR hdf hcl
  unfold ET.agg
  simp only [ET.op, ET.col, ET.lit, ET.kids]
  obtain ⟨K, eK⟩ : ∃ K, K = ks.length := ⟨_, rfl⟩
  rw [← eK] at hkl HKID ⊢
  have EK := Lib.hid eK
  clear eK
  have hl : ks.length = 1 := by
    have h := HKID.out
    unfold kidsOk at h
    rw [← EK.out]
    simpa using h
  obtain ⟨k, rfl⟩ : ∃ k, ks = [k] := List.length_eq_one_iff.1 hl
  have hK1 : K = 1 := EK.out.trans hl
  subst hK1
  obtain ⟨b, off, rfl, -, hats⟩ := HKS.out (by simp)
  obtain ⟨ka, kc, hkc, hkat⟩ := kids_get hats (i := 0) (k := k) rfl
  rw [Nat.zero_mul, Nat.add_zero] at hkc
  obtain ⟨V, eV⟩ : ∃ V, V = k.kw := ⟨_, rfl⟩
  have hz : V.size ≤ 60000000 := by rw [eV]; exact (HKZ.out k (by simp)).2
  have hct0 := fun (w1 : World) (h1 : Below w.heap.size w w1) (W : World) (hb : Below w1.heap.size w1 W) => HK.out k (by simp) ka kc W (h1.trans (hb.mono h1.size)) ((hkat.below h1).below hb)
  rw [← eV] at hct0
  have HCT0 := Lib.hid hct0
  have hRv : R = ((⟨#[45]⟩ : ByteArray) ++ V) := by rw [HR.out, eV]; simp [wrOp, ET.kws, ET.kw]
  have hs1 : ¬ (9223372036854775807 < (⟨#[45]⟩ : ByteArray).size + V.size) := by
    have q0 : (⟨#[45]⟩ : ByteArray).size = 1 := rfl
    try simp only [bsize_append]
    omega
  have hs1n0 : ¬ (9223372036854775807 < 1 + V.size) := by
    have q0 : (⟨#[45]⟩ : ByteArray).size = 1 := rfl
    try simp only [bsize_append]
    omega
  have HKC := Lib.hid hkc
  obtain ⟨H, eH⟩ : ∃ H, H = w.heap.size := ⟨_, rfl⟩
  have EH := Lib.hid eH
  subst hRv
  clear hats hkc hkat eV hct0 hl hRz eH
  go_enter Tryz.func79, Tryz.ntmps79
  go_wp2_with fail
  obtain ⟨w1, hw1⟩ : ∃ w1, w1 = w.alloc (.cells #[.int .u8 3, .slice (some ⟨b, off, none⟩) 1 cc, .int .i64 c, .int .u8 d.kind, .bool d.bool, .int .i64 d.int, .string d.text] 27) := ⟨_, rfl⟩
  have hb1 : Below w.heap.size w w1 := by rw [hw1]; exact one_below _ _
  have kh : w1.heap[H]? = some (.cells #[.int .u8 3, .slice (some ⟨b, off, none⟩) 1 cc, .int .i64 c, .int .u8 d.kind, .bool d.bool, .int .i64 d.int, .string d.text] 27 (0, 0)) := by rw [hw1, EH.out]; exact heap_alloc_new _ _
  rw [← hw1, ← EH.out]
  have HB1 := Lib.hid hb1
  have KH := Lib.hid kh
  clear hw1 hb1 kh
  have hSS : ∀ W, Below w1.heap.size w1 W → W.cell? ⟨bk, 0, none⟩ = some (.func (.func 77) #[] #[.pointer (some ⟨bw, 0, none⟩)]) ∧ W.cell? ⟨H, 1, none⟩ = some (.slice (some ⟨b, off, none⟩) 1 cc) ∧ W.cell? ⟨b, off, none⟩ = some (.int .u8 k.op) ∧ W.cell? ⟨b, off + 1, none⟩ = some (.slice ka k.kids.length kc) ∧ W.cell? ⟨b, off + 2, none⟩ = some (.int .i64 k.col) ∧ W.cell? ⟨b, off + 3, none⟩ = some (.int .u8 k.lit.kind) ∧ W.cell? ⟨b, off + 4, none⟩ = some (.bool k.lit.bool) ∧ W.cell? ⟨b, off + 5, none⟩ = some (.int .i64 k.lit.int) ∧ W.cell? ⟨b, off + 6, none⟩ = some (.string k.lit.text) := fun W hb => by
    have h1 := (HKC.out.below HB1.out).below hb
    have h2 := (HCL.out.below HB1.out).below hb
    exact ⟨h2.k, cell_of_heap ((hb.block H (lt_of_heap KH.out)).trans KH.out) rfl, h1.1, h1.2.1, h1.2.2.1, h1.2.2.2.1, h1.2.2.2.2.1, h1.2.2.2.2.2.1, h1.2.2.2.2.2.2⟩
  have HS := Lib.hid hSS
  have HCT := Lib.hid (HCT0.out w1 HB1.out)
  clear hSS
  have CB0 := Lib.hid (show Below w1.heap.size w1 w1.drew from ⟨rfl, rfl, rfl, Nat.le_refl _, fun _ _ => rfl⟩)
  refine wp_region_held_drew (S := fun W => W.cell? ⟨bk, 0, none⟩ = some (.func (.func 77) #[] #[.pointer (some ⟨bw, 0, none⟩)]) ∧ W.cell? ⟨H, 1, none⟩ = some (.slice (some ⟨b, off, none⟩) 1 cc) ∧ W.cell? ⟨b, off, none⟩ = some (.int .u8 k.op) ∧ W.cell? ⟨b, off + 1, none⟩ = some (.slice ka k.kids.length kc) ∧ W.cell? ⟨b, off + 2, none⟩ = some (.int .i64 k.col) ∧ W.cell? ⟨b, off + 3, none⟩ = some (.int .u8 k.lit.kind) ∧ W.cell? ⟨b, off + 4, none⟩ = some (.bool k.lit.bool) ∧ W.cell? ⟨b, off + 5, none⟩ = some (.int .i64 k.lit.int) ∧ W.cell? ⟨b, off + 6, none⟩ = some (.string k.lit.text)) (by kernel_rfl) (HS.out _ CB0.out) (fun hHeld => ?_)
  refine wpAnyH_take (i := 0) (oi := ⟨some 33, _, _, _, _, _⟩) (v := ?_) rfl (by kernel_rfl) (by kernel_rfl) (by kernel_rfl) (fun _ _ _ h => h) (Or.inl ⟨by rfl, ?_⟩) (by assumption) ?_; rotate_left; (intro w hSw; (try dsimp only at hSw); go_simp; (try with_reducible rfl)); (try simp only [Act.put, List.setIfInBounds_toArray, List.set_cons_zero, List.set_cons_succ])
  refine wpAnyH_take (i := 1) (oi := ⟨some 34, _, _, _, _, _⟩) (v := ?_) rfl (by kernel_rfl) (by kernel_rfl) (by kernel_rfl) (fun _ _ _ h => h) (Or.inl ⟨by rfl, ?_⟩) (by assumption) ?_; rotate_left; (intro w hSw; (try dsimp only at hSw); go_simp; (try with_reducible rfl)); (try simp only [Act.put, List.setIfInBounds_toArray, List.set_cons_zero, List.set_cons_succ])
  refine wpAnyH_take (i := 2) (oi := ⟨some 35, _, _, _, _, _⟩) (v := ?_) rfl (by kernel_rfl) (by kernel_rfl) (by kernel_rfl) (fun _ _ _ h => h) (Or.inl ⟨by rfl, ?_⟩) (by assumption) ?_; rotate_left; (intro w hSw; (try dsimp only at hSw); go_simp; (try with_reducible rfl)); (try simp only [Act.put, List.setIfInBounds_toArray, List.set_cons_zero, List.set_cons_succ])
  refine wpAnyH_take (i := 3) (oi := ⟨some 36, _, _, _, _, _⟩) (v := ?_) rfl (by kernel_rfl) (by kernel_rfl) (by kernel_rfl) (fun _ _ _ h => h) (Or.inl ⟨by rfl, ?_⟩) (by assumption) ?_; rotate_left; (intro w hSw; (try dsimp only at hSw); go_simp; (try with_reducible rfl)); (try simp only [Act.put, List.setIfInBounds_toArray, List.set_cons_zero, List.set_cons_succ])
  refine wpAnyH_take (i := 4) (oi := ⟨some 37, _, _, _, _, _⟩) (v := ?_) rfl (by kernel_rfl) (by kernel_rfl) (by kernel_rfl) (fun _ _ _ h => h) (Or.inl ⟨by rfl, ?_⟩) (by assumption) ?_; rotate_left; (intro w hSw; (try dsimp only at hSw); go_simp; (try with_reducible rfl)); (try simp only [Act.put, List.setIfInBounds_toArray, List.set_cons_zero, List.set_cons_succ])
  refine wpAnyH_ready (rs := [5]) (by kernel_rfl) (by simp) ?_
  refine AllReadyH.cons (o := ⟨some 38, _, _, _, _, _⟩) rfl (fun K9 hK9 => ?_) (AllReadyH.nil)
  go_simp
  go_at_call 77
  with_reducible refine (HCT.out _ CB0.out).mono ?_
  rintro ev V1 ⟨rfl, hbx⟩
  have CB1 := Lib.hid (CB0.out.trans (hbx.mono CB0.out.size))
  clear hbx
  go_wp2_with fail
  refine hK9.out _ _ (HS.out _ CB1.out) (fun hHeld => ?_)
  clear hK9 K9
  skip
  refine wpAnyH_take (i := 6) (oi := ⟨some 39, _, _, _, _, _⟩) (v := ?_) rfl (by kernel_rfl) (by kernel_rfl) (by kernel_rfl) (fun _ _ _ h => h) (Or.inl ⟨by rfl, ?_⟩) (by assumption) ?_; rotate_left; (intro w hSw; (try dsimp only at hSw); go_simp; (try with_reducible rfl)); (try simp only [Act.put, List.setIfInBounds_toArray, List.set_cons_zero, List.set_cons_succ])
  refine wpAnyH_take (i := 7) (oi := ⟨some 5, _, _, _, _, _⟩) (v := ?_) rfl (by kernel_rfl) (by kernel_rfl) (by kernel_rfl) (fun _ _ _ h => h) (Or.inl ⟨by rfl, ?_⟩) (by assumption) ?_; rotate_left; (intro w hSw; (try dsimp only at hSw); go_simp; (try with_reducible rfl)); (try simp only [Act.put, List.setIfInBounds_toArray, List.set_cons_zero, List.set_cons_succ])
  refine wpAnyH_done (by kernel_rfl) ?_ _
  go_wp2_with fail
  go_ret
  exact ⟨rfl, HB1.out.trans (CB1.out.mono HB1.out.size)⟩

set_option maxRecDepth 100000 in
set_option maxHeartbeats 4000000 in
theorem w79_10 {bk bw bt tb : Nat} (c : Int) (d : Dat) (ks : List ET) (ih : ∀ k ∈ ks, Wr79 bk bw bt tb k) : Wr79 bk bw bt tb (.mk 10 c d ks) := by
  intro deep kv w hsz hat hfit hg hcl
  obtain ⟨a, cc, rfl, -, hks⟩ := ET.On.iff.1 hat
  have hwz := wr_size _ deep hfit hg
  simp only [ET.fits] at hfit
  obtain ⟨⟨ho0, ho1⟩, ⟨hc0, hc1⟩, hdf, hkl, hfs⟩ := hfit
  have hof := good_op hg
  simp only [ET.op] at hof
  simp only [ET.good, Bool.and_eq_true, decide_eq_true_eq, ET.goods_iff] at hg
  have hkid := own_kids hg.1.1
  have hown := own_mk hg.1.1
  simp only [ET.size] at hsz hwz
  simp only [ET.kids] at hks
  obtain ⟨R, eR⟩ : ∃ R, R = (ET.mk 10 c d ks).wr := ⟨_, rfl⟩
  rw [← eR] at hwz ⊢
  have hR : R = wrOp 10 c d (ET.wrs ks) (ET.kws ks) := by rw [eR]; simp only [ET.wr]
  have HR := Lib.hid hR
  have hRz : R.size ≤ 60000000 := by omega
  have HF := Lib.hid (ET.fitss_iff.1 hfs)
  have HG := Lib.hid hg.2
  have HKS := Lib.hid hks
  have HOWN := Lib.hid hown
  have HDF := Lib.hid hdf
  have HKID := Lib.hid hkid
  have HCL := Lib.hid hcl
  have HSZ : Hid (∀ k ∈ ks, k.size ≤ 12000) := fun k hk => by have := ET.sizes_mem hk; omega
  have HK79 : Hid (∀ (k : ET), k ∈ ks → ∀ (ka : Option Addr) (kc : Nat) (W : World), Below w.heap.size w W → k.At W (.slice ka k.kids.length kc) → Calls Tryz.prog 79 #[.agg #[.int .u8 k.op, .slice ka k.kids.length kc, .int .i64 k.col, .int .u8 k.lit.kind, .bool k.lit.bool, .int .i64 k.lit.int, .string k.lit.text], .pointer (some ⟨bk, 0, none⟩), .pointer (some ⟨bw, 0, none⟩), .pointer (some ⟨bt, 0, none⟩)] W (StPost k.wr W)) := fun k hk ka kc W hb h => ih k hk (deep + 1) _ W (HSZ.out k hk) h (HF.out k hk) (HG.out k hk) (hcl.below hb)
  have HK : Hid (∀ (k : ET), k ∈ ks → ∀ (ka : Option Addr) (kc : Nat) (W : World), Below w.heap.size w W → k.At W (.slice ka k.kids.length kc) → Calls Tryz.prog 77 #[.agg #[.int .u8 k.op, .slice ka k.kids.length kc, .int .i64 k.col, .int .u8 k.lit.kind, .bool k.lit.bool, .int .i64 k.lit.int, .string k.lit.text], .pointer (some ⟨bw, 0, none⟩)] W (StPost k.kw W)) := fun k hk ka kc W hb h => kid_77 k (ih k hk) (deep + 1) _ W (HSZ.out k hk) h (HF.out k hk) (HG.out k hk) (hcl.below hb)
  have HKZ : Hid (∀ k ∈ ks, k.wr.size ≤ 60000000 ∧ k.kw.size ≤ 60000000) := fun k hk => by
    have := wr_size k (deep + 1) (HF.out k hk) (HG.out k hk)
    have := kw_size (HF.out k hk) (HG.out k hk)
    have := HSZ.out k hk
    omega
  clear hwz hfs hg hkid hown hks hat ih eR hR hdf hcl
  unfold ET.agg
  simp only [ET.op, ET.col, ET.lit, ET.kids]
  obtain ⟨K, eK⟩ : ∃ K, K = ks.length := ⟨_, rfl⟩
  rw [← eK] at hkl HKID ⊢
  have EK := Lib.hid eK
  clear eK
  have hl : ks.length = 1 := by
    have h := HKID.out
    unfold kidsOk at h
    rw [← EK.out]
    simpa using h
  obtain ⟨k, rfl⟩ : ∃ k, ks = [k] := List.length_eq_one_iff.1 hl
  have hK1 : K = 1 := EK.out.trans hl
  subst hK1
  obtain ⟨b, off, rfl, -, hats⟩ := HKS.out (by simp)
  obtain ⟨ka, kc, hkc, hkat⟩ := kids_get hats (i := 0) (k := k) rfl
  rw [Nat.zero_mul, Nat.add_zero] at hkc
  obtain ⟨V, eV⟩ : ∃ V, V = k.wr := ⟨_, rfl⟩
  have hz : V.size ≤ 60000000 := by rw [eV]; exact (HKZ.out k (by simp)).1
  have hct0 := fun (w1 : World) (h1 : Below w.heap.size w w1) (W : World) (hb : Below w1.heap.size w1 W) => HK79.out k (by simp) ka kc W (h1.trans (hb.mono h1.size)) ((hkat.below h1).below hb)
  rw [← eV] at hct0
  have HCT0 := Lib.hid hct0
  have hRv : R = (((⟨#[108, 101, 110, 103, 116, 104, 40]⟩ : ByteArray) ++ V) ++ (⟨#[41]⟩ : ByteArray)) := by rw [HR.out, eV]; simp [wrOp, ET.wrs]
  have hs1 : ¬ (9223372036854775807 < (⟨#[108, 101, 110, 103, 116, 104, 40]⟩ : ByteArray).size + V.size) := by
    have q0 : (⟨#[108, 101, 110, 103, 116, 104, 40]⟩ : ByteArray).size = 7 := rfl
    try simp only [bsize_append]
    omega
  have hs1n0 : ¬ (9223372036854775807 < 7 + V.size) := by
    have q0 : (⟨#[108, 101, 110, 103, 116, 104, 40]⟩ : ByteArray).size = 7 := rfl
    try simp only [bsize_append]
    omega
  have hs2 : ¬ (9223372036854775807 < ((⟨#[108, 101, 110, 103, 116, 104, 40]⟩ : ByteArray) ++ V).size + (⟨#[41]⟩ : ByteArray).size) := by
    have q0 : (⟨#[108, 101, 110, 103, 116, 104, 40]⟩ : ByteArray).size = 7 := rfl
    have q1 : (⟨#[41]⟩ : ByteArray).size = 1 := rfl
    try simp only [bsize_append]
    omega
  have hs2n0 : ¬ (9223372036854775807 < ((⟨#[108, 101, 110, 103, 116, 104, 40]⟩ : ByteArray) ++ V).size + 1) := by
    have q0 : (⟨#[108, 101, 110, 103, 116, 104, 40]⟩ : ByteArray).size = 7 := rfl
    have q1 : (⟨#[41]⟩ : ByteArray).size = 1 := rfl
    try simp only [bsize_append]
    omega
  have hs2n1 : ¬ (9223372036854775807 < 7 + V.size + 1) := by
    have q0 : (⟨#[108, 101, 110, 103, 116, 104, 40]⟩ : ByteArray).size = 7 := rfl
    have q1 : (⟨#[41]⟩ : ByteArray).size = 1 := rfl
    try simp only [bsize_append]
    omega
  have HKC := Lib.hid hkc
  obtain ⟨H, eH⟩ : ∃ H, H = w.heap.size := ⟨_, rfl⟩
  have EH := Lib.hid eH
  subst hRv
  clear hats hkc hkat eV hct0 hl hRz eH
  go_enter Tryz.func79, Tryz.ntmps79
  go_wp2_with fail
  obtain ⟨w1, hw1⟩ : ∃ w1, w1 = w.alloc (.cells #[.int .u8 10, .slice (some ⟨b, off, none⟩) 1 cc, .int .i64 c, .int .u8 d.kind, .bool d.bool, .int .i64 d.int, .string d.text] 27) := ⟨_, rfl⟩
  have hb1 : Below w.heap.size w w1 := by rw [hw1]; exact one_below _ _
  have kh : w1.heap[H]? = some (.cells #[.int .u8 10, .slice (some ⟨b, off, none⟩) 1 cc, .int .i64 c, .int .u8 d.kind, .bool d.bool, .int .i64 d.int, .string d.text] 27 (0, 0)) := by rw [hw1, EH.out]; exact heap_alloc_new _ _
  rw [← hw1, ← EH.out]
  have HB1 := Lib.hid hb1
  have KH := Lib.hid kh
  clear hw1 hb1 kh
  have hSS : ∀ W, Below w1.heap.size w1 W → W.cell? ⟨bw, 0, none⟩ = some (.func (.func 79) #[] #[.pointer (some ⟨bk, 0, none⟩), .pointer (some ⟨bw, 0, none⟩), .pointer (some ⟨bt, 0, none⟩)]) ∧ W.cell? ⟨H, 1, none⟩ = some (.slice (some ⟨b, off, none⟩) 1 cc) ∧ W.cell? ⟨b, off, none⟩ = some (.int .u8 k.op) ∧ W.cell? ⟨b, off + 1, none⟩ = some (.slice ka k.kids.length kc) ∧ W.cell? ⟨b, off + 2, none⟩ = some (.int .i64 k.col) ∧ W.cell? ⟨b, off + 3, none⟩ = some (.int .u8 k.lit.kind) ∧ W.cell? ⟨b, off + 4, none⟩ = some (.bool k.lit.bool) ∧ W.cell? ⟨b, off + 5, none⟩ = some (.int .i64 k.lit.int) ∧ W.cell? ⟨b, off + 6, none⟩ = some (.string k.lit.text) := fun W hb => by
    have h1 := (HKC.out.below HB1.out).below hb
    have h2 := (HCL.out.below HB1.out).below hb
    exact ⟨h2.wr, cell_of_heap ((hb.block H (lt_of_heap KH.out)).trans KH.out) rfl, h1.1, h1.2.1, h1.2.2.1, h1.2.2.2.1, h1.2.2.2.2.1, h1.2.2.2.2.2.1, h1.2.2.2.2.2.2⟩
  have HS := Lib.hid hSS
  have HCT := Lib.hid (HCT0.out w1 HB1.out)
  clear hSS
  have CB0 := Lib.hid (show Below w1.heap.size w1 w1.drew from ⟨rfl, rfl, rfl, Nat.le_refl _, fun _ _ => rfl⟩)
  refine wp_region_held_drew (S := fun W => W.cell? ⟨bw, 0, none⟩ = some (.func (.func 79) #[] #[.pointer (some ⟨bk, 0, none⟩), .pointer (some ⟨bw, 0, none⟩), .pointer (some ⟨bt, 0, none⟩)]) ∧ W.cell? ⟨H, 1, none⟩ = some (.slice (some ⟨b, off, none⟩) 1 cc) ∧ W.cell? ⟨b, off, none⟩ = some (.int .u8 k.op) ∧ W.cell? ⟨b, off + 1, none⟩ = some (.slice ka k.kids.length kc) ∧ W.cell? ⟨b, off + 2, none⟩ = some (.int .i64 k.col) ∧ W.cell? ⟨b, off + 3, none⟩ = some (.int .u8 k.lit.kind) ∧ W.cell? ⟨b, off + 4, none⟩ = some (.bool k.lit.bool) ∧ W.cell? ⟨b, off + 5, none⟩ = some (.int .i64 k.lit.int) ∧ W.cell? ⟨b, off + 6, none⟩ = some (.string k.lit.text)) (by kernel_rfl) (HS.out _ CB0.out) (fun hHeld => ?_)
  refine wpAnyH_take (i := 0) (oi := ⟨some 42, _, _, _, _, _⟩) (v := ?_) rfl (by kernel_rfl) (by kernel_rfl) (by kernel_rfl) (fun _ _ _ h => h) (Or.inl ⟨by rfl, ?_⟩) (by assumption) ?_; rotate_left; (intro w hSw; (try dsimp only at hSw); go_simp; (try with_reducible rfl)); (try simp only [Act.put, List.setIfInBounds_toArray, List.set_cons_zero, List.set_cons_succ])
  refine wpAnyH_take (i := 1) (oi := ⟨some 43, _, _, _, _, _⟩) (v := ?_) rfl (by kernel_rfl) (by kernel_rfl) (by kernel_rfl) (fun _ _ _ h => h) (Or.inl ⟨by rfl, ?_⟩) (by assumption) ?_; rotate_left; (intro w hSw; (try dsimp only at hSw); go_simp; (try with_reducible rfl)); (try simp only [Act.put, List.setIfInBounds_toArray, List.set_cons_zero, List.set_cons_succ])
  refine wpAnyH_take (i := 2) (oi := ⟨some 44, _, _, _, _, _⟩) (v := ?_) rfl (by kernel_rfl) (by kernel_rfl) (by kernel_rfl) (fun _ _ _ h => h) (Or.inl ⟨by rfl, ?_⟩) (by assumption) ?_; rotate_left; (intro w hSw; (try dsimp only at hSw); go_simp; (try with_reducible rfl)); (try simp only [Act.put, List.setIfInBounds_toArray, List.set_cons_zero, List.set_cons_succ])
  refine wpAnyH_take (i := 3) (oi := ⟨some 45, _, _, _, _, _⟩) (v := ?_) rfl (by kernel_rfl) (by kernel_rfl) (by kernel_rfl) (fun _ _ _ h => h) (Or.inl ⟨by rfl, ?_⟩) (by assumption) ?_; rotate_left; (intro w hSw; (try dsimp only at hSw); go_simp; (try with_reducible rfl)); (try simp only [Act.put, List.setIfInBounds_toArray, List.set_cons_zero, List.set_cons_succ])
  refine wpAnyH_take (i := 4) (oi := ⟨some 46, _, _, _, _, _⟩) (v := ?_) rfl (by kernel_rfl) (by kernel_rfl) (by kernel_rfl) (fun _ _ _ h => h) (Or.inl ⟨by rfl, ?_⟩) (by assumption) ?_; rotate_left; (intro w hSw; (try dsimp only at hSw); go_simp; (try with_reducible rfl)); (try simp only [Act.put, List.setIfInBounds_toArray, List.set_cons_zero, List.set_cons_succ])
  refine wpAnyH_ready (rs := [5]) (by kernel_rfl) (by simp) ?_
  refine AllReadyH.cons (o := ⟨some 47, _, _, _, _, _⟩) rfl (fun K9 hK9 => ?_) (AllReadyH.nil)
  go_simp
  go_at_call 79
  with_reducible refine (HCT.out _ CB0.out).mono ?_
  rintro ev V1 ⟨rfl, hbx⟩
  have CB1 := Lib.hid (CB0.out.trans (hbx.mono CB0.out.size))
  clear hbx
  go_wp2_with fail
  refine hK9.out _ _ (HS.out _ CB1.out) (fun hHeld => ?_)
  clear hK9 K9
  skip
  refine wpAnyH_take (i := 6) (oi := ⟨some 48, _, _, _, _, _⟩) (v := ?_) rfl (by kernel_rfl) (by kernel_rfl) (by kernel_rfl) (fun _ _ _ h => h) (Or.inl ⟨by rfl, ?_⟩) (by assumption) ?_; rotate_left; (intro w hSw; (try dsimp only at hSw); go_simp; (try with_reducible rfl)); (try simp only [Act.put, List.setIfInBounds_toArray, List.set_cons_zero, List.set_cons_succ])
  refine wpAnyH_take (i := 7) (oi := ⟨some 49, _, _, _, _, _⟩) (v := ?_) rfl (by kernel_rfl) (by kernel_rfl) (by kernel_rfl) (fun _ _ _ h => h) (Or.inl ⟨by rfl, ?_⟩) (by assumption) ?_; rotate_left; (intro w hSw; (try dsimp only at hSw); go_simp; (try with_reducible rfl)); (try simp only [Act.put, List.setIfInBounds_toArray, List.set_cons_zero, List.set_cons_succ])
  refine wpAnyH_take (i := 8) (oi := ⟨some 5, _, _, _, _, _⟩) (v := ?_) rfl (by kernel_rfl) (by kernel_rfl) (by kernel_rfl) (fun _ _ _ h => h) (Or.inl ⟨by rfl, ?_⟩) (by assumption) ?_; rotate_left; (intro w hSw; (try dsimp only at hSw); go_simp; (try with_reducible rfl)); (try simp only [Act.put, List.setIfInBounds_toArray, List.set_cons_zero, List.set_cons_succ])
  refine wpAnyH_done (by kernel_rfl) ?_ _
  go_wp2_with fail
  go_ret
  exact ⟨rfl, HB1.out.trans (CB1.out.mono HB1.out.size)⟩

set_option maxRecDepth 100000 in
set_option maxHeartbeats 4000000 in
theorem w79_17 {bk bw bt tb : Nat} (c : Int) (d : Dat) (ks : List ET) (ih : ∀ k ∈ ks, Wr79 bk bw bt tb k) : Wr79 bk bw bt tb (.mk 17 c d ks) := by
  intro deep kv w hsz hat hfit hg hcl
  obtain ⟨a, cc, rfl, -, hks⟩ := ET.On.iff.1 hat
  have hwz := wr_size _ deep hfit hg
  simp only [ET.fits] at hfit
  obtain ⟨⟨ho0, ho1⟩, ⟨hc0, hc1⟩, hdf, hkl, hfs⟩ := hfit
  have hof := good_op hg
  simp only [ET.op] at hof
  simp only [ET.good, Bool.and_eq_true, decide_eq_true_eq, ET.goods_iff] at hg
  have hkid := own_kids hg.1.1
  have hown := own_mk hg.1.1
  simp only [ET.size] at hsz hwz
  simp only [ET.kids] at hks
  obtain ⟨R, eR⟩ : ∃ R, R = (ET.mk 17 c d ks).wr := ⟨_, rfl⟩
  rw [← eR] at hwz ⊢
  have hR : R = wrOp 17 c d (ET.wrs ks) (ET.kws ks) := by rw [eR]; simp only [ET.wr]
  have HR := Lib.hid hR
  have hRz : R.size ≤ 60000000 := by omega
  have HF := Lib.hid (ET.fitss_iff.1 hfs)
  have HG := Lib.hid hg.2
  have HKS := Lib.hid hks
  have HOWN := Lib.hid hown
  have HDF := Lib.hid hdf
  have HKID := Lib.hid hkid
  have HCL := Lib.hid hcl
  have HSZ : Hid (∀ k ∈ ks, k.size ≤ 12000) := fun k hk => by have := ET.sizes_mem hk; omega
  have HK79 : Hid (∀ (k : ET), k ∈ ks → ∀ (ka : Option Addr) (kc : Nat) (W : World), Below w.heap.size w W → k.At W (.slice ka k.kids.length kc) → Calls Tryz.prog 79 #[.agg #[.int .u8 k.op, .slice ka k.kids.length kc, .int .i64 k.col, .int .u8 k.lit.kind, .bool k.lit.bool, .int .i64 k.lit.int, .string k.lit.text], .pointer (some ⟨bk, 0, none⟩), .pointer (some ⟨bw, 0, none⟩), .pointer (some ⟨bt, 0, none⟩)] W (StPost k.wr W)) := fun k hk ka kc W hb h => ih k hk (deep + 1) _ W (HSZ.out k hk) h (HF.out k hk) (HG.out k hk) (hcl.below hb)
  have HK : Hid (∀ (k : ET), k ∈ ks → ∀ (ka : Option Addr) (kc : Nat) (W : World), Below w.heap.size w W → k.At W (.slice ka k.kids.length kc) → Calls Tryz.prog 77 #[.agg #[.int .u8 k.op, .slice ka k.kids.length kc, .int .i64 k.col, .int .u8 k.lit.kind, .bool k.lit.bool, .int .i64 k.lit.int, .string k.lit.text], .pointer (some ⟨bw, 0, none⟩)] W (StPost k.kw W)) := fun k hk ka kc W hb h => kid_77 k (ih k hk) (deep + 1) _ W (HSZ.out k hk) h (HF.out k hk) (HG.out k hk) (hcl.below hb)
  have HKZ : Hid (∀ k ∈ ks, k.wr.size ≤ 60000000 ∧ k.kw.size ≤ 60000000) := fun k hk => by
    have := wr_size k (deep + 1) (HF.out k hk) (HG.out k hk)
    have := kw_size (HF.out k hk) (HG.out k hk)
    have := HSZ.out k hk
    omega
  clear hwz hfs hg hkid hown hks hat ih eR hR hdf hcl
  unfold ET.agg
  simp only [ET.op, ET.col, ET.lit, ET.kids]
  obtain ⟨K, eK⟩ : ∃ K, K = ks.length := ⟨_, rfl⟩
  rw [← eK] at hkl HKID ⊢
  have EK := Lib.hid eK
  clear eK
  have hl : ks.length = 1 := by
    have h := HKID.out
    unfold kidsOk at h
    rw [← EK.out]
    simpa using h
  obtain ⟨k, rfl⟩ : ∃ k, ks = [k] := List.length_eq_one_iff.1 hl
  have hK1 : K = 1 := EK.out.trans hl
  subst hK1
  obtain ⟨b, off, rfl, -, hats⟩ := HKS.out (by simp)
  obtain ⟨ka, kc, hkc, hkat⟩ := kids_get hats (i := 0) (k := k) rfl
  rw [Nat.zero_mul, Nat.add_zero] at hkc
  obtain ⟨V, eV⟩ : ∃ V, V = k.kw := ⟨_, rfl⟩
  have hz : V.size ≤ 60000000 := by rw [eV]; exact (HKZ.out k (by simp)).2
  have hct0 := fun (w1 : World) (h1 : Below w.heap.size w w1) (W : World) (hb : Below w1.heap.size w1 W) => HK.out k (by simp) ka kc W (h1.trans (hb.mono h1.size)) ((hkat.below h1).below hb)
  rw [← eV] at hct0
  have HCT0 := Lib.hid hct0
  have hRv : R = ((⟨#[110, 111, 116, 32]⟩ : ByteArray) ++ V) := by rw [HR.out, eV]; simp [wrOp, ET.kws, ET.kw]
  have hs1 : ¬ (9223372036854775807 < (⟨#[110, 111, 116, 32]⟩ : ByteArray).size + V.size) := by
    have q0 : (⟨#[110, 111, 116, 32]⟩ : ByteArray).size = 4 := rfl
    try simp only [bsize_append]
    omega
  have hs1n0 : ¬ (9223372036854775807 < 4 + V.size) := by
    have q0 : (⟨#[110, 111, 116, 32]⟩ : ByteArray).size = 4 := rfl
    try simp only [bsize_append]
    omega
  have HKC := Lib.hid hkc
  obtain ⟨H, eH⟩ : ∃ H, H = w.heap.size := ⟨_, rfl⟩
  have EH := Lib.hid eH
  subst hRv
  clear hats hkc hkat eV hct0 hl hRz eH
  go_enter Tryz.func79, Tryz.ntmps79
  go_wp2_with fail
  obtain ⟨w1, hw1⟩ : ∃ w1, w1 = w.alloc (.cells #[.int .u8 17, .slice (some ⟨b, off, none⟩) 1 cc, .int .i64 c, .int .u8 d.kind, .bool d.bool, .int .i64 d.int, .string d.text] 27) := ⟨_, rfl⟩
  have hb1 : Below w.heap.size w w1 := by rw [hw1]; exact one_below _ _
  have kh : w1.heap[H]? = some (.cells #[.int .u8 17, .slice (some ⟨b, off, none⟩) 1 cc, .int .i64 c, .int .u8 d.kind, .bool d.bool, .int .i64 d.int, .string d.text] 27 (0, 0)) := by rw [hw1, EH.out]; exact heap_alloc_new _ _
  rw [← hw1, ← EH.out]
  have HB1 := Lib.hid hb1
  have KH := Lib.hid kh
  clear hw1 hb1 kh
  have hSS : ∀ W, Below w1.heap.size w1 W → W.cell? ⟨bk, 0, none⟩ = some (.func (.func 77) #[] #[.pointer (some ⟨bw, 0, none⟩)]) ∧ W.cell? ⟨H, 1, none⟩ = some (.slice (some ⟨b, off, none⟩) 1 cc) ∧ W.cell? ⟨b, off, none⟩ = some (.int .u8 k.op) ∧ W.cell? ⟨b, off + 1, none⟩ = some (.slice ka k.kids.length kc) ∧ W.cell? ⟨b, off + 2, none⟩ = some (.int .i64 k.col) ∧ W.cell? ⟨b, off + 3, none⟩ = some (.int .u8 k.lit.kind) ∧ W.cell? ⟨b, off + 4, none⟩ = some (.bool k.lit.bool) ∧ W.cell? ⟨b, off + 5, none⟩ = some (.int .i64 k.lit.int) ∧ W.cell? ⟨b, off + 6, none⟩ = some (.string k.lit.text) := fun W hb => by
    have h1 := (HKC.out.below HB1.out).below hb
    have h2 := (HCL.out.below HB1.out).below hb
    exact ⟨h2.k, cell_of_heap ((hb.block H (lt_of_heap KH.out)).trans KH.out) rfl, h1.1, h1.2.1, h1.2.2.1, h1.2.2.2.1, h1.2.2.2.2.1, h1.2.2.2.2.2.1, h1.2.2.2.2.2.2⟩
  have HS := Lib.hid hSS
  have HCT := Lib.hid (HCT0.out w1 HB1.out)
  clear hSS
  have CB0 := Lib.hid (show Below w1.heap.size w1 w1.drew from ⟨rfl, rfl, rfl, Nat.le_refl _, fun _ _ => rfl⟩)
  refine wp_region_held_drew (S := fun W => W.cell? ⟨bk, 0, none⟩ = some (.func (.func 77) #[] #[.pointer (some ⟨bw, 0, none⟩)]) ∧ W.cell? ⟨H, 1, none⟩ = some (.slice (some ⟨b, off, none⟩) 1 cc) ∧ W.cell? ⟨b, off, none⟩ = some (.int .u8 k.op) ∧ W.cell? ⟨b, off + 1, none⟩ = some (.slice ka k.kids.length kc) ∧ W.cell? ⟨b, off + 2, none⟩ = some (.int .i64 k.col) ∧ W.cell? ⟨b, off + 3, none⟩ = some (.int .u8 k.lit.kind) ∧ W.cell? ⟨b, off + 4, none⟩ = some (.bool k.lit.bool) ∧ W.cell? ⟨b, off + 5, none⟩ = some (.int .i64 k.lit.int) ∧ W.cell? ⟨b, off + 6, none⟩ = some (.string k.lit.text)) (by kernel_rfl) (HS.out _ CB0.out) (fun hHeld => ?_)
  refine wpAnyH_take (i := 0) (oi := ⟨some 52, _, _, _, _, _⟩) (v := ?_) rfl (by kernel_rfl) (by kernel_rfl) (by kernel_rfl) (fun _ _ _ h => h) (Or.inl ⟨by rfl, ?_⟩) (by assumption) ?_; rotate_left; (intro w hSw; (try dsimp only at hSw); go_simp; (try with_reducible rfl)); (try simp only [Act.put, List.setIfInBounds_toArray, List.set_cons_zero, List.set_cons_succ])
  refine wpAnyH_take (i := 1) (oi := ⟨some 53, _, _, _, _, _⟩) (v := ?_) rfl (by kernel_rfl) (by kernel_rfl) (by kernel_rfl) (fun _ _ _ h => h) (Or.inl ⟨by rfl, ?_⟩) (by assumption) ?_; rotate_left; (intro w hSw; (try dsimp only at hSw); go_simp; (try with_reducible rfl)); (try simp only [Act.put, List.setIfInBounds_toArray, List.set_cons_zero, List.set_cons_succ])
  refine wpAnyH_take (i := 2) (oi := ⟨some 54, _, _, _, _, _⟩) (v := ?_) rfl (by kernel_rfl) (by kernel_rfl) (by kernel_rfl) (fun _ _ _ h => h) (Or.inl ⟨by rfl, ?_⟩) (by assumption) ?_; rotate_left; (intro w hSw; (try dsimp only at hSw); go_simp; (try with_reducible rfl)); (try simp only [Act.put, List.setIfInBounds_toArray, List.set_cons_zero, List.set_cons_succ])
  refine wpAnyH_take (i := 3) (oi := ⟨some 55, _, _, _, _, _⟩) (v := ?_) rfl (by kernel_rfl) (by kernel_rfl) (by kernel_rfl) (fun _ _ _ h => h) (Or.inl ⟨by rfl, ?_⟩) (by assumption) ?_; rotate_left; (intro w hSw; (try dsimp only at hSw); go_simp; (try with_reducible rfl)); (try simp only [Act.put, List.setIfInBounds_toArray, List.set_cons_zero, List.set_cons_succ])
  refine wpAnyH_take (i := 4) (oi := ⟨some 56, _, _, _, _, _⟩) (v := ?_) rfl (by kernel_rfl) (by kernel_rfl) (by kernel_rfl) (fun _ _ _ h => h) (Or.inl ⟨by rfl, ?_⟩) (by assumption) ?_; rotate_left; (intro w hSw; (try dsimp only at hSw); go_simp; (try with_reducible rfl)); (try simp only [Act.put, List.setIfInBounds_toArray, List.set_cons_zero, List.set_cons_succ])
  refine wpAnyH_ready (rs := [5]) (by kernel_rfl) (by simp) ?_
  refine AllReadyH.cons (o := ⟨some 57, _, _, _, _, _⟩) rfl (fun K9 hK9 => ?_) (AllReadyH.nil)
  go_simp
  go_at_call 77
  with_reducible refine (HCT.out _ CB0.out).mono ?_
  rintro ev V1 ⟨rfl, hbx⟩
  have CB1 := Lib.hid (CB0.out.trans (hbx.mono CB0.out.size))
  clear hbx
  go_wp2_with fail
  refine hK9.out _ _ (HS.out _ CB1.out) (fun hHeld => ?_)
  clear hK9 K9
  skip
  refine wpAnyH_take (i := 6) (oi := ⟨some 58, _, _, _, _, _⟩) (v := ?_) rfl (by kernel_rfl) (by kernel_rfl) (by kernel_rfl) (fun _ _ _ h => h) (Or.inl ⟨by rfl, ?_⟩) (by assumption) ?_; rotate_left; (intro w hSw; (try dsimp only at hSw); go_simp; (try with_reducible rfl)); (try simp only [Act.put, List.setIfInBounds_toArray, List.set_cons_zero, List.set_cons_succ])
  refine wpAnyH_take (i := 7) (oi := ⟨some 5, _, _, _, _, _⟩) (v := ?_) rfl (by kernel_rfl) (by kernel_rfl) (by kernel_rfl) (fun _ _ _ h => h) (Or.inl ⟨by rfl, ?_⟩) (by assumption) ?_; rotate_left; (intro w hSw; (try dsimp only at hSw); go_simp; (try with_reducible rfl)); (try simp only [Act.put, List.setIfInBounds_toArray, List.set_cons_zero, List.set_cons_succ])
  refine wpAnyH_done (by kernel_rfl) ?_ _
  go_wp2_with fail
  go_ret
  exact ⟨rfl, HB1.out.trans (CB1.out.mono HB1.out.size)⟩

set_option maxRecDepth 100000 in
set_option maxHeartbeats 4000000 in
theorem w79_20 {bk bw bt tb : Nat} (c : Int) (d : Dat) (ks : List ET) (ih : ∀ k ∈ ks, Wr79 bk bw bt tb k) : Wr79 bk bw bt tb (.mk 20 c d ks) := by
  intro deep kv w hsz hat hfit hg hcl
  obtain ⟨a, cc, rfl, -, hks⟩ := ET.On.iff.1 hat
  have hwz := wr_size _ deep hfit hg
  simp only [ET.fits] at hfit
  obtain ⟨⟨ho0, ho1⟩, ⟨hc0, hc1⟩, hdf, hkl, hfs⟩ := hfit
  have hof := good_op hg
  simp only [ET.op] at hof
  simp only [ET.good, Bool.and_eq_true, decide_eq_true_eq, ET.goods_iff] at hg
  have hkid := own_kids hg.1.1
  have hown := own_mk hg.1.1
  simp only [ET.size] at hsz hwz
  simp only [ET.kids] at hks
  obtain ⟨R, eR⟩ : ∃ R, R = (ET.mk 20 c d ks).wr := ⟨_, rfl⟩
  rw [← eR] at hwz ⊢
  have hR : R = wrOp 20 c d (ET.wrs ks) (ET.kws ks) := by rw [eR]; simp only [ET.wr]
  have HR := Lib.hid hR
  have hRz : R.size ≤ 60000000 := by omega
  have HF := Lib.hid (ET.fitss_iff.1 hfs)
  have HG := Lib.hid hg.2
  have HKS := Lib.hid hks
  have HOWN := Lib.hid hown
  have HDF := Lib.hid hdf
  have HKID := Lib.hid hkid
  have HCL := Lib.hid hcl
  have HSZ : Hid (∀ k ∈ ks, k.size ≤ 12000) := fun k hk => by have := ET.sizes_mem hk; omega
  have HK79 : Hid (∀ (k : ET), k ∈ ks → ∀ (ka : Option Addr) (kc : Nat) (W : World), Below w.heap.size w W → k.At W (.slice ka k.kids.length kc) → Calls Tryz.prog 79 #[.agg #[.int .u8 k.op, .slice ka k.kids.length kc, .int .i64 k.col, .int .u8 k.lit.kind, .bool k.lit.bool, .int .i64 k.lit.int, .string k.lit.text], .pointer (some ⟨bk, 0, none⟩), .pointer (some ⟨bw, 0, none⟩), .pointer (some ⟨bt, 0, none⟩)] W (StPost k.wr W)) := fun k hk ka kc W hb h => ih k hk (deep + 1) _ W (HSZ.out k hk) h (HF.out k hk) (HG.out k hk) (hcl.below hb)
  have HK : Hid (∀ (k : ET), k ∈ ks → ∀ (ka : Option Addr) (kc : Nat) (W : World), Below w.heap.size w W → k.At W (.slice ka k.kids.length kc) → Calls Tryz.prog 77 #[.agg #[.int .u8 k.op, .slice ka k.kids.length kc, .int .i64 k.col, .int .u8 k.lit.kind, .bool k.lit.bool, .int .i64 k.lit.int, .string k.lit.text], .pointer (some ⟨bw, 0, none⟩)] W (StPost k.kw W)) := fun k hk ka kc W hb h => kid_77 k (ih k hk) (deep + 1) _ W (HSZ.out k hk) h (HF.out k hk) (HG.out k hk) (hcl.below hb)
  have HKZ : Hid (∀ k ∈ ks, k.wr.size ≤ 60000000 ∧ k.kw.size ≤ 60000000) := fun k hk => by
    have := wr_size k (deep + 1) (HF.out k hk) (HG.out k hk)
    have := kw_size (HF.out k hk) (HG.out k hk)
    have := HSZ.out k hk
    omega
  clear hwz hfs hg hkid hown hks hat ih eR hR hdf hcl
  unfold ET.agg
  simp only [ET.op, ET.col, ET.lit, ET.kids]
  obtain ⟨K, eK⟩ : ∃ K, K = ks.length := ⟨_, rfl⟩
  rw [← eK] at hkl HKID ⊢
  have EK := Lib.hid eK
  clear eK
  have hl : ks.length = 1 := by
    have h := HKID.out
    unfold kidsOk at h
    rw [← EK.out]
    simpa using h
  obtain ⟨k, rfl⟩ : ∃ k, ks = [k] := List.length_eq_one_iff.1 hl
  have hK1 : K = 1 := EK.out.trans hl
  subst hK1
  obtain ⟨b, off, rfl, -, hats⟩ := HKS.out (by simp)
  obtain ⟨ka, kc, hkc, hkat⟩ := kids_get hats (i := 0) (k := k) rfl
  rw [Nat.zero_mul, Nat.add_zero] at hkc
  obtain ⟨V, eV⟩ : ∃ V, V = k.kw := ⟨_, rfl⟩
  have hz : V.size ≤ 60000000 := by rw [eV]; exact (HKZ.out k (by simp)).2
  have hct0 := fun (w1 : World) (h1 : Below w.heap.size w w1) (W : World) (hb : Below w1.heap.size w1 W) => HK.out k (by simp) ka kc W (h1.trans (hb.mono h1.size)) ((hkat.below h1).below hb)
  rw [← eV] at hct0
  have HCT0 := Lib.hid hct0
  have hRv : R = (V ++ (⟨#[32, 105, 115, 32, 110, 117, 108, 108]⟩ : ByteArray)) := by rw [HR.out, eV]; simp [wrOp, ET.kws, ET.kw]
  have hs2 : ¬ (9223372036854775807 < V.size + (⟨#[32, 105, 115, 32, 110, 117, 108, 108]⟩ : ByteArray).size) := by
    have q0 : (⟨#[32, 105, 115, 32, 110, 117, 108, 108]⟩ : ByteArray).size = 8 := rfl
    try simp only [bsize_append]
    omega
  have hs2n0 : ¬ (9223372036854775807 < V.size + 8) := by
    have q0 : (⟨#[32, 105, 115, 32, 110, 117, 108, 108]⟩ : ByteArray).size = 8 := rfl
    try simp only [bsize_append]
    omega
  have HKC := Lib.hid hkc
  obtain ⟨H, eH⟩ : ∃ H, H = w.heap.size := ⟨_, rfl⟩
  have EH := Lib.hid eH
  subst hRv
  clear hats hkc hkat eV hct0 hl hRz eH
  go_enter Tryz.func79, Tryz.ntmps79
  go_wp2_with fail
  obtain ⟨w1, hw1⟩ : ∃ w1, w1 = w.alloc (.cells #[.int .u8 20, .slice (some ⟨b, off, none⟩) 1 cc, .int .i64 c, .int .u8 d.kind, .bool d.bool, .int .i64 d.int, .string d.text] 27) := ⟨_, rfl⟩
  have hb1 : Below w.heap.size w w1 := by rw [hw1]; exact one_below _ _
  have kh : w1.heap[H]? = some (.cells #[.int .u8 20, .slice (some ⟨b, off, none⟩) 1 cc, .int .i64 c, .int .u8 d.kind, .bool d.bool, .int .i64 d.int, .string d.text] 27 (0, 0)) := by rw [hw1, EH.out]; exact heap_alloc_new _ _
  rw [← hw1, ← EH.out]
  have HB1 := Lib.hid hb1
  have KH := Lib.hid kh
  clear hw1 hb1 kh
  have hSS : ∀ W, Below w1.heap.size w1 W → W.cell? ⟨bk, 0, none⟩ = some (.func (.func 77) #[] #[.pointer (some ⟨bw, 0, none⟩)]) ∧ W.cell? ⟨H, 1, none⟩ = some (.slice (some ⟨b, off, none⟩) 1 cc) ∧ W.cell? ⟨b, off, none⟩ = some (.int .u8 k.op) ∧ W.cell? ⟨b, off + 1, none⟩ = some (.slice ka k.kids.length kc) ∧ W.cell? ⟨b, off + 2, none⟩ = some (.int .i64 k.col) ∧ W.cell? ⟨b, off + 3, none⟩ = some (.int .u8 k.lit.kind) ∧ W.cell? ⟨b, off + 4, none⟩ = some (.bool k.lit.bool) ∧ W.cell? ⟨b, off + 5, none⟩ = some (.int .i64 k.lit.int) ∧ W.cell? ⟨b, off + 6, none⟩ = some (.string k.lit.text) := fun W hb => by
    have h1 := (HKC.out.below HB1.out).below hb
    have h2 := (HCL.out.below HB1.out).below hb
    exact ⟨h2.k, cell_of_heap ((hb.block H (lt_of_heap KH.out)).trans KH.out) rfl, h1.1, h1.2.1, h1.2.2.1, h1.2.2.2.1, h1.2.2.2.2.1, h1.2.2.2.2.2.1, h1.2.2.2.2.2.2⟩
  have HS := Lib.hid hSS
  have HCT := Lib.hid (HCT0.out w1 HB1.out)
  clear hSS
  have CB0 := Lib.hid (show Below w1.heap.size w1 w1.drew from ⟨rfl, rfl, rfl, Nat.le_refl _, fun _ _ => rfl⟩)
  refine wp_region_held_drew (S := fun W => W.cell? ⟨bk, 0, none⟩ = some (.func (.func 77) #[] #[.pointer (some ⟨bw, 0, none⟩)]) ∧ W.cell? ⟨H, 1, none⟩ = some (.slice (some ⟨b, off, none⟩) 1 cc) ∧ W.cell? ⟨b, off, none⟩ = some (.int .u8 k.op) ∧ W.cell? ⟨b, off + 1, none⟩ = some (.slice ka k.kids.length kc) ∧ W.cell? ⟨b, off + 2, none⟩ = some (.int .i64 k.col) ∧ W.cell? ⟨b, off + 3, none⟩ = some (.int .u8 k.lit.kind) ∧ W.cell? ⟨b, off + 4, none⟩ = some (.bool k.lit.bool) ∧ W.cell? ⟨b, off + 5, none⟩ = some (.int .i64 k.lit.int) ∧ W.cell? ⟨b, off + 6, none⟩ = some (.string k.lit.text)) (by kernel_rfl) (HS.out _ CB0.out) (fun hHeld => ?_)
  refine wpAnyH_take (i := 0) (oi := ⟨some 61, _, _, _, _, _⟩) (v := ?_) rfl (by kernel_rfl) (by kernel_rfl) (by kernel_rfl) (fun _ _ _ h => h) (Or.inl ⟨by rfl, ?_⟩) (by assumption) ?_; rotate_left; (intro w hSw; (try dsimp only at hSw); go_simp; (try with_reducible rfl)); (try simp only [Act.put, List.setIfInBounds_toArray, List.set_cons_zero, List.set_cons_succ])
  refine wpAnyH_take (i := 1) (oi := ⟨some 62, _, _, _, _, _⟩) (v := ?_) rfl (by kernel_rfl) (by kernel_rfl) (by kernel_rfl) (fun _ _ _ h => h) (Or.inl ⟨by rfl, ?_⟩) (by assumption) ?_; rotate_left; (intro w hSw; (try dsimp only at hSw); go_simp; (try with_reducible rfl)); (try simp only [Act.put, List.setIfInBounds_toArray, List.set_cons_zero, List.set_cons_succ])
  refine wpAnyH_take (i := 2) (oi := ⟨some 63, _, _, _, _, _⟩) (v := ?_) rfl (by kernel_rfl) (by kernel_rfl) (by kernel_rfl) (fun _ _ _ h => h) (Or.inl ⟨by rfl, ?_⟩) (by assumption) ?_; rotate_left; (intro w hSw; (try dsimp only at hSw); go_simp; (try with_reducible rfl)); (try simp only [Act.put, List.setIfInBounds_toArray, List.set_cons_zero, List.set_cons_succ])
  refine wpAnyH_take (i := 3) (oi := ⟨some 64, _, _, _, _, _⟩) (v := ?_) rfl (by kernel_rfl) (by kernel_rfl) (by kernel_rfl) (fun _ _ _ h => h) (Or.inl ⟨by rfl, ?_⟩) (by assumption) ?_; rotate_left; (intro w hSw; (try dsimp only at hSw); go_simp; (try with_reducible rfl)); (try simp only [Act.put, List.setIfInBounds_toArray, List.set_cons_zero, List.set_cons_succ])
  refine wpAnyH_take (i := 4) (oi := ⟨some 65, _, _, _, _, _⟩) (v := ?_) rfl (by kernel_rfl) (by kernel_rfl) (by kernel_rfl) (fun _ _ _ h => h) (Or.inl ⟨by rfl, ?_⟩) (by assumption) ?_; rotate_left; (intro w hSw; (try dsimp only at hSw); go_simp; (try with_reducible rfl)); (try simp only [Act.put, List.setIfInBounds_toArray, List.set_cons_zero, List.set_cons_succ])
  refine wpAnyH_ready (rs := [5]) (by kernel_rfl) (by simp) ?_
  refine AllReadyH.cons (o := ⟨some 66, _, _, _, _, _⟩) rfl (fun K9 hK9 => ?_) (AllReadyH.nil)
  go_simp
  go_at_call 77
  with_reducible refine (HCT.out _ CB0.out).mono ?_
  rintro ev V1 ⟨rfl, hbx⟩
  have CB1 := Lib.hid (CB0.out.trans (hbx.mono CB0.out.size))
  clear hbx
  go_wp2_with fail
  refine hK9.out _ _ (HS.out _ CB1.out) (fun hHeld => ?_)
  clear hK9 K9
  skip
  refine wpAnyH_take (i := 6) (oi := ⟨some 67, _, _, _, _, _⟩) (v := ?_) rfl (by kernel_rfl) (by kernel_rfl) (by kernel_rfl) (fun _ _ _ h => h) (Or.inl ⟨by rfl, ?_⟩) (by assumption) ?_; rotate_left; (intro w hSw; (try dsimp only at hSw); go_simp; (try with_reducible rfl)); (try simp only [Act.put, List.setIfInBounds_toArray, List.set_cons_zero, List.set_cons_succ])
  refine wpAnyH_take (i := 7) (oi := ⟨some 5, _, _, _, _, _⟩) (v := ?_) rfl (by kernel_rfl) (by kernel_rfl) (by kernel_rfl) (fun _ _ _ h => h) (Or.inl ⟨by rfl, ?_⟩) (by assumption) ?_; rotate_left; (intro w hSw; (try dsimp only at hSw); go_simp; (try with_reducible rfl)); (try simp only [Act.put, List.setIfInBounds_toArray, List.set_cons_zero, List.set_cons_succ])
  refine wpAnyH_done (by kernel_rfl) ?_ _
  go_wp2_with fail
  go_ret
  exact ⟨rfl, HB1.out.trans (CB1.out.mono HB1.out.size)⟩

set_option maxRecDepth 100000 in
set_option maxHeartbeats 4000000 in
theorem w79_21 {bk bw bt tb : Nat} (c : Int) (d : Dat) (ks : List ET) (ih : ∀ k ∈ ks, Wr79 bk bw bt tb k) : Wr79 bk bw bt tb (.mk 21 c d ks) := by
  intro deep kv w hsz hat hfit hg hcl
  obtain ⟨a, cc, rfl, -, hks⟩ := ET.On.iff.1 hat
  have hwz := wr_size _ deep hfit hg
  simp only [ET.fits] at hfit
  obtain ⟨⟨ho0, ho1⟩, ⟨hc0, hc1⟩, hdf, hkl, hfs⟩ := hfit
  have hof := good_op hg
  simp only [ET.op] at hof
  simp only [ET.good, Bool.and_eq_true, decide_eq_true_eq, ET.goods_iff] at hg
  have hkid := own_kids hg.1.1
  have hown := own_mk hg.1.1
  simp only [ET.size] at hsz hwz
  simp only [ET.kids] at hks
  obtain ⟨R, eR⟩ : ∃ R, R = (ET.mk 21 c d ks).wr := ⟨_, rfl⟩
  rw [← eR] at hwz ⊢
  have hR : R = wrOp 21 c d (ET.wrs ks) (ET.kws ks) := by rw [eR]; simp only [ET.wr]
  have HR := Lib.hid hR
  have hRz : R.size ≤ 60000000 := by omega
  have HF := Lib.hid (ET.fitss_iff.1 hfs)
  have HG := Lib.hid hg.2
  have HKS := Lib.hid hks
  have HOWN := Lib.hid hown
  have HDF := Lib.hid hdf
  have HKID := Lib.hid hkid
  have HCL := Lib.hid hcl
  have HSZ : Hid (∀ k ∈ ks, k.size ≤ 12000) := fun k hk => by have := ET.sizes_mem hk; omega
  have HK79 : Hid (∀ (k : ET), k ∈ ks → ∀ (ka : Option Addr) (kc : Nat) (W : World), Below w.heap.size w W → k.At W (.slice ka k.kids.length kc) → Calls Tryz.prog 79 #[.agg #[.int .u8 k.op, .slice ka k.kids.length kc, .int .i64 k.col, .int .u8 k.lit.kind, .bool k.lit.bool, .int .i64 k.lit.int, .string k.lit.text], .pointer (some ⟨bk, 0, none⟩), .pointer (some ⟨bw, 0, none⟩), .pointer (some ⟨bt, 0, none⟩)] W (StPost k.wr W)) := fun k hk ka kc W hb h => ih k hk (deep + 1) _ W (HSZ.out k hk) h (HF.out k hk) (HG.out k hk) (hcl.below hb)
  have HK : Hid (∀ (k : ET), k ∈ ks → ∀ (ka : Option Addr) (kc : Nat) (W : World), Below w.heap.size w W → k.At W (.slice ka k.kids.length kc) → Calls Tryz.prog 77 #[.agg #[.int .u8 k.op, .slice ka k.kids.length kc, .int .i64 k.col, .int .u8 k.lit.kind, .bool k.lit.bool, .int .i64 k.lit.int, .string k.lit.text], .pointer (some ⟨bw, 0, none⟩)] W (StPost k.kw W)) := fun k hk ka kc W hb h => kid_77 k (ih k hk) (deep + 1) _ W (HSZ.out k hk) h (HF.out k hk) (HG.out k hk) (hcl.below hb)
  have HKZ : Hid (∀ k ∈ ks, k.wr.size ≤ 60000000 ∧ k.kw.size ≤ 60000000) := fun k hk => by
    have := wr_size k (deep + 1) (HF.out k hk) (HG.out k hk)
    have := kw_size (HF.out k hk) (HG.out k hk)
    have := HSZ.out k hk
    omega
  clear hwz hfs hg hkid hown hks hat ih eR hR hdf hcl
  unfold ET.agg
  simp only [ET.op, ET.col, ET.lit, ET.kids]
  obtain ⟨K, eK⟩ : ∃ K, K = ks.length := ⟨_, rfl⟩
  rw [← eK] at hkl HKID ⊢
  have EK := Lib.hid eK
  clear eK
  have hodd : 2 < K ∧ K % 2 = 1 := by
    have h := HKID.out
    unfold kidsOk at h
    rw [if_neg (by decide), if_neg (by decide), if_pos rfl] at h
    simpa using h
  obtain ⟨L, eL⟩ : ∃ L, L = ET.kws ks := ⟨_, rfl⟩
  have hll : L.length = K := by rw [eL, ET.kws_map, List.length_map, EK.out]
  have hRl : R = caseW (⟨#[99, 97, 115, 101]⟩ : ByteArray) L := by rw [HR.out, eL]; simp [wrOp]
  have hget : ∀ (j : Nat) k, ks[j]? = some k → L[j]? = some k.kw := fun j k hk => by rw [eL, ET.kws_map, List.getElem?_map, hk]; rfl
  have HLL := Lib.hid hll
  have HRL := Lib.hid hRl
  have HGET := Lib.hid hget
  have HODD := Lib.hid hodd
  have hK := hodd.1
  obtain ⟨H, eH⟩ : ∃ H, H = w.heap.size := ⟨_, rfl⟩
  have EH := Lib.hid eH
  obtain ⟨b, off, rfl, -, hats⟩ := HKS.out (fun e => by have := EK.out; rw [e] at this; simp at this; omega)
  have HATS := Lib.hid hats
  clear eL hll hRl hget hodd eH hats
  go_enter Tryz.func79, Tryz.ntmps79
  go_wp2_with fail
  obtain ⟨w1, hw1⟩ : ∃ w1, w1 = w.alloc (.cells #[.int .u8 21, .slice (some ⟨b, off, none⟩) K cc, .int .i64 c, .int .u8 d.kind, .bool d.bool, .int .i64 d.int, .string d.text] 27) := ⟨_, rfl⟩
  have hb1 : Below w.heap.size w w1 := by rw [hw1]; exact one_below _ _
  have kh : w1.heap[H]? = some (.cells #[.int .u8 21, .slice (some ⟨b, off, none⟩) K cc, .int .i64 c, .int .u8 d.kind, .bool d.bool, .int .i64 d.int, .string d.text] 27 (0, 0)) := by rw [hw1, EH.out]; exact heap_alloc_new _ _
  rw [← hw1, ← EH.out]
  have HB1 := Lib.hid hb1
  have KH := Lib.hid kh
  clear hw1 hb1 kh
  go_loopg [6, 7] K (fun g s6 s7 wr => ∃ (i : Nat) (s : ByteArray), i % 2 = 0 ∧ i ≤ K ∧ g = K - i ∧ s7 = .int .i64 i ∧ s6 = .string s ∧ R = caseW s (L.drop i) ∧ Below w1.heap.size w1 wr)
  case atStart => exact ⟨0, _, rfl, Nat.zero_le _, rfl, rfl, rfl, HRL.out, Below.refl _ _⟩
  case round =>
    obtain ⟨i, s, hev, hi, rfl, rfl, rfl, hRs, hbr⟩ := hrel
    have hsz : s.size ≤ 60000000 := by
      have := caseW_ge _ (L.drop i) s (Nat.le_refl _)
      rw [← hRs] at this
      omega
    have hbw : Below w.heap.size w wr := HB1.out.trans (hbr.mono HB1.out.size)
    have c1 : wr.cell? ⟨H, 1, none⟩ = some (.slice (some ⟨b, off, none⟩) K cc) := cell_of_heap ((hbr.block H (lt_of_heap KH.out)).trans KH.out) rfl
    have HBR := Lib.hid hbr
    have HRS := Lib.hid hRs
    have HEV := Lib.hid hev
    obtain ⟨j, ej⟩ : ∃ j, j = i + 1 := ⟨_, rfl⟩
    have wi1 : IntKind.i64.wrap ((i : Int) + 1) = (j : Int) := by rw [IntWalk.i64_in _ (by omega)]; omega
    have EJ := Lib.hid ej
    have hats := HATS.out
    by_cases hlt : j < K
    · obtain ⟨p, ph⟩ : ∃ k, ks[i]? = some k := ⟨ks[i]'(by rw [← EK.out]; omega), List.getElem?_eq_getElem _⟩
      obtain ⟨q, qh⟩ : ∃ k, ks[j]? = some k := ⟨ks[j]'(by rw [← EK.out]; omega), List.getElem?_eq_getElem _⟩
      have hpm := List.mem_of_getElem? ph
      have hqm := List.mem_of_getElem? qh
      obtain ⟨P, eP⟩ : ∃ P, P = p.kw := ⟨_, rfl⟩
      obtain ⟨Q, eQ⟩ : ∃ Q, Q = q.kw := ⟨_, rfl⟩
      have hpz : P.size ≤ 60000000 := by rw [eP]; exact (HKZ.out p hpm).2
      have hqz : Q.size ≤ 60000000 := by rw [eQ]; exact (HKZ.out q hqm).2
      have hdr : L.drop i = P :: Q :: L.drop (i + 2) := by
        obtain ⟨h1, h2⟩ := List.getElem?_eq_some_iff.1 (HGET.out i p ph)
        obtain ⟨h3, h4⟩ := List.getElem?_eq_some_iff.1 (HGET.out j q qh)
        subst ej
        rw [List.drop_eq_getElem_cons h1, h2, List.drop_eq_getElem_cons h3, h4, ← eP, ← eQ]
      have hst : R = caseW (s ++ ((((⟨#[32, 119, 104, 101, 110, 32]⟩ : ByteArray) ++ P) ++ (⟨#[32, 116, 104, 101, 110, 32]⟩ : ByteArray)) ++ Q)) (L.drop (i + 2)) := by
        rw [HRS.out, hdr]; simp only [caseW]
      have HST := Lib.hid hst
      obtain ⟨pa, pc, phc, pat⟩ := kids_get hats (i := i) (k := p) ph
      obtain ⟨qa, qc, qhc, qat⟩ := kids_get hats (i := j) (k := q) qh
      have hcp := fun (W : World) (hb : Below w1.heap.size w1 W) => HK.out p hpm pa pc W (HB1.out.trans (hb.mono HB1.out.size)) ((pat.below HB1.out).below hb)
      have hcq := fun (W : World) (hb : Below w1.heap.size w1 W) => HK.out q hqm qa qc W (HB1.out.trans (hb.mono HB1.out.size)) ((qat.below HB1.out).below hb)
      rw [← eP] at hcp
      rw [← eQ] at hcq
      have HCP := Lib.hid hcp
      have HCQ := Lib.hid hcq
      have hSS : ∀ W, Below w1.heap.size w1 W → W.cell? ⟨bk, 0, none⟩ = some (.func (.func 77) #[] #[.pointer (some ⟨bw, 0, none⟩)]) ∧ W.cell? ⟨H, 1, none⟩ = some (.slice (some ⟨b, off, none⟩) K cc) ∧ W.cell? ⟨b, off + i * 7, none⟩ = some (.int .u8 p.op) ∧ W.cell? ⟨b, off + i * 7 + 1, none⟩ = some (.slice pa p.kids.length pc) ∧ W.cell? ⟨b, off + i * 7 + 2, none⟩ = some (.int .i64 p.col) ∧ W.cell? ⟨b, off + i * 7 + 3, none⟩ = some (.int .u8 p.lit.kind) ∧ W.cell? ⟨b, off + i * 7 + 4, none⟩ = some (.bool p.lit.bool) ∧ W.cell? ⟨b, off + i * 7 + 5, none⟩ = some (.int .i64 p.lit.int) ∧ W.cell? ⟨b, off + i * 7 + 6, none⟩ = some (.string p.lit.text) ∧ W.cell? ⟨b, off + j * 7, none⟩ = some (.int .u8 q.op) ∧ W.cell? ⟨b, off + j * 7 + 1, none⟩ = some (.slice qa q.kids.length qc) ∧ W.cell? ⟨b, off + j * 7 + 2, none⟩ = some (.int .i64 q.col) ∧ W.cell? ⟨b, off + j * 7 + 3, none⟩ = some (.int .u8 q.lit.kind) ∧ W.cell? ⟨b, off + j * 7 + 4, none⟩ = some (.bool q.lit.bool) ∧ W.cell? ⟨b, off + j * 7 + 5, none⟩ = some (.int .i64 q.lit.int) ∧ W.cell? ⟨b, off + j * 7 + 6, none⟩ = some (.string q.lit.text) := fun W hb => by
        have h1 := (phc.below HB1.out).below hb
        have h2 := (qhc.below HB1.out).below hb
        have h3 := (HCL.out.below HB1.out).below hb
        exact ⟨h3.k, cell_of_heap ((hb.block H (lt_of_heap KH.out)).trans KH.out) rfl, h1.1, h1.2.1, h1.2.2.1, h1.2.2.2.1, h1.2.2.2.2.1, h1.2.2.2.2.2.1, h1.2.2.2.2.2.2, h2.1, h2.2.1, h2.2.2.1, h2.2.2.2.1, h2.2.2.2.2.1, h2.2.2.2.2.2.1, h2.2.2.2.2.2.2⟩
      have HS := Lib.hid hSS
      have hs1 : ¬ (9223372036854775807 < (⟨#[32, 119, 104, 101, 110, 32]⟩ : ByteArray).size + P.size) := by
        have q0 : (⟨#[32, 119, 104, 101, 110, 32]⟩ : ByteArray).size = 6 := rfl
        try simp only [bsize_append]
        omega
      have hs1n0 : ¬ (9223372036854775807 < 6 + P.size) := by
        have q0 : (⟨#[32, 119, 104, 101, 110, 32]⟩ : ByteArray).size = 6 := rfl
        try simp only [bsize_append]
        omega
      have hs2 : ¬ (9223372036854775807 < ((⟨#[32, 119, 104, 101, 110, 32]⟩ : ByteArray) ++ P).size + (⟨#[32, 116, 104, 101, 110, 32]⟩ : ByteArray).size) := by
        have q0 : (⟨#[32, 116, 104, 101, 110, 32]⟩ : ByteArray).size = 6 := rfl
        have q1 : (⟨#[32, 119, 104, 101, 110, 32]⟩ : ByteArray).size = 6 := rfl
        try simp only [bsize_append]
        omega
      have hs2n0 : ¬ (9223372036854775807 < ((⟨#[32, 119, 104, 101, 110, 32]⟩ : ByteArray) ++ P).size + 6) := by
        have q0 : (⟨#[32, 116, 104, 101, 110, 32]⟩ : ByteArray).size = 6 := rfl
        have q1 : (⟨#[32, 119, 104, 101, 110, 32]⟩ : ByteArray).size = 6 := rfl
        try simp only [bsize_append]
        omega
      have hs2n1 : ¬ (9223372036854775807 < 6 + P.size + 6) := by
        have q0 : (⟨#[32, 116, 104, 101, 110, 32]⟩ : ByteArray).size = 6 := rfl
        have q1 : (⟨#[32, 119, 104, 101, 110, 32]⟩ : ByteArray).size = 6 := rfl
        try simp only [bsize_append]
        omega
      have hs3 : ¬ (9223372036854775807 < (((⟨#[32, 119, 104, 101, 110, 32]⟩ : ByteArray) ++ P) ++ (⟨#[32, 116, 104, 101, 110, 32]⟩ : ByteArray)).size + Q.size) := by
        have q0 : (⟨#[32, 116, 104, 101, 110, 32]⟩ : ByteArray).size = 6 := rfl
        have q1 : (⟨#[32, 119, 104, 101, 110, 32]⟩ : ByteArray).size = 6 := rfl
        try simp only [bsize_append]
        omega
      have hs3n0 : ¬ (9223372036854775807 < (((⟨#[32, 119, 104, 101, 110, 32]⟩ : ByteArray) ++ P) ++ (⟨#[32, 116, 104, 101, 110, 32]⟩ : ByteArray)).size + Q.size) := by
        have q0 : (⟨#[32, 116, 104, 101, 110, 32]⟩ : ByteArray).size = 6 := rfl
        have q1 : (⟨#[32, 119, 104, 101, 110, 32]⟩ : ByteArray).size = 6 := rfl
        try simp only [bsize_append]
        omega
      have hs3n1 : ¬ (9223372036854775807 < 6 + P.size + 6 + Q.size) := by
        have q0 : (⟨#[32, 116, 104, 101, 110, 32]⟩ : ByteArray).size = 6 := rfl
        have q1 : (⟨#[32, 119, 104, 101, 110, 32]⟩ : ByteArray).size = 6 := rfl
        try simp only [bsize_append]
        omega
      have hs4 : ¬ (9223372036854775807 < s.size + ((((⟨#[32, 119, 104, 101, 110, 32]⟩ : ByteArray) ++ P) ++ (⟨#[32, 116, 104, 101, 110, 32]⟩ : ByteArray)) ++ Q).size) := by
        have q0 : (⟨#[32, 116, 104, 101, 110, 32]⟩ : ByteArray).size = 6 := rfl
        have q1 : (⟨#[32, 119, 104, 101, 110, 32]⟩ : ByteArray).size = 6 := rfl
        try simp only [bsize_append]
        omega
      have hs4n0 : ¬ (9223372036854775807 < s.size + ((((⟨#[32, 119, 104, 101, 110, 32]⟩ : ByteArray) ++ P) ++ (⟨#[32, 116, 104, 101, 110, 32]⟩ : ByteArray)) ++ Q).size) := by
        have q0 : (⟨#[32, 116, 104, 101, 110, 32]⟩ : ByteArray).size = 6 := rfl
        have q1 : (⟨#[32, 119, 104, 101, 110, 32]⟩ : ByteArray).size = 6 := rfl
        try simp only [bsize_append]
        omega
      have hs4n1 : ¬ (9223372036854775807 < s.size + (6 + P.size + 6 + Q.size)) := by
        have q0 : (⟨#[32, 116, 104, 101, 110, 32]⟩ : ByteArray).size = 6 := rfl
        have q1 : (⟨#[32, 119, 104, 101, 110, 32]⟩ : ByteArray).size = 6 := rfl
        try simp only [bsize_append]
        omega
      have hlti : (j : Int) < (K : Int) := by omega
      have hlti0 : i < K := by omega
      clear ej ph qh hpm hqm eP eQ hdr hst phc qhc pat qat hcp hcq hSS hats hRs hbw
      go_wp2_with fail
      have CB0 := Lib.hid (show Below w1.heap.size w1 wr.drew from ⟨HBR.out.os, HBR.out.tape, HBR.out.output, HBR.out.size, HBR.out.block⟩)
      refine wp_region_held_drew (S := fun W => W.cell? ⟨bk, 0, none⟩ = some (.func (.func 77) #[] #[.pointer (some ⟨bw, 0, none⟩)]) ∧ W.cell? ⟨H, 1, none⟩ = some (.slice (some ⟨b, off, none⟩) K cc) ∧ W.cell? ⟨b, off + i * 7, none⟩ = some (.int .u8 p.op) ∧ W.cell? ⟨b, off + i * 7 + 1, none⟩ = some (.slice pa p.kids.length pc) ∧ W.cell? ⟨b, off + i * 7 + 2, none⟩ = some (.int .i64 p.col) ∧ W.cell? ⟨b, off + i * 7 + 3, none⟩ = some (.int .u8 p.lit.kind) ∧ W.cell? ⟨b, off + i * 7 + 4, none⟩ = some (.bool p.lit.bool) ∧ W.cell? ⟨b, off + i * 7 + 5, none⟩ = some (.int .i64 p.lit.int) ∧ W.cell? ⟨b, off + i * 7 + 6, none⟩ = some (.string p.lit.text) ∧ W.cell? ⟨b, off + j * 7, none⟩ = some (.int .u8 q.op) ∧ W.cell? ⟨b, off + j * 7 + 1, none⟩ = some (.slice qa q.kids.length qc) ∧ W.cell? ⟨b, off + j * 7 + 2, none⟩ = some (.int .i64 q.col) ∧ W.cell? ⟨b, off + j * 7 + 3, none⟩ = some (.int .u8 q.lit.kind) ∧ W.cell? ⟨b, off + j * 7 + 4, none⟩ = some (.bool q.lit.bool) ∧ W.cell? ⟨b, off + j * 7 + 5, none⟩ = some (.int .i64 q.lit.int) ∧ W.cell? ⟨b, off + j * 7 + 6, none⟩ = some (.string q.lit.text)) (by kernel_rfl) (HS.out _ CB0.out) (fun hHeld => ?_)
      refine wpAnyH_take (i := 0) (oi := ⟨some 78, _, _, _, _, _⟩) (v := ?_) rfl (by kernel_rfl) (by kernel_rfl) (by kernel_rfl) (fun _ _ _ h => h) (Or.inl ⟨by rfl, ?_⟩) (by assumption) ?_; rotate_left; (intro w hSw; (try dsimp only at hSw); go_simp; (try with_reducible rfl)); (try simp only [Act.put, List.setIfInBounds_toArray, List.set_cons_zero, List.set_cons_succ])
      refine wpAnyH_take (i := 1) (oi := ⟨some 79, _, _, _, _, _⟩) (v := ?_) rfl (by kernel_rfl) (by kernel_rfl) (by kernel_rfl) (fun _ _ _ h => h) (Or.inl ⟨by rfl, ?_⟩) (by assumption) ?_; rotate_left; (intro w hSw; (try dsimp only at hSw); go_simp; (try with_reducible rfl)); (try simp only [Act.put, List.setIfInBounds_toArray, List.set_cons_zero, List.set_cons_succ])
      refine wpAnyH_take (i := 2) (oi := ⟨some 80, _, _, _, _, _⟩) (v := ?_) rfl (by kernel_rfl) (by kernel_rfl) (by kernel_rfl) (fun _ _ _ h => h) (Or.inl ⟨by rfl, ?_⟩) (by assumption) ?_; rotate_left; (intro w hSw; (try dsimp only at hSw); go_simp; (try with_reducible rfl)); (try simp only [Act.put, List.setIfInBounds_toArray, List.set_cons_zero, List.set_cons_succ])
      refine wpAnyH_take (i := 3) (oi := ⟨some 81, _, _, _, _, _⟩) (v := ?_) rfl (by kernel_rfl) (by kernel_rfl) (by kernel_rfl) (fun _ _ _ h => h) (Or.inl ⟨by rfl, ?_⟩) (by assumption) ?_; rotate_left; (intro w hSw; (try dsimp only at hSw); go_simp; (try with_reducible rfl)); (try simp only [Act.put, List.setIfInBounds_toArray, List.set_cons_zero, List.set_cons_succ])
      refine wpAnyH_take (i := 4) (oi := ⟨some 82, _, _, _, _, _⟩) (v := ?_) rfl (by kernel_rfl) (by kernel_rfl) (by kernel_rfl) (fun _ _ _ h => h) (Or.inl ⟨by rfl, ?_⟩) (by assumption) ?_; rotate_left; (intro w hSw; (try dsimp only at hSw); go_simp; (try with_reducible rfl)); (try simp only [Act.put, List.setIfInBounds_toArray, List.set_cons_zero, List.set_cons_succ])
      refine wpAnyH_take (i := 5) (oi := ⟨some 83, _, _, _, _, _⟩) (v := ?_) rfl (by kernel_rfl) (by kernel_rfl) (by kernel_rfl) (fun _ _ _ h => h) (Or.inl ⟨by rfl, ?_⟩) (by assumption) ?_; rotate_left; (intro w hSw; (try dsimp only at hSw); go_simp; (try with_reducible rfl)); (try simp only [Act.put, List.setIfInBounds_toArray, List.set_cons_zero, List.set_cons_succ])
      refine wpAnyH_take (i := 6) (oi := ⟨some 84, _, _, _, _, _⟩) (v := ?_) rfl (by kernel_rfl) (by kernel_rfl) (by kernel_rfl) (fun _ _ _ h => h) (Or.inl ⟨by rfl, ?_⟩) (by assumption) ?_; rotate_left; (intro w hSw; (try dsimp only at hSw); go_simp; (try with_reducible rfl)); (try simp only [Act.put, List.setIfInBounds_toArray, List.set_cons_zero, List.set_cons_succ])
      refine wpAnyH_take (i := 10) (oi := ⟨some 88, _, _, _, _, _⟩) (v := ?_) rfl (by kernel_rfl) (by kernel_rfl) (by kernel_rfl) (fun _ _ _ h => h) (Or.inl ⟨by rfl, ?_⟩) (by assumption) ?_; rotate_left; (intro w hSw; (try dsimp only at hSw); go_simp; (try with_reducible rfl)); (try simp only [Act.put, List.setIfInBounds_toArray, List.set_cons_zero, List.set_cons_succ])
      refine wpAnyH_take (i := 11) (oi := ⟨some 89, _, _, _, _, _⟩) (v := ?_) rfl (by kernel_rfl) (by kernel_rfl) (by kernel_rfl) (fun _ _ _ h => h) (Or.inl ⟨by rfl, ?_⟩) (by assumption) ?_; rotate_left; (intro w hSw; (try dsimp only at hSw); go_simp; (try with_reducible rfl)); (try simp only [Act.put, List.setIfInBounds_toArray, List.set_cons_zero, List.set_cons_succ])
      refine wpAnyH_take (i := 12) (oi := ⟨some 90, _, _, _, _, _⟩) (v := ?_) rfl (by kernel_rfl) (by kernel_rfl) (by kernel_rfl) (fun _ _ _ h => h) (Or.inl ⟨by rfl, ?_⟩) (by assumption) ?_; rotate_left; (intro w hSw; (try dsimp only at hSw); go_simp; (try with_reducible rfl)); (try simp only [Act.put, List.setIfInBounds_toArray, List.set_cons_zero, List.set_cons_succ])
      refine wpAnyH_take (i := 13) (oi := ⟨some 91, _, _, _, _, _⟩) (v := ?_) rfl (by kernel_rfl) (by kernel_rfl) (by kernel_rfl) (fun _ _ _ h => h) (Or.inl ⟨by rfl, ?_⟩) (by assumption) ?_; rotate_left; (intro w hSw; (try dsimp only at hSw); go_simp; (try with_reducible rfl)); (try simp only [Act.put, List.setIfInBounds_toArray, List.set_cons_zero, List.set_cons_succ])
      refine wpAnyH_take (i := 14) (oi := ⟨some 92, _, _, _, _, _⟩) (v := ?_) rfl (by kernel_rfl) (by kernel_rfl) (by kernel_rfl) (fun _ _ _ h => h) (Or.inl ⟨by rfl, ?_⟩) (by assumption) ?_; rotate_left; (intro w hSw; (try dsimp only at hSw); go_simp; (try with_reducible rfl)); (try simp only [Act.put, List.setIfInBounds_toArray, List.set_cons_zero, List.set_cons_succ])
      refine wpAnyH_take (i := 15) (oi := ⟨some 93, _, _, _, _, _⟩) (v := ?_) rfl (by kernel_rfl) (by kernel_rfl) (by kernel_rfl) (fun _ _ _ h => h) (Or.inl ⟨by rfl, ?_⟩) (by assumption) ?_; rotate_left; (intro w hSw; (try dsimp only at hSw); go_simp; (try with_reducible rfl)); (try simp only [Act.put, List.setIfInBounds_toArray, List.set_cons_zero, List.set_cons_succ])
      refine wpAnyH_take (i := 16) (oi := ⟨some 94, _, _, _, _, _⟩) (v := ?_) rfl (by kernel_rfl) (by kernel_rfl) (by kernel_rfl) (fun _ _ _ h => h) (Or.inl ⟨by rfl, ?_⟩) (by assumption) ?_; rotate_left; (intro w hSw; (try dsimp only at hSw); go_simp; (try with_reducible rfl)); (try simp only [Act.put, List.setIfInBounds_toArray, List.set_cons_zero, List.set_cons_succ])
      refine wpAnyH_ready (rs := [7]) (by kernel_rfl) (by simp) ?_
      refine AllReadyH.cons (o := ⟨some 85, _, _, _, _, _⟩) rfl (fun K9 hK9 => ?_) (AllReadyH.nil)
      go_simp
      go_at_call 77
      with_reducible refine (HCP.out _ CB0.out).mono ?_
      rintro ev V1 ⟨rfl, hbx⟩
      have CB1 := Lib.hid (CB0.out.trans (hbx.mono CB0.out.size))
      clear hbx
      go_wp2_with fail
      refine hK9.out _ _ (HS.out _ CB1.out) (fun hHeld => ?_)
      clear hK9 K9
      skip
      refine wpAnyH_take (i := 8) (oi := ⟨some 86, _, _, _, _, _⟩) (v := ?_) rfl (by kernel_rfl) (by kernel_rfl) (by kernel_rfl) (fun _ _ _ h => h) (Or.inl ⟨by rfl, ?_⟩) (by assumption) ?_; rotate_left; (intro w hSw; (try dsimp only at hSw); go_simp; (try with_reducible rfl)); (try simp only [Act.put, List.setIfInBounds_toArray, List.set_cons_zero, List.set_cons_succ])
      refine wpAnyH_take (i := 9) (oi := ⟨some 87, _, _, _, _, _⟩) (v := ?_) rfl (by kernel_rfl) (by kernel_rfl) (by kernel_rfl) (fun _ _ _ h => h) (Or.inl ⟨by rfl, ?_⟩) (by assumption) ?_; rotate_left; (intro w hSw; (try dsimp only at hSw); go_simp; (try with_reducible rfl)); (try simp only [Act.put, List.setIfInBounds_toArray, List.set_cons_zero, List.set_cons_succ])
      refine wpAnyH_ready (rs := [17]) (by kernel_rfl) (by simp) ?_
      refine AllReadyH.cons (o := ⟨some 95, _, _, _, _, _⟩) rfl (fun K9 hK9 => ?_) (AllReadyH.nil)
      go_simp
      go_at_call 77
      with_reducible refine (HCQ.out _ CB1.out).mono ?_
      rintro ev V2 ⟨rfl, hbx⟩
      have CB2 := Lib.hid (CB1.out.trans (hbx.mono CB1.out.size))
      clear hbx
      go_wp2_with fail
      refine hK9.out _ _ (HS.out _ CB2.out) (fun hHeld => ?_)
      clear hK9 K9
      skip
      refine wpAnyH_take (i := 18) (oi := ⟨some 96, _, _, _, _, _⟩) (v := ?_) rfl (by kernel_rfl) (by kernel_rfl) (by kernel_rfl) (fun _ _ _ h => h) (Or.inl ⟨by rfl, ?_⟩) (by assumption) ?_; rotate_left; (intro w hSw; (try dsimp only at hSw); go_simp; (try with_reducible rfl)); (try simp only [Act.put, List.setIfInBounds_toArray, List.set_cons_zero, List.set_cons_succ])
      refine wpAnyH_take (i := 19) (oi := ⟨some 97, _, _, _, _, _⟩) (v := ?_) rfl (by kernel_rfl) (by kernel_rfl) (by kernel_rfl) (fun _ _ _ h => h) (Or.inl ⟨by rfl, ?_⟩) (by assumption) ?_; rotate_left; (intro w hSw; (try dsimp only at hSw); go_simp; (try with_reducible rfl)); (try simp only [Act.put, List.setIfInBounds_toArray, List.set_cons_zero, List.set_cons_succ])
      refine wpAnyH_take (i := 20) (oi := ⟨some 6, _, _, _, _, _⟩) (v := ?_) rfl (by kernel_rfl) (by kernel_rfl) (by kernel_rfl) (fun _ _ _ h => h) (Or.inl ⟨by rfl, ?_⟩) (by assumption) ?_; rotate_left; (intro w hSw; (try dsimp only at hSw); go_simp; (try with_reducible rfl)); (try simp only [Act.put, List.setIfInBounds_toArray, List.set_cons_zero, List.set_cons_succ])
      refine wpAnyH_done (by kernel_rfl) ?_ _
      go_wp2
      go_roundg (K - (i + 2))
      case measure => (have := EJ.out; omega)
      case rel => exact ⟨i + 2, (s ++ ((((⟨#[32, 119, 104, 101, 110, 32]⟩ : ByteArray) ++ P) ++ (⟨#[32, 116, 104, 101, 110, 32]⟩ : ByteArray)) ++ Q)), by have := HEV.out; omega, by have := EJ.out; omega, rfl, by go_num, rfl, HST.out, CB2.out⟩
    · have hki : i + 1 = K := by have := HODD.out; have := HEV.out; omega
      obtain ⟨p, ph⟩ : ∃ k, ks[i]? = some k := ⟨ks[i]'(by rw [← EK.out]; omega), List.getElem?_eq_getElem _⟩
      have hpm := List.mem_of_getElem? ph
      obtain ⟨P, eP⟩ : ∃ P, P = p.kw := ⟨_, rfl⟩
      have hpz : P.size ≤ 60000000 := by rw [eP]; exact (HKZ.out p hpm).2
      have hdr : L.drop i = [P] := by
        obtain ⟨h1, h2⟩ := List.getElem?_eq_some_iff.1 (HGET.out i p ph)
        rw [List.drop_eq_getElem_cons h1, h2, ← eP, List.drop_eq_nil_of_le (by rw [HLL.out]; omega)]
      have hst : R = (((s ++ (⟨#[32, 101, 108, 115, 101, 32]⟩ : ByteArray)) ++ P) ++ (⟨#[32, 101, 110, 100]⟩ : ByteArray)) := by
        rw [HRS.out, hdr]; simp only [caseW]
      obtain ⟨pa, pc, phc, pat⟩ := kids_get hats (i := i) (k := p) ph
      have hcp := fun (W : World) (hb : Below w1.heap.size w1 W) => HK.out p hpm pa pc W (HB1.out.trans (hb.mono HB1.out.size)) ((pat.below HB1.out).below hb)
      rw [← eP] at hcp
      have HCP := Lib.hid hcp
      have hSS : ∀ W, Below w1.heap.size w1 W → W.cell? ⟨bk, 0, none⟩ = some (.func (.func 77) #[] #[.pointer (some ⟨bw, 0, none⟩)]) ∧ W.cell? ⟨H, 1, none⟩ = some (.slice (some ⟨b, off, none⟩) K cc) ∧ W.cell? ⟨b, off + i * 7, none⟩ = some (.int .u8 p.op) ∧ W.cell? ⟨b, off + i * 7 + 1, none⟩ = some (.slice pa p.kids.length pc) ∧ W.cell? ⟨b, off + i * 7 + 2, none⟩ = some (.int .i64 p.col) ∧ W.cell? ⟨b, off + i * 7 + 3, none⟩ = some (.int .u8 p.lit.kind) ∧ W.cell? ⟨b, off + i * 7 + 4, none⟩ = some (.bool p.lit.bool) ∧ W.cell? ⟨b, off + i * 7 + 5, none⟩ = some (.int .i64 p.lit.int) ∧ W.cell? ⟨b, off + i * 7 + 6, none⟩ = some (.string p.lit.text) := fun W hb => by
        have h1 := (phc.below HB1.out).below hb
        have h3 := (HCL.out.below HB1.out).below hb
        exact ⟨h3.k, cell_of_heap ((hb.block H (lt_of_heap KH.out)).trans KH.out) rfl, h1.1, h1.2.1, h1.2.2.1, h1.2.2.2.1, h1.2.2.2.2.1, h1.2.2.2.2.2.1, h1.2.2.2.2.2.2⟩
      have HS := Lib.hid hSS
      have hs1 : ¬ (9223372036854775807 < s.size + (⟨#[32, 101, 108, 115, 101, 32]⟩ : ByteArray).size) := by
        have q0 : (⟨#[32, 101, 108, 115, 101, 32]⟩ : ByteArray).size = 6 := rfl
        try simp only [bsize_append]
        omega
      have hs1n0 : ¬ (9223372036854775807 < s.size + 6) := by
        have q0 : (⟨#[32, 101, 108, 115, 101, 32]⟩ : ByteArray).size = 6 := rfl
        try simp only [bsize_append]
        omega
      have hs2 : ¬ (9223372036854775807 < (s ++ (⟨#[32, 101, 108, 115, 101, 32]⟩ : ByteArray)).size + P.size) := by
        have q0 : (⟨#[32, 101, 108, 115, 101, 32]⟩ : ByteArray).size = 6 := rfl
        try simp only [bsize_append]
        omega
      have hs2n0 : ¬ (9223372036854775807 < (s ++ (⟨#[32, 101, 108, 115, 101, 32]⟩ : ByteArray)).size + P.size) := by
        have q0 : (⟨#[32, 101, 108, 115, 101, 32]⟩ : ByteArray).size = 6 := rfl
        try simp only [bsize_append]
        omega
      have hs2n1 : ¬ (9223372036854775807 < s.size + 6 + P.size) := by
        have q0 : (⟨#[32, 101, 108, 115, 101, 32]⟩ : ByteArray).size = 6 := rfl
        try simp only [bsize_append]
        omega
      have hs3 : ¬ (9223372036854775807 < ((s ++ (⟨#[32, 101, 108, 115, 101, 32]⟩ : ByteArray)) ++ P).size + (⟨#[32, 101, 110, 100]⟩ : ByteArray).size) := by
        have q0 : (⟨#[32, 101, 108, 115, 101, 32]⟩ : ByteArray).size = 6 := rfl
        have q1 : (⟨#[32, 101, 110, 100]⟩ : ByteArray).size = 4 := rfl
        try simp only [bsize_append]
        omega
      have hs3n0 : ¬ (9223372036854775807 < ((s ++ (⟨#[32, 101, 108, 115, 101, 32]⟩ : ByteArray)) ++ P).size + 4) := by
        have q0 : (⟨#[32, 101, 108, 115, 101, 32]⟩ : ByteArray).size = 6 := rfl
        have q1 : (⟨#[32, 101, 110, 100]⟩ : ByteArray).size = 4 := rfl
        try simp only [bsize_append]
        omega
      have hs3n1 : ¬ (9223372036854775807 < s.size + 6 + P.size + 4) := by
        have q0 : (⟨#[32, 101, 108, 115, 101, 32]⟩ : ByteArray).size = 6 := rfl
        have q1 : (⟨#[32, 101, 110, 100]⟩ : ByteArray).size = 4 := rfl
        try simp only [bsize_append]
        omega
      have wk : IntKind.i64.wrap ((K : Int) - 1) = (i : Int) := by rw [IntWalk.i64_in _ (by omega)]; omega
      have hnlt : ¬ ((j : Int) < (K : Int)) := by omega
      have hlti0 : i < K := by omega
      clear ej ph hpm eP hdr phc pat hcp hats hRs hbw hki hRz hSS
      subst hst
      go_wp2_with fail
      have CB0 := Lib.hid (show Below w1.heap.size w1 wr.drew from ⟨HBR.out.os, HBR.out.tape, HBR.out.output, HBR.out.size, HBR.out.block⟩)
      refine wp_region_held_drew (S := fun W => W.cell? ⟨bk, 0, none⟩ = some (.func (.func 77) #[] #[.pointer (some ⟨bw, 0, none⟩)]) ∧ W.cell? ⟨H, 1, none⟩ = some (.slice (some ⟨b, off, none⟩) K cc) ∧ W.cell? ⟨b, off + i * 7, none⟩ = some (.int .u8 p.op) ∧ W.cell? ⟨b, off + i * 7 + 1, none⟩ = some (.slice pa p.kids.length pc) ∧ W.cell? ⟨b, off + i * 7 + 2, none⟩ = some (.int .i64 p.col) ∧ W.cell? ⟨b, off + i * 7 + 3, none⟩ = some (.int .u8 p.lit.kind) ∧ W.cell? ⟨b, off + i * 7 + 4, none⟩ = some (.bool p.lit.bool) ∧ W.cell? ⟨b, off + i * 7 + 5, none⟩ = some (.int .i64 p.lit.int) ∧ W.cell? ⟨b, off + i * 7 + 6, none⟩ = some (.string p.lit.text)) (by kernel_rfl) (HS.out _ CB0.out) (fun hHeld => ?_)
      refine wpAnyH_take (i := 0) (oi := ⟨some 98, _, _, _, _, _⟩) (v := ?_) rfl (by kernel_rfl) (by kernel_rfl) (by kernel_rfl) (fun _ _ _ h => h) (Or.inl ⟨by rfl, ?_⟩) (by assumption) ?_; rotate_left; (intro w hSw; (try dsimp only at hSw); go_simp; (try with_reducible rfl)); (try simp only [Act.put, List.setIfInBounds_toArray, List.set_cons_zero, List.set_cons_succ])
      refine wpAnyH_take (i := 1) (oi := ⟨some 99, _, _, _, _, _⟩) (v := ?_) rfl (by kernel_rfl) (by kernel_rfl) (by kernel_rfl) (fun _ _ _ h => h) (Or.inl ⟨by rfl, ?_⟩) (by assumption) ?_; rotate_left; (intro w hSw; (try dsimp only at hSw); go_simp; (try with_reducible rfl)); (try simp only [Act.put, List.setIfInBounds_toArray, List.set_cons_zero, List.set_cons_succ])
      refine wpAnyH_take (i := 2) (oi := ⟨some 100, _, _, _, _, _⟩) (v := ?_) rfl (by kernel_rfl) (by kernel_rfl) (by kernel_rfl) (fun _ _ _ h => h) (Or.inl ⟨by rfl, ?_⟩) (by assumption) ?_; rotate_left; (intro w hSw; (try dsimp only at hSw); go_simp; (try with_reducible rfl)); (try simp only [Act.put, List.setIfInBounds_toArray, List.set_cons_zero, List.set_cons_succ])
      refine wpAnyH_take (i := 3) (oi := ⟨some 101, _, _, _, _, _⟩) (v := ?_) rfl (by kernel_rfl) (by kernel_rfl) (by kernel_rfl) (fun _ _ _ h => h) (Or.inl ⟨by rfl, ?_⟩) (by assumption) ?_; rotate_left; (intro w hSw; (try dsimp only at hSw); go_simp; (try with_reducible rfl)); (try simp only [Act.put, List.setIfInBounds_toArray, List.set_cons_zero, List.set_cons_succ])
      refine wpAnyH_take (i := 4) (oi := ⟨some 102, _, _, _, _, _⟩) (v := ?_) rfl (by kernel_rfl) (by kernel_rfl) (by kernel_rfl) (fun _ _ _ h => h) (Or.inl ⟨by rfl, ?_⟩) (by assumption) ?_; rotate_left; (intro w hSw; (try dsimp only at hSw); go_simp; (try with_reducible rfl)); (try simp only [Act.put, List.setIfInBounds_toArray, List.set_cons_zero, List.set_cons_succ])
      refine wpAnyH_take (i := 5) (oi := ⟨some 103, _, _, _, _, _⟩) (v := ?_) rfl (by kernel_rfl) (by kernel_rfl) (by kernel_rfl) (fun _ _ _ h => h) (Or.inl ⟨by rfl, ?_⟩) (by assumption) ?_; rotate_left; (intro w hSw; (try dsimp only at hSw); go_simp; (try with_reducible rfl)); (try simp only [Act.put, List.setIfInBounds_toArray, List.set_cons_zero, List.set_cons_succ])
      refine wpAnyH_take (i := 6) (oi := ⟨some 104, _, _, _, _, _⟩) (v := ?_) rfl (by kernel_rfl) (by kernel_rfl) (by kernel_rfl) (fun _ _ _ h => h) (Or.inl ⟨by rfl, ?_⟩) (by assumption) ?_; rotate_left; (intro w hSw; (try dsimp only at hSw); go_simp; (try with_reducible rfl)); (try simp only [Act.put, List.setIfInBounds_toArray, List.set_cons_zero, List.set_cons_succ])
      refine wpAnyH_take (i := 7) (oi := ⟨some 105, _, _, _, _, _⟩) (v := ?_) rfl (by kernel_rfl) (by kernel_rfl) (by kernel_rfl) (fun _ _ _ h => h) (Or.inl ⟨by rfl, ?_⟩) (by assumption) ?_; rotate_left; (intro w hSw; (try dsimp only at hSw); go_simp; (try with_reducible rfl)); (try simp only [Act.put, List.setIfInBounds_toArray, List.set_cons_zero, List.set_cons_succ])
      refine wpAnyH_take (i := 8) (oi := ⟨some 106, _, _, _, _, _⟩) (v := ?_) rfl (by kernel_rfl) (by kernel_rfl) (by kernel_rfl) (fun _ _ _ h => h) (Or.inl ⟨by rfl, ?_⟩) (by assumption) ?_; rotate_left; (intro w hSw; (try dsimp only at hSw); go_simp; (try with_reducible rfl)); (try simp only [Act.put, List.setIfInBounds_toArray, List.set_cons_zero, List.set_cons_succ])
      refine wpAnyH_take (i := 9) (oi := ⟨some 107, _, _, _, _, _⟩) (v := ?_) rfl (by kernel_rfl) (by kernel_rfl) (by kernel_rfl) (fun _ _ _ h => h) (Or.inl ⟨by rfl, ?_⟩) (by assumption) ?_; rotate_left; (intro w hSw; (try dsimp only at hSw); go_simp; (try with_reducible rfl)); (try simp only [Act.put, List.setIfInBounds_toArray, List.set_cons_zero, List.set_cons_succ])
      refine wpAnyH_take (i := 10) (oi := ⟨some 108, _, _, _, _, _⟩) (v := ?_) rfl (by kernel_rfl) (by kernel_rfl) (by kernel_rfl) (fun _ _ _ h => h) (Or.inl ⟨by rfl, ?_⟩) (by assumption) ?_; rotate_left; (intro w hSw; (try dsimp only at hSw); go_simp; (try with_reducible rfl)); (try simp only [Act.put, List.setIfInBounds_toArray, List.set_cons_zero, List.set_cons_succ])
      refine wpAnyH_ready (rs := [11]) (by kernel_rfl) (by simp) ?_
      refine AllReadyH.cons (o := ⟨some 109, _, _, _, _, _⟩) rfl (fun K9 hK9 => ?_) (AllReadyH.nil)
      go_simp
      go_at_call 77
      with_reducible refine (HCP.out _ CB0.out).mono ?_
      rintro ev V1 ⟨rfl, hbx⟩
      have CB1 := Lib.hid (CB0.out.trans (hbx.mono CB0.out.size))
      clear hbx
      go_wp2_with fail
      refine hK9.out _ _ (HS.out _ CB1.out) (fun hHeld => ?_)
      clear hK9 K9
      skip
      refine wpAnyH_take (i := 12) (oi := ⟨some 110, _, _, _, _, _⟩) (v := ?_) rfl (by kernel_rfl) (by kernel_rfl) (by kernel_rfl) (fun _ _ _ h => h) (Or.inl ⟨by rfl, ?_⟩) (by assumption) ?_; rotate_left; (intro w hSw; (try dsimp only at hSw); go_simp; (try with_reducible rfl)); (try simp only [Act.put, List.setIfInBounds_toArray, List.set_cons_zero, List.set_cons_succ])
      refine wpAnyH_take (i := 13) (oi := ⟨some 111, _, _, _, _, _⟩) (v := ?_) rfl (by kernel_rfl) (by kernel_rfl) (by kernel_rfl) (fun _ _ _ h => h) (Or.inl ⟨by rfl, ?_⟩) (by assumption) ?_; rotate_left; (intro w hSw; (try dsimp only at hSw); go_simp; (try with_reducible rfl)); (try simp only [Act.put, List.setIfInBounds_toArray, List.set_cons_zero, List.set_cons_succ])
      refine wpAnyH_take (i := 14) (oi := ⟨some 5, _, _, _, _, _⟩) (v := ?_) rfl (by kernel_rfl) (by kernel_rfl) (by kernel_rfl) (fun _ _ _ h => h) (Or.inl ⟨by rfl, ?_⟩) (by assumption) ?_; rotate_left; (intro w hSw; (try dsimp only at hSw); go_simp; (try with_reducible rfl)); (try simp only [Act.put, List.setIfInBounds_toArray, List.set_cons_zero, List.set_cons_succ])
      refine wpAnyH_done (by kernel_rfl) ?_ _
      go_wp2_with fail
      go_ret
      exact ⟨rfl, HB1.out.trans (CB1.out.mono HB1.out.size)⟩
def scell (t : ByteArray) : Value := .string t
/-- the texts made so far, in a slice of their own -/
def SSl (w : World) (H K i : Nat) (ts : List ByteArray) : Prop := ts.length = i ∧ w.heap[H]? = some (.cells (ts.map scell ++ List.replicate (K - i) (scell ⟨#[]⟩)).toArray 9 (0, 0))
theorem SSl.size {w : World} {H K i : Nat} {ts : List ByteArray} (h : SSl w H K i ts) : H < w.heap.size := lt_of_heap h.2
theorem SSl.made {w : World} {B H K : Nat} (h : w.ownsRow B 9 1 (.slice (some ⟨H, 0, none⟩) K K) K (madeCells #[.string ⟨#[]⟩] K).toList) : SSl w H K 0 [] := by
  obtain ⟨hl, h⟩ := h
  rcases h with ⟨h, -⟩ | ⟨g, cap, cur, hv, -, hh, -, -, hsz, htk⟩
  · cases h
  · cases hv
    refine ⟨rfl, ?_⟩
    rw [toList_madeCells_one] at htk
    rw [List.take_of_length_le (by simp [hsz])] at htk
    rw [hh]
    have : cur = (List.replicate K (scell ⟨#[]⟩)).toArray := by rw [← Array.toList_inj, htk]; rfl
    rw [this]
    simp
theorem SSl.at {w : World} {H K i : Nat} {ts : List ByteArray} (h : SSl w H K i ts) (hi : i < K) : w.cell? ⟨H, i, none⟩ = some (.string ⟨#[]⟩) := by
  refine cell_of_heap h.2 ?_
  obtain ⟨h1, -⟩ := h
  subst h1
  simp only [List.getElem?_toArray]
  rw [List.getElem?_append_right (by simp)]
  simp only [List.length_map, Nat.sub_self]
  rw [List.getElem?_replicate, if_pos (by omega)]
  rfl
theorem SSl.put {w : World} {H K i : Nat} {ts : List ByteArray} {t : ByteArray} (h : SSl w H K i ts) (hi : i < K) : SSl (w.setCell ⟨H, i, none⟩ (.string t)) H K (i + 1) (ts ++ [t]) := by
  obtain ⟨h1, h2⟩ := h
  refine ⟨by simp [h1], ?_⟩
  rw [heap_setCell_own h2]
  congr 2
  subst h1
  apply Array.ext'
  obtain ⟨m, hm⟩ : ∃ m, K - ts.length = m + 1 := ⟨K - ts.length - 1, by omega⟩
  have hm' : K - (ts.length + 1) = m := by omega
  rw [hm, hm', List.replicate_succ]
  simp only [List.setIfInBounds_toArray, List.map_append, List.map_cons, List.map_nil, List.append_assoc, List.singleton_append]
  rw [List.set_append_right _ _ (by simp)]
  simp [scell]
theorem SSl.below {w w' : World} {H K i : Nat} {ts : List ByteArray} (h : SSl w H K i ts) (hb : Below w.heap.size w w') : SSl w' H K i ts := ⟨h.1, (hb.block H h.size).trans h.2⟩
theorem SSl.cells {w : World} {H K : Nat} {ts : List ByteArray} (h : SSl w H K K ts) : ∀ (j : Nat) x, ts[j]? = some x → w.cell? ⟨H, 0 + j, none⟩ = some (.string x) := fun j x hx => by
  have hl := (List.getElem?_eq_some_iff.1 hx).1
  refine cell_of_heap h.2 ?_
  simp only [List.getElem?_toArray, Nat.zero_add]
  rw [List.getElem?_append_left (by simpa using hl), List.getElem?_map, hx]
  rfl
theorem info9 : (Tryz.prog.info? 9).map (fun i => (i.zero, i.size, i.bytes)) = some (some (.string ⟨#[]⟩), 1, 16) := by kernel_rfl

set_option maxRecDepth 100000 in
set_option maxHeartbeats 4000000 in
theorem w79_22 {bk bw bt tb : Nat} (c : Int) (d : Dat) (ks : List ET) (ih : ∀ k ∈ ks, Wr79 bk bw bt tb k) : Wr79 bk bw bt tb (.mk 22 c d ks) := by
  intro deep kv w hsz hat hfit hg hcl
  obtain ⟨a, cc, rfl, -, hks⟩ := ET.On.iff.1 hat
  have hwz := wr_size _ deep hfit hg
  simp only [ET.fits] at hfit
  obtain ⟨⟨ho0, ho1⟩, ⟨hc0, hc1⟩, hdf, hkl, hfs⟩ := hfit
  have hof := good_op hg
  simp only [ET.op] at hof
  simp only [ET.good, Bool.and_eq_true, decide_eq_true_eq, ET.goods_iff] at hg
  have hkid := own_kids hg.1.1
  have hown := own_mk hg.1.1
  simp only [ET.size] at hsz hwz
  simp only [ET.kids] at hks
  obtain ⟨R, eR⟩ : ∃ R, R = (ET.mk 22 c d ks).wr := ⟨_, rfl⟩
  rw [← eR] at hwz ⊢
  have hR : R = wrOp 22 c d (ET.wrs ks) (ET.kws ks) := by rw [eR]; simp only [ET.wr]
  have HR := Lib.hid hR
  have hRz : R.size ≤ 60000000 := by omega
  have HF := Lib.hid (ET.fitss_iff.1 hfs)
  have HG := Lib.hid hg.2
  have HKS := Lib.hid hks
  have HOWN := Lib.hid hown
  have HDF := Lib.hid hdf
  have HKID := Lib.hid hkid
  have HCL := Lib.hid hcl
  have HSZ : Hid (∀ k ∈ ks, k.size ≤ 12000) := fun k hk => by have := ET.sizes_mem hk; omega
  have HK79 : Hid (∀ (k : ET), k ∈ ks → ∀ (ka : Option Addr) (kc : Nat) (W : World), Below w.heap.size w W → k.At W (.slice ka k.kids.length kc) → Calls Tryz.prog 79 #[.agg #[.int .u8 k.op, .slice ka k.kids.length kc, .int .i64 k.col, .int .u8 k.lit.kind, .bool k.lit.bool, .int .i64 k.lit.int, .string k.lit.text], .pointer (some ⟨bk, 0, none⟩), .pointer (some ⟨bw, 0, none⟩), .pointer (some ⟨bt, 0, none⟩)] W (StPost k.wr W)) := fun k hk ka kc W hb h => ih k hk (deep + 1) _ W (HSZ.out k hk) h (HF.out k hk) (HG.out k hk) (hcl.below hb)
  have HK : Hid (∀ (k : ET), k ∈ ks → ∀ (ka : Option Addr) (kc : Nat) (W : World), Below w.heap.size w W → k.At W (.slice ka k.kids.length kc) → Calls Tryz.prog 77 #[.agg #[.int .u8 k.op, .slice ka k.kids.length kc, .int .i64 k.col, .int .u8 k.lit.kind, .bool k.lit.bool, .int .i64 k.lit.int, .string k.lit.text], .pointer (some ⟨bw, 0, none⟩)] W (StPost k.kw W)) := fun k hk ka kc W hb h => kid_77 k (ih k hk) (deep + 1) _ W (HSZ.out k hk) h (HF.out k hk) (HG.out k hk) (hcl.below hb)
  have HKZ : Hid (∀ k ∈ ks, k.wr.size ≤ 60000000 ∧ k.kw.size ≤ 60000000) := fun k hk => by
    have := wr_size k (deep + 1) (HF.out k hk) (HG.out k hk)
    have := kw_size (HF.out k hk) (HG.out k hk)
    have := HSZ.out k hk
    omega
  clear hwz hfs hg hkid hown hks hat ih eR hR hdf hcl
  unfold ET.agg
  simp only [ET.op, ET.col, ET.lit, ET.kids]
  obtain ⟨K, eK⟩ : ∃ K, K = ks.length := ⟨_, rfl⟩
  rw [← eK] at hkl HKID ⊢
  have EK := Lib.hid eK
  clear eK
  obtain ⟨i0, hi0, hz0, hz1, hz2⟩ := info_parts info9
  have hK : 0 < K := by
    have h := HKID.out
    unfold kidsOk at h
    rw [if_neg (by decide), if_neg (by decide), if_neg (by decide), if_pos rfl] at h
    simpa using h
  obtain ⟨L, eL⟩ : ∃ L, L = ET.wrs ks := ⟨_, rfl⟩
  have hll : L.length = K := by rw [eL, ET.wrs_map, List.length_map, EK.out]
  obtain ⟨J, eJ⟩ : ∃ J, J = joinB L := ⟨_, rfl⟩
  have hRl : R = ((⟨#[99, 111, 97, 108, 101, 115, 99, 101, 40]⟩ : ByteArray) ++ J) ++ (⟨#[41]⟩ : ByteArray) := by rw [HR.out, eJ, eL]; simp [wrOp]
  have hjz : J.size ≤ 60000000 := by
    have := congrArg ByteArray.size hRl
    simp only [bsize_append] at this
    omega
  have hget : ∀ (j : Nat) k, ks[j]? = some k → L[j]? = some k.wr := fun j k hk => by rw [eL, ET.wrs_map, List.getElem?_map, hk]; rfl
  have HLL := Lib.hid hll
  have HGET := Lib.hid hget
  have HEJ := Lib.hid eJ
  have hK12 : K ≤ 12000 := by have := ET.sizes_len ks; have := EK.out; omega
  have hs1 : ¬ (9223372036854775807 < (⟨#[99, 111, 97, 108, 101, 115, 99, 101, 40]⟩ : ByteArray).size + J.size) := by
    have q0 : (⟨#[99, 111, 97, 108, 101, 115, 99, 101, 40]⟩ : ByteArray).size = 9 := rfl
    try simp only [bsize_append]
    omega
  have hs1n0 : ¬ (9223372036854775807 < 9 + J.size) := by
    have q0 : (⟨#[99, 111, 97, 108, 101, 115, 99, 101, 40]⟩ : ByteArray).size = 9 := rfl
    try simp only [bsize_append]
    omega
  have hs2 : ¬ (9223372036854775807 < ((⟨#[99, 111, 97, 108, 101, 115, 99, 101, 40]⟩ : ByteArray) ++ J).size + (⟨#[41]⟩ : ByteArray).size) := by
    have q0 : (⟨#[41]⟩ : ByteArray).size = 1 := rfl
    have q1 : (⟨#[99, 111, 97, 108, 101, 115, 99, 101, 40]⟩ : ByteArray).size = 9 := rfl
    try simp only [bsize_append]
    omega
  have hs2n0 : ¬ (9223372036854775807 < ((⟨#[99, 111, 97, 108, 101, 115, 99, 101, 40]⟩ : ByteArray) ++ J).size + 1) := by
    have q0 : (⟨#[41]⟩ : ByteArray).size = 1 := rfl
    have q1 : (⟨#[99, 111, 97, 108, 101, 115, 99, 101, 40]⟩ : ByteArray).size = 9 := rfl
    try simp only [bsize_append]
    omega
  have hs2n1 : ¬ (9223372036854775807 < 9 + J.size + 1) := by
    have q0 : (⟨#[41]⟩ : ByteArray).size = 1 := rfl
    have q1 : (⟨#[99, 111, 97, 108, 101, 115, 99, 101, 40]⟩ : ByteArray).size = 9 := rfl
    try simp only [bsize_append]
    omega
  obtain ⟨b, off, rfl, -, hats⟩ := HKS.out (fun e => by have := EK.out; rw [e] at this; simp at this; omega)
  have HATS := Lib.hid hats
  clear eL hll hget hats hRz eJ
  subst hRl
  go_enter Tryz.func79, Tryz.ntmps79
  go_wp2_with (at_make; refine wpList_make_full _ rfl _ _ 130 rfl w.heap.size 9 i0 (.string ⟨#[]⟩) 1 Tryz.underlying130 hi0 hz0 hz1 .i64 .i64 (K : Int) (K : Int) K rfl rfl rfl rfl (by rw [hz2]; omega) (by unfold maxLen; omega) (by simp) ?_)
  intro w1 ho1 hg1
  have hks1 := SSl.made ho1
  have hb1 : Below w.heap.size w w1 := (one_below w _).grown hg1 (by simp) (by intro k hk; cases hk)
  have hbx := hg1.block w.heap.size (by simp) (by simp)
  rw [heap_alloc_new] at hbx
  have c1 : w1.cell? ⟨w.heap.size, 1, none⟩ = some (.slice (some ⟨b, off, none⟩) K cc) := cell_of_heap hbx rfl
  obtain ⟨H, eH⟩ : ∃ H, H = w.heap.size + 1 := ⟨_, rfl⟩
  rw [← eH] at hks1 ⊢
  have EH := Lib.hid eH
  have HKS1 := Lib.hid hks1
  have HB1 := Lib.hid hb1
  clear ho1 hg1 hks1 hb1 hbx eH
  go_wp2_with fail
  go_loopg [121] K (fun g s121 wr => ∃ (i : Nat) (ts : List ByteArray), i ≤ K ∧ g = K - i ∧ s121 = .int .i64 i ∧ SSl wr H K i ts ∧ Hid (ts = L.take i) ∧ Below w.heap.size w wr)
  case atStart => exact ⟨0, [], Nat.zero_le _, rfl, rfl, HKS1.out, Lib.hid rfl, HB1.out⟩
  case round =>
    obtain ⟨i, ts, hi, rfl, rfl, hks, HTS, hbr⟩ := hrel
    have HKSL := Lib.hid hks
    have HBR := Lib.hid hbr
    clear c1
    by_cases hlt : i < K
    · obtain ⟨k, hk⟩ : ∃ k, ks[i]? = some k := ⟨ks[i]'(by rw [← EK.out]; exact hlt), List.getElem?_eq_getElem _⟩
      have hm := List.mem_of_getElem? hk
      obtain ⟨ka, kc, hkc, hkat⟩ := kids_get HATS.out (i := i) (k := k) hk
      obtain ⟨k0, k1, k2, k3, k4, k5, k6⟩ := hkc.below hbr
      obtain ⟨V, eV⟩ : ∃ V, V = k.wr := ⟨_, rfl⟩
      have hct := fun (W : World) (hb : Below w.heap.size w W) => HK79.out k hm ka kc W hb (hkat.below hb)
      rw [← eV] at hct
      have HCT := Lib.hid hct
      have htk : L.take (i + 1) = L.take i ++ [V] := by
        have hg := HGET.out i k hk
        rw [List.take_succ_eq_append_getElem (by exact (List.getElem?_eq_some_iff.1 hg).1), (List.getElem?_eq_some_iff.1 hg).2, ← eV]
      have HTK := Lib.hid htk
      have cw := fun (A : Obj) => ((HCL.out.below hbr).below (one_below wr A)).wr
      have cwl : bw < wr.heap.size := World.block_lt_of_cell? wr _ (HCL.out.below hbr).wr
      clear hk hkc hkat eV hct htk hm hks hbr
      go_wp2_with fail
      refine (HCT.out _ ?bb).mono ?_
      case bb => exact HBR.out.alloc HBR.out.size _
      rintro ev w2 ⟨rfl, hb2⟩
      have hbw : Below wr.heap.size wr w2 := (one_below wr _).trans (hb2.mono (by simp))
      have hk2 := HKSL.out.below hbw
      have e0 := hk2.at hlt
      have e1 := frozen_of_heap (o := i) hk2.2
      have HB3 := Lib.hid (HBR.out.trans (hbw.mono HBR.out.size))
      have HK2 := Lib.hid hk2
      have hpb : w.heap.size ≤ H := by have := EH.out; omega
      have HPB := Lib.hid hpb
      clear k0 k1 k2 k3 k4 k5 k6 cw cwl hb2 hbw hk2 HCT hpb
      go_wp2_with fail
      go_roundg (K - (i + 1))
      case measure => omega
      case rel => exact ⟨i + 1, ts ++ [V], by omega, rfl, by go_num, HK2.out.put hlt, Lib.hid (by rw [HTK.out, HTS.out]), HB3.out.setCell (p := ⟨H, i, none⟩) HPB.out _⟩
    · obtain rfl : i = K := by omega
      have htl : ts = L := by rw [HTS.out, List.take_of_length_le (by rw [HLL.out]; exact Nat.le_refl _)]
      have hjl := joinB_lib ts
      have hjn : (⟨#[44, 32]⟩ : ByteArray).data.toList = [44, 32] := rfl
      have hts : ts.length = i := hks.1
      have hJn := Tryz.strings_Join H 0 i ts ⟨#[44, 32]⟩ wr hks.cells hks.size (by omega) (by omega) (by
        rw [hjn]
        have h := congrArg ByteArray.size hjl
        rw [lit_sz, List.size_toArray, htl, ← HEJ.out] at h
        rw [htl]; omega)
      rw [hjn, hjl, htl, ← HEJ.out, HLL.out] at hJn
      have HJN := Lib.hid hJn
      clear hks htl hjl hjn hts hJn hbr
      go_wp2_with fail
      refine HJN.out.mono ?_
      rintro ev w2 ⟨rfl, hb2⟩
      have HB2 := Lib.hid (HBR.out.trans (hb2.mono HBR.out.size))
      clear hb2
      go_wp2_with fail
      go_ret
      exact ⟨rfl, HB2.out⟩

set_option maxRecDepth 100000 in
set_option maxHeartbeats 4000000 in
theorem w79_23 {bk bw bt tb : Nat} (c : Int) (d : Dat) (ks : List ET) (ih : ∀ k ∈ ks, Wr79 bk bw bt tb k) : Wr79 bk bw bt tb (.mk 23 c d ks) := by
  intro deep kv w hsz hat hfit hg hcl
  obtain ⟨a, cc, rfl, -, hks⟩ := ET.On.iff.1 hat
  have hwz := wr_size _ deep hfit hg
  simp only [ET.fits] at hfit
  obtain ⟨⟨ho0, ho1⟩, ⟨hc0, hc1⟩, hdf, hkl, hfs⟩ := hfit
  have hof := good_op hg
  simp only [ET.op] at hof
  simp only [ET.good, Bool.and_eq_true, decide_eq_true_eq, ET.goods_iff] at hg
  have hkid := own_kids hg.1.1
  have hown := own_mk hg.1.1
  simp only [ET.size] at hsz hwz
  simp only [ET.kids] at hks
  obtain ⟨R, eR⟩ : ∃ R, R = (ET.mk 23 c d ks).wr := ⟨_, rfl⟩
  rw [← eR] at hwz ⊢
  have hR : R = wrOp 23 c d (ET.wrs ks) (ET.kws ks) := by rw [eR]; simp only [ET.wr]
  have HR := Lib.hid hR
  have hRz : R.size ≤ 60000000 := by omega
  have HF := Lib.hid (ET.fitss_iff.1 hfs)
  have HG := Lib.hid hg.2
  have HKS := Lib.hid hks
  have HOWN := Lib.hid hown
  have HDF := Lib.hid hdf
  have HKID := Lib.hid hkid
  have HCL := Lib.hid hcl
  have HSZ : Hid (∀ k ∈ ks, k.size ≤ 12000) := fun k hk => by have := ET.sizes_mem hk; omega
  have HK79 : Hid (∀ (k : ET), k ∈ ks → ∀ (ka : Option Addr) (kc : Nat) (W : World), Below w.heap.size w W → k.At W (.slice ka k.kids.length kc) → Calls Tryz.prog 79 #[.agg #[.int .u8 k.op, .slice ka k.kids.length kc, .int .i64 k.col, .int .u8 k.lit.kind, .bool k.lit.bool, .int .i64 k.lit.int, .string k.lit.text], .pointer (some ⟨bk, 0, none⟩), .pointer (some ⟨bw, 0, none⟩), .pointer (some ⟨bt, 0, none⟩)] W (StPost k.wr W)) := fun k hk ka kc W hb h => ih k hk (deep + 1) _ W (HSZ.out k hk) h (HF.out k hk) (HG.out k hk) (hcl.below hb)
  have HK : Hid (∀ (k : ET), k ∈ ks → ∀ (ka : Option Addr) (kc : Nat) (W : World), Below w.heap.size w W → k.At W (.slice ka k.kids.length kc) → Calls Tryz.prog 77 #[.agg #[.int .u8 k.op, .slice ka k.kids.length kc, .int .i64 k.col, .int .u8 k.lit.kind, .bool k.lit.bool, .int .i64 k.lit.int, .string k.lit.text], .pointer (some ⟨bw, 0, none⟩)] W (StPost k.kw W)) := fun k hk ka kc W hb h => kid_77 k (ih k hk) (deep + 1) _ W (HSZ.out k hk) h (HF.out k hk) (HG.out k hk) (hcl.below hb)
  have HKZ : Hid (∀ k ∈ ks, k.wr.size ≤ 60000000 ∧ k.kw.size ≤ 60000000) := fun k hk => by
    have := wr_size k (deep + 1) (HF.out k hk) (HG.out k hk)
    have := kw_size (HF.out k hk) (HG.out k hk)
    have := HSZ.out k hk
    omega
  clear hwz hfs hg hkid hown hks hat ih eR hR hdf hcl
  unfold ET.agg
  simp only [ET.op, ET.col, ET.lit, ET.kids]
  obtain ⟨K, eK⟩ : ∃ K, K = ks.length := ⟨_, rfl⟩
  rw [← eK] at hkl HKID ⊢
  have EK := Lib.hid eK
  clear eK
  obtain ⟨V, eV⟩ : ∃ V, V = (⟨(Lib.itoa d.int).toArray⟩ : ByteArray) := ⟨_, rfl⟩
  have hct := fun (W : World) (hb : Below w.heap.size w W) => Tryz.strconv_FormatInt_10 d.int HDF.out.2.1.1 HDF.out.2.1.2 W (HCL.out.below hb).g.pow
  rw [← eV] at hct
  have HCT := Lib.hid hct
  have hRv : R = ((⟨#[102, 97, 105, 108, 32]⟩ : ByteArray) ++ V) := by rw [HR.out, eV]; simp [wrOp]
  have hz : V.size ≤ 60000000 := by
    have := congrArg ByteArray.size hRv
    try simp only [bsize_append] at this
    omega
  have hs1 : ¬ (9223372036854775807 < (⟨#[102, 97, 105, 108, 32]⟩ : ByteArray).size + V.size) := by
    have q0 : (⟨#[102, 97, 105, 108, 32]⟩ : ByteArray).size = 5 := rfl
    try simp only [bsize_append]
    omega
  have hs1n0 : ¬ (9223372036854775807 < 5 + V.size) := by
    have q0 : (⟨#[102, 97, 105, 108, 32]⟩ : ByteArray).size = 5 := rfl
    try simp only [bsize_append]
    omega
  subst hRv
  clear eV hct
  go_enter Tryz.func79, Tryz.ntmps79
  go_wp2_with fail
  refine (HCT.out _ (one_below _ _)).mono ?_
  rintro ev w2 ⟨rfl, kk, os, hw2⟩
  have HB2 := Lib.hid ((one_below w _).trans ((show Below _ _ w2 by rw [hw2]; exact grow_drew_below).mono (by simp)))
  clear hw2
  clear HCT
  go_wp2_with fail
  go_ret
  exact ⟨rfl, HB2.out⟩

set_option maxRecDepth 100000 in
set_option maxHeartbeats 4000000 in
theorem w79_two {bk bw bt tb : Nat} (u : Nat) (ho : (u : Int) = 4 ∨ (u : Int) = 5 ∨ (u : Int) = 6 ∨ (u : Int) = 7 ∨ (u : Int) = 8 ∨ (u : Int) = 9 ∨ (u : Int) = 11 ∨ (u : Int) = 12 ∨ (u : Int) = 13 ∨ (u : Int) = 14 ∨ (u : Int) = 15 ∨ (u : Int) = 16 ∨ (u : Int) = 18 ∨ (u : Int) = 19) (c : Int) (d : Dat) (ks : List ET) (ih : ∀ k ∈ ks, Wr79 bk bw bt tb k) : Wr79 bk bw bt tb (.mk (u : Int) c d ks) := by
  intro deep kv w hsz hat hfit hg hcl
  obtain ⟨a, cc, rfl, -, hks⟩ := ET.On.iff.1 hat
  have hwz := wr_size _ deep hfit hg
  simp only [ET.fits] at hfit
  obtain ⟨⟨ho0, ho1⟩, ⟨hc0, hc1⟩, hdf, hkl, hfs⟩ := hfit
  have hof := good_op hg
  simp only [ET.op] at hof
  simp only [ET.good, Bool.and_eq_true, decide_eq_true_eq, ET.goods_iff] at hg
  have hkid := own_kids hg.1.1
  have hown := own_mk hg.1.1
  simp only [ET.size] at hsz hwz
  simp only [ET.kids] at hks
  obtain ⟨R, eR⟩ : ∃ R, R = (ET.mk (u : Int) c d ks).wr := ⟨_, rfl⟩
  rw [← eR] at hwz ⊢
  have hR : R = wrOp (u : Int) c d (ET.wrs ks) (ET.kws ks) := by rw [eR]; simp only [ET.wr]
  have HR := Lib.hid hR
  have hRz : R.size ≤ 60000000 := by omega
  have HF := Lib.hid (ET.fitss_iff.1 hfs)
  have HG := Lib.hid hg.2
  have HKS := Lib.hid hks
  have HOWN := Lib.hid hown
  have HDF := Lib.hid hdf
  have HKID := Lib.hid hkid
  have HCL := Lib.hid hcl
  have HSZ : Hid (∀ k ∈ ks, k.size ≤ 12000) := fun k hk => by have := ET.sizes_mem hk; omega
  have HK79 : Hid (∀ (k : ET), k ∈ ks → ∀ (ka : Option Addr) (kc : Nat) (W : World), Below w.heap.size w W → k.At W (.slice ka k.kids.length kc) → Calls Tryz.prog 79 #[.agg #[.int .u8 k.op, .slice ka k.kids.length kc, .int .i64 k.col, .int .u8 k.lit.kind, .bool k.lit.bool, .int .i64 k.lit.int, .string k.lit.text], .pointer (some ⟨bk, 0, none⟩), .pointer (some ⟨bw, 0, none⟩), .pointer (some ⟨bt, 0, none⟩)] W (StPost k.wr W)) := fun k hk ka kc W hb h => ih k hk (deep + 1) _ W (HSZ.out k hk) h (HF.out k hk) (HG.out k hk) (hcl.below hb)
  have HK : Hid (∀ (k : ET), k ∈ ks → ∀ (ka : Option Addr) (kc : Nat) (W : World), Below w.heap.size w W → k.At W (.slice ka k.kids.length kc) → Calls Tryz.prog 77 #[.agg #[.int .u8 k.op, .slice ka k.kids.length kc, .int .i64 k.col, .int .u8 k.lit.kind, .bool k.lit.bool, .int .i64 k.lit.int, .string k.lit.text], .pointer (some ⟨bw, 0, none⟩)] W (StPost k.kw W)) := fun k hk ka kc W hb h => kid_77 k (ih k hk) (deep + 1) _ W (HSZ.out k hk) h (HF.out k hk) (HG.out k hk) (hcl.below hb)
  have HKZ : Hid (∀ k ∈ ks, k.wr.size ≤ 60000000 ∧ k.kw.size ≤ 60000000) := fun k hk => by
    have := wr_size k (deep + 1) (HF.out k hk) (HG.out k hk)
    have := kw_size (HF.out k hk) (HG.out k hk)
    have := HSZ.out k hk
    omega
  clear hwz hfs hg hkid hown hks hat ih eR hR hdf hcl
  unfold ET.agg
  simp only [ET.op, ET.col, ET.lit, ET.kids]
  obtain ⟨K, eK⟩ : ∃ K, K = ks.length := ⟨_, rfl⟩
  rw [← eK] at hkl HKID ⊢
  have EK := Lib.hid eK
  clear eK
  have hu : u < 24 ∧ 3 < u := by omega
  have hl : ks.length = 2 := by
    have h := HKID.out
    unfold kidsOk at h
    rw [if_neg (by omega), if_neg (by omega), if_neg (by omega), if_neg (by omega)] at h
    simp only [Bool.and_eq_true, beq_iff_eq] at h
    rw [← EK.out]; exact h.2
  obtain ⟨p, q, rfl⟩ : ∃ p q, ks = [p, q] := by
    rcases ks with _ | ⟨p, _ | ⟨q, _ | ⟨r, t⟩⟩⟩
    · simp at hl
    · simp at hl
    · exact ⟨p, q, rfl⟩
    · simp at hl
  have hK2 : K = 2 := EK.out.trans hl
  subst hK2
  obtain ⟨b, off, rfl, -, hats⟩ := HKS.out (by simp)
  obtain ⟨pa, pc, phc, pat⟩ := kids_get hats (i := 0) (k := p) rfl
  obtain ⟨qa, qc, qhc, qat⟩ := kids_get hats (i := 1) (k := q) rfl
  rw [Nat.zero_mul, Nat.add_zero] at phc
  rw [Nat.one_mul] at qhc
  obtain ⟨P, eP⟩ : ∃ P, P = p.kw := ⟨_, rfl⟩
  obtain ⟨Q, eQ⟩ : ∃ Q, Q = q.kw := ⟨_, rfl⟩
  obtain ⟨G, eG⟩ : ∃ G, G = signB u := ⟨_, rfl⟩
  have hpz : P.size ≤ 60000000 := by rw [eP]; exact (HKZ.out p (by simp)).2
  have hqz : Q.size ≤ 60000000 := by rw [eQ]; exact (HKZ.out q (by simp)).2
  have hgz : G.size ≤ 3 := by rw [eG]; exact signB_size u
  have hRv : R = ((((P ++ (⟨#[32]⟩ : ByteArray)) ++ G) ++ (⟨#[32]⟩ : ByteArray)) ++ Q) := by
    rw [HR.out, eP, eQ, eG]
    unfold wrOp
    rw [if_neg (by omega), if_neg (by omega), if_neg (by omega), if_neg (by omega), if_neg (by omega), if_neg (by omega), if_neg (by omega), if_neg (by omega), if_neg (by omega)]
    simp [ET.kws, ET.kw]
  obtain ⟨H, eH⟩ : ∃ H, H = w.heap.size := ⟨_, rfl⟩
  have EH := Lib.hid eH
  have hcp := fun (w1 : World) (h1 : Below w.heap.size w w1) (W : World) (hb : Below w1.heap.size w1 W) => HK.out p (by simp) pa pc W (h1.trans (hb.mono h1.size)) ((pat.below h1).below hb)
  have hcq := fun (w1 : World) (h1 : Below w.heap.size w w1) (W : World) (hb : Below w1.heap.size w1 W) => HK.out q (by simp) qa qc W (h1.trans (hb.mono h1.size)) ((qat.below h1).below hb)
  have hsg : ∀ W, Cl bk bw bt tb W → W.cell? ⟨tb, u, none⟩ = some (.string G) := fun W h => by
    rw [eG]; exact h.s (u : Int) ho
  rw [← eP] at hcp
  rw [← eQ] at hcq
  have HCP0 := Lib.hid hcp
  have HCQ0 := Lib.hid hcq
  have HSG := Lib.hid hsg
  have PHC := Lib.hid phc
  have QHC := Lib.hid qhc
  have n1 : ((u : Int) == 1) = false := by simp; omega
  have n2 : ((u : Int) == 2) = false := by simp; omega
  have n23 : ((u : Int) == 23) = false := by simp; omega
  have n3 : ((u : Int) == 3) = false := by simp; omega
  have n10 : ((u : Int) == 10) = false := by simp; omega
  have n17 : ((u : Int) == 17) = false := by simp; omega
  have n20 : ((u : Int) == 20) = false := by simp; omega
  have n21 : ((u : Int) == 21) = false := by simp; omega
  have n22 : ((u : Int) == 22) = false := by simp; omega
  have m1 : (u == 1) = false := by simp; omega
  have m2 : (u == 2) = false := by simp; omega
  have m23 : (u == 23) = false := by simp; omega
  have m3 : (u == 3) = false := by simp; omega
  have m10 : (u == 10) = false := by simp; omega
  have m17 : (u == 17) = false := by simp; omega
  have m20 : (u == 20) = false := by simp; omega
  have m21 : (u == 21) = false := by simp; omega
  have m22 : (u == 22) = false := by simp; omega
  have hs1 : ¬ (9223372036854775807 < P.size + (⟨#[32]⟩ : ByteArray).size) := by
    have q0 : (⟨#[32]⟩ : ByteArray).size = 1 := rfl
    try simp only [bsize_append]
    omega
  have hs1n0 : ¬ (9223372036854775807 < P.size + 1) := by
    have q0 : (⟨#[32]⟩ : ByteArray).size = 1 := rfl
    try simp only [bsize_append]
    omega
  have hs2 : ¬ (9223372036854775807 < (P ++ (⟨#[32]⟩ : ByteArray)).size + G.size) := by
    have q0 : (⟨#[32]⟩ : ByteArray).size = 1 := rfl
    try simp only [bsize_append]
    omega
  have hs2n0 : ¬ (9223372036854775807 < (P ++ (⟨#[32]⟩ : ByteArray)).size + G.size) := by
    have q0 : (⟨#[32]⟩ : ByteArray).size = 1 := rfl
    try simp only [bsize_append]
    omega
  have hs2n1 : ¬ (9223372036854775807 < P.size + 1 + G.size) := by
    have q0 : (⟨#[32]⟩ : ByteArray).size = 1 := rfl
    try simp only [bsize_append]
    omega
  have hs3 : ¬ (9223372036854775807 < ((P ++ (⟨#[32]⟩ : ByteArray)) ++ G).size + (⟨#[32]⟩ : ByteArray).size) := by
    have q0 : (⟨#[32]⟩ : ByteArray).size = 1 := rfl
    try simp only [bsize_append]
    omega
  have hs3n0 : ¬ (9223372036854775807 < ((P ++ (⟨#[32]⟩ : ByteArray)) ++ G).size + 1) := by
    have q0 : (⟨#[32]⟩ : ByteArray).size = 1 := rfl
    try simp only [bsize_append]
    omega
  have hs3n1 : ¬ (9223372036854775807 < P.size + 1 + G.size + 1) := by
    have q0 : (⟨#[32]⟩ : ByteArray).size = 1 := rfl
    try simp only [bsize_append]
    omega
  have hs4 : ¬ (9223372036854775807 < (((P ++ (⟨#[32]⟩ : ByteArray)) ++ G) ++ (⟨#[32]⟩ : ByteArray)).size + Q.size) := by
    have q0 : (⟨#[32]⟩ : ByteArray).size = 1 := rfl
    try simp only [bsize_append]
    omega
  have hs4n0 : ¬ (9223372036854775807 < (((P ++ (⟨#[32]⟩ : ByteArray)) ++ G) ++ (⟨#[32]⟩ : ByteArray)).size + Q.size) := by
    have q0 : (⟨#[32]⟩ : ByteArray).size = 1 := rfl
    try simp only [bsize_append]
    omega
  have hs4n1 : ¬ (9223372036854775807 < P.size + 1 + G.size + 1 + Q.size) := by
    have q0 : (⟨#[32]⟩ : ByteArray).size = 1 := rfl
    try simp only [bsize_append]
    omega
  obtain ⟨hu1, hu2⟩ := hu
  have hu3 : (u : Int) < 24 := by omega
  subst hRv
  clear hats phc qhc pat qat eP eQ eG eH hcp hcq hsg hl hRz ho
  go_enter Tryz.func79, Tryz.ntmps79
  go_wp2_with fail
  obtain ⟨w1, hw1⟩ : ∃ w1, w1 = w.alloc (.cells #[.int .u8 u, .slice (some ⟨b, off, none⟩) 2 cc, .int .i64 c, .int .u8 d.kind, .bool d.bool, .int .i64 d.int, .string d.text] 27) := ⟨_, rfl⟩
  have hb1 : Below w.heap.size w w1 := by rw [hw1]; exact one_below _ _
  have kh : w1.heap[H]? = some (.cells #[.int .u8 u, .slice (some ⟨b, off, none⟩) 2 cc, .int .i64 c, .int .u8 d.kind, .bool d.bool, .int .i64 d.int, .string d.text] 27 (0, 0)) := by rw [hw1, EH.out]; exact heap_alloc_new _ _
  rw [← hw1, ← EH.out]
  have HB1 := Lib.hid hb1
  have KH := Lib.hid kh
  clear hw1 hb1 kh
  have hSS : ∀ W, Below w1.heap.size w1 W → W.cell? ⟨bk, 0, none⟩ = some (.func (.func 77) #[] #[.pointer (some ⟨bw, 0, none⟩)]) ∧ W.cell? ⟨bt, 0, none⟩ = some (.slice (some ⟨tb, 0, none⟩) 24 24) ∧ W.cell? ⟨tb, u, none⟩ = some (.string G) ∧ W.cell? ⟨H, 0, none⟩ = some (.int .u8 u) ∧ W.cell? ⟨H, 1, none⟩ = some (.slice (some ⟨b, off, none⟩) 2 cc) ∧ W.cell? ⟨b, off, none⟩ = some (.int .u8 p.op) ∧ W.cell? ⟨b, off + 1, none⟩ = some (.slice pa p.kids.length pc) ∧ W.cell? ⟨b, off + 2, none⟩ = some (.int .i64 p.col) ∧ W.cell? ⟨b, off + 3, none⟩ = some (.int .u8 p.lit.kind) ∧ W.cell? ⟨b, off + 4, none⟩ = some (.bool p.lit.bool) ∧ W.cell? ⟨b, off + 5, none⟩ = some (.int .i64 p.lit.int) ∧ W.cell? ⟨b, off + 6, none⟩ = some (.string p.lit.text) ∧ W.cell? ⟨b, off + 7, none⟩ = some (.int .u8 q.op) ∧ W.cell? ⟨b, off + 7 + 1, none⟩ = some (.slice qa q.kids.length qc) ∧ W.cell? ⟨b, off + 7 + 2, none⟩ = some (.int .i64 q.col) ∧ W.cell? ⟨b, off + 7 + 3, none⟩ = some (.int .u8 q.lit.kind) ∧ W.cell? ⟨b, off + 7 + 4, none⟩ = some (.bool q.lit.bool) ∧ W.cell? ⟨b, off + 7 + 5, none⟩ = some (.int .i64 q.lit.int) ∧ W.cell? ⟨b, off + 7 + 6, none⟩ = some (.string q.lit.text) := fun W hb => by
    have h1 := (PHC.out.below HB1.out).below hb
    have h2 := (QHC.out.below HB1.out).below hb
    have h3 := (HCL.out.below HB1.out).below hb
    have hk := (hb.block H (lt_of_heap KH.out)).trans KH.out
    exact ⟨h3.k, h3.t, HSG.out _ h3, cell_of_heap hk rfl, cell_of_heap hk rfl, h1.1, h1.2.1, h1.2.2.1, h1.2.2.2.1, h1.2.2.2.2.1, h1.2.2.2.2.2.1, h1.2.2.2.2.2.2, h2.1, h2.2.1, h2.2.2.1, h2.2.2.2.1, h2.2.2.2.2.1, h2.2.2.2.2.2.1, h2.2.2.2.2.2.2⟩
  have HS := Lib.hid hSS
  have HCP := Lib.hid (HCP0.out w1 HB1.out)
  have HCQ := Lib.hid (HCQ0.out w1 HB1.out)
  clear hSS
  have CB0 := Lib.hid (show Below w1.heap.size w1 w1.drew from ⟨rfl, rfl, rfl, Nat.le_refl _, fun _ _ => rfl⟩)
  refine wp_region_held_drew (S := fun W => W.cell? ⟨bk, 0, none⟩ = some (.func (.func 77) #[] #[.pointer (some ⟨bw, 0, none⟩)]) ∧ W.cell? ⟨bt, 0, none⟩ = some (.slice (some ⟨tb, 0, none⟩) 24 24) ∧ W.cell? ⟨tb, u, none⟩ = some (.string G) ∧ W.cell? ⟨H, 0, none⟩ = some (.int .u8 u) ∧ W.cell? ⟨H, 1, none⟩ = some (.slice (some ⟨b, off, none⟩) 2 cc) ∧ W.cell? ⟨b, off, none⟩ = some (.int .u8 p.op) ∧ W.cell? ⟨b, off + 1, none⟩ = some (.slice pa p.kids.length pc) ∧ W.cell? ⟨b, off + 2, none⟩ = some (.int .i64 p.col) ∧ W.cell? ⟨b, off + 3, none⟩ = some (.int .u8 p.lit.kind) ∧ W.cell? ⟨b, off + 4, none⟩ = some (.bool p.lit.bool) ∧ W.cell? ⟨b, off + 5, none⟩ = some (.int .i64 p.lit.int) ∧ W.cell? ⟨b, off + 6, none⟩ = some (.string p.lit.text) ∧ W.cell? ⟨b, off + 7, none⟩ = some (.int .u8 q.op) ∧ W.cell? ⟨b, off + 7 + 1, none⟩ = some (.slice qa q.kids.length qc) ∧ W.cell? ⟨b, off + 7 + 2, none⟩ = some (.int .i64 q.col) ∧ W.cell? ⟨b, off + 7 + 3, none⟩ = some (.int .u8 q.lit.kind) ∧ W.cell? ⟨b, off + 7 + 4, none⟩ = some (.bool q.lit.bool) ∧ W.cell? ⟨b, off + 7 + 5, none⟩ = some (.int .i64 q.lit.int) ∧ W.cell? ⟨b, off + 7 + 6, none⟩ = some (.string q.lit.text)) (by kernel_rfl) (HS.out _ CB0.out) (fun hHeld => ?_)
  refine wpAnyH_take (i := 0) (oi := ⟨some 137, _, _, _, _, _⟩) (v := ?_) rfl (by kernel_rfl) (by kernel_rfl) (by kernel_rfl) (fun _ _ _ h => h) (Or.inl ⟨by rfl, ?_⟩) (by assumption) ?_; rotate_left; (intro w hSw; (try dsimp only at hSw); go_simp; (try with_reducible rfl)); (try simp only [Act.put, List.setIfInBounds_toArray, List.set_cons_zero, List.set_cons_succ])
  refine wpAnyH_take (i := 1) (oi := ⟨some 138, _, _, _, _, _⟩) (v := ?_) rfl (by kernel_rfl) (by kernel_rfl) (by kernel_rfl) (fun _ _ _ h => h) (Or.inl ⟨by rfl, ?_⟩) (by assumption) ?_; rotate_left; (intro w hSw; (try dsimp only at hSw); go_simp; (try with_reducible rfl)); (try simp only [Act.put, List.setIfInBounds_toArray, List.set_cons_zero, List.set_cons_succ])
  refine wpAnyH_take (i := 2) (oi := ⟨some 139, _, _, _, _, _⟩) (v := ?_) rfl (by kernel_rfl) (by kernel_rfl) (by kernel_rfl) (fun _ _ _ h => h) (Or.inl ⟨by rfl, ?_⟩) (by assumption) ?_; rotate_left; (intro w hSw; (try dsimp only at hSw); go_simp; (try with_reducible rfl)); (try simp only [Act.put, List.setIfInBounds_toArray, List.set_cons_zero, List.set_cons_succ])
  refine wpAnyH_take (i := 3) (oi := ⟨some 140, _, _, _, _, _⟩) (v := ?_) rfl (by kernel_rfl) (by kernel_rfl) (by kernel_rfl) (fun _ _ _ h => h) (Or.inl ⟨by rfl, ?_⟩) (by assumption) ?_; rotate_left; (intro w hSw; (try dsimp only at hSw); go_simp; (try with_reducible rfl)); (try simp only [Act.put, List.setIfInBounds_toArray, List.set_cons_zero, List.set_cons_succ])
  refine wpAnyH_take (i := 4) (oi := ⟨some 141, _, _, _, _, _⟩) (v := ?_) rfl (by kernel_rfl) (by kernel_rfl) (by kernel_rfl) (fun _ _ _ h => h) (Or.inl ⟨by rfl, ?_⟩) (by assumption) ?_; rotate_left; (intro w hSw; (try dsimp only at hSw); go_simp; (try with_reducible rfl)); (try simp only [Act.put, List.setIfInBounds_toArray, List.set_cons_zero, List.set_cons_succ])
  refine wpAnyH_take (i := 7) (oi := ⟨some 144, _, _, _, _, _⟩) (v := ?_) rfl (by kernel_rfl) (by kernel_rfl) (by kernel_rfl) (fun _ _ _ h => h) (Or.inl ⟨by rfl, ?_⟩) (by assumption) ?_; rotate_left; (intro w hSw; (try dsimp only at hSw); go_simp; (try with_reducible rfl)); (try simp only [Act.put, List.setIfInBounds_toArray, List.set_cons_zero, List.set_cons_succ])
  refine wpAnyH_take (i := 8) (oi := ⟨some 145, _, _, _, _, _⟩) (v := ?_) rfl (by kernel_rfl) (by kernel_rfl) (by kernel_rfl) (fun _ _ _ h => h) (Or.inl ⟨by rfl, ?_⟩) (by assumption) ?_; rotate_left; (intro w hSw; (try dsimp only at hSw); go_simp; (try with_reducible rfl)); (try simp only [Act.put, List.setIfInBounds_toArray, List.set_cons_zero, List.set_cons_succ])
  refine wpAnyH_take (i := 9) (oi := ⟨some 146, _, _, _, _, _⟩) (v := ?_) rfl (by kernel_rfl) (by kernel_rfl) (by kernel_rfl) (fun _ _ _ h => h) (Or.inl ⟨by rfl, ?_⟩) (by assumption) ?_; rotate_left; (intro w hSw; (try dsimp only at hSw); go_simp; (try with_reducible rfl)); (try simp only [Act.put, List.setIfInBounds_toArray, List.set_cons_zero, List.set_cons_succ])
  refine wpAnyH_take (i := 10) (oi := ⟨some 147, _, _, _, _, _⟩) (v := ?_) rfl (by kernel_rfl) (by kernel_rfl) (by kernel_rfl) (fun _ _ _ h => h) (Or.inl ⟨by rfl, ?_⟩) (by assumption) ?_; rotate_left; (intro w hSw; (try dsimp only at hSw); go_simp; (try with_reducible rfl)); (try simp only [Act.put, List.setIfInBounds_toArray, List.set_cons_zero, List.set_cons_succ])
  refine wpAnyH_take (i := 11) (oi := ⟨some 148, _, _, _, _, _⟩) (v := ?_) rfl (by kernel_rfl) (by kernel_rfl) (by kernel_rfl) (fun _ _ _ h => h) (Or.inl ⟨by rfl, ?_⟩) (by assumption) ?_; rotate_left; (intro w hSw; (try dsimp only at hSw); go_simp; (try with_reducible rfl)); (try simp only [Act.put, List.setIfInBounds_toArray, List.set_cons_zero, List.set_cons_succ])
  refine wpAnyH_take (i := 14) (oi := ⟨some 151, _, _, _, _, _⟩) (v := ?_) rfl (by kernel_rfl) (by kernel_rfl) (by kernel_rfl) (fun _ _ _ h => h) (Or.inl ⟨by rfl, ?_⟩) (by assumption) ?_; rotate_left; (intro w hSw; (try dsimp only at hSw); go_simp; (try with_reducible rfl)); (try simp only [Act.put, List.setIfInBounds_toArray, List.set_cons_zero, List.set_cons_succ])
  refine wpAnyH_take (i := 15) (oi := ⟨some 152, _, _, _, _, _⟩) (v := ?_) rfl (by kernel_rfl) (by kernel_rfl) (by kernel_rfl) (fun _ _ _ h => h) (Or.inl ⟨by rfl, ?_⟩) (by assumption) ?_; rotate_left; (intro w hSw; (try dsimp only at hSw); go_simp; (try with_reducible rfl)); (try simp only [Act.put, List.setIfInBounds_toArray, List.set_cons_zero, List.set_cons_succ])
  refine wpAnyH_take (i := 16) (oi := ⟨some 153, _, _, _, _, _⟩) (v := ?_) rfl (by kernel_rfl) (by kernel_rfl) (by kernel_rfl) (fun _ _ _ h => h) (Or.inl ⟨by rfl, ?_⟩) (by assumption) ?_; rotate_left; (intro w hSw; (try dsimp only at hSw); go_simp; (try with_reducible rfl)); (try simp only [Act.put, List.setIfInBounds_toArray, List.set_cons_zero, List.set_cons_succ])
  refine wpAnyH_take (i := 17) (oi := ⟨some 154, _, _, _, _, _⟩) (v := ?_) rfl (by kernel_rfl) (by kernel_rfl) (by kernel_rfl) (fun _ _ _ h => h) (Or.inl ⟨by rfl, ?_⟩) (by assumption) ?_; rotate_left; (intro w hSw; (try dsimp only at hSw); go_simp; (try with_reducible rfl)); (try simp only [Act.put, List.setIfInBounds_toArray, List.set_cons_zero, List.set_cons_succ])
  refine wpAnyH_take (i := 18) (oi := ⟨some 155, _, _, _, _, _⟩) (v := ?_) rfl (by kernel_rfl) (by kernel_rfl) (by kernel_rfl) (fun _ _ _ h => h) (Or.inl ⟨by rfl, ?_⟩) (by assumption) ?_; rotate_left; (intro w hSw; (try dsimp only at hSw); go_simp; (try with_reducible rfl)); (try simp only [Act.put, List.setIfInBounds_toArray, List.set_cons_zero, List.set_cons_succ])
  refine wpAnyH_ready (rs := [5]) (by kernel_rfl) (by simp) ?_
  refine AllReadyH.cons (o := ⟨some 142, _, _, _, _, _⟩) rfl (fun K9 hK9 => ?_) (AllReadyH.nil)
  go_simp
  go_at_call 77
  with_reducible refine (HCP.out _ CB0.out).mono ?_
  rintro ev V1 ⟨rfl, hbx⟩
  have CB1 := Lib.hid (CB0.out.trans (hbx.mono CB0.out.size))
  clear hbx
  go_wp2_with fail
  refine hK9.out _ _ (HS.out _ CB1.out) (fun hHeld => ?_)
  clear hK9 K9
  skip
  refine wpAnyH_take (i := 6) (oi := ⟨some 143, _, _, _, _, _⟩) (v := ?_) rfl (by kernel_rfl) (by kernel_rfl) (by kernel_rfl) (fun _ _ _ h => h) (Or.inl ⟨by rfl, ?_⟩) (by assumption) ?_; rotate_left; (intro w hSw; (try dsimp only at hSw); go_simp; (try with_reducible rfl)); (try simp only [Act.put, List.setIfInBounds_toArray, List.set_cons_zero, List.set_cons_succ])
  refine wpAnyH_take (i := 12) (oi := ⟨some 149, _, _, _, _, _⟩) (v := ?_) rfl (by kernel_rfl) (by kernel_rfl) (by kernel_rfl) (fun _ _ _ h => h) (Or.inl ⟨by rfl, ?_⟩) (by assumption) ?_; rotate_left; (intro w hSw; (try dsimp only at hSw); go_simp; (try with_reducible rfl)); (try simp only [Act.put, List.setIfInBounds_toArray, List.set_cons_zero, List.set_cons_succ])
  refine wpAnyH_take (i := 13) (oi := ⟨some 150, _, _, _, _, _⟩) (v := ?_) rfl (by kernel_rfl) (by kernel_rfl) (by kernel_rfl) (fun _ _ _ h => h) (Or.inl ⟨by rfl, ?_⟩) (by assumption) ?_; rotate_left; (intro w hSw; (try dsimp only at hSw); go_simp; (try with_reducible rfl)); (try simp only [Act.put, List.setIfInBounds_toArray, List.set_cons_zero, List.set_cons_succ])
  refine wpAnyH_ready (rs := [19]) (by kernel_rfl) (by simp) ?_
  refine AllReadyH.cons (o := ⟨some 156, _, _, _, _, _⟩) rfl (fun K9 hK9 => ?_) (AllReadyH.nil)
  go_simp
  go_at_call 77
  with_reducible refine (HCQ.out _ CB1.out).mono ?_
  rintro ev V2 ⟨rfl, hbx⟩
  have CB2 := Lib.hid (CB1.out.trans (hbx.mono CB1.out.size))
  clear hbx
  go_wp2_with fail
  refine hK9.out _ _ (HS.out _ CB2.out) (fun hHeld => ?_)
  clear hK9 K9
  skip
  refine wpAnyH_take (i := 20) (oi := ⟨some 157, _, _, _, _, _⟩) (v := ?_) rfl (by kernel_rfl) (by kernel_rfl) (by kernel_rfl) (fun _ _ _ h => h) (Or.inl ⟨by rfl, ?_⟩) (by assumption) ?_; rotate_left; (intro w hSw; (try dsimp only at hSw); go_simp; (try with_reducible rfl)); (try simp only [Act.put, List.setIfInBounds_toArray, List.set_cons_zero, List.set_cons_succ])
  refine wpAnyH_take (i := 21) (oi := ⟨some 5, _, _, _, _, _⟩) (v := ?_) rfl (by kernel_rfl) (by kernel_rfl) (by kernel_rfl) (fun _ _ _ h => h) (Or.inl ⟨by rfl, ?_⟩) (by assumption) ?_; rotate_left; (intro w hSw; (try dsimp only at hSw); go_simp; (try with_reducible rfl)); (try simp only [Act.put, List.setIfInBounds_toArray, List.set_cons_zero, List.set_cons_succ])
  refine wpAnyH_done (by kernel_rfl) ?_ _
  go_wp2_with fail
  go_ret
  exact ⟨rfl, HB1.out.trans (CB2.out.mono HB1.out.size)⟩

theorem write_79 {bk bw bt tb : Nat} : ∀ e : ET, Wr79 bk bw bt tb e := by
  refine ET.ind fun o c d ks ih => ?_
  by_cases hg : ∃ deep, (ET.mk o c d ks).good okD deep = true
  · obtain ⟨deep, hg⟩ := hg
    have h := good_op hg
    simp only [ET.op] at h
    have ho : o = 1 ∨ o = 2 ∨ o = 3 ∨ o = 10 ∨ o = 17 ∨ o = 20 ∨ o = 21 ∨ o = 22 ∨ o = 23 ∨ (o = 4 ∨ o = 5 ∨ o = 6 ∨ o = 7 ∨ o = 8 ∨ o = 9 ∨ o = 11 ∨ o = 12 ∨ o = 13 ∨ o = 14 ∨ o = 15 ∨ o = 16 ∨ o = 18 ∨ o = 19) := by omega
    rcases ho with rfl | rfl | rfl | rfl | rfl | rfl | rfl | rfl | rfl | ho
    · exact w79_1 c d ks ih
    · exact w79_2 c d ks ih
    · exact w79_3 c d ks ih
    · exact w79_10 c d ks ih
    · exact w79_17 c d ks ih
    · exact w79_20 c d ks ih
    · exact w79_21 c d ks ih
    · exact w79_22 c d ks ih
    · exact w79_23 c d ks ih
    · obtain ⟨u, rfl⟩ : ∃ u : Nat, o = (u : Int) := ⟨o.toNat, by omega⟩
      exact w79_two u ho c d ks ih
  · intro deep kv w _ _ _ h
    exact absurd ⟨deep, h⟩ hg

set_option maxRecDepth 100000 in
set_option maxHeartbeats 1000000 in
theorem signs_76 (w : World) : Calls Tryz.prog 76 #[] w fun e w' => ∃ tb, e = .returned (.slice (some ⟨tb, 0, none⟩) 24 24) ∧ (∀ o : Int, (o = 4 ∨ o = 5 ∨ o = 6 ∨ o = 7 ∨ o = 8 ∨ o = 9 ∨ o = 11 ∨ o = 12 ∨ o = 13 ∨ o = 14 ∨ o = 15 ∨ o = 16 ∨ o = 18 ∨ o = 19) → w'.cell? ⟨tb, o.toNat, none⟩ = some (.string (signB o))) ∧ Below w.heap.size w w' := by
  go_enter Tryz.func76, Tryz.ntmps76
  go_wp2_with fail
  go_ret
  refine ⟨_, rfl, fun o ho => ?_, one_below _ _⟩
  rcases ho with rfl | rfl | rfl | rfl | rfl | rfl | rfl | rfl | rfl | rfl | rfl | rfl | rfl | rfl
  all_goals exact cell_of_heap (heap_alloc_new _ _) rfl

set_option maxRecDepth 100000 in
set_option maxHeartbeats 2000000 in
theorem print_37 (e : ET) (a : Option Addr) (cc : Nat) (w : World) (hsz : e.size ≤ 12000) (hat : e.At w (.slice a e.kids.length cc)) (hfit : e.fits) (hG : GlobP w) : Calls Tryz.prog 37 #[e.agg (.slice a e.kids.length cc)] w (StPost (prW e) w) := by
  have h21 := fun (W : World) (hb : Below w.heap.size w W) => chk_21 e a cc W hfit (hat.below hb) (hG.below hb).tabs (by have := (hG.below hb).big; omega)
  have h79 := fun (hm : e.may okD = true) (bk bw bt tb : Nat) (W : World) (hb : Below w.heap.size w W) (hc : Cl bk bw bt tb W) => write_79 e 1 _ W hsz (hat.below hb) hfit (ET.may_good hm) hc
  obtain ⟨M, eM⟩ : ∃ M, M = e.may okD := ⟨_, rfl⟩
  obtain ⟨R, eR⟩ : ∃ R, R = prW e := ⟨_, rfl⟩
  have h1 : M = true → R = e.wr := fun h => by rw [eR]; unfold prW; rw [if_pos (by rw [← eM]; exact h)]
  have h2 : M = false → R = ⟨#[]⟩ := fun h => by rw [eR]; unfold prW; rw [if_neg (by rw [← eM, h]; decide)]
  rw [← eR]
  rw [← eM] at h21 h79
  obtain ⟨S, eS⟩ : ∃ S, S = e.wr := ⟨_, rfl⟩
  rw [← eS] at h79 h1
  unfold ET.agg at h21 h79
  have H21 := Lib.hid h21
  have H79 := Lib.hid h79
  have H1 := Lib.hid h1
  have H2 := Lib.hid h2
  have HGG := Lib.hid hG
  clear h21 h79 h1 h2 eM eR eS hat hfit hG
  unfold ET.agg
  go_enter Tryz.func37, Tryz.ntmps37
  go_wp2_with fail
  refine (H21.out _ (one_below _ _)).mono ?_
  rintro ev w1 ⟨rfl, hb1⟩
  have k1 := one_at hb1
  have K1 := Lib.hid k1
  have HB1 := Lib.hid ((one_below _ _).trans (hb1.mono (by simp)))
  clear hb1 k1 H21
  cases M
  · obtain rfl := H2.out (by first | rfl | trivial)
    go_wp2_with fail
    go_ret
    exact ⟨rfl, HB1.out⟩
  · obtain rfl := H1.out (by first | rfl | trivial)
    go_wp2_with fail
    refine (signs_76 _).mono ?_
    rintro ev w2 ⟨tb, rfl, hsg, hb2⟩
    have HSG := Lib.hid hsg
    have k2 := (hb2.block _ (lt_of_heap K1.out)).trans K1.out
    have K2 := Lib.hid k2
    have HB2 := Lib.hid (HB1.out.trans (hb2.mono HB1.out.size))
    clear hb2 hsg k2
    have k3 := fun (A B C : Obj) => ((three_below w2 A B C).block _ (lt_of_heap K2.out)).trans K2.out
    have y0 := fun (A B C : Obj) => cell_of_heap (o := 0) (k3 A B C) rfl
    have y1 := fun (A B C : Obj) => cell_of_heap (o := 1) (k3 A B C) rfl
    have y2 := fun (A B C : Obj) => cell_of_heap (o := 2) (k3 A B C) rfl
    have y3 := fun (A B C : Obj) => cell_of_heap (o := 3) (k3 A B C) rfl
    have y4 := fun (A B C : Obj) => cell_of_heap (o := 4) (k3 A B C) rfl
    have y5 := fun (A B C : Obj) => cell_of_heap (o := 5) (k3 A B C) rfl
    have y6 := fun (A B C : Obj) => cell_of_heap (o := 6) (k3 A B C) rfl
    clear k3
    go_wp2_with fail
    refine (H79.out (by first | rfl | trivial) (w2.heap.size + 1 + 1) (w2.heap.size + 1) w2.heap.size tb _ ?b1 ?b2).mono ?_
    case b1 => exact HB2.out.trans ((three_below _ _ _ _).mono HB2.out.size)
    case b2 =>
      obtain ⟨t1, t2, t3⟩ := three_at (Below.refl _ (((w2.alloc (.cells #[.slice (some ⟨tb, 0, none⟩) 24 24] 130)).alloc (.cells #[.func (.func 79) #[] #[.pointer (some ⟨w2.heap.size + 1 + 1, 0, none⟩), .pointer (some ⟨w2.heap.size + 1, 0, none⟩), .pointer (some ⟨w2.heap.size, 0, none⟩)]] 82)).alloc (.cells #[.func (.func 77) #[] #[.pointer (some ⟨w2.heap.size + 1, 0, none⟩)]] 82)))
      exact ⟨cell_of_heap t3 rfl, cell_of_heap t2 rfl, cell_of_heap t1 rfl, fun o ho => cell_keep (three_below _ _ _ _) (HSG.out o ho), (HGG.out.below HB2.out).below (three_below _ _ _ _)⟩
    rintro ev w4 ⟨rfl, hb4⟩
    have HB4 := Lib.hid (HB2.out.trans (((three_below _ _ _ _).trans (hb4.mono (by simp <;> omega))).mono HB2.out.size))
    clear hb4 y0 y1 y2 y3 y4 y5 y6
    go_wp2_with fail
    go_ret
    exact ⟨rfl, HB4.out⟩
end Go.Proofs.YtolikaginhjbhaaGreatDoor
