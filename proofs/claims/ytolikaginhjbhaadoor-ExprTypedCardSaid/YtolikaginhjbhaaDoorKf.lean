import Derived.Test.YtolikaginhjbhaaDoorKa
import Derived.Test.YtolikaginhjbhaaDoorJc
/- penstocklaw03.fails, expr.fits: the walks. -/
namespace Go.Proofs.YtolikaginhjbhaaDoor
open Go.RowKit Go.Pen
attribute [local go_sem ↓] Go.wp_at_zero Go.wp_at_succ
attribute [local go_sem] Oper.semAt_some

theorem failss_take {ks : List ET} {i : Nat} {k : ET} (hk : ks[i]? = some k) (h : ET.failss (ks.take i) = false) (hg : k.fails = false) : ET.failss (ks.take (i + 1)) = false := by
  rw [failss_iff] at h ⊢
  intro x hx
  rw [List.take_succ_eq_append_getElem (by exact (List.getElem?_eq_some_iff.1 hk).1)] at hx
  rcases List.mem_append.1 hx with hx | hx
  · exact h x hx
  · simp at hx
    rw [(List.getElem?_eq_some_iff.1 hk).2] at hx
    subst hx; exact hg
theorem fl_kid {o c : Int} {d : Dat} {ks : List ET} {k : ET} {i : Nat} (hk : ks[i]? = some k) (h : k.fails = true) : true = (ET.mk o c d ks).fails := by
  cases hw : (ET.mk o c d ks).fails
  · simp only [ET.fails, Bool.or_eq_false_iff, failss_iff] at hw
    rw [hw.2 k (List.mem_of_getElem? hk)] at h
    cases h
  · rfl
theorem fl_far {o c : Int} {d : Dat} {ks : List ET} (h1 : o = 23) : true = (ET.mk o c d ks).fails := by
  simp [ET.fails, h1]
theorem fl_all {o c : Int} {d : Dat} {ks : List ET} (h : ¬ o = 23) (hk : ET.failss ks = false) : false = (ET.mk o c d ks).fails := by
  simp [ET.fails, hk, h]

set_option maxRecDepth 100000 in
set_option maxHeartbeats 400000 in
theorem fails_14 : ∀ (e : ET) (kv : Value) (w : World), e.At w kv → e.fits →
    Calls Tryd.prog 14 #[e.agg kv] w (WiPost e.fails w) := by
  refine ET.ind fun o c d ks ih kv w hat hfit => ?_
  obtain ⟨a, cc, rfl, -, hks⟩ := ET.On.iff.1 hat
  simp only [ET.fits] at hfit
  obtain ⟨⟨ho0, ho1⟩, ⟨hc0, hc1⟩, -, hkl, hfs⟩ := hfit
  have HF := Lib.hid (ET.fitss_iff.1 hfs)
  have HKS := Lib.hid hks
  have IH := Lib.hid ih
  obtain ⟨K, eK⟩ : ∃ K, K = ks.length := ⟨_, rfl⟩
  rw [← eK] at hkl
  have EK := Lib.hid eK
  clear hfs hks ih hat
  unfold ET.agg
  simp only [ET.op, ET.col, ET.lit, ET.kids]
  rw [← eK]
  clear eK
  obtain ⟨R, eR⟩ : ∃ R, R = (ET.mk o c d ks).fails := ⟨_, rfl⟩
  rw [← eR]
  have ER := Lib.hid eR
  clear eR
  by_cases hfar : o = 23
  · subst hfar
    obtain rfl : R = true := ER.out.trans (fl_far rfl).symm
    go_enter Tryd.func14, Tryd.ntmps14
    go_wp2_with fail
    go_ret
    exact wi_mk rfl (one_below _ _)
  · have HFAR := Lib.hid hfar
    have hno : (o == 23) = false := by simpa using hfar
    clear hfar
    go_enter Tryd.func14, Tryd.ntmps14
    go_wp2_with fail
    obtain ⟨w1, hw1⟩ : ∃ w1, w1 = w.alloc (.cells #[.int .u8 o, .slice a K cc, .int .i64 c, .int .u8 d.kind, .bool d.bool, .int .i64 d.int, .string d.text] 27) := ⟨_, rfl⟩
    have hb1 : Below w.heap.size w w1 := by rw [hw1]; exact one_below _ _
    have c1 : w1.cell? ⟨w.heap.size, 1, none⟩ = some (.slice a K cc) := by rw [hw1]; exact cell_of_heap (heap_alloc_new _ _) rfl
    rw [← hw1]
    have HB1 := Lib.hid hb1
    clear hw1 hb1
    go_loopg [3] K (fun g s5 wr => ∃ i : Nat, i ≤ K ∧ g = K - i ∧ s5 = .int .i64 i ∧ ET.failss (ks.take i) = false ∧ Below w1.heap.size w1 wr)
    case atStart => exact ⟨0, Nat.zero_le _, rfl, rfl, rfl, Below.refl _ _⟩
    case round =>
      obtain ⟨i, hi, rfl, rfl, hws, hbr⟩ := hrel
      have c1r := cell_keep hbr c1
      have HWS := Lib.hid hws
      clear hws
      by_cases hlt : i < K
      · obtain ⟨k, hk⟩ : ∃ k, ks[i]? = some k := ⟨ks[i]'(by rw [← EK.out]; exact hlt), List.getElem?_eq_getElem _⟩
        obtain ⟨b, off, rfl, -, hats⟩ := HKS.out (fun e => by simp only [ET.kids] at e; rw [e] at hk; simp at hk)
        obtain ⟨kv, hkc, hkat⟩ := hats.get hk
        obtain ⟨a', c', rfl⟩ := hkat.slice
        have hbw : Below w.heap.size w wr := HB1.out.trans (hbr.mono HB1.out.size)
        obtain ⟨k0, k1, k2, k3, k4, k5, k6⟩ := hkc.below hbw
        have hct := IH.out k (List.mem_of_getElem? hk) _ wr (hkat.below hbw) (HF.out k (List.mem_of_getElem? hk))
        unfold ET.agg at hct
        have HCT := Lib.hid hct
        have HBR := Lib.hid hbr
        have HK := Lib.hid hk
        clear hats hkc hkat hbw hct hbr hk
        go_wp2_with fail
        refine HCT.out.mono ?_
        rintro ev w2 ⟨rfl, hb2⟩
        have HB2 : Hid (Below w1.heap.size w1 w2) := HBR.out.trans (hb2.mono HBR.out.size)
        clear k0 k1 k2 k3 k4 k5 k6 hb2 HCT
        cases hkw : k.fails
        · have HKW := Lib.hid hkw
          clear hkw
          go_wp2
          go_roundg (K - (i + 1))
          case measure => omega
          case rel => exact ⟨i + 1, by omega, rfl, by go_num, failss_take HK.out HWS.out HKW.out, HB2.out⟩
        · obtain rfl : R = true := ER.out.trans (fl_kid HK.out hkw).symm
          clear hkw
          go_wp2
          go_ret
          exact wi_mk rfl (HB1.out.trans (HB2.out.mono HB1.out.size))
      · obtain rfl : i = K := by omega
        have HBR := Lib.hid hbr
        have hwl : ks.take i = ks := List.take_of_length_le (by rw [EK.out]; exact Nat.le_refl _)
        have hws := HWS.out
        rw [hwl] at hws
        obtain rfl : R = false := ER.out.trans (fl_all HFAR.out hws).symm
        clear hws hwl hbr
        go_wp2
        go_ret
        exact wi_mk rfl (HB1.out.trans (HBR.out.mono HB1.out.size))

/-- what a type of two answers -/
def kindV (r : Option Int) : Value := match r with
  | some k => .tuple #[.int .u8 k, .nilIface]
  | none => .tuple #[.int .u8 0, .iface 71 (.agg #[.int .u16 31])]

set_option maxRecDepth 100000 in
set_option maxHeartbeats 400000 in
theorem fits_57 (a b : Int) (w : World) (ha : 0 ≤ a ∧ a ≤ 255) (hb : 0 ≤ b ∧ b ≤ 255) :
    Calls Tryd.prog 57 #[.int .u8 a, .int .u8 b] w fun ev w' => ev = .returned (kindV (fitsT a b)) ∧ w' = w := by
  by_cases h1 : a = 1
  · subst h1
    have e : fitsT 1 b = some b := rfl
    rw [e]
    go_enter Tryd.func57, Tryd.ntmps57
    go_wp2_with fail
    go_ret2
    exact ⟨rfl, rfl⟩
  · have h1' : (a == 1) = false := by simpa using h1
    by_cases h2 : b = 1
    · subst h2
      have e : fitsT a 1 = some a := by unfold fitsT; rw [if_neg h1, if_pos (.inl rfl)]
      rw [e]
      go_enter Tryd.func57, Tryd.ntmps57
      go_wp2_with fail
      go_ret2
      exact ⟨rfl, rfl⟩
    · have h2' : (b == 1) = false := by simpa using h2
      by_cases h3 : a = b
      · subst h3
        have e : fitsT a a = some a := by unfold fitsT; rw [if_neg h1, if_pos (.inr rfl)]
        rw [e]
        go_enter Tryd.func57, Tryd.ntmps57
        go_wp2_with fail
        go_ret2
        exact ⟨rfl, rfl⟩
      · have h3' : (a == b) = false := by simpa using h3
        have e : fitsT a b = none := by unfold fitsT; rw [if_neg h1, if_neg (by rintro (h | h); exact h2 h; exact h3 h)]
        rw [e]
        go_enter Tryd.func57, Tryd.ntmps57
        go_wp2_with fail
        go_ret2
        exact ⟨rfl, rfl⟩
end Go.Proofs.YtolikaginhjbhaaDoor
/- row.Check, expr.all: the walks. -/
namespace Go.Proofs.YtolikaginhjbhaaDoor
open Go.RowKit Go.Pen
attribute [local go_sem ↓] Go.wp_at_zero Go.wp_at_succ
attribute [local go_sem] Oper.semAt_some

def rowOk (r : List Dat) : Bool := decide (r.length ≤ 32) && r.all okD
def RcPost (r : List Dat) (w : World) (ev : Ending) (w' : World) : Prop := ∃ code : Nat, ev = .returned (.int .u16 code) ∧ (code = 0 ↔ rowOk r = true) ∧ Below w.heap.size w w'

set_option maxRecDepth 100000 in
set_option maxHeartbeats 400000 in
theorem rowcheck_13 (r : List Dat) (v : Value) (w : World) (hr : DatsOn (fun _ => True) w r v) (hrf : ∀ d ∈ r, d.fits) (hT : Lib.Utf8Tabs 1 2 w) (h3 : 3 ≤ w.heap.size) :
    Calls Tryd.prog 13 #[v] w (RcPost r w) := by
  obtain ⟨a, cc, rfl, -, hri⟩ := hr
  obtain ⟨K, eK⟩ : ∃ K, K = r.length := ⟨_, rfl⟩
  rw [← eK]
  have EK := Lib.hid eK
  have HRI := Lib.hid hri
  have HRF := Lib.hid hrf
  have HT := Lib.hid hT
  clear hri eK hrf hT
  by_cases h32 : 32 < K
  · go_enter Tryd.func13, Tryd.ntmps13
    go_wp2_with fail
    go_ret
    refine ⟨20, rfl, ?_, Below.refl _ _⟩
    have := EK.out
    simp only [rowOk, Bool.and_eq_true, decide_eq_true_eq]
    constructor
    · intro h; cases h
    · intro h; omega
  go_enter Tryd.func13, Tryd.ntmps13
  go_wp2_with fail
  go_loopg [11] K (fun g s11 wr => ∃ i : Nat, i ≤ K ∧ g = K - i ∧ s11 = .int .i64 i ∧ (r.take i).all okD = true ∧ Below w.heap.size w wr)
  case atStart => exact ⟨0, Nat.zero_le _, rfl, rfl, rfl, Below.refl _ _⟩
  case round =>
    obtain ⟨i, hi, rfl, rfl, hall, hbr⟩ := hrel
    have HALL := Lib.hid hall
    have HBR := Lib.hid hbr
    clear hall
    by_cases hlt : i < K
    · obtain ⟨d, hx⟩ : ∃ d, r[i]? = some d := ⟨r[i]'(by rw [← EK.out]; exact hlt), List.getElem?_eq_getElem _⟩
      obtain ⟨b, off, rfl, -, hrs⟩ := HRI.out (fun e => by rw [e] at hx; simp at hx)
      obtain ⟨q0, q1, q2, q3⟩ := hrs _ _ hx
      have q0 := cell_keep hbr q0
      have q1 := cell_keep hbr q1
      have q2 := cell_keep hbr q2
      have q3 := cell_keep hbr q3
      have hck := fun W (hb : Below w.heap.size w W) => check_54 d W (HRF.out d (List.mem_of_getElem? hx)) (tabs_below HT.out hb h3) (Nat.le_trans h3 hb.size)
      unfold Dat.agg at hck
      have HCK := Lib.hid hck
      have HX := Lib.hid hx
      clear hrs hx hck hbr
      go_wp2_with fail
      refine (HCK.out _ ?bb).mono ?_
      case bb => exact HBR.out.alloc HBR.out.size _
      rintro ev w2 ⟨rfl, hb2⟩
      have HB2 : Hid (Below w.heap.size w w2) := (HBR.out.alloc HBR.out.size _).trans (hb2.mono (by have := HBR.out.size; simp; omega))
      clear q0 q1 q2 q3 hb2 HCK
      obtain ⟨C, eC⟩ : ∃ C, C = chkD d := ⟨_, rfl⟩
      rw [← eC]
      have EC := Lib.hid eC
      clear eC
      by_cases h0 : C = 0
      · subst h0
        have hd : okD d = true := by unfold okD; rw [← EC.out]; rfl
        have HD := Lib.hid hd
        clear hd
        go_wp2
        go_roundg (K - (i + 1))
        case measure => omega
        case rel =>
          refine ⟨i + 1, by omega, rfl, by go_num, ?_, HB2.out⟩
          rw [List.take_succ_eq_append_getElem (List.getElem?_eq_some_iff.1 HX.out).1, List.all_append, HALL.out, (List.getElem?_eq_some_iff.1 HX.out).2]
          simp [HD.out]
      · have h0' : ((C : Int) == 0) = false := by simpa using h0
        have H0 := Lib.hid h0
        clear h0
        go_wp2
        go_ret
        refine ⟨C, rfl, ⟨fun h => absurd h H0.out, fun h => ?_⟩, HB2.out⟩
        simp only [rowOk, Bool.and_eq_true, List.all_eq_true] at h
        have := h.2 d (List.mem_of_getElem? HX.out)
        unfold okD at this
        rw [← EC.out] at this
        simpa using this
    · obtain rfl : i = K := by omega
      have hwl : r.take i = r := List.take_of_length_le (by rw [EK.out]; exact Nat.le_refl _)
      have hws := HALL.out
      rw [hwl] at hws
      have hle := EK.out
      have HWS := Lib.hid hws
      clear hbr hws hwl hle
      go_wp2
      go_ret
      refine ⟨0, rfl, ⟨fun _ => ?_, fun _ => rfl⟩, HBR.out⟩
      have := EK.out
      simp only [rowOk, Bool.and_eq_true, decide_eq_true_eq]
      exact ⟨by omega, HWS.out⟩

/-- kinds in memory -/
def KindsOn (w : World) (l : List Int) (v : Value) : Prop :=
  ∃ a c, v = .slice a l.length c ∧ (a = none → c = 0) ∧ (l ≠ [] → ∃ b o, a = some ⟨b, o, none⟩ ∧ ∀ i x, l[i]? = some x → w.cell? ⟨b, o + i, none⟩ = some (.int .u8 x))
theorem KindsOn.below {w w' : World} {l : List Int} {v : Value} (h : KindsOn w l v) (hb : Below w.heap.size w w') : KindsOn w' l v := by
  obtain ⟨a, c, hv, hn, h⟩ := h
  refine ⟨a, c, hv, hn, fun hne => ?_⟩
  obtain ⟨b, o, ha, hc⟩ := h hne
  exact ⟨b, o, ha, fun i x hx => cell_keep hb (hc i x hx)⟩
theorem allT_append {x : Int} {m : List Int} : ∀ {l : List Int} {k : Int}, allT k (l ++ x :: m) = match allT k l with
    | none => none
    | some k' => (match fitsT k' x with
      | none => none
      | some k'' => allT k'' m)
  | [], k => by simp only [List.nil_append, allT]; cases fitsT k x <;> rfl
  | y :: l, k => by
    simp only [List.cons_append, allT]
    cases h : fitsT k y with
    | none => rfl
    | some k' => exact allT_append (l := l) (k := k')
theorem allT_snoc {x : Int} {l : List Int} {k : Int} : allT k (l ++ [x]) = match allT k l with
    | none => none
    | some k' => fitsT k' x := by
  rw [allT_append]
  cases allT k l with
  | none => rfl
  | some k' =>
    simp only
    cases fitsT k' x <;> rfl

theorem allT_app : ∀ {l m : List Int} {k : Int}, allT k (l ++ m) = (allT k l).bind fun k' => allT k' m
  | [], m, k => rfl
  | y :: l, m, k => by
    simp only [List.cons_append, allT]
    cases h : fitsT k y with
    | none => rfl
    | some k' => exact allT_app (l := l) (k := k')
theorem allT_parts {l : List Int} {k : Int} {i : Nat} : allT k l = (allT k (l.take i)).bind fun k' => allT k' (l.drop i) := by
  rw [← allT_app, List.take_append_drop]

set_option maxRecDepth 100000 in
set_option maxHeartbeats 400000 in
theorem all_38 (k0 : Int) (l : List Int) (v : Value) (w : World) (hl : KindsOn w l v) (hk : 0 ≤ k0 ∧ k0 ≤ 255) (hls : ∀ x ∈ l, 0 ≤ x ∧ x ≤ 255) (hn : l.length ≤ 140737488355328) :
    Calls Tryd.prog 38 #[.int .u8 k0, v] w fun ev w' => ev = .returned (kindV (allT k0 l)) ∧ w' = w := by
  obtain ⟨a, cc, rfl, -, hri⟩ := hl
  obtain ⟨K, eK⟩ : ∃ K, K = l.length := ⟨_, rfl⟩
  rw [← eK] at hn ⊢
  have EK := Lib.hid eK
  have HRI := Lib.hid hri
  have HLS := Lib.hid hls
  clear hri eK hls
  obtain ⟨R, eR⟩ : ∃ R, R = allT k0 l := ⟨_, rfl⟩
  rw [← eR]
  have ER := Lib.hid eR
  clear eR
  go_enter Tryd.func38, Tryd.ntmps38
  go_wp2_with fail
  go_loopg [0, 11] K (fun g s0 s11 wr => ∃ (i : Nat) (k : Int), i ≤ K ∧ g = K - i ∧ s11 = .int .i64 i ∧ s0 = .int .u8 k ∧ allT k0 (l.take i) = some k ∧ (0 ≤ k ∧ k ≤ 255) ∧ wr = w)
  case atStart => exact ⟨0, k0, Nat.zero_le _, rfl, rfl, rfl, rfl, hk, rfl⟩
  case round =>
    obtain ⟨i, k, hi, rfl, rfl, rfl, hall, hkr, rfl⟩ := hrel
    have HALL := Lib.hid hall
    clear hall
    by_cases hlt : i < K
    · obtain ⟨x, hx⟩ : ∃ x, l[i]? = some x := ⟨l[i]'(by rw [← EK.out]; exact hlt), List.getElem?_eq_getElem _⟩
      obtain ⟨b, off, rfl, hrs⟩ := HRI.out (fun e => by rw [e] at hx; simp at hx)
      have q0 := hrs _ _ hx
      have hxs := HLS.out x (List.mem_of_getElem? hx)
      have hct := fits_57 k x wr hkr hxs
      have HCT := Lib.hid hct
      have htk : allT k0 (l.take (i + 1)) = fitsT k x := by
        rw [List.take_succ_eq_append_getElem (List.getElem?_eq_some_iff.1 hx).1, allT_snoc, HALL.out, (List.getElem?_eq_some_iff.1 hx).2]
      have HTK := Lib.hid htk
      have HX := Lib.hid hx
      clear hrs hx hct htk
      go_wp2_with fail
      refine HCT.out.mono ?_
      rintro ev w2 ⟨rfl, rfl⟩
      clear HCT q0
      cases hq : fitsT k x with
      | none =>
        have hn0 : R = none := by
          have h := HTK.out
          rw [hq] at h
          rw [ER.out, allT_parts (i := i + 1), h]
          rfl
        subst hn0
        clear hq
        simp only [kindV]
        go_wp2
        go_ret2
        exact ⟨rfl, rfl⟩
      | some k' =>
        have h := HTK.out
        rw [hq] at h
        have hk' : 0 ≤ k' ∧ k' ≤ 255 := by
          unfold fitsT at hq
          split at hq
          · cases hq; exact hxs
          · split at hq
            · cases hq; exact hkr
            · cases hq
        have HH := Lib.hid h
        have HKK := Lib.hid hk'
        clear h hk' hq
        simp only [kindV]
        go_wp2
        go_roundg (K - (i + 1))
        case measure => omega
        case rel => exact ⟨i + 1, k', by omega, rfl, by go_num, rfl, HH.out, HKK.out, rfl⟩
    · obtain rfl : i = K := by omega
      have hwl : l.take i = l := List.take_of_length_le (by rw [EK.out]; exact Nat.le_refl _)
      have hws := HALL.out
      rw [hwl] at hws
      obtain rfl : R = some k := ER.out.trans hws
      clear hws hwl
      go_wp2
      go_ret2
      exact ⟨rfl, rfl⟩
end Go.Proofs.YtolikaginhjbhaaDoor
/- expr.types: the walk. -/
namespace Go.Proofs.YtolikaginhjbhaaDoor
open Go.RowKit Go.Pen
attribute [local go_sem ↓] Go.wp_at_zero Go.wp_at_succ
attribute [local go_sem] Oper.semAt_some

set_option maxRecDepth 100000 in
set_option maxHeartbeats 800000 in
theorem types_39 (o : Int) (w : World) (ho : 3 ≤ o ∧ o ≤ 19) :
    Calls Tryd.prog 39 #[.int .u8 o] w fun ev w' => ev = .returned (.tuple #[.int .u8 (asksT o), .int .u8 (givesT o)]) ∧ w' = w := by
  obtain rfl | rfl | rfl | rfl | rfl | rfl | rfl | rfl | rfl | rfl | rfl | rfl | rfl | rfl | rfl | rfl | rfl : o = 3 ∨ o = 4 ∨ o = 5 ∨ o = 6 ∨ o = 7 ∨ o = 8 ∨ o = 9 ∨ o = 10 ∨ o = 11 ∨ o = 12 ∨ o = 13 ∨ o = 14 ∨ o = 15 ∨ o = 16 ∨ o = 17 ∨ o = 18 ∨ o = 19 := by omega
  all_goals
    clear ho
    go_enter Tryd.func39, Tryd.ntmps39
    go_wp2_with fail
    go_ret2
    exact ⟨rfl, rfl⟩
end Go.Proofs.YtolikaginhjbhaaDoor
/- expr.typed: the walk. -/
namespace Go.Proofs.YtolikaginhjbhaaDoor
open Go.RowKit Go.Pen
attribute [local go_sem ↓] Go.wp_at_zero Go.wp_at_succ
attribute [local go_sem] Oper.semAt_some

theorem info23 : (Tryd.prog.info? 23).map (fun i => (i.zero, i.size, i.bytes)) = some (some (.int .u8 0), 1, 1) := by kernel_rfl

/-- a type, or the error of the wrong type (beside it whatever type) -/
def KindIs (k : Option Int) (v : Value) : Prop := match k with
  | some t => v = .tuple #[.int .u8 t, .nilIface]
  | none => ∃ g : Int, v = .tuple #[.int .u8 g, .iface 71 (.agg #[.int .u16 31])]
theorem kindIs (k : Option Int) : KindIs k (kindV k) := by
  cases k
  · exact ⟨0, rfl⟩
  · rfl
def TyPost (k : Option Int) (w : World) (ev : Ending) (w' : World) : Prop := ∃ v, ev = .returned v ∧ KindIs k v ∧ Below w.heap.size w w'
def TyOK (cols : List Int) (vc : Value) (e : ET) : Prop := ∀ (deep : Nat) (kv : Value) (w : World), e.At w kv → e.fits → e.good okD deep = true → e.within cols.length = true → KindsOn w cols vc →
    Calls Tryd.prog 28 #[e.agg kv, vc] w (TyPost (e.typ cols) w)

set_option maxRecDepth 100000 in
set_option maxHeartbeats 800000 in
theorem typed_col (cols : List Int) (vc : Value) (hcr : ∀ x ∈ cols, 0 ≤ x ∧ x ≤ 255) (c : Int) (d : Dat) (ks : List ET) : TyOK cols vc (.mk 1 c d ks) := by
  intro deep kv w hat hfit hg hw hk
  obtain ⟨a, cc, rfl, -, -⟩ := ET.On.iff.1 hat
  simp only [ET.good, Bool.and_eq_true, decide_eq_true_eq, ET.goods_iff] at hg
  simp only [ET.within, Bool.and_eq_true, ET.withins_iff, Bool.not_eq_true', Bool.and_eq_false_iff, decide_eq_false_iff_not] at hw
  have hc0 := own_col_nn hg.1.1
  have hc1 : c < cols.length := by
    rcases hw.1 with h | h
    · exact absurd trivial h
    · omega
  obtain ⟨x, hx⟩ : ∃ x, cols[c.toNat]? = some x := ⟨cols[c.toNat]'(by omega), List.getElem?_eq_getElem _⟩
  obtain ⟨va, vcc, rfl, -, hcs⟩ := hk
  obtain ⟨b, o, rfl, hqs⟩ := hcs (fun e => by rw [e] at hx; simp at hx)
  have q0 := hqs _ _ hx
  have xl : b < w.heap.size := World.block_lt_of_cell? w _ q0
  have q0 := fun (A : Obj) => cell_keep (one_below w A) q0
  have xc : (c.toNat : Int) = c := by omega
  have hd : cols.getD c.toNat 0 = x := by rw [List.getD_eq_getElem?_getD, hx]; rfl
  have ht : (ET.mk 1 c d ks).typ cols = some (if 2 ≤ x ∧ x ≤ 4 then x else 1) := by
    simp only [ET.typ, if_true]; rw [hd]
  obtain ⟨N, eN⟩ : ∃ N, N = cols.length := ⟨_, rfl⟩
  rw [ht]
  rw [← eN] at hc1 ⊢
  unfold ET.agg
  simp only [ET.op, ET.col, ET.lit, ET.kids]
  have hxr := hcr x (List.mem_of_getElem? hx)
  clear ht hd hcs hqs hx hg hw hfit hat eN
  by_cases h2 : 2 ≤ x
  · by_cases h4 : x ≤ 4
    · rw [if_pos ⟨h2, h4⟩]
      go_enter Tryd.func28, Tryd.ntmps28
      go_wp2_with fail
      go_ret2
      exact ⟨_, rfl, rfl, one_below _ _⟩
    · rw [if_neg (fun h => h4 h.2)]
      go_enter Tryd.func28, Tryd.ntmps28
      go_wp2_with fail
      go_ret2
      exact ⟨_, rfl, rfl, one_below _ _⟩
  · rw [if_neg (fun h => h2 h.1)]
    go_enter Tryd.func28, Tryd.ntmps28
    go_wp2_with fail
    go_ret2
    exact ⟨_, rfl, rfl, one_below _ _⟩

set_option maxRecDepth 100000 in
set_option maxHeartbeats 800000 in
theorem typed_lit (cols : List Int) (vc : Value) (c : Int) (d : Dat) (ks : List ET) : TyOK cols vc (.mk 2 c d ks) := by
  intro deep kv w hat hfit hg hw hk
  obtain ⟨a, cc, rfl, -, -⟩ := ET.On.iff.1 hat
  obtain ⟨va, vcc, rfl, -, -⟩ := hk
  have ht : (ET.mk 2 c d ks).typ cols = some d.kind := by simp [ET.typ]
  rw [ht]
  unfold ET.agg
  simp only [ET.op, ET.col, ET.lit, ET.kids]
  clear ht hg hw hfit hat
  go_enter Tryd.func28, Tryd.ntmps28
  go_wp2_with fail
  go_ret2
  exact ⟨_, rfl, rfl, one_below _ _⟩

set_option maxRecDepth 100000 in
set_option maxHeartbeats 800000 in
theorem typed_fail (cols : List Int) (vc : Value) (c : Int) (d : Dat) (ks : List ET) : TyOK cols vc (.mk 23 c d ks) := by
  intro deep kv w hat hfit hg hw hk
  obtain ⟨a, cc, rfl, -, -⟩ := ET.On.iff.1 hat
  obtain ⟨va, vcc, rfl, -, -⟩ := hk
  have ht : (ET.mk 23 c d ks).typ cols = some 1 := by simp [ET.typ]
  rw [ht]
  unfold ET.agg
  simp only [ET.op, ET.col, ET.lit, ET.kids]
  clear ht hg hw hfit hat
  go_enter Tryd.func28, Tryd.ntmps28
  go_wp2_with fail
  go_ret2
  exact ⟨_, rfl, rfl, one_below _ _⟩
end Go.Proofs.YtolikaginhjbhaaDoor
/- expr.Type: the walk. -/
namespace Go.Proofs.YtolikaginhjbhaaDoor
open Go.RowKit Go.Pen
attribute [local go_sem ↓] Go.wp_at_zero Go.wp_at_succ
attribute [local go_sem] Oper.semAt_some

def typeC (cols : List Int) (e : ET) : Int × Nat := if e.may okD = true ∧ e.within cols.length = true then (match e.typ cols with
  | none => (0, 31)
  | some k => (k, 0)) else (0, 30)
theorem typeC_R (r : List Dat) (e : ET) : typeC (r.map Dat.kind) e = typeR r e := by
  unfold typeC typeR
  rw [List.length_map]
  split
  · cases e.typ (r.map Dat.kind) <;> rfl
  · rfl

set_option maxRecDepth 100000 in
set_option maxHeartbeats 1000000 in
theorem type_15 (cols : List Int) (e : ET) (a : Option Addr) (cc : Nat) (va : Option Addr) (vcc : Nat) (w : World) (hfit : e.fits) (hat : e.At w (.slice a e.kids.length cc)) (hk : KindsOn w cols (.slice va cols.length vcc)) (hT : Lib.Utf8Tabs 1 2 w) (hE : ErrTy w) (h3 : 3 ≤ w.heap.size)
    (hty : TyOK cols (.slice va cols.length vcc) e) :
    Calls Tryd.prog 15 #[e.agg (.slice a e.kids.length cc), .slice va cols.length vcc] w fun ev w' => ev = .returned (.tuple #[.int .u8 (typeC cols e).1, .int .u16 (typeC cols e).2]) ∧ Below w.heap.size w w' := by
  have hov := fun W hb => over_41 e a cc cols.length W hfit (hat.below (w' := W) hb) (tabs_below hT hb h3) (Nat.le_trans h3 hb.size)
  unfold ET.agg at hov
  have HOV := Lib.hid hov
  have HAT := Lib.hid hat
  have HE := Lib.hid hE
  have HK := Lib.hid hk
  have HFIT := Lib.hid hfit
  clear hov hat hfit hT hE hk
  obtain ⟨R, eR⟩ : ∃ R, R = typeC cols e := ⟨_, rfl⟩
  rw [← eR]
  unfold typeC at eR
  by_cases hok : e.may okD = true ∧ e.within cols.length = true
  rotate_left
  · rw [if_neg hok] at eR
    subst eR
    have hno : (e.may okD && e.within cols.length) = false := by
      cases h1 : e.may okD
      · rfl
      · cases h2 : e.within cols.length
        · rfl
        · exact absurd ⟨h1, h2⟩ hok
    rw [hno] at HOV
    clear hok hno hty
    unfold ET.agg
    go_enter Tryd.func15, Tryd.ntmps15
    go_wp2_with fail
    refine (HOV.out _ (one_below _ _)).mono ?_
    rintro ev w1 ⟨rfl, hb1⟩
    have HB1 := Lib.hid ((one_below w _).trans (hb1.mono (by simp)))
    clear hb1
    go_wp2_with fail
    go_ret2
    exact ⟨rfl, HB1.out⟩
  · rw [if_pos hok] at eR
    have hce := fun (W : World) (hb : Below w.heap.size w W) => hty 1 _ W (HAT.out.below hb) HFIT.out (ET.may_good hok.1) hok.2 (HK.out.below hb)
    unfold ET.agg at hce
    have HCE := Lib.hid hce
    rw [hok.1, hok.2] at HOV
    simp only [Bool.and_true] at HOV
    clear hok hce hty
    unfold ET.agg
    go_enter Tryd.func15, Tryd.ntmps15
    go_wp2_with fail
    refine (HOV.out _ (one_below _ _)).mono ?_
    rintro ev w1 ⟨rfl, hb1⟩
    have t1 := (hb1.block _ (lt_of_heap (heap_alloc_new w _))).trans (heap_alloc_new w _)
    have y0 := cell_of_heap (o := 0) t1 rfl
    have y1 := cell_of_heap (o := 1) t1 rfl
    have y2 := cell_of_heap (o := 2) t1 rfl
    have y3 := cell_of_heap (o := 3) t1 rfl
    have y4 := cell_of_heap (o := 4) t1 rfl
    have y5 := cell_of_heap (o := 5) t1 rfl
    have y6 := cell_of_heap (o := 6) t1 rfl
    have HB1 := Lib.hid ((one_below w _).trans (hb1.mono (by simp)))
    clear hb1 t1
    go_wp2_with fail
    refine (HCE.out _ HB1.out).mono ?_
    rintro ev w2 ⟨v, rfl, hv, hb2⟩
    have HB2 := Lib.hid (HB1.out.trans (hb2.mono HB1.out.size))
    clear hb2 y0 y1 y2 y3 y4 y5 y6
    cases hq : e.typ cols with
    | none =>
      rw [hq] at hv eR
      obtain ⟨g, rfl⟩ := hv
      subst eR
      have hnum := number_43 31 w2 (by decide) (cell_keep HB2.out HE.out)
      simp only [errV, show ¬ (31 : Nat) = 0 by decide, if_false] at hnum
      have HNUM := Lib.hid hnum
      clear hnum
      go_wp2_with fail
      refine HNUM.out.mono ?_
      rintro ev w3 ⟨rfl, hb3⟩
      have HB3 := Lib.hid (HB2.out.trans (hb3.mono HB2.out.size))
      clear hb3
      go_wp2_with fail
      go_ret2
      exact ⟨rfl, HB3.out⟩
    | some t =>
      rw [hq] at hv eR
      obtain rfl : v = _ := hv
      subst eR
      go_wp2_with fail
      go_ret2
      exact ⟨rfl, HB2.out⟩
end Go.Proofs.YtolikaginhjbhaaDoor
/- Own rows of kinds; conditions' and values' types, one pair at a time. -/
namespace Go.Proofs.YtolikaginhjbhaaDoor
open Go.RowKit Go.Pen

theorem rowKinds {w : World} {B : Nat} {v : Value} {n : Nat} {l : List Int} (h : w.ownsRow B 23 1 v n (l.map fun t => Value.int .u8 t)) : KindsOn w l v := by
  obtain ⟨hl, h⟩ := h
  simp only [List.length_map, Nat.mul_one] at hl
  rcases h with ⟨rfl, hn⟩ | ⟨g, cap, cur, rfl, -, hh, -, -, -, htk⟩
  · have : l = [] := List.eq_nil_of_length_eq_zero (by omega)
    subst this
    exact ⟨none, 0, rfl, fun _ => rfl, fun h => absurd rfl h⟩
  · refine ⟨some ⟨g, 0, none⟩, cap, by rw [hl], (fun e => by cases e), fun _ => ⟨g, 0, rfl, fun i x hx => cell_of_heap hh ?_⟩⟩
    have h1 : (l.map fun t => Value.int .u8 t)[i]? = some (.int .u8 x) := by rw [List.getElem?_map, hx]; rfl
    rw [← htk] at h1
    rw [List.getElem?_take] at h1
    split at h1
    · simpa using h1
    · cases h1
/-- the conditions' types up to a place -/
theorem whens_two : ∀ (j : Nat) (l : List Int) (c v : Int), l.length = 2 * j → whensT (l ++ [c, v]) = whensT l ++ [c]
  | 0, l, c, v, h => by
    have : l = [] := List.eq_nil_of_length_eq_zero (by omega)
    subst this; rfl
  | j + 1, a :: b :: l, c, v, h => by
    simp only [List.cons_append, whensT]
    rw [whens_two j l c v (by simp at h; omega)]
  | j + 1, [_], c, v, h => by simp at h; omega
  | j + 1, [], c, v, h => by simp at h
theorem thens_two : ∀ (j : Nat) (l : List Int) (c v : Int), l.length = 2 * j → thensT (l ++ [c, v]) = thensT l ++ [v]
  | 0, l, c, v, h => by
    have : l = [] := List.eq_nil_of_length_eq_zero (by omega)
    subst this; rfl
  | j + 1, a :: b :: l, c, v, h => by
    simp only [List.cons_append, thensT]
    rw [thens_two j l c v (by simp at h; omega)]
  | j + 1, [_], c, v, h => by simp at h; omega
  | j + 1, [], c, v, h => by simp at h
/-- the last value, behind all pairs -/
theorem whens_one : ∀ (j : Nat) (l : List Int) (v : Int), l.length = 2 * j → whensT (l ++ [v]) = whensT l
  | 0, l, v, h => by
    have : l = [] := List.eq_nil_of_length_eq_zero (by omega)
    subst this; rfl
  | j + 1, a :: b :: l, v, h => by
    simp only [List.cons_append, whensT]
    rw [whens_one j l v (by simp at h; omega)]
  | j + 1, [_], v, h => by simp at h; omega
  | j + 1, [], v, h => by simp at h
theorem thens_one : ∀ (j : Nat) (l : List Int) (v : Int), l.length = 2 * j → thensT (l ++ [v]) = thensT l ++ [v]
  | 0, l, v, h => by
    have : l = [] := List.eq_nil_of_length_eq_zero (by omega)
    subst this; rfl
  | j + 1, a :: b :: l, v, h => by
    simp only [List.cons_append, thensT]
    rw [thens_one j l v (by simp at h; omega)]
  | j + 1, [_], v, h => by simp at h; omega
  | j + 1, [], v, h => by simp at h
end Go.Proofs.YtolikaginhjbhaaDoor
/- Two rows of kinds that grow side by side in a region that draws its order. -/
namespace Go.Proofs.YtolikaginhjbhaaDoor
open Go.RowKit Go.Pen
attribute [local go_sem ↓] Go.wp_at_zero Go.wp_at_succ
attribute [local go_sem] Oper.semAt_some

def kcell (t : Int) : Value := .int .u8 t
/-- the types made so far, in a slice of their own -/
def KSl (w : World) (H K i : Nat) (ts : List Int) : Prop := ts.length = i ∧ w.heap[H]? = some (.cells (ts.map kcell ++ List.replicate (K - i) (kcell 0)).toArray 23 (0, 0))
theorem KSl.size {w : World} {H K i : Nat} {ts : List Int} (h : KSl w H K i ts) : H < w.heap.size := lt_of_heap h.2
theorem KSl.made {w : World} {B H K : Nat} (h : w.ownsRow B 23 1 (.slice (some ⟨H, 0, none⟩) K K) K (madeCells #[.int .u8 0] K).toList) : KSl w H K 0 [] := by
  obtain ⟨hl, h⟩ := h
  rcases h with ⟨h, -⟩ | ⟨g, cap, cur, hv, -, hh, -, -, hsz, htk⟩
  · cases h
  · cases hv
    refine ⟨rfl, ?_⟩
    rw [toList_madeCells_one] at htk
    rw [List.take_of_length_le (by simp [hsz])] at htk
    rw [hh]
    have : cur = (List.replicate K (kcell 0)).toArray := by rw [← Array.toList_inj, htk]; rfl
    rw [this]
    simp
theorem KSl.at {w : World} {H K i : Nat} {ts : List Int} (h : KSl w H K i ts) (hi : i < K) : w.cell? ⟨H, i, none⟩ = some (.int .u8 0) := by
  refine cell_of_heap h.2 ?_
  obtain ⟨h1, -⟩ := h
  subst h1
  simp only [List.getElem?_toArray]
  rw [List.getElem?_append_right (by simp)]
  simp only [List.length_map, Nat.sub_self]
  rw [List.getElem?_replicate, if_pos (by omega)]
  rfl
theorem heap_setCell_own {w : World} {b i : Nat} {cs : Array Value} {T : TypeId} {fr : Nat × Nat} (hb : w.heap[b]? = some (.cells cs T fr)) (v : Value) : (w.setCell ⟨b, i, none⟩ v).heap[b]? = some (.cells (cs.setIfInBounds i v) T fr) := by
  simp [World.setCell, Array.getElem?_modify, hb]
theorem KSl.put {w : World} {H K i : Nat} {ts : List Int} {t : Int} (h : KSl w H K i ts) (hi : i < K) : KSl (w.setCell ⟨H, i, none⟩ (.int .u8 t)) H K (i + 1) (ts ++ [t]) := by
  obtain ⟨h1, h2⟩ := h
  refine ⟨by simp [h1], ?_⟩
  rw [heap_setCell_own h2]
  congr 2
  subst h1
  apply Array.ext'
  obtain ⟨m, hm⟩ : ∃ m, K - ts.length = m + 1 := ⟨K - ts.length - 1, by omega⟩
  have hm' : K - (ts.length + 1) = m := by omega
  rw [hm, hm', List.replicate_succ]
  simp only [List.setIfInBounds_toArray, List.map_append, List.map_cons, List.map_nil, List.append_assoc, List.singleton_append]
  rw [List.set_append_right _ _ (by simp)]
  simp [kcell]
theorem KSl.below {w w' : World} {H K i : Nat} {ts : List Int} (h : KSl w H K i ts) (hb : Below w.heap.size w w') : KSl w' H K i ts := ⟨h.1, (hb.block H h.size).trans h.2⟩
theorem KSl.kinds {w : World} {H K : Nat} {ts : List Int} (h : KSl w H K K ts) : KindsOn w ts (.slice (some ⟨H, 0, none⟩) K K) := by
  obtain ⟨h1, h2⟩ := h
  refine ⟨some ⟨H, 0, none⟩, K, by rw [h1], (fun e => by cases e), fun _ => ⟨H, 0, rfl, fun i x hx => cell_of_heap h2 ?_⟩⟩
  have hl := (List.getElem?_eq_some_iff.1 hx).1
  simp only [List.getElem?_toArray, Nat.zero_add]
  rw [List.getElem?_append_left (by simpa using hl), List.getElem?_map, hx]
  rfl

theorem typs_snoc {cols : List Int} {k : ET} : ∀ {ks : List ET} {ts : List Int}, ET.typs cols ks = some ts → ET.typs cols (ks ++ [k]) = match k.typ cols with
    | none => none
    | some t => some (ts ++ [t])
  | [], ts, h => by
    simp only [ET.typs] at h
    cases h
    simp only [List.nil_append, ET.typs]
    cases k.typ cols <;> rfl
  | x :: ks, ts, h => by
    simp only [ET.typs] at h
    simp only [List.cons_append, ET.typs]
    cases hx : x.typ cols with
    | none => rw [hx] at h; cases h
    | some t =>
      rw [hx] at h
      simp only at h ⊢
      cases hq : ET.typs cols ks with
      | none => rw [hq] at h; cases h
      | some l =>
        rw [hq] at h
        cases h
        rw [typs_snoc hq]
        cases k.typ cols <;> rfl
theorem typs_none {cols : List Int} {k : ET} : ∀ {ks : List ET}, k ∈ ks → k.typ cols = none → ET.typs cols ks = none
  | [], h, _ => by cases h
  | x :: ks, h, hn => by
    simp only [ET.typs]
    rcases List.mem_cons.1 h with rfl | h
    · rw [hn]
    · rw [typs_none h hn]
      cases x.typ cols <;> rfl
theorem allT_mem : ∀ {l : List Int} {a k : Int}, allT a l = some k → k = a ∨ k ∈ l
  | [], a, k, h => by simp only [allT] at h; cases h; exact .inl rfl
  | x :: l, a, k, h => by
    simp only [allT] at h
    cases hf : fitsT a x with
    | none => rw [hf] at h; cases h
    | some y =>
      rw [hf] at h
      rcases allT_mem (l := l) (a := y) h with rfl | hm
      · unfold fitsT at hf
        split at hf
        · cases hf; exact .inr (by simp)
        · split at hf
          · cases hf; exact .inl rfl
          · cases hf
      · exact .inr (by simp [hm])
theorem thens_mem : ∀ (n : Nat) (l : List Int), l.length ≤ n → ∀ x ∈ thensT l, x ∈ l
  | _, [], _, x, h => by simp [thensT] at h
  | _, [v], _, x, h => by simpa [thensT] using h
  | 0, _ :: _ :: _, h, _, _ => by simp at h
  | n + 1, c :: v :: l, hn, x, h => by
    simp only [thensT, List.mem_cons] at h
    rcases h with rfl | h
    · simp
    · have := thens_mem n l (by simp at hn; omega) x h
      simp [this]
theorem givesT_range (o : Int) : 0 ≤ givesT o ∧ givesT o ≤ 255 := by
  unfold givesT
  split
  · omega
  · split <;> omega
theorem rest_range {o : Int} {l : List Int} {t : Int} (h : restT o l = some t) (hl : ∀ x ∈ l, 0 ≤ x ∧ x ≤ 255) : 0 ≤ t ∧ t ≤ 255 := by
  unfold restT at h
  split at h
  · cases h; omega
  split at h
  · rcases allT_mem h with rfl | hm
    · omega
    · exact hl _ hm
  split at h
  · split at h
    · cases h
    · rcases allT_mem h with rfl | hm
      · omega
      · exact hl _ (thens_mem _ l (Nat.le_refl _) _ hm)
  · split at h
    · cases h
    · cases h; exact givesT_range o
theorem typ_range {cols : List Int} : ∀ (e : ET), e.fits → ∀ t, e.typ cols = some t → 0 ≤ t ∧ t ≤ 255 := by
  refine ET.ind fun o c d ks ih hfit t ht => ?_
  simp only [ET.fits] at hfit
  obtain ⟨-, -, hd, -, hfs⟩ := hfit
  simp only [ET.typ] at ht
  split at ht
  · have ht := Option.some.inj ht
    split at ht <;> omega
  split at ht
  · have ht := Option.some.inj ht
    have := hd.1
    omega
  split at ht
  · cases ht; omega
  cases hq : ET.typs cols ks with
  | none => rw [hq] at ht; cases ht
  | some l =>
    rw [hq] at ht
    refine rest_range ht fun x hx => ?_
    obtain ⟨hl, hg⟩ := typs_get hq
    obtain ⟨i, hi⟩ := List.getElem?_of_mem hx
    have hlt := (List.getElem?_eq_some_iff.1 hi).1
    obtain ⟨t', h1, h2⟩ := hg i (ks[i]'(by omega)) (List.getElem?_eq_getElem _)
    rw [hi] at h1
    cases h1
    exact ih _ (List.getElem_mem _) ((ET.fitss_iff.1 hfs) _ (List.getElem_mem _)) _ h2
theorem typs_range {cols : List Int} {ks : List ET} {ts : List Int} (h : ∀ k ∈ ks, k.fits) (ht : ET.typs cols ks = some ts) : ∀ x ∈ ts, 0 ≤ x ∧ x ≤ 255 := by
  intro x hx
  obtain ⟨hl, hg⟩ := typs_get ht
  obtain ⟨i, hi⟩ := List.getElem?_of_mem hx
  have hlt := (List.getElem?_eq_some_iff.1 hi).1
  obtain ⟨t, h1, h2⟩ := hg i (ks[i]'(by omega)) (List.getElem?_eq_getElem _)
  rw [hi] at h1
  cases h1
  exact typ_range _ (h _ (List.getElem_mem _)) _ h2
/-- a store into the slice: what was held elsewhere -/
theorem cell_elsewhere {w : World} {b H i j : Nat} {v u : Value} (h : w.cell? ⟨b, j, none⟩ = some v) (hn : b ≠ H) : (w.setCell ⟨H, i, none⟩ u).cell? ⟨b, j, none⟩ = some v := by
  rw [cell_set_ne (by simpa using Ne.symm hn)]
  exact h

theorem whens_mem : ∀ (n : Nat) (l : List Int), l.length ≤ n → ∀ x ∈ whensT l, x ∈ l
  | _, [], _, x, h => by simp [whensT] at h
  | _, [v], _, x, h => by simp [whensT] at h
  | 0, _ :: _ :: _, h, _, _ => by simp at h
  | n + 1, c :: v :: l, hn, x, h => by
    simp only [whensT, List.mem_cons] at h
    rcases h with rfl | h
    · simp
    · have := whens_mem n l (by simp at hn; omega) x h
      simp [this]
theorem KSl.get {w : World} {H K : Nat} {ts : List Int} (h : KSl w H K K ts) {i : Nat} {t : Int} (hx : ts[i]? = some t) : w.cell? ⟨H, i, none⟩ = some (.int .u8 t) := by
  obtain ⟨h1, h2⟩ := h
  refine cell_of_heap h2 ?_
  have hl := (List.getElem?_eq_some_iff.1 hx).1
  simp only [List.getElem?_toArray]
  rw [List.getElem?_append_left (by simpa using hl), List.getElem?_map, hx]
  rfl
/-- two rows of the call's own, apart -/
structure Two (W : World) (B : Nat) (u : Value) (n : Nat) (xs : List Value) (v : Value) (m : Nat) (ys : List Value) : Prop where
  own1 : W.ownsRow B 23 1 u n xs
  own2 : W.ownsRow B 23 1 v m ys
  apart : ∀ g, u.ownBlock = some g → v.ownBlock ≠ some g
theorem own_moved {W W' : World} {B : Nat} {u : Value} {n : Nat} {xs : List Value} (h : W.ownsRow B 23 1 u n xs) (hk : ∀ g, u.ownBlock = some g → g < W.heap.size → W'.heap[g]? = W.heap[g]?) : W'.ownsRow B 23 1 u n xs := by
  obtain ⟨h1, h2⟩ := h
  refine ⟨h1, ?_⟩
  rcases h2 with h2 | ⟨g, cap, cur, rfl, hb, hh, h3⟩
  · exact .inl h2
  · exact .inr ⟨g, cap, cur, rfl, hb, (hk g rfl (lt_of_heap hh)).trans hh, h3⟩
theorem own_lt {W : World} {B : Nat} {u : Value} {n : Nat} {xs : List Value} (h : W.ownsRow B 23 1 u n xs) {g : Nat} (hg : u.ownBlock = some g) : B ≤ g ∧ g < W.heap.size := by
  rcases h.2 with ⟨rfl, h0⟩ | ⟨g', cap, cur, rfl, hb, hh, h3⟩
  · cases hg
  · cases hg
    exact ⟨hb, lt_of_heap hh⟩
/-- what a round keeps -/
structure Cas (w W : World) (H K : Nat) (ts : List Int) (u : Value) (n : Nat) (xs : List Value) (v : Value) (m : Nat) (ys : List Value) : Prop where
  two : Two W (H + 1) u n xs v m ys
  ks : KSl W H K K ts
  bel : Below w.heap.size w W
  lo : w.heap.size ≤ H
theorem Cas.size {w W : World} {H K : Nat} {ts : List Int} {u : Value} {n : Nat} {xs : List Value} {v : Value} {m : Nat} {ys : List Value} (h : Cas w W H K ts u n xs v m ys) : H + 1 ≤ W.heap.size := h.ks.size
theorem Cas.alloc {w W : World} {H K : Nat} {ts : List Int} {u : Value} {n : Nat} {xs : List Value} {v : Value} {m : Nat} {ys : List Value} (h : Cas w W H K ts u n xs v m ys) (o : Obj) : Cas w (W.alloc o) H K ts u n xs v m ys :=
  ⟨⟨h.two.own1.alloc _, h.two.own2.alloc _, h.two.apart⟩, h.ks.below (one_below _ _), h.bel.alloc h.bel.size _, h.lo⟩
theorem Cas.drew {w W : World} {H K : Nat} {ts : List Int} {u : Value} {n : Nat} {xs : List Value} {v : Value} {m : Nat} {ys : List Value} (h : Cas w W H K ts u n xs v m ys) : Cas w W.drew H K ts u n xs v m ys :=
  ⟨⟨h.two.own1, h.two.own2, h.two.apart⟩, h.ks, ⟨h.bel.os, h.bel.tape, h.bel.output, h.bel.size, h.bel.block⟩, h.lo⟩
theorem ksl_moved {W W' : World} {H K i : Nat} {ts : List Int} (h : KSl W H K i ts) (hb : W'.heap[H]? = W.heap[H]?) : KSl W' H K i ts := ⟨h.1, hb.trans h.2⟩
theorem Cas.app1 {w W W' : World} {H K : Nat} {ts : List Int} {u : Value} {n : Nat} {xs : List Value} {v : Value} {m : Nat} {ys : List Value} (h : Cas w W H K ts u n xs v m ys) {g cap n' : Nat} {xs' : List Value} (ho : W'.ownsRow (H + 1) 23 1 (.slice (some ⟨g, 0, none⟩) n' cap) n' xs') (hg : W.grownBy W' u.ownBlock) (ha : u.ownBlock = some g ∨ g = W.heap.size) : Cas w W' H K ts (.slice (some ⟨g, 0, none⟩) n' cap) n' xs' v m ys := by
  refine ⟨⟨ho, own_moved h.two.own2 fun g2 e hl => hg.block g2 hl fun e2 => h.two.apart g2 e2.symm e, fun g2 e e2 => ?_⟩, ksl_moved h.ks (hg.block H h.ks.size fun e => ?_), h.bel.grown hg h.bel.size fun g2 e => ?_, h.lo⟩
  · obtain rfl : g = g2 := by simpa [Value.ownBlock] using e
    rcases ha with ha | ha
    · exact h.two.apart g ha e2
    · have := (own_lt h.two.own2 e2).2; omega
  · have := (own_lt h.two.own1 e.symm).1; omega
  · have := (own_lt h.two.own1 e).1; have := h.lo; omega
theorem Cas.app2 {w W W' : World} {H K : Nat} {ts : List Int} {u : Value} {n : Nat} {xs : List Value} {v : Value} {m : Nat} {ys : List Value} (h : Cas w W H K ts u n xs v m ys) {g cap n' : Nat} {ys' : List Value} (ho : W'.ownsRow (H + 1) 23 1 (.slice (some ⟨g, 0, none⟩) n' cap) n' ys') (hg : W.grownBy W' v.ownBlock) (ha : v.ownBlock = some g ∨ g = W.heap.size) : Cas w W' H K ts u n xs (.slice (some ⟨g, 0, none⟩) n' cap) n' ys' := by
  refine ⟨⟨own_moved h.two.own1 fun g2 e hl => hg.block g2 hl fun e2 => h.two.apart g2 e e2.symm, ho, fun g2 e e2 => ?_⟩, ksl_moved h.ks (hg.block H h.ks.size fun e => ?_), h.bel.grown hg h.bel.size fun g2 e => ?_, h.lo⟩
  · obtain rfl : g = g2 := by simpa [Value.ownBlock] using e2
    rcases ha with ha | ha
    · exact h.two.apart g e ha
    · have := (own_lt h.two.own1 e).2; omega
  · have := (own_lt h.two.own2 e.symm).1; omega
  · have := (own_lt h.two.own2 e).1; have := h.lo; omega
/-- a cell laid for an append -/
structure Pend (W : World) (u v : Value) (b : Nat) (t : Int) : Prop where
  cell : W.heap[b]? = some (.cells #[kcell t] 23 (0, 0))
  far1 : u.ownBlock ≠ some b
  far2 : v.ownBlock ≠ some b
theorem Pend.lt {W : World} {u v : Value} {b : Nat} {t : Int} (h : Pend W u v b t) : b < W.heap.size := lt_of_heap h.cell
theorem Cas.pend {w W W' : World} {H K : Nat} {ts : List Int} {u : Value} {n : Nat} {xs : List Value} {v : Value} {m : Nat} {ys : List Value} (h : Cas w W H K ts u n xs v m ys) {t : Int} {b : Nat} (hc : W'.heap[b]? = some (.cells #[kcell t] 23 (0, 0))) (hb : b = W.heap.size) : Pend W' u v b t :=
  ⟨hc, fun e => by have := (own_lt h.two.own1 e).2; omega, fun e => by have := (own_lt h.two.own2 e).2; omega⟩
theorem Pend.alloc {W : World} {u v : Value} {b : Nat} {t : Int} (h : Pend W u v b t) (o : Obj) : Pend (W.alloc o) u v b t := ⟨(Below.heap_alloc _ _ _ h.lt).trans h.cell, h.far1, h.far2⟩
theorem Pend.app1 {W W' : World} {u v : Value} {b : Nat} {t : Int} (h : Pend W u v b t) {g n cap : Nat} (hg : W.grownBy W' u.ownBlock) (ha : u.ownBlock = some g ∨ g = W.heap.size) : Pend W' (.slice (some ⟨g, 0, none⟩) n cap) v b t :=
  ⟨(hg.block b h.lt fun e => h.far1 e.symm).trans h.cell, (fun e => by
    obtain rfl : g = b := by simpa [Value.ownBlock] using e
    rcases ha with ha | ha
    · exact h.far1 ha
    · have := h.lt; omega), h.far2⟩
theorem Pend.app2 {W W' : World} {u v : Value} {b : Nat} {t : Int} (h : Pend W u v b t) {g n cap : Nat} (hg : W.grownBy W' v.ownBlock) (ha : v.ownBlock = some g ∨ g = W.heap.size) : Pend W' u (.slice (some ⟨g, 0, none⟩) n cap) b t :=
  ⟨(hg.block b h.lt fun e => h.far2 e.symm).trans h.cell, h.far1, fun e => by
    obtain rfl : g = b := by simpa [Value.ownBlock] using e
    rcases ha with ha | ha
    · exact h.far2 ha
    · have := h.lt; omega⟩
theorem Pend.news {W : World} {u v : Value} {b : Nat} {t : Int} (h : Pend W u v b t) : ∀ j x, ([kcell t] : List Value)[j]? = some x → W.cell? ((⟨b, 0, none⟩ : Addr).add j) = some x :=
  World.news_of_block (cs := #[kcell t]) h.cell
/-- a slice of one kind is laid: a step of a region that draws -/
theorem step_build {ops : Array Oper} {o : Oper} {a : Act} {W : World} {K : Act → World → Prop} {Q : Exit → Act → World → Prop} {E : Prop} (hgd : o.guard = none) (x : Operand)
    (ho : o.op = .buildSlice 46 1 #[(0, x)]) (t : Int) (hx : a.eval x = .int .u8 t)
    (h : ∀ b W', W' = W.alloc (.cells #[kcell t] 23) → b = W.heap.size → K (a.put o.dst (.slice (some ⟨b, 0, none⟩) 1 1)) W') :
    if Region.wanted o (yielded ops a.tmps) = true then Oper.wp Tryd.prog o a W K Q else E := by
  have hw : Region.wanted o (yielded ops a.tmps) = true := by simp [Region.wanted, hgd]
  rw [if_pos hw]
  have h := h W.heap.size _ rfl rfl
  unfold Oper.wp execOp
  simp only [ho, Instr.buildSlice, Instr.fill, List.map_toArray, List.map_cons, List.map_nil, hx]

  go_simp
  exact h
end Go.Proofs.YtolikaginhjbhaaDoor
/- expr.typed: the walk of an operator. -/
namespace Go.Proofs.YtolikaginhjbhaaDoor
open Go.RowKit Go.Pen
attribute [local go_sem ↓] Go.wp_at_zero Go.wp_at_succ
attribute [local go_sem] Oper.semAt_some

set_option maxRecDepth 100000 in
set_option maxHeartbeats 1000000 in
theorem typed_op (cols : List Int) (vc : Value) (o c : Int) (d : Dat) (ks : List ET) (ih : ∀ k ∈ ks, TyOK cols vc k) (ho : 3 ≤ o ∧ o ≤ 22) : TyOK cols vc (.mk o c d ks) := by
  intro deep kv w hat hfit hg hw hk
  obtain ⟨i0, hi0, hz0, hz1, hz2⟩ := info_parts info23
  obtain ⟨a, cc, rfl, -, hks⟩ := ET.On.iff.1 hat
  simp only [ET.fits] at hfit
  obtain ⟨⟨ho0, ho1⟩, ⟨hc0, hc1⟩, -, hkl, hfs⟩ := hfit
  simp only [ET.good, Bool.and_eq_true, decide_eq_true_eq, ET.goods_iff] at hg
  simp only [ET.within, Bool.and_eq_true, ET.withins_iff, Bool.not_eq_true', Bool.and_eq_false_iff, decide_eq_false_iff_not] at hw
  have HF := Lib.hid (ET.fitss_iff.1 hfs)
  have HKS := Lib.hid hks
  have IH := Lib.hid ih
  have HG := Lib.hid hg
  have HW := Lib.hid hw.2
  have HK := Lib.hid hk
  obtain ⟨va, vcc, hvc, -, -⟩ := hk
  obtain ⟨R, eR⟩ : ∃ R, R = (ET.mk o c d ks).typ cols := ⟨_, rfl⟩
  rw [← eR]
  have ER := Lib.hid eR
  clear hfs hks ih hat hg hw eR
  unfold ET.agg
  simp only [ET.op, ET.col, ET.lit, ET.kids]
  obtain ⟨K, eK⟩ : ∃ K, K = ks.length := ⟨_, rfl⟩
  rw [← eK] at hkl ⊢
  have EK := Lib.hid eK
  have HVC := Lib.hid hvc
  clear eK hvc
  have n1 : (o == 1) = false := by simp; omega
  have n2 : (o == 2) = false := by simp; omega
  have n3 : (o == 23) = false := by simp; omega
  go_enter Tryd.func28, Tryd.ntmps28
  go_wp2_with (at_make; refine wpList_make_full _ rfl _ _ 46 rfl w.heap.size 23 i0 (.int .u8 0) 1 Tryd.underlying46 hi0 hz0 hz1 .i64 .i64 (K : Int) (K : Int) K rfl rfl rfl rfl (by rw [hz2]; omega) (by unfold maxLen; omega) (by simp) ?_)
  intro w1 ho1 hg1
  have hks1 := KSl.made ho1
  have hb1 : Below w.heap.size w w1 := (one_below w _).grown hg1 (by simp) (by intro k hk; cases hk)
  have hbx := hg1.block w.heap.size (by simp) (by simp)
  rw [heap_alloc_new] at hbx
  have c0 : w1.cell? ⟨w.heap.size, 0, none⟩ = some (.int .u8 o) := cell_of_heap hbx rfl
  have c1 : w1.cell? ⟨w.heap.size, 1, none⟩ = some (.slice a K cc) := cell_of_heap hbx rfl
  obtain ⟨H, eH⟩ : ∃ H, H = w.heap.size + 1 := ⟨_, rfl⟩
  rw [← eH] at hks1 ⊢
  have EH := Lib.hid eH
  have HKS1 := Lib.hid hks1
  have HB1 := Lib.hid hb1
  clear ho1 hg1 hks1 hb1 hbx eH
  go_wp2_with fail
  go_loopg [50] K (fun g s50 wr => ∃ (i : Nat) (ts : List Int), i ≤ K ∧ g = K - i ∧ s50 = .int .i64 i ∧ wr.cell? ⟨w.heap.size, 0, none⟩ = some (.int .u8 o) ∧ wr.cell? ⟨w.heap.size, 1, none⟩ = some (.slice a K cc) ∧ KSl wr H K i ts ∧ ET.typs cols (ks.take i) = some ts ∧ Below w.heap.size w wr)
  case atStart => exact ⟨0, [], Nat.zero_le _, rfl, rfl, c0, c1, HKS1.out, rfl, HB1.out⟩
  case round =>
    obtain ⟨i, ts, hi, rfl, rfl, d0, d1, hks, hts, hbr⟩ := hrel
    have HKSL := Lib.hid hks
    have HTS := Lib.hid hts
    clear c0 c1 hts
    by_cases hlt : i < K
    · obtain ⟨k, hk⟩ : ∃ k, ks[i]? = some k := ⟨ks[i]'(by rw [← EK.out]; exact hlt), List.getElem?_eq_getElem _⟩
      obtain ⟨b, off, rfl, -, hats⟩ := HKS.out (fun e => by simp only [ET.kids] at e; rw [e] at hk; simp at hk)
      obtain ⟨kv, hkc, hkat⟩ := hats.get hk
      obtain ⟨a', c', rfl⟩ := hkat.slice
      obtain ⟨k0, k1, k2, k3, k4, k5, k6⟩ := hkc.below hbr
      have hm := List.mem_of_getElem? hk
      have hct := fun W (hb : Below w.heap.size w W) => IH.out k hm (deep + 1) _ W (hkat.below hb) (HF.out k hm) (HG.out.2 k hm) (HW.out k hm) (HK.out.below hb)
      unfold ET.agg at hct
      have HCT := Lib.hid hct
      have HBR := Lib.hid hbr
      have HKX := Lib.hid hk
      have hH := hks.size
      have HHS := Lib.hid hH
      clear hats hkc hkat hct hbr hk hks
      go_wp2_with fail
      refine (HCT.out _ ?bb).mono ?_
      case bb => exact HBR.out.alloc HBR.out.size _
      rintro ev w2 ⟨v, rfl, hkv, hb2⟩
      have hbw : Below wr.heap.size wr w2 := (one_below wr _).trans (hb2.mono (by simp))
      have hk2 := HKSL.out.below hbw
      have e0 := hk2.at hlt
      have e1 := frozen_of_heap (o := i) hk2.2
      have f0 := cell_keep hbw d0
      have f1 := cell_keep hbw d1
      have hb3 : Below w.heap.size w w2 := HBR.out.trans (hbw.mono HBR.out.size)
      have hhs : H < w2.heap.size := hk2.size
      have HB3 := Lib.hid hb3
      have HK2 := Lib.hid hk2
      have F0 := Lib.hid f0
      have F1 := Lib.hid f1
      have hne : w.heap.size ≠ H := by have := EH.out; omega
      have HNE := Lib.hid hne
      have hpb : w.heap.size ≤ H := by have := EH.out; omega
      have HPB := Lib.hid hpb
      clear k0 k1 k2 k3 k4 k5 k6 d0 d1 hb2 hbw hk2 f0 f1 hb3 hne HCT hH HHS hpb
      cases hq : k.typ cols with
      | none =>
        have hn0 : R = none := by
          rw [ER.out]
          simp only [ET.typ]
          rw [if_neg (by omega), if_neg (by omega), if_neg (by omega), typs_none hm hq]
        subst hn0
        rw [hq] at hkv
        obtain ⟨g, rfl⟩ := hkv
        clear hq
        go_wp2_with fail
        go_ret2
        exact ⟨_, rfl, ⟨0, rfl⟩, HB3.out.setCell (p := ⟨H, i, none⟩) HPB.out _⟩
      | some t =>
        have hsn : ET.typs cols (ks.take (i + 1)) = some (ts ++ [t]) := by
          rw [List.take_succ_eq_append_getElem (List.getElem?_eq_some_iff.1 HKX.out).1, typs_snoc HTS.out, (List.getElem?_eq_some_iff.1 HKX.out).2, hq]
        have HSN := Lib.hid hsn
        rw [hq] at hkv
        obtain rfl : v = _ := hkv
        clear hsn hq
        go_wp2_with fail
        go_roundg (K - (i + 1))
        case measure => omega
        case rel => exact ⟨i + 1, ts ++ [t], by omega, rfl, by go_num, cell_elsewhere F0.out HNE.out, cell_elsewhere F1.out HNE.out, HK2.out.put hlt, HSN.out, HB3.out.setCell (p := ⟨H, i, none⟩) HPB.out _⟩
    · obtain rfl : i = K := by omega
      have HBR := Lib.hid hbr
      have hwl : ks.take i = ks := List.take_of_length_le (by rw [EK.out]; exact Nat.le_refl _)
      have hws := HTS.out
      rw [hwl] at hws
      have hrs : R = restT o ts := by
        rw [ER.out]
        simp only [ET.typ]
        rw [if_neg (by omega), if_neg (by omega), if_neg (by omega), hws]
      have HRS := Lib.hid hrs
      have hkd := hks.kinds
      have hr8 := typs_range HF.out hws
      have HR8 := Lib.hid hr8
      have HKD := Lib.hid hkd
      have htl : ts.length = i := hks.1
      have HTL := Lib.hid htl
      clear hwl hws hbr hrs hkd hks hr8 htl
      by_cases o20 : o = 20
      · subst o20
        obtain rfl : R = some 2 := HRS.out.trans (by simp [restT])
        go_wp2_with fail
        go_ret2
        exact ⟨_, rfl, kindIs _, HBR.out⟩
      have m20 : (o == 20) = false := by simpa using o20
      by_cases o22 : o = 22
      · subst o22
        obtain rfl : R = allT 1 ts := HRS.out.trans (by simp [restT])
        have hct := all_38 1 ts _ wr HKD.out ⟨by decide, by decide⟩ HR8.out (by rw [HTL.out]; omega)
        have HCT := Lib.hid hct
        clear hct
        go_wp2_with fail
        refine HCT.out.mono ?_
        rintro ev w2 ⟨rfl, rfl⟩
        cases hq : allT 1 ts with
        | none =>
          simp only [kindV]
          go_wp2_with fail
          go_ret2
          exact ⟨_, rfl, (by rw [hq]; exact ⟨0, rfl⟩), HBR.out⟩
        | some t =>
          simp only [kindV]
          go_wp2_with fail
          go_ret2
          exact ⟨_, rfl, (by rw [hq]; rfl), HBR.out⟩
      have m22 : (o == 22) = false := by simpa using o22
      by_cases o21 : o = 21
      · subst o21
        clear HTS HKS1
        go_wp2_with fail
        have hodd : i % 2 = 1 := by
          have hg := own_kids HG.out.1.1
          rw [← EK.out] at hg
          simp [kidsOk] at hg
          omega
        go_loopg [11, 12, 13] i (fun g s11 s12 s13 wq => ∃ (j : Nat), 2 * j < i ∧ g = i - j ∧ s13 = .int .i64 ((2 * j : Nat) : Int) ∧ Cas w wq H i ts s11 j ((whensT (ts.take (2 * j))).map kcell) s12 j ((thensT (ts.take (2 * j))).map kcell))
        case atStart => exact ⟨0, by omega, rfl, rfl, ⟨World.ownsRow_nil _ _ _ _, World.ownsRow_nil _ _ _ _, fun g e => by cases e⟩, HKSL.out, HBR.out, by have := EH.out; omega⟩
        case round =>
          obtain ⟨j, hj, rfl, rfl, hcas⟩ := hrel
          have HCAS := Lib.hid hcas
          clear hcas
          obtain ⟨p, ep⟩ : ∃ p, p = 2 * j := ⟨_, rfl⟩
          obtain ⟨XS, eX⟩ : ∃ XS, XS = (whensT (ts.take (2 * j))).map kcell := ⟨_, rfl⟩
          obtain ⟨YS, eY⟩ : ∃ YS, YS = (thensT (ts.take (2 * j))).map kcell := ⟨_, rfl⟩
          rw [← eX, ← eY] at HCAS
          have hpi : p < i := by omega
          have EX := Lib.hid eX
          have EY := Lib.hid eY
          have EP := Lib.hid ep
          rw [← ep]
          clear eX eY
          by_cases hlt : p + 1 < i
          · obtain ⟨tc, htc⟩ : ∃ tc, ts[p]? = some tc := ⟨ts[p]'(by have := HTL.out; omega), List.getElem?_eq_getElem _⟩
            obtain ⟨tv, htv⟩ : ∃ tv, ts[p + 1]? = some tv := ⟨ts[p + 1]'(by have := HTL.out; omega), List.getElem?_eq_getElem _⟩
            have HTC := Lib.hid htc
            have HTV := Lib.hid htv
            have hp2 : (ts.take (2 * j)).length = 2 * j := by have := HTL.out; rw [List.length_take]; omega
            have htk : ts.take (2 * (j + 1)) = ts.take (2 * j) ++ [tc, tv] := by
              have e1 : 2 * (j + 1) = 2 * j + 1 + 1 := by omega
              rw [ep] at htc htv
              rw [e1, List.take_add_one, List.take_add_one, htc, htv]
              simp
            have hnx : (whensT (ts.take (2 * (j + 1)))).map kcell = XS ++ [kcell tc] := by
              rw [htk, whens_two j _ _ _ hp2, EX.out, List.map_append]; rfl
            have hny : (thensT (ts.take (2 * (j + 1)))).map kcell = YS ++ [kcell tv] := by
              rw [htk, thens_two j _ _ _ hp2, EY.out, List.map_append]; rfl
            have HNX := Lib.hid hnx
            have HNY := Lib.hid hny
            have hil : i ≤ 140737488355328 := by omega
            have HNJ := Lib.hid (show 2 * (j + 1) < i by omega)
            obtain ⟨q, eq⟩ : ∃ q, p + 1 = q := ⟨_, rfl⟩
            have hwr : IntKind.i64.wrap ((p : Int) + 1) = (q : Int) := by rw [IntWalk.i64_in _ (by omega)]; omega
            have hqi : (q : Int) < (i : Int) := by omega
            rw [eq] at HTV
            clear htc htv ep hp2 htk hnx hny hlt eq
            go_wp2_with fail
            have hS : ∀ W, KSl W H i i ts → W.cell? ⟨H, p, none⟩ = some (.int .u8 tc) ∧ W.cell? ⟨H, q, none⟩ = some (.int .u8 tv) := fun W h => ⟨h.get HTC.out, h.get HTV.out⟩
            have HS := Lib.hid hS
            have CD := Lib.hid HCAS.out.drew
            obtain ⟨q0, q1⟩ := hS _ HCAS.out.ks
            clear hS
            refine wp_region_held_drew (S := fun W => W.cell? ⟨H, p, none⟩ = some (.int .u8 tc) ∧ W.cell? ⟨H, q, none⟩ = some (.int .u8 tv)) (by kernel_rfl) ⟨q0, q1⟩ (fun hHeld => ?_)
            refine wpAnyH_take (i := 0) (oi := ⟨some 87, _, _, _, _, _⟩) (v := ?_) rfl (by kernel_rfl) (by kernel_rfl) (by kernel_rfl) (fun _ _ _ h => h) (Or.inl ⟨by rfl, ?_⟩) (by assumption) ?_; rotate_left; (intro w hSw; (try dsimp only at hSw); go_simp; (try with_reducible rfl)); simp only [Act.put, List.setIfInBounds_toArray, List.set_cons_zero, List.set_cons_succ]
            refine wpAnyH_take (i := 1) (oi := ⟨some 88, _, _, _, _, _⟩) (v := ?_) rfl (by kernel_rfl) (by kernel_rfl) (by kernel_rfl) (fun _ _ _ h => h) (Or.inl ⟨by rfl, ?_⟩) (by assumption) ?_; rotate_left; (intro w hSw; (try dsimp only at hSw); go_simp; (try with_reducible rfl)); simp only [Act.put, List.setIfInBounds_toArray, List.set_cons_zero, List.set_cons_succ]
            refine wpAnyH_take (i := 2) (oi := ⟨some 89, _, _, _, _, _⟩) (v := ?_) rfl (by kernel_rfl) (by kernel_rfl) (by kernel_rfl) (fun _ _ _ h => h) (Or.inl ⟨by rfl, ?_⟩) (by assumption) ?_; rotate_left; (intro w hSw; (try dsimp only at hSw); go_simp; (try with_reducible rfl)); simp only [Act.put, List.setIfInBounds_toArray, List.set_cons_zero, List.set_cons_succ]
            refine wpAnyH_take (i := 3) (oi := ⟨some 90, _, _, _, _, _⟩) (v := ?_) rfl (by kernel_rfl) (by kernel_rfl) (by kernel_rfl) (fun _ _ _ h => h) (Or.inl ⟨by rfl, ?_⟩) (by assumption) ?_; rotate_left; (intro w hSw; (try dsimp only at hSw); go_simp; (try with_reducible rfl)); simp only [Act.put, List.setIfInBounds_toArray, List.set_cons_zero, List.set_cons_succ]
            refine wpAnyH_take (i := 4) (oi := ⟨some 91, _, _, _, _, _⟩) (v := ?_) rfl (by kernel_rfl) (by kernel_rfl) (by kernel_rfl) (fun _ _ _ h => h) (Or.inl ⟨by rfl, ?_⟩) (by assumption) ?_; rotate_left; (intro w hSw; (try dsimp only at hSw); go_simp; (try with_reducible rfl)); simp only [Act.put, List.setIfInBounds_toArray, List.set_cons_zero, List.set_cons_succ]
            refine wpAnyH_take (i := 7) (oi := ⟨some 94, _, _, _, _, _⟩) (v := ?_) rfl (by kernel_rfl) (by kernel_rfl) (by kernel_rfl) (fun _ _ _ h => h) (Or.inl ⟨by rfl, ?_⟩) (by assumption) ?_; rotate_left; (intro w hSw; (try dsimp only at hSw); go_simp; (try with_reducible rfl)); simp only [Act.put, List.setIfInBounds_toArray, List.set_cons_zero, List.set_cons_succ]
            refine wpAnyH_take (i := 8) (oi := ⟨some 95, _, _, _, _, _⟩) (v := ?_) rfl (by kernel_rfl) (by kernel_rfl) (by kernel_rfl) (fun _ _ _ h => h) (Or.inl ⟨by rfl, ?_⟩) (by assumption) ?_; rotate_left; (intro w hSw; (try dsimp only at hSw); go_simp; (try with_reducible rfl)); simp only [Act.put, List.setIfInBounds_toArray, List.set_cons_zero, List.set_cons_succ]
            refine wpAnyH_take (i := 9) (oi := ⟨some 96, _, _, _, _, _⟩) (v := ?_) rfl (by kernel_rfl) (by kernel_rfl) (by kernel_rfl) (fun _ _ _ h => h) (Or.inl ⟨by rfl, ?_⟩) (by assumption) ?_; rotate_left; (intro w hSw; (try dsimp only at hSw); go_simp; (try with_reducible rfl)); simp only [Act.put, List.setIfInBounds_toArray, List.set_cons_zero, List.set_cons_succ]
            refine wpAnyH_take (i := 10) (oi := ⟨some 97, _, _, _, _, _⟩) (v := ?_) rfl (by kernel_rfl) (by kernel_rfl) (by kernel_rfl) (fun _ _ _ h => h) (Or.inl ⟨by rfl, ?_⟩) (by assumption) ?_; rotate_left; (intro w hSw; (try dsimp only at hSw); go_simp; (try with_reducible rfl)); simp only [Act.put, List.setIfInBounds_toArray, List.set_cons_zero, List.set_cons_succ]
            refine wpAnyH_take (i := 11) (oi := ⟨some 98, _, _, _, _, _⟩) (v := ?_) rfl (by kernel_rfl) (by kernel_rfl) (by kernel_rfl) (fun _ _ _ h => h) (Or.inl ⟨by rfl, ?_⟩) (by assumption) ?_; rotate_left; (intro w hSw; (try dsimp only at hSw); go_simp; (try with_reducible rfl)); simp only [Act.put, List.setIfInBounds_toArray, List.set_cons_zero, List.set_cons_succ]
            refine wpAnyH_take (i := 12) (oi := ⟨some 99, _, _, _, _, _⟩) (v := ?_) rfl (by kernel_rfl) (by kernel_rfl) (by kernel_rfl) (fun _ _ _ h => h) (Or.inl ⟨by rfl, ?_⟩) (by assumption) ?_; rotate_left; (intro w hSw; (try dsimp only at hSw); go_simp; (try with_reducible rfl)); simp only [Act.put, List.setIfInBounds_toArray, List.set_cons_zero, List.set_cons_succ]
            refine wpAnyH_ready (rs := [5, 13]) (by kernel_rfl) (by simp) ?_
            refine AllReadyH.cons (o := ⟨some 92, _, _, _, _, _⟩) rfl (fun K hK => ?_) (AllReadyH.cons (o := ⟨some 100, _, _, _, _, _⟩) rfl (fun K hK => ?_) (AllReadyH.nil))
            · refine step_build rfl (.tmp 91) rfl tc (by simp [Act.eval]) ?_
              intro b1 W1 hW1 hb1
              have C1 := Lib.hid (show Cas w W1 H i ts u11 j XS u12 j YS by rw [hW1]; exact CD.out.alloc _)
              have P1 := Lib.hid (CD.out.pend (W' := W1) (t := tc) (b := b1) (by rw [hW1, hb1]; exact heap_alloc_new _ _) hb1)
              clear hW1 hb1
              refine hK.out _ _ (HS.out _ C1.out.ks) (fun hHeld => ?_)
              clear hK K
              simp only [Act.put, List.setIfInBounds_toArray, List.set_cons_zero, List.set_cons_succ]
              refine wpAnyH_ready (rs := [6, 13]) (by kernel_rfl) (by simp) ?_
              refine AllReadyH.cons (o := ⟨some 93, _, _, _, _, _⟩) rfl (fun K hK => ?_) (AllReadyH.cons (o := ⟨some 100, _, _, _, _, _⟩) rfl (fun K hK => ?_) (AllReadyH.nil))
              · refine step_append_lies _ rfl (.tmp 87) (.tmp 92) 46 rfl (H + 1) 23 i0 (.int .u8 0) 1 1 Tryd.underlying46 hi0 hz0 hz1 hz2 rfl (by decide) u11 j XS (by simp [Act.eval]) C1.out.two.own1 ⟨b1, 0, none⟩ 1 1 [kcell tc] (by simp [Act.eval]) rfl P1.out.news (by intro u hu; simp at hu; subst hu; rfl) (by decide) (by unfold maxLen; omega) (by omega) C1.out.size _ rfl ?_
                intro g2 cap2 W2 ho2 hg2 ha2 _
                have C2 := Lib.hid (C1.out.app1 ho2 hg2 ha2)
                clear ho2 hg2 ha2
                refine hK.out _ _ (HS.out _ C2.out.ks) (fun hHeld => ?_)
                clear hK K
                simp only [Act.put, List.setIfInBounds_toArray, List.set_cons_zero, List.set_cons_succ]
                refine wpAnyH_ready (rs := [13]) (by kernel_rfl) (by simp) ?_
                refine AllReadyH.cons (o := ⟨some 100, _, _, _, _, _⟩) rfl (fun K hK => ?_) (AllReadyH.nil)
                refine step_build rfl (.tmp 99) rfl tv (by simp [Act.eval]) ?_
                intro b3 W3 hW3 hb3
                have C3 := Lib.hid (show Cas w W3 H i ts (.slice (some ⟨g2, 0, none⟩) (j + 1) cap2) (j + 1) (XS ++ [kcell tc]) u12 j YS by rw [hW3]; exact C2.out.alloc _)
                have P3 := Lib.hid (C2.out.pend (W' := W3) (t := tv) (b := b3) (by rw [hW3, hb3]; exact heap_alloc_new _ _) hb3)
                clear hW3 hb3
                refine hK.out _ _ (HS.out _ C3.out.ks) (fun hHeld => ?_)
                clear hK K
                simp only [Act.put, List.setIfInBounds_toArray, List.set_cons_zero, List.set_cons_succ]
                refine wpAnyH_ready (rs := [14]) (by kernel_rfl) (by simp) ?_
                refine AllReadyH.cons (o := ⟨some 101, _, _, _, _, _⟩) rfl (fun K hK => ?_) (AllReadyH.nil)
                refine step_append_lies _ rfl (.tmp 94) (.tmp 100) 46 rfl (H + 1) 23 i0 (.int .u8 0) 1 1 Tryd.underlying46 hi0 hz0 hz1 hz2 rfl (by decide) u12 j YS (by simp [Act.eval]) C3.out.two.own2 ⟨b3, 0, none⟩ 1 1 [kcell tv] (by simp [Act.eval]) rfl P3.out.news (by intro u hu; simp at hu; subst hu; rfl) (by decide) (by unfold maxLen; omega) (by omega) C3.out.size _ rfl ?_
                intro g4 cap4 W4 ho4 hg4 ha4 _
                have C4 := Lib.hid (C3.out.app2 ho4 hg4 ha4)
                clear ho4 hg4 ha4
                refine hK.out _ _ (HS.out _ C4.out.ks) (fun hHeld => ?_)
                clear hK K
                simp only [Act.put, List.setIfInBounds_toArray, List.set_cons_zero, List.set_cons_succ]
                refine wpAnyH_take (i := 15) (oi := ⟨some 11, _, _, _, _, _⟩) (v := ?_) rfl (by kernel_rfl) (by kernel_rfl) (by kernel_rfl) (fun _ _ _ h => h) (Or.inl ⟨by rfl, ?_⟩) (by assumption) ?_; rotate_left; (intro w hSw; (try dsimp only at hSw); go_simp; (try with_reducible rfl)); simp only [Act.put, List.setIfInBounds_toArray, List.set_cons_zero, List.set_cons_succ]
                refine wpAnyH_take (i := 16) (oi := ⟨some 12, _, _, _, _, _⟩) (v := ?_) rfl (by kernel_rfl) (by kernel_rfl) (by kernel_rfl) (fun _ _ _ h => h) (Or.inl ⟨by rfl, ?_⟩) (by assumption) ?_; rotate_left; (intro w hSw; (try dsimp only at hSw); go_simp; (try with_reducible rfl)); simp only [Act.put, List.setIfInBounds_toArray, List.set_cons_zero, List.set_cons_succ]
                refine wpAnyH_done (by kernel_rfl) ?_ _
                have CE := C4
                clear HS CD
                go_wp2
                go_roundg (i - (j + 1))
                case measure => omega
                case rel => exact ⟨j + 1, HNJ.out, rfl, by rw [EP.out]; go_num, by rw [HNX.out, HNY.out]; exact CE.out⟩
              · refine step_build rfl (.tmp 99) rfl tv (by simp [Act.eval]) ?_
                intro b5 W5 hW5 hb5
                have C5 := Lib.hid (show Cas w W5 H i ts u11 j XS u12 j YS by rw [hW5]; exact C1.out.alloc _)
                have P5 := Lib.hid (C1.out.pend (W' := W5) (t := tv) (b := b5) (by rw [hW5, hb5]; exact heap_alloc_new _ _) hb5)
                have Q5 := Lib.hid (show Pend W5 u11 u12 b1 tc by rw [hW5]; exact P1.out.alloc _)
                clear hW5 hb5
                refine hK.out _ _ (HS.out _ C5.out.ks) (fun hHeld => ?_)
                clear hK K
                simp only [Act.put, List.setIfInBounds_toArray, List.set_cons_zero, List.set_cons_succ]
                refine wpAnyH_ready (rs := [6]) (by kernel_rfl) (by simp) ?_
                refine AllReadyH.cons (o := ⟨some 93, _, _, _, _, _⟩) rfl (fun K hK => ?_) (AllReadyH.nil)
                refine step_append_lies _ rfl (.tmp 87) (.tmp 92) 46 rfl (H + 1) 23 i0 (.int .u8 0) 1 1 Tryd.underlying46 hi0 hz0 hz1 hz2 rfl (by decide) u11 j XS (by simp [Act.eval]) C5.out.two.own1 ⟨b1, 0, none⟩ 1 1 [kcell tc] (by simp [Act.eval]) rfl Q5.out.news (by intro u hu; simp at hu; subst hu; rfl) (by decide) (by unfold maxLen; omega) (by omega) C5.out.size _ rfl ?_
                intro g6 cap6 W6 ho6 hg6 ha6 _
                have C6 := Lib.hid (C5.out.app1 ho6 hg6 ha6)
                have Q6 := Lib.hid (P5.out.app1 (n := j + 1) (cap := cap6) hg6 ha6)
                clear ho6 hg6 ha6
                refine hK.out _ _ (HS.out _ C6.out.ks) (fun hHeld => ?_)
                clear hK K
                simp only [Act.put, List.setIfInBounds_toArray, List.set_cons_zero, List.set_cons_succ]
                refine wpAnyH_ready (rs := [14]) (by kernel_rfl) (by simp) ?_
                refine AllReadyH.cons (o := ⟨some 101, _, _, _, _, _⟩) rfl (fun K hK => ?_) (AllReadyH.nil)
                refine step_append_lies _ rfl (.tmp 94) (.tmp 100) 46 rfl (H + 1) 23 i0 (.int .u8 0) 1 1 Tryd.underlying46 hi0 hz0 hz1 hz2 rfl (by decide) u12 j YS (by simp [Act.eval]) C6.out.two.own2 ⟨b5, 0, none⟩ 1 1 [kcell tv] (by simp [Act.eval]) rfl Q6.out.news (by intro u hu; simp at hu; subst hu; rfl) (by decide) (by unfold maxLen; omega) (by omega) C6.out.size _ rfl ?_
                intro g7 cap7 W7 ho7 hg7 ha7 _
                have C7 := Lib.hid (C6.out.app2 ho7 hg7 ha7)
                clear ho7 hg7 ha7
                refine hK.out _ _ (HS.out _ C7.out.ks) (fun hHeld => ?_)
                clear hK K
                simp only [Act.put, List.setIfInBounds_toArray, List.set_cons_zero, List.set_cons_succ]
                refine wpAnyH_take (i := 15) (oi := ⟨some 11, _, _, _, _, _⟩) (v := ?_) rfl (by kernel_rfl) (by kernel_rfl) (by kernel_rfl) (fun _ _ _ h => h) (Or.inl ⟨by rfl, ?_⟩) (by assumption) ?_; rotate_left; (intro w hSw; (try dsimp only at hSw); go_simp; (try with_reducible rfl)); simp only [Act.put, List.setIfInBounds_toArray, List.set_cons_zero, List.set_cons_succ]
                refine wpAnyH_take (i := 16) (oi := ⟨some 12, _, _, _, _, _⟩) (v := ?_) rfl (by kernel_rfl) (by kernel_rfl) (by kernel_rfl) (fun _ _ _ h => h) (Or.inl ⟨by rfl, ?_⟩) (by assumption) ?_; rotate_left; (intro w hSw; (try dsimp only at hSw); go_simp; (try with_reducible rfl)); simp only [Act.put, List.setIfInBounds_toArray, List.set_cons_zero, List.set_cons_succ]
                refine wpAnyH_done (by kernel_rfl) ?_ _
                have CE := C7
                clear HS CD
                go_wp2
                go_roundg (i - (j + 1))
                case measure => omega
                case rel => exact ⟨j + 1, HNJ.out, rfl, by rw [EP.out]; go_num, by rw [HNX.out, HNY.out]; exact CE.out⟩
            · refine step_build rfl (.tmp 99) rfl tv (by simp [Act.eval]) ?_
              intro b8 W8 hW8 hb8
              have C8 := Lib.hid (show Cas w W8 H i ts u11 j XS u12 j YS by rw [hW8]; exact CD.out.alloc _)
              have P8 := Lib.hid (CD.out.pend (W' := W8) (t := tv) (b := b8) (by rw [hW8, hb8]; exact heap_alloc_new _ _) hb8)
              clear hW8 hb8
              refine hK.out _ _ (HS.out _ C8.out.ks) (fun hHeld => ?_)
              clear hK K
              simp only [Act.put, List.setIfInBounds_toArray, List.set_cons_zero, List.set_cons_succ]
              refine wpAnyH_ready (rs := [5]) (by kernel_rfl) (by simp) ?_
              refine AllReadyH.cons (o := ⟨some 92, _, _, _, _, _⟩) rfl (fun K hK => ?_) (AllReadyH.nil)
              refine step_build rfl (.tmp 91) rfl tc (by simp [Act.eval]) ?_
              intro b9 W9 hW9 hb9
              have C9 := Lib.hid (show Cas w W9 H i ts u11 j XS u12 j YS by rw [hW9]; exact C8.out.alloc _)
              have P9 := Lib.hid (C8.out.pend (W' := W9) (t := tc) (b := b9) (by rw [hW9, hb9]; exact heap_alloc_new _ _) hb9)
              have Q9 := Lib.hid (show Pend W9 u11 u12 b8 tv by rw [hW9]; exact P8.out.alloc _)
              clear hW9 hb9
              refine hK.out _ _ (HS.out _ C9.out.ks) (fun hHeld => ?_)
              clear hK K
              simp only [Act.put, List.setIfInBounds_toArray, List.set_cons_zero, List.set_cons_succ]
              refine wpAnyH_ready (rs := [6]) (by kernel_rfl) (by simp) ?_
              refine AllReadyH.cons (o := ⟨some 93, _, _, _, _, _⟩) rfl (fun K hK => ?_) (AllReadyH.nil)
              refine step_append_lies _ rfl (.tmp 87) (.tmp 92) 46 rfl (H + 1) 23 i0 (.int .u8 0) 1 1 Tryd.underlying46 hi0 hz0 hz1 hz2 rfl (by decide) u11 j XS (by simp [Act.eval]) C9.out.two.own1 ⟨b9, 0, none⟩ 1 1 [kcell tc] (by simp [Act.eval]) rfl P9.out.news (by intro u hu; simp at hu; subst hu; rfl) (by decide) (by unfold maxLen; omega) (by omega) C9.out.size _ rfl ?_
              intro g10 cap10 W10 ho10 hg10 ha10 _
              have C10 := Lib.hid (C9.out.app1 ho10 hg10 ha10)
              have Q10 := Lib.hid (Q9.out.app1 (n := j + 1) (cap := cap10) hg10 ha10)
              clear ho10 hg10 ha10
              refine hK.out _ _ (HS.out _ C10.out.ks) (fun hHeld => ?_)
              clear hK K
              simp only [Act.put, List.setIfInBounds_toArray, List.set_cons_zero, List.set_cons_succ]
              refine wpAnyH_ready (rs := [14]) (by kernel_rfl) (by simp) ?_
              refine AllReadyH.cons (o := ⟨some 101, _, _, _, _, _⟩) rfl (fun K hK => ?_) (AllReadyH.nil)
              refine step_append_lies _ rfl (.tmp 94) (.tmp 100) 46 rfl (H + 1) 23 i0 (.int .u8 0) 1 1 Tryd.underlying46 hi0 hz0 hz1 hz2 rfl (by decide) u12 j YS (by simp [Act.eval]) C10.out.two.own2 ⟨b8, 0, none⟩ 1 1 [kcell tv] (by simp [Act.eval]) rfl Q10.out.news (by intro u hu; simp at hu; subst hu; rfl) (by decide) (by unfold maxLen; omega) (by omega) C10.out.size _ rfl ?_
              intro g11 cap11 W11 ho11 hg11 ha11 _
              have C11 := Lib.hid (C10.out.app2 ho11 hg11 ha11)
              clear ho11 hg11 ha11
              refine hK.out _ _ (HS.out _ C11.out.ks) (fun hHeld => ?_)
              clear hK K
              simp only [Act.put, List.setIfInBounds_toArray, List.set_cons_zero, List.set_cons_succ]
              refine wpAnyH_take (i := 15) (oi := ⟨some 11, _, _, _, _, _⟩) (v := ?_) rfl (by kernel_rfl) (by kernel_rfl) (by kernel_rfl) (fun _ _ _ h => h) (Or.inl ⟨by rfl, ?_⟩) (by assumption) ?_; rotate_left; (intro w hSw; (try dsimp only at hSw); go_simp; (try with_reducible rfl)); simp only [Act.put, List.setIfInBounds_toArray, List.set_cons_zero, List.set_cons_succ]
              refine wpAnyH_take (i := 16) (oi := ⟨some 12, _, _, _, _, _⟩) (v := ?_) rfl (by kernel_rfl) (by kernel_rfl) (by kernel_rfl) (fun _ _ _ h => h) (Or.inl ⟨by rfl, ?_⟩) (by assumption) ?_; rotate_left; (intro w hSw; (try dsimp only at hSw); go_simp; (try with_reducible rfl)); simp only [Act.put, List.setIfInBounds_toArray, List.set_cons_zero, List.set_cons_succ]
              refine wpAnyH_done (by kernel_rfl) ?_ _
              have CE := C11
              clear HS CD
              go_wp2
              go_roundg (i - (j + 1))
              case measure => omega
              case rel => exact ⟨j + 1, HNJ.out, rfl, by rw [EP.out]; go_num, by rw [HNX.out, HNY.out]; exact CE.out⟩
          · have hip : i = p + 1 := by omega
            obtain ⟨v, hv⟩ : ∃ v, ts[p]? = some v := ⟨ts[p]'(by have := HTL.out; omega), List.getElem?_eq_getElem _⟩
            have htk : ts = ts.take (2 * j) ++ [v] := by
              have hl := HTL.out
              conv => lhs; rw [← List.take_of_length_le (l := ts) (i := p + 1) (by omega)]
              rw [List.take_add_one, hv, ep]; rfl
            have hp2 : (ts.take (2 * j)).length = 2 * j := by have := HTL.out; rw [List.length_take]; omega
            have hwh : whensT ts = whensT (ts.take (2 * j)) := by conv => lhs; rw [htk]; rw [whens_one j _ _ hp2]
            have hth : thensT ts = thensT (ts.take (2 * j)) ++ [v] := by conv => lhs; rw [htk]; rw [thens_one j _ _ hp2]
            have hvm : v ∈ ts := List.mem_of_getElem? hv
            have HVM := Lib.hid hvm
            have hq0 := HCAS.out.ks.get hv
            have ho1 := HCAS.out.two.own1
            have hlx := ho1.1
            rw [EX.out, ← hwh] at ho1 hlx
            simp only [List.length_map, Nat.mul_one] at hlx
            have hly := HCAS.out.two.own2.1
            rw [EY.out] at hly
            simp only [List.length_map, Nat.mul_one] at hly
            have hyy : YS ++ [kcell v] = (thensT ts).map kcell := by rw [EY.out, hth, List.map_append]; rfl
            have hct := all_38 2 (whensT ts) _ wr (rowKinds ho1) ⟨by decide, by decide⟩ (fun x hx => HR8.out x (whens_mem _ _ (Nat.le_refl _) x hx)) (by omega)
            have hlt2 : (thensT ts).length ≤ 140737488355328 := by rw [hth, List.length_append, hly]; simp; omega
            have HCT := Lib.hid hct
            have HLT2 := Lib.hid hlt2
            have HYY := Lib.hid hyy
            have hwr : IntKind.i64.wrap ((i : Int) - 1) = (p : Int) := by rw [IntWalk.i64_in _ (by omega)]; omega
            have hp0 : (p : Int) < (i : Int) := by omega
            have hrs := HRS.out
            unfold restT at hrs
            rw [if_neg (by decide), if_neg (by decide), if_pos rfl] at hrs
            have HR2 := Lib.hid hrs
            have hsz := HCAS.out.size
            have hj9 : j ≤ 140737488355000 := by omega
            clear hv htk hp2 hwh hth hvm ho1 hlx hly hyy hct hlt2 hrs ep HRS HKD
            go_wp2_with fail
            refine HCT.out.mono ?_
            rintro ev w2 ⟨rfl, rfl⟩
            have hrs := HR2.out
            cases hq : allT 2 (whensT ts) with
            | none =>
              rw [hq] at hrs
              subst hrs
              simp only [kindV]
              clear hq
              go_wp2_with fail
              go_ret2
              exact ⟨_, rfl, ⟨0, rfl⟩, HCAS.out.bel⟩
            | some t9 =>
              rw [hq] at hrs
              have HR2 := Lib.hid hrs
              simp only [kindV]
              clear hq hrs
              go_wp2_with (at_builtin; go_must (refine wpList_append_lies _ rfl _ _ 46 rfl (H + 1) 23 i0 _ 1 1 Tryd.underlying46 hi0 hz0 hz1 hz2 rfl (by decide) u12 j YS rfl (HCAS.out.two.own2.alloc _) ⟨w2.heap.size, 0, none⟩ 1 1 [kcell v] rfl rfl ?c1 ?c2 (by decide) ?c3 ?c4 ?c5 _ rfl ?_))
              case c1 => exact fun _ _ hj => hj
              case c2 => rfl
              case c3 => unfold maxLen; omega
              case c4 => omega
              case c5 => first | omega | (simp; omega)
              intro g cap w5 hown5 hgrow hat5 _
              have hbl := ((HCAS.out.alloc (.cells #[kcell v] 23)).app2 hown5 hgrow (by rw [World.size_alloc]; exact hat5)).bel
              rw [HYY.out] at hown5
              have hct := all_38 1 (thensT ts) _ w5 (rowKinds hown5) ⟨by decide, by decide⟩ (fun x hx => HR8.out x (thens_mem _ _ (Nat.le_refl _) x hx)) HLT2.out
              have HCT := Lib.hid hct
              have HBL := Lib.hid hbl
              clear hct hbl hown5 hgrow hat5
              go_wp2_with fail
              refine HCT.out.mono ?_
              rintro ev w6 ⟨rfl, rfl⟩
              have hrs := HR2.out
              cases hq : allT 1 (thensT ts) with
              | none =>
                rw [hq] at hrs
                subst hrs
                simp only [kindV]
                clear hq
                go_wp2_with fail
                go_ret2
                exact ⟨_, rfl, ⟨0, rfl⟩, HBL.out⟩
              | some t8 =>
                rw [hq] at hrs
                subst hrs
                simp only [kindV]
                clear hq
                go_wp2_with fail
                go_ret2
                exact ⟨_, rfl, rfl, HBL.out⟩
      have m21 : (o == 21) = false := by simpa using o21
      have hrt : R = match allT (asksT o) ts with
        | none => none
        | some _ => some (givesT o) := by
        rw [HRS.out]; unfold restT; rw [if_neg o20, if_neg o22, if_neg o21]; cases allT (asksT o) ts <;> rfl
      have HRT := Lib.hid hrt
      have har : 0 ≤ asksT o ∧ asksT o ≤ 255 := by
        unfold asksT
        split
        · omega
        · split
          · omega
          · split <;> omega
      have ht9 := types_39 o wr (by omega)
      have HT9 := Lib.hid ht9
      have hct := all_38 (asksT o) ts _ wr HKD.out har HR8.out (by rw [HTL.out]; omega)
      have HCT := Lib.hid hct
      clear hct ht9 hrt har
      obtain ⟨A, eA⟩ : ∃ A, A = asksT o := ⟨_, rfl⟩
      obtain ⟨G, eG⟩ : ∃ G, G = givesT o := ⟨_, rfl⟩
      rw [← eA, ← eG] at HT9
      rw [← eA] at HCT
      rw [← eA, ← eG] at HRT
      clear eA eG
      go_wp2_with fail
      refine HT9.out.mono ?_
      rintro ev w2 ⟨rfl, rfl⟩
      go_wp2_with fail
      refine HCT.out.mono ?_
      rintro ev w3 ⟨rfl, rfl⟩
      have hrt := HRT.out
      cases hq : allT A ts with
      | none =>
        rw [hq] at hrt
        subst hrt
        simp only [kindV]
        go_wp2_with fail
        go_ret2
        exact ⟨_, rfl, ⟨G, rfl⟩, HBR.out⟩
      | some t =>
        rw [hq] at hrt
        subst hrt
        simp only [kindV]
        go_wp2_with fail
        go_ret2
        exact ⟨_, rfl, rfl, HBR.out⟩
end Go.Proofs.YtolikaginhjbhaaDoor
/- expr.typed: at every expression. -/
namespace Go.Proofs.YtolikaginhjbhaaDoor
open Go.RowKit Go.Pen

theorem typed_28 (cols : List Int) (vc : Value) (hcr : ∀ x ∈ cols, 0 ≤ x ∧ x ≤ 255) : ∀ e : ET, TyOK cols vc e := by
  refine ET.ind fun o c d ks ih => ?_
  by_cases h1 : o = 1
  · subst h1; exact typed_col cols vc hcr c d ks
  by_cases h2 : o = 2
  · subst h2; exact typed_lit cols vc c d ks
  by_cases h3 : o = 23
  · subst h3; exact typed_fail cols vc c d ks
  by_cases h4 : 3 ≤ o ∧ o ≤ 22
  · exact typed_op cols vc o c d ks ih h4
  · intro deep kv w hat hfit hg
    exfalso
    simp only [ET.good, Bool.and_eq_true] at hg
    have h := own_kids hg.1.1
    simp only [kidsOk] at h
    rw [if_neg (by omega), if_neg (by omega), if_neg (by omega), if_neg (by omega)] at h
    simp only [Bool.and_eq_true, decide_eq_true_eq] at h
    omega
end Go.Proofs.YtolikaginhjbhaaDoor
/- expr.Safe. -/
namespace Go.Proofs.YtolikaginhjbhaaDoor
open Go.RowKit Go.Pen Go.Shelf
attribute [local go_sem] Oper.semAt_some

/-- is a part such that it may fail? -/
def SfHit (x : Part) : Prop := 60 < x.deep ∨ (3 ≤ x.e.op ∧ x.e.op ≤ 9) ∨ x.e.op = 23
structure SfAll (ps : List Part) : Prop where
  «at» : ∀ x ∈ ps, ¬ SfHit x
structure SfNo (ps : List Part) : Prop where
  out : ¬ ∀ x ∈ ps, ¬ SfHit x
theorem SfAll.nil : SfAll [] := ⟨fun x hx => by cases hx⟩
theorem SfAll.snoc {ps : List Part} {x : Part} (h : SfAll ps) (hx : ¬ SfHit x) : SfAll (ps ++ [x]) := ⟨fun y hy => by
  rcases List.mem_append.1 hy with hy | hy
  · exact h.at y hy
  · simp at hy; subst hy; exact hx⟩
theorem SfNo.snoc {ps : List Part} {x : Part} (hx : SfHit x) : SfNo (ps ++ [x]) := ⟨fun h => h x (by simp) hx⟩
theorem safe_of_pre (ok : Dat → Bool) : ∀ (e : ET) (deep : Nat), e.good ok deep = true → ((∀ x ∈ e.pre deep, ¬ (60 < x.1 ∨ (3 ≤ x.2.op ∧ x.2.op ≤ 9) ∨ x.2.op = 23)) ↔ e.safe = true) := by
  refine ET.ind fun o c d ks ih deep hg => ?_
  simp only [ET.good, Bool.and_eq_true, decide_eq_true_eq, ET.goods_iff] at hg
  obtain ⟨⟨-, h2⟩, h3⟩ := hg
  simp only [ET.pre, if_pos h2, List.mem_cons, ET.safe, Bool.and_eq_true, safes_iff, Bool.not_eq_true', Bool.and_eq_false_iff, decide_eq_false_iff_not]
  constructor
  · intro h
    have h0 := h _ (.inl rfl)
    simp only [ET.op] at h0
    refine ⟨⟨by omega, by omega⟩, fun k hk => (ih k hk (deep + 1) (h3 k hk)).1 fun x hx => h x (.inr (ET.mem_pres.2 ⟨k, hk, hx⟩))⟩
  · rintro ⟨⟨h4, h5⟩, h6⟩ x (rfl | hx)
    · simp only [ET.op]; omega
    · obtain ⟨k, hk, hx⟩ := ET.mem_pres.1 hx
      exact (ih k hk (deep + 1) (h3 k hk)).2 (h6 k hk) x hx

set_option maxRecDepth 100000 in
set_option maxHeartbeats 1000000 in
theorem safe_16 (e : ET) (a : Option Addr) (cc : Nat) (w : World) (hfit : e.fits) (hat : e.At w (.slice a e.kids.length cc)) (hgood : e.good okD 1 = true) :
    Calls Tryd.prog 16 #[e.agg (.slice a e.kids.length cc)] w fun ev w' => ev = .returned (.bool e.safe) ∧ Below w.heap.size w w' := by
  obtain ⟨R, eR⟩ : ∃ R : Bool, R = e.safe := ⟨_, rfl⟩
  rw [← eR]
  have ER := Lib.hid eR
  clear eR
  obtain ⟨F, eF⟩ : ∃ F, F = Fence.wide := ⟨_, rfl⟩
  have hd : F.depth = none := by rw [eF]; rfl
  have hF : ∀ f, F.fn f := fun f => by rw [eF]; trivial
  have hro : F.round = none := by rw [eF]; rfl
  obtain ⟨n, hn⟩ : ∃ n : Nat, 4 ≤ n := ⟨4, Nat.le_refl _⟩
  refine (callsIn_wide (n := n)).1 ?_
  rw [← eF]
  clear eF
  have h1 : 1 ≤ n := by omega
  have hp := fun W => parts_50 F (n - 1) (hF 19) hro e a cc W
  unfold ET.agg ET.cells at hp
  have HP := Lib.hid hp
  have HAT := Lib.hid hat
  have HFIT := Lib.hid hfit
  have HGOOD := Lib.hid hgood
  clear hp hat hfit hgood
  unfold ET.agg
  refine callsIn_of_wp_marks Tryd.func16 rfl (hF 16) ?_ hro
  simp only [Tryd.ntmps16, List.size_toArray, List.length_cons, List.length_nil, Nat.reduceAdd, Nat.reduceSub, Array.replicate_succ, Array.replicate_zero, List.push_toArray, List.append_toArray, List.nil_append, List.cons_append]
  gi_wp2_with (gi_at_call 19; refine (HP.out _).mono ?_; rintro ev w' ⟨rfl, rfl⟩)
  have t1 := heap_alloc_new (w.alloc (.cells #[.int .u8 e.op, .slice a e.kids.length cc, .int .i64 e.col, .int .u8 e.lit.kind, .bool e.lit.bool, .int .i64 e.lit.int, .string e.lit.text] 27)) (.cells #[.bool false] 4)
  rw [World.size_alloc] at t1
  obtain ⟨H, eH⟩ : ∃ H, H = w.heap.size := ⟨_, rfl⟩
  obtain ⟨W0, hW0⟩ : ∃ W0, W0 = ((w.alloc (.cells #[.int .u8 e.op, .slice a e.kids.length cc, .int .i64 e.col, .int .u8 e.lit.kind, .bool e.lit.bool, .int .i64 e.lit.int, .string e.lit.text] 27)).alloc (.cells #[.bool false] 4)).alloc (.cells #[.int .u8 e.op, .slice a e.kids.length cc, .int .i64 e.col, .int .u8 e.lit.kind, .bool e.lit.bool, .int .i64 e.lit.int, .string e.lit.text] 27) := ⟨_, rfl⟩
  obtain ⟨L, eL⟩ : ∃ L, L = H + 1 + 1 := ⟨_, rfl⟩
  have hs0 : W0.heap.size = L + 1 := by rw [hW0, eL, eH]; simp
  have hb0 : Below w.heap.size w W0 := by rw [hW0]; exact three_below _ _ _ _
  have r2 : W0.heap[H + 1]? = some (.cells #[.bool false] 4 (0, 0)) := by
    rw [hW0, eH]; exact (Below.heap_alloc _ _ _ (by simp)).trans t1
  have r3 : W0.heap[L]? = some (.cells #[.int .u8 e.op, .slice a e.kids.length cc, .int .i64 e.col, .int .u8 e.lit.kind, .bool e.lit.bool, .int .i64 e.lit.int, .string e.lit.text] 27 (0, 0)) := by
    have h := heap_alloc_new ((w.alloc (.cells #[.int .u8 e.op, .slice a e.kids.length cc, .int .i64 e.col, .int .u8 e.lit.kind, .bool e.lit.bool, .int .i64 e.lit.int, .string e.lit.text] 27)).alloc (.cells #[.bool false] 4)) (.cells #[.int .u8 e.op, .slice a e.kids.length cc, .int .i64 e.col, .int .u8 e.lit.kind, .bool e.lit.bool, .int .i64 e.lit.int, .string e.lit.text] 27)
    rw [World.size_alloc, World.size_alloc] at h
    rw [hW0, eL, eH]; exact h
  rw [← hW0, ← eH]
  have EL := Lib.hid eL
  rw [← eL]
  clear t1
  have HS0 := Lib.hid hs0
  have HB0 := Lib.hid hb0
  have EH := Lib.hid eH
  have R2 := Lib.hid r2
  have R3 := Lib.hid r3
  clear hW0 hs0 hb0 eH eL r2 r3
  refine wpIn_rangeFunc_ownH hro h1 (gf := 30) (lb := #[.pointer (some ⟨L, 0, none⟩)]) rfl (hF 30) (enters_of Tryd.func30 (by kernel_rfl) rfl)
    (parts_stops F hd (n - 1) (hF 30) (hF 31) hro L (fun g => g = H + 1) e a cc HFIT.out W0 ?kc ?sl ?on) (fun h k => h.trans k) ?kb (Below.refl _ _) (fun _ => rfl)
    (fun pre W => W.heap[H + 1]? = some (.cells #[.bool false] 4 (0, 0)) ∧ SfAll pre ∧ Below w.heap.size w W ∧ W0.heap.size ≤ W.heap.size)
    (fun c pre W => c = .ret ∧ W.heap[H + 1]? = some (.cells #[.bool false] 4 (0, 0)) ∧ SfNo pre ∧ Below w.heap.size w W)
    ?oi ?oix ⟨R2.out, SfAll.nil, HB0.out, Nat.le_refl _⟩
    (fun x a' W => ∃ Bx, W0.heap.size ≤ Bx ∧ W.heap[Bx]? = some (.cells #[.int .u8 x.e.op, .slice x.a x.e.kids.length x.c, .int .i64 x.e.col, .int .u8 x.e.lit.kind, .bool x.e.lit.bool, .int .i64 x.e.lit.int, .string x.e.lit.text] 27 (0, 0)) ∧ a' = { tmps := #[.agg #[.int .u8 e.op, .slice a e.kids.length cc, .int .i64 e.col, .int .u8 e.lit.kind, .bool e.lit.bool, .int .i64 e.lit.int, .string e.lit.text], .pointer (some ⟨H, 0, none⟩), .pointer (some ⟨H + 1, 0, none⟩), .int .i64 x.deep, .pointer (some ⟨Bx, 0, none⟩), .agg #[.int .u8 e.op, .slice a e.kids.length cc, .int .i64 e.col, .int .u8 e.lit.kind, .bool e.lit.bool, .int .i64 e.lit.int, .string e.lit.text], .func (.func 30) #[] #[.pointer (some ⟨L, 0, none⟩)], .int .i64 x.deep, .agg #[.int .u8 x.e.op, .slice x.a x.e.kids.length x.c, .int .i64 x.e.col, .int .u8 x.e.lit.kind, .bool x.e.lit.bool, .int .i64 x.e.lit.int, .string x.e.lit.text], undef, undef, undef, undef, undef, undef, undef, undef, undef, undef, undef, undef, undef, undef, undef, undef, undef], defers := [] }) ?ax ?assign ?body ?done ?stop
  case kc =>
    exact ⟨cell_of_heap R3.out rfl, cell_of_heap R3.out rfl, cell_of_heap R3.out rfl, cell_of_heap R3.out rfl, cell_of_heap R3.out rfl, cell_of_heap R3.out rfl, cell_of_heap R3.out rfl⟩
  case sl =>
    intro g hg
    have := HS0.out
    have := EL.out
    subst hg
    omega
  case on =>
    refine (HAT.out.lt.below HB0.out).wide fun g hg h => ?_
    have := EH.out
    subst h
    omega
  case kb =>
    intro W l' oo oo' _ hl hc _
    exact kps_putObj hl hc
  case oi =>
    intro pre W W' row hI hg hr
    obtain ⟨i2, i3, i4, i5⟩ := hI
    have hs := HS0.out
    have hh := EH.out
    have hl := EL.out
    exact ⟨(hg.block _ (lt_of_heap i2) fun er => by have := (hr _ er.symm).1; omega).trans i2, i3, i4.grown hg i4.size fun g er => by (have := (hr g er).1; omega), Nat.le_trans i5 hg.size⟩
  case oix =>
    intro c pre W W' row hI hg hr
    obtain ⟨i0, i1, i2, i3⟩ := hI
    have hs := HS0.out
    have hh := EH.out
    have hl := EL.out
    exact ⟨i0, (hg.block _ (lt_of_heap i1) fun er => by have := (hr _ er.symm).1; omega).trans i1, i2, i3.grown hg i3.size fun g er => by have := (hr g er).1; omega⟩
  case ax =>
    intro x a' _ W W' row hI hg hr
    obtain ⟨Bx, b1, b2, b3⟩ := hI
    refine ⟨Bx, b1, (hg.block _ (lt_of_heap b2) fun er => ?_).trans b2, b3⟩
    obtain ⟨-, o, ho, hc⟩ := hr _ er.symm
    rw [b2] at ho
    cases ho
    cases hc
  case assign =>
    intro l pre x W K hI hK
    unfold Part.encs ET.agg Part.kv
    gi_wp2
    obtain ⟨i2, i3, i4, i5⟩ := hI
    exact hK _ _ ((KeepsOthers.alloc _ _).from _) (KpS.alloc _ _ _) ⟨(Below.heap_alloc _ _ _ (lt_of_heap i2)).trans i2, i3, i4.alloc i4.size _, by (rw [World.size_alloc]; omega)⟩ ⟨W.heap.size, i5, heap_alloc_new _ _, rfl⟩
  case body =>
    intro l pre x a' W hl hlr hI hA hlt
    obtain ⟨i2, i3, i4, i5⟩ := hI
    obtain ⟨Bx, b1, b2, rfl⟩ := hA
    have z0 : W.cell? ⟨H + 1, 0, none⟩ = some (.bool false) := cell_of_heap i2 rfl
    have z1 : W.frozen? ⟨H + 1, 0, none⟩ = false := frozen_of_heap i2
    have x0 : W.cell? ⟨Bx, 0, none⟩ = some (.int .u8 x.e.op) := cell_of_heap b2 rfl
    have hgo : ¬ SfHit x → KeepsFrom W0.heap.size W W ∧ KpS (fun g => g = H + 1) W W ∧ W.heap[H + 1]? = some (.cells #[.bool false] 4 (0, 0)) ∧ SfAll (pre ++ [x]) ∧ Below w.heap.size w W ∧ W0.heap.size ≤ W.heap.size := fun h => ⟨KeepsFrom.refl _ _, KpS.refl _ _, i2, i3.snoc h, i4, i5⟩
    have hlv : SfHit x → KeepsFrom W0.heap.size W (W.setCell ⟨H + 1, 0, none⟩ (.bool false)) ∧ ((W.setCell ⟨H + 1, 0, none⟩ (.bool false)).heap[H + 1]? = some (.cells #[.bool false] 4 (0, 0)) ∧ SfNo (pre ++ [x]) ∧ Below w.heap.size w (W.setCell ⟨H + 1, 0, none⟩ (.bool false))) := fun h =>
      ⟨(KeepsOthers.setCell _ _ _).from _, (by rw [heap_set_same i2]; rfl), SfNo.snoc h, i4.setCell (p := ⟨H + 1, 0, none⟩) (by have := EH.out; show w.heap.size ≤ H + 1; omega) _⟩
    have HGO := Lib.hid hgo
    have HLV := Lib.hid hlv
    clear i2 i3 i4 b2 hgo hlv
    gi_wp2
    all_goals first | exact HGO.out (by unfold SfHit; (try simp only [beq_eq_false_iff_ne] at *); omega) | (have hx : SfHit x := (by unfold SfHit; (try simp only [beq_iff_eq] at *); omega); exact ⟨(HLV.out hx).1, rfl, (HLV.out hx).2⟩)
  case done =>
    intro D xs W hD hS hI hK
    obtain ⟨i2, i3, i4, i5⟩ := hI
    have hwi : e.safe = true := (safe_of_pre okD e 1 HGOOD.out).1 (by
      rw [← hS]
      intro y hy
      obtain ⟨x, hx, rfl⟩ := List.mem_map.1 hy
      exact i3.at x hx)
    have c1 : W.cell? ⟨H + 1, 0, none⟩ = some (.bool false) := cell_of_heap i2 rfl
    have f1 : W.frozen? ⟨H + 1, 0, none⟩ = false := frozen_of_heap i2
    have hR := ER.out
    rw [hwi] at hR
    obtain rfl : R = true := hR
    gi_wp2
    refine ⟨by simp, .inl ⟨_, _, rfl, run_takeDeferred ((KeepsOthers.setCell _ _ _).same D _ hK rfl), ?_⟩⟩
    have hs := HS0.out
    have hh := EH.out
    have hl := EL.out
    have hne : D ≠ H + 1 := by omega
    have c5 : ((W.setCell ⟨H + 1, 0, none⟩ (.bool true)).putObj D (Obj.deferred none)).cell? ⟨H + 1, 0, none⟩ = some (.bool true) :=
      cell_kept (World.cell?_setCell_same' _ _ _ (by rw [c1]; rfl)) (grownBy_putObj' _ D (.deferred none)) (fun r er => by cases er; exact ⟨_, (KeepsOthers.setCell _ _ _).same D _ hK rfl, rfl⟩)
    refine ⟨_, by simp [results, Tryd.f16, go_sem, c5], rfl, ?_⟩
    exact ((i4.setCell (p := ⟨H + 1, 0, none⟩) (by show w.heap.size ≤ H + 1; omega) _)).trans (belowK_b (w := W0) (by omega) _ D _ _ hD ((KeepsOthers.setCell _ _ _).same D _ hK rfl) rfl rfl)
  case stop =>
    intro D c pre W hD hS hI hK
    obtain ⟨rfl, i1, i2, i3⟩ := hI
    have hwi : e.safe = false := by
      cases hw : e.safe
      · rfl
      · exact absurd ((safe_of_pre okD e 1 HGOOD.out).2 hw) fun h => i2.out fun x hx => h _ (hS.subset (List.mem_map.2 ⟨x, hx, rfl⟩))
    have hR := ER.out
    rw [hwi] at hR
    obtain rfl : R = false := hR
    gi_wp2
    refine ⟨by simp, .inl ⟨_, _, rfl, run_takeDeferred hK, ?_⟩⟩
    have hs := HS0.out
    have hh := EH.out
    have hl := EL.out
    have c5 : (W.putObj D (Obj.deferred none)).cell? ⟨H + 1, 0, none⟩ = some (.bool false) :=
      cell_kept (cell_of_heap i1 rfl) (grownBy_putObj' _ D (.deferred none)) (fun r er => by cases er; exact ⟨_, hK, rfl⟩)
    refine ⟨_, by simp [results, Tryd.f16, go_sem, c5], rfl, ?_⟩
    exact i3.trans (belowK_b (w := W0) (by omega) _ D _ _ hD hK rfl rfl)
end Go.Proofs.YtolikaginhjbhaaDoor
/- ExprTyped's walk. -/
namespace Go.Proofs.YtolikaginhjbhaaDoor
open Go.RowKit Go.Pen Go.Shelf
attribute [local go_sem] Oper.semAt_some

theorem typeC_or (cols : List Int) (e : ET) : (typeC cols e).2 = 30 ∨ (typeC cols e).2 = 31 ∨ ((typeC cols e).2 = 0 ∧ e.may okD = true) := by
  unfold typeC
  split
  · next h =>
    cases ht : e.typ cols with
    | none => exact .inr (.inl rfl)
    | some k => exact .inr (.inr ⟨rfl, h.1⟩)
  · exact .inl rfl

set_option maxRecDepth 100000 in
set_option maxHeartbeats 4000000 in
theorem typed_4 (r : List Dat) (e : ET) (a : Option Addr) (cc : Nat) (ra : Option Addr) (rc : Nat) (w : World) (hat : e.At w (.slice a e.kids.length cc)) (hr : RowAt w (.slice ra r.length rc) r) (hfit : e.fits) (hrf : ∀ d ∈ r, d.fits) (hrl : r.length ≤ 17592186043904) (hT : Lib.Utf8Tabs 1 2 w) (hE : ErrTy w) (h3 : 3 ≤ w.heap.size)
    (hkn : ∀ W, Below w.heap.size w W → Calls Tryd.prog 9 #[] W fun ev W' => ev = .returned (.bool true) ∧ Below W.heap.size W W') :
    Calls Tryd.prog 4 #[e.agg (.slice a e.kids.length cc), .slice ra r.length rc] w fun ev w' => ev = .returned (.bool true) ∧ Below w.heap.size w w' := by
  have HAT := Lib.hid hat
  have HR := Lib.hid hr
  have HT := Lib.hid hT
  have HE := Lib.hid hE
  have HKN := Lib.hid hkn
  have HFIT := Lib.hid hfit
  have HRF := Lib.hid hrf
  have hfar := far_8 e a e.kids.length cc (w.alloc (.cells #[.int .u8 e.op, .slice a e.kids.length cc, .int .i64 e.col, .int .u8 e.lit.kind, .bool e.lit.bool, .int .i64 e.lit.int, .string e.lit.text] 27)) (hat.below (one_below _ _)) hfit
  unfold ET.agg at hfar
  have HFAR := Lib.hid hfar
  have hfr := fun (W : World) (hb : Below w.heap.size w W) => far_9 _ r W (hr.below hb) hrl hrf
  have HFR := Lib.hid hfr
  have hrow : ¬ 12000 < rowW r → r.length ≤ 1000000 := fun h => by unfold rowW at h; omega
  have HROW := Lib.hid hrow
  have hrc := fun (W : World) (hb : Below w.heap.size w W) => rowcheck_13 r _ W (hr.below hb) hrf (tabs_below hT hb h3) (Nat.le_trans h3 hb.size)
  have HRC := Lib.hid hrc
  have hfl := fun (W : World) (hb : Below w.heap.size w W) => fails_14 e _ W (hat.below hb) hfit
  unfold ET.agg at hfl
  have HFL := Lib.hid hfl
  have hev := fun (W : World) (hb : Below w.heap.size w W) => eval12_all r e a cc ra rc W hfit hrf (hat.below hb) (hr.below hb) (tabs_below hT hb h3) (cell_keep hb hE) (Nat.le_trans h3 hb.size)
  unfold ET.agg at hev
  have HEV := Lib.hid hev
  have hty := fun (W : World) (hb : Below w.heap.size w W) (va : Option Addr) (vcc : Nat) (hk : KindsOn W (r.map Dat.kind) (.slice va (r.map Dat.kind).length vcc)) => type_15 (r.map Dat.kind) e a cc va vcc W hfit (hat.below hb) hk (tabs_below hT hb h3) (cell_keep hb hE) (Nat.le_trans h3 hb.size) (typed_28 _ _ (fun x hx => by
    obtain ⟨d, hd, rfl⟩ := List.mem_map.1 hx
    exact (hrf d hd).1) e)
  unfold ET.agg at hty
  rw [List.length_map] at hty
  have HTY := Lib.hid hty
  have hsf := fun (hm : e.may okD = true) (W : World) (hb : Below w.heap.size w W) => safe_16 e a cc W hfit (hat.below hb) (ET.may_good hm)
  unfold ET.agg at hsf
  have HSF := Lib.hid hsf
  have hlaw := @typed_law r e
  rw [← typeC_R] at hlaw
  have HLAW := Lib.hid hlaw
  have hor := typeC_or (r.map Dat.kind) e
  have HOR := Lib.hid hor
  obtain ⟨TC, eTC⟩ : ∃ TC, TC = typeC (r.map Dat.kind) e := ⟨_, rfl⟩
  rw [← eTC] at HTY HLAW HOR
  obtain ⟨EV, eEV⟩ : ∃ EV, EV = evalR r e := ⟨_, rfl⟩
  rw [← eEV] at HEV HLAW
  clear hfar hat hr hT hE hkn hfit hrf hfr hrow hrc hfl hev hty hsf hlaw hor eTC eEV
  unfold ET.agg
  go_enter Tryd.func4, Tryd.ntmps4
  go_wp2_with fail
  refine HFAR.out.mono ?_
  rintro ev w1 ⟨rfl, hb1⟩
  have k1 := one_at hb1
  have HB1 := Lib.hid (stepA hb1)
  have y0 := cell_of_heap (o := 0) k1 rfl
  have y1 := cell_of_heap (o := 1) k1 rfl
  have y2 := cell_of_heap (o := 2) k1 rfl
  have y3 := cell_of_heap (o := 3) k1 rfl
  have y4 := cell_of_heap (o := 4) k1 rfl
  have y5 := cell_of_heap (o := 5) k1 rfl
  have y6 := cell_of_heap (o := 6) k1 rfl
  have K1 := Lib.hid k1
  clear hb1 k1 HFAR
  by_cases hf : 12000 < e.weight
  · rw [decide_eq_true hf]
    clear hf
    go_wp2
    go_ret
    exact ⟨rfl, HB1.out⟩
  rw [decide_eq_false hf]
  have hfr := HFR.out w1 HB1.out
  clear hf HFR
  by_cases hf : 12000 < rowW r
  · rw [decide_eq_true hf] at hfr
    have HFR := Lib.hid hfr
    clear hf hfr
    go_wp2_with (go_at_call 6; refine HFR.out.mono ?_; rintro ev w2 ⟨rfl, rfl⟩)
    go_ret
    exact ⟨rfl, HB1.out⟩
  rw [decide_eq_false hf] at hfr
  have HFR := Lib.hid hfr
  have HRL := Lib.hid (HROW.out hf)
  have hrc := HRC.out w1 HB1.out
  have HRC := Lib.hid hrc
  clear hf hfr HROW hrc
  go_wp2_with (go_at_call 6; refine HFR.out.mono ?_; rintro ev w2 ⟨rfl, rfl⟩)
  clear HFR
  refine HRC.out.mono ?_
  rintro ev w2 ⟨code, rfl, hcode, hb2⟩
  have k2 := keepB K1.out hb2
  have HB2 := Lib.hid (stepB HB1.out hb2)
  clear y0 y1 y2 y3 y4 y5 y6
  have y0 := cell_of_heap (o := 0) k2 rfl
  have y1 := cell_of_heap (o := 1) k2 rfl
  have y2 := cell_of_heap (o := 2) k2 rfl
  have y3 := cell_of_heap (o := 3) k2 rfl
  have y4 := cell_of_heap (o := 4) k2 rfl
  have y5 := cell_of_heap (o := 5) k2 rfl
  have y6 := cell_of_heap (o := 6) k2 rfl
  have K2 := Lib.hid k2
  have hle : (code : Int) = 0 ∨ ((code : Int) ≠ 0 ∧ rowOk r = false) := by
    by_cases h : code = 0
    · left; omega
    · right; refine ⟨by omega, ?_⟩
      cases hq : rowOk r
      · rfl
      · exact absurd (hcode.2 hq) h
  have hok : (code : Int) = 0 → rowOk r = true := fun h => hcode.1 (by omega)
  generalize (code : Int) = C at *
  have HOK := Lib.hid hok
  clear hb2 k2 hcode hok K1 HRC
  rcases hle with rfl | ⟨hne, -⟩
  rotate_left
  · have q : (C != 0) = true := by simpa using hne
    clear hne HOK
    go_wp2_with fail
    refine (HKN.out _ HB2.out).mono ?_
    rintro ev w9 ⟨rfl, hb9⟩
    have HB9 := Lib.hid (stepB HB2.out hb9)
    clear hb9
    go_wp2
    go_ret
    exact ⟨rfl, HB9.out⟩
  have hrok := HOK.out rfl
  have hfl := HFL.out w2 HB2.out
  clear HOK HFL
  by_cases hff : e.fails = true
  · rw [hff] at hfl
    have HFL := Lib.hid hfl
    clear hfl hff hrok
    go_wp2_with (go_at_call 14; refine HFL.out.mono ?_; rintro ev w3 ⟨rfl, hb3⟩; have HB3 := Lib.hid (stepB HB2.out hb3); clear hb3)
    refine (HKN.out _ HB3.out).mono ?_
    rintro ev w9 ⟨rfl, hb9⟩
    have HB9 := Lib.hid (stepB HB3.out hb9)
    clear hb9
    go_wp2
    go_ret
    exact ⟨rfl, HB9.out⟩
  have hff : e.fails = false := by simpa using hff
  rw [hff] at hfl
  have HFL := Lib.hid hfl
  have hlaw := HLAW.out (fun d hd => List.all_eq_true.1 (by unfold rowOk at hrok; simp only [Bool.and_eq_true] at hrok; exact hrok.2) d hd) hff
  have HLAW := Lib.hid hlaw
  clear hfl hff hrok hlaw
  go_wp2_with (go_at_call 14; refine HFL.out.mono ?_; rintro ev w3 ⟨rfl, hb3⟩; have HB3 := Lib.hid (stepB HB2.out hb3); have K3 := Lib.hid (keepB K2.out hb3); clear hb3)
  clear y0 y1 y2 y3 y4 y5 y6
  clear K2 HFL
  obtain ⟨N, eN⟩ : ∃ N, N = r.length := ⟨_, rfl⟩
  rw [← eN] at HRL HTY HEV ⊢
  have hrn := HR.out
  rw [← eN] at hrn
  have HRN := Lib.hid hrn
  have EN := Lib.hid eN
  clear eN hrn HR
  obtain ⟨i0, hi0, hz0, hz1, hz2⟩ := info_parts info23
  go_loopg [5, 6] N (fun g s5 s6 wr => ∃ (i : Nat), i ≤ N ∧ g = N - i ∧ s6 = .int .i64 i ∧ wr.ownsRow w3.heap.size 23 1 s5 i ((((r.take i).map Dat.kind)).map kcell) ∧ Below w3.heap.size w3 wr)
  case atStart => exact ⟨0, Nat.zero_le _, rfl, rfl, World.ownsRow_nil _ _ _ _, Below.refl _ _⟩
  case round =>
    obtain ⟨i, hi, rfl, rfl, hown, hbr⟩ := hrel
    have HOW := Lib.hid hown
    have HBR := Lib.hid hbr
    clear hown
    by_cases hlt : i < N
    · obtain ⟨x, hx⟩ : ∃ x, r[i]? = some x := ⟨r[i]'(by rw [← EN.out]; exact hlt), List.getElem?_eq_getElem _⟩
      obtain ⟨ra', rc', hv, -, hri⟩ := HRN.out
      obtain rfl : ra = ra' := by injection hv
      clear hv
      obtain ⟨b, off, rfl, -, hrs⟩ := hri (fun e => by rw [e] at hx; simp at hx)
      have q0 := cell_keep hbr (cell_keep HB3.out (hrs _ _ hx).1)
      have HX := Lib.hid hx
      obtain ⟨XS, hXS⟩ : ∃ XS, XS = ((r.take i).map Dat.kind).map kcell := ⟨_, rfl⟩
      rw [← hXS] at HOW
      have HXS := Lib.hid hXS
      have szw : w3.heap.size ≤ wr.heap.size := hbr.size
      clear hrs hx hbr hri hXS
      go_wp2_with (at_builtin; go_must (refine wpList_append_lies _ rfl _ _ 46 rfl w3.heap.size 23 i0 _ 1 1 Tryd.underlying46 hi0 hz0 hz1 hz2 rfl (by decide) u5 i XS rfl (HOW.out.alloc _) ⟨wr.heap.size, 0, none⟩ 1 1 [kcell x.kind] rfl rfl ?c1 ?c2 (by decide) ?c3 ?c4 ?c5 _ rfl ?_))
      case c1 => exact World.news_of_block (cs := #[kcell x.kind]) (heap_alloc_new _ _)
      case c2 => intro u hu; simp at hu; subst hu; rfl
      case c3 => unfold maxLen; have := HRL.out; omega
      case c4 => have := HRL.out; omega
      case c5 => first | omega | (simp; omega)
      intro g cap w5 hown5 hgrow hat5 _
      have ub : Below w3.heap.size w3 w5 := (HBR.out.alloc HBR.out.size _).grown hgrow (by simp; omega) (fun g hg => (HOW.out.lt g hg).1)
      have htk : ((r.take (i + 1)).map Dat.kind).map kcell = ((r.take i).map Dat.kind).map kcell ++ [kcell x.kind] := by
        rw [List.take_succ_eq_append_getElem (List.getElem?_eq_some_iff.1 HX.out).1, List.map_append, List.map_append, (List.getElem?_eq_some_iff.1 HX.out).2]
        simp
      rw [HXS.out, ← htk] at hown5
      have UB := Lib.hid ub
      have UO := Lib.hid hown5
      have h9 : N ≤ 1000000 := HRL.out
      clear ub hown5 hgrow hat5 htk
      go_wp2
      go_roundg (N - (i + 1))
      case measure => omega
      case rel => exact ⟨i + 1, by omega, rfl, by go_num, UO.out, UB.out⟩
    · obtain rfl : N = i := by omega
      have hw : r.take N = r := List.take_of_length_le (by rw [EN.out]; exact Nat.le_refl _)
      have ho := HOW.out
      rw [hw] at ho
      have hkd : KindsOn wr (r.map Dat.kind) u5 := rowKinds ho
      obtain ⟨va, vcc, rfl, hn1, hn2⟩ := hkd
      rw [List.length_map, ← EN.out]
      have hkd : KindsOn wr (r.map Dat.kind) (.slice va N vcc) := ⟨va, vcc, by rw [List.length_map, ← EN.out], hn1, hn2⟩
      have HBW := Lib.hid (stepB HB3.out hbr)
      have KW := Lib.hid (keepB K3.out hbr)
      have hty := HTY.out wr HBW.out va vcc hkd
      have HTY := Lib.hid hty
      have kw := KW.out
      have y0 := cell_of_heap (o := 0) kw rfl
      have y1 := cell_of_heap (o := 1) kw rfl
      have y2 := cell_of_heap (o := 2) kw rfl
      have y3 := cell_of_heap (o := 3) kw rfl
      have y4 := cell_of_heap (o := 4) kw rfl
      have y5 := cell_of_heap (o := 5) kw rfl
      have y6 := cell_of_heap (o := 6) kw rfl
      clear hw ho hkd hbr hn1 hn2 HOW HBR K3 hty kw
      go_wp2_with fail
      refine HTY.out.mono ?_
      rintro ev w5 ⟨rfl, hb5⟩
      have HB5 := Lib.hid (stepB HBW.out hb5)
      have K5 := Lib.hid (keepB KW.out hb5)
      have k5 := K5.out
      clear y0 y1 y2 y3 y4 y5 y6
      have y0 := cell_of_heap (o := 0) k5 rfl
      have y1 := cell_of_heap (o := 1) k5 rfl
      have y2 := cell_of_heap (o := 2) k5 rfl
      have y3 := cell_of_heap (o := 3) k5 rfl
      have y4 := cell_of_heap (o := 4) k5 rfl
      have y5 := cell_of_heap (o := 5) k5 rfl
      have y6 := cell_of_heap (o := 6) k5 rfl
      clear hb5 k5 HTY KW
      go_wp2_with fail
      refine (HEV.out _ HB5.out).mono ?_
      rintro ev w6 ⟨rfl, hb6⟩
      have HB6 := Lib.hid (stepB HB5.out hb6)
      have K6 := Lib.hid (keepB K5.out hb6)
      clear y0 y1 y2 y3 y4 y5 y6
      clear hb6 K5
      obtain ⟨tk, tn⟩ := TC
      obtain ⟨⟨xk, xb, xi, xt⟩, xn⟩ := EV
      unfold resT Dat.agg
      simp only
      obtain ⟨w7, hw7⟩ : ∃ w7, w7 = w6.alloc (.cells #[.int .u8 xk, .bool xb, .int .i64 xi, .string xt] 25) := ⟨_, rfl⟩
      have hb67 : Below w6.heap.size w6 w7 := by rw [hw7]; exact one_below _ _
      have k67 : w7.heap[w6.heap.size]? = some (.cells #[.int .u8 xk, .bool xb, .int .i64 xi, .string xt] 25 (0, 0)) := by rw [hw7]; exact heap_alloc_new _ _
      have HW7 := Lib.hid hw7
      have HB7 := Lib.hid (stepB HB6.out hb67)
      have K67 := Lib.hid k67
      have K7 := Lib.hid (keepB K6.out hb67)
      clear hw7 hb67 k67
      have hor := HOR.out
      have hlaw := HLAW.out
      simp only at hor hlaw
      rcases hor with rfl | rfl | ⟨rfl, hmay⟩
      · -- no type: it may not be
        rw [if_pos rfl] at hlaw
        subst hlaw
        go_wp2_with fail
        rw [← HW7.out]
        refine (HKN.out _ HB7.out).mono ?_
        rintro ev w9 ⟨rfl, hb9⟩
        have HB9 := Lib.hid (stepB HB7.out hb9)
        clear hb9
        go_wp2
        go_ret
        exact ⟨rfl, HB9.out⟩
      · rw [if_neg (by decide), if_pos rfl] at hlaw
        have q : ((xn : Int) != 30) = true := by simp; omega
        clear hlaw
        go_wp2_with fail
        rw [← HW7.out]
        refine (HKN.out _ HB7.out).mono ?_
        rintro ev w9 ⟨rfl, hb9⟩
        have HB9 := Lib.hid (stepB HB7.out hb9)
        clear hb9
        go_wp2
        go_ret
        exact ⟨rfl, HB9.out⟩
      · rw [if_neg (by decide), if_neg (by decide)] at hlaw
        obtain ⟨l1, l2, l3, l4⟩ := hlaw
        have hsr : safeR e = e.safe := by unfold safeR; rw [hmay]; rfl
        rw [hsr] at l3
        have hsf := HSF.out hmay
        have HSF := Lib.hid hsf
        have y0 := fun A => cell_of_heap (o := 0) (keepAt' K6.out A) rfl
        have y1 := fun A => cell_of_heap (o := 1) (keepAt' K6.out A) rfl
        have y2 := fun A => cell_of_heap (o := 2) (keepAt' K6.out A) rfl
        have y3 := fun A => cell_of_heap (o := 3) (keepAt' K6.out A) rfl
        have y4 := fun A => cell_of_heap (o := 4) (keepAt' K6.out A) rfl
        have y5 := fun A => cell_of_heap (o := 5) (keepAt' K6.out A) rfl
        have y6 := fun A => cell_of_heap (o := 6) (keepAt' K6.out A) rfl
        have p0 : (w6.alloc (.cells #[.int .u8 xk, .bool xb, .int .i64 xi, .string xt] 25)).cell? ⟨w6.heap.size, 0, none⟩ = some (.int .u8 xk) := cell_of_heap (heap_alloc_new _ _) rfl
        have z1 : ((xn : Int) == 30) = false := by simp; omega
        have z2 : ((xn : Int) == 31) = false := by simp; omega
        obtain ⟨sf, esf⟩ : ∃ sf, sf = e.safe := ⟨_, rfl⟩
        rw [← esf] at HSF l3
        clear hsf hsr hmay esf l1 l2
        have hcases : (((xn : Int) != 0) = true ∧ sf = false) ∨ ((xn : Int) = 0 ∧ xk = 1) ∨ ((xn : Int) = 0 ∧ (xk == 1) = false ∧ xk = tk) := by
          by_cases h0 : xn = 0
          · right
            subst h0
            by_cases h1 : xk = 1
            · exact .inl ⟨rfl, h1⟩
            · refine .inr ⟨rfl, by simpa using h1, ?_⟩
              rcases l4 with h | h | h
              · exact absurd rfl h
              · exact absurd h h1
              · exact h
          · left
            refine ⟨by simpa using h0, ?_⟩
            cases sf
            · rfl
            · exact absurd ⟨rfl, h0⟩ l3
        clear l3 l4
        generalize (xn : Int) = X at *
        rcases hcases with ⟨q1, rfl⟩ | ⟨rfl, rfl⟩ | ⟨rfl, q1, rfl⟩
        all_goals
          go_wp2_with (go_at_call 16; refine (HSF.out _ (by rw [← HW7.out]; exact HB7.out)).mono ?_; rintro ev w8 ⟨rfl, hb8⟩; (try rw [← HW7.out] at hb8); have HB8 := Lib.hid (stepB HB7.out hb8); have K8 := Lib.hid (keepB K67.out hb8); clear hb8 p0 y0 y1 y2 y3 y4 y5 y6)
          try cases sf
          all_goals
            go_wp2_with fail
            refine (HKN.out _ HB8.out).mono ?_
            rintro ev w9 ⟨rfl, hb9⟩
            have HB9 := Lib.hid (stepB HB8.out hb9)
            have p0 := cell_of_heap (o := 0) (keepB K8.out hb9) rfl
            clear hb9
            go_wp2
            go_ret
            exact ⟨rfl, HB9.out⟩
end Go.Proofs.YtolikaginhjbhaaDoor
